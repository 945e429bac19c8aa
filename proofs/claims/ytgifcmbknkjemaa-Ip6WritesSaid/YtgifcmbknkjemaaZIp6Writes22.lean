/- What the law Ip6Writes rests on, part 22: contracts of the functions that it calls, and plain lemmas. No condition. -/
import Derived.Test.YtgifcmbknkjemaaZIp6Writes21
section
namespace Go.Proofs.Ytgifcmbknkjemaa.QQ
open Go.RowKit Go.Proofs.YtgifcmbknkjemaaW.PrintWords Go.Proofs.YtgifcmbknkjemaaW.PrintLast Go.Proofs.YtgifcmbknkjemaaW.PrintMore Go.Proofs.Ytgifcmbknkjemaa.Own
attribute [local go_sem] max2_int min2_int max_two min_two max_three min_three max_four min_four   -- for this text's walks alone
set_option linter.unusedVariables false
set_option linter.unusedSimpArgs false
mutual
def stockaderef04_May.j0 : Nat → Bool → Int → Int → Int → Int → Int → Int → Int → Int → Int → Bool → Int → Int → Bool → List Int → List Int → Option (Bool)
  | 0, _, _, _, _, _, _, _, _, _, _, _, _, _, _, _, _ => none
  | k + 1, x43, x280000, x280001, x280002, x280003, x280004, x280005, x280006, x280007, x280008, x280009, x280010, x280011, x280012, x280013, x280014 => if x43 = true then (some false) else (if (x280013.length : Int) > 0 then (if x280009 = true then (if (x280013.length : Int) = 1 then (if 0 < (x280013.length : Int) then (stockaderef04_May.j1 k (!((rd x280013 0) == 44)) x280000 x280001 x280002 x280003 x280004 x280005 x280006 x280007 x280008 x280009 x280010 x280011 x280012 x280013 x280014) else (none)) else (stockaderef04_May.j1 k (!false) x280000 x280001 x280002 x280003 x280004 x280005 x280006 x280007 x280008 x280009 x280010 x280011 x280012 x280013 x280014)) else (stockaderef04_May.j1 k (!false) x280000 x280001 x280002 x280003 x280004 x280005 x280006 x280007 x280008 x280009 x280010 x280011 x280012 x280013 x280014)) else (stockaderef04_May.j1 k false x280000 x280001 x280002 x280003 x280004 x280005 x280006 x280007 x280008 x280009 x280010 x280011 x280012 x280013 x280014))
def stockaderef04_May.j1 : Nat → Bool → Int → Int → Int → Int → Int → Int → Int → Int → Int → Bool → Int → Int → Bool → List Int → List Int → Option (Bool)
  | 0, _, _, _, _, _, _, _, _, _, _, _, _, _, _, _, _ => none
  | k + 1, x65, x280000, x280001, x280002, x280003, x280004, x280005, x280006, x280007, x280008, x280009, x280010, x280011, x280012, x280013, x280014 => if x65 = true then (some false) else (if x280009 = true then (if x280011 ≥ 0 then (if (Int.tmod x280011 8) = 0 then (if x280011 ≤ (wrap64 (65535 - (x280014.length : Int))) then (if x280012 = true then (if (¬ ((x280014.length : Int) % 8) = 0) then (some false) else (some true)) else (some (decide (x280011 > 0)))) else (some false)) else (some false)) else (some false)) else (some true))
end
def stockaderef04_May.f (k : Nat) (a0_0 : Int) (a0_1 : Int) (a0_2 : Int) (a0_3 : Int) (a0_4 : Int) (a0_5 : Int) (a0_6 : Int) (a0_7 : Int) (a0_8 : Int) (a0_9 : Bool) (a0_10 : Int) (a0_11 : Int) (a0_12 : Bool) (l0_13 : List Int) (l0_14 : List Int) : Option (Bool) := if a0_0 = 6 then (if a0_1 = 6 then (if a0_4 = 6 then (if a0_7 < 0 then (stockaderef04_May.j0 k true a0_0 a0_1 a0_2 a0_3 a0_4 a0_5 a0_6 a0_7 a0_8 a0_9 a0_10 a0_11 a0_12 l0_13 l0_14) else (if a0_7 > 255 then (stockaderef04_May.j0 k true a0_0 a0_1 a0_2 a0_3 a0_4 a0_5 a0_6 a0_7 a0_8 a0_9 a0_10 a0_11 a0_12 l0_13 l0_14) else (if a0_8 < 1 then (stockaderef04_May.j0 k true a0_0 a0_1 a0_2 a0_3 a0_4 a0_5 a0_6 a0_7 a0_8 a0_9 a0_10 a0_11 a0_12 l0_13 l0_14) else (if a0_8 > 255 then (stockaderef04_May.j0 k true a0_0 a0_1 a0_2 a0_3 a0_4 a0_5 a0_6 a0_7 a0_8 a0_9 a0_10 a0_11 a0_12 l0_13 l0_14) else (stockaderef04_May.j0 k (decide ((l0_14.length : Int) > 65000)) a0_0 a0_1 a0_2 a0_3 a0_4 a0_5 a0_6 a0_7 a0_8 a0_9 a0_10 a0_11 a0_12 l0_13 l0_14))))) else (stockaderef04_May.j0 k true a0_0 a0_1 a0_2 a0_3 a0_4 a0_5 a0_6 a0_7 a0_8 a0_9 a0_10 a0_11 a0_12 l0_13 l0_14)) else (stockaderef04_May.j0 k true a0_0 a0_1 a0_2 a0_3 a0_4 a0_5 a0_6 a0_7 a0_8 a0_9 a0_10 a0_11 a0_12 l0_13 l0_14)) else (stockaderef04_May.j0 k true a0_0 a0_1 a0_2 a0_3 a0_4 a0_5 a0_6 a0_7 a0_8 a0_9 a0_10 a0_11 a0_12 l0_13 l0_14)
theorem stockaderef04_May.mono_l : ∀ k, (∀ y0 y1 y2 y3 y4 y5 y6 y7 y8 y9 y10 y11 y12 y13 y14 y15, LeO (stockaderef04_May.j0 k y0 y1 y2 y3 y4 y5 y6 y7 y8 y9 y10 y11 y12 y13 y14 y15) (stockaderef04_May.j0 (k + 1) y0 y1 y2 y3 y4 y5 y6 y7 y8 y9 y10 y11 y12 y13 y14 y15)) ∧ (∀ y0 y1 y2 y3 y4 y5 y6 y7 y8 y9 y10 y11 y12 y13 y14 y15, LeO (stockaderef04_May.j1 k y0 y1 y2 y3 y4 y5 y6 y7 y8 y9 y10 y11 y12 y13 y14 y15) (stockaderef04_May.j1 (k + 1) y0 y1 y2 y3 y4 y5 y6 y7 y8 y9 y10 y11 y12 y13 y14 y15))
  | 0 => ⟨fun _ _ _ _ _ _ _ _ _ _ _ _ _ _ _ _ r h => by simp [stockaderef04_May.j0] at h, fun _ _ _ _ _ _ _ _ _ _ _ _ _ _ _ _ r h => by simp [stockaderef04_May.j1] at h⟩
  | k + 1 => by
    obtain ⟨ih0, ih1⟩ := stockaderef04_May.mono_l k
    refine ⟨?_, ?_⟩
    · intro y0 y1 y2 y3 y4 y5 y6 y7 y8 y9 y10 y11 y12 y13 y14 y15
      unfold stockaderef04_May.j0
      repeat' first
      | (with_reducible exact ih0 _ _ _ _ _ _ _ _ _ _ _ _ _ _ _ _)
      | (with_reducible exact ih1 _ _ _ _ _ _ _ _ _ _ _ _ _ _ _ _)
      | (with_reducible exact LeO.refl _)
      | (with_reducible exact LeO.none _)
      | (with_reducible refine LeO.ite ?_ ?_)
      | (with_reducible refine LeO.bind ?_ (fun _ => ?_))
      | exact ih0 _ _ _ _ _ _ _ _ _ _ _ _ _ _ _ _
      | exact ih1 _ _ _ _ _ _ _ _ _ _ _ _ _ _ _ _
      | exact LeO.none _
      | refine LeO.ite ?_ ?_
      | refine LeO.bind ?_ (fun _ => ?_)
    · intro y0 y1 y2 y3 y4 y5 y6 y7 y8 y9 y10 y11 y12 y13 y14 y15
      unfold stockaderef04_May.j1
      repeat' first
      | (with_reducible exact ih0 _ _ _ _ _ _ _ _ _ _ _ _ _ _ _ _)
      | (with_reducible exact ih1 _ _ _ _ _ _ _ _ _ _ _ _ _ _ _ _)
      | (with_reducible exact LeO.refl _)
      | (with_reducible exact LeO.none _)
      | (with_reducible refine LeO.ite ?_ ?_)
      | (with_reducible refine LeO.bind ?_ (fun _ => ?_))
      | exact ih0 _ _ _ _ _ _ _ _ _ _ _ _ _ _ _ _
      | exact ih1 _ _ _ _ _ _ _ _ _ _ _ _ _ _ _ _
      | exact LeO.none _
      | refine LeO.ite ?_ ?_
      | refine LeO.bind ?_ (fun _ => ?_)
theorem stockaderef04_May.mono : ∀ a0 a1 a2 a3 a4 a5 a6 a7 a8 a9 a10 a11 a12 a13 a14 k, LeO (stockaderef04_May.f k a0 a1 a2 a3 a4 a5 a6 a7 a8 a9 a10 a11 a12 a13 a14) (stockaderef04_May.f (k + 1) a0 a1 a2 a3 a4 a5 a6 a7 a8 a9 a10 a11 a12 a13 a14) := by
  intro a0 a1 a2 a3 a4 a5 a6 a7 a8 a9 a10 a11 a12 a13 a14 k
  obtain ⟨ih0, ih1⟩ := stockaderef04_May.mono_l k
  unfold stockaderef04_May.f
  repeat' first
      | (with_reducible exact ih0 _ _ _ _ _ _ _ _ _ _ _ _ _ _ _ _)
      | (with_reducible exact ih1 _ _ _ _ _ _ _ _ _ _ _ _ _ _ _ _)
      | (with_reducible exact LeO.refl _)
      | (with_reducible exact LeO.none _)
      | (with_reducible refine LeO.ite ?_ ?_)
      | (with_reducible refine LeO.bind ?_ (fun _ => ?_))
      | exact ih0 _ _ _ _ _ _ _ _ _ _ _ _ _ _ _ _
      | exact ih1 _ _ _ _ _ _ _ _ _ _ _ _ _ _ _ _
      | exact LeO.none _
      | refine LeO.ite ?_ ?_
      | refine LeO.bind ?_ (fun _ => ?_)
set_option maxHeartbeats 8000000 in
set_option maxRecDepth 100000 in
theorem stockaderef04_May.calls (k : Nat) (a0_0 : Int) (a0_1 : Int) (a0_2 : Int) (a0_3 : Int) (a0_4 : Int) (a0_5 : Int) (a0_6 : Int) (a0_7 : Int) (a0_8 : Int) (a0_9 : Bool) (a0_10 : Int) (a0_11 : Int) (a0_12 : Bool) (A0_13 : Option Addr) (c0_13 : Nat) (l0_13 : List Int) (A0_14 : Option Addr) (c0_14 : Nat) (l0_14 : List Int) (r : Bool) (w : World) (hr0_13 : Kd.C (Kd.int .i64) w A0_13 l0_13.length l0_13) (hc0_13 : l0_13.length ≤ c0_13) (hr0_14 : Kd.C (Kd.int .u8) w A0_14 l0_14.length l0_14) (hc0_14 : l0_14.length ≤ c0_14) (h : stockaderef04_May.f k a0_0 a0_1 a0_2 a0_3 a0_4 a0_5 a0_6 a0_7 a0_8 a0_9 a0_10 a0_11 a0_12 l0_13 l0_14 = some r) :
    Calls Try.prog 122 #[.agg #[.int .i64 a0_0, .int .i64 a0_1, .int .u64 a0_2, .int .u64 a0_3, .int .i64 a0_4, .int .u64 a0_5, .int .u64 a0_6, .int .i64 a0_7, .int .i64 a0_8, .bool a0_9, .int .u32 a0_10, .int .i64 a0_11, .bool a0_12, .slice A0_13 l0_13.length c0_13, .slice A0_14 l0_14.length c0_14]] w fun e w' => e = .returned (.bool r) ∧ Below w.heap.size w w' := by
  have hu55 := Try.underlying55
  have HR0_13 := Aside0.mk hr0_13
  have HC0_13 := Aside0.mk hc0_13
  clear hr0_13 hc0_13
  have HR0_14 := Aside0.mk hr0_14
  have HC0_14 := Aside0.mk hc0_14
  clear hr0_14 hc0_14
  have HB := Aside0.mk (Below.refl w.heap.size w)
  have H : (if a0_0 = 6 then (if a0_1 = 6 then (if a0_4 = 6 then (if a0_7 < 0 then (stockaderef04_May.j0 k true a0_0 a0_1 a0_2 a0_3 a0_4 a0_5 a0_6 a0_7 a0_8 a0_9 a0_10 a0_11 a0_12 l0_13 l0_14) else (if a0_7 > 255 then (stockaderef04_May.j0 k true a0_0 a0_1 a0_2 a0_3 a0_4 a0_5 a0_6 a0_7 a0_8 a0_9 a0_10 a0_11 a0_12 l0_13 l0_14) else (if a0_8 < 1 then (stockaderef04_May.j0 k true a0_0 a0_1 a0_2 a0_3 a0_4 a0_5 a0_6 a0_7 a0_8 a0_9 a0_10 a0_11 a0_12 l0_13 l0_14) else (if a0_8 > 255 then (stockaderef04_May.j0 k true a0_0 a0_1 a0_2 a0_3 a0_4 a0_5 a0_6 a0_7 a0_8 a0_9 a0_10 a0_11 a0_12 l0_13 l0_14) else (stockaderef04_May.j0 k (decide ((l0_14.length : Int) > 65000)) a0_0 a0_1 a0_2 a0_3 a0_4 a0_5 a0_6 a0_7 a0_8 a0_9 a0_10 a0_11 a0_12 l0_13 l0_14))))) else (stockaderef04_May.j0 k true a0_0 a0_1 a0_2 a0_3 a0_4 a0_5 a0_6 a0_7 a0_8 a0_9 a0_10 a0_11 a0_12 l0_13 l0_14)) else (stockaderef04_May.j0 k true a0_0 a0_1 a0_2 a0_3 a0_4 a0_5 a0_6 a0_7 a0_8 a0_9 a0_10 a0_11 a0_12 l0_13 l0_14)) else (stockaderef04_May.j0 k true a0_0 a0_1 a0_2 a0_3 a0_4 a0_5 a0_6 a0_7 a0_8 a0_9 a0_10 a0_11 a0_12 l0_13 l0_14)) = some r := h
  clear h
  have HC2 := Aside0.mk H
  clear H
  go_enter Try.func122, Try.ntmps122
  go_upto_region 1 with (first | ((with_reducible refine gate_dst (N := 1) rfl ?_); (try (refine gate_guard (by rfl) ?_; dsimp only)); refine box_event ?hg (N := 1) ?hd (cs := #[.int .i64 a0_0, .int .i64 a0_1, .int .u64 a0_2, .int .u64 a0_3, .int .i64 a0_4, .int .u64 a0_5, .int .u64 a0_6, .int .i64 a0_7, .int .i64 a0_8, .bool a0_9, .int .u32 a0_10, .int .i64 a0_11, .bool a0_12, .slice A0_13 l0_13.length c0_13, .slice A0_14 l0_14.length c0_14]) (t := 55) ?hr ?_; (case hd => rfl); (case hg => rfl); (case hr => first | (go_simp; done) | (go_simp; rfl)); intro gb279 hg w3 hbox hb; have n0_ := Aside0.mk (below_step (by repeat (first | (with_reducible first | exact HB.out | apply below_alloc | apply pw_below_drewN | apply below_drew1) | exact HB.out)) hb); have n1_ := Aside0.mk (hbox); have n2_ := Aside0.mk ((by rw [hg]; exact (below_size (by repeat (first | (with_reducible first | exact HB.out | apply below_alloc | apply pw_below_drewN | apply below_drew1) | exact HB.out))) : w.heap.size ≤ gb279)); have n3_ := Aside0.mk ((by rw [hg]; exact (below_size (by repeat (first | (with_reducible first | exact HB.out | apply below_alloc | apply pw_below_drewN | apply below_drew1) | exact HB.out))) : w.heap.size ≤ gb279)); clear HB; have HB := n0_; have BK279 := n1_; have GW279 := n2_; have GE279 := n3_; clear n0_ n1_ n2_ n3_; clear hb hbox hg))
  (try simp only [Act.put, List.setIfInBounds_toArray, List.set_cons_zero, List.set_cons_succ])
  go_cut [43] (fun v43 wc => ∃ (kq : Nat) (x43_1 : Bool), v43 = .bool x43_1 ∧ Aside0 (stockaderef04_May.j0 kq x43_1 a0_0 a0_1 a0_2 a0_3 a0_4 a0_5 a0_6 a0_7 a0_8 a0_9 a0_10 a0_11 a0_12 l0_13 l0_14 = some r) ∧ Aside0 (kq ≤ k) ∧ Aside0 (wc.heap[gb279]? = some (.cells #[.int .i64 a0_0, .int .i64 a0_1, .int .u64 a0_2, .int .u64 a0_3, .int .i64 a0_4, .int .u64 a0_5, .int .u64 a0_6, .int .i64 a0_7, .int .i64 a0_8, .bool a0_9, .int .u32 a0_10, .int .i64 a0_11, .bool a0_12, (.slice A0_13 l0_13.length c0_13), (.slice A0_14 l0_14.length c0_14)] 55 (0, 0))) ∧ Aside0 (Below w.heap.size w wc))
  case first =>
    have H := HC2.out
    clear HC2
    by_cases c4 : a0_0 = 6
    · rw [if_pos c4] at H
      have c4b0 : (a0_0 == 6) = true := beq_iff_eq.mpr c4
      have c4b1 : (a0_0 != 6) = false := bne_eq_false_iff_eq.mpr c4
      clear c4
      (first | rw [c4b0] | (simp only [i64_w, i32_w]; rw [c4b0]) | skip)
      by_cases c5 : a0_1 = 6
      · rw [if_pos c5] at H
        have c5b0 : (a0_1 == 6) = true := beq_iff_eq.mpr c5
        have c5b1 : (a0_1 != 6) = false := bne_eq_false_iff_eq.mpr c5
        clear c5
        by_cases c6 : a0_4 = 6
        · rw [if_pos c6] at H
          have c6b0 : (a0_4 == 6) = true := beq_iff_eq.mpr c6
          have c6b1 : (a0_4 != 6) = false := bne_eq_false_iff_eq.mpr c6
          clear c6
          by_cases c7 : a0_7 < 0
          · rw [if_pos c7] at H
            have c7b0 : decide (a0_7 < 0) = true := decide_eq_true c7
            clear c7
            have H' := Aside0.mk H
            clear H
            have hcz8_0 : w3.cell? ⟨gb279, 0, none⟩ = some (.int .i64 a0_0) := (blk_cell BK279.out 0).trans rfl
            have hcz8_1 : w3.cell? ⟨gb279, 1, none⟩ = some (.int .i64 a0_1) := (blk_cell BK279.out 1).trans rfl
            have hcz8_2 : w3.cell? ⟨gb279, 2, none⟩ = some (.int .u64 a0_2) := (blk_cell BK279.out 2).trans rfl
            have hcz8_3 : w3.cell? ⟨gb279, 3, none⟩ = some (.int .u64 a0_3) := (blk_cell BK279.out 3).trans rfl
            have hcz8_4 : w3.cell? ⟨gb279, 4, none⟩ = some (.int .i64 a0_4) := (blk_cell BK279.out 4).trans rfl
            have hcz8_5 : w3.cell? ⟨gb279, 5, none⟩ = some (.int .u64 a0_5) := (blk_cell BK279.out 5).trans rfl
            have hcz8_6 : w3.cell? ⟨gb279, 6, none⟩ = some (.int .u64 a0_6) := (blk_cell BK279.out 6).trans rfl
            have hcz8_7 : w3.cell? ⟨gb279, 7, none⟩ = some (.int .i64 a0_7) := (blk_cell BK279.out 7).trans rfl
            have hcz8_8 : w3.cell? ⟨gb279, 8, none⟩ = some (.int .i64 a0_8) := (blk_cell BK279.out 8).trans rfl
            have hcz8_9 : w3.cell? ⟨gb279, 9, none⟩ = some (.bool a0_9) := (blk_cell BK279.out 9).trans rfl
            have hcz8_10 : w3.cell? ⟨gb279, 10, none⟩ = some (.int .u32 a0_10) := (blk_cell BK279.out 10).trans rfl
            have hcz8_11 : w3.cell? ⟨gb279, 11, none⟩ = some (.int .i64 a0_11) := (blk_cell BK279.out 11).trans rfl
            have hcz8_12 : w3.cell? ⟨gb279, 12, none⟩ = some (.bool a0_12) := (blk_cell BK279.out 12).trans rfl
            have hcz8_13 : w3.cell? ⟨gb279, 13, none⟩ = some (.slice A0_13 l0_13.length c0_13) := (blk_cell BK279.out 13).trans rfl
            have hcz8_14 : w3.cell? ⟨gb279, 14, none⟩ = some (.slice A0_14 l0_14.length c0_14) := (blk_cell BK279.out 14).trans rfl
            have hfz8_0 := blk_frozen BK279.out 0
            have hfz8_1 := blk_frozen BK279.out 1
            have hfz8_2 := blk_frozen BK279.out 2
            have hfz8_3 := blk_frozen BK279.out 3
            have hfz8_4 := blk_frozen BK279.out 4
            have hfz8_5 := blk_frozen BK279.out 5
            have hfz8_6 := blk_frozen BK279.out 6
            have hfz8_7 := blk_frozen BK279.out 7
            have hfz8_8 := blk_frozen BK279.out 8
            have hfz8_9 := blk_frozen BK279.out 9
            have hfz8_10 := blk_frozen BK279.out 10
            have hfz8_11 := blk_frozen BK279.out 11
            have hfz8_12 := blk_frozen BK279.out 12
            have hfz8_13 := blk_frozen BK279.out 13
            have hfz8_14 := blk_frozen BK279.out 14
            go_wp2
            go_meet
            case rel => exact ⟨_, (true), (by first | rfl | (simp; done) | (simp [*]; done)), H', ⟨by first | omega | exact Nat.le_refl _⟩, ⟨by (with_reducible repeat (first | refine blk_drewN ?_ _ | refine blk_drew ?_ | refine blk_alloc ?_ _)); exact BK279.out⟩, ⟨by repeat (first | (with_reducible first | exact HB.out | apply below_alloc | apply pw_below_drewN | apply below_drew1 | refine below_set ?_ GE279.out) | exact HB.out)⟩⟩
          · rw [if_neg c7] at H
            have c7b0 : decide (a0_7 < 0) = false := decide_eq_false c7
            clear c7
            by_cases c9 : a0_7 > 255
            · rw [if_pos c9] at H
              have c9b0 : decide (255 < a0_7) = true := decide_eq_true c9
              clear c9
              have H' := Aside0.mk H
              clear H
              have hcz10_0 : w3.cell? ⟨gb279, 0, none⟩ = some (.int .i64 a0_0) := (blk_cell BK279.out 0).trans rfl
              have hcz10_1 : w3.cell? ⟨gb279, 1, none⟩ = some (.int .i64 a0_1) := (blk_cell BK279.out 1).trans rfl
              have hcz10_2 : w3.cell? ⟨gb279, 2, none⟩ = some (.int .u64 a0_2) := (blk_cell BK279.out 2).trans rfl
              have hcz10_3 : w3.cell? ⟨gb279, 3, none⟩ = some (.int .u64 a0_3) := (blk_cell BK279.out 3).trans rfl
              have hcz10_4 : w3.cell? ⟨gb279, 4, none⟩ = some (.int .i64 a0_4) := (blk_cell BK279.out 4).trans rfl
              have hcz10_5 : w3.cell? ⟨gb279, 5, none⟩ = some (.int .u64 a0_5) := (blk_cell BK279.out 5).trans rfl
              have hcz10_6 : w3.cell? ⟨gb279, 6, none⟩ = some (.int .u64 a0_6) := (blk_cell BK279.out 6).trans rfl
              have hcz10_7 : w3.cell? ⟨gb279, 7, none⟩ = some (.int .i64 a0_7) := (blk_cell BK279.out 7).trans rfl
              have hcz10_8 : w3.cell? ⟨gb279, 8, none⟩ = some (.int .i64 a0_8) := (blk_cell BK279.out 8).trans rfl
              have hcz10_9 : w3.cell? ⟨gb279, 9, none⟩ = some (.bool a0_9) := (blk_cell BK279.out 9).trans rfl
              have hcz10_10 : w3.cell? ⟨gb279, 10, none⟩ = some (.int .u32 a0_10) := (blk_cell BK279.out 10).trans rfl
              have hcz10_11 : w3.cell? ⟨gb279, 11, none⟩ = some (.int .i64 a0_11) := (blk_cell BK279.out 11).trans rfl
              have hcz10_12 : w3.cell? ⟨gb279, 12, none⟩ = some (.bool a0_12) := (blk_cell BK279.out 12).trans rfl
              have hcz10_13 : w3.cell? ⟨gb279, 13, none⟩ = some (.slice A0_13 l0_13.length c0_13) := (blk_cell BK279.out 13).trans rfl
              have hcz10_14 : w3.cell? ⟨gb279, 14, none⟩ = some (.slice A0_14 l0_14.length c0_14) := (blk_cell BK279.out 14).trans rfl
              have hfz10_0 := blk_frozen BK279.out 0
              have hfz10_1 := blk_frozen BK279.out 1
              have hfz10_2 := blk_frozen BK279.out 2
              have hfz10_3 := blk_frozen BK279.out 3
              have hfz10_4 := blk_frozen BK279.out 4
              have hfz10_5 := blk_frozen BK279.out 5
              have hfz10_6 := blk_frozen BK279.out 6
              have hfz10_7 := blk_frozen BK279.out 7
              have hfz10_8 := blk_frozen BK279.out 8
              have hfz10_9 := blk_frozen BK279.out 9
              have hfz10_10 := blk_frozen BK279.out 10
              have hfz10_11 := blk_frozen BK279.out 11
              have hfz10_12 := blk_frozen BK279.out 12
              have hfz10_13 := blk_frozen BK279.out 13
              have hfz10_14 := blk_frozen BK279.out 14
              go_wp2
              go_meet
              case rel => exact ⟨_, (true), (by first | rfl | (simp; done) | (simp [*]; done)), H', ⟨by first | omega | exact Nat.le_refl _⟩, ⟨by (with_reducible repeat (first | refine blk_drewN ?_ _ | refine blk_drew ?_ | refine blk_alloc ?_ _)); exact BK279.out⟩, ⟨by repeat (first | (with_reducible first | exact HB.out | apply below_alloc | apply pw_below_drewN | apply below_drew1 | refine below_set ?_ GE279.out) | exact HB.out)⟩⟩
            · rw [if_neg c9] at H
              have c9b0 : decide (255 < a0_7) = false := decide_eq_false c9
              clear c9
              by_cases c11 : a0_8 < 1
              · rw [if_pos c11] at H
                have c11b0 : decide (a0_8 < 1) = true := decide_eq_true c11
                clear c11
                have H' := Aside0.mk H
                clear H
                have hcz12_0 : w3.cell? ⟨gb279, 0, none⟩ = some (.int .i64 a0_0) := (blk_cell BK279.out 0).trans rfl
                have hcz12_1 : w3.cell? ⟨gb279, 1, none⟩ = some (.int .i64 a0_1) := (blk_cell BK279.out 1).trans rfl
                have hcz12_2 : w3.cell? ⟨gb279, 2, none⟩ = some (.int .u64 a0_2) := (blk_cell BK279.out 2).trans rfl
                have hcz12_3 : w3.cell? ⟨gb279, 3, none⟩ = some (.int .u64 a0_3) := (blk_cell BK279.out 3).trans rfl
                have hcz12_4 : w3.cell? ⟨gb279, 4, none⟩ = some (.int .i64 a0_4) := (blk_cell BK279.out 4).trans rfl
                have hcz12_5 : w3.cell? ⟨gb279, 5, none⟩ = some (.int .u64 a0_5) := (blk_cell BK279.out 5).trans rfl
                have hcz12_6 : w3.cell? ⟨gb279, 6, none⟩ = some (.int .u64 a0_6) := (blk_cell BK279.out 6).trans rfl
                have hcz12_7 : w3.cell? ⟨gb279, 7, none⟩ = some (.int .i64 a0_7) := (blk_cell BK279.out 7).trans rfl
                have hcz12_8 : w3.cell? ⟨gb279, 8, none⟩ = some (.int .i64 a0_8) := (blk_cell BK279.out 8).trans rfl
                have hcz12_9 : w3.cell? ⟨gb279, 9, none⟩ = some (.bool a0_9) := (blk_cell BK279.out 9).trans rfl
                have hcz12_10 : w3.cell? ⟨gb279, 10, none⟩ = some (.int .u32 a0_10) := (blk_cell BK279.out 10).trans rfl
                have hcz12_11 : w3.cell? ⟨gb279, 11, none⟩ = some (.int .i64 a0_11) := (blk_cell BK279.out 11).trans rfl
                have hcz12_12 : w3.cell? ⟨gb279, 12, none⟩ = some (.bool a0_12) := (blk_cell BK279.out 12).trans rfl
                have hcz12_13 : w3.cell? ⟨gb279, 13, none⟩ = some (.slice A0_13 l0_13.length c0_13) := (blk_cell BK279.out 13).trans rfl
                have hcz12_14 : w3.cell? ⟨gb279, 14, none⟩ = some (.slice A0_14 l0_14.length c0_14) := (blk_cell BK279.out 14).trans rfl
                have hfz12_0 := blk_frozen BK279.out 0
                have hfz12_1 := blk_frozen BK279.out 1
                have hfz12_2 := blk_frozen BK279.out 2
                have hfz12_3 := blk_frozen BK279.out 3
                have hfz12_4 := blk_frozen BK279.out 4
                have hfz12_5 := blk_frozen BK279.out 5
                have hfz12_6 := blk_frozen BK279.out 6
                have hfz12_7 := blk_frozen BK279.out 7
                have hfz12_8 := blk_frozen BK279.out 8
                have hfz12_9 := blk_frozen BK279.out 9
                have hfz12_10 := blk_frozen BK279.out 10
                have hfz12_11 := blk_frozen BK279.out 11
                have hfz12_12 := blk_frozen BK279.out 12
                have hfz12_13 := blk_frozen BK279.out 13
                have hfz12_14 := blk_frozen BK279.out 14
                go_wp2
                go_meet
                case rel => exact ⟨_, (true), (by first | rfl | (simp; done) | (simp [*]; done)), H', ⟨by first | omega | exact Nat.le_refl _⟩, ⟨by (with_reducible repeat (first | refine blk_drewN ?_ _ | refine blk_drew ?_ | refine blk_alloc ?_ _)); exact BK279.out⟩, ⟨by repeat (first | (with_reducible first | exact HB.out | apply below_alloc | apply pw_below_drewN | apply below_drew1 | refine below_set ?_ GE279.out) | exact HB.out)⟩⟩
              · rw [if_neg c11] at H
                have c11b0 : decide (a0_8 < 1) = false := decide_eq_false c11
                clear c11
                by_cases c13 : a0_8 > 255
                · rw [if_pos c13] at H
                  have c13b0 : decide (255 < a0_8) = true := decide_eq_true c13
                  clear c13
                  have H' := Aside0.mk H
                  clear H
                  have hcz14_0 : w3.cell? ⟨gb279, 0, none⟩ = some (.int .i64 a0_0) := (blk_cell BK279.out 0).trans rfl
                  have hcz14_1 : w3.cell? ⟨gb279, 1, none⟩ = some (.int .i64 a0_1) := (blk_cell BK279.out 1).trans rfl
                  have hcz14_2 : w3.cell? ⟨gb279, 2, none⟩ = some (.int .u64 a0_2) := (blk_cell BK279.out 2).trans rfl
                  have hcz14_3 : w3.cell? ⟨gb279, 3, none⟩ = some (.int .u64 a0_3) := (blk_cell BK279.out 3).trans rfl
                  have hcz14_4 : w3.cell? ⟨gb279, 4, none⟩ = some (.int .i64 a0_4) := (blk_cell BK279.out 4).trans rfl
                  have hcz14_5 : w3.cell? ⟨gb279, 5, none⟩ = some (.int .u64 a0_5) := (blk_cell BK279.out 5).trans rfl
                  have hcz14_6 : w3.cell? ⟨gb279, 6, none⟩ = some (.int .u64 a0_6) := (blk_cell BK279.out 6).trans rfl
                  have hcz14_7 : w3.cell? ⟨gb279, 7, none⟩ = some (.int .i64 a0_7) := (blk_cell BK279.out 7).trans rfl
                  have hcz14_8 : w3.cell? ⟨gb279, 8, none⟩ = some (.int .i64 a0_8) := (blk_cell BK279.out 8).trans rfl
                  have hcz14_9 : w3.cell? ⟨gb279, 9, none⟩ = some (.bool a0_9) := (blk_cell BK279.out 9).trans rfl
                  have hcz14_10 : w3.cell? ⟨gb279, 10, none⟩ = some (.int .u32 a0_10) := (blk_cell BK279.out 10).trans rfl
                  have hcz14_11 : w3.cell? ⟨gb279, 11, none⟩ = some (.int .i64 a0_11) := (blk_cell BK279.out 11).trans rfl
                  have hcz14_12 : w3.cell? ⟨gb279, 12, none⟩ = some (.bool a0_12) := (blk_cell BK279.out 12).trans rfl
                  have hcz14_13 : w3.cell? ⟨gb279, 13, none⟩ = some (.slice A0_13 l0_13.length c0_13) := (blk_cell BK279.out 13).trans rfl
                  have hcz14_14 : w3.cell? ⟨gb279, 14, none⟩ = some (.slice A0_14 l0_14.length c0_14) := (blk_cell BK279.out 14).trans rfl
                  have hfz14_0 := blk_frozen BK279.out 0
                  have hfz14_1 := blk_frozen BK279.out 1
                  have hfz14_2 := blk_frozen BK279.out 2
                  have hfz14_3 := blk_frozen BK279.out 3
                  have hfz14_4 := blk_frozen BK279.out 4
                  have hfz14_5 := blk_frozen BK279.out 5
                  have hfz14_6 := blk_frozen BK279.out 6
                  have hfz14_7 := blk_frozen BK279.out 7
                  have hfz14_8 := blk_frozen BK279.out 8
                  have hfz14_9 := blk_frozen BK279.out 9
                  have hfz14_10 := blk_frozen BK279.out 10
                  have hfz14_11 := blk_frozen BK279.out 11
                  have hfz14_12 := blk_frozen BK279.out 12
                  have hfz14_13 := blk_frozen BK279.out 13
                  have hfz14_14 := blk_frozen BK279.out 14
                  go_wp2
                  go_meet
                  case rel => exact ⟨_, (true), (by first | rfl | (simp; done) | (simp [*]; done)), H', ⟨by first | omega | exact Nat.le_refl _⟩, ⟨by (with_reducible repeat (first | refine blk_drewN ?_ _ | refine blk_drew ?_ | refine blk_alloc ?_ _)); exact BK279.out⟩, ⟨by repeat (first | (with_reducible first | exact HB.out | apply below_alloc | apply pw_below_drewN | apply below_drew1 | refine below_set ?_ GE279.out) | exact HB.out)⟩⟩
                · rw [if_neg c13] at H
                  have c13b0 : decide (255 < a0_8) = false := decide_eq_false c13
                  clear c13
                  have H' := Aside0.mk H
                  clear H
                  have hcz15_0 : w3.cell? ⟨gb279, 0, none⟩ = some (.int .i64 a0_0) := (blk_cell BK279.out 0).trans rfl
                  have hcz15_1 : w3.cell? ⟨gb279, 1, none⟩ = some (.int .i64 a0_1) := (blk_cell BK279.out 1).trans rfl
                  have hcz15_2 : w3.cell? ⟨gb279, 2, none⟩ = some (.int .u64 a0_2) := (blk_cell BK279.out 2).trans rfl
                  have hcz15_3 : w3.cell? ⟨gb279, 3, none⟩ = some (.int .u64 a0_3) := (blk_cell BK279.out 3).trans rfl
                  have hcz15_4 : w3.cell? ⟨gb279, 4, none⟩ = some (.int .i64 a0_4) := (blk_cell BK279.out 4).trans rfl
                  have hcz15_5 : w3.cell? ⟨gb279, 5, none⟩ = some (.int .u64 a0_5) := (blk_cell BK279.out 5).trans rfl
                  have hcz15_6 : w3.cell? ⟨gb279, 6, none⟩ = some (.int .u64 a0_6) := (blk_cell BK279.out 6).trans rfl
                  have hcz15_7 : w3.cell? ⟨gb279, 7, none⟩ = some (.int .i64 a0_7) := (blk_cell BK279.out 7).trans rfl
                  have hcz15_8 : w3.cell? ⟨gb279, 8, none⟩ = some (.int .i64 a0_8) := (blk_cell BK279.out 8).trans rfl
                  have hcz15_9 : w3.cell? ⟨gb279, 9, none⟩ = some (.bool a0_9) := (blk_cell BK279.out 9).trans rfl
                  have hcz15_10 : w3.cell? ⟨gb279, 10, none⟩ = some (.int .u32 a0_10) := (blk_cell BK279.out 10).trans rfl
                  have hcz15_11 : w3.cell? ⟨gb279, 11, none⟩ = some (.int .i64 a0_11) := (blk_cell BK279.out 11).trans rfl
                  have hcz15_12 : w3.cell? ⟨gb279, 12, none⟩ = some (.bool a0_12) := (blk_cell BK279.out 12).trans rfl
                  have hcz15_13 : w3.cell? ⟨gb279, 13, none⟩ = some (.slice A0_13 l0_13.length c0_13) := (blk_cell BK279.out 13).trans rfl
                  have hcz15_14 : w3.cell? ⟨gb279, 14, none⟩ = some (.slice A0_14 l0_14.length c0_14) := (blk_cell BK279.out 14).trans rfl
                  have hfz15_0 := blk_frozen BK279.out 0
                  have hfz15_1 := blk_frozen BK279.out 1
                  have hfz15_2 := blk_frozen BK279.out 2
                  have hfz15_3 := blk_frozen BK279.out 3
                  have hfz15_4 := blk_frozen BK279.out 4
                  have hfz15_5 := blk_frozen BK279.out 5
                  have hfz15_6 := blk_frozen BK279.out 6
                  have hfz15_7 := blk_frozen BK279.out 7
                  have hfz15_8 := blk_frozen BK279.out 8
                  have hfz15_9 := blk_frozen BK279.out 9
                  have hfz15_10 := blk_frozen BK279.out 10
                  have hfz15_11 := blk_frozen BK279.out 11
                  have hfz15_12 := blk_frozen BK279.out 12
                  have hfz15_13 := blk_frozen BK279.out 13
                  have hfz15_14 := blk_frozen BK279.out 14
                  go_wp2
                  go_meet
                  case rel => exact ⟨_, (decide ((l0_14.length : Int) > 65000)), (by first | rfl | (simp; done) | (simp [*]; done)), H', ⟨by first | omega | exact Nat.le_refl _⟩, ⟨by (with_reducible repeat (first | refine blk_drewN ?_ _ | refine blk_drew ?_ | refine blk_alloc ?_ _)); exact BK279.out⟩, ⟨by repeat (first | (with_reducible first | exact HB.out | apply below_alloc | apply pw_below_drewN | apply below_drew1 | refine below_set ?_ GE279.out) | exact HB.out)⟩⟩
        · rw [if_neg c6] at H
          have c6b0 : (a0_4 == 6) = false := beq_eq_false_iff_ne.mpr c6
          have c6b1 : (a0_4 != 6) = true := bne_iff_ne.mpr c6
          have H' := Aside0.mk H
          clear H
          have hcz16_0 : w3.cell? ⟨gb279, 0, none⟩ = some (.int .i64 a0_0) := (blk_cell BK279.out 0).trans rfl
          have hcz16_1 : w3.cell? ⟨gb279, 1, none⟩ = some (.int .i64 a0_1) := (blk_cell BK279.out 1).trans rfl
          have hcz16_2 : w3.cell? ⟨gb279, 2, none⟩ = some (.int .u64 a0_2) := (blk_cell BK279.out 2).trans rfl
          have hcz16_3 : w3.cell? ⟨gb279, 3, none⟩ = some (.int .u64 a0_3) := (blk_cell BK279.out 3).trans rfl
          have hcz16_4 : w3.cell? ⟨gb279, 4, none⟩ = some (.int .i64 a0_4) := (blk_cell BK279.out 4).trans rfl
          have hcz16_5 : w3.cell? ⟨gb279, 5, none⟩ = some (.int .u64 a0_5) := (blk_cell BK279.out 5).trans rfl
          have hcz16_6 : w3.cell? ⟨gb279, 6, none⟩ = some (.int .u64 a0_6) := (blk_cell BK279.out 6).trans rfl
          have hcz16_7 : w3.cell? ⟨gb279, 7, none⟩ = some (.int .i64 a0_7) := (blk_cell BK279.out 7).trans rfl
          have hcz16_8 : w3.cell? ⟨gb279, 8, none⟩ = some (.int .i64 a0_8) := (blk_cell BK279.out 8).trans rfl
          have hcz16_9 : w3.cell? ⟨gb279, 9, none⟩ = some (.bool a0_9) := (blk_cell BK279.out 9).trans rfl
          have hcz16_10 : w3.cell? ⟨gb279, 10, none⟩ = some (.int .u32 a0_10) := (blk_cell BK279.out 10).trans rfl
          have hcz16_11 : w3.cell? ⟨gb279, 11, none⟩ = some (.int .i64 a0_11) := (blk_cell BK279.out 11).trans rfl
          have hcz16_12 : w3.cell? ⟨gb279, 12, none⟩ = some (.bool a0_12) := (blk_cell BK279.out 12).trans rfl
          have hcz16_13 : w3.cell? ⟨gb279, 13, none⟩ = some (.slice A0_13 l0_13.length c0_13) := (blk_cell BK279.out 13).trans rfl
          have hcz16_14 : w3.cell? ⟨gb279, 14, none⟩ = some (.slice A0_14 l0_14.length c0_14) := (blk_cell BK279.out 14).trans rfl
          have hfz16_0 := blk_frozen BK279.out 0
          have hfz16_1 := blk_frozen BK279.out 1
          have hfz16_2 := blk_frozen BK279.out 2
          have hfz16_3 := blk_frozen BK279.out 3
          have hfz16_4 := blk_frozen BK279.out 4
          have hfz16_5 := blk_frozen BK279.out 5
          have hfz16_6 := blk_frozen BK279.out 6
          have hfz16_7 := blk_frozen BK279.out 7
          have hfz16_8 := blk_frozen BK279.out 8
          have hfz16_9 := blk_frozen BK279.out 9
          have hfz16_10 := blk_frozen BK279.out 10
          have hfz16_11 := blk_frozen BK279.out 11
          have hfz16_12 := blk_frozen BK279.out 12
          have hfz16_13 := blk_frozen BK279.out 13
          have hfz16_14 := blk_frozen BK279.out 14
          go_wp2
          go_meet
          case rel => exact ⟨_, (true), (by first | rfl | (simp; done) | (simp [*]; done)), H', ⟨by first | omega | exact Nat.le_refl _⟩, ⟨by (with_reducible repeat (first | refine blk_drewN ?_ _ | refine blk_drew ?_ | refine blk_alloc ?_ _)); exact BK279.out⟩, ⟨by repeat (first | (with_reducible first | exact HB.out | apply below_alloc | apply pw_below_drewN | apply below_drew1 | refine below_set ?_ GE279.out) | exact HB.out)⟩⟩
      · rw [if_neg c5] at H
        have c5b0 : (a0_1 == 6) = false := beq_eq_false_iff_ne.mpr c5
        have c5b1 : (a0_1 != 6) = true := bne_iff_ne.mpr c5
        have H' := Aside0.mk H
        clear H
        have hcz17_0 : w3.cell? ⟨gb279, 0, none⟩ = some (.int .i64 a0_0) := (blk_cell BK279.out 0).trans rfl
        have hcz17_1 : w3.cell? ⟨gb279, 1, none⟩ = some (.int .i64 a0_1) := (blk_cell BK279.out 1).trans rfl
        have hcz17_2 : w3.cell? ⟨gb279, 2, none⟩ = some (.int .u64 a0_2) := (blk_cell BK279.out 2).trans rfl
        have hcz17_3 : w3.cell? ⟨gb279, 3, none⟩ = some (.int .u64 a0_3) := (blk_cell BK279.out 3).trans rfl
        have hcz17_4 : w3.cell? ⟨gb279, 4, none⟩ = some (.int .i64 a0_4) := (blk_cell BK279.out 4).trans rfl
        have hcz17_5 : w3.cell? ⟨gb279, 5, none⟩ = some (.int .u64 a0_5) := (blk_cell BK279.out 5).trans rfl
        have hcz17_6 : w3.cell? ⟨gb279, 6, none⟩ = some (.int .u64 a0_6) := (blk_cell BK279.out 6).trans rfl
        have hcz17_7 : w3.cell? ⟨gb279, 7, none⟩ = some (.int .i64 a0_7) := (blk_cell BK279.out 7).trans rfl
        have hcz17_8 : w3.cell? ⟨gb279, 8, none⟩ = some (.int .i64 a0_8) := (blk_cell BK279.out 8).trans rfl
        have hcz17_9 : w3.cell? ⟨gb279, 9, none⟩ = some (.bool a0_9) := (blk_cell BK279.out 9).trans rfl
        have hcz17_10 : w3.cell? ⟨gb279, 10, none⟩ = some (.int .u32 a0_10) := (blk_cell BK279.out 10).trans rfl
        have hcz17_11 : w3.cell? ⟨gb279, 11, none⟩ = some (.int .i64 a0_11) := (blk_cell BK279.out 11).trans rfl
        have hcz17_12 : w3.cell? ⟨gb279, 12, none⟩ = some (.bool a0_12) := (blk_cell BK279.out 12).trans rfl
        have hcz17_13 : w3.cell? ⟨gb279, 13, none⟩ = some (.slice A0_13 l0_13.length c0_13) := (blk_cell BK279.out 13).trans rfl
        have hcz17_14 : w3.cell? ⟨gb279, 14, none⟩ = some (.slice A0_14 l0_14.length c0_14) := (blk_cell BK279.out 14).trans rfl
        have hfz17_0 := blk_frozen BK279.out 0
        have hfz17_1 := blk_frozen BK279.out 1
        have hfz17_2 := blk_frozen BK279.out 2
        have hfz17_3 := blk_frozen BK279.out 3
        have hfz17_4 := blk_frozen BK279.out 4
        have hfz17_5 := blk_frozen BK279.out 5
        have hfz17_6 := blk_frozen BK279.out 6
        have hfz17_7 := blk_frozen BK279.out 7
        have hfz17_8 := blk_frozen BK279.out 8
        have hfz17_9 := blk_frozen BK279.out 9
        have hfz17_10 := blk_frozen BK279.out 10
        have hfz17_11 := blk_frozen BK279.out 11
        have hfz17_12 := blk_frozen BK279.out 12
        have hfz17_13 := blk_frozen BK279.out 13
        have hfz17_14 := blk_frozen BK279.out 14
        go_wp2
        go_meet
        case rel => exact ⟨_, (true), (by first | rfl | (simp; done) | (simp [*]; done)), H', ⟨by first | omega | exact Nat.le_refl _⟩, ⟨by (with_reducible repeat (first | refine blk_drewN ?_ _ | refine blk_drew ?_ | refine blk_alloc ?_ _)); exact BK279.out⟩, ⟨by repeat (first | (with_reducible first | exact HB.out | apply below_alloc | apply pw_below_drewN | apply below_drew1 | refine below_set ?_ GE279.out) | exact HB.out)⟩⟩
    · rw [if_neg c4] at H
      have c4b0 : (a0_0 == 6) = false := beq_eq_false_iff_ne.mpr c4
      have c4b1 : (a0_0 != 6) = true := bne_iff_ne.mpr c4
      (first | rw [c4b0] | (simp only [i64_w, i32_w]; rw [c4b0]) | skip)
      have H' := Aside0.mk H
      clear H
      have hcz18_0 : w3.cell? ⟨gb279, 0, none⟩ = some (.int .i64 a0_0) := (blk_cell BK279.out 0).trans rfl
      have hcz18_1 : w3.cell? ⟨gb279, 1, none⟩ = some (.int .i64 a0_1) := (blk_cell BK279.out 1).trans rfl
      have hcz18_2 : w3.cell? ⟨gb279, 2, none⟩ = some (.int .u64 a0_2) := (blk_cell BK279.out 2).trans rfl
      have hcz18_3 : w3.cell? ⟨gb279, 3, none⟩ = some (.int .u64 a0_3) := (blk_cell BK279.out 3).trans rfl
      have hcz18_4 : w3.cell? ⟨gb279, 4, none⟩ = some (.int .i64 a0_4) := (blk_cell BK279.out 4).trans rfl
      have hcz18_5 : w3.cell? ⟨gb279, 5, none⟩ = some (.int .u64 a0_5) := (blk_cell BK279.out 5).trans rfl
      have hcz18_6 : w3.cell? ⟨gb279, 6, none⟩ = some (.int .u64 a0_6) := (blk_cell BK279.out 6).trans rfl
      have hcz18_7 : w3.cell? ⟨gb279, 7, none⟩ = some (.int .i64 a0_7) := (blk_cell BK279.out 7).trans rfl
      have hcz18_8 : w3.cell? ⟨gb279, 8, none⟩ = some (.int .i64 a0_8) := (blk_cell BK279.out 8).trans rfl
      have hcz18_9 : w3.cell? ⟨gb279, 9, none⟩ = some (.bool a0_9) := (blk_cell BK279.out 9).trans rfl
      have hcz18_10 : w3.cell? ⟨gb279, 10, none⟩ = some (.int .u32 a0_10) := (blk_cell BK279.out 10).trans rfl
      have hcz18_11 : w3.cell? ⟨gb279, 11, none⟩ = some (.int .i64 a0_11) := (blk_cell BK279.out 11).trans rfl
      have hcz18_12 : w3.cell? ⟨gb279, 12, none⟩ = some (.bool a0_12) := (blk_cell BK279.out 12).trans rfl
      have hcz18_13 : w3.cell? ⟨gb279, 13, none⟩ = some (.slice A0_13 l0_13.length c0_13) := (blk_cell BK279.out 13).trans rfl
      have hcz18_14 : w3.cell? ⟨gb279, 14, none⟩ = some (.slice A0_14 l0_14.length c0_14) := (blk_cell BK279.out 14).trans rfl
      have hfz18_0 := blk_frozen BK279.out 0
      have hfz18_1 := blk_frozen BK279.out 1
      have hfz18_2 := blk_frozen BK279.out 2
      have hfz18_3 := blk_frozen BK279.out 3
      have hfz18_4 := blk_frozen BK279.out 4
      have hfz18_5 := blk_frozen BK279.out 5
      have hfz18_6 := blk_frozen BK279.out 6
      have hfz18_7 := blk_frozen BK279.out 7
      have hfz18_8 := blk_frozen BK279.out 8
      have hfz18_9 := blk_frozen BK279.out 9
      have hfz18_10 := blk_frozen BK279.out 10
      have hfz18_11 := blk_frozen BK279.out 11
      have hfz18_12 := blk_frozen BK279.out 12
      have hfz18_13 := blk_frozen BK279.out 13
      have hfz18_14 := blk_frozen BK279.out 14
      go_wp2
      go_meet
      case rel => exact ⟨_, (true), (by first | rfl | (simp; done) | (simp [*]; done)), H', ⟨by first | omega | exact Nat.le_refl _⟩, ⟨by (with_reducible repeat (first | refine blk_drewN ?_ _ | refine blk_drew ?_ | refine blk_alloc ?_ _)); exact BK279.out⟩, ⟨by repeat (first | (with_reducible first | exact HB.out | apply below_alloc | apply pw_below_drewN | apply below_drew1 | refine below_set ?_ GE279.out) | exact HB.out)⟩⟩
  case rest =>
    clear HC2
    try clear c1
    try clear p2
    try clear c4
    try clear c4b0
    try clear c4b1
    try clear c5
    try clear c5b0
    try clear c5b1
    try clear c6
    try clear c6b0
    try clear c6b1
    try clear c7
    try clear c7b0
    try clear c9
    try clear c9b0
    try clear c11
    try clear c11b0
    try clear c12
    try clear c13
    try clear c13b0
    try clear hcz10_0
    try clear hcz10_1
    try clear hcz10_10
    try clear hcz10_11
    try clear hcz10_12
    try clear hcz10_13
    try clear hcz10_14
    try clear hcz10_2
    try clear hcz10_3
    try clear hcz10_4
    try clear hcz10_5
    try clear hcz10_6
    try clear hcz10_7
    try clear hcz10_8
    try clear hcz10_9
    try clear hcz12_0
    try clear hcz12_1
    try clear hcz12_10
    try clear hcz12_11
    try clear hcz12_12
    try clear hcz12_13
    try clear hcz12_14
    try clear hcz12_2
    try clear hcz12_3
    try clear hcz12_4
    try clear hcz12_5
    try clear hcz12_6
    try clear hcz12_7
    try clear hcz12_8
    try clear hcz12_9
    try clear hcz14_0
    try clear hcz14_1
    try clear hcz14_10
    try clear hcz14_11
    try clear hcz14_12
    try clear hcz14_13
    try clear hcz14_14
    try clear hcz14_2
    try clear hcz14_3
    try clear hcz14_4
    try clear hcz14_5
    try clear hcz14_6
    try clear hcz14_7
    try clear hcz14_8
    try clear hcz14_9
    try clear hcz15_0
    try clear hcz15_1
    try clear hcz15_10
    try clear hcz15_11
    try clear hcz15_12
    try clear hcz15_13
    try clear hcz15_14
    try clear hcz15_2
    try clear hcz15_3
    try clear hcz15_4
    try clear hcz15_5
    try clear hcz15_6
    try clear hcz15_7
    try clear hcz15_8
    try clear hcz15_9
    try clear hcz16_0
    try clear hcz16_1
    try clear hcz16_10
    try clear hcz16_11
    try clear hcz16_12
    try clear hcz16_13
    try clear hcz16_14
    try clear hcz16_2
    try clear hcz16_3
    try clear hcz16_4
    try clear hcz16_5
    try clear hcz16_6
    try clear hcz16_7
    try clear hcz16_8
    try clear hcz16_9
    try clear hcz17_0
    try clear hcz17_1
    try clear hcz17_10
    try clear hcz17_11
    try clear hcz17_12
    try clear hcz17_13
    try clear hcz17_14
    try clear hcz17_2
    try clear hcz17_3
    try clear hcz17_4
    try clear hcz17_5
    try clear hcz17_6
    try clear hcz17_7
    try clear hcz17_8
    try clear hcz17_9
    try clear hcz18_0
    try clear hcz18_1
    try clear hcz18_10
    try clear hcz18_11
    try clear hcz18_12
    try clear hcz18_13
    try clear hcz18_14
    try clear hcz18_2
    try clear hcz18_3
    try clear hcz18_4
    try clear hcz18_5
    try clear hcz18_6
    try clear hcz18_7
    try clear hcz18_8
    try clear hcz18_9
    try clear hcz8_0
    try clear hcz8_1
    try clear hcz8_10
    try clear hcz8_11
    try clear hcz8_12
    try clear hcz8_13
    try clear hcz8_14
    try clear hcz8_2
    try clear hcz8_3
    try clear hcz8_4
    try clear hcz8_5
    try clear hcz8_6
    try clear hcz8_7
    try clear hcz8_8
    try clear hcz8_9
    try clear hfz10_0
    try clear hfz10_1
    try clear hfz10_10
    try clear hfz10_11
    try clear hfz10_12
    try clear hfz10_13
    try clear hfz10_14
    try clear hfz10_2
    try clear hfz10_3
    try clear hfz10_4
    try clear hfz10_5
    try clear hfz10_6
    try clear hfz10_7
    try clear hfz10_8
    try clear hfz10_9
    try clear hfz12_0
    try clear hfz12_1
    try clear hfz12_10
    try clear hfz12_11
    try clear hfz12_12
    try clear hfz12_13
    try clear hfz12_14
    try clear hfz12_2
    try clear hfz12_3
    try clear hfz12_4
    try clear hfz12_5
    try clear hfz12_6
    try clear hfz12_7
    try clear hfz12_8
    try clear hfz12_9
    try clear hfz14_0
    try clear hfz14_1
    try clear hfz14_10
    try clear hfz14_11
    try clear hfz14_12
    try clear hfz14_13
    try clear hfz14_14
    try clear hfz14_2
    try clear hfz14_3
    try clear hfz14_4
    try clear hfz14_5
    try clear hfz14_6
    try clear hfz14_7
    try clear hfz14_8
    try clear hfz14_9
    try clear hfz15_0
    try clear hfz15_1
    try clear hfz15_10
    try clear hfz15_11
    try clear hfz15_12
    try clear hfz15_13
    try clear hfz15_14
    try clear hfz15_2
    try clear hfz15_3
    try clear hfz15_4
    try clear hfz15_5
    try clear hfz15_6
    try clear hfz15_7
    try clear hfz15_8
    try clear hfz15_9
    try clear hfz16_0
    try clear hfz16_1
    try clear hfz16_10
    try clear hfz16_11
    try clear hfz16_12
    try clear hfz16_13
    try clear hfz16_14
    try clear hfz16_2
    try clear hfz16_3
    try clear hfz16_4
    try clear hfz16_5
    try clear hfz16_6
    try clear hfz16_7
    try clear hfz16_8
    try clear hfz16_9
    try clear hfz17_0
    try clear hfz17_1
    try clear hfz17_10
    try clear hfz17_11
    try clear hfz17_12
    try clear hfz17_13
    try clear hfz17_14
    try clear hfz17_2
    try clear hfz17_3
    try clear hfz17_4
    try clear hfz17_5
    try clear hfz17_6
    try clear hfz17_7
    try clear hfz17_8
    try clear hfz17_9
    try clear hfz18_0
    try clear hfz18_1
    try clear hfz18_10
    try clear hfz18_11
    try clear hfz18_12
    try clear hfz18_13
    try clear hfz18_14
    try clear hfz18_2
    try clear hfz18_3
    try clear hfz18_4
    try clear hfz18_5
    try clear hfz18_6
    try clear hfz18_7
    try clear hfz18_8
    try clear hfz18_9
    try clear hfz8_0
    try clear hfz8_1
    try clear hfz8_10
    try clear hfz8_11
    try clear hfz8_12
    try clear hfz8_13
    try clear hfz8_14
    try clear hfz8_2
    try clear hfz8_3
    try clear hfz8_4
    try clear hfz8_5
    try clear hfz8_6
    try clear hfz8_7
    try clear hfz8_8
    try clear hfz8_9
    obtain ⟨kq, x43_1, rfl, HA, HJ1, BK279, HB⟩ := hcut
    cases kq with
    | zero => exact absurd HA.out (by simp [stockaderef04_May.j0])
    | succ kj1 =>
      have H := HA.out
      clear HA
      simp only [stockaderef04_May.j0] at H
      by_cases c19 : x43_1 = true
      · subst c19
        have H1 : (some false) = some r := by rw [if_pos rfl] at H; exact H
        clear H
        have H := H1
        clear H1
        obtain rfl := Option.some.inj H
        go_wp2
        go_ret
        exact ⟨by first | rfl | (simp [errW_none, errW_some] <;> rfl) | (simp [*, errW_none, errW_some] <;> rfl), by repeat (first | (with_reducible first | exact HB.out | apply below_alloc | apply pw_below_drewN | apply below_drew1 | refine below_set ?_ GE279.out) | exact HB.out)⟩
      · replace c19 := Bool.eq_false_iff.mpr c19
        subst c19
        have H1 : (if (l0_13.length : Int) > 0 then (if a0_9 = true then (if (l0_13.length : Int) = 1 then (if 0 < (l0_13.length : Int) then (stockaderef04_May.j1 kj1 (!((rd l0_13 0) == 44)) a0_0 a0_1 a0_2 a0_3 a0_4 a0_5 a0_6 a0_7 a0_8 a0_9 a0_10 a0_11 a0_12 l0_13 l0_14) else (none)) else (stockaderef04_May.j1 kj1 (!false) a0_0 a0_1 a0_2 a0_3 a0_4 a0_5 a0_6 a0_7 a0_8 a0_9 a0_10 a0_11 a0_12 l0_13 l0_14)) else (stockaderef04_May.j1 kj1 (!false) a0_0 a0_1 a0_2 a0_3 a0_4 a0_5 a0_6 a0_7 a0_8 a0_9 a0_10 a0_11 a0_12 l0_13 l0_14)) else (stockaderef04_May.j1 kj1 false a0_0 a0_1 a0_2 a0_3 a0_4 a0_5 a0_6 a0_7 a0_8 a0_9 a0_10 a0_11 a0_12 l0_13 l0_14)) = some r := by rw [if_neg (show ¬ (false = true) by decide)] at H; exact H
        clear H
        have H := H1
        clear H1
        have HC20 := Aside0.mk H
        clear H
        go_upto_region 3 with (fail)
        go_cut [65] (fun v65 wc => ∃ (kq : Nat) (x65_19 : Bool), v65 = .bool x65_19 ∧ Aside0 (stockaderef04_May.j1 kq x65_19 a0_0 a0_1 a0_2 a0_3 a0_4 a0_5 a0_6 a0_7 a0_8 a0_9 a0_10 a0_11 a0_12 l0_13 l0_14 = some r) ∧ Aside0 (kq ≤ kj1) ∧ Aside0 (wc.heap[gb279]? = some (.cells #[.int .i64 a0_0, .int .i64 a0_1, .int .u64 a0_2, .int .u64 a0_3, .int .i64 a0_4, .int .u64 a0_5, .int .u64 a0_6, .int .i64 a0_7, .int .i64 a0_8, .bool a0_9, .int .u32 a0_10, .int .i64 a0_11, .bool a0_12, (.slice A0_13 l0_13.length c0_13), (.slice A0_14 l0_14.length c0_14)] 55 (0, 0))) ∧ Aside0 (Below w.heap.size w wc))
        case first =>
          have H := HC20.out
          clear HC20
          by_cases c21 : (l0_13.length : Int) > 0
          · rw [if_pos c21] at H
            have c21b0 : decide (0 < (l0_13.length : Int)) = true := decide_eq_true c21
            have c21b1 : decide (0 < l0_13.length) = true := decide_eq_true (by omega)
            clear c21
            (first | rw [c21b0] | (simp only [i64_w, i32_w]; rw [c21b0]) | skip)
            by_cases c22 : a0_9 = true
            · subst c22
              have H1 : (if (l0_13.length : Int) = 1 then (if 0 < (l0_13.length : Int) then (stockaderef04_May.j1 kj1 (!((rd l0_13 0) == 44)) a0_0 a0_1 a0_2 a0_3 a0_4 a0_5 a0_6 a0_7 a0_8 true a0_10 a0_11 a0_12 l0_13 l0_14) else (none)) else (stockaderef04_May.j1 kj1 (!false) a0_0 a0_1 a0_2 a0_3 a0_4 a0_5 a0_6 a0_7 a0_8 true a0_10 a0_11 a0_12 l0_13 l0_14)) = some r := by rw [if_pos rfl] at H; exact H
              clear H
              have H := H1
              clear H1
              by_cases c23 : (l0_13.length : Int) = 1
              · rw [if_pos c23] at H
                have c23b0 : ((l0_13.length : Int) == 1) = true := beq_iff_eq.mpr c23
                have c23b1 : ((l0_13.length : Int) != 1) = false := bne_eq_false_iff_eq.mpr c23
                clear c23
                by_cases c24 : 0 < (l0_13.length : Int)
                · rw [if_pos c24] at H
                  have c24b0 : decide (0 < (l0_13.length : Int)) = true := decide_eq_true c24
                  have c24b1 : decide (0 < l0_13.length) = true := decide_eq_true (by omega)
                  clear c24
                  have H' := Aside0.mk H
                  clear H
                  have hcz25_0 : wc.cell? ⟨gb279, 0, none⟩ = some (.int .i64 a0_0) := (blk_cell BK279.out 0).trans rfl
                  have hcz25_1 : wc.cell? ⟨gb279, 1, none⟩ = some (.int .i64 a0_1) := (blk_cell BK279.out 1).trans rfl
                  have hcz25_2 : wc.cell? ⟨gb279, 2, none⟩ = some (.int .u64 a0_2) := (blk_cell BK279.out 2).trans rfl
                  have hcz25_3 : wc.cell? ⟨gb279, 3, none⟩ = some (.int .u64 a0_3) := (blk_cell BK279.out 3).trans rfl
                  have hcz25_4 : wc.cell? ⟨gb279, 4, none⟩ = some (.int .i64 a0_4) := (blk_cell BK279.out 4).trans rfl
                  have hcz25_5 : wc.cell? ⟨gb279, 5, none⟩ = some (.int .u64 a0_5) := (blk_cell BK279.out 5).trans rfl
                  have hcz25_6 : wc.cell? ⟨gb279, 6, none⟩ = some (.int .u64 a0_6) := (blk_cell BK279.out 6).trans rfl
                  have hcz25_7 : wc.cell? ⟨gb279, 7, none⟩ = some (.int .i64 a0_7) := (blk_cell BK279.out 7).trans rfl
                  have hcz25_8 : wc.cell? ⟨gb279, 8, none⟩ = some (.int .i64 a0_8) := (blk_cell BK279.out 8).trans rfl
                  have hcz25_9 : wc.cell? ⟨gb279, 9, none⟩ = some (.bool true) := (blk_cell BK279.out 9).trans rfl
                  have hcz25_10 : wc.cell? ⟨gb279, 10, none⟩ = some (.int .u32 a0_10) := (blk_cell BK279.out 10).trans rfl
                  have hcz25_11 : wc.cell? ⟨gb279, 11, none⟩ = some (.int .i64 a0_11) := (blk_cell BK279.out 11).trans rfl
                  have hcz25_12 : wc.cell? ⟨gb279, 12, none⟩ = some (.bool a0_12) := (blk_cell BK279.out 12).trans rfl
                  have hcz25_13 : wc.cell? ⟨gb279, 13, none⟩ = some (.slice A0_13 l0_13.length c0_13) := (blk_cell BK279.out 13).trans rfl
                  have hcz25_14 : wc.cell? ⟨gb279, 14, none⟩ = some (.slice A0_14 l0_14.length c0_14) := (blk_cell BK279.out 14).trans rfl
                  have hfz25_0 := blk_frozen BK279.out 0
                  have hfz25_1 := blk_frozen BK279.out 1
                  have hfz25_2 := blk_frozen BK279.out 2
                  have hfz25_3 := blk_frozen BK279.out 3
                  have hfz25_4 := blk_frozen BK279.out 4
                  have hfz25_5 := blk_frozen BK279.out 5
                  have hfz25_6 := blk_frozen BK279.out 6
                  have hfz25_7 := blk_frozen BK279.out 7
                  have hfz25_8 := blk_frozen BK279.out 8
                  have hfz25_9 := blk_frozen BK279.out 9
                  have hfz25_10 := blk_frozen BK279.out 10
                  have hfz25_11 := blk_frozen BK279.out 11
                  have hfz25_12 := blk_frozen BK279.out 12
                  have hfz25_13 := blk_frozen BK279.out 13
                  have hfz25_14 := blk_frozen BK279.out 14
                  have p280 : 0 ≤ (0 : Int) := (by omega)
                  have q280 : 0 < (l0_13.length : Int) := of_decide_eq_true (by first | (with_reducible assumption) | assumption)
                  obtain ⟨ad280, e280, hx280_0⟩ := Kd.at_int HR0_13.out 0 p280 q280
                  cases e280
                  have qi280 : (0 < l0_13.length) = True := eq_true (by omega)
                  (try rw [show ((0 : Int)).toNat = 0 from rfl] at hx280_0)
                  (try rw [Addr.add_zero'] at hx280_0)
                  replace hx280_0 := (HB.out.cell (World.block_lt_of_cell? w _ hx280_0)).trans hx280_0
                  replace p280 := eq_true p280
                  replace q280 := eq_true q280
                  go_wp2
                  go_meet
                  case rel => exact ⟨_, (!((rd l0_13 0) == 44)), (by first | rfl | (simp; done) | (simp [*]; done)), H', ⟨by have := HJ1.out; first | omega | exact Nat.le_refl _⟩, ⟨by (with_reducible repeat (first | refine blk_drewN ?_ _ | refine blk_drew ?_ | refine blk_alloc ?_ _)); exact BK279.out⟩, ⟨by repeat (first | (with_reducible first | exact HB.out | apply below_alloc | apply pw_below_drewN | apply below_drew1 | refine below_set ?_ GE279.out) | exact HB.out)⟩⟩
                · rw [if_neg c24] at H
                  exact absurd H (by simp)
              · rw [if_neg c23] at H
                have c23b0 : ((l0_13.length : Int) == 1) = false := beq_eq_false_iff_ne.mpr c23
                have c23b1 : ((l0_13.length : Int) != 1) = true := bne_iff_ne.mpr c23
                have H' := Aside0.mk H
                clear H
                have hcz26_0 : wc.cell? ⟨gb279, 0, none⟩ = some (.int .i64 a0_0) := (blk_cell BK279.out 0).trans rfl
                have hcz26_1 : wc.cell? ⟨gb279, 1, none⟩ = some (.int .i64 a0_1) := (blk_cell BK279.out 1).trans rfl
                have hcz26_2 : wc.cell? ⟨gb279, 2, none⟩ = some (.int .u64 a0_2) := (blk_cell BK279.out 2).trans rfl
                have hcz26_3 : wc.cell? ⟨gb279, 3, none⟩ = some (.int .u64 a0_3) := (blk_cell BK279.out 3).trans rfl
                have hcz26_4 : wc.cell? ⟨gb279, 4, none⟩ = some (.int .i64 a0_4) := (blk_cell BK279.out 4).trans rfl
                have hcz26_5 : wc.cell? ⟨gb279, 5, none⟩ = some (.int .u64 a0_5) := (blk_cell BK279.out 5).trans rfl
                have hcz26_6 : wc.cell? ⟨gb279, 6, none⟩ = some (.int .u64 a0_6) := (blk_cell BK279.out 6).trans rfl
                have hcz26_7 : wc.cell? ⟨gb279, 7, none⟩ = some (.int .i64 a0_7) := (blk_cell BK279.out 7).trans rfl
                have hcz26_8 : wc.cell? ⟨gb279, 8, none⟩ = some (.int .i64 a0_8) := (blk_cell BK279.out 8).trans rfl
                have hcz26_9 : wc.cell? ⟨gb279, 9, none⟩ = some (.bool true) := (blk_cell BK279.out 9).trans rfl
                have hcz26_10 : wc.cell? ⟨gb279, 10, none⟩ = some (.int .u32 a0_10) := (blk_cell BK279.out 10).trans rfl
                have hcz26_11 : wc.cell? ⟨gb279, 11, none⟩ = some (.int .i64 a0_11) := (blk_cell BK279.out 11).trans rfl
                have hcz26_12 : wc.cell? ⟨gb279, 12, none⟩ = some (.bool a0_12) := (blk_cell BK279.out 12).trans rfl
                have hcz26_13 : wc.cell? ⟨gb279, 13, none⟩ = some (.slice A0_13 l0_13.length c0_13) := (blk_cell BK279.out 13).trans rfl
                have hcz26_14 : wc.cell? ⟨gb279, 14, none⟩ = some (.slice A0_14 l0_14.length c0_14) := (blk_cell BK279.out 14).trans rfl
                have hfz26_0 := blk_frozen BK279.out 0
                have hfz26_1 := blk_frozen BK279.out 1
                have hfz26_2 := blk_frozen BK279.out 2
                have hfz26_3 := blk_frozen BK279.out 3
                have hfz26_4 := blk_frozen BK279.out 4
                have hfz26_5 := blk_frozen BK279.out 5
                have hfz26_6 := blk_frozen BK279.out 6
                have hfz26_7 := blk_frozen BK279.out 7
                have hfz26_8 := blk_frozen BK279.out 8
                have hfz26_9 := blk_frozen BK279.out 9
                have hfz26_10 := blk_frozen BK279.out 10
                have hfz26_11 := blk_frozen BK279.out 11
                have hfz26_12 := blk_frozen BK279.out 12
                have hfz26_13 := blk_frozen BK279.out 13
                have hfz26_14 := blk_frozen BK279.out 14
                go_wp2
                go_meet
                case rel => exact ⟨_, (!false), (by first | rfl | (simp; done) | (simp [*]; done)), H', ⟨by have := HJ1.out; first | omega | exact Nat.le_refl _⟩, ⟨by (with_reducible repeat (first | refine blk_drewN ?_ _ | refine blk_drew ?_ | refine blk_alloc ?_ _)); exact BK279.out⟩, ⟨by repeat (first | (with_reducible first | exact HB.out | apply below_alloc | apply pw_below_drewN | apply below_drew1 | refine below_set ?_ GE279.out) | exact HB.out)⟩⟩
            · replace c22 := Bool.eq_false_iff.mpr c22
              subst c22
              have H1 : (stockaderef04_May.j1 kj1 (!false) a0_0 a0_1 a0_2 a0_3 a0_4 a0_5 a0_6 a0_7 a0_8 false a0_10 a0_11 a0_12 l0_13 l0_14) = some r := by rw [if_neg (show ¬ (false = true) by decide)] at H; exact H
              clear H
              have H := H1
              clear H1
              have H' := Aside0.mk H
              clear H
              have hcz27_0 : wc.cell? ⟨gb279, 0, none⟩ = some (.int .i64 a0_0) := (blk_cell BK279.out 0).trans rfl
              have hcz27_1 : wc.cell? ⟨gb279, 1, none⟩ = some (.int .i64 a0_1) := (blk_cell BK279.out 1).trans rfl
              have hcz27_2 : wc.cell? ⟨gb279, 2, none⟩ = some (.int .u64 a0_2) := (blk_cell BK279.out 2).trans rfl
              have hcz27_3 : wc.cell? ⟨gb279, 3, none⟩ = some (.int .u64 a0_3) := (blk_cell BK279.out 3).trans rfl
              have hcz27_4 : wc.cell? ⟨gb279, 4, none⟩ = some (.int .i64 a0_4) := (blk_cell BK279.out 4).trans rfl
              have hcz27_5 : wc.cell? ⟨gb279, 5, none⟩ = some (.int .u64 a0_5) := (blk_cell BK279.out 5).trans rfl
              have hcz27_6 : wc.cell? ⟨gb279, 6, none⟩ = some (.int .u64 a0_6) := (blk_cell BK279.out 6).trans rfl
              have hcz27_7 : wc.cell? ⟨gb279, 7, none⟩ = some (.int .i64 a0_7) := (blk_cell BK279.out 7).trans rfl
              have hcz27_8 : wc.cell? ⟨gb279, 8, none⟩ = some (.int .i64 a0_8) := (blk_cell BK279.out 8).trans rfl
              have hcz27_9 : wc.cell? ⟨gb279, 9, none⟩ = some (.bool false) := (blk_cell BK279.out 9).trans rfl
              have hcz27_10 : wc.cell? ⟨gb279, 10, none⟩ = some (.int .u32 a0_10) := (blk_cell BK279.out 10).trans rfl
              have hcz27_11 : wc.cell? ⟨gb279, 11, none⟩ = some (.int .i64 a0_11) := (blk_cell BK279.out 11).trans rfl
              have hcz27_12 : wc.cell? ⟨gb279, 12, none⟩ = some (.bool a0_12) := (blk_cell BK279.out 12).trans rfl
              have hcz27_13 : wc.cell? ⟨gb279, 13, none⟩ = some (.slice A0_13 l0_13.length c0_13) := (blk_cell BK279.out 13).trans rfl
              have hcz27_14 : wc.cell? ⟨gb279, 14, none⟩ = some (.slice A0_14 l0_14.length c0_14) := (blk_cell BK279.out 14).trans rfl
              have hfz27_0 := blk_frozen BK279.out 0
              have hfz27_1 := blk_frozen BK279.out 1
              have hfz27_2 := blk_frozen BK279.out 2
              have hfz27_3 := blk_frozen BK279.out 3
              have hfz27_4 := blk_frozen BK279.out 4
              have hfz27_5 := blk_frozen BK279.out 5
              have hfz27_6 := blk_frozen BK279.out 6
              have hfz27_7 := blk_frozen BK279.out 7
              have hfz27_8 := blk_frozen BK279.out 8
              have hfz27_9 := blk_frozen BK279.out 9
              have hfz27_10 := blk_frozen BK279.out 10
              have hfz27_11 := blk_frozen BK279.out 11
              have hfz27_12 := blk_frozen BK279.out 12
              have hfz27_13 := blk_frozen BK279.out 13
              have hfz27_14 := blk_frozen BK279.out 14
              go_wp2
              go_meet
              case rel => exact ⟨_, (!false), (by first | rfl | (simp; done) | (simp [*]; done)), H', ⟨by have := HJ1.out; first | omega | exact Nat.le_refl _⟩, ⟨by (with_reducible repeat (first | refine blk_drewN ?_ _ | refine blk_drew ?_ | refine blk_alloc ?_ _)); exact BK279.out⟩, ⟨by repeat (first | (with_reducible first | exact HB.out | apply below_alloc | apply pw_below_drewN | apply below_drew1 | refine below_set ?_ GE279.out) | exact HB.out)⟩⟩
          · rw [if_neg c21] at H
            have c21b0 : decide (0 < (l0_13.length : Int)) = false := decide_eq_false c21
            have c21b1 : decide (0 < l0_13.length) = false := decide_eq_false (by omega)
            clear c21
            (first | rw [c21b0] | (simp only [i64_w, i32_w]; rw [c21b0]) | skip)
            have H' := Aside0.mk H
            clear H
            have hcz28_0 : wc.cell? ⟨gb279, 0, none⟩ = some (.int .i64 a0_0) := (blk_cell BK279.out 0).trans rfl
            have hcz28_1 : wc.cell? ⟨gb279, 1, none⟩ = some (.int .i64 a0_1) := (blk_cell BK279.out 1).trans rfl
            have hcz28_2 : wc.cell? ⟨gb279, 2, none⟩ = some (.int .u64 a0_2) := (blk_cell BK279.out 2).trans rfl
            have hcz28_3 : wc.cell? ⟨gb279, 3, none⟩ = some (.int .u64 a0_3) := (blk_cell BK279.out 3).trans rfl
            have hcz28_4 : wc.cell? ⟨gb279, 4, none⟩ = some (.int .i64 a0_4) := (blk_cell BK279.out 4).trans rfl
            have hcz28_5 : wc.cell? ⟨gb279, 5, none⟩ = some (.int .u64 a0_5) := (blk_cell BK279.out 5).trans rfl
            have hcz28_6 : wc.cell? ⟨gb279, 6, none⟩ = some (.int .u64 a0_6) := (blk_cell BK279.out 6).trans rfl
            have hcz28_7 : wc.cell? ⟨gb279, 7, none⟩ = some (.int .i64 a0_7) := (blk_cell BK279.out 7).trans rfl
            have hcz28_8 : wc.cell? ⟨gb279, 8, none⟩ = some (.int .i64 a0_8) := (blk_cell BK279.out 8).trans rfl
            have hcz28_9 : wc.cell? ⟨gb279, 9, none⟩ = some (.bool a0_9) := (blk_cell BK279.out 9).trans rfl
            have hcz28_10 : wc.cell? ⟨gb279, 10, none⟩ = some (.int .u32 a0_10) := (blk_cell BK279.out 10).trans rfl
            have hcz28_11 : wc.cell? ⟨gb279, 11, none⟩ = some (.int .i64 a0_11) := (blk_cell BK279.out 11).trans rfl
            have hcz28_12 : wc.cell? ⟨gb279, 12, none⟩ = some (.bool a0_12) := (blk_cell BK279.out 12).trans rfl
            have hcz28_13 : wc.cell? ⟨gb279, 13, none⟩ = some (.slice A0_13 l0_13.length c0_13) := (blk_cell BK279.out 13).trans rfl
            have hcz28_14 : wc.cell? ⟨gb279, 14, none⟩ = some (.slice A0_14 l0_14.length c0_14) := (blk_cell BK279.out 14).trans rfl
            have hfz28_0 := blk_frozen BK279.out 0
            have hfz28_1 := blk_frozen BK279.out 1
            have hfz28_2 := blk_frozen BK279.out 2
            have hfz28_3 := blk_frozen BK279.out 3
            have hfz28_4 := blk_frozen BK279.out 4
            have hfz28_5 := blk_frozen BK279.out 5
            have hfz28_6 := blk_frozen BK279.out 6
            have hfz28_7 := blk_frozen BK279.out 7
            have hfz28_8 := blk_frozen BK279.out 8
            have hfz28_9 := blk_frozen BK279.out 9
            have hfz28_10 := blk_frozen BK279.out 10
            have hfz28_11 := blk_frozen BK279.out 11
            have hfz28_12 := blk_frozen BK279.out 12
            have hfz28_13 := blk_frozen BK279.out 13
            have hfz28_14 := blk_frozen BK279.out 14
            go_wp2
            go_meet
            case rel => exact ⟨_, (false), (by first | rfl | (simp; done) | (simp [*]; done)), H', ⟨by have := HJ1.out; first | omega | exact Nat.le_refl _⟩, ⟨by (with_reducible repeat (first | refine blk_drewN ?_ _ | refine blk_drew ?_ | refine blk_alloc ?_ _)); exact BK279.out⟩, ⟨by repeat (first | (with_reducible first | exact HB.out | apply below_alloc | apply pw_below_drewN | apply below_drew1 | refine below_set ?_ GE279.out) | exact HB.out)⟩⟩
        case rest =>
          clear HC20
          try clear c1
          try clear c2
          try clear p2
          try clear q2
          try clear hx2
          try clear qi2
          try clear c4
          try clear c4b0
          try clear c4b1
          try clear c5
          try clear c5b0
          try clear c5b1
          try clear c6
          try clear c6b0
          try clear c6b1
          try clear c7
          try clear c7b0
          try clear c9
          try clear c9b0
          try clear c11
          try clear c11b0
          try clear c12
          try clear c13
          try clear c13b0
          try clear c19
          try clear c21
          try clear c21b0
          try clear c21b1
          try clear c22
          try clear c23
          try clear c23b0
          try clear c23b1
          try clear c24
          try clear c24b0
          try clear c24b1
          try clear p28
          try clear q28
          try clear hx28
          try clear qi28
          try clear hcz10_0
          try clear hcz10_1
          try clear hcz10_10
          try clear hcz10_11
          try clear hcz10_12
          try clear hcz10_13
          try clear hcz10_14
          try clear hcz10_2
          try clear hcz10_3
          try clear hcz10_4
          try clear hcz10_5
          try clear hcz10_6
          try clear hcz10_7
          try clear hcz10_8
          try clear hcz10_9
          try clear hcz12_0
          try clear hcz12_1
          try clear hcz12_10
          try clear hcz12_11
          try clear hcz12_12
          try clear hcz12_13
          try clear hcz12_14
          try clear hcz12_2
          try clear hcz12_3
          try clear hcz12_4
          try clear hcz12_5
          try clear hcz12_6
          try clear hcz12_7
          try clear hcz12_8
          try clear hcz12_9
          try clear hcz14_0
          try clear hcz14_1
          try clear hcz14_10
          try clear hcz14_11
          try clear hcz14_12
          try clear hcz14_13
          try clear hcz14_14
          try clear hcz14_2
          try clear hcz14_3
          try clear hcz14_4
          try clear hcz14_5
          try clear hcz14_6
          try clear hcz14_7
          try clear hcz14_8
          try clear hcz14_9
          try clear hcz15_0
          try clear hcz15_1
          try clear hcz15_10
          try clear hcz15_11
          try clear hcz15_12
          try clear hcz15_13
          try clear hcz15_14
          try clear hcz15_2
          try clear hcz15_3
          try clear hcz15_4
          try clear hcz15_5
          try clear hcz15_6
          try clear hcz15_7
          try clear hcz15_8
          try clear hcz15_9
          try clear hcz16_0
          try clear hcz16_1
          try clear hcz16_10
          try clear hcz16_11
          try clear hcz16_12
          try clear hcz16_13
          try clear hcz16_14
          try clear hcz16_2
          try clear hcz16_3
          try clear hcz16_4
          try clear hcz16_5
          try clear hcz16_6
          try clear hcz16_7
          try clear hcz16_8
          try clear hcz16_9
          try clear hcz17_0
          try clear hcz17_1
          try clear hcz17_10
          try clear hcz17_11
          try clear hcz17_12
          try clear hcz17_13
          try clear hcz17_14
          try clear hcz17_2
          try clear hcz17_3
          try clear hcz17_4
          try clear hcz17_5
          try clear hcz17_6
          try clear hcz17_7
          try clear hcz17_8
          try clear hcz17_9
          try clear hcz18_0
          try clear hcz18_1
          try clear hcz18_10
          try clear hcz18_11
          try clear hcz18_12
          try clear hcz18_13
          try clear hcz18_14
          try clear hcz18_2
          try clear hcz18_3
          try clear hcz18_4
          try clear hcz18_5
          try clear hcz18_6
          try clear hcz18_7
          try clear hcz18_8
          try clear hcz18_9
          try clear hcz25_0
          try clear hcz25_1
          try clear hcz25_10
          try clear hcz25_11
          try clear hcz25_12
          try clear hcz25_13
          try clear hcz25_14
          try clear hcz25_2
          try clear hcz25_3
          try clear hcz25_4
          try clear hcz25_5
          try clear hcz25_6
          try clear hcz25_7
          try clear hcz25_8
          try clear hcz25_9
          try clear hcz26_0
          try clear hcz26_1
          try clear hcz26_10
          try clear hcz26_11
          try clear hcz26_12
          try clear hcz26_13
          try clear hcz26_14
          try clear hcz26_2
          try clear hcz26_3
          try clear hcz26_4
          try clear hcz26_5
          try clear hcz26_6
          try clear hcz26_7
          try clear hcz26_8
          try clear hcz26_9
          try clear hcz27_0
          try clear hcz27_1
          try clear hcz27_10
          try clear hcz27_11
          try clear hcz27_12
          try clear hcz27_13
          try clear hcz27_14
          try clear hcz27_2
          try clear hcz27_3
          try clear hcz27_4
          try clear hcz27_5
          try clear hcz27_6
          try clear hcz27_7
          try clear hcz27_8
          try clear hcz27_9
          try clear hcz28_0
          try clear hcz28_1
          try clear hcz28_10
          try clear hcz28_11
          try clear hcz28_12
          try clear hcz28_13
          try clear hcz28_14
          try clear hcz28_2
          try clear hcz28_3
          try clear hcz28_4
          try clear hcz28_5
          try clear hcz28_6
          try clear hcz28_7
          try clear hcz28_8
          try clear hcz28_9
          try clear hcz8_0
          try clear hcz8_1
          try clear hcz8_10
          try clear hcz8_11
          try clear hcz8_12
          try clear hcz8_13
          try clear hcz8_14
          try clear hcz8_2
          try clear hcz8_3
          try clear hcz8_4
          try clear hcz8_5
          try clear hcz8_6
          try clear hcz8_7
          try clear hcz8_8
          try clear hcz8_9
          try clear hfz10_0
          try clear hfz10_1
          try clear hfz10_10
          try clear hfz10_11
          try clear hfz10_12
          try clear hfz10_13
          try clear hfz10_14
          try clear hfz10_2
          try clear hfz10_3
          try clear hfz10_4
          try clear hfz10_5
          try clear hfz10_6
          try clear hfz10_7
          try clear hfz10_8
          try clear hfz10_9
          try clear hfz12_0
          try clear hfz12_1
          try clear hfz12_10
          try clear hfz12_11
          try clear hfz12_12
          try clear hfz12_13
          try clear hfz12_14
          try clear hfz12_2
          try clear hfz12_3
          try clear hfz12_4
          try clear hfz12_5
          try clear hfz12_6
          try clear hfz12_7
          try clear hfz12_8
          try clear hfz12_9
          try clear hfz14_0
          try clear hfz14_1
          try clear hfz14_10
          try clear hfz14_11
          try clear hfz14_12
          try clear hfz14_13
          try clear hfz14_14
          try clear hfz14_2
          try clear hfz14_3
          try clear hfz14_4
          try clear hfz14_5
          try clear hfz14_6
          try clear hfz14_7
          try clear hfz14_8
          try clear hfz14_9
          try clear hfz15_0
          try clear hfz15_1
          try clear hfz15_10
          try clear hfz15_11
          try clear hfz15_12
          try clear hfz15_13
          try clear hfz15_14
          try clear hfz15_2
          try clear hfz15_3
          try clear hfz15_4
          try clear hfz15_5
          try clear hfz15_6
          try clear hfz15_7
          try clear hfz15_8
          try clear hfz15_9
          try clear hfz16_0
          try clear hfz16_1
          try clear hfz16_10
          try clear hfz16_11
          try clear hfz16_12
          try clear hfz16_13
          try clear hfz16_14
          try clear hfz16_2
          try clear hfz16_3
          try clear hfz16_4
          try clear hfz16_5
          try clear hfz16_6
          try clear hfz16_7
          try clear hfz16_8
          try clear hfz16_9
          try clear hfz17_0
          try clear hfz17_1
          try clear hfz17_10
          try clear hfz17_11
          try clear hfz17_12
          try clear hfz17_13
          try clear hfz17_14
          try clear hfz17_2
          try clear hfz17_3
          try clear hfz17_4
          try clear hfz17_5
          try clear hfz17_6
          try clear hfz17_7
          try clear hfz17_8
          try clear hfz17_9
          try clear hfz18_0
          try clear hfz18_1
          try clear hfz18_10
          try clear hfz18_11
          try clear hfz18_12
          try clear hfz18_13
          try clear hfz18_14
          try clear hfz18_2
          try clear hfz18_3
          try clear hfz18_4
          try clear hfz18_5
          try clear hfz18_6
          try clear hfz18_7
          try clear hfz18_8
          try clear hfz18_9
          try clear hfz25_0
          try clear hfz25_1
          try clear hfz25_10
          try clear hfz25_11
          try clear hfz25_12
          try clear hfz25_13
          try clear hfz25_14
          try clear hfz25_2
          try clear hfz25_3
          try clear hfz25_4
          try clear hfz25_5
          try clear hfz25_6
          try clear hfz25_7
          try clear hfz25_8
          try clear hfz25_9
          try clear hfz26_0
          try clear hfz26_1
          try clear hfz26_10
          try clear hfz26_11
          try clear hfz26_12
          try clear hfz26_13
          try clear hfz26_14
          try clear hfz26_2
          try clear hfz26_3
          try clear hfz26_4
          try clear hfz26_5
          try clear hfz26_6
          try clear hfz26_7
          try clear hfz26_8
          try clear hfz26_9
          try clear hfz27_0
          try clear hfz27_1
          try clear hfz27_10
          try clear hfz27_11
          try clear hfz27_12
          try clear hfz27_13
          try clear hfz27_14
          try clear hfz27_2
          try clear hfz27_3
          try clear hfz27_4
          try clear hfz27_5
          try clear hfz27_6
          try clear hfz27_7
          try clear hfz27_8
          try clear hfz27_9
          try clear hfz28_0
          try clear hfz28_1
          try clear hfz28_10
          try clear hfz28_11
          try clear hfz28_12
          try clear hfz28_13
          try clear hfz28_14
          try clear hfz28_2
          try clear hfz28_3
          try clear hfz28_4
          try clear hfz28_5
          try clear hfz28_6
          try clear hfz28_7
          try clear hfz28_8
          try clear hfz28_9
          try clear hfz8_0
          try clear hfz8_1
          try clear hfz8_10
          try clear hfz8_11
          try clear hfz8_12
          try clear hfz8_13
          try clear hfz8_14
          try clear hfz8_2
          try clear hfz8_3
          try clear hfz8_4
          try clear hfz8_5
          try clear hfz8_6
          try clear hfz8_7
          try clear hfz8_8
          try clear hfz8_9
          try clear hx280_0
          try clear p2
          try clear p280
          try clear q280
          obtain ⟨kq, x65_19, rfl, HA, HJ19, BK279, HB⟩ := hcut
          cases kq with
          | zero => exact absurd HA.out (by simp [stockaderef04_May.j1])
          | succ kj19 =>
            have H := HA.out
            clear HA
            simp only [stockaderef04_May.j1] at H
            by_cases c29 : x65_19 = true
            · subst c29
              have H1 : (some false) = some r := by rw [if_pos rfl] at H; exact H
              clear H
              have H := H1
              clear H1
              obtain rfl := Option.some.inj H
              go_wp2
              go_ret
              exact ⟨by first | rfl | (simp [errW_none, errW_some] <;> rfl) | (simp [*, errW_none, errW_some] <;> rfl), by repeat (first | (with_reducible first | exact HB.out | apply below_alloc | apply pw_below_drewN | apply below_drew1 | refine below_set ?_ GE279.out) | exact HB.out)⟩
            · replace c29 := Bool.eq_false_iff.mpr c29
              subst c29
              have H1 : (if a0_9 = true then (if a0_11 ≥ 0 then (if (Int.tmod a0_11 8) = 0 then (if a0_11 ≤ (wrap64 (65535 - (l0_14.length : Int))) then (if a0_12 = true then (if (¬ ((l0_14.length : Int) % 8) = 0) then (some false) else (some true)) else (some (decide (a0_11 > 0)))) else (some false)) else (some false)) else (some false)) else (some true)) = some r := by rw [if_neg (show ¬ (false = true) by decide)] at H; exact H
              clear H
              have H := H1
              clear H1
              by_cases c30 : a0_9 = true
              · subst c30
                have H1 : (if a0_11 ≥ 0 then (if (Int.tmod a0_11 8) = 0 then (if a0_11 ≤ (wrap64 (65535 - (l0_14.length : Int))) then (if a0_12 = true then (if (¬ ((l0_14.length : Int) % 8) = 0) then (some false) else (some true)) else (some (decide (a0_11 > 0)))) else (some false)) else (some false)) else (some false)) = some r := by rw [if_pos rfl] at H; exact H
                clear H
                have H := H1
                clear H1
                by_cases c31 : a0_11 ≥ 0
                · rw [if_pos c31] at H
                  have c31b0 : decide (0 ≤ a0_11) = true := decide_eq_true c31
                  clear c31
                  by_cases c32 : (Int.tmod a0_11 8) = 0
                  · rw [if_pos c32] at H
                    have c32b0 : ((Int.tmod a0_11 8) == 0) = true := beq_iff_eq.mpr c32
                    have c32b1 : ((Int.tmod a0_11 8) != 0) = false := bne_eq_false_iff_eq.mpr c32
                    clear c32
                    by_cases c33 : a0_11 ≤ (wrap64 (65535 - (l0_14.length : Int)))
                    · rw [if_pos c33] at H
                      have c33b0 : decide (a0_11 ≤ (wrap64 (65535 - (l0_14.length : Int)))) = true := decide_eq_true c33
                      clear c33
                      by_cases c34 : a0_12 = true
                      · subst c34
                        have H1 : (if (¬ ((l0_14.length : Int) % 8) = 0) then (some false) else (some true)) = some r := by rw [if_pos rfl] at H; exact H
                        clear H
                        have H := H1
                        clear H1
                        by_cases c35 : (¬ ((l0_14.length : Int) % 8) = 0)
                        · rw [if_pos c35] at H
                          have c35b0 : (((l0_14.length : Int) % 8) == 0) = false := beq_eq_false_iff_ne.mpr c35
                          have c35b1 : (((l0_14.length : Int) % 8) != 0) = true := bne_iff_ne.mpr c35
                          clear c35
                          obtain rfl := Option.some.inj H
                          have hcz36_0 : wc.cell? ⟨gb279, 0, none⟩ = some (.int .i64 a0_0) := (blk_cell BK279.out 0).trans rfl
                          have hcz36_1 : wc.cell? ⟨gb279, 1, none⟩ = some (.int .i64 a0_1) := (blk_cell BK279.out 1).trans rfl
                          have hcz36_2 : wc.cell? ⟨gb279, 2, none⟩ = some (.int .u64 a0_2) := (blk_cell BK279.out 2).trans rfl
                          have hcz36_3 : wc.cell? ⟨gb279, 3, none⟩ = some (.int .u64 a0_3) := (blk_cell BK279.out 3).trans rfl
                          have hcz36_4 : wc.cell? ⟨gb279, 4, none⟩ = some (.int .i64 a0_4) := (blk_cell BK279.out 4).trans rfl
                          have hcz36_5 : wc.cell? ⟨gb279, 5, none⟩ = some (.int .u64 a0_5) := (blk_cell BK279.out 5).trans rfl
                          have hcz36_6 : wc.cell? ⟨gb279, 6, none⟩ = some (.int .u64 a0_6) := (blk_cell BK279.out 6).trans rfl
                          have hcz36_7 : wc.cell? ⟨gb279, 7, none⟩ = some (.int .i64 a0_7) := (blk_cell BK279.out 7).trans rfl
                          have hcz36_8 : wc.cell? ⟨gb279, 8, none⟩ = some (.int .i64 a0_8) := (blk_cell BK279.out 8).trans rfl
                          have hcz36_9 : wc.cell? ⟨gb279, 9, none⟩ = some (.bool true) := (blk_cell BK279.out 9).trans rfl
                          have hcz36_10 : wc.cell? ⟨gb279, 10, none⟩ = some (.int .u32 a0_10) := (blk_cell BK279.out 10).trans rfl
                          have hcz36_11 : wc.cell? ⟨gb279, 11, none⟩ = some (.int .i64 a0_11) := (blk_cell BK279.out 11).trans rfl
                          have hcz36_12 : wc.cell? ⟨gb279, 12, none⟩ = some (.bool true) := (blk_cell BK279.out 12).trans rfl
                          have hcz36_13 : wc.cell? ⟨gb279, 13, none⟩ = some (.slice A0_13 l0_13.length c0_13) := (blk_cell BK279.out 13).trans rfl
                          have hcz36_14 : wc.cell? ⟨gb279, 14, none⟩ = some (.slice A0_14 l0_14.length c0_14) := (blk_cell BK279.out 14).trans rfl
                          have hfz36_0 := blk_frozen BK279.out 0
                          have hfz36_1 := blk_frozen BK279.out 1
                          have hfz36_2 := blk_frozen BK279.out 2
                          have hfz36_3 := blk_frozen BK279.out 3
                          have hfz36_4 := blk_frozen BK279.out 4
                          have hfz36_5 := blk_frozen BK279.out 5
                          have hfz36_6 := blk_frozen BK279.out 6
                          have hfz36_7 := blk_frozen BK279.out 7
                          have hfz36_8 := blk_frozen BK279.out 8
                          have hfz36_9 := blk_frozen BK279.out 9
                          have hfz36_10 := blk_frozen BK279.out 10
                          have hfz36_11 := blk_frozen BK279.out 11
                          have hfz36_12 := blk_frozen BK279.out 12
                          have hfz36_13 := blk_frozen BK279.out 13
                          have hfz36_14 := blk_frozen BK279.out 14
                          go_wp2
                          go_ret
                          exact ⟨by first | rfl | (simp [errW_none, errW_some] <;> rfl) | (simp [*, errW_none, errW_some] <;> rfl), by repeat (first | (with_reducible first | exact HB.out | apply below_alloc | apply pw_below_drewN | apply below_drew1 | refine below_set ?_ GE279.out) | exact HB.out)⟩
                        · rw [if_neg c35] at H
                          have c35b0 : (((l0_14.length : Int) % 8) == 0) = true := beq_iff_eq.mpr (Decidable.of_not_not c35)
                          have c35b1 : (((l0_14.length : Int) % 8) != 0) = false := bne_eq_false_iff_eq.mpr (Decidable.of_not_not c35)
                          obtain rfl := Option.some.inj H
                          have hcz37_0 : wc.cell? ⟨gb279, 0, none⟩ = some (.int .i64 a0_0) := (blk_cell BK279.out 0).trans rfl
                          have hcz37_1 : wc.cell? ⟨gb279, 1, none⟩ = some (.int .i64 a0_1) := (blk_cell BK279.out 1).trans rfl
                          have hcz37_2 : wc.cell? ⟨gb279, 2, none⟩ = some (.int .u64 a0_2) := (blk_cell BK279.out 2).trans rfl
                          have hcz37_3 : wc.cell? ⟨gb279, 3, none⟩ = some (.int .u64 a0_3) := (blk_cell BK279.out 3).trans rfl
                          have hcz37_4 : wc.cell? ⟨gb279, 4, none⟩ = some (.int .i64 a0_4) := (blk_cell BK279.out 4).trans rfl
                          have hcz37_5 : wc.cell? ⟨gb279, 5, none⟩ = some (.int .u64 a0_5) := (blk_cell BK279.out 5).trans rfl
                          have hcz37_6 : wc.cell? ⟨gb279, 6, none⟩ = some (.int .u64 a0_6) := (blk_cell BK279.out 6).trans rfl
                          have hcz37_7 : wc.cell? ⟨gb279, 7, none⟩ = some (.int .i64 a0_7) := (blk_cell BK279.out 7).trans rfl
                          have hcz37_8 : wc.cell? ⟨gb279, 8, none⟩ = some (.int .i64 a0_8) := (blk_cell BK279.out 8).trans rfl
                          have hcz37_9 : wc.cell? ⟨gb279, 9, none⟩ = some (.bool true) := (blk_cell BK279.out 9).trans rfl
                          have hcz37_10 : wc.cell? ⟨gb279, 10, none⟩ = some (.int .u32 a0_10) := (blk_cell BK279.out 10).trans rfl
                          have hcz37_11 : wc.cell? ⟨gb279, 11, none⟩ = some (.int .i64 a0_11) := (blk_cell BK279.out 11).trans rfl
                          have hcz37_12 : wc.cell? ⟨gb279, 12, none⟩ = some (.bool true) := (blk_cell BK279.out 12).trans rfl
                          have hcz37_13 : wc.cell? ⟨gb279, 13, none⟩ = some (.slice A0_13 l0_13.length c0_13) := (blk_cell BK279.out 13).trans rfl
                          have hcz37_14 : wc.cell? ⟨gb279, 14, none⟩ = some (.slice A0_14 l0_14.length c0_14) := (blk_cell BK279.out 14).trans rfl
                          have hfz37_0 := blk_frozen BK279.out 0
                          have hfz37_1 := blk_frozen BK279.out 1
                          have hfz37_2 := blk_frozen BK279.out 2
                          have hfz37_3 := blk_frozen BK279.out 3
                          have hfz37_4 := blk_frozen BK279.out 4
                          have hfz37_5 := blk_frozen BK279.out 5
                          have hfz37_6 := blk_frozen BK279.out 6
                          have hfz37_7 := blk_frozen BK279.out 7
                          have hfz37_8 := blk_frozen BK279.out 8
                          have hfz37_9 := blk_frozen BK279.out 9
                          have hfz37_10 := blk_frozen BK279.out 10
                          have hfz37_11 := blk_frozen BK279.out 11
                          have hfz37_12 := blk_frozen BK279.out 12
                          have hfz37_13 := blk_frozen BK279.out 13
                          have hfz37_14 := blk_frozen BK279.out 14
                          go_wp2
                          go_ret
                          exact ⟨by first | rfl | (simp [errW_none, errW_some] <;> rfl) | (simp [*, errW_none, errW_some] <;> rfl), by repeat (first | (with_reducible first | exact HB.out | apply below_alloc | apply pw_below_drewN | apply below_drew1 | refine below_set ?_ GE279.out) | exact HB.out)⟩
                      · replace c34 := Bool.eq_false_iff.mpr c34
                        subst c34
                        have H1 : (some (decide (a0_11 > 0))) = some r := by rw [if_neg (show ¬ (false = true) by decide)] at H; exact H
                        clear H
                        have H := H1
                        clear H1
                        obtain rfl := Option.some.inj H
                        have hcz38_0 : wc.cell? ⟨gb279, 0, none⟩ = some (.int .i64 a0_0) := (blk_cell BK279.out 0).trans rfl
                        have hcz38_1 : wc.cell? ⟨gb279, 1, none⟩ = some (.int .i64 a0_1) := (blk_cell BK279.out 1).trans rfl
                        have hcz38_2 : wc.cell? ⟨gb279, 2, none⟩ = some (.int .u64 a0_2) := (blk_cell BK279.out 2).trans rfl
                        have hcz38_3 : wc.cell? ⟨gb279, 3, none⟩ = some (.int .u64 a0_3) := (blk_cell BK279.out 3).trans rfl
                        have hcz38_4 : wc.cell? ⟨gb279, 4, none⟩ = some (.int .i64 a0_4) := (blk_cell BK279.out 4).trans rfl
                        have hcz38_5 : wc.cell? ⟨gb279, 5, none⟩ = some (.int .u64 a0_5) := (blk_cell BK279.out 5).trans rfl
                        have hcz38_6 : wc.cell? ⟨gb279, 6, none⟩ = some (.int .u64 a0_6) := (blk_cell BK279.out 6).trans rfl
                        have hcz38_7 : wc.cell? ⟨gb279, 7, none⟩ = some (.int .i64 a0_7) := (blk_cell BK279.out 7).trans rfl
                        have hcz38_8 : wc.cell? ⟨gb279, 8, none⟩ = some (.int .i64 a0_8) := (blk_cell BK279.out 8).trans rfl
                        have hcz38_9 : wc.cell? ⟨gb279, 9, none⟩ = some (.bool true) := (blk_cell BK279.out 9).trans rfl
                        have hcz38_10 : wc.cell? ⟨gb279, 10, none⟩ = some (.int .u32 a0_10) := (blk_cell BK279.out 10).trans rfl
                        have hcz38_11 : wc.cell? ⟨gb279, 11, none⟩ = some (.int .i64 a0_11) := (blk_cell BK279.out 11).trans rfl
                        have hcz38_12 : wc.cell? ⟨gb279, 12, none⟩ = some (.bool false) := (blk_cell BK279.out 12).trans rfl
                        have hcz38_13 : wc.cell? ⟨gb279, 13, none⟩ = some (.slice A0_13 l0_13.length c0_13) := (blk_cell BK279.out 13).trans rfl
                        have hcz38_14 : wc.cell? ⟨gb279, 14, none⟩ = some (.slice A0_14 l0_14.length c0_14) := (blk_cell BK279.out 14).trans rfl
                        have hfz38_0 := blk_frozen BK279.out 0
                        have hfz38_1 := blk_frozen BK279.out 1
                        have hfz38_2 := blk_frozen BK279.out 2
                        have hfz38_3 := blk_frozen BK279.out 3
                        have hfz38_4 := blk_frozen BK279.out 4
                        have hfz38_5 := blk_frozen BK279.out 5
                        have hfz38_6 := blk_frozen BK279.out 6
                        have hfz38_7 := blk_frozen BK279.out 7
                        have hfz38_8 := blk_frozen BK279.out 8
                        have hfz38_9 := blk_frozen BK279.out 9
                        have hfz38_10 := blk_frozen BK279.out 10
                        have hfz38_11 := blk_frozen BK279.out 11
                        have hfz38_12 := blk_frozen BK279.out 12
                        have hfz38_13 := blk_frozen BK279.out 13
                        have hfz38_14 := blk_frozen BK279.out 14
                        go_wp2
                        go_ret
                        exact ⟨by first | rfl | (simp [errW_none, errW_some] <;> rfl) | (simp [*, errW_none, errW_some] <;> rfl), by repeat (first | (with_reducible first | exact HB.out | apply below_alloc | apply pw_below_drewN | apply below_drew1 | refine below_set ?_ GE279.out) | exact HB.out)⟩
                    · rw [if_neg c33] at H
                      have c33b0 : decide (a0_11 ≤ (wrap64 (65535 - (l0_14.length : Int)))) = false := decide_eq_false c33
                      clear c33
                      obtain rfl := Option.some.inj H
                      have hcz39_0 : wc.cell? ⟨gb279, 0, none⟩ = some (.int .i64 a0_0) := (blk_cell BK279.out 0).trans rfl
                      have hcz39_1 : wc.cell? ⟨gb279, 1, none⟩ = some (.int .i64 a0_1) := (blk_cell BK279.out 1).trans rfl
                      have hcz39_2 : wc.cell? ⟨gb279, 2, none⟩ = some (.int .u64 a0_2) := (blk_cell BK279.out 2).trans rfl
                      have hcz39_3 : wc.cell? ⟨gb279, 3, none⟩ = some (.int .u64 a0_3) := (blk_cell BK279.out 3).trans rfl
                      have hcz39_4 : wc.cell? ⟨gb279, 4, none⟩ = some (.int .i64 a0_4) := (blk_cell BK279.out 4).trans rfl
                      have hcz39_5 : wc.cell? ⟨gb279, 5, none⟩ = some (.int .u64 a0_5) := (blk_cell BK279.out 5).trans rfl
                      have hcz39_6 : wc.cell? ⟨gb279, 6, none⟩ = some (.int .u64 a0_6) := (blk_cell BK279.out 6).trans rfl
                      have hcz39_7 : wc.cell? ⟨gb279, 7, none⟩ = some (.int .i64 a0_7) := (blk_cell BK279.out 7).trans rfl
                      have hcz39_8 : wc.cell? ⟨gb279, 8, none⟩ = some (.int .i64 a0_8) := (blk_cell BK279.out 8).trans rfl
                      have hcz39_9 : wc.cell? ⟨gb279, 9, none⟩ = some (.bool true) := (blk_cell BK279.out 9).trans rfl
                      have hcz39_10 : wc.cell? ⟨gb279, 10, none⟩ = some (.int .u32 a0_10) := (blk_cell BK279.out 10).trans rfl
                      have hcz39_11 : wc.cell? ⟨gb279, 11, none⟩ = some (.int .i64 a0_11) := (blk_cell BK279.out 11).trans rfl
                      have hcz39_12 : wc.cell? ⟨gb279, 12, none⟩ = some (.bool a0_12) := (blk_cell BK279.out 12).trans rfl
                      have hcz39_13 : wc.cell? ⟨gb279, 13, none⟩ = some (.slice A0_13 l0_13.length c0_13) := (blk_cell BK279.out 13).trans rfl
                      have hcz39_14 : wc.cell? ⟨gb279, 14, none⟩ = some (.slice A0_14 l0_14.length c0_14) := (blk_cell BK279.out 14).trans rfl
                      have hfz39_0 := blk_frozen BK279.out 0
                      have hfz39_1 := blk_frozen BK279.out 1
                      have hfz39_2 := blk_frozen BK279.out 2
                      have hfz39_3 := blk_frozen BK279.out 3
                      have hfz39_4 := blk_frozen BK279.out 4
                      have hfz39_5 := blk_frozen BK279.out 5
                      have hfz39_6 := blk_frozen BK279.out 6
                      have hfz39_7 := blk_frozen BK279.out 7
                      have hfz39_8 := blk_frozen BK279.out 8
                      have hfz39_9 := blk_frozen BK279.out 9
                      have hfz39_10 := blk_frozen BK279.out 10
                      have hfz39_11 := blk_frozen BK279.out 11
                      have hfz39_12 := blk_frozen BK279.out 12
                      have hfz39_13 := blk_frozen BK279.out 13
                      have hfz39_14 := blk_frozen BK279.out 14
                      go_wp2
                      go_ret
                      exact ⟨by first | rfl | (simp [errW_none, errW_some] <;> rfl) | (simp [*, errW_none, errW_some] <;> rfl), by repeat (first | (with_reducible first | exact HB.out | apply below_alloc | apply pw_below_drewN | apply below_drew1 | refine below_set ?_ GE279.out) | exact HB.out)⟩
                  · rw [if_neg c32] at H
                    have c32b0 : ((Int.tmod a0_11 8) == 0) = false := beq_eq_false_iff_ne.mpr c32
                    have c32b1 : ((Int.tmod a0_11 8) != 0) = true := bne_iff_ne.mpr c32
                    obtain rfl := Option.some.inj H
                    have hcz40_0 : wc.cell? ⟨gb279, 0, none⟩ = some (.int .i64 a0_0) := (blk_cell BK279.out 0).trans rfl
                    have hcz40_1 : wc.cell? ⟨gb279, 1, none⟩ = some (.int .i64 a0_1) := (blk_cell BK279.out 1).trans rfl
                    have hcz40_2 : wc.cell? ⟨gb279, 2, none⟩ = some (.int .u64 a0_2) := (blk_cell BK279.out 2).trans rfl
                    have hcz40_3 : wc.cell? ⟨gb279, 3, none⟩ = some (.int .u64 a0_3) := (blk_cell BK279.out 3).trans rfl
                    have hcz40_4 : wc.cell? ⟨gb279, 4, none⟩ = some (.int .i64 a0_4) := (blk_cell BK279.out 4).trans rfl
                    have hcz40_5 : wc.cell? ⟨gb279, 5, none⟩ = some (.int .u64 a0_5) := (blk_cell BK279.out 5).trans rfl
                    have hcz40_6 : wc.cell? ⟨gb279, 6, none⟩ = some (.int .u64 a0_6) := (blk_cell BK279.out 6).trans rfl
                    have hcz40_7 : wc.cell? ⟨gb279, 7, none⟩ = some (.int .i64 a0_7) := (blk_cell BK279.out 7).trans rfl
                    have hcz40_8 : wc.cell? ⟨gb279, 8, none⟩ = some (.int .i64 a0_8) := (blk_cell BK279.out 8).trans rfl
                    have hcz40_9 : wc.cell? ⟨gb279, 9, none⟩ = some (.bool true) := (blk_cell BK279.out 9).trans rfl
                    have hcz40_10 : wc.cell? ⟨gb279, 10, none⟩ = some (.int .u32 a0_10) := (blk_cell BK279.out 10).trans rfl
                    have hcz40_11 : wc.cell? ⟨gb279, 11, none⟩ = some (.int .i64 a0_11) := (blk_cell BK279.out 11).trans rfl
                    have hcz40_12 : wc.cell? ⟨gb279, 12, none⟩ = some (.bool a0_12) := (blk_cell BK279.out 12).trans rfl
                    have hcz40_13 : wc.cell? ⟨gb279, 13, none⟩ = some (.slice A0_13 l0_13.length c0_13) := (blk_cell BK279.out 13).trans rfl
                    have hcz40_14 : wc.cell? ⟨gb279, 14, none⟩ = some (.slice A0_14 l0_14.length c0_14) := (blk_cell BK279.out 14).trans rfl
                    have hfz40_0 := blk_frozen BK279.out 0
                    have hfz40_1 := blk_frozen BK279.out 1
                    have hfz40_2 := blk_frozen BK279.out 2
                    have hfz40_3 := blk_frozen BK279.out 3
                    have hfz40_4 := blk_frozen BK279.out 4
                    have hfz40_5 := blk_frozen BK279.out 5
                    have hfz40_6 := blk_frozen BK279.out 6
                    have hfz40_7 := blk_frozen BK279.out 7
                    have hfz40_8 := blk_frozen BK279.out 8
                    have hfz40_9 := blk_frozen BK279.out 9
                    have hfz40_10 := blk_frozen BK279.out 10
                    have hfz40_11 := blk_frozen BK279.out 11
                    have hfz40_12 := blk_frozen BK279.out 12
                    have hfz40_13 := blk_frozen BK279.out 13
                    have hfz40_14 := blk_frozen BK279.out 14
                    go_wp2
                    go_ret
                    exact ⟨by first | rfl | (simp [errW_none, errW_some] <;> rfl) | (simp [*, errW_none, errW_some] <;> rfl), by repeat (first | (with_reducible first | exact HB.out | apply below_alloc | apply pw_below_drewN | apply below_drew1 | refine below_set ?_ GE279.out) | exact HB.out)⟩
                · rw [if_neg c31] at H
                  have c31b0 : decide (0 ≤ a0_11) = false := decide_eq_false c31
                  clear c31
                  obtain rfl := Option.some.inj H
                  have hcz41_0 : wc.cell? ⟨gb279, 0, none⟩ = some (.int .i64 a0_0) := (blk_cell BK279.out 0).trans rfl
                  have hcz41_1 : wc.cell? ⟨gb279, 1, none⟩ = some (.int .i64 a0_1) := (blk_cell BK279.out 1).trans rfl
                  have hcz41_2 : wc.cell? ⟨gb279, 2, none⟩ = some (.int .u64 a0_2) := (blk_cell BK279.out 2).trans rfl
                  have hcz41_3 : wc.cell? ⟨gb279, 3, none⟩ = some (.int .u64 a0_3) := (blk_cell BK279.out 3).trans rfl
                  have hcz41_4 : wc.cell? ⟨gb279, 4, none⟩ = some (.int .i64 a0_4) := (blk_cell BK279.out 4).trans rfl
                  have hcz41_5 : wc.cell? ⟨gb279, 5, none⟩ = some (.int .u64 a0_5) := (blk_cell BK279.out 5).trans rfl
                  have hcz41_6 : wc.cell? ⟨gb279, 6, none⟩ = some (.int .u64 a0_6) := (blk_cell BK279.out 6).trans rfl
                  have hcz41_7 : wc.cell? ⟨gb279, 7, none⟩ = some (.int .i64 a0_7) := (blk_cell BK279.out 7).trans rfl
                  have hcz41_8 : wc.cell? ⟨gb279, 8, none⟩ = some (.int .i64 a0_8) := (blk_cell BK279.out 8).trans rfl
                  have hcz41_9 : wc.cell? ⟨gb279, 9, none⟩ = some (.bool true) := (blk_cell BK279.out 9).trans rfl
                  have hcz41_10 : wc.cell? ⟨gb279, 10, none⟩ = some (.int .u32 a0_10) := (blk_cell BK279.out 10).trans rfl
                  have hcz41_11 : wc.cell? ⟨gb279, 11, none⟩ = some (.int .i64 a0_11) := (blk_cell BK279.out 11).trans rfl
                  have hcz41_12 : wc.cell? ⟨gb279, 12, none⟩ = some (.bool a0_12) := (blk_cell BK279.out 12).trans rfl
                  have hcz41_13 : wc.cell? ⟨gb279, 13, none⟩ = some (.slice A0_13 l0_13.length c0_13) := (blk_cell BK279.out 13).trans rfl
                  have hcz41_14 : wc.cell? ⟨gb279, 14, none⟩ = some (.slice A0_14 l0_14.length c0_14) := (blk_cell BK279.out 14).trans rfl
                  have hfz41_0 := blk_frozen BK279.out 0
                  have hfz41_1 := blk_frozen BK279.out 1
                  have hfz41_2 := blk_frozen BK279.out 2
                  have hfz41_3 := blk_frozen BK279.out 3
                  have hfz41_4 := blk_frozen BK279.out 4
                  have hfz41_5 := blk_frozen BK279.out 5
                  have hfz41_6 := blk_frozen BK279.out 6
                  have hfz41_7 := blk_frozen BK279.out 7
                  have hfz41_8 := blk_frozen BK279.out 8
                  have hfz41_9 := blk_frozen BK279.out 9
                  have hfz41_10 := blk_frozen BK279.out 10
                  have hfz41_11 := blk_frozen BK279.out 11
                  have hfz41_12 := blk_frozen BK279.out 12
                  have hfz41_13 := blk_frozen BK279.out 13
                  have hfz41_14 := blk_frozen BK279.out 14
                  go_wp2
                  go_ret
                  exact ⟨by first | rfl | (simp [errW_none, errW_some] <;> rfl) | (simp [*, errW_none, errW_some] <;> rfl), by repeat (first | (with_reducible first | exact HB.out | apply below_alloc | apply pw_below_drewN | apply below_drew1 | refine below_set ?_ GE279.out) | exact HB.out)⟩
              · replace c30 := Bool.eq_false_iff.mpr c30
                subst c30
                have H1 : (some true) = some r := by rw [if_neg (show ¬ (false = true) by decide)] at H; exact H
                clear H
                have H := H1
                clear H1
                obtain rfl := Option.some.inj H
                have hcz42_0 : wc.cell? ⟨gb279, 0, none⟩ = some (.int .i64 a0_0) := (blk_cell BK279.out 0).trans rfl
                have hcz42_1 : wc.cell? ⟨gb279, 1, none⟩ = some (.int .i64 a0_1) := (blk_cell BK279.out 1).trans rfl
                have hcz42_2 : wc.cell? ⟨gb279, 2, none⟩ = some (.int .u64 a0_2) := (blk_cell BK279.out 2).trans rfl
                have hcz42_3 : wc.cell? ⟨gb279, 3, none⟩ = some (.int .u64 a0_3) := (blk_cell BK279.out 3).trans rfl
                have hcz42_4 : wc.cell? ⟨gb279, 4, none⟩ = some (.int .i64 a0_4) := (blk_cell BK279.out 4).trans rfl
                have hcz42_5 : wc.cell? ⟨gb279, 5, none⟩ = some (.int .u64 a0_5) := (blk_cell BK279.out 5).trans rfl
                have hcz42_6 : wc.cell? ⟨gb279, 6, none⟩ = some (.int .u64 a0_6) := (blk_cell BK279.out 6).trans rfl
                have hcz42_7 : wc.cell? ⟨gb279, 7, none⟩ = some (.int .i64 a0_7) := (blk_cell BK279.out 7).trans rfl
                have hcz42_8 : wc.cell? ⟨gb279, 8, none⟩ = some (.int .i64 a0_8) := (blk_cell BK279.out 8).trans rfl
                have hcz42_9 : wc.cell? ⟨gb279, 9, none⟩ = some (.bool false) := (blk_cell BK279.out 9).trans rfl
                have hcz42_10 : wc.cell? ⟨gb279, 10, none⟩ = some (.int .u32 a0_10) := (blk_cell BK279.out 10).trans rfl
                have hcz42_11 : wc.cell? ⟨gb279, 11, none⟩ = some (.int .i64 a0_11) := (blk_cell BK279.out 11).trans rfl
                have hcz42_12 : wc.cell? ⟨gb279, 12, none⟩ = some (.bool a0_12) := (blk_cell BK279.out 12).trans rfl
                have hcz42_13 : wc.cell? ⟨gb279, 13, none⟩ = some (.slice A0_13 l0_13.length c0_13) := (blk_cell BK279.out 13).trans rfl
                have hcz42_14 : wc.cell? ⟨gb279, 14, none⟩ = some (.slice A0_14 l0_14.length c0_14) := (blk_cell BK279.out 14).trans rfl
                have hfz42_0 := blk_frozen BK279.out 0
                have hfz42_1 := blk_frozen BK279.out 1
                have hfz42_2 := blk_frozen BK279.out 2
                have hfz42_3 := blk_frozen BK279.out 3
                have hfz42_4 := blk_frozen BK279.out 4
                have hfz42_5 := blk_frozen BK279.out 5
                have hfz42_6 := blk_frozen BK279.out 6
                have hfz42_7 := blk_frozen BK279.out 7
                have hfz42_8 := blk_frozen BK279.out 8
                have hfz42_9 := blk_frozen BK279.out 9
                have hfz42_10 := blk_frozen BK279.out 10
                have hfz42_11 := blk_frozen BK279.out 11
                have hfz42_12 := blk_frozen BK279.out 12
                have hfz42_13 := blk_frozen BK279.out 13
                have hfz42_14 := blk_frozen BK279.out 14
                go_wp2
                go_ret
                exact ⟨by first | rfl | (simp [errW_none, errW_some] <;> rfl) | (simp [*, errW_none, errW_some] <;> rfl), by repeat (first | (with_reducible first | exact HB.out | apply below_alloc | apply pw_below_drewN | apply below_drew1 | refine below_set ?_ GE279.out) | exact HB.out)⟩
end Go.Proofs.Ytgifcmbknkjemaa.QQ
end
