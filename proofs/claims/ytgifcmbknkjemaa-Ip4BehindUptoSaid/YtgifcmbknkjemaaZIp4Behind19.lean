/- What the law Ip4Behind rests on, part 19: contracts of the functions that it calls, and plain lemmas. No condition. -/
import Derived.Test.YtgifcmbknkjemaaZIp4Behind18
section
namespace Go.Proofs.Ytgifcmbknkjemaa.QQ
open Go.RowKit Go.Proofs.YtgifcmbknkjemaaW.PrintWords Go.Proofs.YtgifcmbknkjemaaW.PrintLast Go.Proofs.YtgifcmbknkjemaaW.PrintMore Go.Proofs.Ytgifcmbknkjemaa.Own
attribute [local go_sem] max2_int min2_int max_two min_two max_three min_three max_four min_four   -- for this text's walks alone
set_option linter.unusedVariables false
set_option linter.unusedSimpArgs false
mutual
def ip4_may.j0 : Nat → Bool → Int → Int → Int → Int → Int → Int → Int → Int → Int → Bool → Int → Int → Bool → List Int → List Int → Option (Bool)
  | 0, _, _, _, _, _, _, _, _, _, _, _, _, _, _, _, _ => none
  | k + 1, x4, x113000, x113001, x113002, x113003, x113004, x113005, x113006, x113007, x113008, x113009, x113010, x113011, x113012, x113013, x113014 => if x4 = true then (some false) else ((ip4_byte1.f x113007).bind fun t115 => (if t115 = true then ((ip4_byte1.f x113008).bind fun t116 => (if t116 = true then (if x113008 = 0 then (ip4_may.j1 k true x113000 x113001 x113002 x113003 x113004 x113005 x113006 x113007 x113008 x113009 x113010 x113011 x113012 x113013 x113014) else (ip4_may.j1 k (decide (x113010 > 65535)) x113000 x113001 x113002 x113003 x113004 x113005 x113006 x113007 x113008 x113009 x113010 x113011 x113012 x113013 x113014)) else (ip4_may.j1 k true x113000 x113001 x113002 x113003 x113004 x113005 x113006 x113007 x113008 x113009 x113010 x113011 x113012 x113013 x113014))) else (ip4_may.j1 k true x113000 x113001 x113002 x113003 x113004 x113005 x113006 x113007 x113008 x113009 x113010 x113011 x113012 x113013 x113014)))
def ip4_may.j1 : Nat → Bool → Int → Int → Int → Int → Int → Int → Int → Int → Int → Bool → Int → Int → Bool → List Int → List Int → Option (Bool)
  | 0, _, _, _, _, _, _, _, _, _, _, _, _, _, _, _, _ => none
  | k + 1, x28, x113000, x113001, x113002, x113003, x113004, x113005, x113006, x113007, x113008, x113009, x113010, x113011, x113012, x113013, x113014 => if x28 = true then (some false) else (if (x113014.length : Int) > 65515 then (ip4_may.j2 k true x113000 x113001 x113002 x113003 x113004 x113005 x113006 x113007 x113008 x113009 x113010 x113011 x113012 x113013 x113014) else (if x113011 < 0 then (ip4_may.j2 k true x113000 x113001 x113002 x113003 x113004 x113005 x113006 x113007 x113008 x113009 x113010 x113011 x113012 x113013 x113014) else (if (Int.tmod x113011 8) = 0 then (ip4_may.j2 k (decide (x113011 > (wrap64 (65515 - (x113014.length : Int))))) x113000 x113001 x113002 x113003 x113004 x113005 x113006 x113007 x113008 x113009 x113010 x113011 x113012 x113013 x113014) else (ip4_may.j2 k true x113000 x113001 x113002 x113003 x113004 x113005 x113006 x113007 x113008 x113009 x113010 x113011 x113012 x113013 x113014))))
def ip4_may.j2 : Nat → Bool → Int → Int → Int → Int → Int → Int → Int → Int → Int → Bool → Int → Int → Bool → List Int → List Int → Option (Bool)
  | 0, _, _, _, _, _, _, _, _, _, _, _, _, _, _, _, _ => none
  | k + 1, x49, x113000, x113001, x113002, x113003, x113004, x113005, x113006, x113007, x113008, x113009, x113010, x113011, x113012, x113013, x113014 => if x49 = true then (some false) else (if x113012 = true then (if ((x113014.length : Int) % 8) = 0 then (if x113009 = true then (some true) else (some true)) else (some false)) else (if x113009 = true then (some (decide (x113011 > 0))) else (some true)))
end
def ip4_may.f (k : Nat) (a0_0 : Int) (a0_1 : Int) (a0_2 : Int) (a0_3 : Int) (a0_4 : Int) (a0_5 : Int) (a0_6 : Int) (a0_7 : Int) (a0_8 : Int) (a0_9 : Bool) (a0_10 : Int) (a0_11 : Int) (a0_12 : Bool) (l0_13 : List Int) (l0_14 : List Int) : Option (Bool) := if a0_0 = 4 then ((ip4_may_1.f a0_1 a0_2 a0_3).bind fun t113 => (if t113 = true then ((ip4_may_1.f a0_4 a0_5 a0_6).bind fun t114 => (if t114 = true then (ip4_may.j0 k (decide ((l0_13.length : Int) > 0)) a0_0 a0_1 a0_2 a0_3 a0_4 a0_5 a0_6 a0_7 a0_8 a0_9 a0_10 a0_11 a0_12 l0_13 l0_14) else (ip4_may.j0 k true a0_0 a0_1 a0_2 a0_3 a0_4 a0_5 a0_6 a0_7 a0_8 a0_9 a0_10 a0_11 a0_12 l0_13 l0_14))) else (ip4_may.j0 k true a0_0 a0_1 a0_2 a0_3 a0_4 a0_5 a0_6 a0_7 a0_8 a0_9 a0_10 a0_11 a0_12 l0_13 l0_14))) else (ip4_may.j0 k true a0_0 a0_1 a0_2 a0_3 a0_4 a0_5 a0_6 a0_7 a0_8 a0_9 a0_10 a0_11 a0_12 l0_13 l0_14)
theorem ip4_may.mono_l : ∀ k, (∀ y0 y1 y2 y3 y4 y5 y6 y7 y8 y9 y10 y11 y12 y13 y14 y15, LeO (ip4_may.j0 k y0 y1 y2 y3 y4 y5 y6 y7 y8 y9 y10 y11 y12 y13 y14 y15) (ip4_may.j0 (k + 1) y0 y1 y2 y3 y4 y5 y6 y7 y8 y9 y10 y11 y12 y13 y14 y15)) ∧ (∀ y0 y1 y2 y3 y4 y5 y6 y7 y8 y9 y10 y11 y12 y13 y14 y15, LeO (ip4_may.j1 k y0 y1 y2 y3 y4 y5 y6 y7 y8 y9 y10 y11 y12 y13 y14 y15) (ip4_may.j1 (k + 1) y0 y1 y2 y3 y4 y5 y6 y7 y8 y9 y10 y11 y12 y13 y14 y15)) ∧ (∀ y0 y1 y2 y3 y4 y5 y6 y7 y8 y9 y10 y11 y12 y13 y14 y15, LeO (ip4_may.j2 k y0 y1 y2 y3 y4 y5 y6 y7 y8 y9 y10 y11 y12 y13 y14 y15) (ip4_may.j2 (k + 1) y0 y1 y2 y3 y4 y5 y6 y7 y8 y9 y10 y11 y12 y13 y14 y15))
  | 0 => ⟨fun _ _ _ _ _ _ _ _ _ _ _ _ _ _ _ _ r h => by simp [ip4_may.j0] at h, fun _ _ _ _ _ _ _ _ _ _ _ _ _ _ _ _ r h => by simp [ip4_may.j1] at h, fun _ _ _ _ _ _ _ _ _ _ _ _ _ _ _ _ r h => by simp [ip4_may.j2] at h⟩
  | k + 1 => by
    obtain ⟨ih0, ih1, ih2⟩ := ip4_may.mono_l k
    refine ⟨?_, ?_, ?_⟩
    · intro y0 y1 y2 y3 y4 y5 y6 y7 y8 y9 y10 y11 y12 y13 y14 y15
      unfold ip4_may.j0
      repeat' first
      | (with_reducible exact ih0 _ _ _ _ _ _ _ _ _ _ _ _ _ _ _ _)
      | (with_reducible exact ih1 _ _ _ _ _ _ _ _ _ _ _ _ _ _ _ _)
      | (with_reducible exact ih2 _ _ _ _ _ _ _ _ _ _ _ _ _ _ _ _)
      | (with_reducible exact LeO.refl _)
      | (with_reducible exact LeO.none _)
      | (with_reducible refine LeO.ite ?_ ?_)
      | (with_reducible refine LeO.bind ?_ (fun _ => ?_))
      | exact ih0 _ _ _ _ _ _ _ _ _ _ _ _ _ _ _ _
      | exact ih1 _ _ _ _ _ _ _ _ _ _ _ _ _ _ _ _
      | exact ih2 _ _ _ _ _ _ _ _ _ _ _ _ _ _ _ _
      | exact LeO.none _
      | refine LeO.ite ?_ ?_
      | refine LeO.bind ?_ (fun _ => ?_)
    · intro y0 y1 y2 y3 y4 y5 y6 y7 y8 y9 y10 y11 y12 y13 y14 y15
      unfold ip4_may.j1
      repeat' first
      | (with_reducible exact ih0 _ _ _ _ _ _ _ _ _ _ _ _ _ _ _ _)
      | (with_reducible exact ih1 _ _ _ _ _ _ _ _ _ _ _ _ _ _ _ _)
      | (with_reducible exact ih2 _ _ _ _ _ _ _ _ _ _ _ _ _ _ _ _)
      | (with_reducible exact LeO.refl _)
      | (with_reducible exact LeO.none _)
      | (with_reducible refine LeO.ite ?_ ?_)
      | (with_reducible refine LeO.bind ?_ (fun _ => ?_))
      | exact ih0 _ _ _ _ _ _ _ _ _ _ _ _ _ _ _ _
      | exact ih1 _ _ _ _ _ _ _ _ _ _ _ _ _ _ _ _
      | exact ih2 _ _ _ _ _ _ _ _ _ _ _ _ _ _ _ _
      | exact LeO.none _
      | refine LeO.ite ?_ ?_
      | refine LeO.bind ?_ (fun _ => ?_)
    · intro y0 y1 y2 y3 y4 y5 y6 y7 y8 y9 y10 y11 y12 y13 y14 y15
      unfold ip4_may.j2
      repeat' first
      | (with_reducible exact ih0 _ _ _ _ _ _ _ _ _ _ _ _ _ _ _ _)
      | (with_reducible exact ih1 _ _ _ _ _ _ _ _ _ _ _ _ _ _ _ _)
      | (with_reducible exact ih2 _ _ _ _ _ _ _ _ _ _ _ _ _ _ _ _)
      | (with_reducible exact LeO.refl _)
      | (with_reducible exact LeO.none _)
      | (with_reducible refine LeO.ite ?_ ?_)
      | (with_reducible refine LeO.bind ?_ (fun _ => ?_))
      | exact ih0 _ _ _ _ _ _ _ _ _ _ _ _ _ _ _ _
      | exact ih1 _ _ _ _ _ _ _ _ _ _ _ _ _ _ _ _
      | exact ih2 _ _ _ _ _ _ _ _ _ _ _ _ _ _ _ _
      | exact LeO.none _
      | refine LeO.ite ?_ ?_
      | refine LeO.bind ?_ (fun _ => ?_)
theorem ip4_may.mono : ∀ a0 a1 a2 a3 a4 a5 a6 a7 a8 a9 a10 a11 a12 a13 a14 k, LeO (ip4_may.f k a0 a1 a2 a3 a4 a5 a6 a7 a8 a9 a10 a11 a12 a13 a14) (ip4_may.f (k + 1) a0 a1 a2 a3 a4 a5 a6 a7 a8 a9 a10 a11 a12 a13 a14) := by
  intro a0 a1 a2 a3 a4 a5 a6 a7 a8 a9 a10 a11 a12 a13 a14 k
  obtain ⟨ih0, ih1, ih2⟩ := ip4_may.mono_l k
  unfold ip4_may.f
  repeat' first
      | (with_reducible exact ih0 _ _ _ _ _ _ _ _ _ _ _ _ _ _ _ _)
      | (with_reducible exact ih1 _ _ _ _ _ _ _ _ _ _ _ _ _ _ _ _)
      | (with_reducible exact ih2 _ _ _ _ _ _ _ _ _ _ _ _ _ _ _ _)
      | (with_reducible exact LeO.refl _)
      | (with_reducible exact LeO.none _)
      | (with_reducible refine LeO.ite ?_ ?_)
      | (with_reducible refine LeO.bind ?_ (fun _ => ?_))
      | exact ih0 _ _ _ _ _ _ _ _ _ _ _ _ _ _ _ _
      | exact ih1 _ _ _ _ _ _ _ _ _ _ _ _ _ _ _ _
      | exact ih2 _ _ _ _ _ _ _ _ _ _ _ _ _ _ _ _
      | exact LeO.none _
      | refine LeO.ite ?_ ?_
      | refine LeO.bind ?_ (fun _ => ?_)
set_option maxHeartbeats 8000000 in
set_option maxRecDepth 100000 in
theorem ip4_may.calls (k : Nat) (a0_0 : Int) (a0_1 : Int) (a0_2 : Int) (a0_3 : Int) (a0_4 : Int) (a0_5 : Int) (a0_6 : Int) (a0_7 : Int) (a0_8 : Int) (a0_9 : Bool) (a0_10 : Int) (a0_11 : Int) (a0_12 : Bool) (A0_13 : Option Addr) (c0_13 : Nat) (l0_13 : List Int) (A0_14 : Option Addr) (c0_14 : Nat) (l0_14 : List Int) (r : Bool) (w : World) (hr0_13 : Kd.C (Kd.int .i64) w A0_13 l0_13.length l0_13) (hc0_13 : l0_13.length ≤ c0_13) (hr0_14 : Kd.C (Kd.int .u8) w A0_14 l0_14.length l0_14) (hc0_14 : l0_14.length ≤ c0_14) (h : ip4_may.f k a0_0 a0_1 a0_2 a0_3 a0_4 a0_5 a0_6 a0_7 a0_8 a0_9 a0_10 a0_11 a0_12 l0_13 l0_14 = some r) :
    Calls Try.prog 116 #[.agg #[.int .i64 a0_0, .int .i64 a0_1, .int .u64 a0_2, .int .u64 a0_3, .int .i64 a0_4, .int .u64 a0_5, .int .u64 a0_6, .int .i64 a0_7, .int .i64 a0_8, .bool a0_9, .int .u32 a0_10, .int .i64 a0_11, .bool a0_12, .slice A0_13 l0_13.length c0_13, .slice A0_14 l0_14.length c0_14]] w fun e w' => e = .returned (.bool r) ∧ Below w.heap.size w w' := by
  have hu55 := Try.underlying55
  have hu53 := Try.underlying53
  have HR0_13 := Aside0.mk hr0_13
  have HC0_13 := Aside0.mk hc0_13
  clear hr0_13 hc0_13
  have HR0_14 := Aside0.mk hr0_14
  have HC0_14 := Aside0.mk hc0_14
  clear hr0_14 hc0_14
  have HB := Aside0.mk (Below.refl w.heap.size w)
  have H : (if a0_0 = 4 then ((ip4_may_1.f a0_1 a0_2 a0_3).bind fun t113 => (if t113 = true then ((ip4_may_1.f a0_4 a0_5 a0_6).bind fun t114 => (if t114 = true then (ip4_may.j0 k (decide ((l0_13.length : Int) > 0)) a0_0 a0_1 a0_2 a0_3 a0_4 a0_5 a0_6 a0_7 a0_8 a0_9 a0_10 a0_11 a0_12 l0_13 l0_14) else (ip4_may.j0 k true a0_0 a0_1 a0_2 a0_3 a0_4 a0_5 a0_6 a0_7 a0_8 a0_9 a0_10 a0_11 a0_12 l0_13 l0_14))) else (ip4_may.j0 k true a0_0 a0_1 a0_2 a0_3 a0_4 a0_5 a0_6 a0_7 a0_8 a0_9 a0_10 a0_11 a0_12 l0_13 l0_14))) else (ip4_may.j0 k true a0_0 a0_1 a0_2 a0_3 a0_4 a0_5 a0_6 a0_7 a0_8 a0_9 a0_10 a0_11 a0_12 l0_13 l0_14)) = some r := h
  clear h
  have HC2 := Aside0.mk H
  clear H
  go_enter Try.func116, Try.ntmps116
  go_upto_region 2 with (first | ((with_reducible refine gate_dst (N := 1) rfl ?_); (try (refine gate_guard (by rfl) ?_; dsimp only)); refine box_event ?hg (N := 1) ?hd (cs := #[.int .i64 a0_0, .int .i64 a0_1, .int .u64 a0_2, .int .u64 a0_3, .int .i64 a0_4, .int .u64 a0_5, .int .u64 a0_6, .int .i64 a0_7, .int .i64 a0_8, .bool a0_9, .int .u32 a0_10, .int .i64 a0_11, .bool a0_12, .slice A0_13 l0_13.length c0_13, .slice A0_14 l0_14.length c0_14]) (t := 55) ?hr ?_; (case hd => rfl); (case hg => rfl); (case hr => first | (go_simp; done) | (go_simp; rfl)); intro gb112 hg w3 hbox hb; have n0_ := Aside0.mk (below_step (by repeat (first | (with_reducible first | exact HB.out | apply below_alloc | apply pw_below_drewN | apply below_drew1) | exact HB.out)) hb); have n1_ := Aside0.mk (hbox); have n2_ := Aside0.mk ((by rw [hg]; exact (below_size (by repeat (first | (with_reducible first | exact HB.out | apply below_alloc | apply pw_below_drewN | apply below_drew1) | exact HB.out))) : w.heap.size ≤ gb112)); have n3_ := Aside0.mk ((by rw [hg]; exact (below_size (by repeat (first | (with_reducible first | exact HB.out | apply below_alloc | apply pw_below_drewN | apply below_drew1) | exact HB.out))) : w.heap.size ≤ gb112)); clear HB; have HB := n0_; have BK112 := n1_; have GW112 := n2_; have GE112 := n3_; clear n0_ n1_ n2_ n3_; clear hb hbox hg))
  (try simp only [Act.put, List.setIfInBounds_toArray, List.set_cons_zero, List.set_cons_succ])
  go_cut [4] (fun v4 wc => ∃ (kq : Nat) (x4_1 : Bool), v4 = .bool x4_1 ∧ Aside0 (ip4_may.j0 kq x4_1 a0_0 a0_1 a0_2 a0_3 a0_4 a0_5 a0_6 a0_7 a0_8 a0_9 a0_10 a0_11 a0_12 l0_13 l0_14 = some r) ∧ Aside0 (kq ≤ k) ∧ Aside0 (wc.heap[gb112]? = some (.cells #[.int .i64 a0_0, .int .i64 a0_1, .int .u64 a0_2, .int .u64 a0_3, .int .i64 a0_4, .int .u64 a0_5, .int .u64 a0_6, .int .i64 a0_7, .int .i64 a0_8, .bool a0_9, .int .u32 a0_10, .int .i64 a0_11, .bool a0_12, (.slice A0_13 l0_13.length c0_13), (.slice A0_14 l0_14.length c0_14)] 55 (0, 0))) ∧ Aside0 (Below w.heap.size w wc))
  case first =>
    have H := HC2.out
    clear HC2
    by_cases c4 : a0_0 = 4
    · rw [if_pos c4] at H
      have c4b0 : (a0_0 == 4) = true := beq_iff_eq.mpr c4
      have c4b1 : (a0_0 != 4) = false := bne_eq_false_iff_eq.mpr c4
      clear c4
      (first | rw [c4b0] | (simp only [i64_w, i32_w]; rw [c4b0]) | skip)
      replace H := Option.bind_eq_some_iff.mp H
      obtain ⟨t113, A50, H⟩ := H
      replace H : (if t113 = true then ((ip4_may_1.f a0_4 a0_5 a0_6).bind fun t114 => (if t114 = true then (ip4_may.j0 k (decide ((l0_13.length : Int) > 0)) a0_0 a0_1 a0_2 a0_3 a0_4 a0_5 a0_6 a0_7 a0_8 a0_9 a0_10 a0_11 a0_12 l0_13 l0_14) else (ip4_may.j0 k true a0_0 a0_1 a0_2 a0_3 a0_4 a0_5 a0_6 a0_7 a0_8 a0_9 a0_10 a0_11 a0_12 l0_13 l0_14))) else (ip4_may.j0 k true a0_0 a0_1 a0_2 a0_3 a0_4 a0_5 a0_6 a0_7 a0_8 a0_9 a0_10 a0_11 a0_12 l0_13 l0_14)) = some r := H
      have A5 := Aside0.mk A50
      clear A50
      by_cases c6 : t113 = true
      · subst c6
        have H1 : ((ip4_may_1.f a0_4 a0_5 a0_6).bind fun t114 => (if t114 = true then (ip4_may.j0 k (decide ((l0_13.length : Int) > 0)) a0_0 a0_1 a0_2 a0_3 a0_4 a0_5 a0_6 a0_7 a0_8 a0_9 a0_10 a0_11 a0_12 l0_13 l0_14) else (ip4_may.j0 k true a0_0 a0_1 a0_2 a0_3 a0_4 a0_5 a0_6 a0_7 a0_8 a0_9 a0_10 a0_11 a0_12 l0_13 l0_14))) = some r := by rw [if_pos rfl] at H; exact H
        clear H
        have H := H1
        clear H1
        replace H := Option.bind_eq_some_iff.mp H
        obtain ⟨t114, A70, H⟩ := H
        replace H : (if t114 = true then (ip4_may.j0 k (decide ((l0_13.length : Int) > 0)) a0_0 a0_1 a0_2 a0_3 a0_4 a0_5 a0_6 a0_7 a0_8 a0_9 a0_10 a0_11 a0_12 l0_13 l0_14) else (ip4_may.j0 k true a0_0 a0_1 a0_2 a0_3 a0_4 a0_5 a0_6 a0_7 a0_8 a0_9 a0_10 a0_11 a0_12 l0_13 l0_14)) = some r := H
        have A7 := Aside0.mk A70
        clear A70
        by_cases c8 : t114 = true
        · subst c8
          have H1 : (ip4_may.j0 k (decide ((l0_13.length : Int) > 0)) a0_0 a0_1 a0_2 a0_3 a0_4 a0_5 a0_6 a0_7 a0_8 a0_9 a0_10 a0_11 a0_12 l0_13 l0_14) = some r := by rw [if_pos rfl] at H; exact H
          clear H
          have H := H1
          clear H1
          have H' := Aside0.mk H
          clear H
          have hcz9_0 : w3.cell? ⟨gb112, 0, none⟩ = some (.int .i64 a0_0) := (blk_cell BK112.out 0).trans rfl
          have hcz9_1 : w3.cell? ⟨gb112, 1, none⟩ = some (.int .i64 a0_1) := (blk_cell BK112.out 1).trans rfl
          have hcz9_2 : w3.cell? ⟨gb112, 2, none⟩ = some (.int .u64 a0_2) := (blk_cell BK112.out 2).trans rfl
          have hcz9_3 : w3.cell? ⟨gb112, 3, none⟩ = some (.int .u64 a0_3) := (blk_cell BK112.out 3).trans rfl
          have hcz9_4 : w3.cell? ⟨gb112, 4, none⟩ = some (.int .i64 a0_4) := (blk_cell BK112.out 4).trans rfl
          have hcz9_5 : w3.cell? ⟨gb112, 5, none⟩ = some (.int .u64 a0_5) := (blk_cell BK112.out 5).trans rfl
          have hcz9_6 : w3.cell? ⟨gb112, 6, none⟩ = some (.int .u64 a0_6) := (blk_cell BK112.out 6).trans rfl
          have hcz9_7 : w3.cell? ⟨gb112, 7, none⟩ = some (.int .i64 a0_7) := (blk_cell BK112.out 7).trans rfl
          have hcz9_8 : w3.cell? ⟨gb112, 8, none⟩ = some (.int .i64 a0_8) := (blk_cell BK112.out 8).trans rfl
          have hcz9_9 : w3.cell? ⟨gb112, 9, none⟩ = some (.bool a0_9) := (blk_cell BK112.out 9).trans rfl
          have hcz9_10 : w3.cell? ⟨gb112, 10, none⟩ = some (.int .u32 a0_10) := (blk_cell BK112.out 10).trans rfl
          have hcz9_11 : w3.cell? ⟨gb112, 11, none⟩ = some (.int .i64 a0_11) := (blk_cell BK112.out 11).trans rfl
          have hcz9_12 : w3.cell? ⟨gb112, 12, none⟩ = some (.bool a0_12) := (blk_cell BK112.out 12).trans rfl
          have hcz9_13 : w3.cell? ⟨gb112, 13, none⟩ = some (.slice A0_13 l0_13.length c0_13) := (blk_cell BK112.out 13).trans rfl
          have hcz9_14 : w3.cell? ⟨gb112, 14, none⟩ = some (.slice A0_14 l0_14.length c0_14) := (blk_cell BK112.out 14).trans rfl
          have hfz9_0 := blk_frozen BK112.out 0
          have hfz9_1 := blk_frozen BK112.out 1
          have hfz9_2 := blk_frozen BK112.out 2
          have hfz9_3 := blk_frozen BK112.out 3
          have hfz9_4 := blk_frozen BK112.out 4
          have hfz9_5 := blk_frozen BK112.out 5
          have hfz9_6 := blk_frozen BK112.out 6
          have hfz9_7 := blk_frozen BK112.out 7
          have hfz9_8 := blk_frozen BK112.out 8
          have hfz9_9 := blk_frozen BK112.out 9
          have hfz9_10 := blk_frozen BK112.out 10
          have hfz9_11 := blk_frozen BK112.out 11
          have hfz9_12 := blk_frozen BK112.out 12
          have hfz9_13 := blk_frozen BK112.out 13
          have hfz9_14 := blk_frozen BK112.out 14
          go_wp2_with (first | (go_at_call 153; (with_reducible refine (ip4_may_1.calls a0_1 a0_2 a0_3 true _ A5.out).mono ?_); rintro e w10 ⟨rfl, hb⟩; have n0_ := Aside0.mk (blk_below (g := gb112) (o := .cells #[.int .i64 a0_0, .int .i64 a0_1, .int .u64 a0_2, .int .u64 a0_3, .int .i64 a0_4, .int .u64 a0_5, .int .u64 a0_6, .int .i64 a0_7, .int .i64 a0_8, .bool a0_9, .int .u32 a0_10, .int .i64 a0_11, .bool a0_12, .slice A0_13 l0_13.length c0_13, .slice A0_14 l0_14.length c0_14] 55 (0, 0)) (by (with_reducible repeat (first | refine blk_drewN ?_ _ | refine blk_drew ?_ | refine blk_alloc ?_ _)); exact BK112.out) hb); have n1_ := Aside0.mk (below_step (by repeat (first | (with_reducible first | exact HB.out | apply below_alloc | apply pw_below_drewN | apply below_drew1 | refine below_set ?_ GE112.out) | exact HB.out)) hb); clear BK112; clear HB; have BK112 := n0_; have HB := n1_; clear n0_ n1_; (try clear hb); (try clear hb2); (try clear hk); (try clear hi); have hcz11_0 : w10.cell? ⟨gb112, 0, none⟩ = some (.int .i64 a0_0) := (blk_cell BK112.out 0).trans rfl; have hcz11_1 : w10.cell? ⟨gb112, 1, none⟩ = some (.int .i64 a0_1) := (blk_cell BK112.out 1).trans rfl; have hcz11_2 : w10.cell? ⟨gb112, 2, none⟩ = some (.int .u64 a0_2) := (blk_cell BK112.out 2).trans rfl; have hcz11_3 : w10.cell? ⟨gb112, 3, none⟩ = some (.int .u64 a0_3) := (blk_cell BK112.out 3).trans rfl; have hcz11_4 : w10.cell? ⟨gb112, 4, none⟩ = some (.int .i64 a0_4) := (blk_cell BK112.out 4).trans rfl; have hcz11_5 : w10.cell? ⟨gb112, 5, none⟩ = some (.int .u64 a0_5) := (blk_cell BK112.out 5).trans rfl; have hcz11_6 : w10.cell? ⟨gb112, 6, none⟩ = some (.int .u64 a0_6) := (blk_cell BK112.out 6).trans rfl; have hcz11_7 : w10.cell? ⟨gb112, 7, none⟩ = some (.int .i64 a0_7) := (blk_cell BK112.out 7).trans rfl; have hcz11_8 : w10.cell? ⟨gb112, 8, none⟩ = some (.int .i64 a0_8) := (blk_cell BK112.out 8).trans rfl; have hcz11_9 : w10.cell? ⟨gb112, 9, none⟩ = some (.bool a0_9) := (blk_cell BK112.out 9).trans rfl; have hcz11_10 : w10.cell? ⟨gb112, 10, none⟩ = some (.int .u32 a0_10) := (blk_cell BK112.out 10).trans rfl; have hcz11_11 : w10.cell? ⟨gb112, 11, none⟩ = some (.int .i64 a0_11) := (blk_cell BK112.out 11).trans rfl; have hcz11_12 : w10.cell? ⟨gb112, 12, none⟩ = some (.bool a0_12) := (blk_cell BK112.out 12).trans rfl; have hcz11_13 : w10.cell? ⟨gb112, 13, none⟩ = some (.slice A0_13 l0_13.length c0_13) := (blk_cell BK112.out 13).trans rfl; have hcz11_14 : w10.cell? ⟨gb112, 14, none⟩ = some (.slice A0_14 l0_14.length c0_14) := (blk_cell BK112.out 14).trans rfl; have hfz11_0 := blk_frozen BK112.out 0; have hfz11_1 := blk_frozen BK112.out 1; have hfz11_2 := blk_frozen BK112.out 2; have hfz11_3 := blk_frozen BK112.out 3; have hfz11_4 := blk_frozen BK112.out 4; have hfz11_5 := blk_frozen BK112.out 5; have hfz11_6 := blk_frozen BK112.out 6; have hfz11_7 := blk_frozen BK112.out 7; have hfz11_8 := blk_frozen BK112.out 8; have hfz11_9 := blk_frozen BK112.out 9; have hfz11_10 := blk_frozen BK112.out 10; have hfz11_11 := blk_frozen BK112.out 11; have hfz11_12 := blk_frozen BK112.out 12; have hfz11_13 := blk_frozen BK112.out 13; have hfz11_14 := blk_frozen BK112.out 14) | (go_at_call 153; (with_reducible refine (ip4_may_1.calls a0_4 a0_5 a0_6 true _ A7.out).mono ?_); rintro e w12 ⟨rfl, hb⟩; have n0_ := Aside0.mk (blk_below (g := gb112) (o := .cells #[.int .i64 a0_0, .int .i64 a0_1, .int .u64 a0_2, .int .u64 a0_3, .int .i64 a0_4, .int .u64 a0_5, .int .u64 a0_6, .int .i64 a0_7, .int .i64 a0_8, .bool a0_9, .int .u32 a0_10, .int .i64 a0_11, .bool a0_12, .slice A0_13 l0_13.length c0_13, .slice A0_14 l0_14.length c0_14] 55 (0, 0)) (by (with_reducible repeat (first | refine blk_drewN ?_ _ | refine blk_drew ?_ | refine blk_alloc ?_ _)); exact BK112.out) hb); have n1_ := Aside0.mk (below_step (by repeat (first | (with_reducible first | exact HB.out | apply below_alloc | apply pw_below_drewN | apply below_drew1 | refine below_set ?_ GE112.out) | exact HB.out)) hb); clear BK112; clear HB; have BK112 := n0_; have HB := n1_; clear n0_ n1_; (try clear hb); (try clear hb2); (try clear hk); (try clear hi); have hcz13_0 : w12.cell? ⟨gb112, 0, none⟩ = some (.int .i64 a0_0) := (blk_cell BK112.out 0).trans rfl; have hcz13_1 : w12.cell? ⟨gb112, 1, none⟩ = some (.int .i64 a0_1) := (blk_cell BK112.out 1).trans rfl; have hcz13_2 : w12.cell? ⟨gb112, 2, none⟩ = some (.int .u64 a0_2) := (blk_cell BK112.out 2).trans rfl; have hcz13_3 : w12.cell? ⟨gb112, 3, none⟩ = some (.int .u64 a0_3) := (blk_cell BK112.out 3).trans rfl; have hcz13_4 : w12.cell? ⟨gb112, 4, none⟩ = some (.int .i64 a0_4) := (blk_cell BK112.out 4).trans rfl; have hcz13_5 : w12.cell? ⟨gb112, 5, none⟩ = some (.int .u64 a0_5) := (blk_cell BK112.out 5).trans rfl; have hcz13_6 : w12.cell? ⟨gb112, 6, none⟩ = some (.int .u64 a0_6) := (blk_cell BK112.out 6).trans rfl; have hcz13_7 : w12.cell? ⟨gb112, 7, none⟩ = some (.int .i64 a0_7) := (blk_cell BK112.out 7).trans rfl; have hcz13_8 : w12.cell? ⟨gb112, 8, none⟩ = some (.int .i64 a0_8) := (blk_cell BK112.out 8).trans rfl; have hcz13_9 : w12.cell? ⟨gb112, 9, none⟩ = some (.bool a0_9) := (blk_cell BK112.out 9).trans rfl; have hcz13_10 : w12.cell? ⟨gb112, 10, none⟩ = some (.int .u32 a0_10) := (blk_cell BK112.out 10).trans rfl; have hcz13_11 : w12.cell? ⟨gb112, 11, none⟩ = some (.int .i64 a0_11) := (blk_cell BK112.out 11).trans rfl; have hcz13_12 : w12.cell? ⟨gb112, 12, none⟩ = some (.bool a0_12) := (blk_cell BK112.out 12).trans rfl; have hcz13_13 : w12.cell? ⟨gb112, 13, none⟩ = some (.slice A0_13 l0_13.length c0_13) := (blk_cell BK112.out 13).trans rfl; have hcz13_14 : w12.cell? ⟨gb112, 14, none⟩ = some (.slice A0_14 l0_14.length c0_14) := (blk_cell BK112.out 14).trans rfl; have hfz13_0 := blk_frozen BK112.out 0; have hfz13_1 := blk_frozen BK112.out 1; have hfz13_2 := blk_frozen BK112.out 2; have hfz13_3 := blk_frozen BK112.out 3; have hfz13_4 := blk_frozen BK112.out 4; have hfz13_5 := blk_frozen BK112.out 5; have hfz13_6 := blk_frozen BK112.out 6; have hfz13_7 := blk_frozen BK112.out 7; have hfz13_8 := blk_frozen BK112.out 8; have hfz13_9 := blk_frozen BK112.out 9; have hfz13_10 := blk_frozen BK112.out 10; have hfz13_11 := blk_frozen BK112.out 11; have hfz13_12 := blk_frozen BK112.out 12; have hfz13_13 := blk_frozen BK112.out 13; have hfz13_14 := blk_frozen BK112.out 14))
          go_meet
          case rel => exact ⟨_, (decide ((l0_13.length : Int) > 0)), (by first | rfl | (simp; done) | (simp [*]; done)), H', ⟨by first | omega | exact Nat.le_refl _⟩, ⟨by (with_reducible repeat (first | refine blk_drewN ?_ _ | refine blk_drew ?_ | refine blk_alloc ?_ _)); exact BK112.out⟩, ⟨by repeat (first | (with_reducible first | exact HB.out | apply below_alloc | apply pw_below_drewN | apply below_drew1 | refine below_set ?_ GE112.out) | exact HB.out)⟩⟩
        · replace c8 := Bool.eq_false_iff.mpr c8
          subst c8
          have H1 : (ip4_may.j0 k true a0_0 a0_1 a0_2 a0_3 a0_4 a0_5 a0_6 a0_7 a0_8 a0_9 a0_10 a0_11 a0_12 l0_13 l0_14) = some r := by rw [if_neg (show ¬ (false = true) by decide)] at H; exact H
          clear H
          have H := H1
          clear H1
          have H' := Aside0.mk H
          clear H
          have hcz14_0 : w3.cell? ⟨gb112, 0, none⟩ = some (.int .i64 a0_0) := (blk_cell BK112.out 0).trans rfl
          have hcz14_1 : w3.cell? ⟨gb112, 1, none⟩ = some (.int .i64 a0_1) := (blk_cell BK112.out 1).trans rfl
          have hcz14_2 : w3.cell? ⟨gb112, 2, none⟩ = some (.int .u64 a0_2) := (blk_cell BK112.out 2).trans rfl
          have hcz14_3 : w3.cell? ⟨gb112, 3, none⟩ = some (.int .u64 a0_3) := (blk_cell BK112.out 3).trans rfl
          have hcz14_4 : w3.cell? ⟨gb112, 4, none⟩ = some (.int .i64 a0_4) := (blk_cell BK112.out 4).trans rfl
          have hcz14_5 : w3.cell? ⟨gb112, 5, none⟩ = some (.int .u64 a0_5) := (blk_cell BK112.out 5).trans rfl
          have hcz14_6 : w3.cell? ⟨gb112, 6, none⟩ = some (.int .u64 a0_6) := (blk_cell BK112.out 6).trans rfl
          have hcz14_7 : w3.cell? ⟨gb112, 7, none⟩ = some (.int .i64 a0_7) := (blk_cell BK112.out 7).trans rfl
          have hcz14_8 : w3.cell? ⟨gb112, 8, none⟩ = some (.int .i64 a0_8) := (blk_cell BK112.out 8).trans rfl
          have hcz14_9 : w3.cell? ⟨gb112, 9, none⟩ = some (.bool a0_9) := (blk_cell BK112.out 9).trans rfl
          have hcz14_10 : w3.cell? ⟨gb112, 10, none⟩ = some (.int .u32 a0_10) := (blk_cell BK112.out 10).trans rfl
          have hcz14_11 : w3.cell? ⟨gb112, 11, none⟩ = some (.int .i64 a0_11) := (blk_cell BK112.out 11).trans rfl
          have hcz14_12 : w3.cell? ⟨gb112, 12, none⟩ = some (.bool a0_12) := (blk_cell BK112.out 12).trans rfl
          have hcz14_13 : w3.cell? ⟨gb112, 13, none⟩ = some (.slice A0_13 l0_13.length c0_13) := (blk_cell BK112.out 13).trans rfl
          have hcz14_14 : w3.cell? ⟨gb112, 14, none⟩ = some (.slice A0_14 l0_14.length c0_14) := (blk_cell BK112.out 14).trans rfl
          have hfz14_0 := blk_frozen BK112.out 0
          have hfz14_1 := blk_frozen BK112.out 1
          have hfz14_2 := blk_frozen BK112.out 2
          have hfz14_3 := blk_frozen BK112.out 3
          have hfz14_4 := blk_frozen BK112.out 4
          have hfz14_5 := blk_frozen BK112.out 5
          have hfz14_6 := blk_frozen BK112.out 6
          have hfz14_7 := blk_frozen BK112.out 7
          have hfz14_8 := blk_frozen BK112.out 8
          have hfz14_9 := blk_frozen BK112.out 9
          have hfz14_10 := blk_frozen BK112.out 10
          have hfz14_11 := blk_frozen BK112.out 11
          have hfz14_12 := blk_frozen BK112.out 12
          have hfz14_13 := blk_frozen BK112.out 13
          have hfz14_14 := blk_frozen BK112.out 14
          go_wp2_with (first | (go_at_call 153; (with_reducible refine (ip4_may_1.calls a0_1 a0_2 a0_3 true _ A5.out).mono ?_); rintro e w15 ⟨rfl, hb⟩; have n0_ := Aside0.mk (blk_below (g := gb112) (o := .cells #[.int .i64 a0_0, .int .i64 a0_1, .int .u64 a0_2, .int .u64 a0_3, .int .i64 a0_4, .int .u64 a0_5, .int .u64 a0_6, .int .i64 a0_7, .int .i64 a0_8, .bool a0_9, .int .u32 a0_10, .int .i64 a0_11, .bool a0_12, .slice A0_13 l0_13.length c0_13, .slice A0_14 l0_14.length c0_14] 55 (0, 0)) (by (with_reducible repeat (first | refine blk_drewN ?_ _ | refine blk_drew ?_ | refine blk_alloc ?_ _)); exact BK112.out) hb); have n1_ := Aside0.mk (below_step (by repeat (first | (with_reducible first | exact HB.out | apply below_alloc | apply pw_below_drewN | apply below_drew1 | refine below_set ?_ GE112.out) | exact HB.out)) hb); clear BK112; clear HB; have BK112 := n0_; have HB := n1_; clear n0_ n1_; (try clear hb); (try clear hb2); (try clear hk); (try clear hi); have hcz16_0 : w15.cell? ⟨gb112, 0, none⟩ = some (.int .i64 a0_0) := (blk_cell BK112.out 0).trans rfl; have hcz16_1 : w15.cell? ⟨gb112, 1, none⟩ = some (.int .i64 a0_1) := (blk_cell BK112.out 1).trans rfl; have hcz16_2 : w15.cell? ⟨gb112, 2, none⟩ = some (.int .u64 a0_2) := (blk_cell BK112.out 2).trans rfl; have hcz16_3 : w15.cell? ⟨gb112, 3, none⟩ = some (.int .u64 a0_3) := (blk_cell BK112.out 3).trans rfl; have hcz16_4 : w15.cell? ⟨gb112, 4, none⟩ = some (.int .i64 a0_4) := (blk_cell BK112.out 4).trans rfl; have hcz16_5 : w15.cell? ⟨gb112, 5, none⟩ = some (.int .u64 a0_5) := (blk_cell BK112.out 5).trans rfl; have hcz16_6 : w15.cell? ⟨gb112, 6, none⟩ = some (.int .u64 a0_6) := (blk_cell BK112.out 6).trans rfl; have hcz16_7 : w15.cell? ⟨gb112, 7, none⟩ = some (.int .i64 a0_7) := (blk_cell BK112.out 7).trans rfl; have hcz16_8 : w15.cell? ⟨gb112, 8, none⟩ = some (.int .i64 a0_8) := (blk_cell BK112.out 8).trans rfl; have hcz16_9 : w15.cell? ⟨gb112, 9, none⟩ = some (.bool a0_9) := (blk_cell BK112.out 9).trans rfl; have hcz16_10 : w15.cell? ⟨gb112, 10, none⟩ = some (.int .u32 a0_10) := (blk_cell BK112.out 10).trans rfl; have hcz16_11 : w15.cell? ⟨gb112, 11, none⟩ = some (.int .i64 a0_11) := (blk_cell BK112.out 11).trans rfl; have hcz16_12 : w15.cell? ⟨gb112, 12, none⟩ = some (.bool a0_12) := (blk_cell BK112.out 12).trans rfl; have hcz16_13 : w15.cell? ⟨gb112, 13, none⟩ = some (.slice A0_13 l0_13.length c0_13) := (blk_cell BK112.out 13).trans rfl; have hcz16_14 : w15.cell? ⟨gb112, 14, none⟩ = some (.slice A0_14 l0_14.length c0_14) := (blk_cell BK112.out 14).trans rfl; have hfz16_0 := blk_frozen BK112.out 0; have hfz16_1 := blk_frozen BK112.out 1; have hfz16_2 := blk_frozen BK112.out 2; have hfz16_3 := blk_frozen BK112.out 3; have hfz16_4 := blk_frozen BK112.out 4; have hfz16_5 := blk_frozen BK112.out 5; have hfz16_6 := blk_frozen BK112.out 6; have hfz16_7 := blk_frozen BK112.out 7; have hfz16_8 := blk_frozen BK112.out 8; have hfz16_9 := blk_frozen BK112.out 9; have hfz16_10 := blk_frozen BK112.out 10; have hfz16_11 := blk_frozen BK112.out 11; have hfz16_12 := blk_frozen BK112.out 12; have hfz16_13 := blk_frozen BK112.out 13; have hfz16_14 := blk_frozen BK112.out 14) | (go_at_call 153; (with_reducible refine (ip4_may_1.calls a0_4 a0_5 a0_6 false _ A7.out).mono ?_); rintro e w17 ⟨rfl, hb⟩; have n0_ := Aside0.mk (blk_below (g := gb112) (o := .cells #[.int .i64 a0_0, .int .i64 a0_1, .int .u64 a0_2, .int .u64 a0_3, .int .i64 a0_4, .int .u64 a0_5, .int .u64 a0_6, .int .i64 a0_7, .int .i64 a0_8, .bool a0_9, .int .u32 a0_10, .int .i64 a0_11, .bool a0_12, .slice A0_13 l0_13.length c0_13, .slice A0_14 l0_14.length c0_14] 55 (0, 0)) (by (with_reducible repeat (first | refine blk_drewN ?_ _ | refine blk_drew ?_ | refine blk_alloc ?_ _)); exact BK112.out) hb); have n1_ := Aside0.mk (below_step (by repeat (first | (with_reducible first | exact HB.out | apply below_alloc | apply pw_below_drewN | apply below_drew1 | refine below_set ?_ GE112.out) | exact HB.out)) hb); clear BK112; clear HB; have BK112 := n0_; have HB := n1_; clear n0_ n1_; (try clear hb); (try clear hb2); (try clear hk); (try clear hi)))
          go_meet
          case rel => exact ⟨_, (true), (by first | rfl | (simp; done) | (simp [*]; done)), H', ⟨by first | omega | exact Nat.le_refl _⟩, ⟨by (with_reducible repeat (first | refine blk_drewN ?_ _ | refine blk_drew ?_ | refine blk_alloc ?_ _)); exact BK112.out⟩, ⟨by repeat (first | (with_reducible first | exact HB.out | apply below_alloc | apply pw_below_drewN | apply below_drew1 | refine below_set ?_ GE112.out) | exact HB.out)⟩⟩
      · replace c6 := Bool.eq_false_iff.mpr c6
        subst c6
        have H1 : (ip4_may.j0 k true a0_0 a0_1 a0_2 a0_3 a0_4 a0_5 a0_6 a0_7 a0_8 a0_9 a0_10 a0_11 a0_12 l0_13 l0_14) = some r := by rw [if_neg (show ¬ (false = true) by decide)] at H; exact H
        clear H
        have H := H1
        clear H1
        have H' := Aside0.mk H
        clear H
        have hcz18_0 : w3.cell? ⟨gb112, 0, none⟩ = some (.int .i64 a0_0) := (blk_cell BK112.out 0).trans rfl
        have hcz18_1 : w3.cell? ⟨gb112, 1, none⟩ = some (.int .i64 a0_1) := (blk_cell BK112.out 1).trans rfl
        have hcz18_2 : w3.cell? ⟨gb112, 2, none⟩ = some (.int .u64 a0_2) := (blk_cell BK112.out 2).trans rfl
        have hcz18_3 : w3.cell? ⟨gb112, 3, none⟩ = some (.int .u64 a0_3) := (blk_cell BK112.out 3).trans rfl
        have hcz18_4 : w3.cell? ⟨gb112, 4, none⟩ = some (.int .i64 a0_4) := (blk_cell BK112.out 4).trans rfl
        have hcz18_5 : w3.cell? ⟨gb112, 5, none⟩ = some (.int .u64 a0_5) := (blk_cell BK112.out 5).trans rfl
        have hcz18_6 : w3.cell? ⟨gb112, 6, none⟩ = some (.int .u64 a0_6) := (blk_cell BK112.out 6).trans rfl
        have hcz18_7 : w3.cell? ⟨gb112, 7, none⟩ = some (.int .i64 a0_7) := (blk_cell BK112.out 7).trans rfl
        have hcz18_8 : w3.cell? ⟨gb112, 8, none⟩ = some (.int .i64 a0_8) := (blk_cell BK112.out 8).trans rfl
        have hcz18_9 : w3.cell? ⟨gb112, 9, none⟩ = some (.bool a0_9) := (blk_cell BK112.out 9).trans rfl
        have hcz18_10 : w3.cell? ⟨gb112, 10, none⟩ = some (.int .u32 a0_10) := (blk_cell BK112.out 10).trans rfl
        have hcz18_11 : w3.cell? ⟨gb112, 11, none⟩ = some (.int .i64 a0_11) := (blk_cell BK112.out 11).trans rfl
        have hcz18_12 : w3.cell? ⟨gb112, 12, none⟩ = some (.bool a0_12) := (blk_cell BK112.out 12).trans rfl
        have hcz18_13 : w3.cell? ⟨gb112, 13, none⟩ = some (.slice A0_13 l0_13.length c0_13) := (blk_cell BK112.out 13).trans rfl
        have hcz18_14 : w3.cell? ⟨gb112, 14, none⟩ = some (.slice A0_14 l0_14.length c0_14) := (blk_cell BK112.out 14).trans rfl
        have hfz18_0 := blk_frozen BK112.out 0
        have hfz18_1 := blk_frozen BK112.out 1
        have hfz18_2 := blk_frozen BK112.out 2
        have hfz18_3 := blk_frozen BK112.out 3
        have hfz18_4 := blk_frozen BK112.out 4
        have hfz18_5 := blk_frozen BK112.out 5
        have hfz18_6 := blk_frozen BK112.out 6
        have hfz18_7 := blk_frozen BK112.out 7
        have hfz18_8 := blk_frozen BK112.out 8
        have hfz18_9 := blk_frozen BK112.out 9
        have hfz18_10 := blk_frozen BK112.out 10
        have hfz18_11 := blk_frozen BK112.out 11
        have hfz18_12 := blk_frozen BK112.out 12
        have hfz18_13 := blk_frozen BK112.out 13
        have hfz18_14 := blk_frozen BK112.out 14
        go_wp2_with (first | (go_at_call 153; (with_reducible refine (ip4_may_1.calls a0_1 a0_2 a0_3 false _ A5.out).mono ?_); rintro e w19 ⟨rfl, hb⟩; have n0_ := Aside0.mk (blk_below (g := gb112) (o := .cells #[.int .i64 a0_0, .int .i64 a0_1, .int .u64 a0_2, .int .u64 a0_3, .int .i64 a0_4, .int .u64 a0_5, .int .u64 a0_6, .int .i64 a0_7, .int .i64 a0_8, .bool a0_9, .int .u32 a0_10, .int .i64 a0_11, .bool a0_12, .slice A0_13 l0_13.length c0_13, .slice A0_14 l0_14.length c0_14] 55 (0, 0)) (by (with_reducible repeat (first | refine blk_drewN ?_ _ | refine blk_drew ?_ | refine blk_alloc ?_ _)); exact BK112.out) hb); have n1_ := Aside0.mk (below_step (by repeat (first | (with_reducible first | exact HB.out | apply below_alloc | apply pw_below_drewN | apply below_drew1 | refine below_set ?_ GE112.out) | exact HB.out)) hb); clear BK112; clear HB; have BK112 := n0_; have HB := n1_; clear n0_ n1_; (try clear hb); (try clear hb2); (try clear hk); (try clear hi)))
        go_meet
        case rel => exact ⟨_, (true), (by first | rfl | (simp; done) | (simp [*]; done)), H', ⟨by first | omega | exact Nat.le_refl _⟩, ⟨by (with_reducible repeat (first | refine blk_drewN ?_ _ | refine blk_drew ?_ | refine blk_alloc ?_ _)); exact BK112.out⟩, ⟨by repeat (first | (with_reducible first | exact HB.out | apply below_alloc | apply pw_below_drewN | apply below_drew1 | refine below_set ?_ GE112.out) | exact HB.out)⟩⟩
    · rw [if_neg c4] at H
      have c4b0 : (a0_0 == 4) = false := beq_eq_false_iff_ne.mpr c4
      have c4b1 : (a0_0 != 4) = true := bne_iff_ne.mpr c4
      (first | rw [c4b0] | (simp only [i64_w, i32_w]; rw [c4b0]) | skip)
      have H' := Aside0.mk H
      clear H
      have hcz20_0 : w3.cell? ⟨gb112, 0, none⟩ = some (.int .i64 a0_0) := (blk_cell BK112.out 0).trans rfl
      have hcz20_1 : w3.cell? ⟨gb112, 1, none⟩ = some (.int .i64 a0_1) := (blk_cell BK112.out 1).trans rfl
      have hcz20_2 : w3.cell? ⟨gb112, 2, none⟩ = some (.int .u64 a0_2) := (blk_cell BK112.out 2).trans rfl
      have hcz20_3 : w3.cell? ⟨gb112, 3, none⟩ = some (.int .u64 a0_3) := (blk_cell BK112.out 3).trans rfl
      have hcz20_4 : w3.cell? ⟨gb112, 4, none⟩ = some (.int .i64 a0_4) := (blk_cell BK112.out 4).trans rfl
      have hcz20_5 : w3.cell? ⟨gb112, 5, none⟩ = some (.int .u64 a0_5) := (blk_cell BK112.out 5).trans rfl
      have hcz20_6 : w3.cell? ⟨gb112, 6, none⟩ = some (.int .u64 a0_6) := (blk_cell BK112.out 6).trans rfl
      have hcz20_7 : w3.cell? ⟨gb112, 7, none⟩ = some (.int .i64 a0_7) := (blk_cell BK112.out 7).trans rfl
      have hcz20_8 : w3.cell? ⟨gb112, 8, none⟩ = some (.int .i64 a0_8) := (blk_cell BK112.out 8).trans rfl
      have hcz20_9 : w3.cell? ⟨gb112, 9, none⟩ = some (.bool a0_9) := (blk_cell BK112.out 9).trans rfl
      have hcz20_10 : w3.cell? ⟨gb112, 10, none⟩ = some (.int .u32 a0_10) := (blk_cell BK112.out 10).trans rfl
      have hcz20_11 : w3.cell? ⟨gb112, 11, none⟩ = some (.int .i64 a0_11) := (blk_cell BK112.out 11).trans rfl
      have hcz20_12 : w3.cell? ⟨gb112, 12, none⟩ = some (.bool a0_12) := (blk_cell BK112.out 12).trans rfl
      have hcz20_13 : w3.cell? ⟨gb112, 13, none⟩ = some (.slice A0_13 l0_13.length c0_13) := (blk_cell BK112.out 13).trans rfl
      have hcz20_14 : w3.cell? ⟨gb112, 14, none⟩ = some (.slice A0_14 l0_14.length c0_14) := (blk_cell BK112.out 14).trans rfl
      have hfz20_0 := blk_frozen BK112.out 0
      have hfz20_1 := blk_frozen BK112.out 1
      have hfz20_2 := blk_frozen BK112.out 2
      have hfz20_3 := blk_frozen BK112.out 3
      have hfz20_4 := blk_frozen BK112.out 4
      have hfz20_5 := blk_frozen BK112.out 5
      have hfz20_6 := blk_frozen BK112.out 6
      have hfz20_7 := blk_frozen BK112.out 7
      have hfz20_8 := blk_frozen BK112.out 8
      have hfz20_9 := blk_frozen BK112.out 9
      have hfz20_10 := blk_frozen BK112.out 10
      have hfz20_11 := blk_frozen BK112.out 11
      have hfz20_12 := blk_frozen BK112.out 12
      have hfz20_13 := blk_frozen BK112.out 13
      have hfz20_14 := blk_frozen BK112.out 14
      go_wp2
      go_meet
      case rel => exact ⟨_, (true), (by first | rfl | (simp; done) | (simp [*]; done)), H', ⟨by first | omega | exact Nat.le_refl _⟩, ⟨by (with_reducible repeat (first | refine blk_drewN ?_ _ | refine blk_drew ?_ | refine blk_alloc ?_ _)); exact BK112.out⟩, ⟨by repeat (first | (with_reducible first | exact HB.out | apply below_alloc | apply pw_below_drewN | apply below_drew1 | refine below_set ?_ GE112.out) | exact HB.out)⟩⟩
  case rest =>
    clear HC2
    try clear c1
    try clear p2
    try clear c4
    try clear c4b0
    try clear c4b1
    try clear p4
    try clear c6
    try clear c8
    try clear c11
    try clear hcz11_0
    try clear hcz11_1
    try clear hcz11_10
    try clear hcz11_11
    try clear hcz11_12
    try clear hcz11_13
    try clear hcz11_14
    try clear hcz11_2
    try clear hcz11_3
    try clear hcz11_4
    try clear hcz11_5
    try clear hcz11_6
    try clear hcz11_7
    try clear hcz11_8
    try clear hcz11_9
    try clear hcz13_0
    try clear hcz13_1
    try clear hcz13_10
    try clear hcz13_11
    try clear hcz13_12
    try clear hcz13_13
    try clear hcz13_14
    try clear hcz13_2
    try clear hcz13_3
    try clear hcz13_4
    try clear hcz13_5
    try clear hcz13_6
    try clear hcz13_7
    try clear hcz13_8
    try clear hcz13_9
    try clear hcz14_0
    try clear hcz14_1
    try clear hcz14_10
    try clear hcz14_11
    try clear hcz14_12
    try clear hcz14_13
    try clear hcz14_14
    try clear hcz14_2
    try clear hcz14_3
    try clear hcz14_4
    try clear hcz14_5
    try clear hcz14_6
    try clear hcz14_7
    try clear hcz14_8
    try clear hcz14_9
    try clear hcz16_0
    try clear hcz16_1
    try clear hcz16_10
    try clear hcz16_11
    try clear hcz16_12
    try clear hcz16_13
    try clear hcz16_14
    try clear hcz16_2
    try clear hcz16_3
    try clear hcz16_4
    try clear hcz16_5
    try clear hcz16_6
    try clear hcz16_7
    try clear hcz16_8
    try clear hcz16_9
    try clear hcz18_0
    try clear hcz18_1
    try clear hcz18_10
    try clear hcz18_11
    try clear hcz18_12
    try clear hcz18_13
    try clear hcz18_14
    try clear hcz18_2
    try clear hcz18_3
    try clear hcz18_4
    try clear hcz18_5
    try clear hcz18_6
    try clear hcz18_7
    try clear hcz18_8
    try clear hcz18_9
    try clear hcz20_0
    try clear hcz20_1
    try clear hcz20_10
    try clear hcz20_11
    try clear hcz20_12
    try clear hcz20_13
    try clear hcz20_14
    try clear hcz20_2
    try clear hcz20_3
    try clear hcz20_4
    try clear hcz20_5
    try clear hcz20_6
    try clear hcz20_7
    try clear hcz20_8
    try clear hcz20_9
    try clear hcz9_0
    try clear hcz9_1
    try clear hcz9_10
    try clear hcz9_11
    try clear hcz9_12
    try clear hcz9_13
    try clear hcz9_14
    try clear hcz9_2
    try clear hcz9_3
    try clear hcz9_4
    try clear hcz9_5
    try clear hcz9_6
    try clear hcz9_7
    try clear hcz9_8
    try clear hcz9_9
    try clear hfz11_0
    try clear hfz11_1
    try clear hfz11_10
    try clear hfz11_11
    try clear hfz11_12
    try clear hfz11_13
    try clear hfz11_14
    try clear hfz11_2
    try clear hfz11_3
    try clear hfz11_4
    try clear hfz11_5
    try clear hfz11_6
    try clear hfz11_7
    try clear hfz11_8
    try clear hfz11_9
    try clear hfz13_0
    try clear hfz13_1
    try clear hfz13_10
    try clear hfz13_11
    try clear hfz13_12
    try clear hfz13_13
    try clear hfz13_14
    try clear hfz13_2
    try clear hfz13_3
    try clear hfz13_4
    try clear hfz13_5
    try clear hfz13_6
    try clear hfz13_7
    try clear hfz13_8
    try clear hfz13_9
    try clear hfz14_0
    try clear hfz14_1
    try clear hfz14_10
    try clear hfz14_11
    try clear hfz14_12
    try clear hfz14_13
    try clear hfz14_14
    try clear hfz14_2
    try clear hfz14_3
    try clear hfz14_4
    try clear hfz14_5
    try clear hfz14_6
    try clear hfz14_7
    try clear hfz14_8
    try clear hfz14_9
    try clear hfz16_0
    try clear hfz16_1
    try clear hfz16_10
    try clear hfz16_11
    try clear hfz16_12
    try clear hfz16_13
    try clear hfz16_14
    try clear hfz16_2
    try clear hfz16_3
    try clear hfz16_4
    try clear hfz16_5
    try clear hfz16_6
    try clear hfz16_7
    try clear hfz16_8
    try clear hfz16_9
    try clear hfz18_0
    try clear hfz18_1
    try clear hfz18_10
    try clear hfz18_11
    try clear hfz18_12
    try clear hfz18_13
    try clear hfz18_14
    try clear hfz18_2
    try clear hfz18_3
    try clear hfz18_4
    try clear hfz18_5
    try clear hfz18_6
    try clear hfz18_7
    try clear hfz18_8
    try clear hfz18_9
    try clear hfz20_0
    try clear hfz20_1
    try clear hfz20_10
    try clear hfz20_11
    try clear hfz20_12
    try clear hfz20_13
    try clear hfz20_14
    try clear hfz20_2
    try clear hfz20_3
    try clear hfz20_4
    try clear hfz20_5
    try clear hfz20_6
    try clear hfz20_7
    try clear hfz20_8
    try clear hfz20_9
    try clear hfz9_0
    try clear hfz9_1
    try clear hfz9_10
    try clear hfz9_11
    try clear hfz9_12
    try clear hfz9_13
    try clear hfz9_14
    try clear hfz9_2
    try clear hfz9_3
    try clear hfz9_4
    try clear hfz9_5
    try clear hfz9_6
    try clear hfz9_7
    try clear hfz9_8
    try clear hfz9_9
    obtain ⟨kq, x4_1, rfl, HA, HJ1, BK112, HB⟩ := hcut
    cases kq with
    | zero => exact absurd HA.out (by simp [ip4_may.j0])
    | succ kj1 =>
      have H := HA.out
      clear HA
      simp only [ip4_may.j0] at H
      by_cases c21 : x4_1 = true
      · subst c21
        have H1 : (some false) = some r := by rw [if_pos rfl] at H; exact H
        clear H
        have H := H1
        clear H1
        obtain rfl := Option.some.inj H
        go_wp2
        go_ret
        exact ⟨by first | rfl | (simp [errW_none, errW_some] <;> rfl) | (simp [*, errW_none, errW_some] <;> rfl), by repeat (first | (with_reducible first | exact HB.out | apply below_alloc | apply pw_below_drewN | apply below_drew1 | refine below_set ?_ GE112.out) | exact HB.out)⟩
      · replace c21 := Bool.eq_false_iff.mpr c21
        subst c21
        have H1 : ((ip4_byte1.f a0_7).bind fun t115 => (if t115 = true then ((ip4_byte1.f a0_8).bind fun t116 => (if t116 = true then (if a0_8 = 0 then (ip4_may.j1 kj1 true a0_0 a0_1 a0_2 a0_3 a0_4 a0_5 a0_6 a0_7 a0_8 a0_9 a0_10 a0_11 a0_12 l0_13 l0_14) else (ip4_may.j1 kj1 (decide (a0_10 > 65535)) a0_0 a0_1 a0_2 a0_3 a0_4 a0_5 a0_6 a0_7 a0_8 a0_9 a0_10 a0_11 a0_12 l0_13 l0_14)) else (ip4_may.j1 kj1 true a0_0 a0_1 a0_2 a0_3 a0_4 a0_5 a0_6 a0_7 a0_8 a0_9 a0_10 a0_11 a0_12 l0_13 l0_14))) else (ip4_may.j1 kj1 true a0_0 a0_1 a0_2 a0_3 a0_4 a0_5 a0_6 a0_7 a0_8 a0_9 a0_10 a0_11 a0_12 l0_13 l0_14))) = some r := by rw [if_neg (show ¬ (false = true) by decide)] at H; exact H
        clear H
        have H := H1
        clear H1
        have HC22 := Aside0.mk H
        clear H
        go_upto_region 4 with (fail)
        go_cut [28] (fun v28 wc => ∃ (kq : Nat) (x28_21 : Bool), v28 = .bool x28_21 ∧ Aside0 (ip4_may.j1 kq x28_21 a0_0 a0_1 a0_2 a0_3 a0_4 a0_5 a0_6 a0_7 a0_8 a0_9 a0_10 a0_11 a0_12 l0_13 l0_14 = some r) ∧ Aside0 (kq ≤ kj1) ∧ Aside0 (wc.heap[gb112]? = some (.cells #[.int .i64 a0_0, .int .i64 a0_1, .int .u64 a0_2, .int .u64 a0_3, .int .i64 a0_4, .int .u64 a0_5, .int .u64 a0_6, .int .i64 a0_7, .int .i64 a0_8, .bool a0_9, .int .u32 a0_10, .int .i64 a0_11, .bool a0_12, (.slice A0_13 l0_13.length c0_13), (.slice A0_14 l0_14.length c0_14)] 55 (0, 0))) ∧ Aside0 (Below w.heap.size w wc))
        case first =>
          have H := HC22.out
          clear HC22
          replace H := Option.bind_eq_some_iff.mp H
          obtain ⟨t115, A230, H⟩ := H
          replace H : (if t115 = true then ((ip4_byte1.f a0_8).bind fun t116 => (if t116 = true then (if a0_8 = 0 then (ip4_may.j1 kj1 true a0_0 a0_1 a0_2 a0_3 a0_4 a0_5 a0_6 a0_7 a0_8 a0_9 a0_10 a0_11 a0_12 l0_13 l0_14) else (ip4_may.j1 kj1 (decide (a0_10 > 65535)) a0_0 a0_1 a0_2 a0_3 a0_4 a0_5 a0_6 a0_7 a0_8 a0_9 a0_10 a0_11 a0_12 l0_13 l0_14)) else (ip4_may.j1 kj1 true a0_0 a0_1 a0_2 a0_3 a0_4 a0_5 a0_6 a0_7 a0_8 a0_9 a0_10 a0_11 a0_12 l0_13 l0_14))) else (ip4_may.j1 kj1 true a0_0 a0_1 a0_2 a0_3 a0_4 a0_5 a0_6 a0_7 a0_8 a0_9 a0_10 a0_11 a0_12 l0_13 l0_14)) = some r := H
          have A23 := Aside0.mk A230
          clear A230
          by_cases c24 : t115 = true
          · subst c24
            have H1 : ((ip4_byte1.f a0_8).bind fun t116 => (if t116 = true then (if a0_8 = 0 then (ip4_may.j1 kj1 true a0_0 a0_1 a0_2 a0_3 a0_4 a0_5 a0_6 a0_7 a0_8 a0_9 a0_10 a0_11 a0_12 l0_13 l0_14) else (ip4_may.j1 kj1 (decide (a0_10 > 65535)) a0_0 a0_1 a0_2 a0_3 a0_4 a0_5 a0_6 a0_7 a0_8 a0_9 a0_10 a0_11 a0_12 l0_13 l0_14)) else (ip4_may.j1 kj1 true a0_0 a0_1 a0_2 a0_3 a0_4 a0_5 a0_6 a0_7 a0_8 a0_9 a0_10 a0_11 a0_12 l0_13 l0_14))) = some r := by rw [if_pos rfl] at H; exact H
            clear H
            have H := H1
            clear H1
            replace H := Option.bind_eq_some_iff.mp H
            obtain ⟨t116, A250, H⟩ := H
            replace H : (if t116 = true then (if a0_8 = 0 then (ip4_may.j1 kj1 true a0_0 a0_1 a0_2 a0_3 a0_4 a0_5 a0_6 a0_7 a0_8 a0_9 a0_10 a0_11 a0_12 l0_13 l0_14) else (ip4_may.j1 kj1 (decide (a0_10 > 65535)) a0_0 a0_1 a0_2 a0_3 a0_4 a0_5 a0_6 a0_7 a0_8 a0_9 a0_10 a0_11 a0_12 l0_13 l0_14)) else (ip4_may.j1 kj1 true a0_0 a0_1 a0_2 a0_3 a0_4 a0_5 a0_6 a0_7 a0_8 a0_9 a0_10 a0_11 a0_12 l0_13 l0_14)) = some r := H
            have A25 := Aside0.mk A250
            clear A250
            by_cases c26 : t116 = true
            · subst c26
              have H1 : (if a0_8 = 0 then (ip4_may.j1 kj1 true a0_0 a0_1 a0_2 a0_3 a0_4 a0_5 a0_6 a0_7 a0_8 a0_9 a0_10 a0_11 a0_12 l0_13 l0_14) else (ip4_may.j1 kj1 (decide (a0_10 > 65535)) a0_0 a0_1 a0_2 a0_3 a0_4 a0_5 a0_6 a0_7 a0_8 a0_9 a0_10 a0_11 a0_12 l0_13 l0_14)) = some r := by rw [if_pos rfl] at H; exact H
              clear H
              have H := H1
              clear H1
              by_cases c27 : a0_8 = 0
              · rw [if_pos c27] at H
                have c27b0 : (a0_8 == 0) = true := beq_iff_eq.mpr c27
                have c27b1 : (a0_8 != 0) = false := bne_eq_false_iff_eq.mpr c27
                clear c27
                (first | rw [c27b0] | (simp only [i64_w, i32_w]; rw [c27b0]) | skip)
                have H' := Aside0.mk H
                clear H
                have hcz28_0 : wc.cell? ⟨gb112, 0, none⟩ = some (.int .i64 a0_0) := (blk_cell BK112.out 0).trans rfl
                have hcz28_1 : wc.cell? ⟨gb112, 1, none⟩ = some (.int .i64 a0_1) := (blk_cell BK112.out 1).trans rfl
                have hcz28_2 : wc.cell? ⟨gb112, 2, none⟩ = some (.int .u64 a0_2) := (blk_cell BK112.out 2).trans rfl
                have hcz28_3 : wc.cell? ⟨gb112, 3, none⟩ = some (.int .u64 a0_3) := (blk_cell BK112.out 3).trans rfl
                have hcz28_4 : wc.cell? ⟨gb112, 4, none⟩ = some (.int .i64 a0_4) := (blk_cell BK112.out 4).trans rfl
                have hcz28_5 : wc.cell? ⟨gb112, 5, none⟩ = some (.int .u64 a0_5) := (blk_cell BK112.out 5).trans rfl
                have hcz28_6 : wc.cell? ⟨gb112, 6, none⟩ = some (.int .u64 a0_6) := (blk_cell BK112.out 6).trans rfl
                have hcz28_7 : wc.cell? ⟨gb112, 7, none⟩ = some (.int .i64 a0_7) := (blk_cell BK112.out 7).trans rfl
                have hcz28_8 : wc.cell? ⟨gb112, 8, none⟩ = some (.int .i64 a0_8) := (blk_cell BK112.out 8).trans rfl
                have hcz28_9 : wc.cell? ⟨gb112, 9, none⟩ = some (.bool a0_9) := (blk_cell BK112.out 9).trans rfl
                have hcz28_10 : wc.cell? ⟨gb112, 10, none⟩ = some (.int .u32 a0_10) := (blk_cell BK112.out 10).trans rfl
                have hcz28_11 : wc.cell? ⟨gb112, 11, none⟩ = some (.int .i64 a0_11) := (blk_cell BK112.out 11).trans rfl
                have hcz28_12 : wc.cell? ⟨gb112, 12, none⟩ = some (.bool a0_12) := (blk_cell BK112.out 12).trans rfl
                have hcz28_13 : wc.cell? ⟨gb112, 13, none⟩ = some (.slice A0_13 l0_13.length c0_13) := (blk_cell BK112.out 13).trans rfl
                have hcz28_14 : wc.cell? ⟨gb112, 14, none⟩ = some (.slice A0_14 l0_14.length c0_14) := (blk_cell BK112.out 14).trans rfl
                have hfz28_0 := blk_frozen BK112.out 0
                have hfz28_1 := blk_frozen BK112.out 1
                have hfz28_2 := blk_frozen BK112.out 2
                have hfz28_3 := blk_frozen BK112.out 3
                have hfz28_4 := blk_frozen BK112.out 4
                have hfz28_5 := blk_frozen BK112.out 5
                have hfz28_6 := blk_frozen BK112.out 6
                have hfz28_7 := blk_frozen BK112.out 7
                have hfz28_8 := blk_frozen BK112.out 8
                have hfz28_9 := blk_frozen BK112.out 9
                have hfz28_10 := blk_frozen BK112.out 10
                have hfz28_11 := blk_frozen BK112.out 11
                have hfz28_12 := blk_frozen BK112.out 12
                have hfz28_13 := blk_frozen BK112.out 13
                have hfz28_14 := blk_frozen BK112.out 14
                go_wp2_with (first | ((with_reducible refine gate_callee (f := 154) rfl ?_); refine goesL_ (some 31) rfl rfl Try.func154 (by kernel_rfl) rfl #[.int .i64 a0_7] rfl (by (try simp only [List.map_toArray, List.map_cons, List.map_nil]); first | done | rfl | (simp only [List.length_drop, List.length_take]; rfl)) ?_; (with_reducible refine (ip4_byte1.calls a0_7 true _ A23.out).mono ?_); rintro e w' ⟨rfl, ⟨nd, rfl⟩⟩; refine ⟨_, rfl, ?_⟩) | (go_at_call 154; (with_reducible refine (ip4_byte1.calls a0_8 true _ A25.out).mono ?_); rintro e w' ⟨rfl, ⟨nd, rfl⟩⟩))
                go_meet
                case rel => exact ⟨_, (true), (by first | rfl | (simp; done) | (simp [*]; done)), H', ⟨by have := HJ1.out; first | omega | exact Nat.le_refl _⟩, ⟨by (with_reducible repeat (first | refine blk_drewN ?_ _ | refine blk_drew ?_ | refine blk_alloc ?_ _)); exact BK112.out⟩, ⟨by repeat (first | (with_reducible first | exact HB.out | apply below_alloc | apply pw_below_drewN | apply below_drew1 | refine below_set ?_ GE112.out) | exact HB.out)⟩⟩
              · rw [if_neg c27] at H
                have c27b0 : (a0_8 == 0) = false := beq_eq_false_iff_ne.mpr c27
                have c27b1 : (a0_8 != 0) = true := bne_iff_ne.mpr c27
                (first | rw [c27b0] | (simp only [i64_w, i32_w]; rw [c27b0]) | skip)
                have H' := Aside0.mk H
                clear H
                have hcz29_0 : wc.cell? ⟨gb112, 0, none⟩ = some (.int .i64 a0_0) := (blk_cell BK112.out 0).trans rfl
                have hcz29_1 : wc.cell? ⟨gb112, 1, none⟩ = some (.int .i64 a0_1) := (blk_cell BK112.out 1).trans rfl
                have hcz29_2 : wc.cell? ⟨gb112, 2, none⟩ = some (.int .u64 a0_2) := (blk_cell BK112.out 2).trans rfl
                have hcz29_3 : wc.cell? ⟨gb112, 3, none⟩ = some (.int .u64 a0_3) := (blk_cell BK112.out 3).trans rfl
                have hcz29_4 : wc.cell? ⟨gb112, 4, none⟩ = some (.int .i64 a0_4) := (blk_cell BK112.out 4).trans rfl
                have hcz29_5 : wc.cell? ⟨gb112, 5, none⟩ = some (.int .u64 a0_5) := (blk_cell BK112.out 5).trans rfl
                have hcz29_6 : wc.cell? ⟨gb112, 6, none⟩ = some (.int .u64 a0_6) := (blk_cell BK112.out 6).trans rfl
                have hcz29_7 : wc.cell? ⟨gb112, 7, none⟩ = some (.int .i64 a0_7) := (blk_cell BK112.out 7).trans rfl
                have hcz29_8 : wc.cell? ⟨gb112, 8, none⟩ = some (.int .i64 a0_8) := (blk_cell BK112.out 8).trans rfl
                have hcz29_9 : wc.cell? ⟨gb112, 9, none⟩ = some (.bool a0_9) := (blk_cell BK112.out 9).trans rfl
                have hcz29_10 : wc.cell? ⟨gb112, 10, none⟩ = some (.int .u32 a0_10) := (blk_cell BK112.out 10).trans rfl
                have hcz29_11 : wc.cell? ⟨gb112, 11, none⟩ = some (.int .i64 a0_11) := (blk_cell BK112.out 11).trans rfl
                have hcz29_12 : wc.cell? ⟨gb112, 12, none⟩ = some (.bool a0_12) := (blk_cell BK112.out 12).trans rfl
                have hcz29_13 : wc.cell? ⟨gb112, 13, none⟩ = some (.slice A0_13 l0_13.length c0_13) := (blk_cell BK112.out 13).trans rfl
                have hcz29_14 : wc.cell? ⟨gb112, 14, none⟩ = some (.slice A0_14 l0_14.length c0_14) := (blk_cell BK112.out 14).trans rfl
                have hfz29_0 := blk_frozen BK112.out 0
                have hfz29_1 := blk_frozen BK112.out 1
                have hfz29_2 := blk_frozen BK112.out 2
                have hfz29_3 := blk_frozen BK112.out 3
                have hfz29_4 := blk_frozen BK112.out 4
                have hfz29_5 := blk_frozen BK112.out 5
                have hfz29_6 := blk_frozen BK112.out 6
                have hfz29_7 := blk_frozen BK112.out 7
                have hfz29_8 := blk_frozen BK112.out 8
                have hfz29_9 := blk_frozen BK112.out 9
                have hfz29_10 := blk_frozen BK112.out 10
                have hfz29_11 := blk_frozen BK112.out 11
                have hfz29_12 := blk_frozen BK112.out 12
                have hfz29_13 := blk_frozen BK112.out 13
                have hfz29_14 := blk_frozen BK112.out 14
                go_wp2_with (first | ((with_reducible refine gate_callee (f := 154) rfl ?_); refine goesL_ (some 31) rfl rfl Try.func154 (by kernel_rfl) rfl #[.int .i64 a0_7] rfl (by (try simp only [List.map_toArray, List.map_cons, List.map_nil]); first | done | rfl | (simp only [List.length_drop, List.length_take]; rfl)) ?_; (with_reducible refine (ip4_byte1.calls a0_7 true _ A23.out).mono ?_); rintro e w' ⟨rfl, ⟨nd, rfl⟩⟩; refine ⟨_, rfl, ?_⟩) | (go_at_call 154; (with_reducible refine (ip4_byte1.calls a0_8 true _ A25.out).mono ?_); rintro e w' ⟨rfl, ⟨nd, rfl⟩⟩))
                go_meet
                case rel => exact ⟨_, (decide (a0_10 > 65535)), (by first | rfl | (simp; done) | (simp [*]; done)), H', ⟨by have := HJ1.out; first | omega | exact Nat.le_refl _⟩, ⟨by (with_reducible repeat (first | refine blk_drewN ?_ _ | refine blk_drew ?_ | refine blk_alloc ?_ _)); exact BK112.out⟩, ⟨by repeat (first | (with_reducible first | exact HB.out | apply below_alloc | apply pw_below_drewN | apply below_drew1 | refine below_set ?_ GE112.out) | exact HB.out)⟩⟩
            · replace c26 := Bool.eq_false_iff.mpr c26
              subst c26
              have H1 : (ip4_may.j1 kj1 true a0_0 a0_1 a0_2 a0_3 a0_4 a0_5 a0_6 a0_7 a0_8 a0_9 a0_10 a0_11 a0_12 l0_13 l0_14) = some r := by rw [if_neg (show ¬ (false = true) by decide)] at H; exact H
              clear H
              have H := H1
              clear H1
              have H' := Aside0.mk H
              clear H
              have hcz30_0 : wc.cell? ⟨gb112, 0, none⟩ = some (.int .i64 a0_0) := (blk_cell BK112.out 0).trans rfl
              have hcz30_1 : wc.cell? ⟨gb112, 1, none⟩ = some (.int .i64 a0_1) := (blk_cell BK112.out 1).trans rfl
              have hcz30_2 : wc.cell? ⟨gb112, 2, none⟩ = some (.int .u64 a0_2) := (blk_cell BK112.out 2).trans rfl
              have hcz30_3 : wc.cell? ⟨gb112, 3, none⟩ = some (.int .u64 a0_3) := (blk_cell BK112.out 3).trans rfl
              have hcz30_4 : wc.cell? ⟨gb112, 4, none⟩ = some (.int .i64 a0_4) := (blk_cell BK112.out 4).trans rfl
              have hcz30_5 : wc.cell? ⟨gb112, 5, none⟩ = some (.int .u64 a0_5) := (blk_cell BK112.out 5).trans rfl
              have hcz30_6 : wc.cell? ⟨gb112, 6, none⟩ = some (.int .u64 a0_6) := (blk_cell BK112.out 6).trans rfl
              have hcz30_7 : wc.cell? ⟨gb112, 7, none⟩ = some (.int .i64 a0_7) := (blk_cell BK112.out 7).trans rfl
              have hcz30_8 : wc.cell? ⟨gb112, 8, none⟩ = some (.int .i64 a0_8) := (blk_cell BK112.out 8).trans rfl
              have hcz30_9 : wc.cell? ⟨gb112, 9, none⟩ = some (.bool a0_9) := (blk_cell BK112.out 9).trans rfl
              have hcz30_10 : wc.cell? ⟨gb112, 10, none⟩ = some (.int .u32 a0_10) := (blk_cell BK112.out 10).trans rfl
              have hcz30_11 : wc.cell? ⟨gb112, 11, none⟩ = some (.int .i64 a0_11) := (blk_cell BK112.out 11).trans rfl
              have hcz30_12 : wc.cell? ⟨gb112, 12, none⟩ = some (.bool a0_12) := (blk_cell BK112.out 12).trans rfl
              have hcz30_13 : wc.cell? ⟨gb112, 13, none⟩ = some (.slice A0_13 l0_13.length c0_13) := (blk_cell BK112.out 13).trans rfl
              have hcz30_14 : wc.cell? ⟨gb112, 14, none⟩ = some (.slice A0_14 l0_14.length c0_14) := (blk_cell BK112.out 14).trans rfl
              have hfz30_0 := blk_frozen BK112.out 0
              have hfz30_1 := blk_frozen BK112.out 1
              have hfz30_2 := blk_frozen BK112.out 2
              have hfz30_3 := blk_frozen BK112.out 3
              have hfz30_4 := blk_frozen BK112.out 4
              have hfz30_5 := blk_frozen BK112.out 5
              have hfz30_6 := blk_frozen BK112.out 6
              have hfz30_7 := blk_frozen BK112.out 7
              have hfz30_8 := blk_frozen BK112.out 8
              have hfz30_9 := blk_frozen BK112.out 9
              have hfz30_10 := blk_frozen BK112.out 10
              have hfz30_11 := blk_frozen BK112.out 11
              have hfz30_12 := blk_frozen BK112.out 12
              have hfz30_13 := blk_frozen BK112.out 13
              have hfz30_14 := blk_frozen BK112.out 14
              go_wp2_with (first | ((with_reducible refine gate_callee (f := 154) rfl ?_); refine goesL_ (some 31) rfl rfl Try.func154 (by kernel_rfl) rfl #[.int .i64 a0_7] rfl (by (try simp only [List.map_toArray, List.map_cons, List.map_nil]); first | done | rfl | (simp only [List.length_drop, List.length_take]; rfl)) ?_; (with_reducible refine (ip4_byte1.calls a0_7 true _ A23.out).mono ?_); rintro e w' ⟨rfl, ⟨nd, rfl⟩⟩; refine ⟨_, rfl, ?_⟩) | (go_at_call 154; (with_reducible refine (ip4_byte1.calls a0_8 false _ A25.out).mono ?_); rintro e w' ⟨rfl, ⟨nd, rfl⟩⟩))
              go_meet
              case rel => exact ⟨_, (true), (by first | rfl | (simp; done) | (simp [*]; done)), H', ⟨by have := HJ1.out; first | omega | exact Nat.le_refl _⟩, ⟨by (with_reducible repeat (first | refine blk_drewN ?_ _ | refine blk_drew ?_ | refine blk_alloc ?_ _)); exact BK112.out⟩, ⟨by repeat (first | (with_reducible first | exact HB.out | apply below_alloc | apply pw_below_drewN | apply below_drew1 | refine below_set ?_ GE112.out) | exact HB.out)⟩⟩
          · replace c24 := Bool.eq_false_iff.mpr c24
            subst c24
            have H1 : (ip4_may.j1 kj1 true a0_0 a0_1 a0_2 a0_3 a0_4 a0_5 a0_6 a0_7 a0_8 a0_9 a0_10 a0_11 a0_12 l0_13 l0_14) = some r := by rw [if_neg (show ¬ (false = true) by decide)] at H; exact H
            clear H
            have H := H1
            clear H1
            have H' := Aside0.mk H
            clear H
            have hcz31_0 : wc.cell? ⟨gb112, 0, none⟩ = some (.int .i64 a0_0) := (blk_cell BK112.out 0).trans rfl
            have hcz31_1 : wc.cell? ⟨gb112, 1, none⟩ = some (.int .i64 a0_1) := (blk_cell BK112.out 1).trans rfl
            have hcz31_2 : wc.cell? ⟨gb112, 2, none⟩ = some (.int .u64 a0_2) := (blk_cell BK112.out 2).trans rfl
            have hcz31_3 : wc.cell? ⟨gb112, 3, none⟩ = some (.int .u64 a0_3) := (blk_cell BK112.out 3).trans rfl
            have hcz31_4 : wc.cell? ⟨gb112, 4, none⟩ = some (.int .i64 a0_4) := (blk_cell BK112.out 4).trans rfl
            have hcz31_5 : wc.cell? ⟨gb112, 5, none⟩ = some (.int .u64 a0_5) := (blk_cell BK112.out 5).trans rfl
            have hcz31_6 : wc.cell? ⟨gb112, 6, none⟩ = some (.int .u64 a0_6) := (blk_cell BK112.out 6).trans rfl
            have hcz31_7 : wc.cell? ⟨gb112, 7, none⟩ = some (.int .i64 a0_7) := (blk_cell BK112.out 7).trans rfl
            have hcz31_8 : wc.cell? ⟨gb112, 8, none⟩ = some (.int .i64 a0_8) := (blk_cell BK112.out 8).trans rfl
            have hcz31_9 : wc.cell? ⟨gb112, 9, none⟩ = some (.bool a0_9) := (blk_cell BK112.out 9).trans rfl
            have hcz31_10 : wc.cell? ⟨gb112, 10, none⟩ = some (.int .u32 a0_10) := (blk_cell BK112.out 10).trans rfl
            have hcz31_11 : wc.cell? ⟨gb112, 11, none⟩ = some (.int .i64 a0_11) := (blk_cell BK112.out 11).trans rfl
            have hcz31_12 : wc.cell? ⟨gb112, 12, none⟩ = some (.bool a0_12) := (blk_cell BK112.out 12).trans rfl
            have hcz31_13 : wc.cell? ⟨gb112, 13, none⟩ = some (.slice A0_13 l0_13.length c0_13) := (blk_cell BK112.out 13).trans rfl
            have hcz31_14 : wc.cell? ⟨gb112, 14, none⟩ = some (.slice A0_14 l0_14.length c0_14) := (blk_cell BK112.out 14).trans rfl
            have hfz31_0 := blk_frozen BK112.out 0
            have hfz31_1 := blk_frozen BK112.out 1
            have hfz31_2 := blk_frozen BK112.out 2
            have hfz31_3 := blk_frozen BK112.out 3
            have hfz31_4 := blk_frozen BK112.out 4
            have hfz31_5 := blk_frozen BK112.out 5
            have hfz31_6 := blk_frozen BK112.out 6
            have hfz31_7 := blk_frozen BK112.out 7
            have hfz31_8 := blk_frozen BK112.out 8
            have hfz31_9 := blk_frozen BK112.out 9
            have hfz31_10 := blk_frozen BK112.out 10
            have hfz31_11 := blk_frozen BK112.out 11
            have hfz31_12 := blk_frozen BK112.out 12
            have hfz31_13 := blk_frozen BK112.out 13
            have hfz31_14 := blk_frozen BK112.out 14
            go_wp2_with (first | ((with_reducible refine gate_callee (f := 154) rfl ?_); refine goesL_ (some 31) rfl rfl Try.func154 (by kernel_rfl) rfl #[.int .i64 a0_7] rfl (by (try simp only [List.map_toArray, List.map_cons, List.map_nil]); first | done | rfl | (simp only [List.length_drop, List.length_take]; rfl)) ?_; (with_reducible refine (ip4_byte1.calls a0_7 false _ A23.out).mono ?_); rintro e w' ⟨rfl, ⟨nd, rfl⟩⟩; refine ⟨_, rfl, ?_⟩))
            go_meet
            case rel => exact ⟨_, (true), (by first | rfl | (simp; done) | (simp [*]; done)), H', ⟨by have := HJ1.out; first | omega | exact Nat.le_refl _⟩, ⟨by (with_reducible repeat (first | refine blk_drewN ?_ _ | refine blk_drew ?_ | refine blk_alloc ?_ _)); exact BK112.out⟩, ⟨by repeat (first | (with_reducible first | exact HB.out | apply below_alloc | apply pw_below_drewN | apply below_drew1 | refine below_set ?_ GE112.out) | exact HB.out)⟩⟩
        case rest =>
          clear HC22
          try clear c1
          try clear c2
          try clear p2
          try clear c4
          try clear c4b0
          try clear c4b1
          try clear p4
          try clear c6
          try clear c8
          try clear c11
          try clear c15
          try clear c21
          try clear c24
          try clear c26
          try clear c27
          try clear c27b0
          try clear c27b1
          try clear hcz11_0
          try clear hcz11_1
          try clear hcz11_10
          try clear hcz11_11
          try clear hcz11_12
          try clear hcz11_13
          try clear hcz11_14
          try clear hcz11_2
          try clear hcz11_3
          try clear hcz11_4
          try clear hcz11_5
          try clear hcz11_6
          try clear hcz11_7
          try clear hcz11_8
          try clear hcz11_9
          try clear hcz13_0
          try clear hcz13_1
          try clear hcz13_10
          try clear hcz13_11
          try clear hcz13_12
          try clear hcz13_13
          try clear hcz13_14
          try clear hcz13_2
          try clear hcz13_3
          try clear hcz13_4
          try clear hcz13_5
          try clear hcz13_6
          try clear hcz13_7
          try clear hcz13_8
          try clear hcz13_9
          try clear hcz14_0
          try clear hcz14_1
          try clear hcz14_10
          try clear hcz14_11
          try clear hcz14_12
          try clear hcz14_13
          try clear hcz14_14
          try clear hcz14_2
          try clear hcz14_3
          try clear hcz14_4
          try clear hcz14_5
          try clear hcz14_6
          try clear hcz14_7
          try clear hcz14_8
          try clear hcz14_9
          try clear hcz16_0
          try clear hcz16_1
          try clear hcz16_10
          try clear hcz16_11
          try clear hcz16_12
          try clear hcz16_13
          try clear hcz16_14
          try clear hcz16_2
          try clear hcz16_3
          try clear hcz16_4
          try clear hcz16_5
          try clear hcz16_6
          try clear hcz16_7
          try clear hcz16_8
          try clear hcz16_9
          try clear hcz18_0
          try clear hcz18_1
          try clear hcz18_10
          try clear hcz18_11
          try clear hcz18_12
          try clear hcz18_13
          try clear hcz18_14
          try clear hcz18_2
          try clear hcz18_3
          try clear hcz18_4
          try clear hcz18_5
          try clear hcz18_6
          try clear hcz18_7
          try clear hcz18_8
          try clear hcz18_9
          try clear hcz20_0
          try clear hcz20_1
          try clear hcz20_10
          try clear hcz20_11
          try clear hcz20_12
          try clear hcz20_13
          try clear hcz20_14
          try clear hcz20_2
          try clear hcz20_3
          try clear hcz20_4
          try clear hcz20_5
          try clear hcz20_6
          try clear hcz20_7
          try clear hcz20_8
          try clear hcz20_9
          try clear hcz28_0
          try clear hcz28_1
          try clear hcz28_10
          try clear hcz28_11
          try clear hcz28_12
          try clear hcz28_13
          try clear hcz28_14
          try clear hcz28_2
          try clear hcz28_3
          try clear hcz28_4
          try clear hcz28_5
          try clear hcz28_6
          try clear hcz28_7
          try clear hcz28_8
          try clear hcz28_9
          try clear hcz29_0
          try clear hcz29_1
          try clear hcz29_10
          try clear hcz29_11
          try clear hcz29_12
          try clear hcz29_13
          try clear hcz29_14
          try clear hcz29_2
          try clear hcz29_3
          try clear hcz29_4
          try clear hcz29_5
          try clear hcz29_6
          try clear hcz29_7
          try clear hcz29_8
          try clear hcz29_9
          try clear hcz30_0
          try clear hcz30_1
          try clear hcz30_10
          try clear hcz30_11
          try clear hcz30_12
          try clear hcz30_13
          try clear hcz30_14
          try clear hcz30_2
          try clear hcz30_3
          try clear hcz30_4
          try clear hcz30_5
          try clear hcz30_6
          try clear hcz30_7
          try clear hcz30_8
          try clear hcz30_9
          try clear hcz31_0
          try clear hcz31_1
          try clear hcz31_10
          try clear hcz31_11
          try clear hcz31_12
          try clear hcz31_13
          try clear hcz31_14
          try clear hcz31_2
          try clear hcz31_3
          try clear hcz31_4
          try clear hcz31_5
          try clear hcz31_6
          try clear hcz31_7
          try clear hcz31_8
          try clear hcz31_9
          try clear hcz9_0
          try clear hcz9_1
          try clear hcz9_10
          try clear hcz9_11
          try clear hcz9_12
          try clear hcz9_13
          try clear hcz9_14
          try clear hcz9_2
          try clear hcz9_3
          try clear hcz9_4
          try clear hcz9_5
          try clear hcz9_6
          try clear hcz9_7
          try clear hcz9_8
          try clear hcz9_9
          try clear hfz11_0
          try clear hfz11_1
          try clear hfz11_10
          try clear hfz11_11
          try clear hfz11_12
          try clear hfz11_13
          try clear hfz11_14
          try clear hfz11_2
          try clear hfz11_3
          try clear hfz11_4
          try clear hfz11_5
          try clear hfz11_6
          try clear hfz11_7
          try clear hfz11_8
          try clear hfz11_9
          try clear hfz13_0
          try clear hfz13_1
          try clear hfz13_10
          try clear hfz13_11
          try clear hfz13_12
          try clear hfz13_13
          try clear hfz13_14
          try clear hfz13_2
          try clear hfz13_3
          try clear hfz13_4
          try clear hfz13_5
          try clear hfz13_6
          try clear hfz13_7
          try clear hfz13_8
          try clear hfz13_9
          try clear hfz14_0
          try clear hfz14_1
          try clear hfz14_10
          try clear hfz14_11
          try clear hfz14_12
          try clear hfz14_13
          try clear hfz14_14
          try clear hfz14_2
          try clear hfz14_3
          try clear hfz14_4
          try clear hfz14_5
          try clear hfz14_6
          try clear hfz14_7
          try clear hfz14_8
          try clear hfz14_9
          try clear hfz16_0
          try clear hfz16_1
          try clear hfz16_10
          try clear hfz16_11
          try clear hfz16_12
          try clear hfz16_13
          try clear hfz16_14
          try clear hfz16_2
          try clear hfz16_3
          try clear hfz16_4
          try clear hfz16_5
          try clear hfz16_6
          try clear hfz16_7
          try clear hfz16_8
          try clear hfz16_9
          try clear hfz18_0
          try clear hfz18_1
          try clear hfz18_10
          try clear hfz18_11
          try clear hfz18_12
          try clear hfz18_13
          try clear hfz18_14
          try clear hfz18_2
          try clear hfz18_3
          try clear hfz18_4
          try clear hfz18_5
          try clear hfz18_6
          try clear hfz18_7
          try clear hfz18_8
          try clear hfz18_9
          try clear hfz20_0
          try clear hfz20_1
          try clear hfz20_10
          try clear hfz20_11
          try clear hfz20_12
          try clear hfz20_13
          try clear hfz20_14
          try clear hfz20_2
          try clear hfz20_3
          try clear hfz20_4
          try clear hfz20_5
          try clear hfz20_6
          try clear hfz20_7
          try clear hfz20_8
          try clear hfz20_9
          try clear hfz28_0
          try clear hfz28_1
          try clear hfz28_10
          try clear hfz28_11
          try clear hfz28_12
          try clear hfz28_13
          try clear hfz28_14
          try clear hfz28_2
          try clear hfz28_3
          try clear hfz28_4
          try clear hfz28_5
          try clear hfz28_6
          try clear hfz28_7
          try clear hfz28_8
          try clear hfz28_9
          try clear hfz29_0
          try clear hfz29_1
          try clear hfz29_10
          try clear hfz29_11
          try clear hfz29_12
          try clear hfz29_13
          try clear hfz29_14
          try clear hfz29_2
          try clear hfz29_3
          try clear hfz29_4
          try clear hfz29_5
          try clear hfz29_6
          try clear hfz29_7
          try clear hfz29_8
          try clear hfz29_9
          try clear hfz30_0
          try clear hfz30_1
          try clear hfz30_10
          try clear hfz30_11
          try clear hfz30_12
          try clear hfz30_13
          try clear hfz30_14
          try clear hfz30_2
          try clear hfz30_3
          try clear hfz30_4
          try clear hfz30_5
          try clear hfz30_6
          try clear hfz30_7
          try clear hfz30_8
          try clear hfz30_9
          try clear hfz31_0
          try clear hfz31_1
          try clear hfz31_10
          try clear hfz31_11
          try clear hfz31_12
          try clear hfz31_13
          try clear hfz31_14
          try clear hfz31_2
          try clear hfz31_3
          try clear hfz31_4
          try clear hfz31_5
          try clear hfz31_6
          try clear hfz31_7
          try clear hfz31_8
          try clear hfz31_9
          try clear hfz9_0
          try clear hfz9_1
          try clear hfz9_10
          try clear hfz9_11
          try clear hfz9_12
          try clear hfz9_13
          try clear hfz9_14
          try clear hfz9_2
          try clear hfz9_3
          try clear hfz9_4
          try clear hfz9_5
          try clear hfz9_6
          try clear hfz9_7
          try clear hfz9_8
          try clear hfz9_9
          try clear p2
          try clear p4
          obtain ⟨kq, x28_21, rfl, HA, HJ21, BK112, HB⟩ := hcut
          cases kq with
          | zero => exact absurd HA.out (by simp [ip4_may.j1])
          | succ kj21 =>
            have H := HA.out
            clear HA
            simp only [ip4_may.j1] at H
            by_cases c32 : x28_21 = true
            · subst c32
              have H1 : (some false) = some r := by rw [if_pos rfl] at H; exact H
              clear H
              have H := H1
              clear H1
              obtain rfl := Option.some.inj H
              go_wp2
              go_ret
              exact ⟨by first | rfl | (simp [errW_none, errW_some] <;> rfl) | (simp [*, errW_none, errW_some] <;> rfl), by repeat (first | (with_reducible first | exact HB.out | apply below_alloc | apply pw_below_drewN | apply below_drew1 | refine below_set ?_ GE112.out) | exact HB.out)⟩
            · replace c32 := Bool.eq_false_iff.mpr c32
              subst c32
              have H1 : (if (l0_14.length : Int) > 65515 then (ip4_may.j2 kj21 true a0_0 a0_1 a0_2 a0_3 a0_4 a0_5 a0_6 a0_7 a0_8 a0_9 a0_10 a0_11 a0_12 l0_13 l0_14) else (if a0_11 < 0 then (ip4_may.j2 kj21 true a0_0 a0_1 a0_2 a0_3 a0_4 a0_5 a0_6 a0_7 a0_8 a0_9 a0_10 a0_11 a0_12 l0_13 l0_14) else (if (Int.tmod a0_11 8) = 0 then (ip4_may.j2 kj21 (decide (a0_11 > (wrap64 (65515 - (l0_14.length : Int))))) a0_0 a0_1 a0_2 a0_3 a0_4 a0_5 a0_6 a0_7 a0_8 a0_9 a0_10 a0_11 a0_12 l0_13 l0_14) else (ip4_may.j2 kj21 true a0_0 a0_1 a0_2 a0_3 a0_4 a0_5 a0_6 a0_7 a0_8 a0_9 a0_10 a0_11 a0_12 l0_13 l0_14)))) = some r := by rw [if_neg (show ¬ (false = true) by decide)] at H; exact H
              clear H
              have H := H1
              clear H1
              have HC33 := Aside0.mk H
              clear H
              go_upto_region 6 with (fail)
              go_cut [49] (fun v49 wc => ∃ (kq : Nat) (x49_32 : Bool), v49 = .bool x49_32 ∧ Aside0 (ip4_may.j2 kq x49_32 a0_0 a0_1 a0_2 a0_3 a0_4 a0_5 a0_6 a0_7 a0_8 a0_9 a0_10 a0_11 a0_12 l0_13 l0_14 = some r) ∧ Aside0 (kq ≤ kj21) ∧ Aside0 (wc.heap[gb112]? = some (.cells #[.int .i64 a0_0, .int .i64 a0_1, .int .u64 a0_2, .int .u64 a0_3, .int .i64 a0_4, .int .u64 a0_5, .int .u64 a0_6, .int .i64 a0_7, .int .i64 a0_8, .bool a0_9, .int .u32 a0_10, .int .i64 a0_11, .bool a0_12, (.slice A0_13 l0_13.length c0_13), (.slice A0_14 l0_14.length c0_14)] 55 (0, 0))) ∧ Aside0 (Below w.heap.size w wc))
              case first =>
                have H := HC33.out
                clear HC33
                by_cases c34 : (l0_14.length : Int) > 65515
                · rw [if_pos c34] at H
                  have c34b0 : decide (65515 < (l0_14.length : Int)) = true := decide_eq_true c34
                  have c34b1 : decide (65515 < l0_14.length) = true := decide_eq_true (by omega)
                  clear c34
                  (first | rw [c34b0] | (simp only [i64_w, i32_w]; rw [c34b0]) | skip)
                  have H' := Aside0.mk H
                  clear H
                  have hcz35_0 : wc.cell? ⟨gb112, 0, none⟩ = some (.int .i64 a0_0) := (blk_cell BK112.out 0).trans rfl
                  have hcz35_1 : wc.cell? ⟨gb112, 1, none⟩ = some (.int .i64 a0_1) := (blk_cell BK112.out 1).trans rfl
                  have hcz35_2 : wc.cell? ⟨gb112, 2, none⟩ = some (.int .u64 a0_2) := (blk_cell BK112.out 2).trans rfl
                  have hcz35_3 : wc.cell? ⟨gb112, 3, none⟩ = some (.int .u64 a0_3) := (blk_cell BK112.out 3).trans rfl
                  have hcz35_4 : wc.cell? ⟨gb112, 4, none⟩ = some (.int .i64 a0_4) := (blk_cell BK112.out 4).trans rfl
                  have hcz35_5 : wc.cell? ⟨gb112, 5, none⟩ = some (.int .u64 a0_5) := (blk_cell BK112.out 5).trans rfl
                  have hcz35_6 : wc.cell? ⟨gb112, 6, none⟩ = some (.int .u64 a0_6) := (blk_cell BK112.out 6).trans rfl
                  have hcz35_7 : wc.cell? ⟨gb112, 7, none⟩ = some (.int .i64 a0_7) := (blk_cell BK112.out 7).trans rfl
                  have hcz35_8 : wc.cell? ⟨gb112, 8, none⟩ = some (.int .i64 a0_8) := (blk_cell BK112.out 8).trans rfl
                  have hcz35_9 : wc.cell? ⟨gb112, 9, none⟩ = some (.bool a0_9) := (blk_cell BK112.out 9).trans rfl
                  have hcz35_10 : wc.cell? ⟨gb112, 10, none⟩ = some (.int .u32 a0_10) := (blk_cell BK112.out 10).trans rfl
                  have hcz35_11 : wc.cell? ⟨gb112, 11, none⟩ = some (.int .i64 a0_11) := (blk_cell BK112.out 11).trans rfl
                  have hcz35_12 : wc.cell? ⟨gb112, 12, none⟩ = some (.bool a0_12) := (blk_cell BK112.out 12).trans rfl
                  have hcz35_13 : wc.cell? ⟨gb112, 13, none⟩ = some (.slice A0_13 l0_13.length c0_13) := (blk_cell BK112.out 13).trans rfl
                  have hcz35_14 : wc.cell? ⟨gb112, 14, none⟩ = some (.slice A0_14 l0_14.length c0_14) := (blk_cell BK112.out 14).trans rfl
                  have hfz35_0 := blk_frozen BK112.out 0
                  have hfz35_1 := blk_frozen BK112.out 1
                  have hfz35_2 := blk_frozen BK112.out 2
                  have hfz35_3 := blk_frozen BK112.out 3
                  have hfz35_4 := blk_frozen BK112.out 4
                  have hfz35_5 := blk_frozen BK112.out 5
                  have hfz35_6 := blk_frozen BK112.out 6
                  have hfz35_7 := blk_frozen BK112.out 7
                  have hfz35_8 := blk_frozen BK112.out 8
                  have hfz35_9 := blk_frozen BK112.out 9
                  have hfz35_10 := blk_frozen BK112.out 10
                  have hfz35_11 := blk_frozen BK112.out 11
                  have hfz35_12 := blk_frozen BK112.out 12
                  have hfz35_13 := blk_frozen BK112.out 13
                  have hfz35_14 := blk_frozen BK112.out 14
                  go_wp2
                  go_meet
                  case rel => exact ⟨_, (true), (by first | rfl | (simp; done) | (simp [*]; done)), H', ⟨by have := HJ1.out; have := HJ21.out; first | omega | exact Nat.le_refl _⟩, ⟨by (with_reducible repeat (first | refine blk_drewN ?_ _ | refine blk_drew ?_ | refine blk_alloc ?_ _)); exact BK112.out⟩, ⟨by repeat (first | (with_reducible first | exact HB.out | apply below_alloc | apply pw_below_drewN | apply below_drew1 | refine below_set ?_ GE112.out) | exact HB.out)⟩⟩
                · rw [if_neg c34] at H
                  have c34b0 : decide (65515 < (l0_14.length : Int)) = false := decide_eq_false c34
                  have c34b1 : decide (65515 < l0_14.length) = false := decide_eq_false (by omega)
                  clear c34
                  (first | rw [c34b0] | (simp only [i64_w, i32_w]; rw [c34b0]) | skip)
                  by_cases c36 : a0_11 < 0
                  · rw [if_pos c36] at H
                    have c36b0 : decide (a0_11 < 0) = true := decide_eq_true c36
                    clear c36
                    have H' := Aside0.mk H
                    clear H
                    have hcz37_0 : wc.cell? ⟨gb112, 0, none⟩ = some (.int .i64 a0_0) := (blk_cell BK112.out 0).trans rfl
                    have hcz37_1 : wc.cell? ⟨gb112, 1, none⟩ = some (.int .i64 a0_1) := (blk_cell BK112.out 1).trans rfl
                    have hcz37_2 : wc.cell? ⟨gb112, 2, none⟩ = some (.int .u64 a0_2) := (blk_cell BK112.out 2).trans rfl
                    have hcz37_3 : wc.cell? ⟨gb112, 3, none⟩ = some (.int .u64 a0_3) := (blk_cell BK112.out 3).trans rfl
                    have hcz37_4 : wc.cell? ⟨gb112, 4, none⟩ = some (.int .i64 a0_4) := (blk_cell BK112.out 4).trans rfl
                    have hcz37_5 : wc.cell? ⟨gb112, 5, none⟩ = some (.int .u64 a0_5) := (blk_cell BK112.out 5).trans rfl
                    have hcz37_6 : wc.cell? ⟨gb112, 6, none⟩ = some (.int .u64 a0_6) := (blk_cell BK112.out 6).trans rfl
                    have hcz37_7 : wc.cell? ⟨gb112, 7, none⟩ = some (.int .i64 a0_7) := (blk_cell BK112.out 7).trans rfl
                    have hcz37_8 : wc.cell? ⟨gb112, 8, none⟩ = some (.int .i64 a0_8) := (blk_cell BK112.out 8).trans rfl
                    have hcz37_9 : wc.cell? ⟨gb112, 9, none⟩ = some (.bool a0_9) := (blk_cell BK112.out 9).trans rfl
                    have hcz37_10 : wc.cell? ⟨gb112, 10, none⟩ = some (.int .u32 a0_10) := (blk_cell BK112.out 10).trans rfl
                    have hcz37_11 : wc.cell? ⟨gb112, 11, none⟩ = some (.int .i64 a0_11) := (blk_cell BK112.out 11).trans rfl
                    have hcz37_12 : wc.cell? ⟨gb112, 12, none⟩ = some (.bool a0_12) := (blk_cell BK112.out 12).trans rfl
                    have hcz37_13 : wc.cell? ⟨gb112, 13, none⟩ = some (.slice A0_13 l0_13.length c0_13) := (blk_cell BK112.out 13).trans rfl
                    have hcz37_14 : wc.cell? ⟨gb112, 14, none⟩ = some (.slice A0_14 l0_14.length c0_14) := (blk_cell BK112.out 14).trans rfl
                    have hfz37_0 := blk_frozen BK112.out 0
                    have hfz37_1 := blk_frozen BK112.out 1
                    have hfz37_2 := blk_frozen BK112.out 2
                    have hfz37_3 := blk_frozen BK112.out 3
                    have hfz37_4 := blk_frozen BK112.out 4
                    have hfz37_5 := blk_frozen BK112.out 5
                    have hfz37_6 := blk_frozen BK112.out 6
                    have hfz37_7 := blk_frozen BK112.out 7
                    have hfz37_8 := blk_frozen BK112.out 8
                    have hfz37_9 := blk_frozen BK112.out 9
                    have hfz37_10 := blk_frozen BK112.out 10
                    have hfz37_11 := blk_frozen BK112.out 11
                    have hfz37_12 := blk_frozen BK112.out 12
                    have hfz37_13 := blk_frozen BK112.out 13
                    have hfz37_14 := blk_frozen BK112.out 14
                    go_wp2
                    go_meet
                    case rel => exact ⟨_, (true), (by first | rfl | (simp; done) | (simp [*]; done)), H', ⟨by have := HJ1.out; have := HJ21.out; first | omega | exact Nat.le_refl _⟩, ⟨by (with_reducible repeat (first | refine blk_drewN ?_ _ | refine blk_drew ?_ | refine blk_alloc ?_ _)); exact BK112.out⟩, ⟨by repeat (first | (with_reducible first | exact HB.out | apply below_alloc | apply pw_below_drewN | apply below_drew1 | refine below_set ?_ GE112.out) | exact HB.out)⟩⟩
                  · rw [if_neg c36] at H
                    have c36b0 : decide (a0_11 < 0) = false := decide_eq_false c36
                    clear c36
                    by_cases c38 : (Int.tmod a0_11 8) = 0
                    · rw [if_pos c38] at H
                      have c38b0 : ((Int.tmod a0_11 8) == 0) = true := beq_iff_eq.mpr c38
                      have c38b1 : ((Int.tmod a0_11 8) != 0) = false := bne_eq_false_iff_eq.mpr c38
                      clear c38
                      have H' := Aside0.mk H
                      clear H
                      have hcz39_0 : wc.cell? ⟨gb112, 0, none⟩ = some (.int .i64 a0_0) := (blk_cell BK112.out 0).trans rfl
                      have hcz39_1 : wc.cell? ⟨gb112, 1, none⟩ = some (.int .i64 a0_1) := (blk_cell BK112.out 1).trans rfl
                      have hcz39_2 : wc.cell? ⟨gb112, 2, none⟩ = some (.int .u64 a0_2) := (blk_cell BK112.out 2).trans rfl
                      have hcz39_3 : wc.cell? ⟨gb112, 3, none⟩ = some (.int .u64 a0_3) := (blk_cell BK112.out 3).trans rfl
                      have hcz39_4 : wc.cell? ⟨gb112, 4, none⟩ = some (.int .i64 a0_4) := (blk_cell BK112.out 4).trans rfl
                      have hcz39_5 : wc.cell? ⟨gb112, 5, none⟩ = some (.int .u64 a0_5) := (blk_cell BK112.out 5).trans rfl
                      have hcz39_6 : wc.cell? ⟨gb112, 6, none⟩ = some (.int .u64 a0_6) := (blk_cell BK112.out 6).trans rfl
                      have hcz39_7 : wc.cell? ⟨gb112, 7, none⟩ = some (.int .i64 a0_7) := (blk_cell BK112.out 7).trans rfl
                      have hcz39_8 : wc.cell? ⟨gb112, 8, none⟩ = some (.int .i64 a0_8) := (blk_cell BK112.out 8).trans rfl
                      have hcz39_9 : wc.cell? ⟨gb112, 9, none⟩ = some (.bool a0_9) := (blk_cell BK112.out 9).trans rfl
                      have hcz39_10 : wc.cell? ⟨gb112, 10, none⟩ = some (.int .u32 a0_10) := (blk_cell BK112.out 10).trans rfl
                      have hcz39_11 : wc.cell? ⟨gb112, 11, none⟩ = some (.int .i64 a0_11) := (blk_cell BK112.out 11).trans rfl
                      have hcz39_12 : wc.cell? ⟨gb112, 12, none⟩ = some (.bool a0_12) := (blk_cell BK112.out 12).trans rfl
                      have hcz39_13 : wc.cell? ⟨gb112, 13, none⟩ = some (.slice A0_13 l0_13.length c0_13) := (blk_cell BK112.out 13).trans rfl
                      have hcz39_14 : wc.cell? ⟨gb112, 14, none⟩ = some (.slice A0_14 l0_14.length c0_14) := (blk_cell BK112.out 14).trans rfl
                      have hfz39_0 := blk_frozen BK112.out 0
                      have hfz39_1 := blk_frozen BK112.out 1
                      have hfz39_2 := blk_frozen BK112.out 2
                      have hfz39_3 := blk_frozen BK112.out 3
                      have hfz39_4 := blk_frozen BK112.out 4
                      have hfz39_5 := blk_frozen BK112.out 5
                      have hfz39_6 := blk_frozen BK112.out 6
                      have hfz39_7 := blk_frozen BK112.out 7
                      have hfz39_8 := blk_frozen BK112.out 8
                      have hfz39_9 := blk_frozen BK112.out 9
                      have hfz39_10 := blk_frozen BK112.out 10
                      have hfz39_11 := blk_frozen BK112.out 11
                      have hfz39_12 := blk_frozen BK112.out 12
                      have hfz39_13 := blk_frozen BK112.out 13
                      have hfz39_14 := blk_frozen BK112.out 14
                      go_wp2
                      go_meet
                      case rel => exact ⟨_, (decide (a0_11 > (wrap64 (65515 - (l0_14.length : Int))))), (by first | rfl | (simp; done) | (simp [*]; done)), H', ⟨by have := HJ1.out; have := HJ21.out; first | omega | exact Nat.le_refl _⟩, ⟨by (with_reducible repeat (first | refine blk_drewN ?_ _ | refine blk_drew ?_ | refine blk_alloc ?_ _)); exact BK112.out⟩, ⟨by repeat (first | (with_reducible first | exact HB.out | apply below_alloc | apply pw_below_drewN | apply below_drew1 | refine below_set ?_ GE112.out) | exact HB.out)⟩⟩
                    · rw [if_neg c38] at H
                      have c38b0 : ((Int.tmod a0_11 8) == 0) = false := beq_eq_false_iff_ne.mpr c38
                      have c38b1 : ((Int.tmod a0_11 8) != 0) = true := bne_iff_ne.mpr c38
                      have H' := Aside0.mk H
                      clear H
                      have hcz40_0 : wc.cell? ⟨gb112, 0, none⟩ = some (.int .i64 a0_0) := (blk_cell BK112.out 0).trans rfl
                      have hcz40_1 : wc.cell? ⟨gb112, 1, none⟩ = some (.int .i64 a0_1) := (blk_cell BK112.out 1).trans rfl
                      have hcz40_2 : wc.cell? ⟨gb112, 2, none⟩ = some (.int .u64 a0_2) := (blk_cell BK112.out 2).trans rfl
                      have hcz40_3 : wc.cell? ⟨gb112, 3, none⟩ = some (.int .u64 a0_3) := (blk_cell BK112.out 3).trans rfl
                      have hcz40_4 : wc.cell? ⟨gb112, 4, none⟩ = some (.int .i64 a0_4) := (blk_cell BK112.out 4).trans rfl
                      have hcz40_5 : wc.cell? ⟨gb112, 5, none⟩ = some (.int .u64 a0_5) := (blk_cell BK112.out 5).trans rfl
                      have hcz40_6 : wc.cell? ⟨gb112, 6, none⟩ = some (.int .u64 a0_6) := (blk_cell BK112.out 6).trans rfl
                      have hcz40_7 : wc.cell? ⟨gb112, 7, none⟩ = some (.int .i64 a0_7) := (blk_cell BK112.out 7).trans rfl
                      have hcz40_8 : wc.cell? ⟨gb112, 8, none⟩ = some (.int .i64 a0_8) := (blk_cell BK112.out 8).trans rfl
                      have hcz40_9 : wc.cell? ⟨gb112, 9, none⟩ = some (.bool a0_9) := (blk_cell BK112.out 9).trans rfl
                      have hcz40_10 : wc.cell? ⟨gb112, 10, none⟩ = some (.int .u32 a0_10) := (blk_cell BK112.out 10).trans rfl
                      have hcz40_11 : wc.cell? ⟨gb112, 11, none⟩ = some (.int .i64 a0_11) := (blk_cell BK112.out 11).trans rfl
                      have hcz40_12 : wc.cell? ⟨gb112, 12, none⟩ = some (.bool a0_12) := (blk_cell BK112.out 12).trans rfl
                      have hcz40_13 : wc.cell? ⟨gb112, 13, none⟩ = some (.slice A0_13 l0_13.length c0_13) := (blk_cell BK112.out 13).trans rfl
                      have hcz40_14 : wc.cell? ⟨gb112, 14, none⟩ = some (.slice A0_14 l0_14.length c0_14) := (blk_cell BK112.out 14).trans rfl
                      have hfz40_0 := blk_frozen BK112.out 0
                      have hfz40_1 := blk_frozen BK112.out 1
                      have hfz40_2 := blk_frozen BK112.out 2
                      have hfz40_3 := blk_frozen BK112.out 3
                      have hfz40_4 := blk_frozen BK112.out 4
                      have hfz40_5 := blk_frozen BK112.out 5
                      have hfz40_6 := blk_frozen BK112.out 6
                      have hfz40_7 := blk_frozen BK112.out 7
                      have hfz40_8 := blk_frozen BK112.out 8
                      have hfz40_9 := blk_frozen BK112.out 9
                      have hfz40_10 := blk_frozen BK112.out 10
                      have hfz40_11 := blk_frozen BK112.out 11
                      have hfz40_12 := blk_frozen BK112.out 12
                      have hfz40_13 := blk_frozen BK112.out 13
                      have hfz40_14 := blk_frozen BK112.out 14
                      go_wp2
                      go_meet
                      case rel => exact ⟨_, (true), (by first | rfl | (simp; done) | (simp [*]; done)), H', ⟨by have := HJ1.out; have := HJ21.out; first | omega | exact Nat.le_refl _⟩, ⟨by (with_reducible repeat (first | refine blk_drewN ?_ _ | refine blk_drew ?_ | refine blk_alloc ?_ _)); exact BK112.out⟩, ⟨by repeat (first | (with_reducible first | exact HB.out | apply below_alloc | apply pw_below_drewN | apply below_drew1 | refine below_set ?_ GE112.out) | exact HB.out)⟩⟩
              case rest =>
                clear HC33
                try clear c1
                try clear c2
                try clear p2
                try clear c3
                try clear c4
                try clear c4b0
                try clear c4b1
                try clear p4
                try clear c6
                try clear p6
                try clear c8
                try clear c11
                try clear c15
                try clear c21
                try clear c24
                try clear c26
                try clear c27
                try clear c27b0
                try clear c27b1
                try clear c32
                try clear c34
                try clear c34b0
                try clear c34b1
                try clear c36
                try clear c36b0
                try clear c38
                try clear c38b0
                try clear c38b1
                try clear hcz11_0
                try clear hcz11_1
                try clear hcz11_10
                try clear hcz11_11
                try clear hcz11_12
                try clear hcz11_13
                try clear hcz11_14
                try clear hcz11_2
                try clear hcz11_3
                try clear hcz11_4
                try clear hcz11_5
                try clear hcz11_6
                try clear hcz11_7
                try clear hcz11_8
                try clear hcz11_9
                try clear hcz13_0
                try clear hcz13_1
                try clear hcz13_10
                try clear hcz13_11
                try clear hcz13_12
                try clear hcz13_13
                try clear hcz13_14
                try clear hcz13_2
                try clear hcz13_3
                try clear hcz13_4
                try clear hcz13_5
                try clear hcz13_6
                try clear hcz13_7
                try clear hcz13_8
                try clear hcz13_9
                try clear hcz14_0
                try clear hcz14_1
                try clear hcz14_10
                try clear hcz14_11
                try clear hcz14_12
                try clear hcz14_13
                try clear hcz14_14
                try clear hcz14_2
                try clear hcz14_3
                try clear hcz14_4
                try clear hcz14_5
                try clear hcz14_6
                try clear hcz14_7
                try clear hcz14_8
                try clear hcz14_9
                try clear hcz16_0
                try clear hcz16_1
                try clear hcz16_10
                try clear hcz16_11
                try clear hcz16_12
                try clear hcz16_13
                try clear hcz16_14
                try clear hcz16_2
                try clear hcz16_3
                try clear hcz16_4
                try clear hcz16_5
                try clear hcz16_6
                try clear hcz16_7
                try clear hcz16_8
                try clear hcz16_9
                try clear hcz18_0
                try clear hcz18_1
                try clear hcz18_10
                try clear hcz18_11
                try clear hcz18_12
                try clear hcz18_13
                try clear hcz18_14
                try clear hcz18_2
                try clear hcz18_3
                try clear hcz18_4
                try clear hcz18_5
                try clear hcz18_6
                try clear hcz18_7
                try clear hcz18_8
                try clear hcz18_9
                try clear hcz20_0
                try clear hcz20_1
                try clear hcz20_10
                try clear hcz20_11
                try clear hcz20_12
                try clear hcz20_13
                try clear hcz20_14
                try clear hcz20_2
                try clear hcz20_3
                try clear hcz20_4
                try clear hcz20_5
                try clear hcz20_6
                try clear hcz20_7
                try clear hcz20_8
                try clear hcz20_9
                try clear hcz28_0
                try clear hcz28_1
                try clear hcz28_10
                try clear hcz28_11
                try clear hcz28_12
                try clear hcz28_13
                try clear hcz28_14
                try clear hcz28_2
                try clear hcz28_3
                try clear hcz28_4
                try clear hcz28_5
                try clear hcz28_6
                try clear hcz28_7
                try clear hcz28_8
                try clear hcz28_9
                try clear hcz29_0
                try clear hcz29_1
                try clear hcz29_10
                try clear hcz29_11
                try clear hcz29_12
                try clear hcz29_13
                try clear hcz29_14
                try clear hcz29_2
                try clear hcz29_3
                try clear hcz29_4
                try clear hcz29_5
                try clear hcz29_6
                try clear hcz29_7
                try clear hcz29_8
                try clear hcz29_9
                try clear hcz30_0
                try clear hcz30_1
                try clear hcz30_10
                try clear hcz30_11
                try clear hcz30_12
                try clear hcz30_13
                try clear hcz30_14
                try clear hcz30_2
                try clear hcz30_3
                try clear hcz30_4
                try clear hcz30_5
                try clear hcz30_6
                try clear hcz30_7
                try clear hcz30_8
                try clear hcz30_9
                try clear hcz31_0
                try clear hcz31_1
                try clear hcz31_10
                try clear hcz31_11
                try clear hcz31_12
                try clear hcz31_13
                try clear hcz31_14
                try clear hcz31_2
                try clear hcz31_3
                try clear hcz31_4
                try clear hcz31_5
                try clear hcz31_6
                try clear hcz31_7
                try clear hcz31_8
                try clear hcz31_9
                try clear hcz35_0
                try clear hcz35_1
                try clear hcz35_10
                try clear hcz35_11
                try clear hcz35_12
                try clear hcz35_13
                try clear hcz35_14
                try clear hcz35_2
                try clear hcz35_3
                try clear hcz35_4
                try clear hcz35_5
                try clear hcz35_6
                try clear hcz35_7
                try clear hcz35_8
                try clear hcz35_9
                try clear hcz37_0
                try clear hcz37_1
                try clear hcz37_10
                try clear hcz37_11
                try clear hcz37_12
                try clear hcz37_13
                try clear hcz37_14
                try clear hcz37_2
                try clear hcz37_3
                try clear hcz37_4
                try clear hcz37_5
                try clear hcz37_6
                try clear hcz37_7
                try clear hcz37_8
                try clear hcz37_9
                try clear hcz39_0
                try clear hcz39_1
                try clear hcz39_10
                try clear hcz39_11
                try clear hcz39_12
                try clear hcz39_13
                try clear hcz39_14
                try clear hcz39_2
                try clear hcz39_3
                try clear hcz39_4
                try clear hcz39_5
                try clear hcz39_6
                try clear hcz39_7
                try clear hcz39_8
                try clear hcz39_9
                try clear hcz40_0
                try clear hcz40_1
                try clear hcz40_10
                try clear hcz40_11
                try clear hcz40_12
                try clear hcz40_13
                try clear hcz40_14
                try clear hcz40_2
                try clear hcz40_3
                try clear hcz40_4
                try clear hcz40_5
                try clear hcz40_6
                try clear hcz40_7
                try clear hcz40_8
                try clear hcz40_9
                try clear hcz9_0
                try clear hcz9_1
                try clear hcz9_10
                try clear hcz9_11
                try clear hcz9_12
                try clear hcz9_13
                try clear hcz9_14
                try clear hcz9_2
                try clear hcz9_3
                try clear hcz9_4
                try clear hcz9_5
                try clear hcz9_6
                try clear hcz9_7
                try clear hcz9_8
                try clear hcz9_9
                try clear hfz11_0
                try clear hfz11_1
                try clear hfz11_10
                try clear hfz11_11
                try clear hfz11_12
                try clear hfz11_13
                try clear hfz11_14
                try clear hfz11_2
                try clear hfz11_3
                try clear hfz11_4
                try clear hfz11_5
                try clear hfz11_6
                try clear hfz11_7
                try clear hfz11_8
                try clear hfz11_9
                try clear hfz13_0
                try clear hfz13_1
                try clear hfz13_10
                try clear hfz13_11
                try clear hfz13_12
                try clear hfz13_13
                try clear hfz13_14
                try clear hfz13_2
                try clear hfz13_3
                try clear hfz13_4
                try clear hfz13_5
                try clear hfz13_6
                try clear hfz13_7
                try clear hfz13_8
                try clear hfz13_9
                try clear hfz14_0
                try clear hfz14_1
                try clear hfz14_10
                try clear hfz14_11
                try clear hfz14_12
                try clear hfz14_13
                try clear hfz14_14
                try clear hfz14_2
                try clear hfz14_3
                try clear hfz14_4
                try clear hfz14_5
                try clear hfz14_6
                try clear hfz14_7
                try clear hfz14_8
                try clear hfz14_9
                try clear hfz16_0
                try clear hfz16_1
                try clear hfz16_10
                try clear hfz16_11
                try clear hfz16_12
                try clear hfz16_13
                try clear hfz16_14
                try clear hfz16_2
                try clear hfz16_3
                try clear hfz16_4
                try clear hfz16_5
                try clear hfz16_6
                try clear hfz16_7
                try clear hfz16_8
                try clear hfz16_9
                try clear hfz18_0
                try clear hfz18_1
                try clear hfz18_10
                try clear hfz18_11
                try clear hfz18_12
                try clear hfz18_13
                try clear hfz18_14
                try clear hfz18_2
                try clear hfz18_3
                try clear hfz18_4
                try clear hfz18_5
                try clear hfz18_6
                try clear hfz18_7
                try clear hfz18_8
                try clear hfz18_9
                try clear hfz20_0
                try clear hfz20_1
                try clear hfz20_10
                try clear hfz20_11
                try clear hfz20_12
                try clear hfz20_13
                try clear hfz20_14
                try clear hfz20_2
                try clear hfz20_3
                try clear hfz20_4
                try clear hfz20_5
                try clear hfz20_6
                try clear hfz20_7
                try clear hfz20_8
                try clear hfz20_9
                try clear hfz28_0
                try clear hfz28_1
                try clear hfz28_10
                try clear hfz28_11
                try clear hfz28_12
                try clear hfz28_13
                try clear hfz28_14
                try clear hfz28_2
                try clear hfz28_3
                try clear hfz28_4
                try clear hfz28_5
                try clear hfz28_6
                try clear hfz28_7
                try clear hfz28_8
                try clear hfz28_9
                try clear hfz29_0
                try clear hfz29_1
                try clear hfz29_10
                try clear hfz29_11
                try clear hfz29_12
                try clear hfz29_13
                try clear hfz29_14
                try clear hfz29_2
                try clear hfz29_3
                try clear hfz29_4
                try clear hfz29_5
                try clear hfz29_6
                try clear hfz29_7
                try clear hfz29_8
                try clear hfz29_9
                try clear hfz30_0
                try clear hfz30_1
                try clear hfz30_10
                try clear hfz30_11
                try clear hfz30_12
                try clear hfz30_13
                try clear hfz30_14
                try clear hfz30_2
                try clear hfz30_3
                try clear hfz30_4
                try clear hfz30_5
                try clear hfz30_6
                try clear hfz30_7
                try clear hfz30_8
                try clear hfz30_9
                try clear hfz31_0
                try clear hfz31_1
                try clear hfz31_10
                try clear hfz31_11
                try clear hfz31_12
                try clear hfz31_13
                try clear hfz31_14
                try clear hfz31_2
                try clear hfz31_3
                try clear hfz31_4
                try clear hfz31_5
                try clear hfz31_6
                try clear hfz31_7
                try clear hfz31_8
                try clear hfz31_9
                try clear hfz35_0
                try clear hfz35_1
                try clear hfz35_10
                try clear hfz35_11
                try clear hfz35_12
                try clear hfz35_13
                try clear hfz35_14
                try clear hfz35_2
                try clear hfz35_3
                try clear hfz35_4
                try clear hfz35_5
                try clear hfz35_6
                try clear hfz35_7
                try clear hfz35_8
                try clear hfz35_9
                try clear hfz37_0
                try clear hfz37_1
                try clear hfz37_10
                try clear hfz37_11
                try clear hfz37_12
                try clear hfz37_13
                try clear hfz37_14
                try clear hfz37_2
                try clear hfz37_3
                try clear hfz37_4
                try clear hfz37_5
                try clear hfz37_6
                try clear hfz37_7
                try clear hfz37_8
                try clear hfz37_9
                try clear hfz39_0
                try clear hfz39_1
                try clear hfz39_10
                try clear hfz39_11
                try clear hfz39_12
                try clear hfz39_13
                try clear hfz39_14
                try clear hfz39_2
                try clear hfz39_3
                try clear hfz39_4
                try clear hfz39_5
                try clear hfz39_6
                try clear hfz39_7
                try clear hfz39_8
                try clear hfz39_9
                try clear hfz40_0
                try clear hfz40_1
                try clear hfz40_10
                try clear hfz40_11
                try clear hfz40_12
                try clear hfz40_13
                try clear hfz40_14
                try clear hfz40_2
                try clear hfz40_3
                try clear hfz40_4
                try clear hfz40_5
                try clear hfz40_6
                try clear hfz40_7
                try clear hfz40_8
                try clear hfz40_9
                try clear hfz9_0
                try clear hfz9_1
                try clear hfz9_10
                try clear hfz9_11
                try clear hfz9_12
                try clear hfz9_13
                try clear hfz9_14
                try clear hfz9_2
                try clear hfz9_3
                try clear hfz9_4
                try clear hfz9_5
                try clear hfz9_6
                try clear hfz9_7
                try clear hfz9_8
                try clear hfz9_9
                try clear p2
                try clear p4
                obtain ⟨kq, x49_32, rfl, HA, HJ32, BK112, HB⟩ := hcut
                cases kq with
                | zero => exact absurd HA.out (by simp [ip4_may.j2])
                | succ kj32 =>
                  have H := HA.out
                  clear HA
                  simp only [ip4_may.j2] at H
                  by_cases c41 : x49_32 = true
                  · subst c41
                    have H1 : (some false) = some r := by rw [if_pos rfl] at H; exact H
                    clear H
                    have H := H1
                    clear H1
                    obtain rfl := Option.some.inj H
                    go_wp2
                    go_ret
                    exact ⟨by first | rfl | (simp [errW_none, errW_some] <;> rfl) | (simp [*, errW_none, errW_some] <;> rfl), by repeat (first | (with_reducible first | exact HB.out | apply below_alloc | apply pw_below_drewN | apply below_drew1 | refine below_set ?_ GE112.out) | exact HB.out)⟩
                  · replace c41 := Bool.eq_false_iff.mpr c41
                    subst c41
                    have H1 : (if a0_12 = true then (if ((l0_14.length : Int) % 8) = 0 then (if a0_9 = true then (some true) else (some true)) else (some false)) else (if a0_9 = true then (some (decide (a0_11 > 0))) else (some true))) = some r := by rw [if_neg (show ¬ (false = true) by decide)] at H; exact H
                    clear H
                    have H := H1
                    clear H1
                    by_cases c42 : a0_12 = true
                    · subst c42
                      have H1 : (if ((l0_14.length : Int) % 8) = 0 then (if a0_9 = true then (some true) else (some true)) else (some false)) = some r := by rw [if_pos rfl] at H; exact H
                      clear H
                      have H := H1
                      clear H1
                      by_cases c43 : ((l0_14.length : Int) % 8) = 0
                      · rw [if_pos c43] at H
                        have c43b0 : (((l0_14.length : Int) % 8) == 0) = true := beq_iff_eq.mpr c43
                        have c43b1 : (((l0_14.length : Int) % 8) != 0) = false := bne_eq_false_iff_eq.mpr c43
                        clear c43
                        by_cases c44 : a0_9 = true
                        · subst c44
                          have H1 : (some true) = some r := by rw [if_pos rfl] at H; exact H
                          clear H
                          have H := H1
                          clear H1
                          obtain rfl := Option.some.inj H
                          have hcz45_0 : wc.cell? ⟨gb112, 0, none⟩ = some (.int .i64 a0_0) := (blk_cell BK112.out 0).trans rfl
                          have hcz45_1 : wc.cell? ⟨gb112, 1, none⟩ = some (.int .i64 a0_1) := (blk_cell BK112.out 1).trans rfl
                          have hcz45_2 : wc.cell? ⟨gb112, 2, none⟩ = some (.int .u64 a0_2) := (blk_cell BK112.out 2).trans rfl
                          have hcz45_3 : wc.cell? ⟨gb112, 3, none⟩ = some (.int .u64 a0_3) := (blk_cell BK112.out 3).trans rfl
                          have hcz45_4 : wc.cell? ⟨gb112, 4, none⟩ = some (.int .i64 a0_4) := (blk_cell BK112.out 4).trans rfl
                          have hcz45_5 : wc.cell? ⟨gb112, 5, none⟩ = some (.int .u64 a0_5) := (blk_cell BK112.out 5).trans rfl
                          have hcz45_6 : wc.cell? ⟨gb112, 6, none⟩ = some (.int .u64 a0_6) := (blk_cell BK112.out 6).trans rfl
                          have hcz45_7 : wc.cell? ⟨gb112, 7, none⟩ = some (.int .i64 a0_7) := (blk_cell BK112.out 7).trans rfl
                          have hcz45_8 : wc.cell? ⟨gb112, 8, none⟩ = some (.int .i64 a0_8) := (blk_cell BK112.out 8).trans rfl
                          have hcz45_9 : wc.cell? ⟨gb112, 9, none⟩ = some (.bool true) := (blk_cell BK112.out 9).trans rfl
                          have hcz45_10 : wc.cell? ⟨gb112, 10, none⟩ = some (.int .u32 a0_10) := (blk_cell BK112.out 10).trans rfl
                          have hcz45_11 : wc.cell? ⟨gb112, 11, none⟩ = some (.int .i64 a0_11) := (blk_cell BK112.out 11).trans rfl
                          have hcz45_12 : wc.cell? ⟨gb112, 12, none⟩ = some (.bool true) := (blk_cell BK112.out 12).trans rfl
                          have hcz45_13 : wc.cell? ⟨gb112, 13, none⟩ = some (.slice A0_13 l0_13.length c0_13) := (blk_cell BK112.out 13).trans rfl
                          have hcz45_14 : wc.cell? ⟨gb112, 14, none⟩ = some (.slice A0_14 l0_14.length c0_14) := (blk_cell BK112.out 14).trans rfl
                          have hfz45_0 := blk_frozen BK112.out 0
                          have hfz45_1 := blk_frozen BK112.out 1
                          have hfz45_2 := blk_frozen BK112.out 2
                          have hfz45_3 := blk_frozen BK112.out 3
                          have hfz45_4 := blk_frozen BK112.out 4
                          have hfz45_5 := blk_frozen BK112.out 5
                          have hfz45_6 := blk_frozen BK112.out 6
                          have hfz45_7 := blk_frozen BK112.out 7
                          have hfz45_8 := blk_frozen BK112.out 8
                          have hfz45_9 := blk_frozen BK112.out 9
                          have hfz45_10 := blk_frozen BK112.out 10
                          have hfz45_11 := blk_frozen BK112.out 11
                          have hfz45_12 := blk_frozen BK112.out 12
                          have hfz45_13 := blk_frozen BK112.out 13
                          have hfz45_14 := blk_frozen BK112.out 14
                          go_wp2
                          go_ret
                          exact ⟨by first | rfl | (simp [errW_none, errW_some] <;> rfl) | (simp [*, errW_none, errW_some] <;> rfl), by repeat (first | (with_reducible first | exact HB.out | apply below_alloc | apply pw_below_drewN | apply below_drew1 | refine below_set ?_ GE112.out) | exact HB.out)⟩
                        · replace c44 := Bool.eq_false_iff.mpr c44
                          subst c44
                          have H1 : (some true) = some r := by rw [if_neg (show ¬ (false = true) by decide)] at H; exact H
                          clear H
                          have H := H1
                          clear H1
                          obtain rfl := Option.some.inj H
                          have hcz46_0 : wc.cell? ⟨gb112, 0, none⟩ = some (.int .i64 a0_0) := (blk_cell BK112.out 0).trans rfl
                          have hcz46_1 : wc.cell? ⟨gb112, 1, none⟩ = some (.int .i64 a0_1) := (blk_cell BK112.out 1).trans rfl
                          have hcz46_2 : wc.cell? ⟨gb112, 2, none⟩ = some (.int .u64 a0_2) := (blk_cell BK112.out 2).trans rfl
                          have hcz46_3 : wc.cell? ⟨gb112, 3, none⟩ = some (.int .u64 a0_3) := (blk_cell BK112.out 3).trans rfl
                          have hcz46_4 : wc.cell? ⟨gb112, 4, none⟩ = some (.int .i64 a0_4) := (blk_cell BK112.out 4).trans rfl
                          have hcz46_5 : wc.cell? ⟨gb112, 5, none⟩ = some (.int .u64 a0_5) := (blk_cell BK112.out 5).trans rfl
                          have hcz46_6 : wc.cell? ⟨gb112, 6, none⟩ = some (.int .u64 a0_6) := (blk_cell BK112.out 6).trans rfl
                          have hcz46_7 : wc.cell? ⟨gb112, 7, none⟩ = some (.int .i64 a0_7) := (blk_cell BK112.out 7).trans rfl
                          have hcz46_8 : wc.cell? ⟨gb112, 8, none⟩ = some (.int .i64 a0_8) := (blk_cell BK112.out 8).trans rfl
                          have hcz46_9 : wc.cell? ⟨gb112, 9, none⟩ = some (.bool false) := (blk_cell BK112.out 9).trans rfl
                          have hcz46_10 : wc.cell? ⟨gb112, 10, none⟩ = some (.int .u32 a0_10) := (blk_cell BK112.out 10).trans rfl
                          have hcz46_11 : wc.cell? ⟨gb112, 11, none⟩ = some (.int .i64 a0_11) := (blk_cell BK112.out 11).trans rfl
                          have hcz46_12 : wc.cell? ⟨gb112, 12, none⟩ = some (.bool true) := (blk_cell BK112.out 12).trans rfl
                          have hcz46_13 : wc.cell? ⟨gb112, 13, none⟩ = some (.slice A0_13 l0_13.length c0_13) := (blk_cell BK112.out 13).trans rfl
                          have hcz46_14 : wc.cell? ⟨gb112, 14, none⟩ = some (.slice A0_14 l0_14.length c0_14) := (blk_cell BK112.out 14).trans rfl
                          have hfz46_0 := blk_frozen BK112.out 0
                          have hfz46_1 := blk_frozen BK112.out 1
                          have hfz46_2 := blk_frozen BK112.out 2
                          have hfz46_3 := blk_frozen BK112.out 3
                          have hfz46_4 := blk_frozen BK112.out 4
                          have hfz46_5 := blk_frozen BK112.out 5
                          have hfz46_6 := blk_frozen BK112.out 6
                          have hfz46_7 := blk_frozen BK112.out 7
                          have hfz46_8 := blk_frozen BK112.out 8
                          have hfz46_9 := blk_frozen BK112.out 9
                          have hfz46_10 := blk_frozen BK112.out 10
                          have hfz46_11 := blk_frozen BK112.out 11
                          have hfz46_12 := blk_frozen BK112.out 12
                          have hfz46_13 := blk_frozen BK112.out 13
                          have hfz46_14 := blk_frozen BK112.out 14
                          go_wp2
                          go_ret
                          exact ⟨by first | rfl | (simp [errW_none, errW_some] <;> rfl) | (simp [*, errW_none, errW_some] <;> rfl), by repeat (first | (with_reducible first | exact HB.out | apply below_alloc | apply pw_below_drewN | apply below_drew1 | refine below_set ?_ GE112.out) | exact HB.out)⟩
                      · rw [if_neg c43] at H
                        have c43b0 : (((l0_14.length : Int) % 8) == 0) = false := beq_eq_false_iff_ne.mpr c43
                        have c43b1 : (((l0_14.length : Int) % 8) != 0) = true := bne_iff_ne.mpr c43
                        obtain rfl := Option.some.inj H
                        have hcz47_0 : wc.cell? ⟨gb112, 0, none⟩ = some (.int .i64 a0_0) := (blk_cell BK112.out 0).trans rfl
                        have hcz47_1 : wc.cell? ⟨gb112, 1, none⟩ = some (.int .i64 a0_1) := (blk_cell BK112.out 1).trans rfl
                        have hcz47_2 : wc.cell? ⟨gb112, 2, none⟩ = some (.int .u64 a0_2) := (blk_cell BK112.out 2).trans rfl
                        have hcz47_3 : wc.cell? ⟨gb112, 3, none⟩ = some (.int .u64 a0_3) := (blk_cell BK112.out 3).trans rfl
                        have hcz47_4 : wc.cell? ⟨gb112, 4, none⟩ = some (.int .i64 a0_4) := (blk_cell BK112.out 4).trans rfl
                        have hcz47_5 : wc.cell? ⟨gb112, 5, none⟩ = some (.int .u64 a0_5) := (blk_cell BK112.out 5).trans rfl
                        have hcz47_6 : wc.cell? ⟨gb112, 6, none⟩ = some (.int .u64 a0_6) := (blk_cell BK112.out 6).trans rfl
                        have hcz47_7 : wc.cell? ⟨gb112, 7, none⟩ = some (.int .i64 a0_7) := (blk_cell BK112.out 7).trans rfl
                        have hcz47_8 : wc.cell? ⟨gb112, 8, none⟩ = some (.int .i64 a0_8) := (blk_cell BK112.out 8).trans rfl
                        have hcz47_9 : wc.cell? ⟨gb112, 9, none⟩ = some (.bool a0_9) := (blk_cell BK112.out 9).trans rfl
                        have hcz47_10 : wc.cell? ⟨gb112, 10, none⟩ = some (.int .u32 a0_10) := (blk_cell BK112.out 10).trans rfl
                        have hcz47_11 : wc.cell? ⟨gb112, 11, none⟩ = some (.int .i64 a0_11) := (blk_cell BK112.out 11).trans rfl
                        have hcz47_12 : wc.cell? ⟨gb112, 12, none⟩ = some (.bool true) := (blk_cell BK112.out 12).trans rfl
                        have hcz47_13 : wc.cell? ⟨gb112, 13, none⟩ = some (.slice A0_13 l0_13.length c0_13) := (blk_cell BK112.out 13).trans rfl
                        have hcz47_14 : wc.cell? ⟨gb112, 14, none⟩ = some (.slice A0_14 l0_14.length c0_14) := (blk_cell BK112.out 14).trans rfl
                        have hfz47_0 := blk_frozen BK112.out 0
                        have hfz47_1 := blk_frozen BK112.out 1
                        have hfz47_2 := blk_frozen BK112.out 2
                        have hfz47_3 := blk_frozen BK112.out 3
                        have hfz47_4 := blk_frozen BK112.out 4
                        have hfz47_5 := blk_frozen BK112.out 5
                        have hfz47_6 := blk_frozen BK112.out 6
                        have hfz47_7 := blk_frozen BK112.out 7
                        have hfz47_8 := blk_frozen BK112.out 8
                        have hfz47_9 := blk_frozen BK112.out 9
                        have hfz47_10 := blk_frozen BK112.out 10
                        have hfz47_11 := blk_frozen BK112.out 11
                        have hfz47_12 := blk_frozen BK112.out 12
                        have hfz47_13 := blk_frozen BK112.out 13
                        have hfz47_14 := blk_frozen BK112.out 14
                        go_wp2
                        go_ret
                        exact ⟨by first | rfl | (simp [errW_none, errW_some] <;> rfl) | (simp [*, errW_none, errW_some] <;> rfl), by repeat (first | (with_reducible first | exact HB.out | apply below_alloc | apply pw_below_drewN | apply below_drew1 | refine below_set ?_ GE112.out) | exact HB.out)⟩
                    · replace c42 := Bool.eq_false_iff.mpr c42
                      subst c42
                      have H1 : (if a0_9 = true then (some (decide (a0_11 > 0))) else (some true)) = some r := by rw [if_neg (show ¬ (false = true) by decide)] at H; exact H
                      clear H
                      have H := H1
                      clear H1
                      by_cases c48 : a0_9 = true
                      · subst c48
                        have H1 : (some (decide (a0_11 > 0))) = some r := by rw [if_pos rfl] at H; exact H
                        clear H
                        have H := H1
                        clear H1
                        obtain rfl := Option.some.inj H
                        have hcz49_0 : wc.cell? ⟨gb112, 0, none⟩ = some (.int .i64 a0_0) := (blk_cell BK112.out 0).trans rfl
                        have hcz49_1 : wc.cell? ⟨gb112, 1, none⟩ = some (.int .i64 a0_1) := (blk_cell BK112.out 1).trans rfl
                        have hcz49_2 : wc.cell? ⟨gb112, 2, none⟩ = some (.int .u64 a0_2) := (blk_cell BK112.out 2).trans rfl
                        have hcz49_3 : wc.cell? ⟨gb112, 3, none⟩ = some (.int .u64 a0_3) := (blk_cell BK112.out 3).trans rfl
                        have hcz49_4 : wc.cell? ⟨gb112, 4, none⟩ = some (.int .i64 a0_4) := (blk_cell BK112.out 4).trans rfl
                        have hcz49_5 : wc.cell? ⟨gb112, 5, none⟩ = some (.int .u64 a0_5) := (blk_cell BK112.out 5).trans rfl
                        have hcz49_6 : wc.cell? ⟨gb112, 6, none⟩ = some (.int .u64 a0_6) := (blk_cell BK112.out 6).trans rfl
                        have hcz49_7 : wc.cell? ⟨gb112, 7, none⟩ = some (.int .i64 a0_7) := (blk_cell BK112.out 7).trans rfl
                        have hcz49_8 : wc.cell? ⟨gb112, 8, none⟩ = some (.int .i64 a0_8) := (blk_cell BK112.out 8).trans rfl
                        have hcz49_9 : wc.cell? ⟨gb112, 9, none⟩ = some (.bool true) := (blk_cell BK112.out 9).trans rfl
                        have hcz49_10 : wc.cell? ⟨gb112, 10, none⟩ = some (.int .u32 a0_10) := (blk_cell BK112.out 10).trans rfl
                        have hcz49_11 : wc.cell? ⟨gb112, 11, none⟩ = some (.int .i64 a0_11) := (blk_cell BK112.out 11).trans rfl
                        have hcz49_12 : wc.cell? ⟨gb112, 12, none⟩ = some (.bool false) := (blk_cell BK112.out 12).trans rfl
                        have hcz49_13 : wc.cell? ⟨gb112, 13, none⟩ = some (.slice A0_13 l0_13.length c0_13) := (blk_cell BK112.out 13).trans rfl
                        have hcz49_14 : wc.cell? ⟨gb112, 14, none⟩ = some (.slice A0_14 l0_14.length c0_14) := (blk_cell BK112.out 14).trans rfl
                        have hfz49_0 := blk_frozen BK112.out 0
                        have hfz49_1 := blk_frozen BK112.out 1
                        have hfz49_2 := blk_frozen BK112.out 2
                        have hfz49_3 := blk_frozen BK112.out 3
                        have hfz49_4 := blk_frozen BK112.out 4
                        have hfz49_5 := blk_frozen BK112.out 5
                        have hfz49_6 := blk_frozen BK112.out 6
                        have hfz49_7 := blk_frozen BK112.out 7
                        have hfz49_8 := blk_frozen BK112.out 8
                        have hfz49_9 := blk_frozen BK112.out 9
                        have hfz49_10 := blk_frozen BK112.out 10
                        have hfz49_11 := blk_frozen BK112.out 11
                        have hfz49_12 := blk_frozen BK112.out 12
                        have hfz49_13 := blk_frozen BK112.out 13
                        have hfz49_14 := blk_frozen BK112.out 14
                        go_wp2
                        go_ret
                        exact ⟨by first | rfl | (simp [errW_none, errW_some] <;> rfl) | (simp [*, errW_none, errW_some] <;> rfl), by repeat (first | (with_reducible first | exact HB.out | apply below_alloc | apply pw_below_drewN | apply below_drew1 | refine below_set ?_ GE112.out) | exact HB.out)⟩
                      · replace c48 := Bool.eq_false_iff.mpr c48
                        subst c48
                        have H1 : (some true) = some r := by rw [if_neg (show ¬ (false = true) by decide)] at H; exact H
                        clear H
                        have H := H1
                        clear H1
                        obtain rfl := Option.some.inj H
                        have hcz50_0 : wc.cell? ⟨gb112, 0, none⟩ = some (.int .i64 a0_0) := (blk_cell BK112.out 0).trans rfl
                        have hcz50_1 : wc.cell? ⟨gb112, 1, none⟩ = some (.int .i64 a0_1) := (blk_cell BK112.out 1).trans rfl
                        have hcz50_2 : wc.cell? ⟨gb112, 2, none⟩ = some (.int .u64 a0_2) := (blk_cell BK112.out 2).trans rfl
                        have hcz50_3 : wc.cell? ⟨gb112, 3, none⟩ = some (.int .u64 a0_3) := (blk_cell BK112.out 3).trans rfl
                        have hcz50_4 : wc.cell? ⟨gb112, 4, none⟩ = some (.int .i64 a0_4) := (blk_cell BK112.out 4).trans rfl
                        have hcz50_5 : wc.cell? ⟨gb112, 5, none⟩ = some (.int .u64 a0_5) := (blk_cell BK112.out 5).trans rfl
                        have hcz50_6 : wc.cell? ⟨gb112, 6, none⟩ = some (.int .u64 a0_6) := (blk_cell BK112.out 6).trans rfl
                        have hcz50_7 : wc.cell? ⟨gb112, 7, none⟩ = some (.int .i64 a0_7) := (blk_cell BK112.out 7).trans rfl
                        have hcz50_8 : wc.cell? ⟨gb112, 8, none⟩ = some (.int .i64 a0_8) := (blk_cell BK112.out 8).trans rfl
                        have hcz50_9 : wc.cell? ⟨gb112, 9, none⟩ = some (.bool false) := (blk_cell BK112.out 9).trans rfl
                        have hcz50_10 : wc.cell? ⟨gb112, 10, none⟩ = some (.int .u32 a0_10) := (blk_cell BK112.out 10).trans rfl
                        have hcz50_11 : wc.cell? ⟨gb112, 11, none⟩ = some (.int .i64 a0_11) := (blk_cell BK112.out 11).trans rfl
                        have hcz50_12 : wc.cell? ⟨gb112, 12, none⟩ = some (.bool false) := (blk_cell BK112.out 12).trans rfl
                        have hcz50_13 : wc.cell? ⟨gb112, 13, none⟩ = some (.slice A0_13 l0_13.length c0_13) := (blk_cell BK112.out 13).trans rfl
                        have hcz50_14 : wc.cell? ⟨gb112, 14, none⟩ = some (.slice A0_14 l0_14.length c0_14) := (blk_cell BK112.out 14).trans rfl
                        have hfz50_0 := blk_frozen BK112.out 0
                        have hfz50_1 := blk_frozen BK112.out 1
                        have hfz50_2 := blk_frozen BK112.out 2
                        have hfz50_3 := blk_frozen BK112.out 3
                        have hfz50_4 := blk_frozen BK112.out 4
                        have hfz50_5 := blk_frozen BK112.out 5
                        have hfz50_6 := blk_frozen BK112.out 6
                        have hfz50_7 := blk_frozen BK112.out 7
                        have hfz50_8 := blk_frozen BK112.out 8
                        have hfz50_9 := blk_frozen BK112.out 9
                        have hfz50_10 := blk_frozen BK112.out 10
                        have hfz50_11 := blk_frozen BK112.out 11
                        have hfz50_12 := blk_frozen BK112.out 12
                        have hfz50_13 := blk_frozen BK112.out 13
                        have hfz50_14 := blk_frozen BK112.out 14
                        go_wp2
                        go_ret
                        exact ⟨by first | rfl | (simp [errW_none, errW_some] <;> rfl) | (simp [*, errW_none, errW_some] <;> rfl), by repeat (first | (with_reducible first | exact HB.out | apply below_alloc | apply pw_below_drewN | apply below_drew1 | refine below_set ?_ GE112.out) | exact HB.out)⟩
end Go.Proofs.Ytgifcmbknkjemaa.QQ
end
