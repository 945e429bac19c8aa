/- What the law Ip4Writes rests on, part 22: contracts of the functions that it calls, and plain lemmas. No condition. -/
import Derived.Test.YtgifcmbknkjemaaZIp4Writes21
section
namespace Go.Proofs.Ytgifcmbknkjemaa.QQ
open Go.RowKit Go.Proofs.YtgifcmbknkjemaaW.PrintWords Go.Proofs.YtgifcmbknkjemaaW.PrintLast Go.Proofs.YtgifcmbknkjemaaW.PrintMore Go.Proofs.Ytgifcmbknkjemaa.Own
attribute [local go_sem] max2_int min2_int max_two min_two max_three min_three max_four min_four   -- for this text's walks alone
set_option linter.unusedVariables false
set_option linter.unusedSimpArgs false
def stockaderef03_May.j0 : Nat → Bool → Int → Int → Int → Int → Int → Int → Int → Int → Int → Bool → Int → Int → Bool → List Int → List Int → Option (Bool)
  | 0, _, _, _, _, _, _, _, _, _, _, _, _, _, _, _, _ => none
  | k + 1, x49, x172000, x172001, x172002, x172003, x172004, x172005, x172006, x172007, x172008, x172009, x172010, x172011, x172012, x172013, x172014 => if x49 = true then (some false) else (if x172010 > 65535 then (some false) else (if x172011 < 0 then (some false) else (if (Int.tmod x172011 8) = 0 then (if x172011 > (wrap64 (65515 - (x172014.length : Int))) then (some false) else (if x172009 = true then (if x172012 = true then (some (!(((x172014.length : Int) % 8) != 0))) else (if x172011 = 0 then (some false) else (some (!false)))) else (if x172012 = true then (some (!(((x172014.length : Int) % 8) != 0))) else (some (!false))))) else (some false))))
def stockaderef03_May.f (k : Nat) (a0_0 : Int) (a0_1 : Int) (a0_2 : Int) (a0_3 : Int) (a0_4 : Int) (a0_5 : Int) (a0_6 : Int) (a0_7 : Int) (a0_8 : Int) (a0_9 : Bool) (a0_10 : Int) (a0_11 : Int) (a0_12 : Bool) (l0_13 : List Int) (l0_14 : List Int) : Option (Bool) := if a0_0 = 4 then ((stockaderef03_four.f a0_1 a0_2 a0_3).bind fun t172 => (if t172 = true then ((stockaderef03_four.f a0_4 a0_5 a0_6).bind fun t173 => (if t173 = true then (if (l0_13.length : Int) > 0 then (stockaderef03_May.j0 k true a0_0 a0_1 a0_2 a0_3 a0_4 a0_5 a0_6 a0_7 a0_8 a0_9 a0_10 a0_11 a0_12 l0_13 l0_14) else (if a0_7 < 0 then (stockaderef03_May.j0 k true a0_0 a0_1 a0_2 a0_3 a0_4 a0_5 a0_6 a0_7 a0_8 a0_9 a0_10 a0_11 a0_12 l0_13 l0_14) else (if a0_7 > 255 then (stockaderef03_May.j0 k true a0_0 a0_1 a0_2 a0_3 a0_4 a0_5 a0_6 a0_7 a0_8 a0_9 a0_10 a0_11 a0_12 l0_13 l0_14) else (if a0_8 < 1 then (stockaderef03_May.j0 k true a0_0 a0_1 a0_2 a0_3 a0_4 a0_5 a0_6 a0_7 a0_8 a0_9 a0_10 a0_11 a0_12 l0_13 l0_14) else (if a0_8 > 255 then (stockaderef03_May.j0 k true a0_0 a0_1 a0_2 a0_3 a0_4 a0_5 a0_6 a0_7 a0_8 a0_9 a0_10 a0_11 a0_12 l0_13 l0_14) else (stockaderef03_May.j0 k (decide ((l0_14.length : Int) > 65515)) a0_0 a0_1 a0_2 a0_3 a0_4 a0_5 a0_6 a0_7 a0_8 a0_9 a0_10 a0_11 a0_12 l0_13 l0_14)))))) else (stockaderef03_May.j0 k true a0_0 a0_1 a0_2 a0_3 a0_4 a0_5 a0_6 a0_7 a0_8 a0_9 a0_10 a0_11 a0_12 l0_13 l0_14))) else (stockaderef03_May.j0 k true a0_0 a0_1 a0_2 a0_3 a0_4 a0_5 a0_6 a0_7 a0_8 a0_9 a0_10 a0_11 a0_12 l0_13 l0_14))) else (stockaderef03_May.j0 k true a0_0 a0_1 a0_2 a0_3 a0_4 a0_5 a0_6 a0_7 a0_8 a0_9 a0_10 a0_11 a0_12 l0_13 l0_14)
theorem stockaderef03_May.mono_l : ∀ k, (∀ y0 y1 y2 y3 y4 y5 y6 y7 y8 y9 y10 y11 y12 y13 y14 y15, LeO (stockaderef03_May.j0 k y0 y1 y2 y3 y4 y5 y6 y7 y8 y9 y10 y11 y12 y13 y14 y15) (stockaderef03_May.j0 (k + 1) y0 y1 y2 y3 y4 y5 y6 y7 y8 y9 y10 y11 y12 y13 y14 y15))
  | 0 => fun _ _ _ _ _ _ _ _ _ _ _ _ _ _ _ _ r h => by simp [stockaderef03_May.j0] at h
  | k + 1 => by
    have ih0 := stockaderef03_May.mono_l k
    · intro y0 y1 y2 y3 y4 y5 y6 y7 y8 y9 y10 y11 y12 y13 y14 y15
      unfold stockaderef03_May.j0
      repeat' first
      | (with_reducible exact ih0 _ _ _ _ _ _ _ _ _ _ _ _ _ _ _ _)
      | (with_reducible exact LeO.refl _)
      | (with_reducible exact LeO.none _)
      | (with_reducible refine LeO.ite ?_ ?_)
      | (with_reducible refine LeO.bind ?_ (fun _ => ?_))
      | exact ih0 _ _ _ _ _ _ _ _ _ _ _ _ _ _ _ _
      | exact LeO.none _
      | refine LeO.ite ?_ ?_
      | refine LeO.bind ?_ (fun _ => ?_)
theorem stockaderef03_May.mono : ∀ a0 a1 a2 a3 a4 a5 a6 a7 a8 a9 a10 a11 a12 a13 a14 k, LeO (stockaderef03_May.f k a0 a1 a2 a3 a4 a5 a6 a7 a8 a9 a10 a11 a12 a13 a14) (stockaderef03_May.f (k + 1) a0 a1 a2 a3 a4 a5 a6 a7 a8 a9 a10 a11 a12 a13 a14) := by
  intro a0 a1 a2 a3 a4 a5 a6 a7 a8 a9 a10 a11 a12 a13 a14 k
  have ih0 := stockaderef03_May.mono_l k
  unfold stockaderef03_May.f
  repeat' first
      | (with_reducible exact ih0 _ _ _ _ _ _ _ _ _ _ _ _ _ _ _ _)
      | (with_reducible exact LeO.refl _)
      | (with_reducible exact LeO.none _)
      | (with_reducible refine LeO.ite ?_ ?_)
      | (with_reducible refine LeO.bind ?_ (fun _ => ?_))
      | exact ih0 _ _ _ _ _ _ _ _ _ _ _ _ _ _ _ _
      | exact LeO.none _
      | refine LeO.ite ?_ ?_
      | refine LeO.bind ?_ (fun _ => ?_)
set_option maxHeartbeats 8000000 in
set_option maxRecDepth 100000 in
theorem stockaderef03_May.calls (k : Nat) (a0_0 : Int) (a0_1 : Int) (a0_2 : Int) (a0_3 : Int) (a0_4 : Int) (a0_5 : Int) (a0_6 : Int) (a0_7 : Int) (a0_8 : Int) (a0_9 : Bool) (a0_10 : Int) (a0_11 : Int) (a0_12 : Bool) (A0_13 : Option Addr) (c0_13 : Nat) (l0_13 : List Int) (A0_14 : Option Addr) (c0_14 : Nat) (l0_14 : List Int) (r : Bool) (w : World) (hr0_13 : Kd.C (Kd.int .i64) w A0_13 l0_13.length l0_13) (hc0_13 : l0_13.length ≤ c0_13) (hr0_14 : Kd.C (Kd.int .u8) w A0_14 l0_14.length l0_14) (hc0_14 : l0_14.length ≤ c0_14) (h : stockaderef03_May.f k a0_0 a0_1 a0_2 a0_3 a0_4 a0_5 a0_6 a0_7 a0_8 a0_9 a0_10 a0_11 a0_12 l0_13 l0_14 = some r) :
    Calls Try.prog 118 #[.agg #[.int .i64 a0_0, .int .i64 a0_1, .int .u64 a0_2, .int .u64 a0_3, .int .i64 a0_4, .int .u64 a0_5, .int .u64 a0_6, .int .i64 a0_7, .int .i64 a0_8, .bool a0_9, .int .u32 a0_10, .int .i64 a0_11, .bool a0_12, .slice A0_13 l0_13.length c0_13, .slice A0_14 l0_14.length c0_14]] w fun e w' => e = .returned (.bool r) ∧ Below w.heap.size w w' := by
  have hu55 := Try.underlying55
  have hu53 := Try.underlying53
  have HR0_13 := Aside0.mk hr0_13
  have HC0_13 := Aside0.mk hc0_13
  clear hr0_13 hc0_13
  have HR0_14 := Aside0.mk hr0_14
  have HC0_14 := Aside0.mk hc0_14
  clear hr0_14 hc0_14
  have HB := Aside0.mk (Below.refl w.heap.size w)
  have H : (if a0_0 = 4 then ((stockaderef03_four.f a0_1 a0_2 a0_3).bind fun t172 => (if t172 = true then ((stockaderef03_four.f a0_4 a0_5 a0_6).bind fun t173 => (if t173 = true then (if (l0_13.length : Int) > 0 then (stockaderef03_May.j0 k true a0_0 a0_1 a0_2 a0_3 a0_4 a0_5 a0_6 a0_7 a0_8 a0_9 a0_10 a0_11 a0_12 l0_13 l0_14) else (if a0_7 < 0 then (stockaderef03_May.j0 k true a0_0 a0_1 a0_2 a0_3 a0_4 a0_5 a0_6 a0_7 a0_8 a0_9 a0_10 a0_11 a0_12 l0_13 l0_14) else (if a0_7 > 255 then (stockaderef03_May.j0 k true a0_0 a0_1 a0_2 a0_3 a0_4 a0_5 a0_6 a0_7 a0_8 a0_9 a0_10 a0_11 a0_12 l0_13 l0_14) else (if a0_8 < 1 then (stockaderef03_May.j0 k true a0_0 a0_1 a0_2 a0_3 a0_4 a0_5 a0_6 a0_7 a0_8 a0_9 a0_10 a0_11 a0_12 l0_13 l0_14) else (if a0_8 > 255 then (stockaderef03_May.j0 k true a0_0 a0_1 a0_2 a0_3 a0_4 a0_5 a0_6 a0_7 a0_8 a0_9 a0_10 a0_11 a0_12 l0_13 l0_14) else (stockaderef03_May.j0 k (decide ((l0_14.length : Int) > 65515)) a0_0 a0_1 a0_2 a0_3 a0_4 a0_5 a0_6 a0_7 a0_8 a0_9 a0_10 a0_11 a0_12 l0_13 l0_14)))))) else (stockaderef03_May.j0 k true a0_0 a0_1 a0_2 a0_3 a0_4 a0_5 a0_6 a0_7 a0_8 a0_9 a0_10 a0_11 a0_12 l0_13 l0_14))) else (stockaderef03_May.j0 k true a0_0 a0_1 a0_2 a0_3 a0_4 a0_5 a0_6 a0_7 a0_8 a0_9 a0_10 a0_11 a0_12 l0_13 l0_14))) else (stockaderef03_May.j0 k true a0_0 a0_1 a0_2 a0_3 a0_4 a0_5 a0_6 a0_7 a0_8 a0_9 a0_10 a0_11 a0_12 l0_13 l0_14)) = some r := h
  clear h
  have HC2 := Aside0.mk H
  clear H
  go_enter Try.func118, Try.ntmps118
  go_upto_region 1 with (first | ((with_reducible refine gate_dst (N := 1) rfl ?_); (try (refine gate_guard (by rfl) ?_; dsimp only)); refine box_event ?hg (N := 1) ?hd (cs := #[.int .i64 a0_0, .int .i64 a0_1, .int .u64 a0_2, .int .u64 a0_3, .int .i64 a0_4, .int .u64 a0_5, .int .u64 a0_6, .int .i64 a0_7, .int .i64 a0_8, .bool a0_9, .int .u32 a0_10, .int .i64 a0_11, .bool a0_12, .slice A0_13 l0_13.length c0_13, .slice A0_14 l0_14.length c0_14]) (t := 55) ?hr ?_; (case hd => rfl); (case hg => rfl); (case hr => first | (go_simp; done) | (go_simp; rfl)); intro gb171 hg w3 hbox hb; have n0_ := Aside0.mk (below_step (by repeat (first | (with_reducible first | exact HB.out | apply below_alloc | apply pw_below_drewN | apply below_drew1) | exact HB.out)) hb); have n1_ := Aside0.mk (hbox); have n2_ := Aside0.mk ((by rw [hg]; exact (below_size (by repeat (first | (with_reducible first | exact HB.out | apply below_alloc | apply pw_below_drewN | apply below_drew1) | exact HB.out))) : w.heap.size ≤ gb171)); have n3_ := Aside0.mk ((by rw [hg]; exact (below_size (by repeat (first | (with_reducible first | exact HB.out | apply below_alloc | apply pw_below_drewN | apply below_drew1) | exact HB.out))) : w.heap.size ≤ gb171)); clear HB; have HB := n0_; have BK171 := n1_; have GW171 := n2_; have GE171 := n3_; clear n0_ n1_ n2_ n3_; clear hb hbox hg))
  (try simp only [Act.put, List.setIfInBounds_toArray, List.set_cons_zero, List.set_cons_succ])
  go_cut [49] (fun v49 wc => ∃ (kq : Nat) (x49_1 : Bool), v49 = .bool x49_1 ∧ Aside0 (stockaderef03_May.j0 kq x49_1 a0_0 a0_1 a0_2 a0_3 a0_4 a0_5 a0_6 a0_7 a0_8 a0_9 a0_10 a0_11 a0_12 l0_13 l0_14 = some r) ∧ Aside0 (kq ≤ k) ∧ Aside0 (wc.heap[gb171]? = some (.cells #[.int .i64 a0_0, .int .i64 a0_1, .int .u64 a0_2, .int .u64 a0_3, .int .i64 a0_4, .int .u64 a0_5, .int .u64 a0_6, .int .i64 a0_7, .int .i64 a0_8, .bool a0_9, .int .u32 a0_10, .int .i64 a0_11, .bool a0_12, (.slice A0_13 l0_13.length c0_13), (.slice A0_14 l0_14.length c0_14)] 55 (0, 0))) ∧ Aside0 (Below w.heap.size w wc))
  case first =>
    have H := HC2.out
    clear HC2
    by_cases c4 : a0_0 = 4
    · rw [if_pos c4] at H
      have c4b0 : (a0_0 == 4) = true := beq_iff_eq.mpr c4
      have c4b1 : (a0_0 != 4) = false := bne_eq_false_iff_eq.mpr c4
      clear c4
      (first | rw [c4b0] | (simp only [i64_w, i32_w]; rw [c4b0]) | skip)
      replace H := Option.bind_eq_some_iff.mp H
      obtain ⟨t172, A50, H⟩ := H
      replace H : (if t172 = true then ((stockaderef03_four.f a0_4 a0_5 a0_6).bind fun t173 => (if t173 = true then (if (l0_13.length : Int) > 0 then (stockaderef03_May.j0 k true a0_0 a0_1 a0_2 a0_3 a0_4 a0_5 a0_6 a0_7 a0_8 a0_9 a0_10 a0_11 a0_12 l0_13 l0_14) else (if a0_7 < 0 then (stockaderef03_May.j0 k true a0_0 a0_1 a0_2 a0_3 a0_4 a0_5 a0_6 a0_7 a0_8 a0_9 a0_10 a0_11 a0_12 l0_13 l0_14) else (if a0_7 > 255 then (stockaderef03_May.j0 k true a0_0 a0_1 a0_2 a0_3 a0_4 a0_5 a0_6 a0_7 a0_8 a0_9 a0_10 a0_11 a0_12 l0_13 l0_14) else (if a0_8 < 1 then (stockaderef03_May.j0 k true a0_0 a0_1 a0_2 a0_3 a0_4 a0_5 a0_6 a0_7 a0_8 a0_9 a0_10 a0_11 a0_12 l0_13 l0_14) else (if a0_8 > 255 then (stockaderef03_May.j0 k true a0_0 a0_1 a0_2 a0_3 a0_4 a0_5 a0_6 a0_7 a0_8 a0_9 a0_10 a0_11 a0_12 l0_13 l0_14) else (stockaderef03_May.j0 k (decide ((l0_14.length : Int) > 65515)) a0_0 a0_1 a0_2 a0_3 a0_4 a0_5 a0_6 a0_7 a0_8 a0_9 a0_10 a0_11 a0_12 l0_13 l0_14)))))) else (stockaderef03_May.j0 k true a0_0 a0_1 a0_2 a0_3 a0_4 a0_5 a0_6 a0_7 a0_8 a0_9 a0_10 a0_11 a0_12 l0_13 l0_14))) else (stockaderef03_May.j0 k true a0_0 a0_1 a0_2 a0_3 a0_4 a0_5 a0_6 a0_7 a0_8 a0_9 a0_10 a0_11 a0_12 l0_13 l0_14)) = some r := H
      have A5 := Aside0.mk A50
      clear A50
      by_cases c6 : t172 = true
      · subst c6
        have H1 : ((stockaderef03_four.f a0_4 a0_5 a0_6).bind fun t173 => (if t173 = true then (if (l0_13.length : Int) > 0 then (stockaderef03_May.j0 k true a0_0 a0_1 a0_2 a0_3 a0_4 a0_5 a0_6 a0_7 a0_8 a0_9 a0_10 a0_11 a0_12 l0_13 l0_14) else (if a0_7 < 0 then (stockaderef03_May.j0 k true a0_0 a0_1 a0_2 a0_3 a0_4 a0_5 a0_6 a0_7 a0_8 a0_9 a0_10 a0_11 a0_12 l0_13 l0_14) else (if a0_7 > 255 then (stockaderef03_May.j0 k true a0_0 a0_1 a0_2 a0_3 a0_4 a0_5 a0_6 a0_7 a0_8 a0_9 a0_10 a0_11 a0_12 l0_13 l0_14) else (if a0_8 < 1 then (stockaderef03_May.j0 k true a0_0 a0_1 a0_2 a0_3 a0_4 a0_5 a0_6 a0_7 a0_8 a0_9 a0_10 a0_11 a0_12 l0_13 l0_14) else (if a0_8 > 255 then (stockaderef03_May.j0 k true a0_0 a0_1 a0_2 a0_3 a0_4 a0_5 a0_6 a0_7 a0_8 a0_9 a0_10 a0_11 a0_12 l0_13 l0_14) else (stockaderef03_May.j0 k (decide ((l0_14.length : Int) > 65515)) a0_0 a0_1 a0_2 a0_3 a0_4 a0_5 a0_6 a0_7 a0_8 a0_9 a0_10 a0_11 a0_12 l0_13 l0_14)))))) else (stockaderef03_May.j0 k true a0_0 a0_1 a0_2 a0_3 a0_4 a0_5 a0_6 a0_7 a0_8 a0_9 a0_10 a0_11 a0_12 l0_13 l0_14))) = some r := by rw [if_pos rfl] at H; exact H
        clear H
        have H := H1
        clear H1
        replace H := Option.bind_eq_some_iff.mp H
        obtain ⟨t173, A70, H⟩ := H
        replace H : (if t173 = true then (if (l0_13.length : Int) > 0 then (stockaderef03_May.j0 k true a0_0 a0_1 a0_2 a0_3 a0_4 a0_5 a0_6 a0_7 a0_8 a0_9 a0_10 a0_11 a0_12 l0_13 l0_14) else (if a0_7 < 0 then (stockaderef03_May.j0 k true a0_0 a0_1 a0_2 a0_3 a0_4 a0_5 a0_6 a0_7 a0_8 a0_9 a0_10 a0_11 a0_12 l0_13 l0_14) else (if a0_7 > 255 then (stockaderef03_May.j0 k true a0_0 a0_1 a0_2 a0_3 a0_4 a0_5 a0_6 a0_7 a0_8 a0_9 a0_10 a0_11 a0_12 l0_13 l0_14) else (if a0_8 < 1 then (stockaderef03_May.j0 k true a0_0 a0_1 a0_2 a0_3 a0_4 a0_5 a0_6 a0_7 a0_8 a0_9 a0_10 a0_11 a0_12 l0_13 l0_14) else (if a0_8 > 255 then (stockaderef03_May.j0 k true a0_0 a0_1 a0_2 a0_3 a0_4 a0_5 a0_6 a0_7 a0_8 a0_9 a0_10 a0_11 a0_12 l0_13 l0_14) else (stockaderef03_May.j0 k (decide ((l0_14.length : Int) > 65515)) a0_0 a0_1 a0_2 a0_3 a0_4 a0_5 a0_6 a0_7 a0_8 a0_9 a0_10 a0_11 a0_12 l0_13 l0_14)))))) else (stockaderef03_May.j0 k true a0_0 a0_1 a0_2 a0_3 a0_4 a0_5 a0_6 a0_7 a0_8 a0_9 a0_10 a0_11 a0_12 l0_13 l0_14)) = some r := H
        have A7 := Aside0.mk A70
        clear A70
        by_cases c8 : t173 = true
        · subst c8
          have H1 : (if (l0_13.length : Int) > 0 then (stockaderef03_May.j0 k true a0_0 a0_1 a0_2 a0_3 a0_4 a0_5 a0_6 a0_7 a0_8 a0_9 a0_10 a0_11 a0_12 l0_13 l0_14) else (if a0_7 < 0 then (stockaderef03_May.j0 k true a0_0 a0_1 a0_2 a0_3 a0_4 a0_5 a0_6 a0_7 a0_8 a0_9 a0_10 a0_11 a0_12 l0_13 l0_14) else (if a0_7 > 255 then (stockaderef03_May.j0 k true a0_0 a0_1 a0_2 a0_3 a0_4 a0_5 a0_6 a0_7 a0_8 a0_9 a0_10 a0_11 a0_12 l0_13 l0_14) else (if a0_8 < 1 then (stockaderef03_May.j0 k true a0_0 a0_1 a0_2 a0_3 a0_4 a0_5 a0_6 a0_7 a0_8 a0_9 a0_10 a0_11 a0_12 l0_13 l0_14) else (if a0_8 > 255 then (stockaderef03_May.j0 k true a0_0 a0_1 a0_2 a0_3 a0_4 a0_5 a0_6 a0_7 a0_8 a0_9 a0_10 a0_11 a0_12 l0_13 l0_14) else (stockaderef03_May.j0 k (decide ((l0_14.length : Int) > 65515)) a0_0 a0_1 a0_2 a0_3 a0_4 a0_5 a0_6 a0_7 a0_8 a0_9 a0_10 a0_11 a0_12 l0_13 l0_14)))))) = some r := by rw [if_pos rfl] at H; exact H
          clear H
          have H := H1
          clear H1
          by_cases c9 : (l0_13.length : Int) > 0
          · rw [if_pos c9] at H
            have c9b0 : decide (0 < (l0_13.length : Int)) = true := decide_eq_true c9
            have c9b1 : decide (0 < l0_13.length) = true := decide_eq_true (by omega)
            clear c9
            have H' := Aside0.mk H
            clear H
            have hcz10_0 : w3.cell? ⟨gb171, 0, none⟩ = some (.int .i64 a0_0) := (blk_cell BK171.out 0).trans rfl
            have hcz10_1 : w3.cell? ⟨gb171, 1, none⟩ = some (.int .i64 a0_1) := (blk_cell BK171.out 1).trans rfl
            have hcz10_2 : w3.cell? ⟨gb171, 2, none⟩ = some (.int .u64 a0_2) := (blk_cell BK171.out 2).trans rfl
            have hcz10_3 : w3.cell? ⟨gb171, 3, none⟩ = some (.int .u64 a0_3) := (blk_cell BK171.out 3).trans rfl
            have hcz10_4 : w3.cell? ⟨gb171, 4, none⟩ = some (.int .i64 a0_4) := (blk_cell BK171.out 4).trans rfl
            have hcz10_5 : w3.cell? ⟨gb171, 5, none⟩ = some (.int .u64 a0_5) := (blk_cell BK171.out 5).trans rfl
            have hcz10_6 : w3.cell? ⟨gb171, 6, none⟩ = some (.int .u64 a0_6) := (blk_cell BK171.out 6).trans rfl
            have hcz10_7 : w3.cell? ⟨gb171, 7, none⟩ = some (.int .i64 a0_7) := (blk_cell BK171.out 7).trans rfl
            have hcz10_8 : w3.cell? ⟨gb171, 8, none⟩ = some (.int .i64 a0_8) := (blk_cell BK171.out 8).trans rfl
            have hcz10_9 : w3.cell? ⟨gb171, 9, none⟩ = some (.bool a0_9) := (blk_cell BK171.out 9).trans rfl
            have hcz10_10 : w3.cell? ⟨gb171, 10, none⟩ = some (.int .u32 a0_10) := (blk_cell BK171.out 10).trans rfl
            have hcz10_11 : w3.cell? ⟨gb171, 11, none⟩ = some (.int .i64 a0_11) := (blk_cell BK171.out 11).trans rfl
            have hcz10_12 : w3.cell? ⟨gb171, 12, none⟩ = some (.bool a0_12) := (blk_cell BK171.out 12).trans rfl
            have hcz10_13 : w3.cell? ⟨gb171, 13, none⟩ = some (.slice A0_13 l0_13.length c0_13) := (blk_cell BK171.out 13).trans rfl
            have hcz10_14 : w3.cell? ⟨gb171, 14, none⟩ = some (.slice A0_14 l0_14.length c0_14) := (blk_cell BK171.out 14).trans rfl
            have hfz10_0 := blk_frozen BK171.out 0
            have hfz10_1 := blk_frozen BK171.out 1
            have hfz10_2 := blk_frozen BK171.out 2
            have hfz10_3 := blk_frozen BK171.out 3
            have hfz10_4 := blk_frozen BK171.out 4
            have hfz10_5 := blk_frozen BK171.out 5
            have hfz10_6 := blk_frozen BK171.out 6
            have hfz10_7 := blk_frozen BK171.out 7
            have hfz10_8 := blk_frozen BK171.out 8
            have hfz10_9 := blk_frozen BK171.out 9
            have hfz10_10 := blk_frozen BK171.out 10
            have hfz10_11 := blk_frozen BK171.out 11
            have hfz10_12 := blk_frozen BK171.out 12
            have hfz10_13 := blk_frozen BK171.out 13
            have hfz10_14 := blk_frozen BK171.out 14
            go_wp2_with (first | (go_at_call 156; (with_reducible refine (stockaderef03_four.calls a0_1 a0_2 a0_3 true _ A5.out).mono ?_); rintro e w11 ⟨rfl, hb⟩; have n0_ := Aside0.mk (blk_below (g := gb171) (o := .cells #[.int .i64 a0_0, .int .i64 a0_1, .int .u64 a0_2, .int .u64 a0_3, .int .i64 a0_4, .int .u64 a0_5, .int .u64 a0_6, .int .i64 a0_7, .int .i64 a0_8, .bool a0_9, .int .u32 a0_10, .int .i64 a0_11, .bool a0_12, .slice A0_13 l0_13.length c0_13, .slice A0_14 l0_14.length c0_14] 55 (0, 0)) (by (with_reducible repeat (first | refine blk_drewN ?_ _ | refine blk_drew ?_ | refine blk_alloc ?_ _)); exact BK171.out) hb); have n1_ := Aside0.mk (below_step (by repeat (first | (with_reducible first | exact HB.out | apply below_alloc | apply pw_below_drewN | apply below_drew1 | refine below_set ?_ GE171.out) | exact HB.out)) hb); clear BK171; clear HB; have BK171 := n0_; have HB := n1_; clear n0_ n1_; (try clear hb); (try clear hb2); (try clear hk); (try clear hi); have hcz12_0 : w11.cell? ⟨gb171, 0, none⟩ = some (.int .i64 a0_0) := (blk_cell BK171.out 0).trans rfl; have hcz12_1 : w11.cell? ⟨gb171, 1, none⟩ = some (.int .i64 a0_1) := (blk_cell BK171.out 1).trans rfl; have hcz12_2 : w11.cell? ⟨gb171, 2, none⟩ = some (.int .u64 a0_2) := (blk_cell BK171.out 2).trans rfl; have hcz12_3 : w11.cell? ⟨gb171, 3, none⟩ = some (.int .u64 a0_3) := (blk_cell BK171.out 3).trans rfl; have hcz12_4 : w11.cell? ⟨gb171, 4, none⟩ = some (.int .i64 a0_4) := (blk_cell BK171.out 4).trans rfl; have hcz12_5 : w11.cell? ⟨gb171, 5, none⟩ = some (.int .u64 a0_5) := (blk_cell BK171.out 5).trans rfl; have hcz12_6 : w11.cell? ⟨gb171, 6, none⟩ = some (.int .u64 a0_6) := (blk_cell BK171.out 6).trans rfl; have hcz12_7 : w11.cell? ⟨gb171, 7, none⟩ = some (.int .i64 a0_7) := (blk_cell BK171.out 7).trans rfl; have hcz12_8 : w11.cell? ⟨gb171, 8, none⟩ = some (.int .i64 a0_8) := (blk_cell BK171.out 8).trans rfl; have hcz12_9 : w11.cell? ⟨gb171, 9, none⟩ = some (.bool a0_9) := (blk_cell BK171.out 9).trans rfl; have hcz12_10 : w11.cell? ⟨gb171, 10, none⟩ = some (.int .u32 a0_10) := (blk_cell BK171.out 10).trans rfl; have hcz12_11 : w11.cell? ⟨gb171, 11, none⟩ = some (.int .i64 a0_11) := (blk_cell BK171.out 11).trans rfl; have hcz12_12 : w11.cell? ⟨gb171, 12, none⟩ = some (.bool a0_12) := (blk_cell BK171.out 12).trans rfl; have hcz12_13 : w11.cell? ⟨gb171, 13, none⟩ = some (.slice A0_13 l0_13.length c0_13) := (blk_cell BK171.out 13).trans rfl; have hcz12_14 : w11.cell? ⟨gb171, 14, none⟩ = some (.slice A0_14 l0_14.length c0_14) := (blk_cell BK171.out 14).trans rfl; have hfz12_0 := blk_frozen BK171.out 0; have hfz12_1 := blk_frozen BK171.out 1; have hfz12_2 := blk_frozen BK171.out 2; have hfz12_3 := blk_frozen BK171.out 3; have hfz12_4 := blk_frozen BK171.out 4; have hfz12_5 := blk_frozen BK171.out 5; have hfz12_6 := blk_frozen BK171.out 6; have hfz12_7 := blk_frozen BK171.out 7; have hfz12_8 := blk_frozen BK171.out 8; have hfz12_9 := blk_frozen BK171.out 9; have hfz12_10 := blk_frozen BK171.out 10; have hfz12_11 := blk_frozen BK171.out 11; have hfz12_12 := blk_frozen BK171.out 12; have hfz12_13 := blk_frozen BK171.out 13; have hfz12_14 := blk_frozen BK171.out 14) | (go_at_call 156; (with_reducible refine (stockaderef03_four.calls a0_4 a0_5 a0_6 true _ A7.out).mono ?_); rintro e w13 ⟨rfl, hb⟩; have n0_ := Aside0.mk (blk_below (g := gb171) (o := .cells #[.int .i64 a0_0, .int .i64 a0_1, .int .u64 a0_2, .int .u64 a0_3, .int .i64 a0_4, .int .u64 a0_5, .int .u64 a0_6, .int .i64 a0_7, .int .i64 a0_8, .bool a0_9, .int .u32 a0_10, .int .i64 a0_11, .bool a0_12, .slice A0_13 l0_13.length c0_13, .slice A0_14 l0_14.length c0_14] 55 (0, 0)) (by (with_reducible repeat (first | refine blk_drewN ?_ _ | refine blk_drew ?_ | refine blk_alloc ?_ _)); exact BK171.out) hb); have n1_ := Aside0.mk (below_step (by repeat (first | (with_reducible first | exact HB.out | apply below_alloc | apply pw_below_drewN | apply below_drew1 | refine below_set ?_ GE171.out) | exact HB.out)) hb); clear BK171; clear HB; have BK171 := n0_; have HB := n1_; clear n0_ n1_; (try clear hb); (try clear hb2); (try clear hk); (try clear hi); have hcz14_0 : w13.cell? ⟨gb171, 0, none⟩ = some (.int .i64 a0_0) := (blk_cell BK171.out 0).trans rfl; have hcz14_1 : w13.cell? ⟨gb171, 1, none⟩ = some (.int .i64 a0_1) := (blk_cell BK171.out 1).trans rfl; have hcz14_2 : w13.cell? ⟨gb171, 2, none⟩ = some (.int .u64 a0_2) := (blk_cell BK171.out 2).trans rfl; have hcz14_3 : w13.cell? ⟨gb171, 3, none⟩ = some (.int .u64 a0_3) := (blk_cell BK171.out 3).trans rfl; have hcz14_4 : w13.cell? ⟨gb171, 4, none⟩ = some (.int .i64 a0_4) := (blk_cell BK171.out 4).trans rfl; have hcz14_5 : w13.cell? ⟨gb171, 5, none⟩ = some (.int .u64 a0_5) := (blk_cell BK171.out 5).trans rfl; have hcz14_6 : w13.cell? ⟨gb171, 6, none⟩ = some (.int .u64 a0_6) := (blk_cell BK171.out 6).trans rfl; have hcz14_7 : w13.cell? ⟨gb171, 7, none⟩ = some (.int .i64 a0_7) := (blk_cell BK171.out 7).trans rfl; have hcz14_8 : w13.cell? ⟨gb171, 8, none⟩ = some (.int .i64 a0_8) := (blk_cell BK171.out 8).trans rfl; have hcz14_9 : w13.cell? ⟨gb171, 9, none⟩ = some (.bool a0_9) := (blk_cell BK171.out 9).trans rfl; have hcz14_10 : w13.cell? ⟨gb171, 10, none⟩ = some (.int .u32 a0_10) := (blk_cell BK171.out 10).trans rfl; have hcz14_11 : w13.cell? ⟨gb171, 11, none⟩ = some (.int .i64 a0_11) := (blk_cell BK171.out 11).trans rfl; have hcz14_12 : w13.cell? ⟨gb171, 12, none⟩ = some (.bool a0_12) := (blk_cell BK171.out 12).trans rfl; have hcz14_13 : w13.cell? ⟨gb171, 13, none⟩ = some (.slice A0_13 l0_13.length c0_13) := (blk_cell BK171.out 13).trans rfl; have hcz14_14 : w13.cell? ⟨gb171, 14, none⟩ = some (.slice A0_14 l0_14.length c0_14) := (blk_cell BK171.out 14).trans rfl; have hfz14_0 := blk_frozen BK171.out 0; have hfz14_1 := blk_frozen BK171.out 1; have hfz14_2 := blk_frozen BK171.out 2; have hfz14_3 := blk_frozen BK171.out 3; have hfz14_4 := blk_frozen BK171.out 4; have hfz14_5 := blk_frozen BK171.out 5; have hfz14_6 := blk_frozen BK171.out 6; have hfz14_7 := blk_frozen BK171.out 7; have hfz14_8 := blk_frozen BK171.out 8; have hfz14_9 := blk_frozen BK171.out 9; have hfz14_10 := blk_frozen BK171.out 10; have hfz14_11 := blk_frozen BK171.out 11; have hfz14_12 := blk_frozen BK171.out 12; have hfz14_13 := blk_frozen BK171.out 13; have hfz14_14 := blk_frozen BK171.out 14))
            go_meet
            case rel => exact ⟨_, (true), (by first | rfl | (simp; done) | (simp [*]; done)), H', ⟨by first | omega | exact Nat.le_refl _⟩, ⟨by (with_reducible repeat (first | refine blk_drewN ?_ _ | refine blk_drew ?_ | refine blk_alloc ?_ _)); exact BK171.out⟩, ⟨by repeat (first | (with_reducible first | exact HB.out | apply below_alloc | apply pw_below_drewN | apply below_drew1 | refine below_set ?_ GE171.out) | exact HB.out)⟩⟩
          · rw [if_neg c9] at H
            have c9b0 : decide (0 < (l0_13.length : Int)) = false := decide_eq_false c9
            have c9b1 : decide (0 < l0_13.length) = false := decide_eq_false (by omega)
            clear c9
            by_cases c15 : a0_7 < 0
            · rw [if_pos c15] at H
              have c15b0 : decide (a0_7 < 0) = true := decide_eq_true c15
              clear c15
              have H' := Aside0.mk H
              clear H
              have hcz16_0 : w3.cell? ⟨gb171, 0, none⟩ = some (.int .i64 a0_0) := (blk_cell BK171.out 0).trans rfl
              have hcz16_1 : w3.cell? ⟨gb171, 1, none⟩ = some (.int .i64 a0_1) := (blk_cell BK171.out 1).trans rfl
              have hcz16_2 : w3.cell? ⟨gb171, 2, none⟩ = some (.int .u64 a0_2) := (blk_cell BK171.out 2).trans rfl
              have hcz16_3 : w3.cell? ⟨gb171, 3, none⟩ = some (.int .u64 a0_3) := (blk_cell BK171.out 3).trans rfl
              have hcz16_4 : w3.cell? ⟨gb171, 4, none⟩ = some (.int .i64 a0_4) := (blk_cell BK171.out 4).trans rfl
              have hcz16_5 : w3.cell? ⟨gb171, 5, none⟩ = some (.int .u64 a0_5) := (blk_cell BK171.out 5).trans rfl
              have hcz16_6 : w3.cell? ⟨gb171, 6, none⟩ = some (.int .u64 a0_6) := (blk_cell BK171.out 6).trans rfl
              have hcz16_7 : w3.cell? ⟨gb171, 7, none⟩ = some (.int .i64 a0_7) := (blk_cell BK171.out 7).trans rfl
              have hcz16_8 : w3.cell? ⟨gb171, 8, none⟩ = some (.int .i64 a0_8) := (blk_cell BK171.out 8).trans rfl
              have hcz16_9 : w3.cell? ⟨gb171, 9, none⟩ = some (.bool a0_9) := (blk_cell BK171.out 9).trans rfl
              have hcz16_10 : w3.cell? ⟨gb171, 10, none⟩ = some (.int .u32 a0_10) := (blk_cell BK171.out 10).trans rfl
              have hcz16_11 : w3.cell? ⟨gb171, 11, none⟩ = some (.int .i64 a0_11) := (blk_cell BK171.out 11).trans rfl
              have hcz16_12 : w3.cell? ⟨gb171, 12, none⟩ = some (.bool a0_12) := (blk_cell BK171.out 12).trans rfl
              have hcz16_13 : w3.cell? ⟨gb171, 13, none⟩ = some (.slice A0_13 l0_13.length c0_13) := (blk_cell BK171.out 13).trans rfl
              have hcz16_14 : w3.cell? ⟨gb171, 14, none⟩ = some (.slice A0_14 l0_14.length c0_14) := (blk_cell BK171.out 14).trans rfl
              have hfz16_0 := blk_frozen BK171.out 0
              have hfz16_1 := blk_frozen BK171.out 1
              have hfz16_2 := blk_frozen BK171.out 2
              have hfz16_3 := blk_frozen BK171.out 3
              have hfz16_4 := blk_frozen BK171.out 4
              have hfz16_5 := blk_frozen BK171.out 5
              have hfz16_6 := blk_frozen BK171.out 6
              have hfz16_7 := blk_frozen BK171.out 7
              have hfz16_8 := blk_frozen BK171.out 8
              have hfz16_9 := blk_frozen BK171.out 9
              have hfz16_10 := blk_frozen BK171.out 10
              have hfz16_11 := blk_frozen BK171.out 11
              have hfz16_12 := blk_frozen BK171.out 12
              have hfz16_13 := blk_frozen BK171.out 13
              have hfz16_14 := blk_frozen BK171.out 14
              go_wp2_with (first | (go_at_call 156; (with_reducible refine (stockaderef03_four.calls a0_1 a0_2 a0_3 true _ A5.out).mono ?_); rintro e w17 ⟨rfl, hb⟩; have n0_ := Aside0.mk (blk_below (g := gb171) (o := .cells #[.int .i64 a0_0, .int .i64 a0_1, .int .u64 a0_2, .int .u64 a0_3, .int .i64 a0_4, .int .u64 a0_5, .int .u64 a0_6, .int .i64 a0_7, .int .i64 a0_8, .bool a0_9, .int .u32 a0_10, .int .i64 a0_11, .bool a0_12, .slice A0_13 l0_13.length c0_13, .slice A0_14 l0_14.length c0_14] 55 (0, 0)) (by (with_reducible repeat (first | refine blk_drewN ?_ _ | refine blk_drew ?_ | refine blk_alloc ?_ _)); exact BK171.out) hb); have n1_ := Aside0.mk (below_step (by repeat (first | (with_reducible first | exact HB.out | apply below_alloc | apply pw_below_drewN | apply below_drew1 | refine below_set ?_ GE171.out) | exact HB.out)) hb); clear BK171; clear HB; have BK171 := n0_; have HB := n1_; clear n0_ n1_; (try clear hb); (try clear hb2); (try clear hk); (try clear hi); have hcz18_0 : w17.cell? ⟨gb171, 0, none⟩ = some (.int .i64 a0_0) := (blk_cell BK171.out 0).trans rfl; have hcz18_1 : w17.cell? ⟨gb171, 1, none⟩ = some (.int .i64 a0_1) := (blk_cell BK171.out 1).trans rfl; have hcz18_2 : w17.cell? ⟨gb171, 2, none⟩ = some (.int .u64 a0_2) := (blk_cell BK171.out 2).trans rfl; have hcz18_3 : w17.cell? ⟨gb171, 3, none⟩ = some (.int .u64 a0_3) := (blk_cell BK171.out 3).trans rfl; have hcz18_4 : w17.cell? ⟨gb171, 4, none⟩ = some (.int .i64 a0_4) := (blk_cell BK171.out 4).trans rfl; have hcz18_5 : w17.cell? ⟨gb171, 5, none⟩ = some (.int .u64 a0_5) := (blk_cell BK171.out 5).trans rfl; have hcz18_6 : w17.cell? ⟨gb171, 6, none⟩ = some (.int .u64 a0_6) := (blk_cell BK171.out 6).trans rfl; have hcz18_7 : w17.cell? ⟨gb171, 7, none⟩ = some (.int .i64 a0_7) := (blk_cell BK171.out 7).trans rfl; have hcz18_8 : w17.cell? ⟨gb171, 8, none⟩ = some (.int .i64 a0_8) := (blk_cell BK171.out 8).trans rfl; have hcz18_9 : w17.cell? ⟨gb171, 9, none⟩ = some (.bool a0_9) := (blk_cell BK171.out 9).trans rfl; have hcz18_10 : w17.cell? ⟨gb171, 10, none⟩ = some (.int .u32 a0_10) := (blk_cell BK171.out 10).trans rfl; have hcz18_11 : w17.cell? ⟨gb171, 11, none⟩ = some (.int .i64 a0_11) := (blk_cell BK171.out 11).trans rfl; have hcz18_12 : w17.cell? ⟨gb171, 12, none⟩ = some (.bool a0_12) := (blk_cell BK171.out 12).trans rfl; have hcz18_13 : w17.cell? ⟨gb171, 13, none⟩ = some (.slice A0_13 l0_13.length c0_13) := (blk_cell BK171.out 13).trans rfl; have hcz18_14 : w17.cell? ⟨gb171, 14, none⟩ = some (.slice A0_14 l0_14.length c0_14) := (blk_cell BK171.out 14).trans rfl; have hfz18_0 := blk_frozen BK171.out 0; have hfz18_1 := blk_frozen BK171.out 1; have hfz18_2 := blk_frozen BK171.out 2; have hfz18_3 := blk_frozen BK171.out 3; have hfz18_4 := blk_frozen BK171.out 4; have hfz18_5 := blk_frozen BK171.out 5; have hfz18_6 := blk_frozen BK171.out 6; have hfz18_7 := blk_frozen BK171.out 7; have hfz18_8 := blk_frozen BK171.out 8; have hfz18_9 := blk_frozen BK171.out 9; have hfz18_10 := blk_frozen BK171.out 10; have hfz18_11 := blk_frozen BK171.out 11; have hfz18_12 := blk_frozen BK171.out 12; have hfz18_13 := blk_frozen BK171.out 13; have hfz18_14 := blk_frozen BK171.out 14) | (go_at_call 156; (with_reducible refine (stockaderef03_four.calls a0_4 a0_5 a0_6 true _ A7.out).mono ?_); rintro e w19 ⟨rfl, hb⟩; have n0_ := Aside0.mk (blk_below (g := gb171) (o := .cells #[.int .i64 a0_0, .int .i64 a0_1, .int .u64 a0_2, .int .u64 a0_3, .int .i64 a0_4, .int .u64 a0_5, .int .u64 a0_6, .int .i64 a0_7, .int .i64 a0_8, .bool a0_9, .int .u32 a0_10, .int .i64 a0_11, .bool a0_12, .slice A0_13 l0_13.length c0_13, .slice A0_14 l0_14.length c0_14] 55 (0, 0)) (by (with_reducible repeat (first | refine blk_drewN ?_ _ | refine blk_drew ?_ | refine blk_alloc ?_ _)); exact BK171.out) hb); have n1_ := Aside0.mk (below_step (by repeat (first | (with_reducible first | exact HB.out | apply below_alloc | apply pw_below_drewN | apply below_drew1 | refine below_set ?_ GE171.out) | exact HB.out)) hb); clear BK171; clear HB; have BK171 := n0_; have HB := n1_; clear n0_ n1_; (try clear hb); (try clear hb2); (try clear hk); (try clear hi); have hcz20_0 : w19.cell? ⟨gb171, 0, none⟩ = some (.int .i64 a0_0) := (blk_cell BK171.out 0).trans rfl; have hcz20_1 : w19.cell? ⟨gb171, 1, none⟩ = some (.int .i64 a0_1) := (blk_cell BK171.out 1).trans rfl; have hcz20_2 : w19.cell? ⟨gb171, 2, none⟩ = some (.int .u64 a0_2) := (blk_cell BK171.out 2).trans rfl; have hcz20_3 : w19.cell? ⟨gb171, 3, none⟩ = some (.int .u64 a0_3) := (blk_cell BK171.out 3).trans rfl; have hcz20_4 : w19.cell? ⟨gb171, 4, none⟩ = some (.int .i64 a0_4) := (blk_cell BK171.out 4).trans rfl; have hcz20_5 : w19.cell? ⟨gb171, 5, none⟩ = some (.int .u64 a0_5) := (blk_cell BK171.out 5).trans rfl; have hcz20_6 : w19.cell? ⟨gb171, 6, none⟩ = some (.int .u64 a0_6) := (blk_cell BK171.out 6).trans rfl; have hcz20_7 : w19.cell? ⟨gb171, 7, none⟩ = some (.int .i64 a0_7) := (blk_cell BK171.out 7).trans rfl; have hcz20_8 : w19.cell? ⟨gb171, 8, none⟩ = some (.int .i64 a0_8) := (blk_cell BK171.out 8).trans rfl; have hcz20_9 : w19.cell? ⟨gb171, 9, none⟩ = some (.bool a0_9) := (blk_cell BK171.out 9).trans rfl; have hcz20_10 : w19.cell? ⟨gb171, 10, none⟩ = some (.int .u32 a0_10) := (blk_cell BK171.out 10).trans rfl; have hcz20_11 : w19.cell? ⟨gb171, 11, none⟩ = some (.int .i64 a0_11) := (blk_cell BK171.out 11).trans rfl; have hcz20_12 : w19.cell? ⟨gb171, 12, none⟩ = some (.bool a0_12) := (blk_cell BK171.out 12).trans rfl; have hcz20_13 : w19.cell? ⟨gb171, 13, none⟩ = some (.slice A0_13 l0_13.length c0_13) := (blk_cell BK171.out 13).trans rfl; have hcz20_14 : w19.cell? ⟨gb171, 14, none⟩ = some (.slice A0_14 l0_14.length c0_14) := (blk_cell BK171.out 14).trans rfl; have hfz20_0 := blk_frozen BK171.out 0; have hfz20_1 := blk_frozen BK171.out 1; have hfz20_2 := blk_frozen BK171.out 2; have hfz20_3 := blk_frozen BK171.out 3; have hfz20_4 := blk_frozen BK171.out 4; have hfz20_5 := blk_frozen BK171.out 5; have hfz20_6 := blk_frozen BK171.out 6; have hfz20_7 := blk_frozen BK171.out 7; have hfz20_8 := blk_frozen BK171.out 8; have hfz20_9 := blk_frozen BK171.out 9; have hfz20_10 := blk_frozen BK171.out 10; have hfz20_11 := blk_frozen BK171.out 11; have hfz20_12 := blk_frozen BK171.out 12; have hfz20_13 := blk_frozen BK171.out 13; have hfz20_14 := blk_frozen BK171.out 14))
              go_meet
              case rel => exact ⟨_, (true), (by first | rfl | (simp; done) | (simp [*]; done)), H', ⟨by first | omega | exact Nat.le_refl _⟩, ⟨by (with_reducible repeat (first | refine blk_drewN ?_ _ | refine blk_drew ?_ | refine blk_alloc ?_ _)); exact BK171.out⟩, ⟨by repeat (first | (with_reducible first | exact HB.out | apply below_alloc | apply pw_below_drewN | apply below_drew1 | refine below_set ?_ GE171.out) | exact HB.out)⟩⟩
            · rw [if_neg c15] at H
              have c15b0 : decide (a0_7 < 0) = false := decide_eq_false c15
              clear c15
              by_cases c21 : a0_7 > 255
              · rw [if_pos c21] at H
                have c21b0 : decide (255 < a0_7) = true := decide_eq_true c21
                clear c21
                have H' := Aside0.mk H
                clear H
                have hcz22_0 : w3.cell? ⟨gb171, 0, none⟩ = some (.int .i64 a0_0) := (blk_cell BK171.out 0).trans rfl
                have hcz22_1 : w3.cell? ⟨gb171, 1, none⟩ = some (.int .i64 a0_1) := (blk_cell BK171.out 1).trans rfl
                have hcz22_2 : w3.cell? ⟨gb171, 2, none⟩ = some (.int .u64 a0_2) := (blk_cell BK171.out 2).trans rfl
                have hcz22_3 : w3.cell? ⟨gb171, 3, none⟩ = some (.int .u64 a0_3) := (blk_cell BK171.out 3).trans rfl
                have hcz22_4 : w3.cell? ⟨gb171, 4, none⟩ = some (.int .i64 a0_4) := (blk_cell BK171.out 4).trans rfl
                have hcz22_5 : w3.cell? ⟨gb171, 5, none⟩ = some (.int .u64 a0_5) := (blk_cell BK171.out 5).trans rfl
                have hcz22_6 : w3.cell? ⟨gb171, 6, none⟩ = some (.int .u64 a0_6) := (blk_cell BK171.out 6).trans rfl
                have hcz22_7 : w3.cell? ⟨gb171, 7, none⟩ = some (.int .i64 a0_7) := (blk_cell BK171.out 7).trans rfl
                have hcz22_8 : w3.cell? ⟨gb171, 8, none⟩ = some (.int .i64 a0_8) := (blk_cell BK171.out 8).trans rfl
                have hcz22_9 : w3.cell? ⟨gb171, 9, none⟩ = some (.bool a0_9) := (blk_cell BK171.out 9).trans rfl
                have hcz22_10 : w3.cell? ⟨gb171, 10, none⟩ = some (.int .u32 a0_10) := (blk_cell BK171.out 10).trans rfl
                have hcz22_11 : w3.cell? ⟨gb171, 11, none⟩ = some (.int .i64 a0_11) := (blk_cell BK171.out 11).trans rfl
                have hcz22_12 : w3.cell? ⟨gb171, 12, none⟩ = some (.bool a0_12) := (blk_cell BK171.out 12).trans rfl
                have hcz22_13 : w3.cell? ⟨gb171, 13, none⟩ = some (.slice A0_13 l0_13.length c0_13) := (blk_cell BK171.out 13).trans rfl
                have hcz22_14 : w3.cell? ⟨gb171, 14, none⟩ = some (.slice A0_14 l0_14.length c0_14) := (blk_cell BK171.out 14).trans rfl
                have hfz22_0 := blk_frozen BK171.out 0
                have hfz22_1 := blk_frozen BK171.out 1
                have hfz22_2 := blk_frozen BK171.out 2
                have hfz22_3 := blk_frozen BK171.out 3
                have hfz22_4 := blk_frozen BK171.out 4
                have hfz22_5 := blk_frozen BK171.out 5
                have hfz22_6 := blk_frozen BK171.out 6
                have hfz22_7 := blk_frozen BK171.out 7
                have hfz22_8 := blk_frozen BK171.out 8
                have hfz22_9 := blk_frozen BK171.out 9
                have hfz22_10 := blk_frozen BK171.out 10
                have hfz22_11 := blk_frozen BK171.out 11
                have hfz22_12 := blk_frozen BK171.out 12
                have hfz22_13 := blk_frozen BK171.out 13
                have hfz22_14 := blk_frozen BK171.out 14
                go_wp2_with (first | (go_at_call 156; (with_reducible refine (stockaderef03_four.calls a0_1 a0_2 a0_3 true _ A5.out).mono ?_); rintro e w23 ⟨rfl, hb⟩; have n0_ := Aside0.mk (blk_below (g := gb171) (o := .cells #[.int .i64 a0_0, .int .i64 a0_1, .int .u64 a0_2, .int .u64 a0_3, .int .i64 a0_4, .int .u64 a0_5, .int .u64 a0_6, .int .i64 a0_7, .int .i64 a0_8, .bool a0_9, .int .u32 a0_10, .int .i64 a0_11, .bool a0_12, .slice A0_13 l0_13.length c0_13, .slice A0_14 l0_14.length c0_14] 55 (0, 0)) (by (with_reducible repeat (first | refine blk_drewN ?_ _ | refine blk_drew ?_ | refine blk_alloc ?_ _)); exact BK171.out) hb); have n1_ := Aside0.mk (below_step (by repeat (first | (with_reducible first | exact HB.out | apply below_alloc | apply pw_below_drewN | apply below_drew1 | refine below_set ?_ GE171.out) | exact HB.out)) hb); clear BK171; clear HB; have BK171 := n0_; have HB := n1_; clear n0_ n1_; (try clear hb); (try clear hb2); (try clear hk); (try clear hi); have hcz24_0 : w23.cell? ⟨gb171, 0, none⟩ = some (.int .i64 a0_0) := (blk_cell BK171.out 0).trans rfl; have hcz24_1 : w23.cell? ⟨gb171, 1, none⟩ = some (.int .i64 a0_1) := (blk_cell BK171.out 1).trans rfl; have hcz24_2 : w23.cell? ⟨gb171, 2, none⟩ = some (.int .u64 a0_2) := (blk_cell BK171.out 2).trans rfl; have hcz24_3 : w23.cell? ⟨gb171, 3, none⟩ = some (.int .u64 a0_3) := (blk_cell BK171.out 3).trans rfl; have hcz24_4 : w23.cell? ⟨gb171, 4, none⟩ = some (.int .i64 a0_4) := (blk_cell BK171.out 4).trans rfl; have hcz24_5 : w23.cell? ⟨gb171, 5, none⟩ = some (.int .u64 a0_5) := (blk_cell BK171.out 5).trans rfl; have hcz24_6 : w23.cell? ⟨gb171, 6, none⟩ = some (.int .u64 a0_6) := (blk_cell BK171.out 6).trans rfl; have hcz24_7 : w23.cell? ⟨gb171, 7, none⟩ = some (.int .i64 a0_7) := (blk_cell BK171.out 7).trans rfl; have hcz24_8 : w23.cell? ⟨gb171, 8, none⟩ = some (.int .i64 a0_8) := (blk_cell BK171.out 8).trans rfl; have hcz24_9 : w23.cell? ⟨gb171, 9, none⟩ = some (.bool a0_9) := (blk_cell BK171.out 9).trans rfl; have hcz24_10 : w23.cell? ⟨gb171, 10, none⟩ = some (.int .u32 a0_10) := (blk_cell BK171.out 10).trans rfl; have hcz24_11 : w23.cell? ⟨gb171, 11, none⟩ = some (.int .i64 a0_11) := (blk_cell BK171.out 11).trans rfl; have hcz24_12 : w23.cell? ⟨gb171, 12, none⟩ = some (.bool a0_12) := (blk_cell BK171.out 12).trans rfl; have hcz24_13 : w23.cell? ⟨gb171, 13, none⟩ = some (.slice A0_13 l0_13.length c0_13) := (blk_cell BK171.out 13).trans rfl; have hcz24_14 : w23.cell? ⟨gb171, 14, none⟩ = some (.slice A0_14 l0_14.length c0_14) := (blk_cell BK171.out 14).trans rfl; have hfz24_0 := blk_frozen BK171.out 0; have hfz24_1 := blk_frozen BK171.out 1; have hfz24_2 := blk_frozen BK171.out 2; have hfz24_3 := blk_frozen BK171.out 3; have hfz24_4 := blk_frozen BK171.out 4; have hfz24_5 := blk_frozen BK171.out 5; have hfz24_6 := blk_frozen BK171.out 6; have hfz24_7 := blk_frozen BK171.out 7; have hfz24_8 := blk_frozen BK171.out 8; have hfz24_9 := blk_frozen BK171.out 9; have hfz24_10 := blk_frozen BK171.out 10; have hfz24_11 := blk_frozen BK171.out 11; have hfz24_12 := blk_frozen BK171.out 12; have hfz24_13 := blk_frozen BK171.out 13; have hfz24_14 := blk_frozen BK171.out 14) | (go_at_call 156; (with_reducible refine (stockaderef03_four.calls a0_4 a0_5 a0_6 true _ A7.out).mono ?_); rintro e w25 ⟨rfl, hb⟩; have n0_ := Aside0.mk (blk_below (g := gb171) (o := .cells #[.int .i64 a0_0, .int .i64 a0_1, .int .u64 a0_2, .int .u64 a0_3, .int .i64 a0_4, .int .u64 a0_5, .int .u64 a0_6, .int .i64 a0_7, .int .i64 a0_8, .bool a0_9, .int .u32 a0_10, .int .i64 a0_11, .bool a0_12, .slice A0_13 l0_13.length c0_13, .slice A0_14 l0_14.length c0_14] 55 (0, 0)) (by (with_reducible repeat (first | refine blk_drewN ?_ _ | refine blk_drew ?_ | refine blk_alloc ?_ _)); exact BK171.out) hb); have n1_ := Aside0.mk (below_step (by repeat (first | (with_reducible first | exact HB.out | apply below_alloc | apply pw_below_drewN | apply below_drew1 | refine below_set ?_ GE171.out) | exact HB.out)) hb); clear BK171; clear HB; have BK171 := n0_; have HB := n1_; clear n0_ n1_; (try clear hb); (try clear hb2); (try clear hk); (try clear hi); have hcz26_0 : w25.cell? ⟨gb171, 0, none⟩ = some (.int .i64 a0_0) := (blk_cell BK171.out 0).trans rfl; have hcz26_1 : w25.cell? ⟨gb171, 1, none⟩ = some (.int .i64 a0_1) := (blk_cell BK171.out 1).trans rfl; have hcz26_2 : w25.cell? ⟨gb171, 2, none⟩ = some (.int .u64 a0_2) := (blk_cell BK171.out 2).trans rfl; have hcz26_3 : w25.cell? ⟨gb171, 3, none⟩ = some (.int .u64 a0_3) := (blk_cell BK171.out 3).trans rfl; have hcz26_4 : w25.cell? ⟨gb171, 4, none⟩ = some (.int .i64 a0_4) := (blk_cell BK171.out 4).trans rfl; have hcz26_5 : w25.cell? ⟨gb171, 5, none⟩ = some (.int .u64 a0_5) := (blk_cell BK171.out 5).trans rfl; have hcz26_6 : w25.cell? ⟨gb171, 6, none⟩ = some (.int .u64 a0_6) := (blk_cell BK171.out 6).trans rfl; have hcz26_7 : w25.cell? ⟨gb171, 7, none⟩ = some (.int .i64 a0_7) := (blk_cell BK171.out 7).trans rfl; have hcz26_8 : w25.cell? ⟨gb171, 8, none⟩ = some (.int .i64 a0_8) := (blk_cell BK171.out 8).trans rfl; have hcz26_9 : w25.cell? ⟨gb171, 9, none⟩ = some (.bool a0_9) := (blk_cell BK171.out 9).trans rfl; have hcz26_10 : w25.cell? ⟨gb171, 10, none⟩ = some (.int .u32 a0_10) := (blk_cell BK171.out 10).trans rfl; have hcz26_11 : w25.cell? ⟨gb171, 11, none⟩ = some (.int .i64 a0_11) := (blk_cell BK171.out 11).trans rfl; have hcz26_12 : w25.cell? ⟨gb171, 12, none⟩ = some (.bool a0_12) := (blk_cell BK171.out 12).trans rfl; have hcz26_13 : w25.cell? ⟨gb171, 13, none⟩ = some (.slice A0_13 l0_13.length c0_13) := (blk_cell BK171.out 13).trans rfl; have hcz26_14 : w25.cell? ⟨gb171, 14, none⟩ = some (.slice A0_14 l0_14.length c0_14) := (blk_cell BK171.out 14).trans rfl; have hfz26_0 := blk_frozen BK171.out 0; have hfz26_1 := blk_frozen BK171.out 1; have hfz26_2 := blk_frozen BK171.out 2; have hfz26_3 := blk_frozen BK171.out 3; have hfz26_4 := blk_frozen BK171.out 4; have hfz26_5 := blk_frozen BK171.out 5; have hfz26_6 := blk_frozen BK171.out 6; have hfz26_7 := blk_frozen BK171.out 7; have hfz26_8 := blk_frozen BK171.out 8; have hfz26_9 := blk_frozen BK171.out 9; have hfz26_10 := blk_frozen BK171.out 10; have hfz26_11 := blk_frozen BK171.out 11; have hfz26_12 := blk_frozen BK171.out 12; have hfz26_13 := blk_frozen BK171.out 13; have hfz26_14 := blk_frozen BK171.out 14))
                go_meet
                case rel => exact ⟨_, (true), (by first | rfl | (simp; done) | (simp [*]; done)), H', ⟨by first | omega | exact Nat.le_refl _⟩, ⟨by (with_reducible repeat (first | refine blk_drewN ?_ _ | refine blk_drew ?_ | refine blk_alloc ?_ _)); exact BK171.out⟩, ⟨by repeat (first | (with_reducible first | exact HB.out | apply below_alloc | apply pw_below_drewN | apply below_drew1 | refine below_set ?_ GE171.out) | exact HB.out)⟩⟩
              · rw [if_neg c21] at H
                have c21b0 : decide (255 < a0_7) = false := decide_eq_false c21
                clear c21
                by_cases c27 : a0_8 < 1
                · rw [if_pos c27] at H
                  have c27b0 : decide (a0_8 < 1) = true := decide_eq_true c27
                  clear c27
                  have H' := Aside0.mk H
                  clear H
                  have hcz28_0 : w3.cell? ⟨gb171, 0, none⟩ = some (.int .i64 a0_0) := (blk_cell BK171.out 0).trans rfl
                  have hcz28_1 : w3.cell? ⟨gb171, 1, none⟩ = some (.int .i64 a0_1) := (blk_cell BK171.out 1).trans rfl
                  have hcz28_2 : w3.cell? ⟨gb171, 2, none⟩ = some (.int .u64 a0_2) := (blk_cell BK171.out 2).trans rfl
                  have hcz28_3 : w3.cell? ⟨gb171, 3, none⟩ = some (.int .u64 a0_3) := (blk_cell BK171.out 3).trans rfl
                  have hcz28_4 : w3.cell? ⟨gb171, 4, none⟩ = some (.int .i64 a0_4) := (blk_cell BK171.out 4).trans rfl
                  have hcz28_5 : w3.cell? ⟨gb171, 5, none⟩ = some (.int .u64 a0_5) := (blk_cell BK171.out 5).trans rfl
                  have hcz28_6 : w3.cell? ⟨gb171, 6, none⟩ = some (.int .u64 a0_6) := (blk_cell BK171.out 6).trans rfl
                  have hcz28_7 : w3.cell? ⟨gb171, 7, none⟩ = some (.int .i64 a0_7) := (blk_cell BK171.out 7).trans rfl
                  have hcz28_8 : w3.cell? ⟨gb171, 8, none⟩ = some (.int .i64 a0_8) := (blk_cell BK171.out 8).trans rfl
                  have hcz28_9 : w3.cell? ⟨gb171, 9, none⟩ = some (.bool a0_9) := (blk_cell BK171.out 9).trans rfl
                  have hcz28_10 : w3.cell? ⟨gb171, 10, none⟩ = some (.int .u32 a0_10) := (blk_cell BK171.out 10).trans rfl
                  have hcz28_11 : w3.cell? ⟨gb171, 11, none⟩ = some (.int .i64 a0_11) := (blk_cell BK171.out 11).trans rfl
                  have hcz28_12 : w3.cell? ⟨gb171, 12, none⟩ = some (.bool a0_12) := (blk_cell BK171.out 12).trans rfl
                  have hcz28_13 : w3.cell? ⟨gb171, 13, none⟩ = some (.slice A0_13 l0_13.length c0_13) := (blk_cell BK171.out 13).trans rfl
                  have hcz28_14 : w3.cell? ⟨gb171, 14, none⟩ = some (.slice A0_14 l0_14.length c0_14) := (blk_cell BK171.out 14).trans rfl
                  have hfz28_0 := blk_frozen BK171.out 0
                  have hfz28_1 := blk_frozen BK171.out 1
                  have hfz28_2 := blk_frozen BK171.out 2
                  have hfz28_3 := blk_frozen BK171.out 3
                  have hfz28_4 := blk_frozen BK171.out 4
                  have hfz28_5 := blk_frozen BK171.out 5
                  have hfz28_6 := blk_frozen BK171.out 6
                  have hfz28_7 := blk_frozen BK171.out 7
                  have hfz28_8 := blk_frozen BK171.out 8
                  have hfz28_9 := blk_frozen BK171.out 9
                  have hfz28_10 := blk_frozen BK171.out 10
                  have hfz28_11 := blk_frozen BK171.out 11
                  have hfz28_12 := blk_frozen BK171.out 12
                  have hfz28_13 := blk_frozen BK171.out 13
                  have hfz28_14 := blk_frozen BK171.out 14
                  go_wp2_with (first | (go_at_call 156; (with_reducible refine (stockaderef03_four.calls a0_1 a0_2 a0_3 true _ A5.out).mono ?_); rintro e w29 ⟨rfl, hb⟩; have n0_ := Aside0.mk (blk_below (g := gb171) (o := .cells #[.int .i64 a0_0, .int .i64 a0_1, .int .u64 a0_2, .int .u64 a0_3, .int .i64 a0_4, .int .u64 a0_5, .int .u64 a0_6, .int .i64 a0_7, .int .i64 a0_8, .bool a0_9, .int .u32 a0_10, .int .i64 a0_11, .bool a0_12, .slice A0_13 l0_13.length c0_13, .slice A0_14 l0_14.length c0_14] 55 (0, 0)) (by (with_reducible repeat (first | refine blk_drewN ?_ _ | refine blk_drew ?_ | refine blk_alloc ?_ _)); exact BK171.out) hb); have n1_ := Aside0.mk (below_step (by repeat (first | (with_reducible first | exact HB.out | apply below_alloc | apply pw_below_drewN | apply below_drew1 | refine below_set ?_ GE171.out) | exact HB.out)) hb); clear BK171; clear HB; have BK171 := n0_; have HB := n1_; clear n0_ n1_; (try clear hb); (try clear hb2); (try clear hk); (try clear hi); have hcz30_0 : w29.cell? ⟨gb171, 0, none⟩ = some (.int .i64 a0_0) := (blk_cell BK171.out 0).trans rfl; have hcz30_1 : w29.cell? ⟨gb171, 1, none⟩ = some (.int .i64 a0_1) := (blk_cell BK171.out 1).trans rfl; have hcz30_2 : w29.cell? ⟨gb171, 2, none⟩ = some (.int .u64 a0_2) := (blk_cell BK171.out 2).trans rfl; have hcz30_3 : w29.cell? ⟨gb171, 3, none⟩ = some (.int .u64 a0_3) := (blk_cell BK171.out 3).trans rfl; have hcz30_4 : w29.cell? ⟨gb171, 4, none⟩ = some (.int .i64 a0_4) := (blk_cell BK171.out 4).trans rfl; have hcz30_5 : w29.cell? ⟨gb171, 5, none⟩ = some (.int .u64 a0_5) := (blk_cell BK171.out 5).trans rfl; have hcz30_6 : w29.cell? ⟨gb171, 6, none⟩ = some (.int .u64 a0_6) := (blk_cell BK171.out 6).trans rfl; have hcz30_7 : w29.cell? ⟨gb171, 7, none⟩ = some (.int .i64 a0_7) := (blk_cell BK171.out 7).trans rfl; have hcz30_8 : w29.cell? ⟨gb171, 8, none⟩ = some (.int .i64 a0_8) := (blk_cell BK171.out 8).trans rfl; have hcz30_9 : w29.cell? ⟨gb171, 9, none⟩ = some (.bool a0_9) := (blk_cell BK171.out 9).trans rfl; have hcz30_10 : w29.cell? ⟨gb171, 10, none⟩ = some (.int .u32 a0_10) := (blk_cell BK171.out 10).trans rfl; have hcz30_11 : w29.cell? ⟨gb171, 11, none⟩ = some (.int .i64 a0_11) := (blk_cell BK171.out 11).trans rfl; have hcz30_12 : w29.cell? ⟨gb171, 12, none⟩ = some (.bool a0_12) := (blk_cell BK171.out 12).trans rfl; have hcz30_13 : w29.cell? ⟨gb171, 13, none⟩ = some (.slice A0_13 l0_13.length c0_13) := (blk_cell BK171.out 13).trans rfl; have hcz30_14 : w29.cell? ⟨gb171, 14, none⟩ = some (.slice A0_14 l0_14.length c0_14) := (blk_cell BK171.out 14).trans rfl; have hfz30_0 := blk_frozen BK171.out 0; have hfz30_1 := blk_frozen BK171.out 1; have hfz30_2 := blk_frozen BK171.out 2; have hfz30_3 := blk_frozen BK171.out 3; have hfz30_4 := blk_frozen BK171.out 4; have hfz30_5 := blk_frozen BK171.out 5; have hfz30_6 := blk_frozen BK171.out 6; have hfz30_7 := blk_frozen BK171.out 7; have hfz30_8 := blk_frozen BK171.out 8; have hfz30_9 := blk_frozen BK171.out 9; have hfz30_10 := blk_frozen BK171.out 10; have hfz30_11 := blk_frozen BK171.out 11; have hfz30_12 := blk_frozen BK171.out 12; have hfz30_13 := blk_frozen BK171.out 13; have hfz30_14 := blk_frozen BK171.out 14) | (go_at_call 156; (with_reducible refine (stockaderef03_four.calls a0_4 a0_5 a0_6 true _ A7.out).mono ?_); rintro e w31 ⟨rfl, hb⟩; have n0_ := Aside0.mk (blk_below (g := gb171) (o := .cells #[.int .i64 a0_0, .int .i64 a0_1, .int .u64 a0_2, .int .u64 a0_3, .int .i64 a0_4, .int .u64 a0_5, .int .u64 a0_6, .int .i64 a0_7, .int .i64 a0_8, .bool a0_9, .int .u32 a0_10, .int .i64 a0_11, .bool a0_12, .slice A0_13 l0_13.length c0_13, .slice A0_14 l0_14.length c0_14] 55 (0, 0)) (by (with_reducible repeat (first | refine blk_drewN ?_ _ | refine blk_drew ?_ | refine blk_alloc ?_ _)); exact BK171.out) hb); have n1_ := Aside0.mk (below_step (by repeat (first | (with_reducible first | exact HB.out | apply below_alloc | apply pw_below_drewN | apply below_drew1 | refine below_set ?_ GE171.out) | exact HB.out)) hb); clear BK171; clear HB; have BK171 := n0_; have HB := n1_; clear n0_ n1_; (try clear hb); (try clear hb2); (try clear hk); (try clear hi); have hcz32_0 : w31.cell? ⟨gb171, 0, none⟩ = some (.int .i64 a0_0) := (blk_cell BK171.out 0).trans rfl; have hcz32_1 : w31.cell? ⟨gb171, 1, none⟩ = some (.int .i64 a0_1) := (blk_cell BK171.out 1).trans rfl; have hcz32_2 : w31.cell? ⟨gb171, 2, none⟩ = some (.int .u64 a0_2) := (blk_cell BK171.out 2).trans rfl; have hcz32_3 : w31.cell? ⟨gb171, 3, none⟩ = some (.int .u64 a0_3) := (blk_cell BK171.out 3).trans rfl; have hcz32_4 : w31.cell? ⟨gb171, 4, none⟩ = some (.int .i64 a0_4) := (blk_cell BK171.out 4).trans rfl; have hcz32_5 : w31.cell? ⟨gb171, 5, none⟩ = some (.int .u64 a0_5) := (blk_cell BK171.out 5).trans rfl; have hcz32_6 : w31.cell? ⟨gb171, 6, none⟩ = some (.int .u64 a0_6) := (blk_cell BK171.out 6).trans rfl; have hcz32_7 : w31.cell? ⟨gb171, 7, none⟩ = some (.int .i64 a0_7) := (blk_cell BK171.out 7).trans rfl; have hcz32_8 : w31.cell? ⟨gb171, 8, none⟩ = some (.int .i64 a0_8) := (blk_cell BK171.out 8).trans rfl; have hcz32_9 : w31.cell? ⟨gb171, 9, none⟩ = some (.bool a0_9) := (blk_cell BK171.out 9).trans rfl; have hcz32_10 : w31.cell? ⟨gb171, 10, none⟩ = some (.int .u32 a0_10) := (blk_cell BK171.out 10).trans rfl; have hcz32_11 : w31.cell? ⟨gb171, 11, none⟩ = some (.int .i64 a0_11) := (blk_cell BK171.out 11).trans rfl; have hcz32_12 : w31.cell? ⟨gb171, 12, none⟩ = some (.bool a0_12) := (blk_cell BK171.out 12).trans rfl; have hcz32_13 : w31.cell? ⟨gb171, 13, none⟩ = some (.slice A0_13 l0_13.length c0_13) := (blk_cell BK171.out 13).trans rfl; have hcz32_14 : w31.cell? ⟨gb171, 14, none⟩ = some (.slice A0_14 l0_14.length c0_14) := (blk_cell BK171.out 14).trans rfl; have hfz32_0 := blk_frozen BK171.out 0; have hfz32_1 := blk_frozen BK171.out 1; have hfz32_2 := blk_frozen BK171.out 2; have hfz32_3 := blk_frozen BK171.out 3; have hfz32_4 := blk_frozen BK171.out 4; have hfz32_5 := blk_frozen BK171.out 5; have hfz32_6 := blk_frozen BK171.out 6; have hfz32_7 := blk_frozen BK171.out 7; have hfz32_8 := blk_frozen BK171.out 8; have hfz32_9 := blk_frozen BK171.out 9; have hfz32_10 := blk_frozen BK171.out 10; have hfz32_11 := blk_frozen BK171.out 11; have hfz32_12 := blk_frozen BK171.out 12; have hfz32_13 := blk_frozen BK171.out 13; have hfz32_14 := blk_frozen BK171.out 14))
                  go_meet
                  case rel => exact ⟨_, (true), (by first | rfl | (simp; done) | (simp [*]; done)), H', ⟨by first | omega | exact Nat.le_refl _⟩, ⟨by (with_reducible repeat (first | refine blk_drewN ?_ _ | refine blk_drew ?_ | refine blk_alloc ?_ _)); exact BK171.out⟩, ⟨by repeat (first | (with_reducible first | exact HB.out | apply below_alloc | apply pw_below_drewN | apply below_drew1 | refine below_set ?_ GE171.out) | exact HB.out)⟩⟩
                · rw [if_neg c27] at H
                  have c27b0 : decide (a0_8 < 1) = false := decide_eq_false c27
                  clear c27
                  by_cases c33 : a0_8 > 255
                  · rw [if_pos c33] at H
                    have c33b0 : decide (255 < a0_8) = true := decide_eq_true c33
                    clear c33
                    have H' := Aside0.mk H
                    clear H
                    have hcz34_0 : w3.cell? ⟨gb171, 0, none⟩ = some (.int .i64 a0_0) := (blk_cell BK171.out 0).trans rfl
                    have hcz34_1 : w3.cell? ⟨gb171, 1, none⟩ = some (.int .i64 a0_1) := (blk_cell BK171.out 1).trans rfl
                    have hcz34_2 : w3.cell? ⟨gb171, 2, none⟩ = some (.int .u64 a0_2) := (blk_cell BK171.out 2).trans rfl
                    have hcz34_3 : w3.cell? ⟨gb171, 3, none⟩ = some (.int .u64 a0_3) := (blk_cell BK171.out 3).trans rfl
                    have hcz34_4 : w3.cell? ⟨gb171, 4, none⟩ = some (.int .i64 a0_4) := (blk_cell BK171.out 4).trans rfl
                    have hcz34_5 : w3.cell? ⟨gb171, 5, none⟩ = some (.int .u64 a0_5) := (blk_cell BK171.out 5).trans rfl
                    have hcz34_6 : w3.cell? ⟨gb171, 6, none⟩ = some (.int .u64 a0_6) := (blk_cell BK171.out 6).trans rfl
                    have hcz34_7 : w3.cell? ⟨gb171, 7, none⟩ = some (.int .i64 a0_7) := (blk_cell BK171.out 7).trans rfl
                    have hcz34_8 : w3.cell? ⟨gb171, 8, none⟩ = some (.int .i64 a0_8) := (blk_cell BK171.out 8).trans rfl
                    have hcz34_9 : w3.cell? ⟨gb171, 9, none⟩ = some (.bool a0_9) := (blk_cell BK171.out 9).trans rfl
                    have hcz34_10 : w3.cell? ⟨gb171, 10, none⟩ = some (.int .u32 a0_10) := (blk_cell BK171.out 10).trans rfl
                    have hcz34_11 : w3.cell? ⟨gb171, 11, none⟩ = some (.int .i64 a0_11) := (blk_cell BK171.out 11).trans rfl
                    have hcz34_12 : w3.cell? ⟨gb171, 12, none⟩ = some (.bool a0_12) := (blk_cell BK171.out 12).trans rfl
                    have hcz34_13 : w3.cell? ⟨gb171, 13, none⟩ = some (.slice A0_13 l0_13.length c0_13) := (blk_cell BK171.out 13).trans rfl
                    have hcz34_14 : w3.cell? ⟨gb171, 14, none⟩ = some (.slice A0_14 l0_14.length c0_14) := (blk_cell BK171.out 14).trans rfl
                    have hfz34_0 := blk_frozen BK171.out 0
                    have hfz34_1 := blk_frozen BK171.out 1
                    have hfz34_2 := blk_frozen BK171.out 2
                    have hfz34_3 := blk_frozen BK171.out 3
                    have hfz34_4 := blk_frozen BK171.out 4
                    have hfz34_5 := blk_frozen BK171.out 5
                    have hfz34_6 := blk_frozen BK171.out 6
                    have hfz34_7 := blk_frozen BK171.out 7
                    have hfz34_8 := blk_frozen BK171.out 8
                    have hfz34_9 := blk_frozen BK171.out 9
                    have hfz34_10 := blk_frozen BK171.out 10
                    have hfz34_11 := blk_frozen BK171.out 11
                    have hfz34_12 := blk_frozen BK171.out 12
                    have hfz34_13 := blk_frozen BK171.out 13
                    have hfz34_14 := blk_frozen BK171.out 14
                    go_wp2_with (first | (go_at_call 156; (with_reducible refine (stockaderef03_four.calls a0_1 a0_2 a0_3 true _ A5.out).mono ?_); rintro e w35 ⟨rfl, hb⟩; have n0_ := Aside0.mk (blk_below (g := gb171) (o := .cells #[.int .i64 a0_0, .int .i64 a0_1, .int .u64 a0_2, .int .u64 a0_3, .int .i64 a0_4, .int .u64 a0_5, .int .u64 a0_6, .int .i64 a0_7, .int .i64 a0_8, .bool a0_9, .int .u32 a0_10, .int .i64 a0_11, .bool a0_12, .slice A0_13 l0_13.length c0_13, .slice A0_14 l0_14.length c0_14] 55 (0, 0)) (by (with_reducible repeat (first | refine blk_drewN ?_ _ | refine blk_drew ?_ | refine blk_alloc ?_ _)); exact BK171.out) hb); have n1_ := Aside0.mk (below_step (by repeat (first | (with_reducible first | exact HB.out | apply below_alloc | apply pw_below_drewN | apply below_drew1 | refine below_set ?_ GE171.out) | exact HB.out)) hb); clear BK171; clear HB; have BK171 := n0_; have HB := n1_; clear n0_ n1_; (try clear hb); (try clear hb2); (try clear hk); (try clear hi); have hcz36_0 : w35.cell? ⟨gb171, 0, none⟩ = some (.int .i64 a0_0) := (blk_cell BK171.out 0).trans rfl; have hcz36_1 : w35.cell? ⟨gb171, 1, none⟩ = some (.int .i64 a0_1) := (blk_cell BK171.out 1).trans rfl; have hcz36_2 : w35.cell? ⟨gb171, 2, none⟩ = some (.int .u64 a0_2) := (blk_cell BK171.out 2).trans rfl; have hcz36_3 : w35.cell? ⟨gb171, 3, none⟩ = some (.int .u64 a0_3) := (blk_cell BK171.out 3).trans rfl; have hcz36_4 : w35.cell? ⟨gb171, 4, none⟩ = some (.int .i64 a0_4) := (blk_cell BK171.out 4).trans rfl; have hcz36_5 : w35.cell? ⟨gb171, 5, none⟩ = some (.int .u64 a0_5) := (blk_cell BK171.out 5).trans rfl; have hcz36_6 : w35.cell? ⟨gb171, 6, none⟩ = some (.int .u64 a0_6) := (blk_cell BK171.out 6).trans rfl; have hcz36_7 : w35.cell? ⟨gb171, 7, none⟩ = some (.int .i64 a0_7) := (blk_cell BK171.out 7).trans rfl; have hcz36_8 : w35.cell? ⟨gb171, 8, none⟩ = some (.int .i64 a0_8) := (blk_cell BK171.out 8).trans rfl; have hcz36_9 : w35.cell? ⟨gb171, 9, none⟩ = some (.bool a0_9) := (blk_cell BK171.out 9).trans rfl; have hcz36_10 : w35.cell? ⟨gb171, 10, none⟩ = some (.int .u32 a0_10) := (blk_cell BK171.out 10).trans rfl; have hcz36_11 : w35.cell? ⟨gb171, 11, none⟩ = some (.int .i64 a0_11) := (blk_cell BK171.out 11).trans rfl; have hcz36_12 : w35.cell? ⟨gb171, 12, none⟩ = some (.bool a0_12) := (blk_cell BK171.out 12).trans rfl; have hcz36_13 : w35.cell? ⟨gb171, 13, none⟩ = some (.slice A0_13 l0_13.length c0_13) := (blk_cell BK171.out 13).trans rfl; have hcz36_14 : w35.cell? ⟨gb171, 14, none⟩ = some (.slice A0_14 l0_14.length c0_14) := (blk_cell BK171.out 14).trans rfl; have hfz36_0 := blk_frozen BK171.out 0; have hfz36_1 := blk_frozen BK171.out 1; have hfz36_2 := blk_frozen BK171.out 2; have hfz36_3 := blk_frozen BK171.out 3; have hfz36_4 := blk_frozen BK171.out 4; have hfz36_5 := blk_frozen BK171.out 5; have hfz36_6 := blk_frozen BK171.out 6; have hfz36_7 := blk_frozen BK171.out 7; have hfz36_8 := blk_frozen BK171.out 8; have hfz36_9 := blk_frozen BK171.out 9; have hfz36_10 := blk_frozen BK171.out 10; have hfz36_11 := blk_frozen BK171.out 11; have hfz36_12 := blk_frozen BK171.out 12; have hfz36_13 := blk_frozen BK171.out 13; have hfz36_14 := blk_frozen BK171.out 14) | (go_at_call 156; (with_reducible refine (stockaderef03_four.calls a0_4 a0_5 a0_6 true _ A7.out).mono ?_); rintro e w37 ⟨rfl, hb⟩; have n0_ := Aside0.mk (blk_below (g := gb171) (o := .cells #[.int .i64 a0_0, .int .i64 a0_1, .int .u64 a0_2, .int .u64 a0_3, .int .i64 a0_4, .int .u64 a0_5, .int .u64 a0_6, .int .i64 a0_7, .int .i64 a0_8, .bool a0_9, .int .u32 a0_10, .int .i64 a0_11, .bool a0_12, .slice A0_13 l0_13.length c0_13, .slice A0_14 l0_14.length c0_14] 55 (0, 0)) (by (with_reducible repeat (first | refine blk_drewN ?_ _ | refine blk_drew ?_ | refine blk_alloc ?_ _)); exact BK171.out) hb); have n1_ := Aside0.mk (below_step (by repeat (first | (with_reducible first | exact HB.out | apply below_alloc | apply pw_below_drewN | apply below_drew1 | refine below_set ?_ GE171.out) | exact HB.out)) hb); clear BK171; clear HB; have BK171 := n0_; have HB := n1_; clear n0_ n1_; (try clear hb); (try clear hb2); (try clear hk); (try clear hi); have hcz38_0 : w37.cell? ⟨gb171, 0, none⟩ = some (.int .i64 a0_0) := (blk_cell BK171.out 0).trans rfl; have hcz38_1 : w37.cell? ⟨gb171, 1, none⟩ = some (.int .i64 a0_1) := (blk_cell BK171.out 1).trans rfl; have hcz38_2 : w37.cell? ⟨gb171, 2, none⟩ = some (.int .u64 a0_2) := (blk_cell BK171.out 2).trans rfl; have hcz38_3 : w37.cell? ⟨gb171, 3, none⟩ = some (.int .u64 a0_3) := (blk_cell BK171.out 3).trans rfl; have hcz38_4 : w37.cell? ⟨gb171, 4, none⟩ = some (.int .i64 a0_4) := (blk_cell BK171.out 4).trans rfl; have hcz38_5 : w37.cell? ⟨gb171, 5, none⟩ = some (.int .u64 a0_5) := (blk_cell BK171.out 5).trans rfl; have hcz38_6 : w37.cell? ⟨gb171, 6, none⟩ = some (.int .u64 a0_6) := (blk_cell BK171.out 6).trans rfl; have hcz38_7 : w37.cell? ⟨gb171, 7, none⟩ = some (.int .i64 a0_7) := (blk_cell BK171.out 7).trans rfl; have hcz38_8 : w37.cell? ⟨gb171, 8, none⟩ = some (.int .i64 a0_8) := (blk_cell BK171.out 8).trans rfl; have hcz38_9 : w37.cell? ⟨gb171, 9, none⟩ = some (.bool a0_9) := (blk_cell BK171.out 9).trans rfl; have hcz38_10 : w37.cell? ⟨gb171, 10, none⟩ = some (.int .u32 a0_10) := (blk_cell BK171.out 10).trans rfl; have hcz38_11 : w37.cell? ⟨gb171, 11, none⟩ = some (.int .i64 a0_11) := (blk_cell BK171.out 11).trans rfl; have hcz38_12 : w37.cell? ⟨gb171, 12, none⟩ = some (.bool a0_12) := (blk_cell BK171.out 12).trans rfl; have hcz38_13 : w37.cell? ⟨gb171, 13, none⟩ = some (.slice A0_13 l0_13.length c0_13) := (blk_cell BK171.out 13).trans rfl; have hcz38_14 : w37.cell? ⟨gb171, 14, none⟩ = some (.slice A0_14 l0_14.length c0_14) := (blk_cell BK171.out 14).trans rfl; have hfz38_0 := blk_frozen BK171.out 0; have hfz38_1 := blk_frozen BK171.out 1; have hfz38_2 := blk_frozen BK171.out 2; have hfz38_3 := blk_frozen BK171.out 3; have hfz38_4 := blk_frozen BK171.out 4; have hfz38_5 := blk_frozen BK171.out 5; have hfz38_6 := blk_frozen BK171.out 6; have hfz38_7 := blk_frozen BK171.out 7; have hfz38_8 := blk_frozen BK171.out 8; have hfz38_9 := blk_frozen BK171.out 9; have hfz38_10 := blk_frozen BK171.out 10; have hfz38_11 := blk_frozen BK171.out 11; have hfz38_12 := blk_frozen BK171.out 12; have hfz38_13 := blk_frozen BK171.out 13; have hfz38_14 := blk_frozen BK171.out 14))
                    go_meet
                    case rel => exact ⟨_, (true), (by first | rfl | (simp; done) | (simp [*]; done)), H', ⟨by first | omega | exact Nat.le_refl _⟩, ⟨by (with_reducible repeat (first | refine blk_drewN ?_ _ | refine blk_drew ?_ | refine blk_alloc ?_ _)); exact BK171.out⟩, ⟨by repeat (first | (with_reducible first | exact HB.out | apply below_alloc | apply pw_below_drewN | apply below_drew1 | refine below_set ?_ GE171.out) | exact HB.out)⟩⟩
                  · rw [if_neg c33] at H
                    have c33b0 : decide (255 < a0_8) = false := decide_eq_false c33
                    clear c33
                    have H' := Aside0.mk H
                    clear H
                    have hcz39_0 : w3.cell? ⟨gb171, 0, none⟩ = some (.int .i64 a0_0) := (blk_cell BK171.out 0).trans rfl
                    have hcz39_1 : w3.cell? ⟨gb171, 1, none⟩ = some (.int .i64 a0_1) := (blk_cell BK171.out 1).trans rfl
                    have hcz39_2 : w3.cell? ⟨gb171, 2, none⟩ = some (.int .u64 a0_2) := (blk_cell BK171.out 2).trans rfl
                    have hcz39_3 : w3.cell? ⟨gb171, 3, none⟩ = some (.int .u64 a0_3) := (blk_cell BK171.out 3).trans rfl
                    have hcz39_4 : w3.cell? ⟨gb171, 4, none⟩ = some (.int .i64 a0_4) := (blk_cell BK171.out 4).trans rfl
                    have hcz39_5 : w3.cell? ⟨gb171, 5, none⟩ = some (.int .u64 a0_5) := (blk_cell BK171.out 5).trans rfl
                    have hcz39_6 : w3.cell? ⟨gb171, 6, none⟩ = some (.int .u64 a0_6) := (blk_cell BK171.out 6).trans rfl
                    have hcz39_7 : w3.cell? ⟨gb171, 7, none⟩ = some (.int .i64 a0_7) := (blk_cell BK171.out 7).trans rfl
                    have hcz39_8 : w3.cell? ⟨gb171, 8, none⟩ = some (.int .i64 a0_8) := (blk_cell BK171.out 8).trans rfl
                    have hcz39_9 : w3.cell? ⟨gb171, 9, none⟩ = some (.bool a0_9) := (blk_cell BK171.out 9).trans rfl
                    have hcz39_10 : w3.cell? ⟨gb171, 10, none⟩ = some (.int .u32 a0_10) := (blk_cell BK171.out 10).trans rfl
                    have hcz39_11 : w3.cell? ⟨gb171, 11, none⟩ = some (.int .i64 a0_11) := (blk_cell BK171.out 11).trans rfl
                    have hcz39_12 : w3.cell? ⟨gb171, 12, none⟩ = some (.bool a0_12) := (blk_cell BK171.out 12).trans rfl
                    have hcz39_13 : w3.cell? ⟨gb171, 13, none⟩ = some (.slice A0_13 l0_13.length c0_13) := (blk_cell BK171.out 13).trans rfl
                    have hcz39_14 : w3.cell? ⟨gb171, 14, none⟩ = some (.slice A0_14 l0_14.length c0_14) := (blk_cell BK171.out 14).trans rfl
                    have hfz39_0 := blk_frozen BK171.out 0
                    have hfz39_1 := blk_frozen BK171.out 1
                    have hfz39_2 := blk_frozen BK171.out 2
                    have hfz39_3 := blk_frozen BK171.out 3
                    have hfz39_4 := blk_frozen BK171.out 4
                    have hfz39_5 := blk_frozen BK171.out 5
                    have hfz39_6 := blk_frozen BK171.out 6
                    have hfz39_7 := blk_frozen BK171.out 7
                    have hfz39_8 := blk_frozen BK171.out 8
                    have hfz39_9 := blk_frozen BK171.out 9
                    have hfz39_10 := blk_frozen BK171.out 10
                    have hfz39_11 := blk_frozen BK171.out 11
                    have hfz39_12 := blk_frozen BK171.out 12
                    have hfz39_13 := blk_frozen BK171.out 13
                    have hfz39_14 := blk_frozen BK171.out 14
                    go_wp2_with (first | (go_at_call 156; (with_reducible refine (stockaderef03_four.calls a0_1 a0_2 a0_3 true _ A5.out).mono ?_); rintro e w40 ⟨rfl, hb⟩; have n0_ := Aside0.mk (blk_below (g := gb171) (o := .cells #[.int .i64 a0_0, .int .i64 a0_1, .int .u64 a0_2, .int .u64 a0_3, .int .i64 a0_4, .int .u64 a0_5, .int .u64 a0_6, .int .i64 a0_7, .int .i64 a0_8, .bool a0_9, .int .u32 a0_10, .int .i64 a0_11, .bool a0_12, .slice A0_13 l0_13.length c0_13, .slice A0_14 l0_14.length c0_14] 55 (0, 0)) (by (with_reducible repeat (first | refine blk_drewN ?_ _ | refine blk_drew ?_ | refine blk_alloc ?_ _)); exact BK171.out) hb); have n1_ := Aside0.mk (below_step (by repeat (first | (with_reducible first | exact HB.out | apply below_alloc | apply pw_below_drewN | apply below_drew1 | refine below_set ?_ GE171.out) | exact HB.out)) hb); clear BK171; clear HB; have BK171 := n0_; have HB := n1_; clear n0_ n1_; (try clear hb); (try clear hb2); (try clear hk); (try clear hi); have hcz41_0 : w40.cell? ⟨gb171, 0, none⟩ = some (.int .i64 a0_0) := (blk_cell BK171.out 0).trans rfl; have hcz41_1 : w40.cell? ⟨gb171, 1, none⟩ = some (.int .i64 a0_1) := (blk_cell BK171.out 1).trans rfl; have hcz41_2 : w40.cell? ⟨gb171, 2, none⟩ = some (.int .u64 a0_2) := (blk_cell BK171.out 2).trans rfl; have hcz41_3 : w40.cell? ⟨gb171, 3, none⟩ = some (.int .u64 a0_3) := (blk_cell BK171.out 3).trans rfl; have hcz41_4 : w40.cell? ⟨gb171, 4, none⟩ = some (.int .i64 a0_4) := (blk_cell BK171.out 4).trans rfl; have hcz41_5 : w40.cell? ⟨gb171, 5, none⟩ = some (.int .u64 a0_5) := (blk_cell BK171.out 5).trans rfl; have hcz41_6 : w40.cell? ⟨gb171, 6, none⟩ = some (.int .u64 a0_6) := (blk_cell BK171.out 6).trans rfl; have hcz41_7 : w40.cell? ⟨gb171, 7, none⟩ = some (.int .i64 a0_7) := (blk_cell BK171.out 7).trans rfl; have hcz41_8 : w40.cell? ⟨gb171, 8, none⟩ = some (.int .i64 a0_8) := (blk_cell BK171.out 8).trans rfl; have hcz41_9 : w40.cell? ⟨gb171, 9, none⟩ = some (.bool a0_9) := (blk_cell BK171.out 9).trans rfl; have hcz41_10 : w40.cell? ⟨gb171, 10, none⟩ = some (.int .u32 a0_10) := (blk_cell BK171.out 10).trans rfl; have hcz41_11 : w40.cell? ⟨gb171, 11, none⟩ = some (.int .i64 a0_11) := (blk_cell BK171.out 11).trans rfl; have hcz41_12 : w40.cell? ⟨gb171, 12, none⟩ = some (.bool a0_12) := (blk_cell BK171.out 12).trans rfl; have hcz41_13 : w40.cell? ⟨gb171, 13, none⟩ = some (.slice A0_13 l0_13.length c0_13) := (blk_cell BK171.out 13).trans rfl; have hcz41_14 : w40.cell? ⟨gb171, 14, none⟩ = some (.slice A0_14 l0_14.length c0_14) := (blk_cell BK171.out 14).trans rfl; have hfz41_0 := blk_frozen BK171.out 0; have hfz41_1 := blk_frozen BK171.out 1; have hfz41_2 := blk_frozen BK171.out 2; have hfz41_3 := blk_frozen BK171.out 3; have hfz41_4 := blk_frozen BK171.out 4; have hfz41_5 := blk_frozen BK171.out 5; have hfz41_6 := blk_frozen BK171.out 6; have hfz41_7 := blk_frozen BK171.out 7; have hfz41_8 := blk_frozen BK171.out 8; have hfz41_9 := blk_frozen BK171.out 9; have hfz41_10 := blk_frozen BK171.out 10; have hfz41_11 := blk_frozen BK171.out 11; have hfz41_12 := blk_frozen BK171.out 12; have hfz41_13 := blk_frozen BK171.out 13; have hfz41_14 := blk_frozen BK171.out 14) | (go_at_call 156; (with_reducible refine (stockaderef03_four.calls a0_4 a0_5 a0_6 true _ A7.out).mono ?_); rintro e w42 ⟨rfl, hb⟩; have n0_ := Aside0.mk (blk_below (g := gb171) (o := .cells #[.int .i64 a0_0, .int .i64 a0_1, .int .u64 a0_2, .int .u64 a0_3, .int .i64 a0_4, .int .u64 a0_5, .int .u64 a0_6, .int .i64 a0_7, .int .i64 a0_8, .bool a0_9, .int .u32 a0_10, .int .i64 a0_11, .bool a0_12, .slice A0_13 l0_13.length c0_13, .slice A0_14 l0_14.length c0_14] 55 (0, 0)) (by (with_reducible repeat (first | refine blk_drewN ?_ _ | refine blk_drew ?_ | refine blk_alloc ?_ _)); exact BK171.out) hb); have n1_ := Aside0.mk (below_step (by repeat (first | (with_reducible first | exact HB.out | apply below_alloc | apply pw_below_drewN | apply below_drew1 | refine below_set ?_ GE171.out) | exact HB.out)) hb); clear BK171; clear HB; have BK171 := n0_; have HB := n1_; clear n0_ n1_; (try clear hb); (try clear hb2); (try clear hk); (try clear hi); have hcz43_0 : w42.cell? ⟨gb171, 0, none⟩ = some (.int .i64 a0_0) := (blk_cell BK171.out 0).trans rfl; have hcz43_1 : w42.cell? ⟨gb171, 1, none⟩ = some (.int .i64 a0_1) := (blk_cell BK171.out 1).trans rfl; have hcz43_2 : w42.cell? ⟨gb171, 2, none⟩ = some (.int .u64 a0_2) := (blk_cell BK171.out 2).trans rfl; have hcz43_3 : w42.cell? ⟨gb171, 3, none⟩ = some (.int .u64 a0_3) := (blk_cell BK171.out 3).trans rfl; have hcz43_4 : w42.cell? ⟨gb171, 4, none⟩ = some (.int .i64 a0_4) := (blk_cell BK171.out 4).trans rfl; have hcz43_5 : w42.cell? ⟨gb171, 5, none⟩ = some (.int .u64 a0_5) := (blk_cell BK171.out 5).trans rfl; have hcz43_6 : w42.cell? ⟨gb171, 6, none⟩ = some (.int .u64 a0_6) := (blk_cell BK171.out 6).trans rfl; have hcz43_7 : w42.cell? ⟨gb171, 7, none⟩ = some (.int .i64 a0_7) := (blk_cell BK171.out 7).trans rfl; have hcz43_8 : w42.cell? ⟨gb171, 8, none⟩ = some (.int .i64 a0_8) := (blk_cell BK171.out 8).trans rfl; have hcz43_9 : w42.cell? ⟨gb171, 9, none⟩ = some (.bool a0_9) := (blk_cell BK171.out 9).trans rfl; have hcz43_10 : w42.cell? ⟨gb171, 10, none⟩ = some (.int .u32 a0_10) := (blk_cell BK171.out 10).trans rfl; have hcz43_11 : w42.cell? ⟨gb171, 11, none⟩ = some (.int .i64 a0_11) := (blk_cell BK171.out 11).trans rfl; have hcz43_12 : w42.cell? ⟨gb171, 12, none⟩ = some (.bool a0_12) := (blk_cell BK171.out 12).trans rfl; have hcz43_13 : w42.cell? ⟨gb171, 13, none⟩ = some (.slice A0_13 l0_13.length c0_13) := (blk_cell BK171.out 13).trans rfl; have hcz43_14 : w42.cell? ⟨gb171, 14, none⟩ = some (.slice A0_14 l0_14.length c0_14) := (blk_cell BK171.out 14).trans rfl; have hfz43_0 := blk_frozen BK171.out 0; have hfz43_1 := blk_frozen BK171.out 1; have hfz43_2 := blk_frozen BK171.out 2; have hfz43_3 := blk_frozen BK171.out 3; have hfz43_4 := blk_frozen BK171.out 4; have hfz43_5 := blk_frozen BK171.out 5; have hfz43_6 := blk_frozen BK171.out 6; have hfz43_7 := blk_frozen BK171.out 7; have hfz43_8 := blk_frozen BK171.out 8; have hfz43_9 := blk_frozen BK171.out 9; have hfz43_10 := blk_frozen BK171.out 10; have hfz43_11 := blk_frozen BK171.out 11; have hfz43_12 := blk_frozen BK171.out 12; have hfz43_13 := blk_frozen BK171.out 13; have hfz43_14 := blk_frozen BK171.out 14))
                    go_meet
                    case rel => exact ⟨_, (decide ((l0_14.length : Int) > 65515)), (by first | rfl | (simp; done) | (simp [*]; done)), H', ⟨by first | omega | exact Nat.le_refl _⟩, ⟨by (with_reducible repeat (first | refine blk_drewN ?_ _ | refine blk_drew ?_ | refine blk_alloc ?_ _)); exact BK171.out⟩, ⟨by repeat (first | (with_reducible first | exact HB.out | apply below_alloc | apply pw_below_drewN | apply below_drew1 | refine below_set ?_ GE171.out) | exact HB.out)⟩⟩
        · replace c8 := Bool.eq_false_iff.mpr c8
          subst c8
          have H1 : (stockaderef03_May.j0 k true a0_0 a0_1 a0_2 a0_3 a0_4 a0_5 a0_6 a0_7 a0_8 a0_9 a0_10 a0_11 a0_12 l0_13 l0_14) = some r := by rw [if_neg (show ¬ (false = true) by decide)] at H; exact H
          clear H
          have H := H1
          clear H1
          have H' := Aside0.mk H
          clear H
          have hcz44_0 : w3.cell? ⟨gb171, 0, none⟩ = some (.int .i64 a0_0) := (blk_cell BK171.out 0).trans rfl
          have hcz44_1 : w3.cell? ⟨gb171, 1, none⟩ = some (.int .i64 a0_1) := (blk_cell BK171.out 1).trans rfl
          have hcz44_2 : w3.cell? ⟨gb171, 2, none⟩ = some (.int .u64 a0_2) := (blk_cell BK171.out 2).trans rfl
          have hcz44_3 : w3.cell? ⟨gb171, 3, none⟩ = some (.int .u64 a0_3) := (blk_cell BK171.out 3).trans rfl
          have hcz44_4 : w3.cell? ⟨gb171, 4, none⟩ = some (.int .i64 a0_4) := (blk_cell BK171.out 4).trans rfl
          have hcz44_5 : w3.cell? ⟨gb171, 5, none⟩ = some (.int .u64 a0_5) := (blk_cell BK171.out 5).trans rfl
          have hcz44_6 : w3.cell? ⟨gb171, 6, none⟩ = some (.int .u64 a0_6) := (blk_cell BK171.out 6).trans rfl
          have hcz44_7 : w3.cell? ⟨gb171, 7, none⟩ = some (.int .i64 a0_7) := (blk_cell BK171.out 7).trans rfl
          have hcz44_8 : w3.cell? ⟨gb171, 8, none⟩ = some (.int .i64 a0_8) := (blk_cell BK171.out 8).trans rfl
          have hcz44_9 : w3.cell? ⟨gb171, 9, none⟩ = some (.bool a0_9) := (blk_cell BK171.out 9).trans rfl
          have hcz44_10 : w3.cell? ⟨gb171, 10, none⟩ = some (.int .u32 a0_10) := (blk_cell BK171.out 10).trans rfl
          have hcz44_11 : w3.cell? ⟨gb171, 11, none⟩ = some (.int .i64 a0_11) := (blk_cell BK171.out 11).trans rfl
          have hcz44_12 : w3.cell? ⟨gb171, 12, none⟩ = some (.bool a0_12) := (blk_cell BK171.out 12).trans rfl
          have hcz44_13 : w3.cell? ⟨gb171, 13, none⟩ = some (.slice A0_13 l0_13.length c0_13) := (blk_cell BK171.out 13).trans rfl
          have hcz44_14 : w3.cell? ⟨gb171, 14, none⟩ = some (.slice A0_14 l0_14.length c0_14) := (blk_cell BK171.out 14).trans rfl
          have hfz44_0 := blk_frozen BK171.out 0
          have hfz44_1 := blk_frozen BK171.out 1
          have hfz44_2 := blk_frozen BK171.out 2
          have hfz44_3 := blk_frozen BK171.out 3
          have hfz44_4 := blk_frozen BK171.out 4
          have hfz44_5 := blk_frozen BK171.out 5
          have hfz44_6 := blk_frozen BK171.out 6
          have hfz44_7 := blk_frozen BK171.out 7
          have hfz44_8 := blk_frozen BK171.out 8
          have hfz44_9 := blk_frozen BK171.out 9
          have hfz44_10 := blk_frozen BK171.out 10
          have hfz44_11 := blk_frozen BK171.out 11
          have hfz44_12 := blk_frozen BK171.out 12
          have hfz44_13 := blk_frozen BK171.out 13
          have hfz44_14 := blk_frozen BK171.out 14
          go_wp2_with (first | (go_at_call 156; (with_reducible refine (stockaderef03_four.calls a0_1 a0_2 a0_3 true _ A5.out).mono ?_); rintro e w45 ⟨rfl, hb⟩; have n0_ := Aside0.mk (blk_below (g := gb171) (o := .cells #[.int .i64 a0_0, .int .i64 a0_1, .int .u64 a0_2, .int .u64 a0_3, .int .i64 a0_4, .int .u64 a0_5, .int .u64 a0_6, .int .i64 a0_7, .int .i64 a0_8, .bool a0_9, .int .u32 a0_10, .int .i64 a0_11, .bool a0_12, .slice A0_13 l0_13.length c0_13, .slice A0_14 l0_14.length c0_14] 55 (0, 0)) (by (with_reducible repeat (first | refine blk_drewN ?_ _ | refine blk_drew ?_ | refine blk_alloc ?_ _)); exact BK171.out) hb); have n1_ := Aside0.mk (below_step (by repeat (first | (with_reducible first | exact HB.out | apply below_alloc | apply pw_below_drewN | apply below_drew1 | refine below_set ?_ GE171.out) | exact HB.out)) hb); clear BK171; clear HB; have BK171 := n0_; have HB := n1_; clear n0_ n1_; (try clear hb); (try clear hb2); (try clear hk); (try clear hi); have hcz46_0 : w45.cell? ⟨gb171, 0, none⟩ = some (.int .i64 a0_0) := (blk_cell BK171.out 0).trans rfl; have hcz46_1 : w45.cell? ⟨gb171, 1, none⟩ = some (.int .i64 a0_1) := (blk_cell BK171.out 1).trans rfl; have hcz46_2 : w45.cell? ⟨gb171, 2, none⟩ = some (.int .u64 a0_2) := (blk_cell BK171.out 2).trans rfl; have hcz46_3 : w45.cell? ⟨gb171, 3, none⟩ = some (.int .u64 a0_3) := (blk_cell BK171.out 3).trans rfl; have hcz46_4 : w45.cell? ⟨gb171, 4, none⟩ = some (.int .i64 a0_4) := (blk_cell BK171.out 4).trans rfl; have hcz46_5 : w45.cell? ⟨gb171, 5, none⟩ = some (.int .u64 a0_5) := (blk_cell BK171.out 5).trans rfl; have hcz46_6 : w45.cell? ⟨gb171, 6, none⟩ = some (.int .u64 a0_6) := (blk_cell BK171.out 6).trans rfl; have hcz46_7 : w45.cell? ⟨gb171, 7, none⟩ = some (.int .i64 a0_7) := (blk_cell BK171.out 7).trans rfl; have hcz46_8 : w45.cell? ⟨gb171, 8, none⟩ = some (.int .i64 a0_8) := (blk_cell BK171.out 8).trans rfl; have hcz46_9 : w45.cell? ⟨gb171, 9, none⟩ = some (.bool a0_9) := (blk_cell BK171.out 9).trans rfl; have hcz46_10 : w45.cell? ⟨gb171, 10, none⟩ = some (.int .u32 a0_10) := (blk_cell BK171.out 10).trans rfl; have hcz46_11 : w45.cell? ⟨gb171, 11, none⟩ = some (.int .i64 a0_11) := (blk_cell BK171.out 11).trans rfl; have hcz46_12 : w45.cell? ⟨gb171, 12, none⟩ = some (.bool a0_12) := (blk_cell BK171.out 12).trans rfl; have hcz46_13 : w45.cell? ⟨gb171, 13, none⟩ = some (.slice A0_13 l0_13.length c0_13) := (blk_cell BK171.out 13).trans rfl; have hcz46_14 : w45.cell? ⟨gb171, 14, none⟩ = some (.slice A0_14 l0_14.length c0_14) := (blk_cell BK171.out 14).trans rfl; have hfz46_0 := blk_frozen BK171.out 0; have hfz46_1 := blk_frozen BK171.out 1; have hfz46_2 := blk_frozen BK171.out 2; have hfz46_3 := blk_frozen BK171.out 3; have hfz46_4 := blk_frozen BK171.out 4; have hfz46_5 := blk_frozen BK171.out 5; have hfz46_6 := blk_frozen BK171.out 6; have hfz46_7 := blk_frozen BK171.out 7; have hfz46_8 := blk_frozen BK171.out 8; have hfz46_9 := blk_frozen BK171.out 9; have hfz46_10 := blk_frozen BK171.out 10; have hfz46_11 := blk_frozen BK171.out 11; have hfz46_12 := blk_frozen BK171.out 12; have hfz46_13 := blk_frozen BK171.out 13; have hfz46_14 := blk_frozen BK171.out 14) | (go_at_call 156; (with_reducible refine (stockaderef03_four.calls a0_4 a0_5 a0_6 false _ A7.out).mono ?_); rintro e w47 ⟨rfl, hb⟩; have n0_ := Aside0.mk (blk_below (g := gb171) (o := .cells #[.int .i64 a0_0, .int .i64 a0_1, .int .u64 a0_2, .int .u64 a0_3, .int .i64 a0_4, .int .u64 a0_5, .int .u64 a0_6, .int .i64 a0_7, .int .i64 a0_8, .bool a0_9, .int .u32 a0_10, .int .i64 a0_11, .bool a0_12, .slice A0_13 l0_13.length c0_13, .slice A0_14 l0_14.length c0_14] 55 (0, 0)) (by (with_reducible repeat (first | refine blk_drewN ?_ _ | refine blk_drew ?_ | refine blk_alloc ?_ _)); exact BK171.out) hb); have n1_ := Aside0.mk (below_step (by repeat (first | (with_reducible first | exact HB.out | apply below_alloc | apply pw_below_drewN | apply below_drew1 | refine below_set ?_ GE171.out) | exact HB.out)) hb); clear BK171; clear HB; have BK171 := n0_; have HB := n1_; clear n0_ n1_; (try clear hb); (try clear hb2); (try clear hk); (try clear hi)))
          go_meet
          case rel => exact ⟨_, (true), (by first | rfl | (simp; done) | (simp [*]; done)), H', ⟨by first | omega | exact Nat.le_refl _⟩, ⟨by (with_reducible repeat (first | refine blk_drewN ?_ _ | refine blk_drew ?_ | refine blk_alloc ?_ _)); exact BK171.out⟩, ⟨by repeat (first | (with_reducible first | exact HB.out | apply below_alloc | apply pw_below_drewN | apply below_drew1 | refine below_set ?_ GE171.out) | exact HB.out)⟩⟩
      · replace c6 := Bool.eq_false_iff.mpr c6
        subst c6
        have H1 : (stockaderef03_May.j0 k true a0_0 a0_1 a0_2 a0_3 a0_4 a0_5 a0_6 a0_7 a0_8 a0_9 a0_10 a0_11 a0_12 l0_13 l0_14) = some r := by rw [if_neg (show ¬ (false = true) by decide)] at H; exact H
        clear H
        have H := H1
        clear H1
        have H' := Aside0.mk H
        clear H
        have hcz48_0 : w3.cell? ⟨gb171, 0, none⟩ = some (.int .i64 a0_0) := (blk_cell BK171.out 0).trans rfl
        have hcz48_1 : w3.cell? ⟨gb171, 1, none⟩ = some (.int .i64 a0_1) := (blk_cell BK171.out 1).trans rfl
        have hcz48_2 : w3.cell? ⟨gb171, 2, none⟩ = some (.int .u64 a0_2) := (blk_cell BK171.out 2).trans rfl
        have hcz48_3 : w3.cell? ⟨gb171, 3, none⟩ = some (.int .u64 a0_3) := (blk_cell BK171.out 3).trans rfl
        have hcz48_4 : w3.cell? ⟨gb171, 4, none⟩ = some (.int .i64 a0_4) := (blk_cell BK171.out 4).trans rfl
        have hcz48_5 : w3.cell? ⟨gb171, 5, none⟩ = some (.int .u64 a0_5) := (blk_cell BK171.out 5).trans rfl
        have hcz48_6 : w3.cell? ⟨gb171, 6, none⟩ = some (.int .u64 a0_6) := (blk_cell BK171.out 6).trans rfl
        have hcz48_7 : w3.cell? ⟨gb171, 7, none⟩ = some (.int .i64 a0_7) := (blk_cell BK171.out 7).trans rfl
        have hcz48_8 : w3.cell? ⟨gb171, 8, none⟩ = some (.int .i64 a0_8) := (blk_cell BK171.out 8).trans rfl
        have hcz48_9 : w3.cell? ⟨gb171, 9, none⟩ = some (.bool a0_9) := (blk_cell BK171.out 9).trans rfl
        have hcz48_10 : w3.cell? ⟨gb171, 10, none⟩ = some (.int .u32 a0_10) := (blk_cell BK171.out 10).trans rfl
        have hcz48_11 : w3.cell? ⟨gb171, 11, none⟩ = some (.int .i64 a0_11) := (blk_cell BK171.out 11).trans rfl
        have hcz48_12 : w3.cell? ⟨gb171, 12, none⟩ = some (.bool a0_12) := (blk_cell BK171.out 12).trans rfl
        have hcz48_13 : w3.cell? ⟨gb171, 13, none⟩ = some (.slice A0_13 l0_13.length c0_13) := (blk_cell BK171.out 13).trans rfl
        have hcz48_14 : w3.cell? ⟨gb171, 14, none⟩ = some (.slice A0_14 l0_14.length c0_14) := (blk_cell BK171.out 14).trans rfl
        have hfz48_0 := blk_frozen BK171.out 0
        have hfz48_1 := blk_frozen BK171.out 1
        have hfz48_2 := blk_frozen BK171.out 2
        have hfz48_3 := blk_frozen BK171.out 3
        have hfz48_4 := blk_frozen BK171.out 4
        have hfz48_5 := blk_frozen BK171.out 5
        have hfz48_6 := blk_frozen BK171.out 6
        have hfz48_7 := blk_frozen BK171.out 7
        have hfz48_8 := blk_frozen BK171.out 8
        have hfz48_9 := blk_frozen BK171.out 9
        have hfz48_10 := blk_frozen BK171.out 10
        have hfz48_11 := blk_frozen BK171.out 11
        have hfz48_12 := blk_frozen BK171.out 12
        have hfz48_13 := blk_frozen BK171.out 13
        have hfz48_14 := blk_frozen BK171.out 14
        go_wp2_with (first | (go_at_call 156; (with_reducible refine (stockaderef03_four.calls a0_1 a0_2 a0_3 false _ A5.out).mono ?_); rintro e w49 ⟨rfl, hb⟩; have n0_ := Aside0.mk (blk_below (g := gb171) (o := .cells #[.int .i64 a0_0, .int .i64 a0_1, .int .u64 a0_2, .int .u64 a0_3, .int .i64 a0_4, .int .u64 a0_5, .int .u64 a0_6, .int .i64 a0_7, .int .i64 a0_8, .bool a0_9, .int .u32 a0_10, .int .i64 a0_11, .bool a0_12, .slice A0_13 l0_13.length c0_13, .slice A0_14 l0_14.length c0_14] 55 (0, 0)) (by (with_reducible repeat (first | refine blk_drewN ?_ _ | refine blk_drew ?_ | refine blk_alloc ?_ _)); exact BK171.out) hb); have n1_ := Aside0.mk (below_step (by repeat (first | (with_reducible first | exact HB.out | apply below_alloc | apply pw_below_drewN | apply below_drew1 | refine below_set ?_ GE171.out) | exact HB.out)) hb); clear BK171; clear HB; have BK171 := n0_; have HB := n1_; clear n0_ n1_; (try clear hb); (try clear hb2); (try clear hk); (try clear hi)))
        go_meet
        case rel => exact ⟨_, (true), (by first | rfl | (simp; done) | (simp [*]; done)), H', ⟨by first | omega | exact Nat.le_refl _⟩, ⟨by (with_reducible repeat (first | refine blk_drewN ?_ _ | refine blk_drew ?_ | refine blk_alloc ?_ _)); exact BK171.out⟩, ⟨by repeat (first | (with_reducible first | exact HB.out | apply below_alloc | apply pw_below_drewN | apply below_drew1 | refine below_set ?_ GE171.out) | exact HB.out)⟩⟩
    · rw [if_neg c4] at H
      have c4b0 : (a0_0 == 4) = false := beq_eq_false_iff_ne.mpr c4
      have c4b1 : (a0_0 != 4) = true := bne_iff_ne.mpr c4
      (first | rw [c4b0] | (simp only [i64_w, i32_w]; rw [c4b0]) | skip)
      have H' := Aside0.mk H
      clear H
      have hcz50_0 : w3.cell? ⟨gb171, 0, none⟩ = some (.int .i64 a0_0) := (blk_cell BK171.out 0).trans rfl
      have hcz50_1 : w3.cell? ⟨gb171, 1, none⟩ = some (.int .i64 a0_1) := (blk_cell BK171.out 1).trans rfl
      have hcz50_2 : w3.cell? ⟨gb171, 2, none⟩ = some (.int .u64 a0_2) := (blk_cell BK171.out 2).trans rfl
      have hcz50_3 : w3.cell? ⟨gb171, 3, none⟩ = some (.int .u64 a0_3) := (blk_cell BK171.out 3).trans rfl
      have hcz50_4 : w3.cell? ⟨gb171, 4, none⟩ = some (.int .i64 a0_4) := (blk_cell BK171.out 4).trans rfl
      have hcz50_5 : w3.cell? ⟨gb171, 5, none⟩ = some (.int .u64 a0_5) := (blk_cell BK171.out 5).trans rfl
      have hcz50_6 : w3.cell? ⟨gb171, 6, none⟩ = some (.int .u64 a0_6) := (blk_cell BK171.out 6).trans rfl
      have hcz50_7 : w3.cell? ⟨gb171, 7, none⟩ = some (.int .i64 a0_7) := (blk_cell BK171.out 7).trans rfl
      have hcz50_8 : w3.cell? ⟨gb171, 8, none⟩ = some (.int .i64 a0_8) := (blk_cell BK171.out 8).trans rfl
      have hcz50_9 : w3.cell? ⟨gb171, 9, none⟩ = some (.bool a0_9) := (blk_cell BK171.out 9).trans rfl
      have hcz50_10 : w3.cell? ⟨gb171, 10, none⟩ = some (.int .u32 a0_10) := (blk_cell BK171.out 10).trans rfl
      have hcz50_11 : w3.cell? ⟨gb171, 11, none⟩ = some (.int .i64 a0_11) := (blk_cell BK171.out 11).trans rfl
      have hcz50_12 : w3.cell? ⟨gb171, 12, none⟩ = some (.bool a0_12) := (blk_cell BK171.out 12).trans rfl
      have hcz50_13 : w3.cell? ⟨gb171, 13, none⟩ = some (.slice A0_13 l0_13.length c0_13) := (blk_cell BK171.out 13).trans rfl
      have hcz50_14 : w3.cell? ⟨gb171, 14, none⟩ = some (.slice A0_14 l0_14.length c0_14) := (blk_cell BK171.out 14).trans rfl
      have hfz50_0 := blk_frozen BK171.out 0
      have hfz50_1 := blk_frozen BK171.out 1
      have hfz50_2 := blk_frozen BK171.out 2
      have hfz50_3 := blk_frozen BK171.out 3
      have hfz50_4 := blk_frozen BK171.out 4
      have hfz50_5 := blk_frozen BK171.out 5
      have hfz50_6 := blk_frozen BK171.out 6
      have hfz50_7 := blk_frozen BK171.out 7
      have hfz50_8 := blk_frozen BK171.out 8
      have hfz50_9 := blk_frozen BK171.out 9
      have hfz50_10 := blk_frozen BK171.out 10
      have hfz50_11 := blk_frozen BK171.out 11
      have hfz50_12 := blk_frozen BK171.out 12
      have hfz50_13 := blk_frozen BK171.out 13
      have hfz50_14 := blk_frozen BK171.out 14
      go_wp2
      go_meet
      case rel => exact ⟨_, (true), (by first | rfl | (simp; done) | (simp [*]; done)), H', ⟨by first | omega | exact Nat.le_refl _⟩, ⟨by (with_reducible repeat (first | refine blk_drewN ?_ _ | refine blk_drew ?_ | refine blk_alloc ?_ _)); exact BK171.out⟩, ⟨by repeat (first | (with_reducible first | exact HB.out | apply below_alloc | apply pw_below_drewN | apply below_drew1 | refine below_set ?_ GE171.out) | exact HB.out)⟩⟩
  case rest =>
    clear HC2
    try clear c1
    try clear c2
    try clear p2
    try clear c3
    try clear c4
    try clear c4b0
    try clear c4b1
    try clear c6
    try clear c8
    try clear c9
    try clear c9b0
    try clear c9b1
    try clear c11
    try clear c15
    try clear c15b0
    try clear c21
    try clear c21b0
    try clear c27
    try clear c27b0
    try clear c33
    try clear c33b0
    try clear hcz10_0
    try clear hcz10_1
    try clear hcz10_10
    try clear hcz10_11
    try clear hcz10_12
    try clear hcz10_13
    try clear hcz10_14
    try clear hcz10_2
    try clear hcz10_3
    try clear hcz10_4
    try clear hcz10_5
    try clear hcz10_6
    try clear hcz10_7
    try clear hcz10_8
    try clear hcz10_9
    try clear hcz12_0
    try clear hcz12_1
    try clear hcz12_10
    try clear hcz12_11
    try clear hcz12_12
    try clear hcz12_13
    try clear hcz12_14
    try clear hcz12_2
    try clear hcz12_3
    try clear hcz12_4
    try clear hcz12_5
    try clear hcz12_6
    try clear hcz12_7
    try clear hcz12_8
    try clear hcz12_9
    try clear hcz14_0
    try clear hcz14_1
    try clear hcz14_10
    try clear hcz14_11
    try clear hcz14_12
    try clear hcz14_13
    try clear hcz14_14
    try clear hcz14_2
    try clear hcz14_3
    try clear hcz14_4
    try clear hcz14_5
    try clear hcz14_6
    try clear hcz14_7
    try clear hcz14_8
    try clear hcz14_9
    try clear hcz16_0
    try clear hcz16_1
    try clear hcz16_10
    try clear hcz16_11
    try clear hcz16_12
    try clear hcz16_13
    try clear hcz16_14
    try clear hcz16_2
    try clear hcz16_3
    try clear hcz16_4
    try clear hcz16_5
    try clear hcz16_6
    try clear hcz16_7
    try clear hcz16_8
    try clear hcz16_9
    try clear hcz18_0
    try clear hcz18_1
    try clear hcz18_10
    try clear hcz18_11
    try clear hcz18_12
    try clear hcz18_13
    try clear hcz18_14
    try clear hcz18_2
    try clear hcz18_3
    try clear hcz18_4
    try clear hcz18_5
    try clear hcz18_6
    try clear hcz18_7
    try clear hcz18_8
    try clear hcz18_9
    try clear hcz20_0
    try clear hcz20_1
    try clear hcz20_10
    try clear hcz20_11
    try clear hcz20_12
    try clear hcz20_13
    try clear hcz20_14
    try clear hcz20_2
    try clear hcz20_3
    try clear hcz20_4
    try clear hcz20_5
    try clear hcz20_6
    try clear hcz20_7
    try clear hcz20_8
    try clear hcz20_9
    try clear hcz22_0
    try clear hcz22_1
    try clear hcz22_10
    try clear hcz22_11
    try clear hcz22_12
    try clear hcz22_13
    try clear hcz22_14
    try clear hcz22_2
    try clear hcz22_3
    try clear hcz22_4
    try clear hcz22_5
    try clear hcz22_6
    try clear hcz22_7
    try clear hcz22_8
    try clear hcz22_9
    try clear hcz24_0
    try clear hcz24_1
    try clear hcz24_10
    try clear hcz24_11
    try clear hcz24_12
    try clear hcz24_13
    try clear hcz24_14
    try clear hcz24_2
    try clear hcz24_3
    try clear hcz24_4
    try clear hcz24_5
    try clear hcz24_6
    try clear hcz24_7
    try clear hcz24_8
    try clear hcz24_9
    try clear hcz26_0
    try clear hcz26_1
    try clear hcz26_10
    try clear hcz26_11
    try clear hcz26_12
    try clear hcz26_13
    try clear hcz26_14
    try clear hcz26_2
    try clear hcz26_3
    try clear hcz26_4
    try clear hcz26_5
    try clear hcz26_6
    try clear hcz26_7
    try clear hcz26_8
    try clear hcz26_9
    try clear hcz28_0
    try clear hcz28_1
    try clear hcz28_10
    try clear hcz28_11
    try clear hcz28_12
    try clear hcz28_13
    try clear hcz28_14
    try clear hcz28_2
    try clear hcz28_3
    try clear hcz28_4
    try clear hcz28_5
    try clear hcz28_6
    try clear hcz28_7
    try clear hcz28_8
    try clear hcz28_9
    try clear hcz30_0
    try clear hcz30_1
    try clear hcz30_10
    try clear hcz30_11
    try clear hcz30_12
    try clear hcz30_13
    try clear hcz30_14
    try clear hcz30_2
    try clear hcz30_3
    try clear hcz30_4
    try clear hcz30_5
    try clear hcz30_6
    try clear hcz30_7
    try clear hcz30_8
    try clear hcz30_9
    try clear hcz32_0
    try clear hcz32_1
    try clear hcz32_10
    try clear hcz32_11
    try clear hcz32_12
    try clear hcz32_13
    try clear hcz32_14
    try clear hcz32_2
    try clear hcz32_3
    try clear hcz32_4
    try clear hcz32_5
    try clear hcz32_6
    try clear hcz32_7
    try clear hcz32_8
    try clear hcz32_9
    try clear hcz34_0
    try clear hcz34_1
    try clear hcz34_10
    try clear hcz34_11
    try clear hcz34_12
    try clear hcz34_13
    try clear hcz34_14
    try clear hcz34_2
    try clear hcz34_3
    try clear hcz34_4
    try clear hcz34_5
    try clear hcz34_6
    try clear hcz34_7
    try clear hcz34_8
    try clear hcz34_9
    try clear hcz36_0
    try clear hcz36_1
    try clear hcz36_10
    try clear hcz36_11
    try clear hcz36_12
    try clear hcz36_13
    try clear hcz36_14
    try clear hcz36_2
    try clear hcz36_3
    try clear hcz36_4
    try clear hcz36_5
    try clear hcz36_6
    try clear hcz36_7
    try clear hcz36_8
    try clear hcz36_9
    try clear hcz38_0
    try clear hcz38_1
    try clear hcz38_10
    try clear hcz38_11
    try clear hcz38_12
    try clear hcz38_13
    try clear hcz38_14
    try clear hcz38_2
    try clear hcz38_3
    try clear hcz38_4
    try clear hcz38_5
    try clear hcz38_6
    try clear hcz38_7
    try clear hcz38_8
    try clear hcz38_9
    try clear hcz39_0
    try clear hcz39_1
    try clear hcz39_10
    try clear hcz39_11
    try clear hcz39_12
    try clear hcz39_13
    try clear hcz39_14
    try clear hcz39_2
    try clear hcz39_3
    try clear hcz39_4
    try clear hcz39_5
    try clear hcz39_6
    try clear hcz39_7
    try clear hcz39_8
    try clear hcz39_9
    try clear hcz41_0
    try clear hcz41_1
    try clear hcz41_10
    try clear hcz41_11
    try clear hcz41_12
    try clear hcz41_13
    try clear hcz41_14
    try clear hcz41_2
    try clear hcz41_3
    try clear hcz41_4
    try clear hcz41_5
    try clear hcz41_6
    try clear hcz41_7
    try clear hcz41_8
    try clear hcz41_9
    try clear hcz43_0
    try clear hcz43_1
    try clear hcz43_10
    try clear hcz43_11
    try clear hcz43_12
    try clear hcz43_13
    try clear hcz43_14
    try clear hcz43_2
    try clear hcz43_3
    try clear hcz43_4
    try clear hcz43_5
    try clear hcz43_6
    try clear hcz43_7
    try clear hcz43_8
    try clear hcz43_9
    try clear hcz44_0
    try clear hcz44_1
    try clear hcz44_10
    try clear hcz44_11
    try clear hcz44_12
    try clear hcz44_13
    try clear hcz44_14
    try clear hcz44_2
    try clear hcz44_3
    try clear hcz44_4
    try clear hcz44_5
    try clear hcz44_6
    try clear hcz44_7
    try clear hcz44_8
    try clear hcz44_9
    try clear hcz46_0
    try clear hcz46_1
    try clear hcz46_10
    try clear hcz46_11
    try clear hcz46_12
    try clear hcz46_13
    try clear hcz46_14
    try clear hcz46_2
    try clear hcz46_3
    try clear hcz46_4
    try clear hcz46_5
    try clear hcz46_6
    try clear hcz46_7
    try clear hcz46_8
    try clear hcz46_9
    try clear hcz48_0
    try clear hcz48_1
    try clear hcz48_10
    try clear hcz48_11
    try clear hcz48_12
    try clear hcz48_13
    try clear hcz48_14
    try clear hcz48_2
    try clear hcz48_3
    try clear hcz48_4
    try clear hcz48_5
    try clear hcz48_6
    try clear hcz48_7
    try clear hcz48_8
    try clear hcz48_9
    try clear hcz50_0
    try clear hcz50_1
    try clear hcz50_10
    try clear hcz50_11
    try clear hcz50_12
    try clear hcz50_13
    try clear hcz50_14
    try clear hcz50_2
    try clear hcz50_3
    try clear hcz50_4
    try clear hcz50_5
    try clear hcz50_6
    try clear hcz50_7
    try clear hcz50_8
    try clear hcz50_9
    try clear hfz10_0
    try clear hfz10_1
    try clear hfz10_10
    try clear hfz10_11
    try clear hfz10_12
    try clear hfz10_13
    try clear hfz10_14
    try clear hfz10_2
    try clear hfz10_3
    try clear hfz10_4
    try clear hfz10_5
    try clear hfz10_6
    try clear hfz10_7
    try clear hfz10_8
    try clear hfz10_9
    try clear hfz12_0
    try clear hfz12_1
    try clear hfz12_10
    try clear hfz12_11
    try clear hfz12_12
    try clear hfz12_13
    try clear hfz12_14
    try clear hfz12_2
    try clear hfz12_3
    try clear hfz12_4
    try clear hfz12_5
    try clear hfz12_6
    try clear hfz12_7
    try clear hfz12_8
    try clear hfz12_9
    try clear hfz14_0
    try clear hfz14_1
    try clear hfz14_10
    try clear hfz14_11
    try clear hfz14_12
    try clear hfz14_13
    try clear hfz14_14
    try clear hfz14_2
    try clear hfz14_3
    try clear hfz14_4
    try clear hfz14_5
    try clear hfz14_6
    try clear hfz14_7
    try clear hfz14_8
    try clear hfz14_9
    try clear hfz16_0
    try clear hfz16_1
    try clear hfz16_10
    try clear hfz16_11
    try clear hfz16_12
    try clear hfz16_13
    try clear hfz16_14
    try clear hfz16_2
    try clear hfz16_3
    try clear hfz16_4
    try clear hfz16_5
    try clear hfz16_6
    try clear hfz16_7
    try clear hfz16_8
    try clear hfz16_9
    try clear hfz18_0
    try clear hfz18_1
    try clear hfz18_10
    try clear hfz18_11
    try clear hfz18_12
    try clear hfz18_13
    try clear hfz18_14
    try clear hfz18_2
    try clear hfz18_3
    try clear hfz18_4
    try clear hfz18_5
    try clear hfz18_6
    try clear hfz18_7
    try clear hfz18_8
    try clear hfz18_9
    try clear hfz20_0
    try clear hfz20_1
    try clear hfz20_10
    try clear hfz20_11
    try clear hfz20_12
    try clear hfz20_13
    try clear hfz20_14
    try clear hfz20_2
    try clear hfz20_3
    try clear hfz20_4
    try clear hfz20_5
    try clear hfz20_6
    try clear hfz20_7
    try clear hfz20_8
    try clear hfz20_9
    try clear hfz22_0
    try clear hfz22_1
    try clear hfz22_10
    try clear hfz22_11
    try clear hfz22_12
    try clear hfz22_13
    try clear hfz22_14
    try clear hfz22_2
    try clear hfz22_3
    try clear hfz22_4
    try clear hfz22_5
    try clear hfz22_6
    try clear hfz22_7
    try clear hfz22_8
    try clear hfz22_9
    try clear hfz24_0
    try clear hfz24_1
    try clear hfz24_10
    try clear hfz24_11
    try clear hfz24_12
    try clear hfz24_13
    try clear hfz24_14
    try clear hfz24_2
    try clear hfz24_3
    try clear hfz24_4
    try clear hfz24_5
    try clear hfz24_6
    try clear hfz24_7
    try clear hfz24_8
    try clear hfz24_9
    try clear hfz26_0
    try clear hfz26_1
    try clear hfz26_10
    try clear hfz26_11
    try clear hfz26_12
    try clear hfz26_13
    try clear hfz26_14
    try clear hfz26_2
    try clear hfz26_3
    try clear hfz26_4
    try clear hfz26_5
    try clear hfz26_6
    try clear hfz26_7
    try clear hfz26_8
    try clear hfz26_9
    try clear hfz28_0
    try clear hfz28_1
    try clear hfz28_10
    try clear hfz28_11
    try clear hfz28_12
    try clear hfz28_13
    try clear hfz28_14
    try clear hfz28_2
    try clear hfz28_3
    try clear hfz28_4
    try clear hfz28_5
    try clear hfz28_6
    try clear hfz28_7
    try clear hfz28_8
    try clear hfz28_9
    try clear hfz30_0
    try clear hfz30_1
    try clear hfz30_10
    try clear hfz30_11
    try clear hfz30_12
    try clear hfz30_13
    try clear hfz30_14
    try clear hfz30_2
    try clear hfz30_3
    try clear hfz30_4
    try clear hfz30_5
    try clear hfz30_6
    try clear hfz30_7
    try clear hfz30_8
    try clear hfz30_9
    try clear hfz32_0
    try clear hfz32_1
    try clear hfz32_10
    try clear hfz32_11
    try clear hfz32_12
    try clear hfz32_13
    try clear hfz32_14
    try clear hfz32_2
    try clear hfz32_3
    try clear hfz32_4
    try clear hfz32_5
    try clear hfz32_6
    try clear hfz32_7
    try clear hfz32_8
    try clear hfz32_9
    try clear hfz34_0
    try clear hfz34_1
    try clear hfz34_10
    try clear hfz34_11
    try clear hfz34_12
    try clear hfz34_13
    try clear hfz34_14
    try clear hfz34_2
    try clear hfz34_3
    try clear hfz34_4
    try clear hfz34_5
    try clear hfz34_6
    try clear hfz34_7
    try clear hfz34_8
    try clear hfz34_9
    try clear hfz36_0
    try clear hfz36_1
    try clear hfz36_10
    try clear hfz36_11
    try clear hfz36_12
    try clear hfz36_13
    try clear hfz36_14
    try clear hfz36_2
    try clear hfz36_3
    try clear hfz36_4
    try clear hfz36_5
    try clear hfz36_6
    try clear hfz36_7
    try clear hfz36_8
    try clear hfz36_9
    try clear hfz38_0
    try clear hfz38_1
    try clear hfz38_10
    try clear hfz38_11
    try clear hfz38_12
    try clear hfz38_13
    try clear hfz38_14
    try clear hfz38_2
    try clear hfz38_3
    try clear hfz38_4
    try clear hfz38_5
    try clear hfz38_6
    try clear hfz38_7
    try clear hfz38_8
    try clear hfz38_9
    try clear hfz39_0
    try clear hfz39_1
    try clear hfz39_10
    try clear hfz39_11
    try clear hfz39_12
    try clear hfz39_13
    try clear hfz39_14
    try clear hfz39_2
    try clear hfz39_3
    try clear hfz39_4
    try clear hfz39_5
    try clear hfz39_6
    try clear hfz39_7
    try clear hfz39_8
    try clear hfz39_9
    try clear hfz41_0
    try clear hfz41_1
    try clear hfz41_10
    try clear hfz41_11
    try clear hfz41_12
    try clear hfz41_13
    try clear hfz41_14
    try clear hfz41_2
    try clear hfz41_3
    try clear hfz41_4
    try clear hfz41_5
    try clear hfz41_6
    try clear hfz41_7
    try clear hfz41_8
    try clear hfz41_9
    try clear hfz43_0
    try clear hfz43_1
    try clear hfz43_10
    try clear hfz43_11
    try clear hfz43_12
    try clear hfz43_13
    try clear hfz43_14
    try clear hfz43_2
    try clear hfz43_3
    try clear hfz43_4
    try clear hfz43_5
    try clear hfz43_6
    try clear hfz43_7
    try clear hfz43_8
    try clear hfz43_9
    try clear hfz44_0
    try clear hfz44_1
    try clear hfz44_10
    try clear hfz44_11
    try clear hfz44_12
    try clear hfz44_13
    try clear hfz44_14
    try clear hfz44_2
    try clear hfz44_3
    try clear hfz44_4
    try clear hfz44_5
    try clear hfz44_6
    try clear hfz44_7
    try clear hfz44_8
    try clear hfz44_9
    try clear hfz46_0
    try clear hfz46_1
    try clear hfz46_10
    try clear hfz46_11
    try clear hfz46_12
    try clear hfz46_13
    try clear hfz46_14
    try clear hfz46_2
    try clear hfz46_3
    try clear hfz46_4
    try clear hfz46_5
    try clear hfz46_6
    try clear hfz46_7
    try clear hfz46_8
    try clear hfz46_9
    try clear hfz48_0
    try clear hfz48_1
    try clear hfz48_10
    try clear hfz48_11
    try clear hfz48_12
    try clear hfz48_13
    try clear hfz48_14
    try clear hfz48_2
    try clear hfz48_3
    try clear hfz48_4
    try clear hfz48_5
    try clear hfz48_6
    try clear hfz48_7
    try clear hfz48_8
    try clear hfz48_9
    try clear hfz50_0
    try clear hfz50_1
    try clear hfz50_10
    try clear hfz50_11
    try clear hfz50_12
    try clear hfz50_13
    try clear hfz50_14
    try clear hfz50_2
    try clear hfz50_3
    try clear hfz50_4
    try clear hfz50_5
    try clear hfz50_6
    try clear hfz50_7
    try clear hfz50_8
    try clear hfz50_9
    obtain ⟨kq, x49_1, rfl, HA, HJ1, BK171, HB⟩ := hcut
    cases kq with
    | zero => exact absurd HA.out (by simp [stockaderef03_May.j0])
    | succ kj1 =>
      have H := HA.out
      clear HA
      simp only [stockaderef03_May.j0] at H
      by_cases c51 : x49_1 = true
      · subst c51
        have H1 : (some false) = some r := by rw [if_pos rfl] at H; exact H
        clear H
        have H := H1
        clear H1
        obtain rfl := Option.some.inj H
        go_wp2
        go_ret
        exact ⟨by first | rfl | (simp [errW_none, errW_some] <;> rfl) | (simp [*, errW_none, errW_some] <;> rfl), by repeat (first | (with_reducible first | exact HB.out | apply below_alloc | apply pw_below_drewN | apply below_drew1 | refine below_set ?_ GE171.out) | exact HB.out)⟩
      · replace c51 := Bool.eq_false_iff.mpr c51
        subst c51
        have H1 : (if a0_10 > 65535 then (some false) else (if a0_11 < 0 then (some false) else (if (Int.tmod a0_11 8) = 0 then (if a0_11 > (wrap64 (65515 - (l0_14.length : Int))) then (some false) else (if a0_9 = true then (if a0_12 = true then (some (!(((l0_14.length : Int) % 8) != 0))) else (if a0_11 = 0 then (some false) else (some (!false)))) else (if a0_12 = true then (some (!(((l0_14.length : Int) % 8) != 0))) else (some (!false))))) else (some false)))) = some r := by rw [if_neg (show ¬ (false = true) by decide)] at H; exact H
        clear H
        have H := H1
        clear H1
        by_cases c52 : a0_10 > 65535
        · rw [if_pos c52] at H
          have c52b0 : decide (65535 < a0_10) = true := decide_eq_true c52
          clear c52
          obtain rfl := Option.some.inj H
          have hcz53_0 : wc.cell? ⟨gb171, 0, none⟩ = some (.int .i64 a0_0) := (blk_cell BK171.out 0).trans rfl
          have hcz53_1 : wc.cell? ⟨gb171, 1, none⟩ = some (.int .i64 a0_1) := (blk_cell BK171.out 1).trans rfl
          have hcz53_2 : wc.cell? ⟨gb171, 2, none⟩ = some (.int .u64 a0_2) := (blk_cell BK171.out 2).trans rfl
          have hcz53_3 : wc.cell? ⟨gb171, 3, none⟩ = some (.int .u64 a0_3) := (blk_cell BK171.out 3).trans rfl
          have hcz53_4 : wc.cell? ⟨gb171, 4, none⟩ = some (.int .i64 a0_4) := (blk_cell BK171.out 4).trans rfl
          have hcz53_5 : wc.cell? ⟨gb171, 5, none⟩ = some (.int .u64 a0_5) := (blk_cell BK171.out 5).trans rfl
          have hcz53_6 : wc.cell? ⟨gb171, 6, none⟩ = some (.int .u64 a0_6) := (blk_cell BK171.out 6).trans rfl
          have hcz53_7 : wc.cell? ⟨gb171, 7, none⟩ = some (.int .i64 a0_7) := (blk_cell BK171.out 7).trans rfl
          have hcz53_8 : wc.cell? ⟨gb171, 8, none⟩ = some (.int .i64 a0_8) := (blk_cell BK171.out 8).trans rfl
          have hcz53_9 : wc.cell? ⟨gb171, 9, none⟩ = some (.bool a0_9) := (blk_cell BK171.out 9).trans rfl
          have hcz53_10 : wc.cell? ⟨gb171, 10, none⟩ = some (.int .u32 a0_10) := (blk_cell BK171.out 10).trans rfl
          have hcz53_11 : wc.cell? ⟨gb171, 11, none⟩ = some (.int .i64 a0_11) := (blk_cell BK171.out 11).trans rfl
          have hcz53_12 : wc.cell? ⟨gb171, 12, none⟩ = some (.bool a0_12) := (blk_cell BK171.out 12).trans rfl
          have hcz53_13 : wc.cell? ⟨gb171, 13, none⟩ = some (.slice A0_13 l0_13.length c0_13) := (blk_cell BK171.out 13).trans rfl
          have hcz53_14 : wc.cell? ⟨gb171, 14, none⟩ = some (.slice A0_14 l0_14.length c0_14) := (blk_cell BK171.out 14).trans rfl
          have hfz53_0 := blk_frozen BK171.out 0
          have hfz53_1 := blk_frozen BK171.out 1
          have hfz53_2 := blk_frozen BK171.out 2
          have hfz53_3 := blk_frozen BK171.out 3
          have hfz53_4 := blk_frozen BK171.out 4
          have hfz53_5 := blk_frozen BK171.out 5
          have hfz53_6 := blk_frozen BK171.out 6
          have hfz53_7 := blk_frozen BK171.out 7
          have hfz53_8 := blk_frozen BK171.out 8
          have hfz53_9 := blk_frozen BK171.out 9
          have hfz53_10 := blk_frozen BK171.out 10
          have hfz53_11 := blk_frozen BK171.out 11
          have hfz53_12 := blk_frozen BK171.out 12
          have hfz53_13 := blk_frozen BK171.out 13
          have hfz53_14 := blk_frozen BK171.out 14
          go_wp2
          go_ret
          exact ⟨by first | rfl | (simp [errW_none, errW_some] <;> rfl) | (simp [*, errW_none, errW_some] <;> rfl), by repeat (first | (with_reducible first | exact HB.out | apply below_alloc | apply pw_below_drewN | apply below_drew1 | refine below_set ?_ GE171.out) | exact HB.out)⟩
        · rw [if_neg c52] at H
          have c52b0 : decide (65535 < a0_10) = false := decide_eq_false c52
          clear c52
          by_cases c54 : a0_11 < 0
          · rw [if_pos c54] at H
            have c54b0 : decide (a0_11 < 0) = true := decide_eq_true c54
            clear c54
            obtain rfl := Option.some.inj H
            have hcz55_0 : wc.cell? ⟨gb171, 0, none⟩ = some (.int .i64 a0_0) := (blk_cell BK171.out 0).trans rfl
            have hcz55_1 : wc.cell? ⟨gb171, 1, none⟩ = some (.int .i64 a0_1) := (blk_cell BK171.out 1).trans rfl
            have hcz55_2 : wc.cell? ⟨gb171, 2, none⟩ = some (.int .u64 a0_2) := (blk_cell BK171.out 2).trans rfl
            have hcz55_3 : wc.cell? ⟨gb171, 3, none⟩ = some (.int .u64 a0_3) := (blk_cell BK171.out 3).trans rfl
            have hcz55_4 : wc.cell? ⟨gb171, 4, none⟩ = some (.int .i64 a0_4) := (blk_cell BK171.out 4).trans rfl
            have hcz55_5 : wc.cell? ⟨gb171, 5, none⟩ = some (.int .u64 a0_5) := (blk_cell BK171.out 5).trans rfl
            have hcz55_6 : wc.cell? ⟨gb171, 6, none⟩ = some (.int .u64 a0_6) := (blk_cell BK171.out 6).trans rfl
            have hcz55_7 : wc.cell? ⟨gb171, 7, none⟩ = some (.int .i64 a0_7) := (blk_cell BK171.out 7).trans rfl
            have hcz55_8 : wc.cell? ⟨gb171, 8, none⟩ = some (.int .i64 a0_8) := (blk_cell BK171.out 8).trans rfl
            have hcz55_9 : wc.cell? ⟨gb171, 9, none⟩ = some (.bool a0_9) := (blk_cell BK171.out 9).trans rfl
            have hcz55_10 : wc.cell? ⟨gb171, 10, none⟩ = some (.int .u32 a0_10) := (blk_cell BK171.out 10).trans rfl
            have hcz55_11 : wc.cell? ⟨gb171, 11, none⟩ = some (.int .i64 a0_11) := (blk_cell BK171.out 11).trans rfl
            have hcz55_12 : wc.cell? ⟨gb171, 12, none⟩ = some (.bool a0_12) := (blk_cell BK171.out 12).trans rfl
            have hcz55_13 : wc.cell? ⟨gb171, 13, none⟩ = some (.slice A0_13 l0_13.length c0_13) := (blk_cell BK171.out 13).trans rfl
            have hcz55_14 : wc.cell? ⟨gb171, 14, none⟩ = some (.slice A0_14 l0_14.length c0_14) := (blk_cell BK171.out 14).trans rfl
            have hfz55_0 := blk_frozen BK171.out 0
            have hfz55_1 := blk_frozen BK171.out 1
            have hfz55_2 := blk_frozen BK171.out 2
            have hfz55_3 := blk_frozen BK171.out 3
            have hfz55_4 := blk_frozen BK171.out 4
            have hfz55_5 := blk_frozen BK171.out 5
            have hfz55_6 := blk_frozen BK171.out 6
            have hfz55_7 := blk_frozen BK171.out 7
            have hfz55_8 := blk_frozen BK171.out 8
            have hfz55_9 := blk_frozen BK171.out 9
            have hfz55_10 := blk_frozen BK171.out 10
            have hfz55_11 := blk_frozen BK171.out 11
            have hfz55_12 := blk_frozen BK171.out 12
            have hfz55_13 := blk_frozen BK171.out 13
            have hfz55_14 := blk_frozen BK171.out 14
            go_wp2
            go_ret
            exact ⟨by first | rfl | (simp [errW_none, errW_some] <;> rfl) | (simp [*, errW_none, errW_some] <;> rfl), by repeat (first | (with_reducible first | exact HB.out | apply below_alloc | apply pw_below_drewN | apply below_drew1 | refine below_set ?_ GE171.out) | exact HB.out)⟩
          · rw [if_neg c54] at H
            have c54b0 : decide (a0_11 < 0) = false := decide_eq_false c54
            clear c54
            by_cases c56 : (Int.tmod a0_11 8) = 0
            · rw [if_pos c56] at H
              have c56b0 : ((Int.tmod a0_11 8) == 0) = true := beq_iff_eq.mpr c56
              have c56b1 : ((Int.tmod a0_11 8) != 0) = false := bne_eq_false_iff_eq.mpr c56
              clear c56
              by_cases c57 : a0_11 > (wrap64 (65515 - (l0_14.length : Int)))
              · rw [if_pos c57] at H
                have c57b0 : decide ((wrap64 (65515 - (l0_14.length : Int))) < a0_11) = true := decide_eq_true c57
                clear c57
                obtain rfl := Option.some.inj H
                have hcz58_0 : wc.cell? ⟨gb171, 0, none⟩ = some (.int .i64 a0_0) := (blk_cell BK171.out 0).trans rfl
                have hcz58_1 : wc.cell? ⟨gb171, 1, none⟩ = some (.int .i64 a0_1) := (blk_cell BK171.out 1).trans rfl
                have hcz58_2 : wc.cell? ⟨gb171, 2, none⟩ = some (.int .u64 a0_2) := (blk_cell BK171.out 2).trans rfl
                have hcz58_3 : wc.cell? ⟨gb171, 3, none⟩ = some (.int .u64 a0_3) := (blk_cell BK171.out 3).trans rfl
                have hcz58_4 : wc.cell? ⟨gb171, 4, none⟩ = some (.int .i64 a0_4) := (blk_cell BK171.out 4).trans rfl
                have hcz58_5 : wc.cell? ⟨gb171, 5, none⟩ = some (.int .u64 a0_5) := (blk_cell BK171.out 5).trans rfl
                have hcz58_6 : wc.cell? ⟨gb171, 6, none⟩ = some (.int .u64 a0_6) := (blk_cell BK171.out 6).trans rfl
                have hcz58_7 : wc.cell? ⟨gb171, 7, none⟩ = some (.int .i64 a0_7) := (blk_cell BK171.out 7).trans rfl
                have hcz58_8 : wc.cell? ⟨gb171, 8, none⟩ = some (.int .i64 a0_8) := (blk_cell BK171.out 8).trans rfl
                have hcz58_9 : wc.cell? ⟨gb171, 9, none⟩ = some (.bool a0_9) := (blk_cell BK171.out 9).trans rfl
                have hcz58_10 : wc.cell? ⟨gb171, 10, none⟩ = some (.int .u32 a0_10) := (blk_cell BK171.out 10).trans rfl
                have hcz58_11 : wc.cell? ⟨gb171, 11, none⟩ = some (.int .i64 a0_11) := (blk_cell BK171.out 11).trans rfl
                have hcz58_12 : wc.cell? ⟨gb171, 12, none⟩ = some (.bool a0_12) := (blk_cell BK171.out 12).trans rfl
                have hcz58_13 : wc.cell? ⟨gb171, 13, none⟩ = some (.slice A0_13 l0_13.length c0_13) := (blk_cell BK171.out 13).trans rfl
                have hcz58_14 : wc.cell? ⟨gb171, 14, none⟩ = some (.slice A0_14 l0_14.length c0_14) := (blk_cell BK171.out 14).trans rfl
                have hfz58_0 := blk_frozen BK171.out 0
                have hfz58_1 := blk_frozen BK171.out 1
                have hfz58_2 := blk_frozen BK171.out 2
                have hfz58_3 := blk_frozen BK171.out 3
                have hfz58_4 := blk_frozen BK171.out 4
                have hfz58_5 := blk_frozen BK171.out 5
                have hfz58_6 := blk_frozen BK171.out 6
                have hfz58_7 := blk_frozen BK171.out 7
                have hfz58_8 := blk_frozen BK171.out 8
                have hfz58_9 := blk_frozen BK171.out 9
                have hfz58_10 := blk_frozen BK171.out 10
                have hfz58_11 := blk_frozen BK171.out 11
                have hfz58_12 := blk_frozen BK171.out 12
                have hfz58_13 := blk_frozen BK171.out 13
                have hfz58_14 := blk_frozen BK171.out 14
                go_wp2
                go_ret
                exact ⟨by first | rfl | (simp [errW_none, errW_some] <;> rfl) | (simp [*, errW_none, errW_some] <;> rfl), by repeat (first | (with_reducible first | exact HB.out | apply below_alloc | apply pw_below_drewN | apply below_drew1 | refine below_set ?_ GE171.out) | exact HB.out)⟩
              · rw [if_neg c57] at H
                have c57b0 : decide ((wrap64 (65515 - (l0_14.length : Int))) < a0_11) = false := decide_eq_false c57
                clear c57
                by_cases c59 : a0_9 = true
                · subst c59
                  have H1 : (if a0_12 = true then (some (!(((l0_14.length : Int) % 8) != 0))) else (if a0_11 = 0 then (some false) else (some (!false)))) = some r := by rw [if_pos rfl] at H; exact H
                  clear H
                  have H := H1
                  clear H1
                  by_cases c60 : a0_12 = true
                  · subst c60
                    have H1 : (some (!(((l0_14.length : Int) % 8) != 0))) = some r := by rw [if_pos rfl] at H; exact H
                    clear H
                    have H := H1
                    clear H1
                    obtain rfl := Option.some.inj H
                    have hcz61_0 : wc.cell? ⟨gb171, 0, none⟩ = some (.int .i64 a0_0) := (blk_cell BK171.out 0).trans rfl
                    have hcz61_1 : wc.cell? ⟨gb171, 1, none⟩ = some (.int .i64 a0_1) := (blk_cell BK171.out 1).trans rfl
                    have hcz61_2 : wc.cell? ⟨gb171, 2, none⟩ = some (.int .u64 a0_2) := (blk_cell BK171.out 2).trans rfl
                    have hcz61_3 : wc.cell? ⟨gb171, 3, none⟩ = some (.int .u64 a0_3) := (blk_cell BK171.out 3).trans rfl
                    have hcz61_4 : wc.cell? ⟨gb171, 4, none⟩ = some (.int .i64 a0_4) := (blk_cell BK171.out 4).trans rfl
                    have hcz61_5 : wc.cell? ⟨gb171, 5, none⟩ = some (.int .u64 a0_5) := (blk_cell BK171.out 5).trans rfl
                    have hcz61_6 : wc.cell? ⟨gb171, 6, none⟩ = some (.int .u64 a0_6) := (blk_cell BK171.out 6).trans rfl
                    have hcz61_7 : wc.cell? ⟨gb171, 7, none⟩ = some (.int .i64 a0_7) := (blk_cell BK171.out 7).trans rfl
                    have hcz61_8 : wc.cell? ⟨gb171, 8, none⟩ = some (.int .i64 a0_8) := (blk_cell BK171.out 8).trans rfl
                    have hcz61_9 : wc.cell? ⟨gb171, 9, none⟩ = some (.bool true) := (blk_cell BK171.out 9).trans rfl
                    have hcz61_10 : wc.cell? ⟨gb171, 10, none⟩ = some (.int .u32 a0_10) := (blk_cell BK171.out 10).trans rfl
                    have hcz61_11 : wc.cell? ⟨gb171, 11, none⟩ = some (.int .i64 a0_11) := (blk_cell BK171.out 11).trans rfl
                    have hcz61_12 : wc.cell? ⟨gb171, 12, none⟩ = some (.bool true) := (blk_cell BK171.out 12).trans rfl
                    have hcz61_13 : wc.cell? ⟨gb171, 13, none⟩ = some (.slice A0_13 l0_13.length c0_13) := (blk_cell BK171.out 13).trans rfl
                    have hcz61_14 : wc.cell? ⟨gb171, 14, none⟩ = some (.slice A0_14 l0_14.length c0_14) := (blk_cell BK171.out 14).trans rfl
                    have hfz61_0 := blk_frozen BK171.out 0
                    have hfz61_1 := blk_frozen BK171.out 1
                    have hfz61_2 := blk_frozen BK171.out 2
                    have hfz61_3 := blk_frozen BK171.out 3
                    have hfz61_4 := blk_frozen BK171.out 4
                    have hfz61_5 := blk_frozen BK171.out 5
                    have hfz61_6 := blk_frozen BK171.out 6
                    have hfz61_7 := blk_frozen BK171.out 7
                    have hfz61_8 := blk_frozen BK171.out 8
                    have hfz61_9 := blk_frozen BK171.out 9
                    have hfz61_10 := blk_frozen BK171.out 10
                    have hfz61_11 := blk_frozen BK171.out 11
                    have hfz61_12 := blk_frozen BK171.out 12
                    have hfz61_13 := blk_frozen BK171.out 13
                    have hfz61_14 := blk_frozen BK171.out 14
                    go_wp2
                    go_ret
                    exact ⟨by first | rfl | (simp [errW_none, errW_some] <;> rfl) | (simp [*, errW_none, errW_some] <;> rfl), by repeat (first | (with_reducible first | exact HB.out | apply below_alloc | apply pw_below_drewN | apply below_drew1 | refine below_set ?_ GE171.out) | exact HB.out)⟩
                  · replace c60 := Bool.eq_false_iff.mpr c60
                    subst c60
                    have H1 : (if a0_11 = 0 then (some false) else (some (!false))) = some r := by rw [if_neg (show ¬ (false = true) by decide)] at H; exact H
                    clear H
                    have H := H1
                    clear H1
                    by_cases c62 : a0_11 = 0
                    · rw [if_pos c62] at H
                      have c62b0 : (a0_11 == 0) = true := beq_iff_eq.mpr c62
                      have c62b1 : (a0_11 != 0) = false := bne_eq_false_iff_eq.mpr c62
                      clear c62
                      obtain rfl := Option.some.inj H
                      have hcz63_0 : wc.cell? ⟨gb171, 0, none⟩ = some (.int .i64 a0_0) := (blk_cell BK171.out 0).trans rfl
                      have hcz63_1 : wc.cell? ⟨gb171, 1, none⟩ = some (.int .i64 a0_1) := (blk_cell BK171.out 1).trans rfl
                      have hcz63_2 : wc.cell? ⟨gb171, 2, none⟩ = some (.int .u64 a0_2) := (blk_cell BK171.out 2).trans rfl
                      have hcz63_3 : wc.cell? ⟨gb171, 3, none⟩ = some (.int .u64 a0_3) := (blk_cell BK171.out 3).trans rfl
                      have hcz63_4 : wc.cell? ⟨gb171, 4, none⟩ = some (.int .i64 a0_4) := (blk_cell BK171.out 4).trans rfl
                      have hcz63_5 : wc.cell? ⟨gb171, 5, none⟩ = some (.int .u64 a0_5) := (blk_cell BK171.out 5).trans rfl
                      have hcz63_6 : wc.cell? ⟨gb171, 6, none⟩ = some (.int .u64 a0_6) := (blk_cell BK171.out 6).trans rfl
                      have hcz63_7 : wc.cell? ⟨gb171, 7, none⟩ = some (.int .i64 a0_7) := (blk_cell BK171.out 7).trans rfl
                      have hcz63_8 : wc.cell? ⟨gb171, 8, none⟩ = some (.int .i64 a0_8) := (blk_cell BK171.out 8).trans rfl
                      have hcz63_9 : wc.cell? ⟨gb171, 9, none⟩ = some (.bool true) := (blk_cell BK171.out 9).trans rfl
                      have hcz63_10 : wc.cell? ⟨gb171, 10, none⟩ = some (.int .u32 a0_10) := (blk_cell BK171.out 10).trans rfl
                      have hcz63_11 : wc.cell? ⟨gb171, 11, none⟩ = some (.int .i64 a0_11) := (blk_cell BK171.out 11).trans rfl
                      have hcz63_12 : wc.cell? ⟨gb171, 12, none⟩ = some (.bool false) := (blk_cell BK171.out 12).trans rfl
                      have hcz63_13 : wc.cell? ⟨gb171, 13, none⟩ = some (.slice A0_13 l0_13.length c0_13) := (blk_cell BK171.out 13).trans rfl
                      have hcz63_14 : wc.cell? ⟨gb171, 14, none⟩ = some (.slice A0_14 l0_14.length c0_14) := (blk_cell BK171.out 14).trans rfl
                      have hfz63_0 := blk_frozen BK171.out 0
                      have hfz63_1 := blk_frozen BK171.out 1
                      have hfz63_2 := blk_frozen BK171.out 2
                      have hfz63_3 := blk_frozen BK171.out 3
                      have hfz63_4 := blk_frozen BK171.out 4
                      have hfz63_5 := blk_frozen BK171.out 5
                      have hfz63_6 := blk_frozen BK171.out 6
                      have hfz63_7 := blk_frozen BK171.out 7
                      have hfz63_8 := blk_frozen BK171.out 8
                      have hfz63_9 := blk_frozen BK171.out 9
                      have hfz63_10 := blk_frozen BK171.out 10
                      have hfz63_11 := blk_frozen BK171.out 11
                      have hfz63_12 := blk_frozen BK171.out 12
                      have hfz63_13 := blk_frozen BK171.out 13
                      have hfz63_14 := blk_frozen BK171.out 14
                      go_wp2
                      go_ret
                      exact ⟨by first | rfl | (simp [errW_none, errW_some] <;> rfl) | (simp [*, errW_none, errW_some] <;> rfl), by repeat (first | (with_reducible first | exact HB.out | apply below_alloc | apply pw_below_drewN | apply below_drew1 | refine below_set ?_ GE171.out) | exact HB.out)⟩
                    · rw [if_neg c62] at H
                      have c62b0 : (a0_11 == 0) = false := beq_eq_false_iff_ne.mpr c62
                      have c62b1 : (a0_11 != 0) = true := bne_iff_ne.mpr c62
                      obtain rfl := Option.some.inj H
                      have hcz64_0 : wc.cell? ⟨gb171, 0, none⟩ = some (.int .i64 a0_0) := (blk_cell BK171.out 0).trans rfl
                      have hcz64_1 : wc.cell? ⟨gb171, 1, none⟩ = some (.int .i64 a0_1) := (blk_cell BK171.out 1).trans rfl
                      have hcz64_2 : wc.cell? ⟨gb171, 2, none⟩ = some (.int .u64 a0_2) := (blk_cell BK171.out 2).trans rfl
                      have hcz64_3 : wc.cell? ⟨gb171, 3, none⟩ = some (.int .u64 a0_3) := (blk_cell BK171.out 3).trans rfl
                      have hcz64_4 : wc.cell? ⟨gb171, 4, none⟩ = some (.int .i64 a0_4) := (blk_cell BK171.out 4).trans rfl
                      have hcz64_5 : wc.cell? ⟨gb171, 5, none⟩ = some (.int .u64 a0_5) := (blk_cell BK171.out 5).trans rfl
                      have hcz64_6 : wc.cell? ⟨gb171, 6, none⟩ = some (.int .u64 a0_6) := (blk_cell BK171.out 6).trans rfl
                      have hcz64_7 : wc.cell? ⟨gb171, 7, none⟩ = some (.int .i64 a0_7) := (blk_cell BK171.out 7).trans rfl
                      have hcz64_8 : wc.cell? ⟨gb171, 8, none⟩ = some (.int .i64 a0_8) := (blk_cell BK171.out 8).trans rfl
                      have hcz64_9 : wc.cell? ⟨gb171, 9, none⟩ = some (.bool true) := (blk_cell BK171.out 9).trans rfl
                      have hcz64_10 : wc.cell? ⟨gb171, 10, none⟩ = some (.int .u32 a0_10) := (blk_cell BK171.out 10).trans rfl
                      have hcz64_11 : wc.cell? ⟨gb171, 11, none⟩ = some (.int .i64 a0_11) := (blk_cell BK171.out 11).trans rfl
                      have hcz64_12 : wc.cell? ⟨gb171, 12, none⟩ = some (.bool false) := (blk_cell BK171.out 12).trans rfl
                      have hcz64_13 : wc.cell? ⟨gb171, 13, none⟩ = some (.slice A0_13 l0_13.length c0_13) := (blk_cell BK171.out 13).trans rfl
                      have hcz64_14 : wc.cell? ⟨gb171, 14, none⟩ = some (.slice A0_14 l0_14.length c0_14) := (blk_cell BK171.out 14).trans rfl
                      have hfz64_0 := blk_frozen BK171.out 0
                      have hfz64_1 := blk_frozen BK171.out 1
                      have hfz64_2 := blk_frozen BK171.out 2
                      have hfz64_3 := blk_frozen BK171.out 3
                      have hfz64_4 := blk_frozen BK171.out 4
                      have hfz64_5 := blk_frozen BK171.out 5
                      have hfz64_6 := blk_frozen BK171.out 6
                      have hfz64_7 := blk_frozen BK171.out 7
                      have hfz64_8 := blk_frozen BK171.out 8
                      have hfz64_9 := blk_frozen BK171.out 9
                      have hfz64_10 := blk_frozen BK171.out 10
                      have hfz64_11 := blk_frozen BK171.out 11
                      have hfz64_12 := blk_frozen BK171.out 12
                      have hfz64_13 := blk_frozen BK171.out 13
                      have hfz64_14 := blk_frozen BK171.out 14
                      go_wp2
                      go_ret
                      exact ⟨by first | rfl | (simp [errW_none, errW_some] <;> rfl) | (simp [*, errW_none, errW_some] <;> rfl), by repeat (first | (with_reducible first | exact HB.out | apply below_alloc | apply pw_below_drewN | apply below_drew1 | refine below_set ?_ GE171.out) | exact HB.out)⟩
                · replace c59 := Bool.eq_false_iff.mpr c59
                  subst c59
                  have H1 : (if a0_12 = true then (some (!(((l0_14.length : Int) % 8) != 0))) else (some (!false))) = some r := by rw [if_neg (show ¬ (false = true) by decide)] at H; exact H
                  clear H
                  have H := H1
                  clear H1
                  by_cases c65 : a0_12 = true
                  · subst c65
                    have H1 : (some (!(((l0_14.length : Int) % 8) != 0))) = some r := by rw [if_pos rfl] at H; exact H
                    clear H
                    have H := H1
                    clear H1
                    obtain rfl := Option.some.inj H
                    have hcz66_0 : wc.cell? ⟨gb171, 0, none⟩ = some (.int .i64 a0_0) := (blk_cell BK171.out 0).trans rfl
                    have hcz66_1 : wc.cell? ⟨gb171, 1, none⟩ = some (.int .i64 a0_1) := (blk_cell BK171.out 1).trans rfl
                    have hcz66_2 : wc.cell? ⟨gb171, 2, none⟩ = some (.int .u64 a0_2) := (blk_cell BK171.out 2).trans rfl
                    have hcz66_3 : wc.cell? ⟨gb171, 3, none⟩ = some (.int .u64 a0_3) := (blk_cell BK171.out 3).trans rfl
                    have hcz66_4 : wc.cell? ⟨gb171, 4, none⟩ = some (.int .i64 a0_4) := (blk_cell BK171.out 4).trans rfl
                    have hcz66_5 : wc.cell? ⟨gb171, 5, none⟩ = some (.int .u64 a0_5) := (blk_cell BK171.out 5).trans rfl
                    have hcz66_6 : wc.cell? ⟨gb171, 6, none⟩ = some (.int .u64 a0_6) := (blk_cell BK171.out 6).trans rfl
                    have hcz66_7 : wc.cell? ⟨gb171, 7, none⟩ = some (.int .i64 a0_7) := (blk_cell BK171.out 7).trans rfl
                    have hcz66_8 : wc.cell? ⟨gb171, 8, none⟩ = some (.int .i64 a0_8) := (blk_cell BK171.out 8).trans rfl
                    have hcz66_9 : wc.cell? ⟨gb171, 9, none⟩ = some (.bool false) := (blk_cell BK171.out 9).trans rfl
                    have hcz66_10 : wc.cell? ⟨gb171, 10, none⟩ = some (.int .u32 a0_10) := (blk_cell BK171.out 10).trans rfl
                    have hcz66_11 : wc.cell? ⟨gb171, 11, none⟩ = some (.int .i64 a0_11) := (blk_cell BK171.out 11).trans rfl
                    have hcz66_12 : wc.cell? ⟨gb171, 12, none⟩ = some (.bool true) := (blk_cell BK171.out 12).trans rfl
                    have hcz66_13 : wc.cell? ⟨gb171, 13, none⟩ = some (.slice A0_13 l0_13.length c0_13) := (blk_cell BK171.out 13).trans rfl
                    have hcz66_14 : wc.cell? ⟨gb171, 14, none⟩ = some (.slice A0_14 l0_14.length c0_14) := (blk_cell BK171.out 14).trans rfl
                    have hfz66_0 := blk_frozen BK171.out 0
                    have hfz66_1 := blk_frozen BK171.out 1
                    have hfz66_2 := blk_frozen BK171.out 2
                    have hfz66_3 := blk_frozen BK171.out 3
                    have hfz66_4 := blk_frozen BK171.out 4
                    have hfz66_5 := blk_frozen BK171.out 5
                    have hfz66_6 := blk_frozen BK171.out 6
                    have hfz66_7 := blk_frozen BK171.out 7
                    have hfz66_8 := blk_frozen BK171.out 8
                    have hfz66_9 := blk_frozen BK171.out 9
                    have hfz66_10 := blk_frozen BK171.out 10
                    have hfz66_11 := blk_frozen BK171.out 11
                    have hfz66_12 := blk_frozen BK171.out 12
                    have hfz66_13 := blk_frozen BK171.out 13
                    have hfz66_14 := blk_frozen BK171.out 14
                    go_wp2
                    go_ret
                    exact ⟨by first | rfl | (simp [errW_none, errW_some] <;> rfl) | (simp [*, errW_none, errW_some] <;> rfl), by repeat (first | (with_reducible first | exact HB.out | apply below_alloc | apply pw_below_drewN | apply below_drew1 | refine below_set ?_ GE171.out) | exact HB.out)⟩
                  · replace c65 := Bool.eq_false_iff.mpr c65
                    subst c65
                    have H1 : (some (!false)) = some r := by rw [if_neg (show ¬ (false = true) by decide)] at H; exact H
                    clear H
                    have H := H1
                    clear H1
                    obtain rfl := Option.some.inj H
                    have hcz67_0 : wc.cell? ⟨gb171, 0, none⟩ = some (.int .i64 a0_0) := (blk_cell BK171.out 0).trans rfl
                    have hcz67_1 : wc.cell? ⟨gb171, 1, none⟩ = some (.int .i64 a0_1) := (blk_cell BK171.out 1).trans rfl
                    have hcz67_2 : wc.cell? ⟨gb171, 2, none⟩ = some (.int .u64 a0_2) := (blk_cell BK171.out 2).trans rfl
                    have hcz67_3 : wc.cell? ⟨gb171, 3, none⟩ = some (.int .u64 a0_3) := (blk_cell BK171.out 3).trans rfl
                    have hcz67_4 : wc.cell? ⟨gb171, 4, none⟩ = some (.int .i64 a0_4) := (blk_cell BK171.out 4).trans rfl
                    have hcz67_5 : wc.cell? ⟨gb171, 5, none⟩ = some (.int .u64 a0_5) := (blk_cell BK171.out 5).trans rfl
                    have hcz67_6 : wc.cell? ⟨gb171, 6, none⟩ = some (.int .u64 a0_6) := (blk_cell BK171.out 6).trans rfl
                    have hcz67_7 : wc.cell? ⟨gb171, 7, none⟩ = some (.int .i64 a0_7) := (blk_cell BK171.out 7).trans rfl
                    have hcz67_8 : wc.cell? ⟨gb171, 8, none⟩ = some (.int .i64 a0_8) := (blk_cell BK171.out 8).trans rfl
                    have hcz67_9 : wc.cell? ⟨gb171, 9, none⟩ = some (.bool false) := (blk_cell BK171.out 9).trans rfl
                    have hcz67_10 : wc.cell? ⟨gb171, 10, none⟩ = some (.int .u32 a0_10) := (blk_cell BK171.out 10).trans rfl
                    have hcz67_11 : wc.cell? ⟨gb171, 11, none⟩ = some (.int .i64 a0_11) := (blk_cell BK171.out 11).trans rfl
                    have hcz67_12 : wc.cell? ⟨gb171, 12, none⟩ = some (.bool false) := (blk_cell BK171.out 12).trans rfl
                    have hcz67_13 : wc.cell? ⟨gb171, 13, none⟩ = some (.slice A0_13 l0_13.length c0_13) := (blk_cell BK171.out 13).trans rfl
                    have hcz67_14 : wc.cell? ⟨gb171, 14, none⟩ = some (.slice A0_14 l0_14.length c0_14) := (blk_cell BK171.out 14).trans rfl
                    have hfz67_0 := blk_frozen BK171.out 0
                    have hfz67_1 := blk_frozen BK171.out 1
                    have hfz67_2 := blk_frozen BK171.out 2
                    have hfz67_3 := blk_frozen BK171.out 3
                    have hfz67_4 := blk_frozen BK171.out 4
                    have hfz67_5 := blk_frozen BK171.out 5
                    have hfz67_6 := blk_frozen BK171.out 6
                    have hfz67_7 := blk_frozen BK171.out 7
                    have hfz67_8 := blk_frozen BK171.out 8
                    have hfz67_9 := blk_frozen BK171.out 9
                    have hfz67_10 := blk_frozen BK171.out 10
                    have hfz67_11 := blk_frozen BK171.out 11
                    have hfz67_12 := blk_frozen BK171.out 12
                    have hfz67_13 := blk_frozen BK171.out 13
                    have hfz67_14 := blk_frozen BK171.out 14
                    go_wp2
                    go_ret
                    exact ⟨by first | rfl | (simp [errW_none, errW_some] <;> rfl) | (simp [*, errW_none, errW_some] <;> rfl), by repeat (first | (with_reducible first | exact HB.out | apply below_alloc | apply pw_below_drewN | apply below_drew1 | refine below_set ?_ GE171.out) | exact HB.out)⟩
            · rw [if_neg c56] at H
              have c56b0 : ((Int.tmod a0_11 8) == 0) = false := beq_eq_false_iff_ne.mpr c56
              have c56b1 : ((Int.tmod a0_11 8) != 0) = true := bne_iff_ne.mpr c56
              obtain rfl := Option.some.inj H
              have hcz68_0 : wc.cell? ⟨gb171, 0, none⟩ = some (.int .i64 a0_0) := (blk_cell BK171.out 0).trans rfl
              have hcz68_1 : wc.cell? ⟨gb171, 1, none⟩ = some (.int .i64 a0_1) := (blk_cell BK171.out 1).trans rfl
              have hcz68_2 : wc.cell? ⟨gb171, 2, none⟩ = some (.int .u64 a0_2) := (blk_cell BK171.out 2).trans rfl
              have hcz68_3 : wc.cell? ⟨gb171, 3, none⟩ = some (.int .u64 a0_3) := (blk_cell BK171.out 3).trans rfl
              have hcz68_4 : wc.cell? ⟨gb171, 4, none⟩ = some (.int .i64 a0_4) := (blk_cell BK171.out 4).trans rfl
              have hcz68_5 : wc.cell? ⟨gb171, 5, none⟩ = some (.int .u64 a0_5) := (blk_cell BK171.out 5).trans rfl
              have hcz68_6 : wc.cell? ⟨gb171, 6, none⟩ = some (.int .u64 a0_6) := (blk_cell BK171.out 6).trans rfl
              have hcz68_7 : wc.cell? ⟨gb171, 7, none⟩ = some (.int .i64 a0_7) := (blk_cell BK171.out 7).trans rfl
              have hcz68_8 : wc.cell? ⟨gb171, 8, none⟩ = some (.int .i64 a0_8) := (blk_cell BK171.out 8).trans rfl
              have hcz68_9 : wc.cell? ⟨gb171, 9, none⟩ = some (.bool a0_9) := (blk_cell BK171.out 9).trans rfl
              have hcz68_10 : wc.cell? ⟨gb171, 10, none⟩ = some (.int .u32 a0_10) := (blk_cell BK171.out 10).trans rfl
              have hcz68_11 : wc.cell? ⟨gb171, 11, none⟩ = some (.int .i64 a0_11) := (blk_cell BK171.out 11).trans rfl
              have hcz68_12 : wc.cell? ⟨gb171, 12, none⟩ = some (.bool a0_12) := (blk_cell BK171.out 12).trans rfl
              have hcz68_13 : wc.cell? ⟨gb171, 13, none⟩ = some (.slice A0_13 l0_13.length c0_13) := (blk_cell BK171.out 13).trans rfl
              have hcz68_14 : wc.cell? ⟨gb171, 14, none⟩ = some (.slice A0_14 l0_14.length c0_14) := (blk_cell BK171.out 14).trans rfl
              have hfz68_0 := blk_frozen BK171.out 0
              have hfz68_1 := blk_frozen BK171.out 1
              have hfz68_2 := blk_frozen BK171.out 2
              have hfz68_3 := blk_frozen BK171.out 3
              have hfz68_4 := blk_frozen BK171.out 4
              have hfz68_5 := blk_frozen BK171.out 5
              have hfz68_6 := blk_frozen BK171.out 6
              have hfz68_7 := blk_frozen BK171.out 7
              have hfz68_8 := blk_frozen BK171.out 8
              have hfz68_9 := blk_frozen BK171.out 9
              have hfz68_10 := blk_frozen BK171.out 10
              have hfz68_11 := blk_frozen BK171.out 11
              have hfz68_12 := blk_frozen BK171.out 12
              have hfz68_13 := blk_frozen BK171.out 13
              have hfz68_14 := blk_frozen BK171.out 14
              go_wp2
              go_ret
              exact ⟨by first | rfl | (simp [errW_none, errW_some] <;> rfl) | (simp [*, errW_none, errW_some] <;> rfl), by repeat (first | (with_reducible first | exact HB.out | apply below_alloc | apply pw_below_drewN | apply below_drew1 | refine below_set ?_ GE171.out) | exact HB.out)⟩
end Go.Proofs.Ytgifcmbknkjemaa.QQ
end
