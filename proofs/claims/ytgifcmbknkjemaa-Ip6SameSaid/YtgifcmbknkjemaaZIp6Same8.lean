/- What the law Ip6Same rests on, part 8: contracts of the functions that it calls, and plain lemmas. No condition. -/
import Derived.Test.YtgifcmbknkjemaaZIp6Same7
import Derived.Deep.WholeRow
section
namespace Go.Proofs.Ytgifcmbknkjemaa.Own
open Go Go.RowKit
theorem wpList_store_new {P : Program} {ops : Array Oper} {rest : List Oper} {o : Oper} {a : Act} {W : World} {Q : Exit → Act → World → Prop} (hgd : o.guard = none) (ty : TypeId) (x y : Operand) (ho : o.op = .store ty x y)
    (c cells : Array Value) (hx : a.eval x = .pointer (some ⟨W.heap.size, 0, none⟩)) (hy : a.eval y = .agg cells) (hi : (P.info? ty).map (·.size) = some cells.size)
    (hold : c.size = cells.size) (h1 : cells.all (·.oneCell') = true)
    (h : wpList P ops Q rest (a.put o.dst undef) (W.alloc (.cells cells ty))) : wpList P ops Q (o :: rest) a (W.alloc (.cells c ty)) := by
  rw [← World.setRow_alloc_new W c cells ty] at h
  exact wpList_store_row hgd ty x y ho W.heap.size cells hx hy ty c (heap_alloc_last W _) hi hold h1 h
theorem run_loadVar_part {P : Program} (w : World) (a : Addr) (ty : TypeId) (cs : List Value) (d : TypeDesc) (h : ∀ j v, cs[j]? = some v → w.cell? (a.add j) = some v)
    (hu : P.underlying ty = some d) (hd : (match d with | .struct _ | .array _ _ => true | _ => false) = true) (hi : (P.info? ty).map (·.size) = some cs.length) :
    (loadVar ty a).run P w = .ok (.agg cs.toArray) w := by
  have hl := run_loadCells_list (P := P) w a cs h
  cases hq : P.info? ty with
  | none => simp [hq] at hi
  | some i =>
    have hs : i.size = cs.length := by simpa [hq] using hi
    have hagg : (isAgg ty).run P w = .ok true w := by
      unfold isAgg
      rw [Sem.run_bind, run_underlying hu w]
      cases d <;> simp_all
    simp [loadVar, Sem.run_bind, hagg, sizeOf, typeInfo, hq, hs, hl]
theorem wpList_load_part {P : Program} {ops : Array Oper} {rest : List Oper} {o : Oper} {a : Act} {w : World} {Q : Exit → Act → World → Prop} (hgd : o.guard = none) (ty : TypeId) (x : Operand) (ho : o.op = .load ty x)
    (ad : Addr) (cs : List Value) (hx : a.eval x = .pointer (some ad)) (d : TypeDesc) (h : ∀ j v, cs[j]? = some v → w.cell? (ad.add j) = some v)
    (hu : P.underlying ty = some d) (hd : (match d with | .struct _ | .array _ _ => true | _ => false) = true) (hi : (P.info? ty).map (·.size) = some cs.length)
    (hk : wpList P ops Q rest (a.put o.dst (.agg cs.toArray)) w) : wpList P ops Q (o :: rest) a w := by
  refine wpList_plain hgd fun K hK => ?_
  unfold Oper.wp execOp
  simp only [ho, hx, Instr.loadAt, Instr.sureAddr, Sem.run_bind, Sem.run_pure, Result.andThen_ok, run_loadVar_part w ad ty cs d h hu hd hi]
  exact hK _ _ hk
theorem results_cell_tmp {P : Program} {fn : Func} {p q : Tmp} {ty : TypeId} (h : fn.results = #[.cell p ty, .tmp q]) (tmps : Array Value) (w : World) (g : Nat) (t : TypeId) (cs : Array Value) (fr : Nat × Nat) (d : TypeDesc) (v2 : Value)
    (hp : tmps.getD p undef = .pointer (some ⟨g, 0, none⟩)) (hq : tmps.getD q undef = v2) (hg : w.heap[g]? = some (.cells cs t fr))
    (hu : P.underlying ty = some d) (hd : (match d with | .struct _ | .array _ _ => true | _ => false) = true) (hi : (P.info? ty).map (·.size) = some cs.size) :
    (results fn tmps).run P w = .ok (.tuple #[.agg cs, v2]) w := by
  have hp' : tmps[p]?.getD undef = .pointer (some ⟨g, 0, none⟩) := by simpa using hp
  have hq' : tmps[q]?.getD undef = v2 := by simpa using hq
  simp [results, h, hp', hq', asAddr, run_loadVar_row w g t ty cs fr d hg hu hd hi]
end Go.Proofs.Ytgifcmbknkjemaa.Own
end
section
namespace Go.Proofs.Ytgifcmbknkjemaa.GA
open Go.RowKit Go.Proofs.YtgifcmbknkjemaaW.PrintWords Go.Proofs.YtgifcmbknkjemaaW.PrintLast Go.Proofs.YtgifcmbknkjemaaW.PrintMore
attribute [local go_sem] max2_int min2_int max_two min_two max_three min_three max_four min_four   -- for this text's walks alone
set_option linter.unusedVariables false
set_option linter.unusedSimpArgs false
def errW : Option Int → Value
  | none => .nilIface
  | some c => .iface 0 (.int .i64 c)
theorem errW_none : errW none = .nilIface := rfl
theorem errW_some (c : Int) : errW (some c) = .iface 0 (.int .i64 c) := rfl
theorem info5 : (Try.prog.info? 5).map (fun i => (i.zero, i.size, i.bytes)) = some (some (.int .u8 0), 1, 1) := by kernel_rfl
end Go.Proofs.Ytgifcmbknkjemaa.GA
end
section
namespace Go.Proofs.Ytgifcmbknkjemaa.GA
open Go.RowKit Go.Proofs.YtgifcmbknkjemaaW.PrintWords Go.Proofs.YtgifcmbknkjemaaW.PrintLast Go.Proofs.YtgifcmbknkjemaaW.PrintMore
attribute [local go_sem] max2_int min2_int max_two min_two max_three min_three max_four min_four   -- for this text's walks alone
set_option linter.unusedVariables false
set_option linter.unusedSimpArgs false
mutual
def addr_From.j0 : Nat → List Int → Int → Int → Int → Option (Int × Int × Int × Int)
  | 0, _, _, _, _ => none
  | k + 1, x0, x103000, x103001, x103002 => addr_From.l0 k x0 x0 (x0.length : Int) 0 x103000 x103001 x103002
def addr_From.l0 : Nat → List Int → List Int → Int → Int → Int → Int → Int → Option (Int × Int × Int × Int)
  | 0, _, _, _, _, _, _, _ => none
  | k + 1, x0, x16, x17, x18, x103000, x103001, x103002 => if x18 < x17 then (if 0 ≤ x18 then (if x18 < (x16.length : Int) then (if x18 < (wrap64 ((x0.length : Int) - 8)) then (addr_From.l0 k x0 x16 x17 (wrap64 (x18 + 1)) x103000 (Go.bits .or .u64 (IntKind.u64.wrap (x103001 * 256)) (IntKind.u64.wrap (rd x16 x18))) x103002) else (addr_From.l0 k x0 x16 x17 (wrap64 (x18 + 1)) x103000 x103001 (Go.bits .or .u64 (IntKind.u64.wrap (x103002 * 256)) (IntKind.u64.wrap (rd x16 x18))))) else (none)) else (none)) else (some (x103000, x103001, x103002, 0))
end
def addr_From.f (k : Nat) (l0 : List Int) : Option (Int × Int × Int × Int) := if (l0.length : Int) = 4 then (addr_From.j0 k l0 4 0 0) else (if (l0.length : Int) = 16 then (addr_From.j0 k l0 6 0 0) else (some (0, 0, 0, 1)))
theorem addr_From.mono_l : ∀ k, (∀ y0 y1 y2 y3, LeO (addr_From.j0 k y0 y1 y2 y3) (addr_From.j0 (k + 1) y0 y1 y2 y3)) ∧ (∀ y0 y1 y2 y3 y4 y5 y6, LeO (addr_From.l0 k y0 y1 y2 y3 y4 y5 y6) (addr_From.l0 (k + 1) y0 y1 y2 y3 y4 y5 y6))
  | 0 => ⟨fun _ _ _ _ r h => by simp [addr_From.j0] at h, fun _ _ _ _ _ _ _ r h => by simp [addr_From.l0] at h⟩
  | k + 1 => by
    obtain ⟨ih0, ih1⟩ := addr_From.mono_l k
    refine ⟨?_, ?_⟩
    · intro y0 y1 y2 y3
      unfold addr_From.j0
      repeat' first
      | (with_reducible exact ih0 _ _ _ _)
      | (with_reducible exact ih1 _ _ _ _ _ _ _)
      | (with_reducible exact LeO.refl _)
      | (with_reducible exact LeO.none _)
      | (with_reducible refine LeO.ite ?_ ?_)
      | (with_reducible refine LeO.bind ?_ (fun _ => ?_))
      | exact ih0 _ _ _ _
      | exact ih1 _ _ _ _ _ _ _
      | exact LeO.none _
      | refine LeO.ite ?_ ?_
      | refine LeO.bind ?_ (fun _ => ?_)
    · intro y0 y1 y2 y3 y4 y5 y6
      unfold addr_From.l0
      repeat' first
      | (with_reducible exact ih0 _ _ _ _)
      | (with_reducible exact ih1 _ _ _ _ _ _ _)
      | (with_reducible exact LeO.refl _)
      | (with_reducible exact LeO.none _)
      | (with_reducible refine LeO.ite ?_ ?_)
      | (with_reducible refine LeO.bind ?_ (fun _ => ?_))
      | exact ih0 _ _ _ _
      | exact ih1 _ _ _ _ _ _ _
      | exact LeO.none _
      | refine LeO.ite ?_ ?_
      | refine LeO.bind ?_ (fun _ => ?_)
theorem addr_From.mono : ∀ a0 k, LeO (addr_From.f k a0) (addr_From.f (k + 1) a0) := by
  intro a0 k
  obtain ⟨ih0, ih1⟩ := addr_From.mono_l k
  unfold addr_From.f
  repeat' first
      | (with_reducible exact ih0 _ _ _ _)
      | (with_reducible exact ih1 _ _ _ _ _ _ _)
      | (with_reducible exact LeO.refl _)
      | (with_reducible exact LeO.none _)
      | (with_reducible refine LeO.ite ?_ ?_)
      | (with_reducible refine LeO.bind ?_ (fun _ => ?_))
      | exact ih0 _ _ _ _
      | exact ih1 _ _ _ _ _ _ _
      | exact LeO.none _
      | refine LeO.ite ?_ ?_
      | refine LeO.bind ?_ (fun _ => ?_)
set_option maxHeartbeats 8000000 in
set_option maxRecDepth 100000 in
theorem addr_From.calls (k : Nat) (A0 : Option Addr) (c0 : Nat) (l0 : List Int) (r1 : Int) (r2 : Int) (r3 : Int) (r4 : Int) (w : World) (hr0 : Kd.C (Kd.int .u8) w A0 l0.length l0) (hc0 : l0.length ≤ c0) (h : addr_From.f k l0 = some (r1, r2, r3, r4)) :
    Calls Try.prog 102 #[.slice A0 l0.length c0] w fun e w' => e = .returned (.tuple #[.agg #[.int .i64 r1, .int .u64 r2, .int .u64 r3], .int .i64 r4]) ∧ Below w.heap.size w w' := by
  have hu53 := Try.underlying53
  have HR0 := Aside0.mk hr0
  have HC0 := Aside0.mk hc0
  clear hr0 hc0
  have HB := Aside0.mk (Below.refl w.heap.size w)
  have H : (if (l0.length : Int) = 4 then (addr_From.j0 k l0 4 0 0) else (if (l0.length : Int) = 16 then (addr_From.j0 k l0 6 0 0) else (some (0, 0, 0, 1)))) = some (r1, r2, r3, r4) := h
  clear h
  have HC2 := Aside0.mk H
  clear H
  go_enter Try.func102, Try.ntmps102
  go_upto_block 0 with (first | ((with_reducible refine gate_dst (N := 2) rfl ?_); refine box_event ?hg (N := 2) ?hd (cs := #[.int .i64 0, .int .u64 0, .int .u64 0]) (t := 53) ?hr ?_; (case hd => rfl); (case hg => rfl); (case hr => first | (go_simp; done) | (go_simp; rfl)); intro gb101 hg w3 hbox hb; have n0_ := Aside0.mk (below_step (by repeat (first | (with_reducible first | exact HB.out | apply below_alloc | apply pw_below_drewN | apply below_drew1) | exact HB.out)) hb); have n1_ := Aside0.mk (hbox); have n2_ := Aside0.mk ((by rw [hg]; exact (below_size (by repeat (first | (with_reducible first | exact HB.out | apply below_alloc | apply pw_below_drewN | apply below_drew1) | exact HB.out))) : w.heap.size ≤ gb101)); have n3_ := Aside0.mk ((by rw [hg]; exact (below_size (by repeat (first | (with_reducible first | exact HB.out | apply below_alloc | apply pw_below_drewN | apply below_drew1) | exact HB.out))) : w.heap.size ≤ gb101)); clear HB; have HB := n0_; have BK101 := n1_; have GW101 := n2_; have GE101 := n3_; clear n0_ n1_ n2_ n3_; clear hb hbox hg) | ((with_reducible refine gate_dst (N := 4) rfl ?_); refine box_event ?hg (N := 4) ?hd (cs := #[.int .i64 0, .int .u64 0, .int .u64 0]) (t := 53) ?hr ?_; (case hd => rfl); (case hg => rfl); (case hr => first | (go_simp; done) | (go_simp; rfl)); intro gb102 hg w4 hbox hb; have n0_ := Aside0.mk (blk_below (g := gb101) (o := .cells #[.int .i64 0, .int .u64 0, .int .u64 0] 53 (0, 0)) (by (with_reducible repeat (first | refine blk_drewN ?_ _ | refine blk_drew ?_ | refine blk_alloc ?_ _)); exact BK101.out) hb); have n1_ := Aside0.mk (below_step (by repeat (first | (with_reducible first | exact HB.out | apply below_alloc | apply pw_below_drewN | apply below_drew1 | refine below_set ?_ GE101.out) | exact HB.out)) hb); have n2_ := Aside0.mk (hbox); have n3_ := Aside0.mk ((by rw [hg]; exact (below_size (by repeat (first | (with_reducible first | exact HB.out | apply below_alloc | apply pw_below_drewN | apply below_drew1 | refine below_set ?_ GE101.out) | exact HB.out))) : w.heap.size ≤ gb102)); have n4_ := Aside0.mk ((by rw [hg]; exact (below_size (by repeat (first | (with_reducible first | exact HB.out | apply below_alloc | apply pw_below_drewN | apply below_drew1 | refine below_set ?_ GE101.out) | exact HB.out))) : w.heap.size ≤ gb102)); have n5_ := Aside0.mk ((by rw [hg]; exact Nat.ne_of_lt (blk_lt (g := gb101) (o := .cells #[.int .i64 0, .int .u64 0, .int .u64 0] 53 (0, 0)) (by (with_reducible repeat (first | refine blk_drewN ?_ _ | refine blk_drew ?_ | refine blk_alloc ?_ _)); exact BK101.out)) : gb101 ≠ gb102)); have n6_ := Aside0.mk ((by rw [hg]; exact Nat.ne_of_gt (blk_lt (g := gb101) (o := .cells #[.int .i64 0, .int .u64 0, .int .u64 0] 53 (0, 0)) (by (with_reducible repeat (first | refine blk_drewN ?_ _ | refine blk_drew ?_ | refine blk_alloc ?_ _)); exact BK101.out)) : gb102 ≠ gb101)); clear BK101; clear HB; have BK101 := n0_; have HB := n1_; have BK102 := n2_; have GW102 := n3_; have GE102 := n4_; have NB101_102 := n5_; have NB102_101 := n6_; clear n0_ n1_ n2_ n3_ n4_ n5_ n6_; clear hb hbox hg))
  (try simp only [Act.put, List.setIfInBounds_toArray, List.set_cons_zero, List.set_cons_succ])
  go_cut [] (fun wc => ∃ (kq : Nat) (x102000_1 : Int) (x102001_1 : Int) (x102002_1 : Int) (x103000_1 : Int), Aside0 (addr_From.j0 kq l0 x103000_1 0 0 = some (r1, r2, r3, r4)) ∧ Aside0 (kq ≤ k) ∧ Aside0 (wc.heap[gb101]? = some (.cells #[.int .i64 x102000_1, .int .u64 x102001_1, .int .u64 x102002_1] 53 (0, 0))) ∧ Aside0 (wc.heap[gb102]? = some (.cells #[.int .i64 x103000_1, .int .u64 0, .int .u64 0] 53 (0, 0))) ∧ Aside0 (Below w.heap.size w wc))
  case first =>
    have H := HC2.out
    clear HC2
    by_cases c5 : (l0.length : Int) = 4
    · rw [if_pos c5] at H
      have c5b0 : ((l0.length : Int) == 4) = true := beq_iff_eq.mpr c5
      have c5b1 : ((l0.length : Int) != 4) = false := bne_eq_false_iff_eq.mpr c5
      clear c5
      (first | rw [c5b0] | (simp only [i64_w, i32_w]; rw [c5b0]) | skip)
      have H' := Aside0.mk H
      clear H
      have hnb6 := NB102_101.out
      have hnc6 := NB101_102.out
      have hcz7_0 : w4.cell? ⟨gb102, 0, none⟩ = some (.int .i64 0) := (blk_cell BK102.out 0).trans rfl
      have hcz7_1 : w4.cell? ⟨gb102, 1, none⟩ = some (.int .u64 0) := (blk_cell BK102.out 1).trans rfl
      have hcz7_2 : w4.cell? ⟨gb102, 2, none⟩ = some (.int .u64 0) := (blk_cell BK102.out 2).trans rfl
      have hfz7_0 := blk_frozen BK102.out 0
      have hfz7_1 := blk_frozen BK102.out 1
      have hfz7_2 := blk_frozen BK102.out 2
      go_wp2
      go_meet
      case rel => exact ⟨_, (0), (0), (0), (4), H', ⟨by first | omega | exact Nat.le_refl _⟩, ⟨by (with_reducible repeat (first | refine blk_drewN ?_ _ | refine blk_drew ?_ | refine blk_alloc ?_ _)); refine blk_far ?_ NB101_102.out _; (with_reducible repeat (first | refine blk_drewN ?_ _ | refine blk_drew ?_ | refine blk_alloc ?_ _)); exact BK101.out⟩, ⟨by (with_reducible repeat (first | refine blk_drewN ?_ _ | refine blk_drew ?_ | refine blk_alloc ?_ _)); refine blk_put (cs := #[.int .i64 0, .int .u64 0, .int .u64 0]) ?_ 0 _ rfl; (with_reducible repeat (first | refine blk_drewN ?_ _ | refine blk_drew ?_ | refine blk_alloc ?_ _)); exact BK102.out⟩, ⟨by repeat (first | (with_reducible first | exact HB.out | apply below_alloc | apply pw_below_drewN | apply below_drew1 | refine below_set ?_ GE101.out | refine below_set ?_ GE102.out) | exact HB.out)⟩⟩
    · rw [if_neg c5] at H
      have c5b0 : ((l0.length : Int) == 4) = false := beq_eq_false_iff_ne.mpr c5
      have c5b1 : ((l0.length : Int) != 4) = true := bne_iff_ne.mpr c5
      (first | rw [c5b0] | (simp only [i64_w, i32_w]; rw [c5b0]) | skip)
      by_cases c8 : (l0.length : Int) = 16
      · rw [if_pos c8] at H
        have c8b0 : ((l0.length : Int) == 16) = true := beq_iff_eq.mpr c8
        have c8b1 : ((l0.length : Int) != 16) = false := bne_eq_false_iff_eq.mpr c8
        clear c8
        have H' := Aside0.mk H
        clear H
        have hnb9 := NB102_101.out
        have hnc9 := NB101_102.out
        have hcz10_0 : w4.cell? ⟨gb102, 0, none⟩ = some (.int .i64 0) := (blk_cell BK102.out 0).trans rfl
        have hcz10_1 : w4.cell? ⟨gb102, 1, none⟩ = some (.int .u64 0) := (blk_cell BK102.out 1).trans rfl
        have hcz10_2 : w4.cell? ⟨gb102, 2, none⟩ = some (.int .u64 0) := (blk_cell BK102.out 2).trans rfl
        have hfz10_0 := blk_frozen BK102.out 0
        have hfz10_1 := blk_frozen BK102.out 1
        have hfz10_2 := blk_frozen BK102.out 2
        go_wp2
        go_meet
        case rel => exact ⟨_, (0), (0), (0), (6), H', ⟨by first | omega | exact Nat.le_refl _⟩, ⟨by (with_reducible repeat (first | refine blk_drewN ?_ _ | refine blk_drew ?_ | refine blk_alloc ?_ _)); refine blk_far ?_ NB101_102.out _; (with_reducible repeat (first | refine blk_drewN ?_ _ | refine blk_drew ?_ | refine blk_alloc ?_ _)); exact BK101.out⟩, ⟨by (with_reducible repeat (first | refine blk_drewN ?_ _ | refine blk_drew ?_ | refine blk_alloc ?_ _)); refine blk_put (cs := #[.int .i64 0, .int .u64 0, .int .u64 0]) ?_ 0 _ rfl; (with_reducible repeat (first | refine blk_drewN ?_ _ | refine blk_drew ?_ | refine blk_alloc ?_ _)); exact BK102.out⟩, ⟨by repeat (first | (with_reducible first | exact HB.out | apply below_alloc | apply pw_below_drewN | apply below_drew1 | refine below_set ?_ GE101.out | refine below_set ?_ GE102.out) | exact HB.out)⟩⟩
      · rw [if_neg c8] at H
        have c8b0 : ((l0.length : Int) == 16) = false := beq_eq_false_iff_ne.mpr c8
        have c8b1 : ((l0.length : Int) != 16) = true := bne_iff_ne.mpr c8
        simp only [Option.some.injEq, Prod.mk.injEq] at H
        obtain ⟨rfl, rfl, rfl, rfl⟩ := H
        have hnb11 := NB102_101.out
        have hnc11 := NB101_102.out
        have hcz12_0 : w4.cell? ⟨gb102, 0, none⟩ = some (.int .i64 0) := (blk_cell BK102.out 0).trans rfl
        have hcz12_1 : w4.cell? ⟨gb102, 1, none⟩ = some (.int .u64 0) := (blk_cell BK102.out 1).trans rfl
        have hcz12_2 : w4.cell? ⟨gb102, 2, none⟩ = some (.int .u64 0) := (blk_cell BK102.out 2).trans rfl
        have hfz12_0 := blk_frozen BK102.out 0
        have hfz12_1 := blk_frozen BK102.out 1
        have hfz12_2 := blk_frozen BK102.out 2
        have hcz13_0 : w4.cell? ⟨gb101, 0, none⟩ = some (.int .i64 0) := (blk_cell BK101.out 0).trans rfl
        have hcz13_1 : w4.cell? ⟨gb101, 1, none⟩ = some (.int .u64 0) := (blk_cell BK101.out 1).trans rfl
        have hcz13_2 : w4.cell? ⟨gb101, 2, none⟩ = some (.int .u64 0) := (blk_cell BK101.out 2).trans rfl
        have hfz13_0 := blk_frozen BK101.out 0
        have hfz13_1 := blk_frozen BK101.out 1
        have hfz13_2 := blk_frozen BK101.out 2
        go_wp2
        refine bodyPost_ret (results_ct rfl _ _ gb101 53 #[.int .i64 0, .int .u64 0, .int .u64 0] (0, 0) _ rfl (by (with_reducible repeat (first | refine blk_drewN ?_ _ | refine blk_drew ?_ | refine blk_alloc ?_ _)); refine blk_put (cs := #[.int .i64 0, .int .u64 0, .int .u64 0]) ?_ 2 _ rfl; (with_reducible repeat (first | refine blk_drewN ?_ _ | refine blk_drew ?_ | refine blk_alloc ?_ _)); refine blk_put (cs := #[.int .i64 0, .int .u64 0, .int .u64 0]) ?_ 1 _ rfl; (with_reducible repeat (first | refine blk_drewN ?_ _ | refine blk_drew ?_ | refine blk_alloc ?_ _)); refine blk_put (cs := #[.int .i64 0, .int .u64 0, .int .u64 0]) ?_ 0 _ rfl; (with_reducible repeat (first | refine blk_drewN ?_ _ | refine blk_drew ?_ | refine blk_alloc ?_ _)); exact BK101.out) Try.underlying53 rfl (by kernel_rfl)) rfl ?_
        exact ⟨by first | rfl | (simp [errW_none, errW_some] <;> rfl) | (simp [*, errW_none, errW_some] <;> rfl), by repeat (first | (with_reducible first | exact HB.out | apply below_alloc | apply pw_below_drewN | apply below_drew1 | refine below_set ?_ GE101.out | refine below_set ?_ GE102.out) | exact HB.out)⟩
  case rest =>
    clear HC2
    try clear c1
    try clear p2
    try clear c5
    try clear c5b0
    try clear c5b1
    try clear c6
    try clear c8
    try clear c8b0
    try clear c8b1
    try clear c9
    try clear c10
    try clear c11
    try clear hcz10_0
    try clear hcz10_1
    try clear hcz10_2
    try clear hcz12_0
    try clear hcz12_1
    try clear hcz12_2
    try clear hcz13_0
    try clear hcz13_1
    try clear hcz13_2
    try clear hcz7_0
    try clear hcz7_1
    try clear hcz7_2
    try clear hfz10_0
    try clear hfz10_1
    try clear hfz10_2
    try clear hfz12_0
    try clear hfz12_1
    try clear hfz12_2
    try clear hfz13_0
    try clear hfz13_1
    try clear hfz13_2
    try clear hfz7_0
    try clear hfz7_1
    try clear hfz7_2
    obtain ⟨kq, x102000_1, x102001_1, x102002_1, x103000_1, HA, HJ1, BK101, BK102, HB⟩ := hcut
    cases kq with
    | zero => exact absurd HA.out (by simp [addr_From.j0])
    | succ kj1 =>
      have H := HA.out
      clear HA
      simp only [addr_From.j0] at H
      have H' := Aside0.mk H
      clear H
      go_wp2
      go_loopg [18] kj1 (fun kq v18 w' => ∃ (x18_2 : Int) (x103001_2 : Int) (x103002_2 : Int), v18 = .int .i64 x18_2 ∧ Aside0 (addr_From.l0 kq l0 l0 (l0.length : Int) x18_2 x103000_1 x103001_2 x103002_2 = some (r1, r2, r3, r4)) ∧ Aside0 (kq ≤ kj1) ∧ Aside0 (w'.heap[gb101]? = some (.cells #[.int .i64 x102000_1, .int .u64 x102001_1, .int .u64 x102002_1] 53 (0, 0))) ∧ Aside0 (w'.heap[gb102]? = some (.cells #[.int .i64 x103000_1, .int .u64 x103001_2, .int .u64 x103002_2] 53 (0, 0))) ∧ Aside0 (Below w.heap.size w w'))
      case atStart => exact ⟨(0), (0), (0), (by first | rfl | (simp; done) | (simp [*]; done)), H', ⟨Nat.le_refl _⟩, ⟨by (with_reducible repeat (first | refine blk_drewN ?_ _ | refine blk_drew ?_ | refine blk_alloc ?_ _)); exact BK101.out⟩, ⟨by (with_reducible repeat (first | refine blk_drewN ?_ _ | refine blk_drew ?_ | refine blk_alloc ?_ _)); exact BK102.out⟩, ⟨by repeat (first | (with_reducible first | exact HB.out | apply below_alloc | apply pw_below_drewN | apply below_drew1 | refine below_set ?_ GE101.out | refine below_set ?_ GE102.out) | exact HB.out)⟩⟩
      case round =>
        clear H'
        try clear c1
        try clear p2
        try clear c5
        try clear c5b0
        try clear c5b1
        try clear c6
        try clear c8
        try clear c8b0
        try clear c8b1
        try clear c9
        try clear c10
        try clear c11
        try clear hcz10_0
        try clear hcz10_1
        try clear hcz10_2
        try clear hcz12_0
        try clear hcz12_1
        try clear hcz12_2
        try clear hcz13_0
        try clear hcz13_1
        try clear hcz13_2
        try clear hcz7_0
        try clear hcz7_1
        try clear hcz7_2
        try clear hfz10_0
        try clear hfz10_1
        try clear hfz10_2
        try clear hfz12_0
        try clear hfz12_1
        try clear hfz12_2
        try clear hfz13_0
        try clear hfz13_1
        try clear hfz13_2
        try clear hfz7_0
        try clear hfz7_1
        try clear hfz7_2
        try clear p2
        obtain ⟨x18_2, x103001_2, x103002_2, rfl, HA, HK2, BK101, BK102, HB⟩ := hrel
        cases gk with
        | zero => exact absurd HA.out (by simp [addr_From.l0])
        | succ k2 =>
          have H := HA.out
          clear HA
          simp only [addr_From.l0] at H
          by_cases c14 : x18_2 < (l0.length : Int)
          · rw [if_pos c14] at H
            have c14b0 : decide (x18_2 < (l0.length : Int)) = true := decide_eq_true c14
            clear c14
            by_cases c15 : 0 ≤ x18_2
            · rw [if_pos c15] at H
              have c15b0 : decide (0 ≤ x18_2) = true := decide_eq_true c15
              clear c15
              by_cases c16 : x18_2 < (l0.length : Int)
              · rw [if_pos c16] at H
                have c16b0 : decide (x18_2 < (l0.length : Int)) = true := decide_eq_true c16
                clear c16
                by_cases c17 : x18_2 < (wrap64 ((l0.length : Int) - 8))
                · rw [if_pos c17] at H
                  have c17b0 : decide (x18_2 < (wrap64 ((l0.length : Int) - 8))) = true := decide_eq_true c17
                  clear c17
                  have H' := Aside0.mk H
                  clear H
                  have p103 : 0 ≤ (x18_2 : Int) := of_decide_eq_true (by first | (with_reducible assumption) | assumption)
                  have q103 : x18_2 < (l0.length : Int) := of_decide_eq_true (by first | (with_reducible assumption) | assumption)
                  obtain ⟨ad103, e103, hx103_0⟩ := Kd.at_int HR0.out x18_2 p103 q103
                  cases e103
                  replace hx103_0 := (HB.out.cell (World.block_lt_of_cell? w _ hx103_0)).trans hx103_0
                  replace p103 := eq_true p103
                  replace q103 := eq_true q103
                  have hnb18 := NB102_101.out
                  have hnc18 := NB101_102.out
                  have hcz19_0 : wr.cell? ⟨gb102, 0, none⟩ = some (.int .i64 x103000_1) := (blk_cell BK102.out 0).trans rfl
                  have hcz19_1 : wr.cell? ⟨gb102, 1, none⟩ = some (.int .u64 x103001_2) := (blk_cell BK102.out 1).trans rfl
                  have hcz19_2 : wr.cell? ⟨gb102, 2, none⟩ = some (.int .u64 x103002_2) := (blk_cell BK102.out 2).trans rfl
                  have hfz19_0 := blk_frozen BK102.out 0
                  have hfz19_1 := blk_frozen BK102.out 1
                  have hfz19_2 := blk_frozen BK102.out 2
                  go_wp2
                  go_roundg k2
                  case measure => have := HJ1.out; have := HK2.out; omega
                  case rel => exact ⟨(wrap64 (x18_2 + 1)), (Go.bits .or .u64 (IntKind.u64.wrap (x103001_2 * 256)) (IntKind.u64.wrap (rd l0 x18_2))), (x103002_2), (by first | rfl | (simp; done) | (simp [*]; done)), H', ⟨by have := HJ1.out; have := HK2.out; omega⟩, ⟨by (with_reducible repeat (first | refine blk_drewN ?_ _ | refine blk_drew ?_ | refine blk_alloc ?_ _)); refine blk_far ?_ NB101_102.out _; (with_reducible repeat (first | refine blk_drewN ?_ _ | refine blk_drew ?_ | refine blk_alloc ?_ _)); exact BK101.out⟩, ⟨by (with_reducible repeat (first | refine blk_drewN ?_ _ | refine blk_drew ?_ | refine blk_alloc ?_ _)); refine blk_put (cs := #[.int .i64 x103000_1, .int .u64 x103001_2, .int .u64 x103002_2]) ?_ 1 _ rfl; (with_reducible repeat (first | refine blk_drewN ?_ _ | refine blk_drew ?_ | refine blk_alloc ?_ _)); exact BK102.out⟩, ⟨by repeat (first | (with_reducible first | exact HB.out | apply below_alloc | apply pw_below_drewN | apply below_drew1 | refine below_set ?_ GE101.out | refine below_set ?_ GE102.out) | exact HB.out)⟩⟩
                · rw [if_neg c17] at H
                  have c17b0 : decide (x18_2 < (wrap64 ((l0.length : Int) - 8))) = false := decide_eq_false c17
                  clear c17
                  have H' := Aside0.mk H
                  clear H
                  have p103 : 0 ≤ (x18_2 : Int) := of_decide_eq_true (by first | (with_reducible assumption) | assumption)
                  have q103 : x18_2 < (l0.length : Int) := of_decide_eq_true (by first | (with_reducible assumption) | assumption)
                  obtain ⟨ad103, e103, hx103_0⟩ := Kd.at_int HR0.out x18_2 p103 q103
                  cases e103
                  replace hx103_0 := (HB.out.cell (World.block_lt_of_cell? w _ hx103_0)).trans hx103_0
                  replace p103 := eq_true p103
                  replace q103 := eq_true q103
                  have hnb20 := NB102_101.out
                  have hnc20 := NB101_102.out
                  have hcz21_0 : wr.cell? ⟨gb102, 0, none⟩ = some (.int .i64 x103000_1) := (blk_cell BK102.out 0).trans rfl
                  have hcz21_1 : wr.cell? ⟨gb102, 1, none⟩ = some (.int .u64 x103001_2) := (blk_cell BK102.out 1).trans rfl
                  have hcz21_2 : wr.cell? ⟨gb102, 2, none⟩ = some (.int .u64 x103002_2) := (blk_cell BK102.out 2).trans rfl
                  have hfz21_0 := blk_frozen BK102.out 0
                  have hfz21_1 := blk_frozen BK102.out 1
                  have hfz21_2 := blk_frozen BK102.out 2
                  go_wp2
                  go_roundg k2
                  case measure => have := HJ1.out; have := HK2.out; omega
                  case rel => exact ⟨(wrap64 (x18_2 + 1)), (x103001_2), (Go.bits .or .u64 (IntKind.u64.wrap (x103002_2 * 256)) (IntKind.u64.wrap (rd l0 x18_2))), (by first | rfl | (simp; done) | (simp [*]; done)), H', ⟨by have := HJ1.out; have := HK2.out; omega⟩, ⟨by (with_reducible repeat (first | refine blk_drewN ?_ _ | refine blk_drew ?_ | refine blk_alloc ?_ _)); refine blk_far ?_ NB101_102.out _; (with_reducible repeat (first | refine blk_drewN ?_ _ | refine blk_drew ?_ | refine blk_alloc ?_ _)); exact BK101.out⟩, ⟨by (with_reducible repeat (first | refine blk_drewN ?_ _ | refine blk_drew ?_ | refine blk_alloc ?_ _)); refine blk_put (cs := #[.int .i64 x103000_1, .int .u64 x103001_2, .int .u64 x103002_2]) ?_ 2 _ rfl; (with_reducible repeat (first | refine blk_drewN ?_ _ | refine blk_drew ?_ | refine blk_alloc ?_ _)); exact BK102.out⟩, ⟨by repeat (first | (with_reducible first | exact HB.out | apply below_alloc | apply pw_below_drewN | apply below_drew1 | refine below_set ?_ GE101.out | refine below_set ?_ GE102.out) | exact HB.out)⟩⟩
              · rw [if_neg c16] at H
                exact absurd H (by simp)
            · rw [if_neg c15] at H
              exact absurd H (by simp)
          · rw [if_neg c14] at H
            have c14b0 : decide (x18_2 < (l0.length : Int)) = false := decide_eq_false c14
            clear c14
            simp only [Option.some.injEq, Prod.mk.injEq] at H
            obtain ⟨rfl, rfl, rfl, rfl⟩ := H
            have hnb22 := NB102_101.out
            have hnc22 := NB101_102.out
            have hcz23_0 : wr.cell? ⟨gb102, 0, none⟩ = some (.int .i64 x103000_1) := (blk_cell BK102.out 0).trans rfl
            have hcz23_1 : wr.cell? ⟨gb102, 1, none⟩ = some (.int .u64 x103001_2) := (blk_cell BK102.out 1).trans rfl
            have hcz23_2 : wr.cell? ⟨gb102, 2, none⟩ = some (.int .u64 x103002_2) := (blk_cell BK102.out 2).trans rfl
            have hfz23_0 := blk_frozen BK102.out 0
            have hfz23_1 := blk_frozen BK102.out 1
            have hfz23_2 := blk_frozen BK102.out 2
            have hcz24_0 : wr.cell? ⟨gb101, 0, none⟩ = some (.int .i64 x102000_1) := (blk_cell BK101.out 0).trans rfl
            have hcz24_1 : wr.cell? ⟨gb101, 1, none⟩ = some (.int .u64 x102001_1) := (blk_cell BK101.out 1).trans rfl
            have hcz24_2 : wr.cell? ⟨gb101, 2, none⟩ = some (.int .u64 x102002_1) := (blk_cell BK101.out 2).trans rfl
            have hfz24_0 := blk_frozen BK101.out 0
            have hfz24_1 := blk_frozen BK101.out 1
            have hfz24_2 := blk_frozen BK101.out 2
            go_wp2
            refine bodyPost_ret (results_ct rfl _ _ gb101 53 #[.int .i64 x103000_1, .int .u64 x103001_2, .int .u64 x103002_2] (0, 0) _ rfl (by (with_reducible repeat (first | refine blk_drewN ?_ _ | refine blk_drew ?_ | refine blk_alloc ?_ _)); refine blk_put (cs := #[.int .i64 x103000_1, .int .u64 x103001_2, .int .u64 x102002_1]) ?_ 2 _ rfl; (with_reducible repeat (first | refine blk_drewN ?_ _ | refine blk_drew ?_ | refine blk_alloc ?_ _)); refine blk_put (cs := #[.int .i64 x103000_1, .int .u64 x102001_1, .int .u64 x102002_1]) ?_ 1 _ rfl; (with_reducible repeat (first | refine blk_drewN ?_ _ | refine blk_drew ?_ | refine blk_alloc ?_ _)); refine blk_put (cs := #[.int .i64 x102000_1, .int .u64 x102001_1, .int .u64 x102002_1]) ?_ 0 _ rfl; (with_reducible repeat (first | refine blk_drewN ?_ _ | refine blk_drew ?_ | refine blk_alloc ?_ _)); exact BK101.out) Try.underlying53 rfl (by kernel_rfl)) rfl ?_
            exact ⟨by first | rfl | (simp [errW_none, errW_some] <;> rfl) | (simp [*, errW_none, errW_some] <;> rfl), by repeat (first | (with_reducible first | exact HB.out | apply below_alloc | apply pw_below_drewN | apply below_drew1 | refine below_set ?_ GE101.out | refine below_set ?_ GE102.out) | exact HB.out)⟩
end Go.Proofs.Ytgifcmbknkjemaa.GA
end
section
namespace Go.Proofs.Ytgifcmbknkjemaa.Own
open Go Go.RowKit Go.Proofs.YtgifcmbknkjemaaW.PrintWords Go.Proofs.YtgifcmbknkjemaaW.PrintLast Go.Proofs.YtgifcmbknkjemaaW.PrintMore
set_option linter.unusedVariables false
set_option linter.unusedSimpArgs false
theorem run6_inv (stops : Bool) (k : Nat) : ∀ s : S6, s.exts.length ≤ 8 → Bytes s.rest → (run6 stops k s).2.exts.length ≤ 8 ∧ Bytes (run6 stops k s).2.rest ∧ (run6 stops k s).2.rest.length ≤ s.rest.length := by
  induction k with
  | zero => intro s h1 h2; exact ⟨h1, h2, Nat.le_refl _⟩
  | succ k ih =>
    intro s h1 h2
    simp only [run6]
    by_cases c1 : s.fr.isSome = true ∨ isExt s.next = false
    · rw [if_pos c1]; exact ⟨h1, h2, Nat.le_refl _⟩
    rw [if_neg c1]
    by_cases c2 : 8 ≤ s.exts.length
    · rw [if_pos c2]; exact ⟨h1, h2, Nat.le_refl _⟩
    rw [if_neg c2]
    by_cases c3 : (size6 s.next s.rest).2 = false
    · rw [if_pos c3]; exact ⟨h1, h2, Nat.le_refl _⟩
    rw [if_neg c3]
    by_cases c4 : look6 s (s.rest.take (size6 s.next s.rest).1.toNat) ≠ 0
    · rw [if_pos c4]; exact ⟨h1, h2, Nat.le_refl _⟩
    rw [if_neg c4]
    have h3 := ih (next6 stops s (size6 s.next s.rest).1.toNat) (by show (s.exts ++ [s.next]).length ≤ 8; rw [List.length_append, List.length_singleton]; omega) (fun y hy => h2 y (List.mem_of_mem_drop hy))
    refine ⟨h3.1, h3.2.1, Nat.le_trans h3.2.2 ?_⟩
    show (s.rest.drop _).length ≤ _
    rw [List.length_drop]
    omega
theorem walk6_inv {next : Int} {l : List Int} (hb : Bytes l) : (walk6 next l).2.1.length ≤ 8 ∧ Bytes (walk6 next l).2.2.1 ∧ (walk6 next l).2.2.1.length ≤ l.length := by
  have h := run6_inv false 9 ⟨next, l, [], true, true, none⟩ (by show 0 ≤ 8; omega) hb
  unfold walk6
  simp only
  split
  · exact h
  · exact ⟨by simp, fun y hy => by simp at hy, by simp⟩
theorem Walk_is {w : World} {next : Int} {A : Option Addr} {n c : Nat} {l : List Int} (hr : (Kd.int .u8).C w A n l) (hc : n ≤ c) (hby : Bytes l) (hn : n ≤ 140737488355000) :
    Calls Try.prog 51 #[.int .i64 next, .slice A n c] w (Walk6Post w (walk6 next l)) := Walk_at hr hc hby hn
theorem size_alloc' (w : World) (o : Obj) : (w.alloc o).heap.size = w.heap.size + 1 := by simp
set_option maxHeartbeats 1000000 in
set_option maxRecDepth 100000 in
theorem Alive4_at (w : World) : Calls Try.prog 54 #[] w fun e w' => e = .returned (.bool true) ∧ Below w.heap.size w w' := by
  have hw : walk6 60 [17, 0, 1, 4, 0, 0, 0, 0, 9] = (17, [60], [9], 0) := by decide +kernel
  have hlit : (Kd.int .u8).C (w.alloc (.cells #[.int .u8 17, .int .u8 0, .int .u8 1, .int .u8 4, .int .u8 0, .int .u8 0, .int .u8 0, .int .u8 0, .int .u8 9] 5)) (some ⟨w.heap.size, 0, none⟩) 9 [17, 0, 1, 4, 0, 0, 0, 0, 9] := by
    refine ⟨rfl, by decide, fun _ => ⟨_, rfl, fun j p hj => ⟨[.int .u8 p], rfl, rfl, fun i u hu => ?_⟩⟩⟩
    have hj9 : j < 9 := by
      have := (List.getElem?_eq_some_iff.1 hj).1
      simpa using this
    obtain rfl : i = 0 := by
      have := (List.getElem?_eq_some_iff.1 hu).1
      simpa using this
    have hu' : u = .int .u8 p := by simpa using hu.symm
    subst hu'
    have h1 : ((⟨w.heap.size, 0, none⟩ : Addr).add (j * (Kd.int .u8).sz + 0)) = ⟨w.heap.size, j, none⟩ := by
      rw [show j * (Kd.int .u8).sz + 0 = j from by show j * 1 + 0 = j; omega]
      exact add_plain _ _
    rw [h1, blk_cell (blk_at rfl) j]
    match j, hj9, hj with
    | 0, _, hj => simp at hj; subst hj; rfl
    | 1, _, hj => simp at hj; subst hj; rfl
    | 2, _, hj => simp at hj; subst hj; rfl
    | 3, _, hj => simp at hj; subst hj; rfl
    | 4, _, hj => simp at hj; subst hj; rfl
    | 5, _, hj => simp at hj; subst hj; rfl
    | 6, _, hj => simp at hj; subst hj; rfl
    | 7, _, hj => simp at hj; subst hj; rfl
    | 8, _, hj => simp at hj; subst hj; rfl
  have hcall := Walk_is (next := 60) (c := 9) hlit (by omega) (fun y hy => by simp at hy; omega) (by omega)
  rw [hw] at hcall
  have HC := Aside0.mk hcall
  clear hlit hcall hw
  go_enter Try.func54, Try.ntmps54
  go_wp2_with (go_at_call 51; refine HC.out.mono ?_; rintro e w1 ⟨vE, vD, rfl, hE, hD, hB⟩; obtain ⟨Ae, ce, rfl, hce, hCE⟩ := Kd.R_reads hE; obtain ⟨Ad, cd, rfl, hcd, hCD⟩ := Kd.R_reads hD; obtain ⟨ae, rfl, e0⟩ := Kd.at_int hCE 0 (by omega) (by simp); obtain ⟨de, rfl, d0⟩ := Kd.at_int hCD 0 (by omega) (by simp); rw [show ((0 : Int)).toNat = 0 from rfl, Addr.add_zero'] at e0 d0; have HB := Aside0.mk hB; clear hE hD hCE hCD hB)
  go_ret
  exact ⟨rfl, below_then (below_alloc (Below.refl _ _) _) (by rw [size_alloc']; omega) HB.out⟩
def be (l : List Int) : Int := l.foldl (fun a c => a * 256 + c) 0
theorem be_snoc (l : List Int) (c : Int) : be (l ++ [c]) = be l * 256 + c := by simp [be, List.foldl_append]
theorem fold_be (l : List Int) : ∀ a : Int, l.foldl (fun a c => a * 256 + c) a = a * (256 : Int) ^ l.length + be l := by
  induction l with
  | nil => intro a; simp [be]
  | cons x l ih =>
    intro a
    simp only [List.foldl_cons, be, List.length_cons]
    rw [ih, ih (0 * 256 + x), Int.pow_succ]
    have : (a * 256 + x) * (256 : Int) ^ l.length = a * ((256 : Int) ^ l.length * 256) + x * (256 : Int) ^ l.length := by
      rw [Int.add_mul, Int.mul_assoc, Int.mul_comm 256]
    rw [this, Int.zero_mul, Int.zero_add, Int.add_assoc]
theorem be_cons (x : Int) (l : List Int) : be (x :: l) = x * (256 : Int) ^ l.length + be l := by
  have := fold_be l (0 * 256 + x)
  simp only [be, List.foldl_cons]
  rw [this, Int.zero_mul, Int.zero_add]
  rfl
theorem be_bounds (l : List Int) (hb : Bytes l) : 0 ≤ be l ∧ be l < (256 : Int) ^ l.length := by
  induction l with
  | nil => simp [be]
  | cons x l ih =>
    have h1 := ih (fun y hy => hb y (List.mem_cons_of_mem _ hy))
    have h2 := hb x List.mem_cons_self
    rw [be_cons, List.length_cons, Int.pow_succ]
    generalize (256 : Int) ^ l.length = P at *
    have h3 : x * P ≤ 255 * P := Int.mul_le_mul_of_nonneg_right h2.2 (by omega)
    have h4 : 0 ≤ x * P := Int.mul_nonneg h2.1 (by omega)
    omega
theorem pw_pos (n : Nat) : (0 : Int) < 256 ^ n := by
  induction n with
  | zero => decide
  | succ n ih => rw [Int.pow_succ]; omega
theorem pw_le {a b : Nat} (h : a ≤ b) : (256 : Int) ^ a ≤ 256 ^ b := by
  obtain ⟨d, rfl⟩ := Nat.exists_eq_add_of_le h
  induction d with
  | zero => exact Int.le_refl _
  | succ d ih =>
    have h1 := ih (by omega)
    have h2 := pw_pos (a + d)
    rw [show a + (d + 1) = (a + d) + 1 by omega, Int.pow_succ]
    omega
theorem take_rd {l : List Int} {i : Nat} (h : i < l.length) : l.take (i + 1) = l.take i ++ [rd l (i : Int)] := by
  rw [List.take_succ_eq_append_getElem h]
  simp [rd, List.getD_eq_getElem?_getD, List.getElem?_eq_getElem h]
theorem shl8 (x c : Int) (h0 : 0 ≤ x) (hc0 : 0 ≤ c) (hc1 : c ≤ 255) : Go.bits .or .u64 (IntKind.u64.wrap (x * 256)) (IntKind.u64.wrap c) = (x * 256) % 18446744073709551616 + c := by
  have e1 : IntKind.u64.wrap (x * 256) = (x * 256) % 18446744073709551616 := IntKind.wrap_u64 _
  have e2 : IntKind.u64.wrap c = c := by rw [IntKind.wrap_u64]; omega
  rw [e1, e2]
  exact bits_join .u64 64 (by decide) (fun n h0 h1 => by rw [IntKind.wrap_u64]; omega) 8 _ c (by omega) (by omega) (by omega) hc0 (by omega) (by omega)
def fromA (l : List Int) : Int × Int × Int × Int := if l.length = 4 then (4, 0, be l, 0) else if l.length = 16 then (6, be (l.take 8), be (l.drop 8), 0) else (0, 0, 0, 1)
theorem from16 (l : List Int) (hb : Bytes l) (hl : l.length = 16) (d : Nat) : ∀ i : Nat, i + d = 16 → Ev (fun k => GA.addr_From.l0 k l l 16 i 6 (be (l.take (min i 8))) (be ((l.take i).drop 8))) (6, be (l.take 8), be (l.drop 8), 0) := by
  induction d with
  | zero =>
    intro i hi
    obtain rfl : i = 16 := by omega
    refine Ev.step (fun k => ?_) (Ev.now _)
    simp only [GA.addr_From.l0]
    rw [if_neg (by omega), List.take_of_length_le (l := l) (i := 16) (by omega)]
    rfl
  | succ d ih =>
    intro i hi
    have hr := rd_byte hb (i : Int)
    have hm := be_bounds (l.take (min i 8)) (fun y hy => hb y (List.mem_of_mem_take hy))
    have hd := be_bounds ((l.take i).drop 8) (fun y hy => hb y (List.mem_of_mem_take (List.mem_of_mem_drop hy)))
    have h1 := ih (i + 1) (by omega)
    refine Ev.step (fun k => ?_) h1
    simp only [GA.addr_From.l0]
    rw [if_pos (by omega), if_pos (by omega), if_pos (by omega), hl, w64 ((16 : Nat) - 8 : Int) (by omega) (by omega), w64 ((i : Int) + 1) (by omega) (by omega)]
    rw [List.length_take] at hm
    rw [List.length_drop, List.length_take] at hd
    have hT := take_rd (l := l) (i := i) (by omega)
    by_cases h8 : i < 8
    · rw [if_pos (by omega), shl8 _ _ hm.1 hr.1 hr.2]
      have e1 : min (i + 1) 8 = i + 1 := by omega
      have e2 : min i 8 = i := by omega
      have e3 : (l.take (i + 1)).drop 8 = [] := List.drop_eq_nil_of_le (by rw [List.length_take]; omega)
      have e4 : (l.take i).drop 8 = [] := List.drop_eq_nil_of_le (by rw [List.length_take]; omega)
      rw [e2] at hm ⊢
      rw [e1, e3, e4, hT, be_snoc]
      have hp : (256 : Int) ^ min i l.length ≤ 256 ^ 7 := pw_le (by omega)
      rw [Int.emod_eq_of_lt (by omega) (by omega)]
      rfl
    · rw [if_neg (by omega), shl8 _ _ hd.1 hr.1 hr.2]
      have e1 : min (i + 1) 8 = 8 := by omega
      have e2 : min i 8 = 8 := by omega
      have e3 : (l.take (i + 1)).drop 8 = (l.take i).drop 8 ++ [rd l (i : Int)] := by
        rw [hT, List.drop_append_of_le_length (by rw [List.length_take]; omega)]
      rw [e1, e2, e3, be_snoc]
      have hp : (256 : Int) ^ (min i l.length - 8) ≤ 256 ^ 7 := pw_le (by omega)
      rw [Int.emod_eq_of_lt (by omega) (by omega)]
      rfl
theorem from4 (l : List Int) (hb : Bytes l) (hl : l.length = 4) (d : Nat) : ∀ i : Nat, i + d = 4 → Ev (fun k => GA.addr_From.l0 k l l 4 i 4 0 (be (l.take i))) (4, 0, be l, 0) := by
  induction d with
  | zero =>
    intro i hi
    obtain rfl : i = 4 := by omega
    refine Ev.step (fun k => ?_) (Ev.now _)
    simp only [GA.addr_From.l0]
    rw [if_neg (by omega), List.take_of_length_le (by omega)]
  | succ d ih =>
    intro i hi
    have hr := rd_byte hb (i : Int)
    have hm := be_bounds (l.take i) (fun y hy => hb y (List.mem_of_mem_take hy))
    have h1 := ih (i + 1) (by omega)
    refine Ev.step (fun k => ?_) h1
    simp only [GA.addr_From.l0]
    rw [if_pos (by omega), if_pos (by omega), if_pos (by omega), hl, w64 ((4 : Nat) - 8 : Int) (by omega) (by omega), w64 ((i : Int) + 1) (by omega) (by omega)]
    rw [List.length_take] at hm
    rw [if_neg (by omega), shl8 _ _ hm.1 hr.1 hr.2, take_rd (l := l) (i := i) (by omega), be_snoc]
    have hp : (256 : Int) ^ min i l.length ≤ 256 ^ 3 := pw_le (by omega)
    rw [Int.emod_eq_of_lt (by omega) (by omega)]
    rfl
theorem From_at {A : Option Addr} {c n : Nat} {l : List Int} {w : World} (hr : (Kd.int .u8).C w A n l) (hc : n ≤ c) (hb : Bytes l) :
    Calls Try.prog 102 #[.slice A n c] w fun e w' => e = .returned (.tuple #[.agg #[.int .i64 (fromA l).1, .int .u64 (fromA l).2.1, .int .u64 (fromA l).2.2.1], .int .i64 (fromA l).2.2.2]) ∧ Below w.heap.size w w' := by
  have hn : l.length = n := hr.1
  subst hn
  have hev : ∃ k, GA.addr_From.f k l = some (fromA l) := by
    unfold GA.addr_From.f fromA
    by_cases h4 : l.length = 4
    · obtain ⟨k, hk⟩ := (from4 l hb h4 4 0 (by omega)).rounds
      refine ⟨k + 1, ?_⟩
      rw [if_pos (by omega), if_pos h4]
      simp only [GA.addr_From.j0]
      rw [h4]
      exact hk
    · by_cases h16 : l.length = 16
      · obtain ⟨k, hk⟩ := (from16 l hb h16 16 0 (by omega)).rounds
        refine ⟨k + 1, ?_⟩
        rw [if_neg (by omega), if_pos (by omega), if_neg h4, if_pos h16]
        simp only [GA.addr_From.j0]
        rw [h16]
        exact hk
      · exact ⟨0, by rw [if_neg (by omega), if_neg (by omega), if_neg h4, if_neg h16]⟩
  obtain ⟨k, hk⟩ := hev
  exact GA.addr_From.calls k A c l _ _ _ _ w hr hc hk
structure IpV where
  fam : Int
  src : Int × Int × Int
  dst : Int × Int × Int
  proto : Int
  hop : Int
  frag : Bool
  id : Int
  off : Int
  more : Bool
  exts : List Int
  data : List Int
def zeroV : IpV := ⟨0, (0, 0, 0), (0, 0, 0), 0, 0, false, 0, 0, false, [], []⟩
def ipCells (p : IpV) (vE vD : Value) : Array Value :=
  #[.int .i64 p.fam, .int .i64 p.src.1, .int .u64 p.src.2.1, .int .u64 p.src.2.2, .int .i64 p.dst.1, .int .u64 p.dst.2.1, .int .u64 p.dst.2.2, .int .i64 p.proto, .int .i64 p.hop, .bool p.frag, .int .u32 p.id, .int .i64 p.off, .bool p.more, vE, vD]
theorem ipCells_one (p : IpV) (A B : Option Addr) (n c m d : Nat) : (ipCells p (.slice A n c) (.slice B m d)).all (·.oneCell') = true := by simp [ipCells, Value.oneCell']
def least6 (n : Int) : Int := if n = 6 then 20 else if n = 17 ∨ n = 1 ∨ n = 58 then 8 else 0
def whole6 (proto : Int) (d : List Int) : Bool := decide ((walk6 proto d).2.2.2 = 0 ∧ least6 (walk6 proto d).1 ≤ ((walk6 proto d).2.2.1.length : Int))
def addrOf (l : List Int) : Int × Int × Int := ((fromA l).1, (fromA l).2.1, (fromA l).2.2.1)
def end6 (b : List Int) (r : Int × S6) : IpV × Int :=
  if r.1 ≠ 0 then (zeroV, r.1)
  else if (r.2.fr.getD (0, 0, false)).2.2 = true ∧ r.2.rest.length % 8 ≠ 0 then (zeroV, 5)
  else if r.2.fr.isSome = true ∧ 65535 < (r.2.fr.getD (0, 0, false)).2.1 + r.2.rest.length then (zeroV, 11)
  else if r.2.fr.isSome = true ∧ (r.2.fr.getD (0, 0, false)).2.1 = 0 ∧ whole6 r.2.next r.2.rest = false then (zeroV, 4)
  else (⟨6, addrOf ((b.drop 8).take 16), addrOf ((b.drop 24).take 16), r.2.next, rd b 7, r.2.fr.isSome, (r.2.fr.getD (0, 0, false)).1, (r.2.fr.getD (0, 0, false)).2.1, (r.2.fr.getD (0, 0, false)).2.2, r.2.exts, r.2.rest⟩, 0)
def parse6 (b : List Int) : IpV × Int :=
  if b.length < 40 then (zeroV, 2)
  else if rd b 0 / 16 ≠ 6 then (zeroV, 3)
  else if (b.length : Int) - 40 < u16 b 4 then (zeroV, 5)
  else if rd b 7 = 0 then (zeroV, 26)
  else end6 b (run6 true 9 ⟨rd b 6, (b.drop 40).take (u16 b 4).toNat, [], false, false, none⟩)
def IpPost (w : World) (r : IpV × Int) (e : Ending) (w' : World) : Prop :=
  ∃ vE vD : Value, e = .returned (.tuple #[.agg (ipCells r.1 vE vD), .int .i64 r.2]) ∧ Kd.R (Kd.int .i64) 3 w' w.heap.size (fun _ => True) vE r.1.exts ∧ Kd.R (Kd.int .u8) 5 w' w.heap.size (fun _ => True) vD r.1.data ∧ Below w.heap.size w w'
theorem run_lookup_ints1 {P : Program} (W : World) (mt kt et : TypeId) (h : P.underlying mt = some (.map kt et)) (hk : P.underlying kt = some (.int .i64)) (i0 : TypeInfo) (hi : P.info? et = some i0) (z : Value) (hz : i0.zero = some z) (r clock : Nat) (ks : List (Int × Value × Nat)) (hb : W.heap[r]? = some (.map (ints ks) clock)) (x : Int) :
    (Instr.lookup mt (.map (some r)) (.int .i64 x) false).run P W = .ok (match ks.findIdx? fun k => k.1 == x with | some j => (ks[j]?.map fun k => k.2.1).getD .nilIface | none => z) W := by
  have hf := find_ints _ x ks rfl 0
  simp only [Nat.zero_add] at hf
  have hg := Go.MapKept.run_getObj_map (P := P) hb
  have hc := fun e => Go.MapKept.run_checkKey (P := P) (w := W) (k := .int .i64 x) hk (by trivial) e 9999
  have hl : (ints ks).toList = ks.map fun k => (⟨.int .i64 k.1, k.2.1, k.2.2⟩ : MapEntry) := by simp [ints]
  have hfk := Go.MapKept.run_findKey (P := P) (w := W) hk hf
  have hzv : (zeroValue et).run P W = .ok z W := by simp [zeroValue, typeInfo, hi, hz]
  unfold Instr.lookup
  simp only [Sem.run_bind, run_underlying h, Result.andThen_ok, Sem.run_pure, hg, hc, hl, hfk]
  cases hh : ks.findIdx? (fun k => k.1 == x) with
  | none => simp [hzv]
  | some j => simp
def leasts : List (Int × Value × Nat) := [(6, .int .i64 20, 0), (17, .int .i64 8, 1), (1, .int .i64 8, 2), (58, .int .i64 8, 3)]
theorem least_found (x : Int) : (match leasts.findIdx? fun k => k.1 == x with | some j => (leasts[j]?.map fun k : Int × Value × Nat => k.2.1).getD Value.nilIface | none => Value.int .i64 0) = Value.int .i64 (least6 x) := by
  by_cases h6 : x = 6
  · subst h6; rfl
  · by_cases h17 : x = 17
    · subst h17; rfl
    · by_cases h1 : x = 1
      · subst h1; rfl
      · by_cases h58 : x = 58
        · subst h58; rfl
        · have b1 : ((6 : Int) == x) = false := by simp; omega
          have b2 : ((17 : Int) == x) = false := by simp; omega
          have b3 : ((1 : Int) == x) = false := by simp; omega
          have b4 : ((58 : Int) == x) = false := by simp; omega
          simp [leasts, List.findIdx?_cons, b1, b2, b3, b4, least6, h6, h17, h1, h58]
set_option maxHeartbeats 1000000 in
set_option maxRecDepth 100000 in
theorem Whole_at {w : World} {next : Int} {A : Option Addr} {n c : Nat} {l : List Int} (hr : (Kd.int .u8).C w A n l) (hc : n ≤ c) (hby : Bytes l) (hn : n ≤ 140737488355000) :
    Calls Try.prog 101 #[.int .i64 next, .slice A n c] w fun e w' => e = .returned (.bool (whole6 next l)) ∧ Below w.heap.size w w' := by
  have hcall := Walk_at (next := next) hr hc hby hn
  have hinv := walk6_inv (next := next) hby
  have hwh : whole6 next l = decide ((walk6 next l).2.2.2 = 0 ∧ least6 (walk6 next l).1 ≤ ((walk6 next l).2.2.1.length : Int)) := rfl
  rw [hwh]
  obtain ⟨m, E, D, e, hw⟩ : ∃ m E D e, walk6 next l = (m, E, D, e) := ⟨_, _, _, _, rfl⟩
  rw [hw] at hcall hinv ⊢
  have HC := Aside0.mk hcall
  have hmaps : ∀ w1 : World, Below w.heap.size w w1 → ∃ W4, (Instr.makeMap 178 none).run Try.prog w1 = .ok (.map (some w1.heap.size)) (w1.alloc (.map #[] 0)) ∧ ∃ W1 W2 W3, (Instr.mapUpdate 178 (.map (some w1.heap.size)) (.int .i64 6) (.int .i64 20)).run Try.prog (w1.alloc (.map #[] 0)) = .ok () W1 ∧ (Instr.mapUpdate 178 (.map (some w1.heap.size)) (.int .i64 17) (.int .i64 8)).run Try.prog W1 = .ok () W2 ∧ (Instr.mapUpdate 178 (.map (some w1.heap.size)) (.int .i64 1) (.int .i64 8)).run Try.prog W2 = .ok () W3 ∧ (Instr.mapUpdate 178 (.map (some w1.heap.size)) (.int .i64 58) (.int .i64 8)).run Try.prog W3 = .ok () W4 ∧ Below w.heap.size w W4 ∧ (Instr.lookup 178 (.map (some w1.heap.size)) (.int .i64 m) false).run Try.prog W4 = .ok (.int .i64 (least6 m)) W4 := fun w1 hb1 => by
    have hB0 : Below w.heap.size w (w1.alloc (.map #[] 0)) := below_alloc hb1 _
    have hz := hb1.size
    obtain ⟨W1, e1, h1, k1, hB1⟩ := insert_next 178 3 3 Try.underlying178 Try.underlying3 w1.heap.size 0 [] (W := w1.alloc (.map #[] 0)) (blk_at rfl) 6 (.int .i64 20) rfl hB0 hz
    obtain ⟨W2, e2, h2, k2, hB2⟩ := insert_next 178 3 3 Try.underlying178 Try.underlying3 w1.heap.size 1 _ h1 17 (.int .i64 8) rfl hB1 hz
    obtain ⟨W3, e3, h3, k3, hB3⟩ := insert_next 178 3 3 Try.underlying178 Try.underlying3 w1.heap.size 2 _ h2 1 (.int .i64 8) rfl hB2 hz
    obtain ⟨W4, e4, h4, k4, hB4⟩ := insert_next 178 3 3 Try.underlying178 Try.underlying3 w1.heap.size 3 _ h3 58 (.int .i64 8) rfl hB3 hz
    obtain ⟨i0, hi, hz0, hz1, hz2⟩ := info_parts info3
    have hlk := run_lookup_ints1 (P := Try.prog) W4 178 3 3 Try.underlying178 Try.underlying3 i0 hi _ hz0 w1.heap.size 4 leasts h4 m
    rw [least_found] at hlk
    exact ⟨W4, by rw [run_makeMap], W1, W2, W3, e1, e2, e3, e4, hB4, hlk⟩
  have HM := Aside0.mk hmaps
  have hn1 : D.length ≤ 140737488355000 := by have h1 : D.length ≤ l.length := hinv.2.2; have := hr.1; omega
  clear hcall hinv hwh hw hmaps hr hby
  by_cases h0 : e = 0
  · subst h0
    have HD : Aside0 (decide ((0 : Int) = 0 ∧ least6 m ≤ (D.length : Int)) = decide (least6 m ≤ (D.length : Int))) := ⟨by simp⟩
    go_enter Try.func101, Try.ntmps101
    go_wp2_with (fail)
    refine HC.out.mono ?_
    rintro e1 w1 ⟨vE, vD, rfl, hE, hD, hB⟩
    obtain ⟨Ad, cd, rfl, hcd, hCD⟩ := Kd.R_reads hD
    obtain ⟨W4, hmk, W1, W2, W3, e1, e2, e3, e4, hB4, hlk⟩ := HM.out w1 hB
    have HB4 := Aside0.mk hB4
    clear hE hD hCD hB hB4
    go_wp2
    go_ret
    exact ⟨by rw [HD.out]; rfl, HB4.out⟩
  · have hb : (e == 0) = false := by simpa using h0
    have HD : Aside0 (decide (e = 0 ∧ least6 m ≤ (D.length : Int)) = false) := ⟨by simp [h0]⟩
    clear h0
    go_enter Try.func101, Try.ntmps101
    go_wp2_with (fail)
    refine HC.out.mono ?_
    rintro e1 w1 ⟨vE, vD, rfl, hE, hD, hB⟩
    obtain ⟨Ad, cd, rfl, hcd, hCD⟩ := Kd.R_reads hD
    obtain ⟨W4, hmk, W1, W2, W3, e1, e2, e3, e4, hB4, hlk⟩ := HM.out w1 hB
    have HB4 := Aside0.mk hB4
    clear hE hD hCD hB hB4
    go_wp2
    go_ret
    exact ⟨by rw [HD.out]; rfl, HB4.out⟩
end Go.Proofs.Ytgifcmbknkjemaa.Own
end
