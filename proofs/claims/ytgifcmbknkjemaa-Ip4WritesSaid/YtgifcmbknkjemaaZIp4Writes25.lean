/- What the law Ip4Writes rests on, part 25: contracts of the functions that it calls, and plain lemmas. No condition. -/
import Derived.Test.YtgifcmbknkjemaaZIp4Writes24
section
namespace Go.Proofs.Ytgifcmbknkjemaa.Own
open Go Go.RowKit Go.Proofs.YtgifcmbknkjemaaW.PrintWords Go.Proofs.YtgifcmbknkjemaaW.PrintLast Go.Proofs.YtgifcmbknkjemaaW.PrintMore
set_option linter.unusedVariables false
set_option linter.unusedSimpArgs false
theorem bytes_build4 (p : IpV) (ok : IpOk p) : Bytes (build4 p).1 := by
  unfold build4
  split
  · have hh : Bytes (head4 p) := by
      unfold head4
      exact bytes_append (bytes_put16 (bytes_put16 (bytes_put16 (bytes_lit rfl) _) _) _) (bytes_two _ _)
    have he : Bytes (ends4 p) := bytes_append (bytes_bytesA _) (bytes_bytesA _)
    exact bytes_append (bytes_append (bytes_put16 hh _) he) ok.2.2.2.2
  · intro c hc; cases hc
set_option maxHeartbeats 2000000 in
set_option maxRecDepth 100000 in
theorem Ip4Writes_walk (w : World) (cs : List Value) (p : IpV) (hk : kdIp.K w p cs) (hg : GoodIp p) :
    Calls Try.prog 16 #[.agg cs.toArray] w fun e w' => e = .returned (.bool true) ∧ Below w.heap.size w w' := by
  obtain ⟨Ae, Ad, ce, cd, hcs, le, ld, he, hd⟩ := kdIp_cells hk
  rw [hcs]
  have hx := hg.exts
  have hy := hg.data
  obtain ⟨ne, hne⟩ : ∃ n, n = p.exts.length := ⟨_, rfl⟩
  obtain ⟨nd, hnd⟩ : ∃ n, n = p.data.length := ⟨_, rfl⟩
  rw [← hne] at le he hx ⊢
  rw [← hnd] at ld hd hy ⊢
  have HA : Aside0 (∀ W, Below w.heap.size w W → Calls Try.prog 67 #[.agg (ipCells p (.slice Ae ne ce) (.slice Ad nd cd))] W (BuildPost W (build4 p))) := ⟨fun W hW => Build4_at (Kd.C_below he hW) (Kd.C_below hd hW) le ld hg.ok⟩
  have HR : Aside0 (∀ W, Below w.heap.size w W → Calls Try.prog 68 #[.agg (ipCells p (.slice Ae ne ce) (.slice Ad nd cd))] W (BuildPost W (build4 p))) := ⟨fun W hW => rBuild4_at (Kd.C_below he hW) (Kd.C_below hd hW) le ld hg.ok (by omega)⟩
  have HBY := Aside0.mk (bytes_build4 p hg.ok)
  obtain ⟨B, E, hB⟩ : ∃ B E, build4 p = (B, E) := ⟨_, _, rfl⟩
  rw [hB] at HA HR HBY
  clear hk hcs hg hx hy hne hnd he hd hB
  go_enter Try.func16, Try.ntmps16
  go_wp2_with (refine wpList_load_row rfl 55 (.tmp 1) rfl w.heap.size rfl 55 (ipCells p (.slice Ae ne ce) (.slice Ad nd cd)) (0, 0) _ (blk_at rfl) Try.underlying55 rfl (by kernel_rfl) ?_)
  refine (HA.out _ (below_alloc (Below.refl _ _) _)).mono ?_
  rintro e1 w1 ⟨v, rfl, hv, hb1⟩
  obtain ⟨A1, c1, rfl, hc1, hC1⟩ := Kd.R_form hv rfl
  have HX1 := Aside0.mk ((hb1.block _ (by rw [size_alloc']; omega)).trans (blk_at (W := w) (o := .cells (ipCells p (.slice Ae ne ce) (.slice Ad nd cd)) 55) rfl))
  have B1 := Aside0.mk (below_then (below_alloc (Below.refl w.heap.size w) (.cells (ipCells p (.slice Ae ne ce) (.slice Ad nd cd)) 55)) (by rw [size_alloc']; omega) hb1)
  have C1 := Aside0.mk hC1
  clear hv hb1 hC1
  go_wp2_with (refine wpList_load_row rfl 55 (.tmp 1) rfl w.heap.size rfl 55 (ipCells p (.slice Ae ne ce) (.slice Ad nd cd)) (0, 0) _ HX1.out Try.underlying55 rfl (by kernel_rfl) ?_)
  refine (HR.out _ B1.out).mono ?_
  rintro e2 w2 ⟨v, rfl, hv, hb2⟩
  obtain ⟨A2, c2, rfl, hc2, hC2⟩ := Kd.R_form hv rfl
  have B2 := Aside0.mk (below_then B1.out B1.out.size hb2)
  have hS := SameB_at (Kd.C_below C1.out hb2) hC2 HBY.out HBY.out hc1 hc2
  rw [decide_eq_true rfl] at hS
  have HS := Aside0.mk hS
  clear hv hb2 hC2 hS HX1 C1 HBY HA HR
  go_wp2_with (fail)
  refine HS.out.mono ?_
  rintro e3 w3 ⟨rfl, hb3⟩
  have B3 := Aside0.mk (below_then B2.out B2.out.size hb3)
  clear hb3
  go_wp2_with (fail)
  refine (Alive3_at _).mono ?_
  rintro e5 w5 ⟨rfl, hb5⟩
  have F5 := Aside0.mk (below_then B3.out B3.out.size hb5)
  clear hb5
  go_wp2
  go_ret
  exact ⟨rfl, F5.out⟩
end Go.Proofs.Ytgifcmbknkjemaa.Own
end
