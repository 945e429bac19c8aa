/- What the law Ip4Writes rests on, part 24: contracts of the functions that it calls, and plain lemmas. No condition. -/
import Derived.Test.YtgifcmbknkjemaaZIp4Writes23
section
namespace Go.Proofs.Ytgifcmbknkjemaa.Own
open Go Go.RowKit Go.Proofs.YtgifcmbknkjemaaW.PrintWords Go.Proofs.YtgifcmbknkjemaaW.PrintLast Go.Proofs.YtgifcmbknkjemaaW.PrintMore
set_option linter.unusedVariables false
set_option linter.unusedSimpArgs false
theorem rMay4_at {w : World} {p : IpV} {Ae Ad : Option Addr} {ne nd ce cd : Nat} (h1 : (Kd.int .i64).C w Ae ne p.exts) (h2 : (Kd.int .u8).C w Ad nd p.data) (hce : ne ≤ ce) (hcd : nd ≤ cd) (ok : IpOk p) (hl : nd ≤ 140737488355328) :
    Calls Try.prog 118 #[.agg (ipCells p (.slice Ae ne ce) (.slice Ad nd cd))] w fun e w' => e = .returned (.bool (may4 p)) ∧ Below w.heap.size w w' := by
  have l1 := h1.1
  have l2 := h2.1
  subst l1 l2
  have h := rip4_may_some p ok.2.2.1 ok.2.2.2.1 hl 0
  exact QQ.stockaderef03_May.calls 1 _ _ _ _ _ _ _ _ _ _ _ _ _ Ae ce p.exts Ad cd p.data (may4 p) w h1 hce h2 hcd h
theorem rPut16_at {w : World} {A : Option Addr} {n c : Nat} {l : List Int} {x : Int} (hr : (Kd.int .u8).C w A n l) (hc : n ≤ c) (hl : n ≤ 140737488355000) :
    Calls Try.prog 47 #[.slice A n c, .int .i64 x] w fun e w' => ∃ v : Value, e = .returned v ∧ Kd.R (Kd.int .u8) 5 w' w.heap.size (fun _ => True) v (put16 l x) ∧ Below w.heap.size w w' := by
  have l1 := hr.1
  subst l1
  exact QQ.stockaderef01_Put16.calls A c l x (put16 l x) w hr hc (rput16_some x hl)
theorem rBytesA_at {w : World} {a : Int × Int × Int} (ha : okA a) :
    Calls Try.prog 119 #[.agg #[.int .i64 a.1, .int .u64 a.2.1, .int .u64 a.2.2]] w fun e w' => ∃ v : Value, e = .returned v ∧ Kd.R (Kd.int .u8) 5 w' w.heap.size (fun _ => True) v (bytesA a) ∧ Below w.heap.size w w' :=
  stockaderef02_Bytes.calls a.1 a.2.1 a.2.2 (bytesA a) w (rbytesA_some ha)
theorem R_C {k : IntKind} {e base n c : Nat} {ok : Nat → Prop} {w : World} {A : Option Addr} {xs : List Int} (h : Kd.R (Kd.int k) e w base ok (.slice A n c) xs) (hn : n = xs.length) : (Kd.int k).C w A n xs := by
  obtain ⟨A', c', hv, hc, hC⟩ := Kd.R_reads h
  injection hv with h1 h2 h3
  subst h1
  rw [hn]
  exact hC
set_option maxHeartbeats 4000000 in
set_option maxRecDepth 100000 in
theorem rBuild4_at {w : World} {p : IpV} {Ae Ad : Option Addr} {ne nd ce cd : Nat} (h1 : (Kd.int .i64).C w Ae ne p.exts) (h2 : (Kd.int .u8).C w Ad nd p.data) (hce : ne ≤ ce) (hcd : nd ≤ cd) (ok : IpOk p) (hl : nd ≤ 140737488351232) :
    Calls Try.prog 68 #[.agg (ipCells p (.slice Ae ne ce) (.slice Ad nd cd))] w (BuildPost w (build4 p)) := by
  have HM : Aside0 (∀ W, Below w.heap.size w W → Calls Try.prog 118 #[.agg (ipCells p (.slice Ae ne ce) (.slice Ad nd cd))] W fun e w' => e = .returned (.bool (may4 p)) ∧ Below W.heap.size W w') := ⟨fun W hW => rMay4_at (Kd.C_below h1 hW) (Kd.C_below h2 hW) hce hcd ok (by omega)⟩
  cases hm : may4 p with
  | false =>
    rw [hm] at HM
    have hb : build4 p = ([], 1) := by unfold build4; rw [hm]; rfl
    rw [hb]
    clear h1 h2 ok hm hb
    go_enter Try.func68, Try.ntmps68
    go_wp2_with (refine wpList_load_row rfl 55 (.tmp 1) rfl w.heap.size rfl 55 (ipCells p (.slice Ae ne ce) (.slice Ad nd cd)) (0, 0) _ (blk_at rfl) Try.underlying55 rfl (by kernel_rfl) ?_)
    refine (HM.out _ (below_alloc (Below.refl _ _) _)).mono ?_
    rintro e1 w1 ⟨rfl, hb1⟩
    have B1 := Aside0.mk (below_then (below_alloc (Below.refl w.heap.size w) (.cells (ipCells p (.slice Ae ne ce) (.slice Ad nd cd)) 55)) (by rw [size_alloc']; omega) hb1)
    clear hb1
    go_wp2
    go_ret2
    exact ⟨_, rfl, Kd.R_nil _ _ _ _ _, B1.out⟩
  | true =>
    rw [hm] at HM
    have m := may4_has hm
    have hlen := m.len
    obtain ⟨q, hq⟩ : ∃ q, q = bare4 p := ⟨_, rfl⟩
    have HBR : Aside0 (∀ W : World, Calls Try.prog 69 #[.agg (ipCells p (.slice Ae ne ce) (.slice Ad nd cd))] W fun e w' => e = .returned (.agg (ipCells q (.slice Ae ne ce) (.slice Ad nd cd))) ∧ Below W.heap.size W w') := ⟨fun W => by rw [hq]; exact Bare4_at W p _ _ ⟨_, _, _, rfl⟩ ⟨_, _, _, rfl⟩⟩
    have HD := Aside0.mk h2
    have HQ := Aside0.mk hq
    have HP := Aside0.mk (And.intro hm ok)
    clear hq h1 h2 hm ok m
    go_enter Try.func68, Try.ntmps68
    go_wp2_with (refine wpList_load_row rfl 55 (.tmp 1) rfl w.heap.size rfl 55 (ipCells p (.slice Ae ne ce) (.slice Ad nd cd)) (0, 0) _ (blk_at rfl) Try.underlying55 rfl (by kernel_rfl) ?_)
    refine (HM.out _ (below_alloc (Below.refl _ _) _)).mono ?_
    rintro e1 w1 ⟨rfl, hb1⟩
    have B1 := Aside0.mk (below_then (below_alloc (Below.refl w.heap.size w) (.cells (ipCells p (.slice Ae ne ce) (.slice Ad nd cd)) 55)) (by rw [size_alloc']; omega) hb1)
    have X1 := Aside0.mk ((hb1.block _ (by rw [size_alloc']; omega)).trans (blk_at (W := w) (o := .cells (ipCells p (.slice Ae ne ce) (.slice Ad nd cd)) 55) rfl))
    clear hb1 HM
    go_wp2_with (refine wpList_load_row rfl 55 (.tmp 1) rfl w.heap.size rfl 55 (ipCells p (.slice Ae ne ce) (.slice Ad nd cd)) (0, 0) _ X1.out Try.underlying55 rfl (by kernel_rfl) ?_)
    refine (HBR.out _).mono ?_
    rintro e2 w2 ⟨rfl, hb2⟩
    have B2 := Aside0.mk (below_then B1.out B1.out.size hb2)
    have X2 := Aside0.mk ((hb2.block _ (Array.getElem?_eq_some_iff.1 X1.out).1).trans X1.out)
    clear hb2 HBR X1 B1
    go_upto_region 4 with (refine wpList_store_row rfl 55 (.tmp 1) (.tmp 11) rfl w.heap.size (ipCells q (.slice Ae ne ce) (.slice Ad nd cd)) rfl rfl 55 _ X2.out (by kernel_rfl) rfl (ipCells_one _ _ _ _ _ _ _) ?_)
    obtain ⟨W3, hW3⟩ : ∃ W3, W3 = w2.setRow w.heap.size (ipCells q (.slice Ae ne ce) (.slice Ad nd cd)) := ⟨_, rfl⟩
    have X3 : Aside0 (W3.heap[w.heap.size]? = some (.cells (ipCells q (.slice Ae ne ce) (.slice Ad nd cd)) 55 (0, 0))) := ⟨by rw [hW3]; exact setRow_heap _ _ _ _ _ _ X2.out⟩
    have B3 : Aside0 (Below w.heap.size w W3) := ⟨by rw [hW3]; exact below_setRow B2.out (Nat.le_refl _) _⟩
    rw [← hW3]
    clear hW3 X2 B2
    have k3 : W3.cell? ⟨w.heap.size, 7, none⟩ = some (.int .i64 q.proto) := blk_cell X3.out 7
    have k12 : W3.cell? ⟨w.heap.size, 12, none⟩ = some (.bool q.more) := blk_cell X3.out 12
    have k11 : W3.cell? ⟨w.heap.size, 11, none⟩ = some (.int .i64 q.off) := blk_cell X3.out 11
    try go_frame
    have hb : (0 ≤ q.off ∧ q.off ≤ 65515) ∧ q.id = (if p.frag = true then p.id else 0) ∧ q.off / 8 + (if q.more = true then 8192 else 0) = (if p.frag = true then p.off / 8 + (if p.more = true then 8192 else 0) else 0) ∧ q.data = p.data ∧ q.src = p.src ∧ q.dst = p.dst ∧ q.proto = p.proto ∧ q.hop = p.hop := by
      have m := may4_has HP.out.1
      rw [HQ.out]
      unfold bare4
      split
      · exact ⟨⟨m.off.1, by have := m.off.2.2; omega⟩, rfl, rfl, rfl, rfl, rfl, rfl, rfl⟩
      · exact ⟨⟨Int.le_refl _, by show (0 : Int) ≤ 65515; omega⟩, rfl, rfl, rfl, rfl, rfl, rfl, rfl⟩
    have HB := Aside0.mk hb
    have EID : Aside0 (wrap64 q.id = q.id) := ⟨by
      have h := HP.out.2
      have h0 := h.1
      have h1 := h.2.1
      rw [hb.2.1]
      split
      · exact w64 _ (by omega) (by omega)
      · exact w64 _ (by omega) (by omega)⟩
    obtain ⟨D, hD⟩ : ∃ D : Int, D = q.off / 8 := ⟨_, rfl⟩
    have hDb : 0 ≤ D ∧ D < 8190 := by have := hb.1; omega
    have eD : wrap64 (q.off.tdiv 8) = D := by rw [tdiv8 hb.1.1, w64 _ (by omega) (by omega), hD]
    have eO : Go.bits .or .i64 D 8192 = D + 8192 := or8192 D hDb.1 (by omega)
    obtain ⟨O, hO⟩ : ∃ O : Int, O = D + (if q.more = true then 8192 else 0) := ⟨_, rfl⟩
    have HO := Aside0.mk (And.intro hD hO)
    clear hb hD
    have hO6 : 0 ≤ O ∧ O < 16384 := by rw [hO]; split <;> omega
    have j14 : ∀ W, Below W3.heap.size W3 W → W.cell? ⟨w.heap.size, 14, none⟩ = some (.slice Ad nd cd) := fun W hW => pw_cell_below hW (blk_cell X3.out 14)
    have j10 : ∀ W, Below W3.heap.size W3 W → W.cell? ⟨w.heap.size, 10, none⟩ = some (.int .u32 q.id) := fun W hW => pw_cell_below hW (blk_cell X3.out 10)
    have J14 := Aside0.mk j14
    have J10 := Aside0.mk j10
    have J1 : Aside0 (∀ W, Below W3.heap.size W3 W → W.cell? ⟨w.heap.size, 1, none⟩ = some (.int .i64 q.src.1)) := ⟨fun W hW => pw_cell_below hW (blk_cell X3.out 1)⟩
    have J2 : Aside0 (∀ W, Below W3.heap.size W3 W → W.cell? ⟨w.heap.size, 2, none⟩ = some (.int .u64 q.src.2.1)) := ⟨fun W hW => pw_cell_below hW (blk_cell X3.out 2)⟩
    have J3 : Aside0 (∀ W, Below W3.heap.size W3 W → W.cell? ⟨w.heap.size, 3, none⟩ = some (.int .u64 q.src.2.2)) := ⟨fun W hW => pw_cell_below hW (blk_cell X3.out 3)⟩
    have J4 : Aside0 (∀ W, Below W3.heap.size W3 W → W.cell? ⟨w.heap.size, 4, none⟩ = some (.int .i64 q.dst.1)) := ⟨fun W hW => pw_cell_below hW (blk_cell X3.out 4)⟩
    have J5 : Aside0 (∀ W, Below W3.heap.size W3 W → W.cell? ⟨w.heap.size, 5, none⟩ = some (.int .u64 q.dst.2.1)) := ⟨fun W hW => pw_cell_below hW (blk_cell X3.out 5)⟩
    have J6 : Aside0 (∀ W, Below W3.heap.size W3 W → W.cell? ⟨w.heap.size, 6, none⟩ = some (.int .u64 q.dst.2.2)) := ⟨fun W hW => pw_cell_below hW (blk_cell X3.out 6)⟩
    have J7 : Aside0 (∀ W, Below W3.heap.size W3 W → W.cell? ⟨w.heap.size, 7, none⟩ = some (.int .i64 q.proto)) := ⟨fun W hW => pw_cell_below hW (blk_cell X3.out 7)⟩
    have J8 : Aside0 (∀ W, Below W3.heap.size W3 W → W.cell? ⟨w.heap.size, 8, none⟩ = some (.int .i64 q.hop)) := ⟨fun W hW => pw_cell_below hW (blk_cell X3.out 8)⟩
    have k14 := j14 _ (below_alloc (Below.refl _ _) (.cells #[.int .u8 69, .int .u8 0] 5))
    have e20 : wrap64 (20 + (nd : Int)) = 20 + (nd : Int) := w64 _ (by omega) (by omega)
    clear j14 j10
    have hgo : ∀ b, q.more = b → (b = false ∧ O = D) ∨ (b = true ∧ O = D + 8192) := fun b hb => by
      subst hb
      rw [hO]
      cases q.more <;> simp
    clear hO
    rcases hgo _ rfl with ⟨hmo, hOD⟩ | ⟨hmo, hOD⟩
    all_goals clear hgo
    all_goals rw [hmo] at k12
    all_goals go_upto_region 7 with (fail)
    all_goals try go_frame
    all_goals rw [eD]
    all_goals try rw [eO]
    all_goals rw [← hOD]
    all_goals clear eD eO hDb k12 k11 hOD hmo k3
    all_goals go_wp2_with (fail)
    all_goals refine (rPut16_at (n := 2) (l := [69, 0]) (lit_nums (k := .u8) (blk_at rfl) rfl (by omega)) (Nat.le_refl _) (by omega)).mono ?_
    all_goals rintro e4 w4 ⟨v4, rfl, hv4, hb4⟩
    all_goals obtain ⟨l4, hl4⟩ : ∃ l, l = put16 [69, 0] (20 + (nd : Int)) := ⟨_, rfl⟩
    all_goals rw [← hl4] at hv4
    all_goals obtain ⟨A4, c4, rfl, hc4, hC4⟩ := Kd.R_form hv4 (show l4.length = 4 by rw [hl4, put16_len]; rfl)
    all_goals have B4 := Aside0.mk (below_then (below_alloc (Below.refl W3.heap.size W3) _) (by rw [size_alloc']; omega) hb4)
    all_goals have C4 := Aside0.mk hC4
    all_goals have L4 := Aside0.mk hl4
    all_goals clear hv4 hC4 hb4 k14 e20 hl4
    all_goals have k10 := J10.out _ B4.out
    all_goals go_wp2_with (fail)
    all_goals refine (rPut16_at C4.out hc4 (by omega)).mono ?_
    all_goals rintro e5 w5 ⟨v5, rfl, hv5, hb5⟩
    all_goals obtain ⟨l5, hl5⟩ : ∃ l, l = put16 l4 q.id := ⟨_, rfl⟩
    all_goals rw [EID.out, ← hl5] at hv5
    all_goals obtain ⟨A5, c5, rfl, hc5, hC5⟩ := Kd.R_form hv5 (show l5.length = 6 by rw [hl5, put16_len, L4.out, put16_len]; rfl)
    all_goals have B5 := Aside0.mk (below_then B4.out B4.out.size hb5)
    all_goals have C5 := Aside0.mk hC5
    all_goals have L5 := Aside0.mk (And.intro hl5 L4.out)
    all_goals clear hv5 hC5 hb5 k10 hl5 B4 C4 L4
    all_goals go_wp2_with (fail)
    all_goals refine (rPut16_at C5.out hc5 (by omega)).mono ?_
    all_goals rintro e6 w6 ⟨v6, rfl, hv6, hb6⟩
    all_goals obtain ⟨l6, hl6⟩ : ∃ l, l = put16 l5 O := ⟨_, rfl⟩
    all_goals rw [← hl6] at hv6
    all_goals obtain ⟨A6, c6, hvv, hc6, hC6⟩ := Kd.R_form hv6 (show l6.length = 8 by rw [hl6, put16_len, L5.out.1, put16_len, L5.out.2, put16_len]; rfl)
    all_goals subst hvv
    all_goals have B6 := Aside0.mk (below_then B5.out B5.out.size hb6)
    all_goals have R6 := Aside0.mk (Kd.R_lower hv6 B5.out.size)
    all_goals have L6 := Aside0.mk (And.intro hl6 L5.out)
    all_goals clear hv6 hC6 hb6 hl6 B5 C5 L5
    all_goals have k8 := J8.out _ B6.out
    all_goals have k7 := J7.out _ B6.out
    all_goals have hl6' : l6.length = 8 := by rw [L6.out.1, put16_len, L6.out.2.1, put16_len, L6.out.2.2, put16_len]; rfl
    all_goals have HL6 := Aside0.mk hl6'
    all_goals clear hl6'
    all_goals go_upto_region 12 with (at_builtin; refine Kd.R_append_rows (Kd.int .u8) (w0 := W3) W3.heap.size rfl (.tmp 34) (.tmp 41) 27 5 (.int .u8 0) 1 rfl Try.underlying27 info5 rfl (by decide) (by omega) (.slice A6 8 c6) l6 [q.hop % 256, q.proto % 256] _ _ _ (fun _ => True) (fun _ => False) rfl rfl (Kd.R_alloc R6.out _) (lit_nums (k := .u8) (blk_at rfl) rfl (by omega)) (fun _ _ h => h) (fun _ h => h.elim) (fun _ _ => trivial) (below_alloc B6.out _) (by rw [size_alloc']; have := B6.out.size; omega) (by have := HL6.out; omega) ?_; intro v7 w7 ho hb hg hat; clear hg hat; obtain ⟨l7, hl7⟩ : ∃ l, l = l6 ++ [q.hop % 256, q.proto % 256] := ⟨_, rfl⟩; rw [← hl7] at ho; obtain ⟨A7, c7, hvv, hc7, hC7⟩ := Kd.R_form ho (show l7.length = 10 by rw [hl7, List.length_append, HL6.out]; rfl); subst hvv; have R7 := Aside0.mk ho; have B7 := Aside0.mk hb; have L7 := Aside0.mk (And.intro hl7 L6.out); clear ho hb hl7 hC7)
    all_goals try go_frame
    all_goals obtain ⟨LS, hLS⟩ : ∃ l, l = bytesA q.src := ⟨_, rfl⟩
    all_goals obtain ⟨LD, hLD⟩ : ∃ l, l = bytesA q.dst := ⟨_, rfl⟩
    all_goals obtain ⟨nS, hnS⟩ : ∃ n, n = LS.length := ⟨_, rfl⟩
    all_goals obtain ⟨nD, hnD⟩ : ∃ n, n = LD.length := ⟨_, rfl⟩
    all_goals have hqok : okA q.src ∧ okA q.dst := ⟨by rw [HB.out.2.2.2.2.1]; exact HP.out.2.2.2.1, by rw [HB.out.2.2.2.2.2.1]; exact HP.out.2.2.2.2.1⟩
    all_goals have HS : Aside0 (∀ W, Calls Try.prog 119 #[.agg #[.int .i64 q.src.1, .int .u64 q.src.2.1, .int .u64 q.src.2.2]] W fun e w' => ∃ A c, e = .returned (.slice A nS c) ∧ nS ≤ c ∧ Kd.R (Kd.int .u8) 5 w' W.heap.size (fun _ => True) (.slice A nS c) LS ∧ Below W.heap.size W w') := ⟨fun W => (rBytesA_at hqok.1).mono fun e w' ⟨v, g1, g2, g3⟩ => by
      rw [← hLS] at g2
      obtain ⟨A, c, rfl, hc, hC⟩ := Kd.R_form g2 hnS.symm
      exact ⟨A, c, g1, hc, g2, g3⟩⟩
    all_goals have HT : Aside0 (∀ W, Calls Try.prog 119 #[.agg #[.int .i64 q.dst.1, .int .u64 q.dst.2.1, .int .u64 q.dst.2.2]] W fun e w' => ∃ A c, e = .returned (.slice A nD c) ∧ nD ≤ c ∧ Kd.R (Kd.int .u8) 5 w' W.heap.size (fun _ => True) (.slice A nD c) LD ∧ Below W.heap.size W w') := ⟨fun W => (rBytesA_at hqok.2).mono fun e w' ⟨v, g1, g2, g3⟩ => by
      rw [← hLD] at g2
      obtain ⟨A, c, rfl, hc, hC⟩ := Kd.R_form g2 hnD.symm
      exact ⟨A, c, g1, hc, g2, g3⟩⟩
    all_goals have hlD : nS ≤ 16 ∧ nD ≤ 16 := ⟨by rw [hnS, hLS]; exact bytesA_le _, by rw [hnD, hLD]; exact bytesA_le _⟩
    all_goals have HLN := Aside0.mk (And.intro hlD (And.intro hnS (And.intro hnD (And.intro hLS hLD))))
    all_goals have HJ : Aside0 (∀ W, Below W3.heap.size W3 W → (W.cell? ⟨w.heap.size, 1, none⟩ = some (.int .i64 q.src.1) ∧ W.cell? ⟨w.heap.size, 2, none⟩ = some (.int .u64 q.src.2.1) ∧ W.cell? ⟨w.heap.size, 3, none⟩ = some (.int .u64 q.src.2.2) ∧ W.cell? ⟨w.heap.size, 4, none⟩ = some (.int .i64 q.dst.1) ∧ W.cell? ⟨w.heap.size, 5, none⟩ = some (.int .u64 q.dst.2.1) ∧ W.cell? ⟨w.heap.size, 6, none⟩ = some (.int .u64 q.dst.2.2))) := ⟨fun W hW => ⟨J1.out W hW, J2.out W hW, J3.out W hW, J4.out W hW, J5.out W hW, J6.out W hW⟩⟩
    all_goals have c7q := HJ.out _ B7.out
    all_goals have c7d := HJ.out _ (below_drew B7.out)
    all_goals clear hlD hnS hnD hLS hLD hqok J1 J2 J3 J4 J5 J6 k7 k8
    all_goals
      go_cut [6] (fun v wc => ∃ A c, v = .slice A (nS + nD) c ∧ nS + nD ≤ c ∧ Kd.C (Kd.int .u8) wc A (nS + nD) (LS ++ LD) ∧ Below w7.heap.size w7 wc)
      case first =>
        go_region_held3 (fun w' => w'.cell? ⟨w.heap.size, 1, none⟩ = some (.int .i64 q.src.1) ∧ w'.cell? ⟨w.heap.size, 2, none⟩ = some (.int .u64 q.src.2.1) ∧ w'.cell? ⟨w.heap.size, 3, none⟩ = some (.int .u64 q.src.2.2) ∧ w'.cell? ⟨w.heap.size, 4, none⟩ = some (.int .i64 q.dst.1) ∧ w'.cell? ⟨w.heap.size, 5, none⟩ = some (.int .u64 q.dst.2.1) ∧ w'.cell? ⟨w.heap.size, 6, none⟩ = some (.int .u64 q.dst.2.2)) (first | with_reducible exact c7q | with_reducible exact c7d | with_reducible exact HJ.out _ BV.out | with_reducible exact HJ.out _ BW.out | with_reducible exact HJ.out _ BX.out) ((first | (refine Kd.R_append_rows_step (Kd.int .u8) (w0 := w7) (W := wD) w7.heap.size ?hw (.tmp 45) (.tmp 48) 27 5 (.int .u8 0) 1 rfl Try.underlying27 info5 rfl (by decide) (by omega) (.slice AS nS cS) LS LD AD nD cD (fun _ => True) (fun _ => False) rfl rfl ?hO ?hR (fun _ _ h => h) (fun _ h => h.elim) (fun _ _ => trivial) ?hB ?hbase ?hl ?_; (case hw => rfl); (case hO => exact Kd.R_lower (Kd.R_below RS.out BD.out) (Nat.le_refl _)); (case hR => exact R_C RD.out HLN.out.2.2.1); (case hB => exact below_then (below_drew (Below.refl _ _)) (Nat.le_refl _) (below_then BS.out BS.out.size BD.out)); (case hbase => exact Nat.le_trans BS.out.size BD.out.size); (case hl => have h1 := HLN.out.1; have h2 := HLN.out.2.1; omega); intro v9 w9 ho hb hg hat; clear hg hat; have R9 := Aside0.mk ho; have B9 := Aside0.mk hb; have BX := Aside0.mk (below_then B7.out B7.out.size hb); clear ho hb) | (go_at_call 119; have hz := BS.out; clear hz; refine (HT.out _).mono ?_; rintro eD wD ⟨AD, cD, rfl, hcD, hRD, hbD⟩; have RD := Aside0.mk hRD; have BD := Aside0.mk hbD; have BW : Aside0 (Below W3.heap.size W3 wD) := ⟨below_then BV.out BV.out.size hbD⟩; clear hRD hbD) | (go_at_call 119; refine (HS.out _).mono ?_; rintro eS wS ⟨AS, cS, rfl, hcS, hRS, hbS⟩; have RS := Aside0.mk hRS; have BS := Aside0.mk hbS; have BV : Aside0 (Below W3.heap.size W3 wS) := ⟨below_then (below_drew B7.out) B7.out.size hbS⟩; clear hRS hbS)))
        all_goals (go_wp2; go_meet)
        all_goals
          obtain ⟨A9, c9, hv9, hc9, hC9⟩ := Kd.R_form R9.out (show (LS ++ LD).length = nS + nD by rw [List.length_append, ← HLN.out.2.1, ← HLN.out.2.2.1])
          exact ⟨A9, c9, hv9, hc9, hC9, B9.out⟩
      case rest =>
        obtain ⟨A9, c9, rfl, hc9, hC9, hb9⟩ := hcut
        obtain ⟨nE, hnE⟩ : ∃ n, n = nS + nD := ⟨_, rfl⟩
        obtain ⟨LE, hLE⟩ : ∃ l, l = LS ++ LD := ⟨_, rfl⟩
        rw [← hnE, ← hLE] at hC9
        rw [← hnE] at hc9 ⊢
        have hlE : nE ≤ 32 := by have := HLN.out.1; omega
        have C9 := Aside0.mk hC9
        have C7 := Aside0.mk (R_C (Kd.R_below R7.out hb9) (show 10 = l7.length by rw [L7.out.1, List.length_append, HL6.out]; rfl))
        have R7' := Aside0.mk (Kd.R_below R7.out hb9)
        have BE := Aside0.mk (below_then B7.out B7.out.size hb9)
        have hby : Parts [l7, LE] := by
          intro x hx
          rcases List.mem_cons.1 hx with rfl | hx
          · rw [L7.out.1, L7.out.2.1, L7.out.2.2.1, L7.out.2.2.2]
            exact ⟨bytes_append (bytes_put16 (bytes_put16 (bytes_put16 (bytes_lit rfl) _) _) _) (bytes_two _ _), by rw [← L7.out.2.2.2, ← L7.out.2.2.1, ← L7.out.2.1, List.length_append, HL6.out]; simp⟩
          · obtain rfl : x = LE := by simpa using hx
            exact ⟨by rw [hLE, HLN.out.2.2.2.1, HLN.out.2.2.2.2]; exact bytes_append (bytes_bytesA _) (bytes_bytesA _), by have := hC9.1; omega⟩
        have hsum : stockaderef01_Sum.f [l7, LE] = some (sumOf [l7, LE]) := if_pos (okP_iff.2 ⟨by simp, hby⟩)
        obtain ⟨S, hS⟩ : ∃ S, S = sumOf [l7, LE] := ⟨_, rfl⟩
        have hSb := sumOf_bounds [l7, LE]
        rw [← hS] at hsum hSb
        have HSM := Aside0.mk (And.intro hsum hS)
        have HE := Aside0.mk hLE
        clear hC9 hby hsum hS hb9 hnE hLE
        go_wp2_with (fail)
        refine (stockaderef01_Sum.calls (some ⟨wc.heap.size, 0, none⟩) 2 [l7, LE] S _ (parts_two (blk_at rfl) (Kd.C_alloc C7.out _) hc7 (Kd.C_alloc C9.out _) hc9) (Nat.le_refl _) HSM.out.1).mono ?_
        rintro e10 w10 ⟨rfl, hd10⟩
        have B10 := Aside0.mk (below_then (below_alloc (Below.refl wc.heap.size wc) (.cells #[.slice A7 10 c7, .slice A9 nE c9] 27)) (by rw [size_alloc']; omega) hd10.below)
        clear hd10
        have eS : wrap64 (65535 - S) = 65535 - S := w64 _ (by omega) (by omega)
        go_wp2_with (fail)
        refine (rPut16_at (Kd.C_below C7.out B10.out) hc7 (by omega)).mono ?_
        rintro e11 w11 ⟨v11, rfl, hv11, hb11⟩
        obtain ⟨l11, hl11⟩ : ∃ l, l = put16 l7 (65535 - S) := ⟨_, rfl⟩
        rw [← hl11] at hv11
        have hln11 : l11.length = 12 := by rw [hl11, put16_len, C7.out.1]
        obtain ⟨A11, c11, hvv, hc11, _⟩ := Kd.R_form hv11 hln11
        subst hvv
        have B11 := Aside0.mk (below_then BE.out BE.out.size (below_then B10.out B10.out.size hb11))
        have R11 := Aside0.mk (Kd.R_lower hv11 (show W3.heap.size ≤ w10.heap.size from Nat.le_trans BE.out.size B10.out.size))
        have C9' := Aside0.mk (Kd.C_below C9.out (below_then B10.out B10.out.size hb11))
        have L11 := Aside0.mk (And.intro hl11 hln11)
        have HEL : Aside0 (LE.length = nE) := ⟨C9.out.1⟩
        clear hv11 hb11 hl11 hln11 B10 C7 C9 R7' BE eS
        go_upto_region 15 with (at_builtin; refine Kd.R_append_rows (Kd.int .u8) (w0 := W3) W3.heap.size rfl (.tmp 57) (.tmp 58) 27 5 (.int .u8 0) 1 rfl Try.underlying27 info5 rfl (by decide) (by omega) (.slice A11 12 c11) l11 LE _ _ _ (fun _ => True) (fun _ => False) rfl rfl R11.out C9'.out (fun _ _ h => h) (fun _ h => h.elim) (fun _ _ => trivial) B11.out B11.out.size (by have := L11.out.2; omega) ?_; intro v12 w12 ho hb hg hat; clear hg hat; obtain ⟨A12, c12, hvv, hc12, hC12⟩ := Kd.R_form (n := 12 + nE) ho (by rw [List.length_append, L11.out.2, HEL.out]); subst hvv; have R12 := Aside0.mk ho; have B12 := Aside0.mk hb; clear ho hb hC12)
        have k14 := J14.out _ B12.out
        have HDW := Aside0.mk (Kd.C_below HD.out (below_then B3.out B3.out.size B12.out))
        have HBW := Aside0.mk (below_then B3.out B3.out.size B12.out)
        go_wp2_with (at_builtin; refine Kd.R_append_rows (Kd.int .u8) (w0 := W3) W3.heap.size rfl (.tmp 60) (.tmp 62) 27 5 (.int .u8 0) 1 rfl Try.underlying27 info5 rfl (by decide) (by omega) (.slice A12 (12 + nE) c12) (l11 ++ LE) p.data _ _ _ (fun _ => True) (fun _ => False) rfl rfl R12.out HDW.out (fun _ _ h => h) (fun _ h => h.elim) (fun _ _ => trivial) B12.out B12.out.size (by rw [List.length_append, L11.out.2, HEL.out]; omega) ?_; intro v13 w13 ho hb hg hat; clear hg hat; have R13 := Aside0.mk ho; have B13 := Aside0.mk hb; clear ho hb)
        have hfin : build4 p = (l11 ++ LE ++ p.data, 0) := by
          have hh : head4 p = l7 := by
            unfold head4
            rw [L7.out.1, L7.out.2.1, L7.out.2.2.1, L7.out.2.2.2, ← HB.out.2.1, HO.out.2, HO.out.1, HB.out.2.2.1, ← HD.out.1, HB.out.2.2.2.2.2.2.1, HB.out.2.2.2.2.2.2.2]
          have he : ends4 p = LE := by
            unfold ends4
            rw [HE.out, HLN.out.2.2.2.1, HLN.out.2.2.2.2, HB.out.2.2.2.2.1, HB.out.2.2.2.2.2.1]
          unfold build4
          rw [if_pos HP.out.1, hh, he, L11.out.1, HSM.out.2]
        have HF := Aside0.mk hfin
        clear hfin
        go_ret2
        exact ⟨v13, by rw [HF.out]; rfl, by rw [HF.out]; exact Kd.R_lower R13.out B3.out.size, below_then B3.out B3.out.size B13.out⟩
end Go.Proofs.Ytgifcmbknkjemaa.Own
end
