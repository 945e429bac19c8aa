/- What the law Ip6Behind rests on, part 15: contracts of the functions that it calls, and plain lemmas. No condition. -/
import Derived.Test.YtgifcmbknkjemaaZIp6Behind14
section
namespace Go.Proofs.Ytgifcmbknkjemaa.Own
open Go Go.RowKit Go.Proofs.YtgifcmbknkjemaaW.PrintWords Go.Proofs.YtgifcmbknkjemaaW.PrintLast Go.Proofs.YtgifcmbknkjemaaW.PrintMore
set_option linter.unusedVariables false
set_option linter.unusedSimpArgs false
set_option maxHeartbeats 2000000 in
set_option maxRecDepth 100000 in
theorem SameIp_at {w : World} {p : IpV} {Ae Be Ad Bd : Option Addr} {ce de cd dd : Nat} (h1 : (Kd.int .i64).C w Ae p.exts.length p.exts) (h2 : (Kd.int .i64).C w Be p.exts.length p.exts) (h3 : (Kd.int .u8).C w Ad p.data.length p.data) (h4 : (Kd.int .u8).C w Bd p.data.length p.data) (hby : Bytes p.data) (hl : p.exts.length ≤ 1000000000) (hcd : p.data.length ≤ cd) (hdd : p.data.length ≤ dd) :
    Calls Try.prog 57 #[.agg (ipCells p (.slice Ae p.exts.length ce) (.slice Ad p.data.length cd)), .agg (ipCells p (.slice Be p.exts.length de) (.slice Bd p.data.length dd))] w fun e w' => e = .returned (.bool true) ∧ Below w.heap.size w w' := by
  obtain ⟨fam, src, dst, proto, hop, frag, id, off, more, exts, data⟩ := p
  obtain ⟨s1, s2, s3⟩ := src
  obtain ⟨t1, t2, t3⟩ := dst
  obtain ⟨n, hn⟩ : ∃ n, n = exts.length := ⟨_, rfl⟩
  obtain ⟨m, hm⟩ : ∃ m, m = data.length := ⟨_, rfl⟩
  unfold ipCells
  simp only at h1 h2 h3 h4 hby hl hcd hdd ⊢
  rw [← hn] at h1 h2 hl ⊢
  rw [← hm] at h3 h4 hcd hdd ⊢
  have hw : ∀ W, Below w.heap.size w W → Calls Try.prog 46 #[.slice Ad m cd, .slice Bd m dd] W fun e w' => e = .returned (.bool true) ∧ ∃ k, w' = W.drewN k := fun W hW => by
    have a := Kd.C_below h3 hW
    have b := Kd.C_below h4 hW
    rw [hm] at a b hcd hdd ⊢
    refine (stockaderef01_Same.calls Ad cd data Bd dd data true W a hcd b hdd ?_).mono fun e w' h => ⟨h.1, h.2.out⟩
    unfold stockaderef01_Same.f
    rw [if_pos ⟨okB_iff.2 hby, okB_iff.2 hby⟩]
    simp
  have HW := Aside0.mk hw
  have H1 := Aside0.mk h1
  have H2 := Aside0.mk h2
  clear hw h1 h2 h3 h4 hby hn hm hcd hdd
  have hnm : n ≤ 9223372036854775807 := by omega
  go_enter Try.func57, Try.ntmps57
  go_wp2
  go_loopw [5] (fun i wr => ∃ k : Nat, k ≤ n ∧ i = .int .i64 k ∧ Aside0 (wr.heap[w.heap.size]? = some (.cells (ipCells ⟨fam, (s1, s2, s3), (t1, t2, t3), proto, hop, frag, id, off, more, exts, data⟩ (.slice Ae n ce) (.slice Ad m cd)) 55 (0, 0))) ∧ Aside0 (wr.heap[w.heap.size + 1]? = some (.cells (ipCells ⟨fam, (s1, s2, s3), (t1, t2, t3), proto, hop, frag, id, off, more, exts, data⟩ (.slice Be n de) (.slice Bd m dd)) 55 (0, 0))) ∧ Aside0 (Below w.heap.size w wr)) (fun i _ => n - (intOf i).toNat)
  case atStart => exact ⟨0, Nat.zero_le _, rfl, ⟨blk_alloc (blk_at rfl) _⟩, ⟨blk_at (W := w.alloc _) (by simp)⟩, ⟨below_alloc (below_alloc (Below.refl _ _) _) _⟩⟩
  case round =>
    obtain ⟨k, hk, rfl, HA, HB, HBel⟩ := hrel
    have a13 : wr.cell? ⟨w.heap.size, 13, none⟩ = some (.slice Ae n ce) := blk_cell HA.out 13
    have b13 : wr.cell? ⟨w.heap.size + 1, 13, none⟩ = some (.slice Be n de) := blk_cell HB.out 13
    by_cases hlt : k < n
    · obtain ⟨ae, rfl, ea⟩ := Kd.at_int (Kd.C_below H1.out HBel.out) (k : Int) (by omega) (by omega)
      obtain ⟨be', rfl, eb⟩ := Kd.at_int (Kd.C_below H2.out HBel.out) (k : Int) (by omega) (by omega)
      rw [Int.toNat_natCast] at ea eb
      obtain ⟨v, hv⟩ : ∃ v, v = rd exts (k : Int) := ⟨_, rfl⟩
      rw [← hv] at ea eb
      have q0 : (0 : Int) ≤ (k : Int) := by omega
      have q1 : (k : Int) < (n : Int) := by omega
      have e1 : IntKind.i64.wrap ((k : Int) + 1) = (k : Int) + 1 := wraps_i64 _ (by omega) (by omega)
      clear hv
      go_wp2
      go_quiet (fail)
      go_wp2
      go_roundw
      case rel => exact ⟨k + 1, by omega, by go_num, HA, HB, ⟨pw_below_drewN HBel.out _⟩⟩
      case measure => simp [intOf]; omega
    · have q1 : (n : Int) ≤ (k : Int) := by omega
      have q2 : ¬ (k : Int) < (n : Int) := by omega
      have a0 : wr.cell? ⟨w.heap.size, 0, none⟩ = some (.int .i64 fam) := blk_cell HA.out 0
      have a1 : wr.cell? ⟨w.heap.size, 1, none⟩ = some (.int .i64 s1) := blk_cell HA.out 1
      have a2 : wr.cell? ⟨w.heap.size, 2, none⟩ = some (.int .u64 s2) := blk_cell HA.out 2
      have a3 : wr.cell? ⟨w.heap.size, 3, none⟩ = some (.int .u64 s3) := blk_cell HA.out 3
      have a4 : wr.cell? ⟨w.heap.size, 4, none⟩ = some (.int .i64 t1) := blk_cell HA.out 4
      have a5 : wr.cell? ⟨w.heap.size, 5, none⟩ = some (.int .u64 t2) := blk_cell HA.out 5
      have a6 : wr.cell? ⟨w.heap.size, 6, none⟩ = some (.int .u64 t3) := blk_cell HA.out 6
      have a7 : wr.cell? ⟨w.heap.size, 7, none⟩ = some (.int .i64 proto) := blk_cell HA.out 7
      have a8 : wr.cell? ⟨w.heap.size, 8, none⟩ = some (.int .i64 hop) := blk_cell HA.out 8
      have a9 : wr.cell? ⟨w.heap.size, 9, none⟩ = some (.bool frag) := blk_cell HA.out 9
      have a10 : wr.cell? ⟨w.heap.size, 10, none⟩ = some (.int .u32 id) := blk_cell HA.out 10
      have a11 : wr.cell? ⟨w.heap.size, 11, none⟩ = some (.int .i64 off) := blk_cell HA.out 11
      have a12 : wr.cell? ⟨w.heap.size, 12, none⟩ = some (.bool more) := blk_cell HA.out 12
      have a14 : wr.cell? ⟨w.heap.size, 14, none⟩ = some (.slice Ad m cd) := blk_cell HA.out 14
      have b0 : wr.cell? ⟨w.heap.size + 1, 0, none⟩ = some (.int .i64 fam) := blk_cell HB.out 0
      have b1 : wr.cell? ⟨w.heap.size + 1, 1, none⟩ = some (.int .i64 s1) := blk_cell HB.out 1
      have b2 : wr.cell? ⟨w.heap.size + 1, 2, none⟩ = some (.int .u64 s2) := blk_cell HB.out 2
      have b3 : wr.cell? ⟨w.heap.size + 1, 3, none⟩ = some (.int .u64 s3) := blk_cell HB.out 3
      have b4 : wr.cell? ⟨w.heap.size + 1, 4, none⟩ = some (.int .i64 t1) := blk_cell HB.out 4
      have b5 : wr.cell? ⟨w.heap.size + 1, 5, none⟩ = some (.int .u64 t2) := blk_cell HB.out 5
      have b6 : wr.cell? ⟨w.heap.size + 1, 6, none⟩ = some (.int .u64 t3) := blk_cell HB.out 6
      have b7 : wr.cell? ⟨w.heap.size + 1, 7, none⟩ = some (.int .i64 proto) := blk_cell HB.out 7
      have b8 : wr.cell? ⟨w.heap.size + 1, 8, none⟩ = some (.int .i64 hop) := blk_cell HB.out 8
      have b9 : wr.cell? ⟨w.heap.size + 1, 9, none⟩ = some (.bool frag) := blk_cell HB.out 9
      have b10 : wr.cell? ⟨w.heap.size + 1, 10, none⟩ = some (.int .u32 id) := blk_cell HB.out 10
      have b11 : wr.cell? ⟨w.heap.size + 1, 11, none⟩ = some (.int .i64 off) := blk_cell HB.out 11
      have b12 : wr.cell? ⟨w.heap.size + 1, 12, none⟩ = some (.bool more) := blk_cell HB.out 12
      have b14 : wr.cell? ⟨w.heap.size + 1, 14, none⟩ = some (.slice Bd m dd) := blk_cell HB.out 14
      go_wp2_with (go_at_call 46; refine (HW.out _ HBel.out).mono ?_; rintro e w' ⟨rfl, q, rfl⟩)
      go_ret
      exact ⟨rfl, pw_below_drewN HBel.out _⟩
theorem parse6_inv {b : List Int} (hb : Bytes b) : (parse6 b).1.exts.length ≤ 8 ∧ Bytes (parse6 b).1.data ∧ (parse6 b).1.data.length ≤ b.length := by
  have hz : (zeroV.exts.length ≤ 8 ∧ Bytes zeroV.data ∧ zeroV.data.length ≤ b.length) := ⟨by show 0 ≤ 8; omega, fun y hy => by simp [zeroV] at hy, Nat.zero_le _⟩
  have h := run6_inv true 9 ⟨rd b 6, (b.drop 40).take (u16 b 4).toNat, [], false, false, none⟩ (by show 0 ≤ 8; omega) (fun y hy => hb y (List.mem_of_mem_drop (List.mem_of_mem_take hy)))
  have h2 : ((b.drop 40).take (u16 b 4).toNat).length ≤ b.length := by rw [List.length_take, List.length_drop]; omega
  unfold parse6
  split
  · exact hz
  split
  · exact hz
  split
  · exact hz
  split
  · exact hz
  unfold end6
  split
  · exact hz
  split
  · exact hz
  split
  · exact hz
  split
  · exact hz
  exact ⟨h.1, h.2.1, Nat.le_trans h.2.2 h2⟩
end Go.Proofs.Ytgifcmbknkjemaa.Own
end
section
namespace Go.Proofs.Ytgifcmbknkjemaa.Own
open Go Go.RowKit Go.Proofs.YtgifcmbknkjemaaW.PrintWords Go.Proofs.YtgifcmbknkjemaaW.PrintLast Go.Proofs.YtgifcmbknkjemaaW.PrintMore
set_option linter.unusedVariables false
set_option linter.unusedSimpArgs false
theorem rd_app {a b : List Int} {i : Int} (h0 : 0 ≤ i) (h : i < a.length) : rd (a ++ b) i = rd a i := by
  unfold rd
  rw [List.getD_eq_getElem?_getD, List.getD_eq_getElem?_getD, List.getElem?_append_left (by omega)]
theorem u16_app {a b : List Int} {i : Int} (h0 : 0 ≤ i) (h : i + 1 < a.length) : u16 (a ++ b) i = u16 a i := by
  unfold u16
  rw [rd_app h0 (by omega), rd_app (by omega) (by omega)]
theorem mid_app {a b : List Int} {o m : Nat} (h : o + m ≤ a.length) : ((a ++ b).drop o).take m = (a.drop o).take m := by
  rw [List.drop_append_of_le_length (by omega), List.take_append_of_le_length (by rw [List.length_drop]; omega)]
theorem parse6_behind {b m : List Int} (hb : Bytes b) (h : (parse6 b).2 = 0) : parse6 (b ++ m) = parse6 b := by
  have hu := u16_bounds hb 4
  unfold parse6 at h ⊢
  by_cases h1 : b.length < 40
  · rw [if_pos h1] at h; simp at h
  rw [if_neg h1] at h
  rw [if_neg h1, if_neg (by rw [List.length_append]; omega), rd_app (by omega) (by omega), u16_app (by omega) (by omega), rd_app (by omega) (by omega), rd_app (by omega) (by omega)]
  by_cases h2 : rd b 0 / 16 ≠ 6
  · rw [if_pos h2] at h; simp at h
  rw [if_neg h2] at h
  rw [if_neg h2, if_neg h2]
  by_cases h3 : (b.length : Int) - 40 < u16 b 4
  · rw [if_pos h3] at h; simp at h
  rw [if_neg h3] at h
  rw [if_neg h3, if_neg (by rw [List.length_append]; omega)]
  by_cases h4 : rd b 7 = 0
  · rw [if_pos h4, if_pos h4]
  rw [if_neg h4, if_neg h4, mid_app (by omega)]
  unfold end6
  rw [mid_app (by omega), mid_app (by omega), rd_app (by omega) (by omega)]
end Go.Proofs.Ytgifcmbknkjemaa.Own
end
section
namespace Go.Proofs.Ytgifcmbknkjemaa.Own
open Go Go.RowKit Go.Proofs.YtgifcmbknkjemaaW.PrintWords Go.Proofs.YtgifcmbknkjemaaW.PrintLast Go.Proofs.YtgifcmbknkjemaaW.PrintMore
set_option linter.unusedVariables false
theorem Kd.R_form {k : IntKind} {e base : Nat} {w : World} {v : Value} {xs : List Int} {n : Nat} (h : Kd.R (Kd.int k) e w base (fun _ => True) v xs) (hn : xs.length = n) : ∃ A c, v = .slice A n c ∧ n ≤ c ∧ (Kd.int k).C w A n xs := by
  subst hn
  exact Kd.R_reads h
end Go.Proofs.Ytgifcmbknkjemaa.Own
end
section
namespace Go.Proofs.Ytgifcmbknkjemaa.Own
open Go Go.RowKit Go.Proofs.YtgifcmbknkjemaaW.PrintWords Go.Proofs.YtgifcmbknkjemaaW.PrintLast Go.Proofs.YtgifcmbknkjemaaW.PrintMore
set_option linter.unusedVariables false
set_option linter.unusedSimpArgs false
set_option maxHeartbeats 2000000 in
set_option maxRecDepth 100000 in
theorem Ip6Behind_walk (w : World) (A0 : Option Addr) (c0 : Nat) (l0 : List Int) (hr0 : Kd.C (Kd.int .u8) w A0 l0.length l0) (hc0 : l0.length ≤ c0) (hg0 : Bytes l0 ∧ l0.length ≤ 140737488351232) (A1 : Option Addr) (c1 : Nat) (l1 : List Int) (hr1 : Kd.C (Kd.int .u8) w A1 l1.length l1) (hc1 : l1.length ≤ c1) (hg1 : Bytes l1 ∧ l1.length ≤ 140737488351232) (hk : l0.length + l1.length ≤ 1048576) :
    Calls Try.prog 12 #[.slice A0 l0.length c0, .slice A1 l1.length c1] w fun e w' => e = .returned (.bool true) ∧ Below w.heap.size w w' := by
  obtain ⟨n, hn⟩ : ∃ n, n = l0.length := ⟨_, rfl⟩
  obtain ⟨m, hm⟩ : ∃ n, n = l1.length := ⟨_, rfl⟩
  rw [← hn] at hr0 hc0 hg0 hk ⊢
  rw [← hm] at hr1 hc1 hg1 hk ⊢
  have hP := Parse_at hr0 hc0 hg0.1 (by omega)
  have hinv := parse6_inv hg0.1
  have hbe : (parse6 l0).2 = 0 → parse6 (l0 ++ l1) = parse6 l0 := fun h => parse6_behind hg0.1 h
  obtain ⟨p, e, hpe⟩ : ∃ p e, parse6 l0 = (p, e) := ⟨_, _, rfl⟩
  rw [hpe] at hP hinv hbe
  have HP := Aside0.mk hP
  have HI := Aside0.mk hinv
  have HB := Aside0.mk hbe
  have HC := Aside0.mk (And.intro hr0 (And.intro hr1 (And.intro hn hm)))
  have HY : Aside0 (Bytes (l0 ++ l1)) := ⟨bytes_append hg0.1 hg1.1⟩
  have hle : p.exts.length ≤ 8 := hinv.1
  clear hP hinv hbe hpe hn hm hr0 hr1 hg0 hg1
  go_enter Try.func12, Try.ntmps12
  go_wp2_with (fail)
  refine HP.out.mono ?_
  rintro e1 w1 ⟨vE, vD, rfl, hE, hD, hB⟩
  obtain ⟨Ae, ce, rfl, hce, hCE⟩ := Kd.R_reads hE
  obtain ⟨Ad, cd, rfl, hcd, hCD⟩ := Kd.R_reads hD
  simp only at hce hCE hcd hCD
  have F1 := Aside0.mk (And.intro hCE (And.intro hCD hB))
  clear hE hD hCE hCD hB
  go_upto_region 2 with (refine wpList_store_new rfl 55 (.tmp 5) (.tmp 12) rfl _ (ipCells p (.slice Ae p.exts.length ce) (.slice Ad p.data.length cd)) rfl rfl (by kernel_rfl) rfl (ipCells_one _ _ _ _ _ _ _) ?_)
  obtain ⟨W0, hW0⟩ : ∃ W0, W0 = w1.alloc (.cells (ipCells p (.slice Ae p.exts.length ce) (.slice Ad p.data.length cd)) 55) := ⟨_, rfl⟩
  have G0 : Aside0 (W0.heap[w1.heap.size]? = some (.cells (ipCells p (.slice Ae p.exts.length ce) (.slice Ad p.data.length cd)) 55 (0, 0))) := ⟨by rw [hW0]; exact blk_at rfl⟩
  have B0 : Aside0 (Below w.heap.size w W0) := ⟨by rw [hW0]; exact below_alloc F1.out.2.2 _⟩
  have E0 : Aside0 ((Kd.int .i64).C W0 Ae p.exts.length p.exts ∧ (Kd.int .u8).C W0 Ad p.data.length p.data) := ⟨by rw [hW0]; exact ⟨Kd.C_alloc F1.out.1 _, Kd.C_alloc F1.out.2.1 _⟩⟩
  rw [← hW0]
  clear hW0 F1
  by_cases he : e = 0
  · have hpb := HB.out he
    have HPB := Aside0.mk hpb
    subst he
    clear hpb HB
    go_wp2_with (first
      | (at_builtin; refine Kd.R_append_rows (Kd.int .u8) (w0 := W0) W0.heap.size rfl (.const (.slice none 0 0)) (.tmp 18) 27 5 (.int .u8 0) 1 rfl Try.underlying27 info5 rfl (by decide) (by omega) (.slice none 0 0) [] l0 _ _ _ (fun _ => True) (fun _ => False) rfl rfl (Kd.R_nil _ _ _ _ _) (Kd.C_below HC.out.1 B0.out) (fun _ _ h => h) (fun _ h => h.elim) (fun _ _ => trivial) (Below.refl _ _) (Nat.le_refl _) (by have := HC.out.2.2.1; simp; omega) ?_; intro v1 w2 ho hb hg hat; clear hg hat; rw [List.nil_append] at ho; obtain ⟨A2, c2, hv, hc2, hC2⟩ := Kd.R_form ho HC.out.2.2.1.symm; have HO := Aside0.mk ho; have HBB := Aside0.mk hb; clear ho hb hC2; subst hv)
      | (at_builtin; refine Kd.R_append_rows (Kd.int .u8) (w0 := W0) W0.heap.size rfl (.tmp 19) (.tmp 20) 27 5 (.int .u8 0) 1 rfl Try.underlying27 info5 rfl (by decide) (by omega) (.slice A2 n c2) l0 l1 _ _ _ (fun _ => True) (fun _ => False) rfl rfl HO.out (Kd.C_below HC.out.2.1 (below_then B0.out B0.out.size HBB.out)) (fun _ _ h => h) (fun _ h => h.elim) (fun _ _ => trivial) HBB.out HBB.out.size (by have h1 := HC.out.2.2.1; have h2 := HC.out.2.2.2; omega) ?_; intro v1 w3 ho hb hg hat; clear hg hat; obtain ⟨A3, c3, hv, hc3, hC3⟩ := Kd.R_form (n := n + m) ho (by rw [List.length_append, ← HC.out.2.2.1, ← HC.out.2.2.2]); have HO3 := Aside0.mk hC3; have HB3 := Aside0.mk hb; clear ho hb hC3; subst hv))
    have hP2 := Parse_at HO3.out hc3 HY.out (by omega)
    rw [HPB.out] at hP2
    have HP2 := Aside0.mk hP2
    clear hP2 HO HBB HP HPB HY
    refine HP2.out.mono ?_
    rintro e2 w4 ⟨vE, vD, rfl, hE, hD, hB⟩
    obtain ⟨Be, de, rfl, hde, hCE⟩ := Kd.R_reads hE
    obtain ⟨Bd, dd, rfl, hdd, hCD⟩ := Kd.R_reads hD
    simp only at hde hCE hdd hCD
    have B4 : Below W0.heap.size W0 w4 := below_then HB3.out HB3.out.size hB
    have G1 : Aside0 (w4.heap[w1.heap.size]? = some (.cells (ipCells p (.slice Ae p.exts.length ce) (.slice Ad p.data.length cd)) 55 (0, 0))) := ⟨(B4.block _ (Array.getElem?_eq_some_iff.1 G0.out).1).trans G0.out⟩
    have F2 := Aside0.mk (And.intro hCE (And.intro hCD B4))
    have E4 := Aside0.mk (And.intro (Kd.C_below E0.out.1 B4) (Kd.C_below E0.out.2 B4))
    clear hE hD hCE hCD hB B4 HP2 HB3 HO3 G0 E0
    go_upto_region 5 with (refine wpList_store_new rfl 55 (.tmp 7) (.tmp 23) rfl _ (ipCells p (.slice Be p.exts.length de) (.slice Bd p.data.length dd)) rfl rfl (by kernel_rfl) rfl (ipCells_one _ _ _ _ _ _ _) ?_)
    have G2 : Aside0 ((w4.alloc (.cells (ipCells p (.slice Be p.exts.length de) (.slice Bd p.data.length dd)) 55)).heap[w1.heap.size]? = some (.cells (ipCells p (.slice Ae p.exts.length ce) (.slice Ad p.data.length cd)) 55 (0, 0))) := ⟨blk_alloc G1.out _⟩
    have G3 : Aside0 ((w4.alloc (.cells (ipCells p (.slice Be p.exts.length de) (.slice Bd p.data.length dd)) 55)).heap[w4.heap.size]? = some (.cells (ipCells p (.slice Be p.exts.length de) (.slice Bd p.data.length dd)) 55 (0, 0))) := ⟨blk_at rfl⟩
    have kp0 : (w4.alloc (.cells (ipCells p (.slice Be p.exts.length de) (.slice Bd p.data.length dd)) 55)).cell? ⟨w1.heap.size, 0, none⟩ = some (.int .i64 p.fam) := blk_cell G2.out 0
    have kp1 : (w4.alloc (.cells (ipCells p (.slice Be p.exts.length de) (.slice Bd p.data.length dd)) 55)).cell? ⟨w1.heap.size, 1, none⟩ = some (.int .i64 p.src.1) := blk_cell G2.out 1
    have kp2 : (w4.alloc (.cells (ipCells p (.slice Be p.exts.length de) (.slice Bd p.data.length dd)) 55)).cell? ⟨w1.heap.size, 2, none⟩ = some (.int .u64 p.src.2.1) := blk_cell G2.out 2
    have kp3 : (w4.alloc (.cells (ipCells p (.slice Be p.exts.length de) (.slice Bd p.data.length dd)) 55)).cell? ⟨w1.heap.size, 3, none⟩ = some (.int .u64 p.src.2.2) := blk_cell G2.out 3
    have kp4 : (w4.alloc (.cells (ipCells p (.slice Be p.exts.length de) (.slice Bd p.data.length dd)) 55)).cell? ⟨w1.heap.size, 4, none⟩ = some (.int .i64 p.dst.1) := blk_cell G2.out 4
    have kp5 : (w4.alloc (.cells (ipCells p (.slice Be p.exts.length de) (.slice Bd p.data.length dd)) 55)).cell? ⟨w1.heap.size, 5, none⟩ = some (.int .u64 p.dst.2.1) := blk_cell G2.out 5
    have kp6 : (w4.alloc (.cells (ipCells p (.slice Be p.exts.length de) (.slice Bd p.data.length dd)) 55)).cell? ⟨w1.heap.size, 6, none⟩ = some (.int .u64 p.dst.2.2) := blk_cell G2.out 6
    have kp7 : (w4.alloc (.cells (ipCells p (.slice Be p.exts.length de) (.slice Bd p.data.length dd)) 55)).cell? ⟨w1.heap.size, 7, none⟩ = some (.int .i64 p.proto) := blk_cell G2.out 7
    have kp8 : (w4.alloc (.cells (ipCells p (.slice Be p.exts.length de) (.slice Bd p.data.length dd)) 55)).cell? ⟨w1.heap.size, 8, none⟩ = some (.int .i64 p.hop) := blk_cell G2.out 8
    have kp9 : (w4.alloc (.cells (ipCells p (.slice Be p.exts.length de) (.slice Bd p.data.length dd)) 55)).cell? ⟨w1.heap.size, 9, none⟩ = some (.bool p.frag) := blk_cell G2.out 9
    have kp10 : (w4.alloc (.cells (ipCells p (.slice Be p.exts.length de) (.slice Bd p.data.length dd)) 55)).cell? ⟨w1.heap.size, 10, none⟩ = some (.int .u32 p.id) := blk_cell G2.out 10
    have kp11 : (w4.alloc (.cells (ipCells p (.slice Be p.exts.length de) (.slice Bd p.data.length dd)) 55)).cell? ⟨w1.heap.size, 11, none⟩ = some (.int .i64 p.off) := blk_cell G2.out 11
    have kp12 : (w4.alloc (.cells (ipCells p (.slice Be p.exts.length de) (.slice Bd p.data.length dd)) 55)).cell? ⟨w1.heap.size, 12, none⟩ = some (.bool p.more) := blk_cell G2.out 12
    have kp13 : (w4.alloc (.cells (ipCells p (.slice Be p.exts.length de) (.slice Bd p.data.length dd)) 55)).cell? ⟨w1.heap.size, 13, none⟩ = some (.slice Ae p.exts.length ce) := blk_cell G2.out 13
    have kp14 : (w4.alloc (.cells (ipCells p (.slice Be p.exts.length de) (.slice Bd p.data.length dd)) 55)).cell? ⟨w1.heap.size, 14, none⟩ = some (.slice Ad p.data.length cd) := blk_cell G2.out 14
    have kq0 : (w4.alloc (.cells (ipCells p (.slice Be p.exts.length de) (.slice Bd p.data.length dd)) 55)).cell? ⟨w4.heap.size, 0, none⟩ = some (.int .i64 p.fam) := blk_cell G3.out 0
    have kq1 : (w4.alloc (.cells (ipCells p (.slice Be p.exts.length de) (.slice Bd p.data.length dd)) 55)).cell? ⟨w4.heap.size, 1, none⟩ = some (.int .i64 p.src.1) := blk_cell G3.out 1
    have kq2 : (w4.alloc (.cells (ipCells p (.slice Be p.exts.length de) (.slice Bd p.data.length dd)) 55)).cell? ⟨w4.heap.size, 2, none⟩ = some (.int .u64 p.src.2.1) := blk_cell G3.out 2
    have kq3 : (w4.alloc (.cells (ipCells p (.slice Be p.exts.length de) (.slice Bd p.data.length dd)) 55)).cell? ⟨w4.heap.size, 3, none⟩ = some (.int .u64 p.src.2.2) := blk_cell G3.out 3
    have kq4 : (w4.alloc (.cells (ipCells p (.slice Be p.exts.length de) (.slice Bd p.data.length dd)) 55)).cell? ⟨w4.heap.size, 4, none⟩ = some (.int .i64 p.dst.1) := blk_cell G3.out 4
    have kq5 : (w4.alloc (.cells (ipCells p (.slice Be p.exts.length de) (.slice Bd p.data.length dd)) 55)).cell? ⟨w4.heap.size, 5, none⟩ = some (.int .u64 p.dst.2.1) := blk_cell G3.out 5
    have kq6 : (w4.alloc (.cells (ipCells p (.slice Be p.exts.length de) (.slice Bd p.data.length dd)) 55)).cell? ⟨w4.heap.size, 6, none⟩ = some (.int .u64 p.dst.2.2) := blk_cell G3.out 6
    have kq7 : (w4.alloc (.cells (ipCells p (.slice Be p.exts.length de) (.slice Bd p.data.length dd)) 55)).cell? ⟨w4.heap.size, 7, none⟩ = some (.int .i64 p.proto) := blk_cell G3.out 7
    have kq8 : (w4.alloc (.cells (ipCells p (.slice Be p.exts.length de) (.slice Bd p.data.length dd)) 55)).cell? ⟨w4.heap.size, 8, none⟩ = some (.int .i64 p.hop) := blk_cell G3.out 8
    have kq9 : (w4.alloc (.cells (ipCells p (.slice Be p.exts.length de) (.slice Bd p.data.length dd)) 55)).cell? ⟨w4.heap.size, 9, none⟩ = some (.bool p.frag) := blk_cell G3.out 9
    have kq10 : (w4.alloc (.cells (ipCells p (.slice Be p.exts.length de) (.slice Bd p.data.length dd)) 55)).cell? ⟨w4.heap.size, 10, none⟩ = some (.int .u32 p.id) := blk_cell G3.out 10
    have kq11 : (w4.alloc (.cells (ipCells p (.slice Be p.exts.length de) (.slice Bd p.data.length dd)) 55)).cell? ⟨w4.heap.size, 11, none⟩ = some (.int .i64 p.off) := blk_cell G3.out 11
    have kq12 : (w4.alloc (.cells (ipCells p (.slice Be p.exts.length de) (.slice Bd p.data.length dd)) 55)).cell? ⟨w4.heap.size, 12, none⟩ = some (.bool p.more) := blk_cell G3.out 12
    have kq13 : (w4.alloc (.cells (ipCells p (.slice Be p.exts.length de) (.slice Bd p.data.length dd)) 55)).cell? ⟨w4.heap.size, 13, none⟩ = some (.slice Be p.exts.length de) := blk_cell G3.out 13
    have kq14 : (w4.alloc (.cells (ipCells p (.slice Be p.exts.length de) (.slice Bd p.data.length dd)) 55)).cell? ⟨w4.heap.size, 14, none⟩ = some (.slice Bd p.data.length dd) := blk_cell G3.out 14
    go_wp2_with (fail)
    refine (SameIp_at (Kd.C_alloc E4.out.1 _) (Kd.C_alloc F2.out.1 _) (Kd.C_alloc E4.out.2 _) (Kd.C_alloc F2.out.2.1 _) HI.out.2.1 (by omega) hcd hdd).mono ?_
    rintro e3 w5 ⟨rfl, hB3⟩
    have F3 := Aside0.mk (below_then (below_alloc F2.out.2.2 _) (by rw [size_alloc']; have := F2.out.2.2.size; omega) hB3)
    clear hB3
    go_wp2_with (fail)
    refine (Alive4_at _).mono ?_
    rintro e5 w6 ⟨rfl, hb5⟩
    have F5 := Aside0.mk (below_then F3.out F3.out.size hb5)
    clear hb5
    go_wp2
    go_ret
    exact ⟨rfl, below_then B0.out B0.out.size F5.out⟩
  · have he' : (e != 0) = true := by simpa using he
    go_wp2_with (fail)
    refine (Alive4_at _).mono ?_
    rintro e5 w5 ⟨rfl, hb5⟩
    have F5 := Aside0.mk (below_then B0.out B0.out.size hb5)
    clear hb5
    go_wp2
    go_ret
    exact ⟨rfl, F5.out⟩
end Go.Proofs.Ytgifcmbknkjemaa.Own
end
