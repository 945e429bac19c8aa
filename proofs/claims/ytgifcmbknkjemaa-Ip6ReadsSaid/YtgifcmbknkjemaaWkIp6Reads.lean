/- The law Ip6Reads: both readers come to one function. -/
import Derived.Test.YtgifcmbknkjemaaR56
namespace Go.Proofs.Ytgifcmbknkjemaa.Own
open Go Go.RowKit Go.Proofs.YtgifcmbknkjemaaW.PrintWords Go.Proofs.YtgifcmbknkjemaaW.PrintLast Go.Proofs.YtgifcmbknkjemaaW.PrintMore
set_option linter.unusedVariables false
set_option linter.unusedSimpArgs false
set_option maxHeartbeats 2000000 in
set_option maxRecDepth 100000 in
theorem SameIp_at {w : World} {p : IpV} {Ae Be Ad Bd : Option Addr} {ce de cd dd : Nat} (h1 : (Kd.int .i64).C w Ae p.exts.length p.exts) (h2 : (Kd.int .i64).C w Be p.exts.length p.exts) (h3 : (Kd.int .u8).C w Ad p.data.length p.data) (h4 : (Kd.int .u8).C w Bd p.data.length p.data) (hby : Bytes p.data) (hl : p.exts.length ≤ 1000000000) (hcd : p.data.length ≤ cd) (hdd : p.data.length ≤ dd) :
    Calls Try.prog 57 #[.agg (ipCells p (.slice Ae p.exts.length ce) (.slice Ad p.data.length cd)), .agg (ipCells p (.slice Be p.exts.length de) (.slice Bd p.data.length dd))] w fun e w' => e = .returned (.bool true) ∧ Below w.heap.size w w' := by
  obtain ⟨fam, src, dst, proto, hop, frag, id, off, more, exts, data⟩ := p
  obtain ⟨s1, s2, s3⟩ := src
  obtain ⟨t1, t2, t3⟩ := dst
  obtain ⟨n, hn⟩ : ∃ n, n = exts.length := ⟨_, rfl⟩
  obtain ⟨m, hm⟩ : ∃ m, m = data.length := ⟨_, rfl⟩
  unfold ipCells
  simp only at h1 h2 h3 h4 hby hl hcd hdd ⊢
  rw [← hn] at h1 h2 hl ⊢
  rw [← hm] at h3 h4 hcd hdd ⊢
  have hw : ∀ W, Below w.heap.size w W → Calls Try.prog 46 #[.slice Ad m cd, .slice Bd m dd] W fun e w' => e = .returned (.bool true) ∧ ∃ k, w' = W.drewN k := fun W hW => by
    have a := Kd.C_below h3 hW
    have b := Kd.C_below h4 hW
    rw [hm] at a b hcd hdd ⊢
    refine (stockaderef01_Same.calls Ad cd data Bd dd data true W a hcd b hdd ?_).mono fun e w' h => ⟨h.1, h.2.out⟩
    unfold stockaderef01_Same.f
    rw [if_pos ⟨okB_iff.2 hby, okB_iff.2 hby⟩]
    simp
  have HW := Aside0.mk hw
  have H1 := Aside0.mk h1
  have H2 := Aside0.mk h2
  clear hw h1 h2 h3 h4 hby hn hm hcd hdd
  have hnm : n ≤ 9223372036854775807 := by omega
  go_enter Try.func57, Try.ntmps57
  go_wp2
  go_loopw [5] (fun i wr => ∃ k : Nat, k ≤ n ∧ i = .int .i64 k ∧ Aside0 (wr.heap[w.heap.size]? = some (.cells (ipCells ⟨fam, (s1, s2, s3), (t1, t2, t3), proto, hop, frag, id, off, more, exts, data⟩ (.slice Ae n ce) (.slice Ad m cd)) 55 (0, 0))) ∧ Aside0 (wr.heap[w.heap.size + 1]? = some (.cells (ipCells ⟨fam, (s1, s2, s3), (t1, t2, t3), proto, hop, frag, id, off, more, exts, data⟩ (.slice Be n de) (.slice Bd m dd)) 55 (0, 0))) ∧ Aside0 (Below w.heap.size w wr)) (fun i _ => n - (intOf i).toNat)
  case atStart => exact ⟨0, Nat.zero_le _, rfl, ⟨blk_alloc (blk_at rfl) _⟩, ⟨blk_at (W := w.alloc _) (by simp)⟩, ⟨below_alloc (below_alloc (Below.refl _ _) _) _⟩⟩
  case round =>
    obtain ⟨k, hk, rfl, HA, HB, HBel⟩ := hrel
    have a13 : wr.cell? ⟨w.heap.size, 13, none⟩ = some (.slice Ae n ce) := blk_cell HA.out 13
    have b13 : wr.cell? ⟨w.heap.size + 1, 13, none⟩ = some (.slice Be n de) := blk_cell HB.out 13
    by_cases hlt : k < n
    · obtain ⟨ae, rfl, ea⟩ := Kd.at_int (Kd.C_below H1.out HBel.out) (k : Int) (by omega) (by omega)
      obtain ⟨be', rfl, eb⟩ := Kd.at_int (Kd.C_below H2.out HBel.out) (k : Int) (by omega) (by omega)
      rw [Int.toNat_natCast] at ea eb
      obtain ⟨v, hv⟩ : ∃ v, v = rd exts (k : Int) := ⟨_, rfl⟩
      rw [← hv] at ea eb
      have q0 : (0 : Int) ≤ (k : Int) := by omega
      have q1 : (k : Int) < (n : Int) := by omega
      have e1 : IntKind.i64.wrap ((k : Int) + 1) = (k : Int) + 1 := wraps_i64 _ (by omega) (by omega)
      clear hv
      go_wp2
      go_quiet (fail)
      go_wp2
      go_roundw
      case rel => exact ⟨k + 1, by omega, by go_num, HA, HB, ⟨pw_below_drewN HBel.out _⟩⟩
      case measure => simp [intOf]; omega
    · have q1 : (n : Int) ≤ (k : Int) := by omega
      have q2 : ¬ (k : Int) < (n : Int) := by omega
      have a0 : wr.cell? ⟨w.heap.size, 0, none⟩ = some (.int .i64 fam) := blk_cell HA.out 0
      have a1 : wr.cell? ⟨w.heap.size, 1, none⟩ = some (.int .i64 s1) := blk_cell HA.out 1
      have a2 : wr.cell? ⟨w.heap.size, 2, none⟩ = some (.int .u64 s2) := blk_cell HA.out 2
      have a3 : wr.cell? ⟨w.heap.size, 3, none⟩ = some (.int .u64 s3) := blk_cell HA.out 3
      have a4 : wr.cell? ⟨w.heap.size, 4, none⟩ = some (.int .i64 t1) := blk_cell HA.out 4
      have a5 : wr.cell? ⟨w.heap.size, 5, none⟩ = some (.int .u64 t2) := blk_cell HA.out 5
      have a6 : wr.cell? ⟨w.heap.size, 6, none⟩ = some (.int .u64 t3) := blk_cell HA.out 6
      have a7 : wr.cell? ⟨w.heap.size, 7, none⟩ = some (.int .i64 proto) := blk_cell HA.out 7
      have a8 : wr.cell? ⟨w.heap.size, 8, none⟩ = some (.int .i64 hop) := blk_cell HA.out 8
      have a9 : wr.cell? ⟨w.heap.size, 9, none⟩ = some (.bool frag) := blk_cell HA.out 9
      have a10 : wr.cell? ⟨w.heap.size, 10, none⟩ = some (.int .u32 id) := blk_cell HA.out 10
      have a11 : wr.cell? ⟨w.heap.size, 11, none⟩ = some (.int .i64 off) := blk_cell HA.out 11
      have a12 : wr.cell? ⟨w.heap.size, 12, none⟩ = some (.bool more) := blk_cell HA.out 12
      have a14 : wr.cell? ⟨w.heap.size, 14, none⟩ = some (.slice Ad m cd) := blk_cell HA.out 14
      have b0 : wr.cell? ⟨w.heap.size + 1, 0, none⟩ = some (.int .i64 fam) := blk_cell HB.out 0
      have b1 : wr.cell? ⟨w.heap.size + 1, 1, none⟩ = some (.int .i64 s1) := blk_cell HB.out 1
      have b2 : wr.cell? ⟨w.heap.size + 1, 2, none⟩ = some (.int .u64 s2) := blk_cell HB.out 2
      have b3 : wr.cell? ⟨w.heap.size + 1, 3, none⟩ = some (.int .u64 s3) := blk_cell HB.out 3
      have b4 : wr.cell? ⟨w.heap.size + 1, 4, none⟩ = some (.int .i64 t1) := blk_cell HB.out 4
      have b5 : wr.cell? ⟨w.heap.size + 1, 5, none⟩ = some (.int .u64 t2) := blk_cell HB.out 5
      have b6 : wr.cell? ⟨w.heap.size + 1, 6, none⟩ = some (.int .u64 t3) := blk_cell HB.out 6
      have b7 : wr.cell? ⟨w.heap.size + 1, 7, none⟩ = some (.int .i64 proto) := blk_cell HB.out 7
      have b8 : wr.cell? ⟨w.heap.size + 1, 8, none⟩ = some (.int .i64 hop) := blk_cell HB.out 8
      have b9 : wr.cell? ⟨w.heap.size + 1, 9, none⟩ = some (.bool frag) := blk_cell HB.out 9
      have b10 : wr.cell? ⟨w.heap.size + 1, 10, none⟩ = some (.int .u32 id) := blk_cell HB.out 10
      have b11 : wr.cell? ⟨w.heap.size + 1, 11, none⟩ = some (.int .i64 off) := blk_cell HB.out 11
      have b12 : wr.cell? ⟨w.heap.size + 1, 12, none⟩ = some (.bool more) := blk_cell HB.out 12
      have b14 : wr.cell? ⟨w.heap.size + 1, 14, none⟩ = some (.slice Bd m dd) := blk_cell HB.out 14
      go_wp2_with (go_at_call 46; refine (HW.out _ HBel.out).mono ?_; rintro e w' ⟨rfl, q, rfl⟩)
      go_ret
      exact ⟨rfl, pw_below_drewN HBel.out _⟩
theorem parse6_inv {b : List Int} (hb : Bytes b) : (parse6 b).1.exts.length ≤ 8 ∧ Bytes (parse6 b).1.data ∧ (parse6 b).1.data.length ≤ b.length := by
  have hz : (zeroV.exts.length ≤ 8 ∧ Bytes zeroV.data ∧ zeroV.data.length ≤ b.length) := ⟨by show 0 ≤ 8; omega, fun y hy => by simp [zeroV] at hy, Nat.zero_le _⟩
  have h := run6_inv true 9 ⟨rd b 6, (b.drop 40).take (u16 b 4).toNat, [], false, false, none⟩ (by show 0 ≤ 8; omega) (fun y hy => hb y (List.mem_of_mem_drop (List.mem_of_mem_take hy)))
  have h2 : ((b.drop 40).take (u16 b 4).toNat).length ≤ b.length := by rw [List.length_take, List.length_drop]; omega
  unfold parse6
  split
  · exact hz
  split
  · exact hz
  split
  · exact hz
  split
  · exact hz
  unfold end6
  split
  · exact hz
  split
  · exact hz
  split
  · exact hz
  split
  · exact hz
  exact ⟨h.1, h.2.1, Nat.le_trans h.2.2 h2⟩
set_option maxHeartbeats 1000000 in
set_option maxRecDepth 100000 in
theorem Ip6Reads_walk (w : World) (A0 : Option Addr) (c0 : Nat) (l0 : List Int) (hr0 : Kd.C (Kd.int .u8) w A0 l0.length l0) (hc0 : l0.length ≤ c0) (hg0 : Bytes l0 ∧ l0.length ≤ 140737488351232) :
    Calls Try.prog 10 #[.slice A0 l0.length c0] w fun e w' => e = .returned (.bool true) ∧ Below w.heap.size w w' := by
  obtain ⟨n, hn⟩ : ∃ n, n = l0.length := ⟨_, rfl⟩
  rw [← hn] at hr0 hc0 hg0 ⊢
  have hP := Parse_at hr0 hc0 hg0.1 (by omega)
  have hR : ∀ W, Below w.heap.size w W → Calls Try.prog 56 #[.slice A0 n c0] W (IpPost W (parse6 l0)) := fun W hW => rParse_at (Kd.C_below hr0 hW) hc0 hg0.1 (by omega)
  have hinv := parse6_inv hg0.1
  obtain ⟨p, e, hpe⟩ : ∃ p e, parse6 l0 = (p, e) := ⟨_, _, rfl⟩
  rw [hpe] at hP hR hinv
  have HP := Aside0.mk hP
  have HR := Aside0.mk hR
  have HI := Aside0.mk hinv
  have hle : p.exts.length ≤ 8 := hinv.1
  clear hP hR hinv hpe hn hr0 hg0
  go_enter Try.func10, Try.ntmps10
  go_wp2_with (fail)
  refine HP.out.mono ?_
  rintro e1 w1 ⟨vE, vD, rfl, hE, hD, hB⟩
  obtain ⟨Ae, ce, rfl, hce, hCE⟩ := Kd.R_reads hE
  obtain ⟨Ad, cd, rfl, hcd, hCD⟩ := Kd.R_reads hD
  simp only at hce hCE hcd hCD
  have F1 := Aside0.mk (And.intro hCE (And.intro hCD hB))
  clear hE hD hCE hCD hB
  go_wp2_with (refine wpList_store_new rfl 55 (.tmp 3) (.tmp 10) rfl _ (ipCells p (.slice Ae p.exts.length ce) (.slice Ad p.data.length cd)) rfl rfl (by kernel_rfl) rfl (ipCells_one _ _ _ _ _ _ _) ?_)
  refine (HR.out _ (below_alloc F1.out.2.2 _)).mono ?_
  rintro e2 w2 ⟨vE, vD, rfl, hE, hD, hB⟩
  obtain ⟨Be, de, rfl, hde, hCE⟩ := Kd.R_reads hE
  obtain ⟨Bd, dd, rfl, hdd, hCD⟩ := Kd.R_reads hD
  simp only at hde hCE hdd hCD
  have G1 := Aside0.mk (show w2.heap[w1.heap.size]? = some (.cells (ipCells p (.slice Ae p.exts.length ce) (.slice Ad p.data.length cd)) 55 (0, 0)) from (hB.block _ (by rw [size_alloc']; omega)).trans (blk_at rfl))
  have B2 : Below w1.heap.size w1 w2 := below_then (below_alloc (Below.refl _ _) _) (by rw [size_alloc']; omega) hB
  have F2 := Aside0.mk (And.intro hCE (And.intro hCD B2))
  clear hE hD hCE hCD hB B2
  go_wp2_with (first | (refine wpList_store_new rfl 55 (.tmp 5) (.tmp 15) rfl _ (ipCells p (.slice Be p.exts.length de) (.slice Bd p.data.length dd)) rfl rfl (by kernel_rfl) rfl (ipCells_one _ _ _ _ _ _ _) ?_) | (refine wpList_load_row rfl 55 (.tmp 3) rfl w1.heap.size rfl 55 (ipCells p (.slice Ae p.exts.length ce) (.slice Ad p.data.length cd)) (0, 0) _ (blk_alloc G1.out _) Try.underlying55 rfl (by kernel_rfl) ?_) | (refine wpList_load_row rfl 55 (.tmp 5) rfl w2.heap.size rfl 55 (ipCells p (.slice Be p.exts.length de) (.slice Bd p.data.length dd)) (0, 0) _ (blk_at rfl) Try.underlying55 rfl (by kernel_rfl) ?_))
  refine (SameIp_at (Kd.C_alloc (Kd.C_below F1.out.1 F2.out.2.2) _) (Kd.C_alloc F2.out.1 _) (Kd.C_alloc (Kd.C_below F1.out.2.1 F2.out.2.2) _) (Kd.C_alloc F2.out.2.1 _) HI.out.2.1 (by omega) hcd hdd).mono ?_
  rintro e3 w3 ⟨rfl, hB3⟩
  have F3 := Aside0.mk (below_then (below_alloc F2.out.2.2 _) (by rw [size_alloc']; have := F2.out.2.2.size; omega) hB3)
  clear hB3
  go_wp2_with (fail)
  refine (Alive4_at _).mono ?_
  rintro e5 w5 ⟨rfl, hb5⟩
  have F5 := Aside0.mk (below_then F3.out F3.out.size hb5)
  clear hb5
  go_wp2
  go_ret
  exact ⟨rfl, below_then F1.out.2.2 F1.out.2.2.size F5.out⟩
end Go.Proofs.Ytgifcmbknkjemaa.Own
