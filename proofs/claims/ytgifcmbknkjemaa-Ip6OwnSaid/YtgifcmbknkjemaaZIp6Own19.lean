/- What the law Ip6Own rests on, part 19: contracts of the functions that it calls, and plain lemmas. No condition. -/
import Derived.Test.YtgifcmbknkjemaaZIp6Own18
section
namespace Go.Proofs.Ytgifcmbknkjemaa.Own
open Go Go.RowKit Go.Proofs.YtgifcmbknkjemaaW.PrintWords Go.Proofs.YtgifcmbknkjemaaW.PrintLast Go.Proofs.YtgifcmbknkjemaaW.PrintMore
set_option linter.unusedVariables false
set_option linter.unusedSimpArgs false
set_option maxHeartbeats 2000000 in
set_option maxRecDepth 100000 in
theorem SameIp_at {w : World} {p : IpV} {Ae Be Ad Bd : Option Addr} {ce de cd dd : Nat} (h1 : (Kd.int .i64).C w Ae p.exts.length p.exts) (h2 : (Kd.int .i64).C w Be p.exts.length p.exts) (h3 : (Kd.int .u8).C w Ad p.data.length p.data) (h4 : (Kd.int .u8).C w Bd p.data.length p.data) (hby : Bytes p.data) (hl : p.exts.length ≤ 1000000000) (hcd : p.data.length ≤ cd) (hdd : p.data.length ≤ dd) :
    Calls Try.prog 57 #[.agg (ipCells p (.slice Ae p.exts.length ce) (.slice Ad p.data.length cd)), .agg (ipCells p (.slice Be p.exts.length de) (.slice Bd p.data.length dd))] w fun e w' => e = .returned (.bool true) ∧ Below w.heap.size w w' := by
  obtain ⟨fam, src, dst, proto, hop, frag, id, off, more, exts, data⟩ := p
  obtain ⟨s1, s2, s3⟩ := src
  obtain ⟨t1, t2, t3⟩ := dst
  obtain ⟨n, hn⟩ : ∃ n, n = exts.length := ⟨_, rfl⟩
  obtain ⟨m, hm⟩ : ∃ m, m = data.length := ⟨_, rfl⟩
  unfold ipCells
  simp only at h1 h2 h3 h4 hby hl hcd hdd ⊢
  rw [← hn] at h1 h2 hl ⊢
  rw [← hm] at h3 h4 hcd hdd ⊢
  have hw : ∀ W, Below w.heap.size w W → Calls Try.prog 46 #[.slice Ad m cd, .slice Bd m dd] W fun e w' => e = .returned (.bool true) ∧ ∃ k, w' = W.drewN k := fun W hW => by
    have a := Kd.C_below h3 hW
    have b := Kd.C_below h4 hW
    rw [hm] at a b hcd hdd ⊢
    refine (stockaderef01_Same.calls Ad cd data Bd dd data true W a hcd b hdd ?_).mono fun e w' h => ⟨h.1, h.2.out⟩
    unfold stockaderef01_Same.f
    rw [if_pos ⟨okB_iff.2 hby, okB_iff.2 hby⟩]
    simp
  have HW := Aside0.mk hw
  have H1 := Aside0.mk h1
  have H2 := Aside0.mk h2
  clear hw h1 h2 h3 h4 hby hn hm hcd hdd
  have hnm : n ≤ 9223372036854775807 := by omega
  go_enter Try.func57, Try.ntmps57
  go_wp2
  go_loopw [5] (fun i wr => ∃ k : Nat, k ≤ n ∧ i = .int .i64 k ∧ Aside0 (wr.heap[w.heap.size]? = some (.cells (ipCells ⟨fam, (s1, s2, s3), (t1, t2, t3), proto, hop, frag, id, off, more, exts, data⟩ (.slice Ae n ce) (.slice Ad m cd)) 55 (0, 0))) ∧ Aside0 (wr.heap[w.heap.size + 1]? = some (.cells (ipCells ⟨fam, (s1, s2, s3), (t1, t2, t3), proto, hop, frag, id, off, more, exts, data⟩ (.slice Be n de) (.slice Bd m dd)) 55 (0, 0))) ∧ Aside0 (Below w.heap.size w wr)) (fun i _ => n - (intOf i).toNat)
  case atStart => exact ⟨0, Nat.zero_le _, rfl, ⟨blk_alloc (blk_at rfl) _⟩, ⟨blk_at (W := w.alloc _) (by simp)⟩, ⟨below_alloc (below_alloc (Below.refl _ _) _) _⟩⟩
  case round =>
    obtain ⟨k, hk, rfl, HA, HB, HBel⟩ := hrel
    have a13 : wr.cell? ⟨w.heap.size, 13, none⟩ = some (.slice Ae n ce) := blk_cell HA.out 13
    have b13 : wr.cell? ⟨w.heap.size + 1, 13, none⟩ = some (.slice Be n de) := blk_cell HB.out 13
    by_cases hlt : k < n
    · obtain ⟨ae, rfl, ea⟩ := Kd.at_int (Kd.C_below H1.out HBel.out) (k : Int) (by omega) (by omega)
      obtain ⟨be', rfl, eb⟩ := Kd.at_int (Kd.C_below H2.out HBel.out) (k : Int) (by omega) (by omega)
      rw [Int.toNat_natCast] at ea eb
      obtain ⟨v, hv⟩ : ∃ v, v = rd exts (k : Int) := ⟨_, rfl⟩
      rw [← hv] at ea eb
      have q0 : (0 : Int) ≤ (k : Int) := by omega
      have q1 : (k : Int) < (n : Int) := by omega
      have e1 : IntKind.i64.wrap ((k : Int) + 1) = (k : Int) + 1 := wraps_i64 _ (by omega) (by omega)
      clear hv
      go_wp2
      go_quiet (fail)
      go_wp2
      go_roundw
      case rel => exact ⟨k + 1, by omega, by go_num, HA, HB, ⟨pw_below_drewN HBel.out _⟩⟩
      case measure => simp [intOf]; omega
    · have q1 : (n : Int) ≤ (k : Int) := by omega
      have q2 : ¬ (k : Int) < (n : Int) := by omega
      have a0 : wr.cell? ⟨w.heap.size, 0, none⟩ = some (.int .i64 fam) := blk_cell HA.out 0
      have a1 : wr.cell? ⟨w.heap.size, 1, none⟩ = some (.int .i64 s1) := blk_cell HA.out 1
      have a2 : wr.cell? ⟨w.heap.size, 2, none⟩ = some (.int .u64 s2) := blk_cell HA.out 2
      have a3 : wr.cell? ⟨w.heap.size, 3, none⟩ = some (.int .u64 s3) := blk_cell HA.out 3
      have a4 : wr.cell? ⟨w.heap.size, 4, none⟩ = some (.int .i64 t1) := blk_cell HA.out 4
      have a5 : wr.cell? ⟨w.heap.size, 5, none⟩ = some (.int .u64 t2) := blk_cell HA.out 5
      have a6 : wr.cell? ⟨w.heap.size, 6, none⟩ = some (.int .u64 t3) := blk_cell HA.out 6
      have a7 : wr.cell? ⟨w.heap.size, 7, none⟩ = some (.int .i64 proto) := blk_cell HA.out 7
      have a8 : wr.cell? ⟨w.heap.size, 8, none⟩ = some (.int .i64 hop) := blk_cell HA.out 8
      have a9 : wr.cell? ⟨w.heap.size, 9, none⟩ = some (.bool frag) := blk_cell HA.out 9
      have a10 : wr.cell? ⟨w.heap.size, 10, none⟩ = some (.int .u32 id) := blk_cell HA.out 10
      have a11 : wr.cell? ⟨w.heap.size, 11, none⟩ = some (.int .i64 off) := blk_cell HA.out 11
      have a12 : wr.cell? ⟨w.heap.size, 12, none⟩ = some (.bool more) := blk_cell HA.out 12
      have a14 : wr.cell? ⟨w.heap.size, 14, none⟩ = some (.slice Ad m cd) := blk_cell HA.out 14
      have b0 : wr.cell? ⟨w.heap.size + 1, 0, none⟩ = some (.int .i64 fam) := blk_cell HB.out 0
      have b1 : wr.cell? ⟨w.heap.size + 1, 1, none⟩ = some (.int .i64 s1) := blk_cell HB.out 1
      have b2 : wr.cell? ⟨w.heap.size + 1, 2, none⟩ = some (.int .u64 s2) := blk_cell HB.out 2
      have b3 : wr.cell? ⟨w.heap.size + 1, 3, none⟩ = some (.int .u64 s3) := blk_cell HB.out 3
      have b4 : wr.cell? ⟨w.heap.size + 1, 4, none⟩ = some (.int .i64 t1) := blk_cell HB.out 4
      have b5 : wr.cell? ⟨w.heap.size + 1, 5, none⟩ = some (.int .u64 t2) := blk_cell HB.out 5
      have b6 : wr.cell? ⟨w.heap.size + 1, 6, none⟩ = some (.int .u64 t3) := blk_cell HB.out 6
      have b7 : wr.cell? ⟨w.heap.size + 1, 7, none⟩ = some (.int .i64 proto) := blk_cell HB.out 7
      have b8 : wr.cell? ⟨w.heap.size + 1, 8, none⟩ = some (.int .i64 hop) := blk_cell HB.out 8
      have b9 : wr.cell? ⟨w.heap.size + 1, 9, none⟩ = some (.bool frag) := blk_cell HB.out 9
      have b10 : wr.cell? ⟨w.heap.size + 1, 10, none⟩ = some (.int .u32 id) := blk_cell HB.out 10
      have b11 : wr.cell? ⟨w.heap.size + 1, 11, none⟩ = some (.int .i64 off) := blk_cell HB.out 11
      have b12 : wr.cell? ⟨w.heap.size + 1, 12, none⟩ = some (.bool more) := blk_cell HB.out 12
      have b14 : wr.cell? ⟨w.heap.size + 1, 14, none⟩ = some (.slice Bd m dd) := blk_cell HB.out 14
      go_wp2_with (go_at_call 46; refine (HW.out _ HBel.out).mono ?_; rintro e w' ⟨rfl, q, rfl⟩)
      go_ret
      exact ⟨rfl, pw_below_drewN HBel.out _⟩
theorem parse6_inv {b : List Int} (hb : Bytes b) : (parse6 b).1.exts.length ≤ 8 ∧ Bytes (parse6 b).1.data ∧ (parse6 b).1.data.length ≤ b.length := by
  have hz : (zeroV.exts.length ≤ 8 ∧ Bytes zeroV.data ∧ zeroV.data.length ≤ b.length) := ⟨by show 0 ≤ 8; omega, fun y hy => by simp [zeroV] at hy, Nat.zero_le _⟩
  have h := run6_inv true 9 ⟨rd b 6, (b.drop 40).take (u16 b 4).toNat, [], false, false, none⟩ (by show 0 ≤ 8; omega) (fun y hy => hb y (List.mem_of_mem_drop (List.mem_of_mem_take hy)))
  have h2 : ((b.drop 40).take (u16 b 4).toNat).length ≤ b.length := by rw [List.length_take, List.length_drop]; omega
  unfold parse6
  split
  · exact hz
  split
  · exact hz
  split
  · exact hz
  split
  · exact hz
  unfold end6
  split
  · exact hz
  split
  · exact hz
  split
  · exact hz
  split
  · exact hz
  exact ⟨h.1, h.2.1, Nat.le_trans h.2.2 h2⟩
end Go.Proofs.Ytgifcmbknkjemaa.Own
end
section
namespace Go.Proofs.Ytgifcmbknkjemaa.Own
open Go Go.RowKit Go.Proofs.YtgifcmbknkjemaaW.PrintWords Go.Proofs.YtgifcmbknkjemaaW.PrintLast Go.Proofs.YtgifcmbknkjemaaW.PrintMore
set_option linter.unusedVariables false
set_option linter.unusedSimpArgs false
def ipT (r : IpV × Int) : Int × Int × Int × Int × Int × Int × Int × Int × Int × Bool × Int × Int × Bool × List Int × List Int × Int :=
  (r.1.fam, r.1.src.1, r.1.src.2.1, r.1.src.2.2, r.1.dst.1, r.1.dst.2.1, r.1.dst.2.2, r.1.proto, r.1.hop, r.1.frag, r.1.id, r.1.off, r.1.more, r.1.exts, r.1.data, r.2)
def ip6_Parse.f (l0 : List Int) : Option (Int × Int × Int × Int × Int × Int × Int × Int × Int × Bool × Int × Int × Bool × List Int × List Int × Int) := if okS l0 = true then some (ipT (parse6 l0)) else none
set_option maxRecDepth 100000 in
theorem ip6_Parse.calls (A0 : Option Addr) (c0 : Nat) (l0 : List Int) (r1 : Int) (r2 : Int) (r3 : Int) (r4 : Int) (r5 : Int) (r6 : Int) (r7 : Int) (r8 : Int) (r9 : Int) (r10 : Bool) (r11 : Int) (r12 : Int) (r13 : Bool) (r14 : List Int) (r15 : List Int) (r16 : Int) (w : World) (hr0 : Kd.C (Kd.int .u8) w A0 l0.length l0) (hc0 : l0.length ≤ c0) (h : ip6_Parse.f l0 = some (r1, r2, r3, r4, r5, r6, r7, r8, r9, r10, r11, r12, r13, r14, r15, r16)) :
    Calls Try.prog 55 #[.slice A0 l0.length c0] w fun e w' => ∃ v0_ v1_ : Value, e = .returned (.tuple #[.agg #[.int .i64 r1, .int .i64 r2, .int .u64 r3, .int .u64 r4, .int .i64 r5, .int .u64 r6, .int .u64 r7, .int .i64 r8, .int .i64 r9, .bool r10, .int .u32 r11, .int .i64 r12, .bool r13, v0_, v1_], .int .i64 r16]) ∧ Kd.R (Kd.int .i64) 3 w' w.heap.size (fun _ => True) v0_ r14 ∧ Kd.R (Kd.int .u8) 5 w' w.heap.size (fun _ => True) v1_ r15 ∧ Below w.heap.size w w' := by
  unfold ip6_Parse.f at h
  split at h
  · rename_i hg
    simp only [ipT, Option.some.injEq, Prod.mk.injEq] at h; obtain ⟨rfl, rfl, rfl, rfl, rfl, rfl, rfl, rfl, rfl, rfl, rfl, rfl, rfl, rfl, rfl, rfl⟩ := h
    exact Parse_at hr0 hc0 (okS_iff.1 hg).1 (okS_iff.1 hg).2
  · cases h
def stockaderef04_Parse.f (l0 : List Int) : Option (Int × Int × Int × Int × Int × Int × Int × Int × Int × Bool × Int × Int × Bool × List Int × List Int × Int) := if okS l0 = true then some (ipT (parse6 l0)) else none
set_option maxRecDepth 100000 in
theorem stockaderef04_Parse.calls (A0 : Option Addr) (c0 : Nat) (l0 : List Int) (r1 : Int) (r2 : Int) (r3 : Int) (r4 : Int) (r5 : Int) (r6 : Int) (r7 : Int) (r8 : Int) (r9 : Int) (r10 : Bool) (r11 : Int) (r12 : Int) (r13 : Bool) (r14 : List Int) (r15 : List Int) (r16 : Int) (w : World) (hr0 : Kd.C (Kd.int .u8) w A0 l0.length l0) (hc0 : l0.length ≤ c0) (h : stockaderef04_Parse.f l0 = some (r1, r2, r3, r4, r5, r6, r7, r8, r9, r10, r11, r12, r13, r14, r15, r16)) :
    Calls Try.prog 56 #[.slice A0 l0.length c0] w fun e w' => ∃ v0_ v1_ : Value, e = .returned (.tuple #[.agg #[.int .i64 r1, .int .i64 r2, .int .u64 r3, .int .u64 r4, .int .i64 r5, .int .u64 r6, .int .u64 r7, .int .i64 r8, .int .i64 r9, .bool r10, .int .u32 r11, .int .i64 r12, .bool r13, v0_, v1_], .int .i64 r16]) ∧ Kd.R (Kd.int .i64) 3 w' w.heap.size (fun _ => True) v0_ r14 ∧ Kd.R (Kd.int .u8) 5 w' w.heap.size (fun _ => True) v1_ r15 ∧ Below w.heap.size w w' := by
  unfold stockaderef04_Parse.f at h
  split at h
  · rename_i hg
    simp only [ipT, Option.some.injEq, Prod.mk.injEq] at h; obtain ⟨rfl, rfl, rfl, rfl, rfl, rfl, rfl, rfl, rfl, rfl, rfl, rfl, rfl, rfl, rfl, rfl⟩ := h
    exact rParse_at hr0 hc0 (okS_iff.1 hg).1 (okS_iff.1 hg).2
  · cases h
def ip6_Walk.f (a0 : Int) (l1 : List Int) : Option (Int × List Int × List Int × Int) := if okS l1 = true then some (walk6 a0 l1) else none
set_option maxRecDepth 100000 in
theorem ip6_Walk.calls (a0 : Int) (A1 : Option Addr) (c1 : Nat) (l1 : List Int) (r1 : Int) (r2 : List Int) (r3 : List Int) (r4 : Int) (w : World) (hr1 : Kd.C (Kd.int .u8) w A1 l1.length l1) (hc1 : l1.length ≤ c1) (h : ip6_Walk.f a0 l1 = some (r1, r2, r3, r4)) :
    Calls Try.prog 51 #[.int .i64 a0, .slice A1 l1.length c1] w fun e w' => ∃ v0_ v1_ : Value, e = .returned (.tuple #[.int .i64 r1, v0_, v1_, .int .i64 r4]) ∧ Kd.R (Kd.int .i64) 3 w' w.heap.size (fun _ => True) v0_ r2 ∧ Kd.R (Kd.int .u8) 5 w' w.heap.size (fun _ => True) v1_ r3 ∧ Below w.heap.size w w' := by
  unfold ip6_Walk.f at h
  split at h
  · rename_i hg
    have h := Option.some.inj h
    exact (Walk_at (next := a0) hr1 hc1 (okS_iff.1 hg).1 (okS_iff.1 hg).2).mono fun e w' hh => by rw [h] at hh; exact hh
  · cases h
def stockadelaw04_alive.f  : Option (Bool) := if True then some (true) else none
set_option maxRecDepth 100000 in
theorem stockadelaw04_alive.calls (r : Bool) (w : World) (h : stockadelaw04_alive.f  = some r) :
    Calls Try.prog 54 #[] w fun e w' => e = .returned (.bool r) ∧ Below w.heap.size w w' := by
  unfold stockadelaw04_alive.f at h
  split at h
  · rename_i hg
    obtain rfl := Option.some.inj h
    exact Alive4_at w
  · cases h
def stockaderef03_Same.f (a0_0 : Int) (a0_1 : Int) (a0_2 : Int) (a0_3 : Int) (a0_4 : Int) (a0_5 : Int) (a0_6 : Int) (a0_7 : Int) (a0_8 : Int) (a0_9 : Bool) (a0_10 : Int) (a0_11 : Int) (a0_12 : Bool) (l0_13 : List Int) (l0_14 : List Int) (a1_0 : Int) (a1_1 : Int) (a1_2 : Int) (a1_3 : Int) (a1_4 : Int) (a1_5 : Int) (a1_6 : Int) (a1_7 : Int) (a1_8 : Int) (a1_9 : Bool) (a1_10 : Int) (a1_11 : Int) (a1_12 : Bool) (l1_13 : List Int) (l1_14 : List Int) : Option (Bool) := if (a0_0 = a1_0 ∧ a0_1 = a1_1 ∧ a0_2 = a1_2 ∧ a0_3 = a1_3 ∧ a0_4 = a1_4 ∧ a0_5 = a1_5 ∧ a0_6 = a1_6 ∧ a0_7 = a1_7 ∧ a0_8 = a1_8 ∧ a0_9 = a1_9 ∧ a0_10 = a1_10 ∧ a0_11 = a1_11 ∧ a0_12 = a1_12 ∧ l0_13 = l1_13 ∧ l0_14 = l1_14) ∧ okB l0_14 = true ∧ l0_13.length ≤ 1000000000 then some (true) else none
set_option maxRecDepth 100000 in
theorem stockaderef03_Same.calls (a0_0 : Int) (a0_1 : Int) (a0_2 : Int) (a0_3 : Int) (a0_4 : Int) (a0_5 : Int) (a0_6 : Int) (a0_7 : Int) (a0_8 : Int) (a0_9 : Bool) (a0_10 : Int) (a0_11 : Int) (a0_12 : Bool) (A0_13 : Option Addr) (c0_13 : Nat) (l0_13 : List Int) (A0_14 : Option Addr) (c0_14 : Nat) (l0_14 : List Int) (a1_0 : Int) (a1_1 : Int) (a1_2 : Int) (a1_3 : Int) (a1_4 : Int) (a1_5 : Int) (a1_6 : Int) (a1_7 : Int) (a1_8 : Int) (a1_9 : Bool) (a1_10 : Int) (a1_11 : Int) (a1_12 : Bool) (A1_13 : Option Addr) (c1_13 : Nat) (l1_13 : List Int) (A1_14 : Option Addr) (c1_14 : Nat) (l1_14 : List Int) (r : Bool) (w : World) (hr0_13 : Kd.C (Kd.int .i64) w A0_13 l0_13.length l0_13) (hc0_13 : l0_13.length ≤ c0_13) (hr0_14 : Kd.C (Kd.int .u8) w A0_14 l0_14.length l0_14) (hc0_14 : l0_14.length ≤ c0_14) (hr1_13 : Kd.C (Kd.int .i64) w A1_13 l1_13.length l1_13) (hc1_13 : l1_13.length ≤ c1_13) (hr1_14 : Kd.C (Kd.int .u8) w A1_14 l1_14.length l1_14) (hc1_14 : l1_14.length ≤ c1_14) (h : stockaderef03_Same.f a0_0 a0_1 a0_2 a0_3 a0_4 a0_5 a0_6 a0_7 a0_8 a0_9 a0_10 a0_11 a0_12 l0_13 l0_14 a1_0 a1_1 a1_2 a1_3 a1_4 a1_5 a1_6 a1_7 a1_8 a1_9 a1_10 a1_11 a1_12 l1_13 l1_14 = some r) :
    Calls Try.prog 57 #[.agg #[.int .i64 a0_0, .int .i64 a0_1, .int .u64 a0_2, .int .u64 a0_3, .int .i64 a0_4, .int .u64 a0_5, .int .u64 a0_6, .int .i64 a0_7, .int .i64 a0_8, .bool a0_9, .int .u32 a0_10, .int .i64 a0_11, .bool a0_12, .slice A0_13 l0_13.length c0_13, .slice A0_14 l0_14.length c0_14], .agg #[.int .i64 a1_0, .int .i64 a1_1, .int .u64 a1_2, .int .u64 a1_3, .int .i64 a1_4, .int .u64 a1_5, .int .u64 a1_6, .int .i64 a1_7, .int .i64 a1_8, .bool a1_9, .int .u32 a1_10, .int .i64 a1_11, .bool a1_12, .slice A1_13 l1_13.length c1_13, .slice A1_14 l1_14.length c1_14]] w fun e w' => e = .returned (.bool r) ∧ Below w.heap.size w w' := by
  unfold stockaderef03_Same.f at h
  split at h
  · rename_i hg
    obtain rfl := Option.some.inj h
    obtain ⟨he, hby, hle⟩ := hg
    obtain ⟨rfl, rfl, rfl, rfl, rfl, rfl, rfl, rfl, rfl, rfl, rfl, rfl, rfl, rfl, rfl⟩ := he
    exact SameIp_at (p := (⟨a0_0, (a0_1, a0_2, a0_3), (a0_4, a0_5, a0_6), a0_7, a0_8, a0_9, a0_10, a0_11, a0_12, l0_13, l0_14⟩ : IpV)) hr0_13 hr1_13 hr0_14 hr1_14 (okB_iff.1 hby) hle hc0_14 hc1_14
  · cases h
end Go.Proofs.Ytgifcmbknkjemaa.Own
end
section
namespace Go.Proofs.Ytgifcmbknkjemaa.I6Own
open Go.RowKit Go.Proofs.YtgifcmbknkjemaaW.PrintWords Go.Proofs.YtgifcmbknkjemaaW.PrintLast Go.Proofs.YtgifcmbknkjemaaW.PrintMore Go.Proofs.Ytgifcmbknkjemaa.Own
attribute [local go_sem] max2_int min2_int max_two min_two max_three min_three max_four min_four   -- for this text's walks alone
set_option linter.unusedVariables false
set_option linter.unusedSimpArgs false
def errW : Option Int → Value
  | none => .nilIface
  | some c => .iface 0 (.int .i64 c)
theorem errW_none : errW none = .nilIface := rfl
theorem errW_some (c : Int) : errW (some c) = .iface 0 (.int .i64 c) := rfl
theorem info5 : (Try.prog.info? 5).map (fun i => (i.zero, i.size, i.bytes)) = some (some (.int .u8 0), 1, 1) := by kernel_rfl
end Go.Proofs.Ytgifcmbknkjemaa.I6Own
end
