/- What the law Ip4Back rests on, part 21: contracts of the functions that it calls, and plain lemmas. No condition. -/
import Derived.Test.YtgifcmbknkjemaaZIp4Back20
section
namespace Go.Proofs.Ytgifcmbknkjemaa.Own
open Go Go.RowKit Go.Proofs.YtgifcmbknkjemaaW.PrintWords Go.Proofs.YtgifcmbknkjemaaW.PrintLast Go.Proofs.Ytgifcmbknkjemaa.QQ
set_option linter.unusedVariables false
set_option linter.unusedSimpArgs false
def onIp {α : Type} (f : Int → Int → Int → Int → Int → Int → Int → Int → Int → Bool → Int → Int → Bool → List Int → List Int → α) (p : IpV) : α :=
  f p.fam p.src.1 p.src.2.1 p.src.2.2 p.dst.1 p.dst.2.1 p.dst.2.2 p.proto p.hop p.frag p.id p.off p.more p.exts p.data
theorem four_is {a : Int × Int × Int} (ha : okA a) : ip4_may_1.f a.1 a.2.1 a.2.2 = some (four a) := by
  unfold ip4_may_1.f four
  by_cases h : a.1 = 4
  · rw [if_pos h]
    unfold addr_Right.f
    rw [if_pos ⟨ha.1, ha.2⟩]
    simp only [h, decide_true, Bool.true_and, Option.bind_some]
    exact congrArg some (congrArg rightA (by rw [← h]))
  · rw [if_neg h]
    simp [h]
theorem byte1_is (n : Int) : ip4_byte1.f n = some (decide (0 ≤ n ∧ n ≤ 255)) := by
  unfold ip4_byte1.f
  by_cases h : n ≥ 0
  · rw [if_pos h]
    have : (0 ≤ n ∧ n ≤ 255) ↔ n ≤ 255 := ⟨fun h => h.2, fun h2 => ⟨h, h2⟩⟩
    simp [this]
  · rw [if_neg h]
    have : ¬ (0 ≤ n ∧ n ≤ 255) := fun h2 => h h2.1
    simp [this]
def tail4 (fr mo : Bool) (off : Int) (da : List Int) : Bool := !(mo && decide (da.length % 8 ≠ 0)) && (!fr || mo || decide (0 < off))
theorem may4_j2 (k : Nat) (x : Bool) (f s1 s2 s3 t1 t2 t3 pr h : Int) (fr : Bool) (id off : Int) (mo : Bool) (ex da : List Int) :
    ip4_may.j2 (k + 1) x f s1 s2 s3 t1 t2 t3 pr h fr id off mo ex da = some (!x && tail4 fr mo off da) := by
  rw [ip4_may.j2]
  unfold tail4
  by_cases hd : da.length % 8 = 0
  · have hd' : ((da.length : Int) % 8) = 0 := by omega
    rw [if_pos hd']
    cases x <;> cases mo <;> cases fr <;> simp [hd]
  · have hd' : ¬ ((da.length : Int) % 8) = 0 := by omega
    rw [if_neg hd']
    cases x <;> cases mo <;> cases fr <;> simp [hd]
theorem tmod8 {x : Int} (h : 0 ≤ x) : Int.tmod x 8 = x % 8 := Int.tmod_eq_emod_of_nonneg h
theorem may4_j1 (k : Nat) (x : Bool) (f s1 s2 s3 t1 t2 t3 pr h : Int) (fr : Bool) (id off : Int) (mo : Bool) (ex da : List Int) :
    ip4_may.j1 (k + 2) x f s1 s2 s3 t1 t2 t3 pr h fr id off mo ex da = some (!x && (decide (da.length ≤ 65515) && decide (0 ≤ off) && decide (off % 8 = 0) && decide (off + da.length ≤ 65515) && tail4 fr mo off da)) := by
  rw [ip4_may.j1]
  cases x with
  | true => simp
  | false =>
    rw [if_neg (by simp)]
    by_cases c1 : (da.length : Int) > 65515
    · rw [if_pos c1, may4_j2]
      have : ¬ da.length ≤ 65515 := by omega
      simp [this]
    rw [if_neg c1]
    have e1 : da.length ≤ 65515 := by omega
    by_cases c2 : off < 0
    · rw [if_pos c2, may4_j2]
      have : ¬ 0 ≤ off := by omega
      simp [this]
    rw [if_neg c2]
    have e2 : 0 ≤ off := by omega
    rw [tmod8 e2]
    by_cases c3 : off % 8 = 0
    · rw [if_pos c3, may4_j2, w64 _ (by omega) (by omega)]
      by_cases c4 : off > 65515 - (da.length : Int)
      · have : ¬ off + (da.length : Int) ≤ 65515 := by omega
        simp [c4, this]
      · have : off + (da.length : Int) ≤ 65515 := by omega
        simp [c4, this, e1, e2, c3]
    · rw [if_neg c3, may4_j2]
      simp [c3]
theorem may4_j0 (k : Nat) (x : Bool) (f s1 s2 s3 t1 t2 t3 pr h : Int) (fr : Bool) (id off : Int) (mo : Bool) (ex da : List Int) :
    ip4_may.j0 (k + 3) x f s1 s2 s3 t1 t2 t3 pr h fr id off mo ex da = some (!x && (decide (0 ≤ pr ∧ pr ≤ 255) && decide (1 ≤ h ∧ h ≤ 255) && decide (id ≤ 65535) && (decide (da.length ≤ 65515) && decide (0 ≤ off) && decide (off % 8 = 0) && decide (off + da.length ≤ 65515) && tail4 fr mo off da))) := by
  rw [ip4_may.j0]
  cases x with
  | true => simp
  | false =>
    rw [if_neg (by simp), byte1_is, byte1_is]
    simp only [Option.bind_some]
    by_cases c1 : 0 ≤ pr ∧ pr ≤ 255
    · rw [if_pos (by simpa using c1)]
      by_cases c2 : 0 ≤ h ∧ h ≤ 255
      · rw [if_pos (by simpa using c2)]
        by_cases c3 : h = 0
        · rw [if_pos c3, may4_j1]
          have : ¬ (1 ≤ h ∧ h ≤ 255) := by omega
          simp [this]
        · rw [if_neg c3, may4_j1]
          have e : 1 ≤ h ∧ h ≤ 255 := by omega
          by_cases c4 : id > 65535
          · have : ¬ id ≤ 65535 := by omega
            simp [c4, this]
          · have : id ≤ 65535 := by omega
            simp [c4, this, c1, e]
      · rw [if_neg (by simpa using c2), may4_j1]
        have : ¬ (1 ≤ h ∧ h ≤ 255) := by omega
        simp [this]
    · rw [if_neg (by simpa using c1), may4_j1]
      simp [c1]
theorem ip4_may_some (p : IpV) (hs : okA p.src) (hd : okA p.dst) (k : Nat) : onIp (ip4_may.f (k + 3)) p = some (may4 p) := by
  obtain ⟨fam, src, dst, proto, hop, frag, id, off, more, exts, data⟩ := p
  unfold onIp ip4_may.f may4
  simp only at hs hd ⊢
  by_cases c1 : fam = 4
  · rw [if_pos c1, four_is hs, four_is hd]
    simp only [Option.bind_some]
    cases four src with
    | false => rw [if_neg (by simp), may4_j0]; simp
    | true =>
      cases four dst with
      | false => rw [if_pos rfl, if_neg (by simp), may4_j0]; simp
      | true =>
        rw [if_pos rfl, if_pos rfl, may4_j0]
        by_cases c2 : exts.length = 0
        · have : ¬ ((exts.length : Int) > 0) := by omega
          simp [c1, c2, this, tail4, Bool.and_assoc]
        · have : (exts.length : Int) > 0 := by omega
          simp [c1, c2, this]
  · rw [if_neg c1, may4_j0]
    simp [c1]
theorem or8192 (x : Int) (h0 : 0 ≤ x) (h1 : x < 8192) : Go.bits .or .i64 x 8192 = x + 8192 := by
  have h := bits_join .i64 63 (by decide) wraps_i64 13 8192 x (by omega) (by omega) (by omega) h0 (by omega) (by omega)
  have hc : Go.bits .or .i64 x 8192 = Go.bits .or .i64 8192 x := by
    simp only [Go.bits]
    rw [BitVec.or_comm]
  rw [hc, h]
  omega
theorem head4_len (p : IpV) : (head4 p).length = 10 := rfl
theorem okP_two {a b : List Int} (ha : Bytes a) (hb : Bytes b) (hla : a.length ≤ 1000) (hlb : b.length ≤ 140737488353000) : okP [a, b] = true := okP_iff.2 ⟨by simp, fun p hp => by
  simp at hp
  rcases hp with rfl | rfl
  · exact ⟨ha, by omega⟩
  · exact ⟨hb, by omega⟩⟩
theorem bytes_lit {l : List Int} (h : okB l = true) : Bytes l := okB_iff.1 h
theorem bytes_two (a b : Int) : Bytes [a % 256, b % 256] := fun c hc => by
  simp at hc
  omega
theorem bytes_head4 (p : IpV) : Bytes (head4 p) := by
  unfold head4
  exact bytes_append (bytes_put16 (bytes_put16 (bytes_put16 (bytes_lit rfl) _) _) _) (bytes_two _ _)
theorem bytes_ends4 (p : IpV) : Bytes (ends4 p) := bytes_append (bytes_bytesA _) (bytes_bytesA _)
theorem put16_some {l : List Int} (n : Int) (h : l.length ≤ 140737488355000) : QQ.wire_Put16.f l n = some (put16 l n) := by unfold QQ.wire_Put16.f wire_Put16.f; rw [if_pos h]
theorem put16_len (l : List Int) (n : Int) : (put16 l n).length = l.length + 2 := by unfold put16; simp
theorem bytesA_some {a : Int × Int × Int} (ha : okA a) : addr_Bytes.f a.1 a.2.1 a.2.2 = some (bytesA a) := by unfold addr_Bytes.f; rw [if_pos ⟨ha.1, ha.2⟩]
theorem bytesA_le (a : Int × Int × Int) : (bytesA a).length ≤ 16 := by
  unfold bytesA
  split
  · split <;> simp [d4, d8]
  · simp
theorem build4_j0 (k : Nat) (p : IpV) (hs : okA p.src) (hd : okA p.dst) (hl : p.data.length ≤ 65515) (i o : Int) (hi : i = if p.frag = true then p.id else 0) (ho : o = if p.frag = true then p.off / 8 + (if p.more = true then 8192 else 0) else 0) :
    onIp (ip4_Build.j0 (k + 1) i o) p = some (put16 (head4 p) (65535 - sumOf [head4 p, ends4 p]) ++ ends4 p ++ p.data, 0) := by
  have hb1 := bytesA_le p.src
  have hb2 := bytesA_le p.dst
  have hel : (ends4 p).length ≤ 32 := by unfold ends4; rw [List.length_append]; omega
  unfold onIp
  rw [ip4_Build.j0, w64 (20 + (p.data.length : Int)) (by omega) (by omega), put16_some _ (by simp)]
  simp only [Option.bind_some]
  rw [put16_some _ (by rw [put16_len]; simp)]
  simp only [Option.bind_some]
  rw [put16_some _ (by rw [put16_len, put16_len]; simp)]
  simp only [Option.bind_some]
  have hh : put16 (put16 (put16 [69, 0] (20 + p.data.length)) i) o ++ [p.hop % 256, p.proto % 256] = head4 p := by unfold head4; rw [hi, ho]
  rw [if_pos (by simp [put16]), hh, bytesA_some hs, bytesA_some hd]
  simp only [Option.bind_some]
  rw [if_pos (by omega), show bytesA p.src ++ bytesA p.dst = ends4 p from rfl]
  have hc : QQ.wire_Check.f [head4 p, ends4 p] = some (65535 - sumOf [head4 p, ends4 p]) := by
    unfold QQ.wire_Check.f wire_Check.f
    rw [if_pos (okP_two (bytes_head4 p) (bytes_ends4 p) (by rw [head4_len]; omega) (by omega))]
  rw [hc]
  simp only [Option.bind_some]
  rw [put16_some _ (by rw [head4_len]; omega)]
  simp only [Option.bind_some]
  rw [if_pos (by rw [put16_len, head4_len]; omega), if_pos (by rw [List.length_append, put16_len, head4_len]; omega)]
theorem tdiv8 {x : Int} (h : 0 ≤ x) : Int.tdiv x 8 = x / 8 := Int.tdiv_eq_ediv_of_nonneg h
theorem ip4_Build_some (p : IpV) (hs : okA p.src) (hd : okA p.dst) (h0 : 0 ≤ p.id) (k : Nat) : onIp (ip4_Build.f (k + 3)) p = some (build4 p) := by
  have hm := ip4_may_some p hs hd k
  unfold onIp at hm ⊢
  unfold ip4_Build.f
  rw [hm]
  simp only [Option.bind_some]
  unfold build4
  cases h : may4 p with
  | false => simp
  | true =>
    have m := may4_has h
    have m1 := m.id
    have m2 := m.off
    have m3 := m.len
    rw [if_pos rfl, if_pos rfl]
    cases hf : p.frag with
    | false =>
      rw [if_neg (by simp)]
      have := build4_j0 (k + 2) p hs hd m.len 0 0 (by rw [hf]; rfl) (by rw [hf]; rfl)
      unfold onIp at this
      rw [hf] at this
      exact this
    | true =>
      rw [if_pos rfl, w64 p.id (by omega) (by omega), tdiv8 (by omega), w64 (p.off / 8) (by omega) (by omega)]
      cases hmo : p.more with
      | true =>
        rw [if_pos rfl, or8192 _ (by omega) (by omega)]
        have := build4_j0 (k + 2) p hs hd m.len p.id (p.off / 8 + 8192) (by rw [hf]; rfl) (by rw [hf, hmo]; rfl)
        unfold onIp at this
        rw [hf, hmo] at this
        exact this
      | false =>
        rw [if_neg (by simp)]
        have := build4_j0 (k + 2) p hs hd m.len p.id (p.off / 8) (by rw [hf]; rfl) (by rw [hf, hmo]; simp)
        unfold onIp at this
        rw [hf, hmo] at this
        exact this
end Go.Proofs.Ytgifcmbknkjemaa.Own
end
section
namespace Go.Proofs.Ytgifcmbknkjemaa.Own
open Go Go.RowKit Go.Proofs.YtgifcmbknkjemaaW.PrintWords Go.Proofs.YtgifcmbknkjemaaW.PrintLast Go.Proofs.YtgifcmbknkjemaaW.PrintMore
set_option linter.unusedVariables false
set_option linter.unusedSimpArgs false
set_option maxHeartbeats 2000000 in
set_option maxRecDepth 100000 in
theorem SameIp_at {w : World} {p : IpV} {Ae Be Ad Bd : Option Addr} {ce de cd dd : Nat} (h1 : (Kd.int .i64).C w Ae p.exts.length p.exts) (h2 : (Kd.int .i64).C w Be p.exts.length p.exts) (h3 : (Kd.int .u8).C w Ad p.data.length p.data) (h4 : (Kd.int .u8).C w Bd p.data.length p.data) (hby : Bytes p.data) (hl : p.exts.length ≤ 1000000000) (hcd : p.data.length ≤ cd) (hdd : p.data.length ≤ dd) :
    Calls Try.prog 57 #[.agg (ipCells p (.slice Ae p.exts.length ce) (.slice Ad p.data.length cd)), .agg (ipCells p (.slice Be p.exts.length de) (.slice Bd p.data.length dd))] w fun e w' => e = .returned (.bool true) ∧ Below w.heap.size w w' := by
  obtain ⟨fam, src, dst, proto, hop, frag, id, off, more, exts, data⟩ := p
  obtain ⟨s1, s2, s3⟩ := src
  obtain ⟨t1, t2, t3⟩ := dst
  obtain ⟨n, hn⟩ : ∃ n, n = exts.length := ⟨_, rfl⟩
  obtain ⟨m, hm⟩ : ∃ m, m = data.length := ⟨_, rfl⟩
  unfold ipCells
  simp only at h1 h2 h3 h4 hby hl hcd hdd ⊢
  rw [← hn] at h1 h2 hl ⊢
  rw [← hm] at h3 h4 hcd hdd ⊢
  have hw : ∀ W, Below w.heap.size w W → Calls Try.prog 46 #[.slice Ad m cd, .slice Bd m dd] W fun e w' => e = .returned (.bool true) ∧ ∃ k, w' = W.drewN k := fun W hW => by
    have a := Kd.C_below h3 hW
    have b := Kd.C_below h4 hW
    rw [hm] at a b hcd hdd ⊢
    refine (stockaderef01_Same.calls Ad cd data Bd dd data true W a hcd b hdd ?_).mono fun e w' h => ⟨h.1, h.2.out⟩
    unfold stockaderef01_Same.f
    rw [if_pos ⟨okB_iff.2 hby, okB_iff.2 hby⟩]
    simp
  have HW := Aside0.mk hw
  have H1 := Aside0.mk h1
  have H2 := Aside0.mk h2
  clear hw h1 h2 h3 h4 hby hn hm hcd hdd
  have hnm : n ≤ 9223372036854775807 := by omega
  go_enter Try.func57, Try.ntmps57
  go_wp2
  go_loopw [5] (fun i wr => ∃ k : Nat, k ≤ n ∧ i = .int .i64 k ∧ Aside0 (wr.heap[w.heap.size]? = some (.cells (ipCells ⟨fam, (s1, s2, s3), (t1, t2, t3), proto, hop, frag, id, off, more, exts, data⟩ (.slice Ae n ce) (.slice Ad m cd)) 55 (0, 0))) ∧ Aside0 (wr.heap[w.heap.size + 1]? = some (.cells (ipCells ⟨fam, (s1, s2, s3), (t1, t2, t3), proto, hop, frag, id, off, more, exts, data⟩ (.slice Be n de) (.slice Bd m dd)) 55 (0, 0))) ∧ Aside0 (Below w.heap.size w wr)) (fun i _ => n - (intOf i).toNat)
  case atStart => exact ⟨0, Nat.zero_le _, rfl, ⟨blk_alloc (blk_at rfl) _⟩, ⟨blk_at (W := w.alloc _) (by simp)⟩, ⟨below_alloc (below_alloc (Below.refl _ _) _) _⟩⟩
  case round =>
    obtain ⟨k, hk, rfl, HA, HB, HBel⟩ := hrel
    have a13 : wr.cell? ⟨w.heap.size, 13, none⟩ = some (.slice Ae n ce) := blk_cell HA.out 13
    have b13 : wr.cell? ⟨w.heap.size + 1, 13, none⟩ = some (.slice Be n de) := blk_cell HB.out 13
    by_cases hlt : k < n
    · obtain ⟨ae, rfl, ea⟩ := Kd.at_int (Kd.C_below H1.out HBel.out) (k : Int) (by omega) (by omega)
      obtain ⟨be', rfl, eb⟩ := Kd.at_int (Kd.C_below H2.out HBel.out) (k : Int) (by omega) (by omega)
      rw [Int.toNat_natCast] at ea eb
      obtain ⟨v, hv⟩ : ∃ v, v = rd exts (k : Int) := ⟨_, rfl⟩
      rw [← hv] at ea eb
      have q0 : (0 : Int) ≤ (k : Int) := by omega
      have q1 : (k : Int) < (n : Int) := by omega
      have e1 : IntKind.i64.wrap ((k : Int) + 1) = (k : Int) + 1 := wraps_i64 _ (by omega) (by omega)
      clear hv
      go_wp2
      go_quiet (fail)
      go_wp2
      go_roundw
      case rel => exact ⟨k + 1, by omega, by go_num, HA, HB, ⟨pw_below_drewN HBel.out _⟩⟩
      case measure => simp [intOf]; omega
    · have q1 : (n : Int) ≤ (k : Int) := by omega
      have q2 : ¬ (k : Int) < (n : Int) := by omega
      have a0 : wr.cell? ⟨w.heap.size, 0, none⟩ = some (.int .i64 fam) := blk_cell HA.out 0
      have a1 : wr.cell? ⟨w.heap.size, 1, none⟩ = some (.int .i64 s1) := blk_cell HA.out 1
      have a2 : wr.cell? ⟨w.heap.size, 2, none⟩ = some (.int .u64 s2) := blk_cell HA.out 2
      have a3 : wr.cell? ⟨w.heap.size, 3, none⟩ = some (.int .u64 s3) := blk_cell HA.out 3
      have a4 : wr.cell? ⟨w.heap.size, 4, none⟩ = some (.int .i64 t1) := blk_cell HA.out 4
      have a5 : wr.cell? ⟨w.heap.size, 5, none⟩ = some (.int .u64 t2) := blk_cell HA.out 5
      have a6 : wr.cell? ⟨w.heap.size, 6, none⟩ = some (.int .u64 t3) := blk_cell HA.out 6
      have a7 : wr.cell? ⟨w.heap.size, 7, none⟩ = some (.int .i64 proto) := blk_cell HA.out 7
      have a8 : wr.cell? ⟨w.heap.size, 8, none⟩ = some (.int .i64 hop) := blk_cell HA.out 8
      have a9 : wr.cell? ⟨w.heap.size, 9, none⟩ = some (.bool frag) := blk_cell HA.out 9
      have a10 : wr.cell? ⟨w.heap.size, 10, none⟩ = some (.int .u32 id) := blk_cell HA.out 10
      have a11 : wr.cell? ⟨w.heap.size, 11, none⟩ = some (.int .i64 off) := blk_cell HA.out 11
      have a12 : wr.cell? ⟨w.heap.size, 12, none⟩ = some (.bool more) := blk_cell HA.out 12
      have a14 : wr.cell? ⟨w.heap.size, 14, none⟩ = some (.slice Ad m cd) := blk_cell HA.out 14
      have b0 : wr.cell? ⟨w.heap.size + 1, 0, none⟩ = some (.int .i64 fam) := blk_cell HB.out 0
      have b1 : wr.cell? ⟨w.heap.size + 1, 1, none⟩ = some (.int .i64 s1) := blk_cell HB.out 1
      have b2 : wr.cell? ⟨w.heap.size + 1, 2, none⟩ = some (.int .u64 s2) := blk_cell HB.out 2
      have b3 : wr.cell? ⟨w.heap.size + 1, 3, none⟩ = some (.int .u64 s3) := blk_cell HB.out 3
      have b4 : wr.cell? ⟨w.heap.size + 1, 4, none⟩ = some (.int .i64 t1) := blk_cell HB.out 4
      have b5 : wr.cell? ⟨w.heap.size + 1, 5, none⟩ = some (.int .u64 t2) := blk_cell HB.out 5
      have b6 : wr.cell? ⟨w.heap.size + 1, 6, none⟩ = some (.int .u64 t3) := blk_cell HB.out 6
      have b7 : wr.cell? ⟨w.heap.size + 1, 7, none⟩ = some (.int .i64 proto) := blk_cell HB.out 7
      have b8 : wr.cell? ⟨w.heap.size + 1, 8, none⟩ = some (.int .i64 hop) := blk_cell HB.out 8
      have b9 : wr.cell? ⟨w.heap.size + 1, 9, none⟩ = some (.bool frag) := blk_cell HB.out 9
      have b10 : wr.cell? ⟨w.heap.size + 1, 10, none⟩ = some (.int .u32 id) := blk_cell HB.out 10
      have b11 : wr.cell? ⟨w.heap.size + 1, 11, none⟩ = some (.int .i64 off) := blk_cell HB.out 11
      have b12 : wr.cell? ⟨w.heap.size + 1, 12, none⟩ = some (.bool more) := blk_cell HB.out 12
      have b14 : wr.cell? ⟨w.heap.size + 1, 14, none⟩ = some (.slice Bd m dd) := blk_cell HB.out 14
      go_wp2_with (go_at_call 46; refine (HW.out _ HBel.out).mono ?_; rintro e w' ⟨rfl, q, rfl⟩)
      go_ret
      exact ⟨rfl, pw_below_drewN HBel.out _⟩
end Go.Proofs.Ytgifcmbknkjemaa.Own
end
section
namespace Go.Proofs.Ytgifcmbknkjemaa.Own
open Go Go.RowKit Go.Proofs.YtgifcmbknkjemaaW.PrintWords Go.Proofs.YtgifcmbknkjemaaW.PrintLast Go.Proofs.YtgifcmbknkjemaaW.PrintMore
set_option linter.unusedVariables false
def BuildPost (w : World) (r : List Int × Int) (e : Ending) (w' : World) : Prop :=
  ∃ v : Value, e = .returned (.tuple #[v, .int .i64 r.2]) ∧ Kd.R (Kd.int .u8) 5 w' w.heap.size (fun _ => True) v r.1 ∧ Below w.heap.size w w'
theorem Kd.R_form {k : IntKind} {e base : Nat} {w : World} {v : Value} {xs : List Int} {n : Nat} (h : Kd.R (Kd.int k) e w base (fun _ => True) v xs) (hn : xs.length = n) : ∃ A c, v = .slice A n c ∧ n ≤ c ∧ (Kd.int k).C w A n xs := by
  subst hn
  exact Kd.R_reads h
end Go.Proofs.Ytgifcmbknkjemaa.Own
end
section
namespace Go.Proofs.Ytgifcmbknkjemaa.Own
open Go Go.RowKit Go.Proofs.YtgifcmbknkjemaaW.PrintWords Go.Proofs.YtgifcmbknkjemaaW.PrintLast Go.Proofs.YtgifcmbknkjemaaW.PrintMore
set_option linter.unusedVariables false
set_option linter.unusedSimpArgs false
theorem Build4_at {w : World} {p : IpV} {Ae Ad : Option Addr} {ne nd ce cd : Nat} (h1 : (Kd.int .i64).C w Ae ne p.exts) (h2 : (Kd.int .u8).C w Ad nd p.data) (hce : ne ≤ ce) (hcd : nd ≤ cd) (ok : IpOk p) :
    Calls Try.prog 67 #[.agg (ipCells p (.slice Ae ne ce) (.slice Ad nd cd))] w (BuildPost w (build4 p)) := by
  have l1 := h1.1
  have l2 := h2.1
  subst l1 l2
  have h := ip4_Build_some p ok.2.2.1 ok.2.2.2.1 ok.1 0
  exact QQ.ip4_Build.calls 3 _ _ _ _ _ _ _ _ _ _ _ _ _ Ae ce p.exts Ad cd p.data (build4 p).1 (build4 p).2 w h1 hce h2 hcd h
def smallV : IpV := ⟨4, (4, 0, 167772161), (4, 0, 167772162), 17, 64, false, 0, 0, false, [], [1, 2, 3, 4]⟩
theorem small_ok : IpOk smallV := ⟨by decide, by decide, ⟨⟨by decide, by decide⟩, by decide, by decide⟩, ⟨⟨by decide, by decide⟩, by decide, by decide⟩, bytes_lit rfl⟩
theorem small_may : may4 smallV = true := by decide
theorem Small_at (w : World) : Calls Try.prog 115 #[] w fun e w' => ∃ vE vD : Value, e = .returned (.agg (ipCells smallV vE vD)) ∧ Kd.R (Kd.int .i64) 3 w' w.heap.size (fun _ => True) vE [] ∧ Kd.R (Kd.int .u8) 5 w' w.heap.size (fun _ => True) vD [1, 2, 3, 4] ∧ Below w.heap.size w w' :=
  QQ.stockadelaw03_small.calls 4 4 0 167772161 4 0 167772162 17 64 false 0 0 false [] [1, 2, 3, 4] w rfl
set_option maxHeartbeats 4000000 in
set_option maxRecDepth 100000 in
theorem Alive3_at (w : World) : Calls Try.prog 66 #[] w fun e w' => e = .returned (.bool true) ∧ Below w.heap.size w w' := by
  obtain ⟨B, hB⟩ : ∃ B, B = (build4 smallV).1 := ⟨_, rfl⟩
  have hb2 : build4 smallV = (B, 0) := by rw [hB, build4_is small_may]
  have hB2 : B = H20 smallV ++ [1, 2, 3, 4] := by rw [hB, build4_is small_may]; rfl
  have hpar : parse4 B = (smallV, 0) := by rw [hB]; exact parse4_build small_may small_ok
  have hlen : B.length = 24 := by rw [hB2]; rfl
  have h0 : rd B 0 = 69 := by rw [hB2]; rfl
  have h9 : rd B 9 = 17 := by rw [hB2]; rfl
  have hby : Bytes B := by rw [hB2]; exact bytes_append (bytes_H20 (may4_has small_may) small_ok) (bytes_lit rfl)
  have HB := Aside0.mk (And.intro hb2 (And.intro hpar (And.intro hlen (And.intro h0 (And.intro h9 hby)))))
  clear hB hb2 hB2 hpar hlen h0 h9 hby
  go_enter Try.func66, Try.ntmps66
  go_wp2_with (fail)
  refine (Small_at w).mono ?_
  rintro e1 w1 ⟨vE, vD, rfl, hE, hD, hb1⟩
  obtain ⟨Ae, ce, rfl, hce, hCE⟩ := Kd.R_form hE (show ([] : List Int).length = 0 from rfl)
  obtain ⟨Ad, cd, rfl, hcd, hCD⟩ := Kd.R_form hD (show ([1, 2, 3, 4] : List Int).length = 4 from rfl)
  have hbuild := Build4_at (p := smallV) hCE hCD hce hcd small_ok
  rw [HB.out.1] at hbuild
  have B1 := Aside0.mk hb1
  clear hE hD hb1 hCE hCD
  go_wp2_with (fail)
  refine hbuild.mono ?_
  rintro e2 w2 ⟨v, rfl, hv, hb2⟩
  obtain ⟨A, c, rfl, hc, hC⟩ := Kd.R_form hv HB.out.2.2.1
  have HC := Aside0.mk hC
  have B2 := Aside0.mk (below_then B1.out B1.out.size hb2)
  have hparse := Parse4_at hC hc HB.out.2.2.2.2.2 (by omega)
  rw [HB.out.2.1] at hparse
  clear hv hC hb2 hbuild
  go_wp2_with (fail)
  refine hparse.mono ?_
  rintro e4 w4 ⟨vE, vD, rfl, hE, hD, hb4⟩
  obtain ⟨Ae, ce, rfl, hce, hCE⟩ := Kd.R_form hE (show smallV.exts.length = 0 from rfl)
  obtain ⟨Ad, cd, rfl, hcd, hCD⟩ := Kd.R_form hD (show smallV.data.length = 4 from rfl)
  have B4 := Aside0.mk (below_then B2.out B2.out.size hb4)
  have HC4 := Aside0.mk (Kd.C_below HC.out hb4)
  have HE := Aside0.mk (And.intro hCE hCD)
  clear hE hD hb4 hCE hCD hparse HC
  go_upto_region 3 with (refine wpList_store_new rfl 55 (.tmp 3) (.tmp 13) rfl _ (ipCells smallV (.slice Ae 0 ce) (.slice Ad 4 cd)) rfl rfl (by kernel_rfl) rfl (ipCells_one _ _ _ _ _ _ _) ?_)
  obtain ⟨ad, rfl, c0⟩ := Kd.at_int HC4.out 0 (by omega) (by omega)
  obtain ⟨_, h9', c9⟩ := Kd.at_int HC4.out 9 (by omega) (by omega)
  obtain rfl := Option.some.inj h9'
  rw [show ((0 : Int)).toNat = 0 from rfl, Addr.add_zero', HB.out.2.2.2.1] at c0
  rw [show ((9 : Int)).toNat = 9 from rfl, add_at _ _ (by omega), HB.out.2.2.2.2.1] at c9
  have d0 : (w4.alloc (.cells (ipCells smallV (.slice Ae 0 ce) (.slice Ad 4 cd)) 55)).drew.cell? ad = some (.int .u8 69) := pw_cell_below (below_alloc (Below.refl _ _) _) c0
  have d9 : (w4.alloc (.cells (ipCells smallV (.slice Ae 0 ce) (.slice Ad 4 cd)) 55)).drew.cell? ⟨ad.block, ad.off + 9, none⟩ = some (.int .u8 17) := pw_cell_below (below_alloc (Below.refl _ _) _) c9
  have kd0 : (w4.alloc (.cells (ipCells smallV (.slice Ae 0 ce) (.slice Ad 4 cd)) 55)).drew.cell? ⟨w4.heap.size, 0, none⟩ = some (.int .i64 4) := blk_cell (blk_at (W := w4) rfl) 0
  have kd1 : (w4.alloc (.cells (ipCells smallV (.slice Ae 0 ce) (.slice Ad 4 cd)) 55)).drew.cell? ⟨w4.heap.size, 1, none⟩ = some (.int .i64 4) := blk_cell (blk_at (W := w4) rfl) 1
  have kd2 : (w4.alloc (.cells (ipCells smallV (.slice Ae 0 ce) (.slice Ad 4 cd)) 55)).drew.cell? ⟨w4.heap.size, 2, none⟩ = some (.int .u64 0) := blk_cell (blk_at (W := w4) rfl) 2
  have kd3 : (w4.alloc (.cells (ipCells smallV (.slice Ae 0 ce) (.slice Ad 4 cd)) 55)).drew.cell? ⟨w4.heap.size, 3, none⟩ = some (.int .u64 167772161) := blk_cell (blk_at (W := w4) rfl) 3
  have kd4 : (w4.alloc (.cells (ipCells smallV (.slice Ae 0 ce) (.slice Ad 4 cd)) 55)).drew.cell? ⟨w4.heap.size, 4, none⟩ = some (.int .i64 4) := blk_cell (blk_at (W := w4) rfl) 4
  have kd5 : (w4.alloc (.cells (ipCells smallV (.slice Ae 0 ce) (.slice Ad 4 cd)) 55)).drew.cell? ⟨w4.heap.size, 5, none⟩ = some (.int .u64 0) := blk_cell (blk_at (W := w4) rfl) 5
  have kd6 : (w4.alloc (.cells (ipCells smallV (.slice Ae 0 ce) (.slice Ad 4 cd)) 55)).drew.cell? ⟨w4.heap.size, 6, none⟩ = some (.int .u64 167772162) := blk_cell (blk_at (W := w4) rfl) 6
  have kd7 : (w4.alloc (.cells (ipCells smallV (.slice Ae 0 ce) (.slice Ad 4 cd)) 55)).drew.cell? ⟨w4.heap.size, 7, none⟩ = some (.int .i64 17) := blk_cell (blk_at (W := w4) rfl) 7
  have kd8 : (w4.alloc (.cells (ipCells smallV (.slice Ae 0 ce) (.slice Ad 4 cd)) 55)).drew.cell? ⟨w4.heap.size, 8, none⟩ = some (.int .i64 64) := blk_cell (blk_at (W := w4) rfl) 8
  have kd9 : (w4.alloc (.cells (ipCells smallV (.slice Ae 0 ce) (.slice Ad 4 cd)) 55)).drew.cell? ⟨w4.heap.size, 9, none⟩ = some (.bool false) := blk_cell (blk_at (W := w4) rfl) 9
  have kd10 : (w4.alloc (.cells (ipCells smallV (.slice Ae 0 ce) (.slice Ad 4 cd)) 55)).drew.cell? ⟨w4.heap.size, 10, none⟩ = some (.int .u32 0) := blk_cell (blk_at (W := w4) rfl) 10
  have kd11 : (w4.alloc (.cells (ipCells smallV (.slice Ae 0 ce) (.slice Ad 4 cd)) 55)).drew.cell? ⟨w4.heap.size, 11, none⟩ = some (.int .i64 0) := blk_cell (blk_at (W := w4) rfl) 11
  have kd12 : (w4.alloc (.cells (ipCells smallV (.slice Ae 0 ce) (.slice Ad 4 cd)) 55)).drew.cell? ⟨w4.heap.size, 12, none⟩ = some (.bool false) := blk_cell (blk_at (W := w4) rfl) 12
  have kd13 : (w4.alloc (.cells (ipCells smallV (.slice Ae 0 ce) (.slice Ad 4 cd)) 55)).drew.cell? ⟨w4.heap.size, 13, none⟩ = some (.slice Ae 0 ce) := blk_cell (blk_at (W := w4) rfl) 13
  have kd14 : (w4.alloc (.cells (ipCells smallV (.slice Ae 0 ce) (.slice Ad 4 cd)) 55)).drew.cell? ⟨w4.heap.size, 14, none⟩ = some (.slice Ad 4 cd) := blk_cell (blk_at (W := w4) rfl) 14
  clear c0 c9
  have BA := Aside0.mk (below_drew (below_alloc B4.out (.cells (ipCells smallV (.slice Ae 0 ce) (.slice Ad 4 cd)) 55)))
  have hsame : ∀ W, Below (w4.alloc (.cells (ipCells smallV (.slice Ae 0 ce) (.slice Ad 4 cd)) 55)).heap.size (w4.alloc (.cells (ipCells smallV (.slice Ae 0 ce) (.slice Ad 4 cd)) 55)).drew W → ∀ (Be Bd : Option Addr) (de dd : Nat), 0 ≤ de → 4 ≤ dd → (Kd.int .i64).C W Be 0 [] → (Kd.int .u8).C W Bd 4 [1, 2, 3, 4] → Calls Try.prog 57 #[.agg (ipCells smallV (.slice Ae 0 ce) (.slice Ad 4 cd)), .agg (ipCells smallV (.slice Be 0 de) (.slice Bd 4 dd))] W fun e w' => e = .returned (.bool true) ∧ Below W.heap.size W w' := fun W hW Be Bd de dd hde hdd g1 g2 =>
    SameIp_at (p := smallV) (Kd.C_below (Kd.C_drew (Kd.C_alloc HE.out.1 _)) hW) g1 (Kd.C_below (Kd.C_drew (Kd.C_alloc HE.out.2 _)) hW) g2 (bytes_lit rfl) (by show 0 ≤ _; omega) hcd hdd
  have HS := Aside0.mk hsame
  clear hsame
  go_cut [0] (fun v wc => v = .bool true ∧ Aside0 (Below w.heap.size w wc))
  case first =>
    go_region_held3 (fun w' => w'.cell? ⟨w4.heap.size, 0, none⟩ = some (.int .i64 4) ∧ w'.cell? ⟨w4.heap.size, 1, none⟩ = some (.int .i64 4) ∧ w'.cell? ⟨w4.heap.size, 2, none⟩ = some (.int .u64 0) ∧ w'.cell? ⟨w4.heap.size, 3, none⟩ = some (.int .u64 167772161) ∧ w'.cell? ⟨w4.heap.size, 4, none⟩ = some (.int .i64 4) ∧ w'.cell? ⟨w4.heap.size, 5, none⟩ = some (.int .u64 0) ∧ w'.cell? ⟨w4.heap.size, 6, none⟩ = some (.int .u64 167772162) ∧ w'.cell? ⟨w4.heap.size, 7, none⟩ = some (.int .i64 17) ∧ w'.cell? ⟨w4.heap.size, 8, none⟩ = some (.int .i64 64) ∧ w'.cell? ⟨w4.heap.size, 9, none⟩ = some (.bool false) ∧ w'.cell? ⟨w4.heap.size, 10, none⟩ = some (.int .u32 0) ∧ w'.cell? ⟨w4.heap.size, 11, none⟩ = some (.int .i64 0) ∧ w'.cell? ⟨w4.heap.size, 12, none⟩ = some (.bool false) ∧ w'.cell? ⟨w4.heap.size, 13, none⟩ = some (.slice Ae 0 ce) ∧ w'.cell? ⟨w4.heap.size, 14, none⟩ = some (.slice Ad 4 cd) ∧ w'.cell? ad = some (.int .u8 69) ∧ w'.cell? ⟨ad.block, ad.off + 9, none⟩ = some (.int .u8 17)) (first | with_reducible exact ⟨kd0, kd1, kd2, kd3, kd4, kd5, kd6, kd7, kd8, kd9, kd10, kd11, kd12, kd13, kd14, d0, d9⟩ | with_reducible exact ⟨s0, s1, s2, s3, s4, s5, s6, s7, s8, s9, s10, s11, s12, s13, s14, sa, sb⟩ | with_reducible exact ⟨t0, t1, t2, t3, t4, t5, t6, t7, t8, t9, t10, t11, t12, t13, t14, ta, tb⟩)
      ((first
        | (go_at_call 115; refine (Small_at _).mono ?_; rintro e7 w7 ⟨vE7, vD7, rfl, hE7, hD7, hb7⟩; obtain ⟨Be, de, rfl, hde, hCE7⟩ := Kd.R_form hE7 (show ([] : List Int).length = 0 from rfl); obtain ⟨Bd, dd, rfl, hdd, hCD7⟩ := Kd.R_form hD7 (show ([1, 2, 3, 4] : List Int).length = 4 from rfl); have F7 := Aside0.mk (And.intro hb7 (And.intro hCE7 hCD7)); have t0 := pw_cell_at hb7 kd0; have t1 := pw_cell_at hb7 kd1; have t2 := pw_cell_at hb7 kd2; have t3 := pw_cell_at hb7 kd3; have t4 := pw_cell_at hb7 kd4; have t5 := pw_cell_at hb7 kd5; have t6 := pw_cell_at hb7 kd6; have t7 := pw_cell_at hb7 kd7; have t8 := pw_cell_at hb7 kd8; have t9 := pw_cell_at hb7 kd9; have t10 := pw_cell_at hb7 kd10; have t11 := pw_cell_at hb7 kd11; have t12 := pw_cell_at hb7 kd12; have t13 := pw_cell_at hb7 kd13; have t14 := pw_cell_at hb7 kd14; have ta := pw_cell_at hb7 d0; have tb := pw_cell_at hb7 d9; clear hE7 hD7 hb7 hCE7 hCD7)
        | (go_at_call 57; refine (HS.out w7 F7.out.1 Be Bd de dd hde hdd F7.out.2.1 F7.out.2.2).mono ?_; rintro e8 w8 ⟨rfl, hb8⟩; have F8 := Aside0.mk hb8; have s0 := pw_cell_at hb8 t0; have s1 := pw_cell_at hb8 t1; have s2 := pw_cell_at hb8 t2; have s3 := pw_cell_at hb8 t3; have s4 := pw_cell_at hb8 t4; have s5 := pw_cell_at hb8 t5; have s6 := pw_cell_at hb8 t6; have s7 := pw_cell_at hb8 t7; have s8 := pw_cell_at hb8 t8; have s9 := pw_cell_at hb8 t9; have s10 := pw_cell_at hb8 t10; have s11 := pw_cell_at hb8 t11; have s12 := pw_cell_at hb8 t12; have s13 := pw_cell_at hb8 t13; have s14 := pw_cell_at hb8 t14; have sa := pw_cell_at hb8 ta; have sb := pw_cell_at hb8 tb; clear hb8)))
    go_wp2
    go_meet
    case rel => exact ⟨rfl, ⟨below_then (below_then BA.out BA.out.size F7.out.1) (Nat.le_trans BA.out.size F7.out.1.size) F8.out⟩⟩
  case rest =>
    obtain ⟨rfl, hbw⟩ := hcut
    go_wp2
    go_ret
    exact ⟨rfl, hbw.out⟩
end Go.Proofs.Ytgifcmbknkjemaa.Own
end
section
namespace Go.Proofs.Ytgifcmbknkjemaa.Own
open Go Go.RowKit Go.Proofs.YtgifcmbknkjemaaW.PrintWords Go.Proofs.YtgifcmbknkjemaaW.PrintLast Go.Proofs.YtgifcmbknkjemaaW.PrintMore
set_option linter.unusedVariables false
set_option linter.unusedSimpArgs false
set_option maxHeartbeats 2000000 in
set_option maxRecDepth 100000 in
theorem Bare4_at (w : World) (p : IpV) (vE vD : Value) (h1 : ∃ A n c, vE = .slice A n c) (h2 : ∃ A n c, vD = .slice A n c) :
    Calls Try.prog 69 #[.agg (ipCells p vE vD)] w fun e w' => e = .returned (.agg (ipCells (bare4 p) vE vD)) ∧ Below w.heap.size w w' := by
  obtain ⟨Ae, ne, ce, rfl⟩ := h1
  obtain ⟨Ad, nd, cd, rfl⟩ := h2
  obtain ⟨fam, ⟨s1, s2, s3⟩, ⟨t1, t2, t3⟩, proto, hop, frag, id, off, more, exts, data⟩ := p
  obtain ⟨X, hX⟩ : ∃ X, X = ipCells ⟨fam, (s1, s2, s3), (t1, t2, t3), proto, hop, frag, id, off, more, exts, data⟩ (.slice Ae ne ce) (.slice Ad nd cd) := ⟨_, rfl⟩
  obtain ⟨W1, hW1⟩ : ∃ W1, W1 = (w.alloc (.cells X 55)).alloc (.cells #[.int .i64 0, .int .i64 0, .int .u64 0, .int .u64 0, .int .i64 0, .int .u64 0, .int .u64 0, .int .i64 0, .int .i64 0, .bool false, .int .u32 0, .int .i64 0, .bool false, .slice none 0 0, .slice none 0 0] 55) := ⟨_, rfl⟩
  have BX : Aside0 (W1.heap[w.heap.size]? = some (.cells X 55 (0, 0))) := ⟨by rw [hW1]; exact blk_alloc (blk_at rfl) _⟩
  have BZ : Aside0 (W1.heap[w.heap.size + 1]? = some (.cells #[.int .i64 0, .int .i64 0, .int .u64 0, .int .u64 0, .int .i64 0, .int .u64 0, .int .u64 0, .int .i64 0, .int .i64 0, .bool false, .int .u32 0, .int .i64 0, .bool false, .slice none 0 0, .slice none 0 0] 55 (0, 0))) := ⟨by rw [hW1, ← size_alloc' w (.cells X 55)]; exact blk_at rfl⟩
  have B1 := Aside0.mk (show Below w.heap.size w W1 by rw [hW1]; exact below_alloc (below_alloc (Below.refl _ _) _) _)
  have c9 : W1.cell? ⟨w.heap.size, 9, none⟩ = some (.bool frag) := (blk_cell BX.out 9).trans (by rw [hX]; rfl)
  have c10 : W1.cell? ⟨w.heap.size, 10, none⟩ = some (.int .u32 id) := (blk_cell BX.out 10).trans (by rw [hX]; rfl)
  have c11 : W1.cell? ⟨w.heap.size, 11, none⟩ = some (.int .i64 off) := (blk_cell BX.out 11).trans (by rw [hX]; rfl)
  have c12 : W1.cell? ⟨w.heap.size, 12, none⟩ = some (.bool more) := (blk_cell BX.out 12).trans (by rw [hX]; rfl)
  have f10 : W1.frozen? ⟨w.heap.size, 10, none⟩ = false := blk_frozen BX.out 10
  have f11 : W1.frozen? ⟨w.heap.size, 11, none⟩ = false := blk_frozen BX.out 11
  have f12 : W1.frozen? ⟨w.heap.size, 12, none⟩ = false := blk_frozen BX.out 12
  have HX := Aside0.mk hX
  rw [← hX]
  clear hX
  go_enter Try.func69, Try.ntmps69
  go_upto_region 1 with (fail)
  rw [← hW1]
  clear hW1
  cases hf : frag
  · subst hf
    rw [HX.out] at BX ⊢
    clear HX
    have CX := blk_put (cs' := (ipCells ⟨fam, (s1, s2, s3), (t1, t2, t3), proto, hop, false, 0, off, more, exts, data⟩ (.slice Ae ne ce) (.slice Ad nd cd))) BX.out 10 (.int .u32 0) rfl
    have CX := blk_put (cs' := (ipCells ⟨fam, (s1, s2, s3), (t1, t2, t3), proto, hop, false, 0, 0, more, exts, data⟩ (.slice Ae ne ce) (.slice Ad nd cd))) CX 11 (.int .i64 0) rfl
    have BY := Aside0.mk (blk_put (cs' := (ipCells ⟨fam, (s1, s2, s3), (t1, t2, t3), proto, hop, false, 0, 0, false, exts, data⟩ (.slice Ae ne ce) (.slice Ad nd cd))) CX 12 (.bool false) rfl)
    clear CX
    have nb : ∀ i : Nat, w.heap.size + 1 ≠ ({ block := w.heap.size, off := i } : Addr).block := fun i => by show w.heap.size + 1 ≠ w.heap.size; omega
    have CZ := Aside0.mk (blk_far (blk_far (blk_far BZ.out (nb 10) (.int .u32 0)) (nb 11) (.int .i64 0)) (nb 12) (.bool false))
    have BB : Aside0 (Below w.heap.size w (((W1.setCell ⟨w.heap.size, 10, none⟩ (.int .u32 0)).setCell ⟨w.heap.size, 11, none⟩ (.int .i64 0)).setCell ⟨w.heap.size, 12, none⟩ (.bool false))) := ⟨((B1.out.setCell (Nat.le_refl _) _).setCell (Nat.le_refl _) _).setCell (Nat.le_refl _) _⟩
    clear BX BZ B1
    go_wp2_with (first | (refine wpList_load_row rfl 55 (.tmp 1) rfl w.heap.size rfl 55 (ipCells ⟨fam, (s1, s2, s3), (t1, t2, t3), proto, hop, false, 0, 0, false, exts, data⟩ (.slice Ae ne ce) (.slice Ad nd cd)) (0, 0) _ BY.out Try.underlying55 rfl (by kernel_rfl) ?_) | (refine wpList_store_row rfl 55 (.tmp 2) (.tmp 9) rfl (w.heap.size + 1) (ipCells ⟨fam, (s1, s2, s3), (t1, t2, t3), proto, hop, false, 0, 0, false, exts, data⟩ (.slice Ae ne ce) (.slice Ad nd cd)) rfl rfl 55 _ CZ.out (by kernel_rfl) rfl (ipCells_one _ _ _ _ _ _ _) ?_))
    have DZ := Aside0.mk (setRow_heap _ _ _ (ipCells ⟨fam, (s1, s2, s3), (t1, t2, t3), proto, hop, false, 0, 0, false, exts, data⟩ (.slice Ae ne ce) (.slice Ad nd cd)) _ _ CZ.out)
    refine bodyPost_ret (results_cell_row rfl _ _ (w.heap.size + 1) 55 (ipCells ⟨fam, (s1, s2, s3), (t1, t2, t3), proto, hop, false, 0, 0, false, exts, data⟩ (.slice Ae ne ce) (.slice Ad nd cd)) (0, 0) _ rfl DZ.out Try.underlying55 rfl (by kernel_rfl)) rfl ?_
    exact ⟨by simp [bare4], below_setRow BB.out (by omega) _⟩
  · subst hf
    rw [HX.out] at BX ⊢
    clear HX
    have BY := BX
    have CZ := BZ
    have BB := B1
    clear BX BZ B1
    go_wp2_with (first | (refine wpList_load_row rfl 55 (.tmp 1) rfl w.heap.size rfl 55 (ipCells ⟨fam, (s1, s2, s3), (t1, t2, t3), proto, hop, true, id, off, more, exts, data⟩ (.slice Ae ne ce) (.slice Ad nd cd)) (0, 0) _ BY.out Try.underlying55 rfl (by kernel_rfl) ?_) | (refine wpList_store_row rfl 55 (.tmp 2) (.tmp 9) rfl (w.heap.size + 1) (ipCells ⟨fam, (s1, s2, s3), (t1, t2, t3), proto, hop, true, id, off, more, exts, data⟩ (.slice Ae ne ce) (.slice Ad nd cd)) rfl rfl 55 _ CZ.out (by kernel_rfl) rfl (ipCells_one _ _ _ _ _ _ _) ?_))
    have DZ := Aside0.mk (setRow_heap _ _ _ (ipCells ⟨fam, (s1, s2, s3), (t1, t2, t3), proto, hop, true, id, off, more, exts, data⟩ (.slice Ae ne ce) (.slice Ad nd cd)) _ _ CZ.out)
    refine bodyPost_ret (results_cell_row rfl _ _ (w.heap.size + 1) 55 (ipCells ⟨fam, (s1, s2, s3), (t1, t2, t3), proto, hop, true, id, off, more, exts, data⟩ (.slice Ae ne ce) (.slice Ad nd cd)) (0, 0) _ rfl DZ.out Try.underlying55 rfl (by kernel_rfl)) rfl ?_
    exact ⟨by simp [bare4], below_setRow BB.out (by omega) _⟩
end Go.Proofs.Ytgifcmbknkjemaa.Own
end
section
namespace Go.Proofs.Ytgifcmbknkjemaa.Own
open Go Go.RowKit Go.Proofs.YtgifcmbknkjemaaW.PrintWords Go.Proofs.YtgifcmbknkjemaaW.PrintLast Go.Proofs.YtgifcmbknkjemaaW.PrintMore
set_option linter.unusedVariables false
set_option linter.unusedSimpArgs false
theorem build4_no {p : IpV} (h : may4 p = false) : build4 p = ([], 1) := by unfold build4; rw [h]; rfl
end Go.Proofs.Ytgifcmbknkjemaa.Own
end
section
namespace Go.Proofs.Ytgifcmbknkjemaa.Own
open Go Go.RowKit Go.Proofs.YtgifcmbknkjemaaW.PrintWords Go.Proofs.YtgifcmbknkjemaaW.PrintLast Go.Proofs.YtgifcmbknkjemaaW.PrintMore
set_option linter.unusedVariables false
set_option linter.unusedSimpArgs false
theorem bare4_exts (p : IpV) : (bare4 p).exts = p.exts := by unfold bare4; split <;> rfl
theorem bare4_data (p : IpV) : (bare4 p).data = p.data := by unfold bare4; split <;> rfl
set_option maxHeartbeats 4000000 in
set_option maxRecDepth 100000 in
theorem Ip4Back_walk (w : World) (cs : List Value) (p : IpV) (hk : kdIp.K w p cs) (hg : GoodIp p) :
    Calls Try.prog 17 #[.agg cs.toArray] w fun e w' => e = .returned (.bool true) ∧ Below w.heap.size w w' := by
  obtain ⟨Ae, Ad, ce, cd, hcs, le, ld, he, hd⟩ := kdIp_cells hk
  rw [hcs]
  obtain ⟨ne, hne⟩ : ∃ n, n = p.exts.length := ⟨_, rfl⟩
  obtain ⟨nd, hnd⟩ : ∃ n, n = p.data.length := ⟨_, rfl⟩
  rw [← hne] at le he ⊢
  rw [← hnd] at ld hd ⊢
  have HA : Aside0 (∀ W, Below w.heap.size w W → Calls Try.prog 67 #[.agg (ipCells p (.slice Ae ne ce) (.slice Ad nd cd))] W (BuildPost W (build4 p))) := ⟨fun W hW => Build4_at (Kd.C_below he hW) (Kd.C_below hd hW) le ld hg.ok⟩
  have hok := hg.ok
  cases hm : may4 p with
  | false =>
    rw [build4_no hm] at HA
    clear hk hcs hg hne hnd he hd hm hok
    go_enter Try.func17, Try.ntmps17
    go_wp2_with (refine wpList_load_row rfl 55 (.tmp 1) rfl w.heap.size rfl 55 (ipCells p (.slice Ae ne ce) (.slice Ad nd cd)) (0, 0) _ (blk_at rfl) Try.underlying55 rfl (by kernel_rfl) ?_)
    refine (HA.out _ (below_alloc (Below.refl _ _) _)).mono ?_
    rintro e1 w1 ⟨v, rfl, hv, hb1⟩
    obtain ⟨A1, c1, rfl, hc1, hC1⟩ := Kd.R_form hv (show ([] : List Int).length = 0 from rfl)
    have B1 := Aside0.mk (below_then (below_alloc (Below.refl w.heap.size w) (.cells (ipCells p (.slice Ae ne ce) (.slice Ad nd cd)) 55)) (by rw [size_alloc']; omega) hb1)
    clear hv hb1 hC1
    go_wp2_with (fail)
    refine (Alive3_at _).mono ?_
    rintro e5 w5 ⟨rfl, hb5⟩
    have F5 := Aside0.mk (below_then B1.out B1.out.size hb5)
    clear hb5
    go_wp2
    go_ret
    exact ⟨rfl, F5.out⟩
  | true =>
    have hpb := parse4_build hm hok
    have hby : Bytes (build4 p).1 := by rw [build4_is hm]; exact bytes_append (bytes_H20 (may4_has hm) hok) hok.2.2.2.2
    have hlen : (build4 p).1.length ≤ 65535 := by
      rw [build4_is hm]
      have := (may4_has hm).len
      simp only [List.length_append, H20_len]
      omega
    have hxl : p.exts.length ≤ 1000000000 := by rw [(may4_has hm).exts]; exact Nat.zero_le _
    obtain ⟨B, hB⟩ : ∃ B, build4 p = (B, 0) := ⟨_, build4_is hm⟩
    rw [hB] at HA hpb hby hlen
    simp only at hpb hby hlen
    obtain ⟨q, hq⟩ : ∃ q, q = bare4 p := ⟨_, rfl⟩
    rw [← hq] at hpb
    have hqe : q.exts = p.exts := by rw [hq, bare4_exts]
    have hqd : q.data = p.data := by rw [hq, bare4_data]
    have HBR : Aside0 (∀ W : World, Calls Try.prog 69 #[.agg (ipCells p (.slice Ae ne ce) (.slice Ad nd cd))] W fun e w' => e = .returned (.agg (ipCells q (.slice Ae ne ce) (.slice Ad nd cd))) ∧ Below W.heap.size W w') := ⟨fun W => by rw [hq]; exact Bare4_at W p _ _ ⟨_, _, _, rfl⟩ ⟨_, _, _, rfl⟩⟩
    have HSM : Aside0 (∀ (W : World) (Be Bd : Option Addr) (de dd : Nat), Below w.heap.size w W → nd ≤ dd → (Kd.int .i64).C W Be ne q.exts → (Kd.int .u8).C W Bd nd q.data → Calls Try.prog 57 #[.agg (ipCells q (.slice Be ne de) (.slice Bd nd dd)), .agg (ipCells q (.slice Ae ne ce) (.slice Ad nd cd))] W fun e w' => e = .returned (.bool true) ∧ Below W.heap.size W w') := ⟨fun W Be Bd de dd hW hdd g1 g2 => by
      have e1 : q.exts.length = ne := by rw [hqe, hne]
      have e2 : q.data.length = nd := by rw [hqd, hnd]
      have he' : (Kd.int .i64).C W Ae ne q.exts := by rw [hqe]; exact Kd.C_below he hW
      have hd' : (Kd.int .u8).C W Ad nd q.data := by rw [hqd]; exact Kd.C_below hd hW
      have hy : Bytes q.data := by rw [hqd]; exact hok.2.2.2.2
      have hx : q.exts.length ≤ 1000000000 := by rw [hqe]; exact hxl
      clear hk hcs hg hne hnd he hd hm hok hpb hby hlen hB HA HBR hxl hq hqe hqd
      subst e1 e2
      exact SameIp_at g1 he' g2 hd' hy hx hdd ld⟩
    have e1 : q.exts.length = ne := by rw [hqe, hne]
    have e2 : q.data.length = nd := by rw [hqd, hnd]
    obtain ⟨n, hn⟩ : ∃ n, B.length = n := ⟨_, rfl⟩
    rw [hn] at hlen
    have HS := Aside0.mk (And.intro hpb (And.intro hby (And.intro hn (And.intro e1 e2))))
    clear hk hcs hg hne hnd he hd hm hok hpb hby hB hn hq hqe hqd e1 e2 hxl
    go_enter Try.func17, Try.ntmps17
    go_wp2_with (refine wpList_load_row rfl 55 (.tmp 1) rfl w.heap.size rfl 55 (ipCells p (.slice Ae ne ce) (.slice Ad nd cd)) (0, 0) _ (blk_at rfl) Try.underlying55 rfl (by kernel_rfl) ?_)
    refine (HA.out _ (below_alloc (Below.refl _ _) _)).mono ?_
    rintro e1 w1 ⟨v, rfl, hv, hb1⟩
    obtain ⟨A1, c1, rfl, hc1, hC1⟩ := Kd.R_form hv HS.out.2.2.1
    have HX1 := Aside0.mk ((hb1.block _ (by rw [size_alloc']; omega)).trans (blk_at (W := w) (o := .cells (ipCells p (.slice Ae ne ce) (.slice Ad nd cd)) 55) rfl))
    have B1 := Aside0.mk (below_then (below_alloc (Below.refl w.heap.size w) (.cells (ipCells p (.slice Ae ne ce) (.slice Ad nd cd)) 55)) (by rw [size_alloc']; omega) hb1)
    have C1 := Aside0.mk hC1
    have L1 : Aside0 (w.heap.size < w1.heap.size) := ⟨by have := hb1.size; rw [size_alloc'] at this; omega⟩
    clear hv hb1 hC1 HA
    have hparse := Parse4_at C1.out hc1 HS.out.2.1 (by omega)
    rw [HS.out.1] at hparse
    have HP := Aside0.mk hparse
    clear hparse
    go_wp2_with (fail)
    refine HP.out.mono ?_
    rintro e2 w2 ⟨vE, vD, rfl, hE, hD, hb2⟩
    obtain ⟨Be, de, rfl, hde, hCE⟩ := Kd.R_form hE HS.out.2.2.2.1
    obtain ⟨Bd, dd, rfl, hdd, hCD⟩ := Kd.R_form hD HS.out.2.2.2.2
    have B2 := Aside0.mk (below_then B1.out B1.out.size hb2)
    have HX2 := Aside0.mk ((hb2.block _ L1.out).trans HX1.out)
    have HE := Aside0.mk (And.intro hCE hCD)
    clear hE hD hb2 hCE hCD HP HX1 L1 C1
    go_upto_region 5 with (refine wpList_store_new rfl 55 (.tmp 5) (.tmp 23) rfl _ (ipCells q (.slice Be ne de) (.slice Bd nd dd)) rfl rfl (by kernel_rfl) rfl (ipCells_one _ _ _ _ _ _ _) ?_)
    have HQQ : Aside0 ((w2.alloc (.cells (ipCells q (.slice Be ne de) (.slice Bd nd dd)) 55)).drew.heap[w2.heap.size]? = some (.cells (ipCells q (.slice Be ne de) (.slice Bd nd dd)) 55 (0, 0))) := ⟨blk_drew (blk_at rfl)⟩
    have HXX : Aside0 ((w2.alloc (.cells (ipCells q (.slice Be ne de) (.slice Bd nd dd)) 55)).drew.heap[w.heap.size]? = some (.cells (ipCells p (.slice Ae ne ce) (.slice Ad nd cd)) 55 (0, 0))) := ⟨blk_drew (blk_alloc HX2.out _)⟩
    have BA := Aside0.mk (show Below w.heap.size w (w2.alloc (.cells (ipCells q (.slice Be ne de) (.slice Bd nd dd)) 55)).drew from below_drew (below_alloc B2.out _))
    have HSS : Aside0 (∀ W, Below (w2.alloc (.cells (ipCells q (.slice Be ne de) (.slice Bd nd dd)) 55)).drew.heap.size (w2.alloc (.cells (ipCells q (.slice Be ne de) (.slice Bd nd dd)) 55)).drew W → Calls Try.prog 57 #[.agg (ipCells q (.slice Be ne de) (.slice Bd nd dd)), .agg (ipCells q (.slice Ae ne ce) (.slice Ad nd cd))] W fun e w' => e = .returned (.bool true) ∧ Below W.heap.size W w') := ⟨fun W hW => HSM.out W Be Bd de dd (below_then BA.out BA.out.size hW) hdd (Kd.C_below (Kd.C_drew (Kd.C_alloc HE.out.1 _)) hW) (Kd.C_below (Kd.C_drew (Kd.C_alloc HE.out.2 _)) hW)⟩
    clear HSM HX2 B2 HE
    go_cut [2] (fun v wc => v = .bool true ∧ Aside0 (Below w.heap.size w wc))
    case first =>
      have kp0 : (w2.alloc (.cells (ipCells q (.slice Be ne de) (.slice Bd nd dd)) 55)).drew.cell? ⟨w.heap.size, 0, none⟩ = some (.int .i64 p.fam) := blk_cell HXX.out 0
      have kp1 : (w2.alloc (.cells (ipCells q (.slice Be ne de) (.slice Bd nd dd)) 55)).drew.cell? ⟨w.heap.size, 1, none⟩ = some (.int .i64 p.src.1) := blk_cell HXX.out 1
      have kp2 : (w2.alloc (.cells (ipCells q (.slice Be ne de) (.slice Bd nd dd)) 55)).drew.cell? ⟨w.heap.size, 2, none⟩ = some (.int .u64 p.src.2.1) := blk_cell HXX.out 2
      have kp3 : (w2.alloc (.cells (ipCells q (.slice Be ne de) (.slice Bd nd dd)) 55)).drew.cell? ⟨w.heap.size, 3, none⟩ = some (.int .u64 p.src.2.2) := blk_cell HXX.out 3
      have kp4 : (w2.alloc (.cells (ipCells q (.slice Be ne de) (.slice Bd nd dd)) 55)).drew.cell? ⟨w.heap.size, 4, none⟩ = some (.int .i64 p.dst.1) := blk_cell HXX.out 4
      have kp5 : (w2.alloc (.cells (ipCells q (.slice Be ne de) (.slice Bd nd dd)) 55)).drew.cell? ⟨w.heap.size, 5, none⟩ = some (.int .u64 p.dst.2.1) := blk_cell HXX.out 5
      have kp6 : (w2.alloc (.cells (ipCells q (.slice Be ne de) (.slice Bd nd dd)) 55)).drew.cell? ⟨w.heap.size, 6, none⟩ = some (.int .u64 p.dst.2.2) := blk_cell HXX.out 6
      have kp7 : (w2.alloc (.cells (ipCells q (.slice Be ne de) (.slice Bd nd dd)) 55)).drew.cell? ⟨w.heap.size, 7, none⟩ = some (.int .i64 p.proto) := blk_cell HXX.out 7
      have kp8 : (w2.alloc (.cells (ipCells q (.slice Be ne de) (.slice Bd nd dd)) 55)).drew.cell? ⟨w.heap.size, 8, none⟩ = some (.int .i64 p.hop) := blk_cell HXX.out 8
      have kp9 : (w2.alloc (.cells (ipCells q (.slice Be ne de) (.slice Bd nd dd)) 55)).drew.cell? ⟨w.heap.size, 9, none⟩ = some (.bool p.frag) := blk_cell HXX.out 9
      have kp10 : (w2.alloc (.cells (ipCells q (.slice Be ne de) (.slice Bd nd dd)) 55)).drew.cell? ⟨w.heap.size, 10, none⟩ = some (.int .u32 p.id) := blk_cell HXX.out 10
      have kp11 : (w2.alloc (.cells (ipCells q (.slice Be ne de) (.slice Bd nd dd)) 55)).drew.cell? ⟨w.heap.size, 11, none⟩ = some (.int .i64 p.off) := blk_cell HXX.out 11
      have kp12 : (w2.alloc (.cells (ipCells q (.slice Be ne de) (.slice Bd nd dd)) 55)).drew.cell? ⟨w.heap.size, 12, none⟩ = some (.bool p.more) := blk_cell HXX.out 12
      have kp13 : (w2.alloc (.cells (ipCells q (.slice Be ne de) (.slice Bd nd dd)) 55)).drew.cell? ⟨w.heap.size, 13, none⟩ = some (.slice Ae ne ce) := blk_cell HXX.out 13
      have kp14 : (w2.alloc (.cells (ipCells q (.slice Be ne de) (.slice Bd nd dd)) 55)).drew.cell? ⟨w.heap.size, 14, none⟩ = some (.slice Ad nd cd) := blk_cell HXX.out 14
      have kq0 : (w2.alloc (.cells (ipCells q (.slice Be ne de) (.slice Bd nd dd)) 55)).drew.cell? ⟨w2.heap.size, 0, none⟩ = some (.int .i64 q.fam) := blk_cell HQQ.out 0
      have kq1 : (w2.alloc (.cells (ipCells q (.slice Be ne de) (.slice Bd nd dd)) 55)).drew.cell? ⟨w2.heap.size, 1, none⟩ = some (.int .i64 q.src.1) := blk_cell HQQ.out 1
      have kq2 : (w2.alloc (.cells (ipCells q (.slice Be ne de) (.slice Bd nd dd)) 55)).drew.cell? ⟨w2.heap.size, 2, none⟩ = some (.int .u64 q.src.2.1) := blk_cell HQQ.out 2
      have kq3 : (w2.alloc (.cells (ipCells q (.slice Be ne de) (.slice Bd nd dd)) 55)).drew.cell? ⟨w2.heap.size, 3, none⟩ = some (.int .u64 q.src.2.2) := blk_cell HQQ.out 3
      have kq4 : (w2.alloc (.cells (ipCells q (.slice Be ne de) (.slice Bd nd dd)) 55)).drew.cell? ⟨w2.heap.size, 4, none⟩ = some (.int .i64 q.dst.1) := blk_cell HQQ.out 4
      have kq5 : (w2.alloc (.cells (ipCells q (.slice Be ne de) (.slice Bd nd dd)) 55)).drew.cell? ⟨w2.heap.size, 5, none⟩ = some (.int .u64 q.dst.2.1) := blk_cell HQQ.out 5
      have kq6 : (w2.alloc (.cells (ipCells q (.slice Be ne de) (.slice Bd nd dd)) 55)).drew.cell? ⟨w2.heap.size, 6, none⟩ = some (.int .u64 q.dst.2.2) := blk_cell HQQ.out 6
      have kq7 : (w2.alloc (.cells (ipCells q (.slice Be ne de) (.slice Bd nd dd)) 55)).drew.cell? ⟨w2.heap.size, 7, none⟩ = some (.int .i64 q.proto) := blk_cell HQQ.out 7
      have kq8 : (w2.alloc (.cells (ipCells q (.slice Be ne de) (.slice Bd nd dd)) 55)).drew.cell? ⟨w2.heap.size, 8, none⟩ = some (.int .i64 q.hop) := blk_cell HQQ.out 8
      have kq9 : (w2.alloc (.cells (ipCells q (.slice Be ne de) (.slice Bd nd dd)) 55)).drew.cell? ⟨w2.heap.size, 9, none⟩ = some (.bool q.frag) := blk_cell HQQ.out 9
      have kq10 : (w2.alloc (.cells (ipCells q (.slice Be ne de) (.slice Bd nd dd)) 55)).drew.cell? ⟨w2.heap.size, 10, none⟩ = some (.int .u32 q.id) := blk_cell HQQ.out 10
      have kq11 : (w2.alloc (.cells (ipCells q (.slice Be ne de) (.slice Bd nd dd)) 55)).drew.cell? ⟨w2.heap.size, 11, none⟩ = some (.int .i64 q.off) := blk_cell HQQ.out 11
      have kq12 : (w2.alloc (.cells (ipCells q (.slice Be ne de) (.slice Bd nd dd)) 55)).drew.cell? ⟨w2.heap.size, 12, none⟩ = some (.bool q.more) := blk_cell HQQ.out 12
      have kq13 : (w2.alloc (.cells (ipCells q (.slice Be ne de) (.slice Bd nd dd)) 55)).drew.cell? ⟨w2.heap.size, 13, none⟩ = some (.slice Be ne de) := blk_cell HQQ.out 13
      have kq14 : (w2.alloc (.cells (ipCells q (.slice Be ne de) (.slice Bd nd dd)) 55)).drew.cell? ⟨w2.heap.size, 14, none⟩ = some (.slice Bd nd dd) := blk_cell HQQ.out 14
      clear HQQ HXX
      go_region_held3 (fun w' => w'.cell? ⟨w.heap.size, 0, none⟩ = some (.int .i64 p.fam) ∧ w'.cell? ⟨w.heap.size, 1, none⟩ = some (.int .i64 p.src.1) ∧ w'.cell? ⟨w.heap.size, 2, none⟩ = some (.int .u64 p.src.2.1) ∧ w'.cell? ⟨w.heap.size, 3, none⟩ = some (.int .u64 p.src.2.2) ∧ w'.cell? ⟨w.heap.size, 4, none⟩ = some (.int .i64 p.dst.1) ∧ w'.cell? ⟨w.heap.size, 5, none⟩ = some (.int .u64 p.dst.2.1) ∧ w'.cell? ⟨w.heap.size, 6, none⟩ = some (.int .u64 p.dst.2.2) ∧ w'.cell? ⟨w.heap.size, 7, none⟩ = some (.int .i64 p.proto) ∧ w'.cell? ⟨w.heap.size, 8, none⟩ = some (.int .i64 p.hop) ∧ w'.cell? ⟨w.heap.size, 9, none⟩ = some (.bool p.frag) ∧ w'.cell? ⟨w.heap.size, 10, none⟩ = some (.int .u32 p.id) ∧ w'.cell? ⟨w.heap.size, 11, none⟩ = some (.int .i64 p.off) ∧ w'.cell? ⟨w.heap.size, 12, none⟩ = some (.bool p.more) ∧ w'.cell? ⟨w.heap.size, 13, none⟩ = some (.slice Ae ne ce) ∧ w'.cell? ⟨w.heap.size, 14, none⟩ = some (.slice Ad nd cd) ∧ w'.cell? ⟨w2.heap.size, 0, none⟩ = some (.int .i64 q.fam) ∧ w'.cell? ⟨w2.heap.size, 1, none⟩ = some (.int .i64 q.src.1) ∧ w'.cell? ⟨w2.heap.size, 2, none⟩ = some (.int .u64 q.src.2.1) ∧ w'.cell? ⟨w2.heap.size, 3, none⟩ = some (.int .u64 q.src.2.2) ∧ w'.cell? ⟨w2.heap.size, 4, none⟩ = some (.int .i64 q.dst.1) ∧ w'.cell? ⟨w2.heap.size, 5, none⟩ = some (.int .u64 q.dst.2.1) ∧ w'.cell? ⟨w2.heap.size, 6, none⟩ = some (.int .u64 q.dst.2.2) ∧ w'.cell? ⟨w2.heap.size, 7, none⟩ = some (.int .i64 q.proto) ∧ w'.cell? ⟨w2.heap.size, 8, none⟩ = some (.int .i64 q.hop) ∧ w'.cell? ⟨w2.heap.size, 9, none⟩ = some (.bool q.frag) ∧ w'.cell? ⟨w2.heap.size, 10, none⟩ = some (.int .u32 q.id) ∧ w'.cell? ⟨w2.heap.size, 11, none⟩ = some (.int .i64 q.off) ∧ w'.cell? ⟨w2.heap.size, 12, none⟩ = some (.bool q.more) ∧ w'.cell? ⟨w2.heap.size, 13, none⟩ = some (.slice Be ne de) ∧ w'.cell? ⟨w2.heap.size, 14, none⟩ = some (.slice Bd nd dd)) (first | with_reducible exact ⟨kp0, kp1, kp2, kp3, kp4, kp5, kp6, kp7, kp8, kp9, kp10, kp11, kp12, kp13, kp14, kq0, kq1, kq2, kq3, kq4, kq5, kq6, kq7, kq8, kq9, kq10, kq11, kq12, kq13, kq14⟩ | with_reducible exact ⟨up0, up1, up2, up3, up4, up5, up6, up7, up8, up9, up10, up11, up12, up13, up14, uq0, uq1, uq2, uq3, uq4, uq5, uq6, uq7, uq8, uq9, uq10, uq11, uq12, uq13, uq14⟩ | with_reducible exact ⟨tp0, tp1, tp2, tp3, tp4, tp5, tp6, tp7, tp8, tp9, tp10, tp11, tp12, tp13, tp14, tq0, tq1, tq2, tq3, tq4, tq5, tq6, tq7, tq8, tq9, tq10, tq11, tq12, tq13, tq14⟩ | with_reducible exact ⟨rp0, rp1, rp2, rp3, rp4, rp5, rp6, rp7, rp8, rp9, rp10, rp11, rp12, rp13, rp14, rq0, rq1, rq2, rq3, rq4, rq5, rq6, rq7, rq8, rq9, rq10, rq11, rq12, rq13, rq14⟩)
        ((first
          | (go_at_call 69; refine (HBR.out _).mono ?_; rintro e7 w7 ⟨rfl, hb7⟩; have F7 := Aside0.mk hb7; have rp0 := pw_cell_at hb7 kp0; have rp1 := pw_cell_at hb7 kp1; have rp2 := pw_cell_at hb7 kp2; have rp3 := pw_cell_at hb7 kp3; have rp4 := pw_cell_at hb7 kp4; have rp5 := pw_cell_at hb7 kp5; have rp6 := pw_cell_at hb7 kp6; have rp7 := pw_cell_at hb7 kp7; have rp8 := pw_cell_at hb7 kp8; have rp9 := pw_cell_at hb7 kp9; have rp10 := pw_cell_at hb7 kp10; have rp11 := pw_cell_at hb7 kp11; have rp12 := pw_cell_at hb7 kp12; have rp13 := pw_cell_at hb7 kp13; have rp14 := pw_cell_at hb7 kp14; have rq0 := pw_cell_at hb7 kq0; have rq1 := pw_cell_at hb7 kq1; have rq2 := pw_cell_at hb7 kq2; have rq3 := pw_cell_at hb7 kq3; have rq4 := pw_cell_at hb7 kq4; have rq5 := pw_cell_at hb7 kq5; have rq6 := pw_cell_at hb7 kq6; have rq7 := pw_cell_at hb7 kq7; have rq8 := pw_cell_at hb7 kq8; have rq9 := pw_cell_at hb7 kq9; have rq10 := pw_cell_at hb7 kq10; have rq11 := pw_cell_at hb7 kq11; have rq12 := pw_cell_at hb7 kq12; have rq13 := pw_cell_at hb7 kq13; have rq14 := pw_cell_at hb7 kq14; clear hb7)
          | (go_at_call 57; refine (HSS.out w7 F7.out).mono ?_; rintro e8 w8 ⟨rfl, hb8⟩; have F8 := Aside0.mk hb8; have tp0 := pw_cell_at hb8 rp0; have tp1 := pw_cell_at hb8 rp1; have tp2 := pw_cell_at hb8 rp2; have tp3 := pw_cell_at hb8 rp3; have tp4 := pw_cell_at hb8 rp4; have tp5 := pw_cell_at hb8 rp5; have tp6 := pw_cell_at hb8 rp6; have tp7 := pw_cell_at hb8 rp7; have tp8 := pw_cell_at hb8 rp8; have tp9 := pw_cell_at hb8 rp9; have tp10 := pw_cell_at hb8 rp10; have tp11 := pw_cell_at hb8 rp11; have tp12 := pw_cell_at hb8 rp12; have tp13 := pw_cell_at hb8 rp13; have tp14 := pw_cell_at hb8 rp14; have tq0 := pw_cell_at hb8 rq0; have tq1 := pw_cell_at hb8 rq1; have tq2 := pw_cell_at hb8 rq2; have tq3 := pw_cell_at hb8 rq3; have tq4 := pw_cell_at hb8 rq4; have tq5 := pw_cell_at hb8 rq5; have tq6 := pw_cell_at hb8 rq6; have tq7 := pw_cell_at hb8 rq7; have tq8 := pw_cell_at hb8 rq8; have tq9 := pw_cell_at hb8 rq9; have tq10 := pw_cell_at hb8 rq10; have tq11 := pw_cell_at hb8 rq11; have tq12 := pw_cell_at hb8 rq12; have tq13 := pw_cell_at hb8 rq13; have tq14 := pw_cell_at hb8 rq14; clear hb8)
          | (go_at_call 66; refine (Alive3_at _).mono ?_; rintro e9 w9 ⟨rfl, hb9⟩; have F9 := Aside0.mk hb9; have up0 := pw_cell_at hb9 tp0; have up1 := pw_cell_at hb9 tp1; have up2 := pw_cell_at hb9 tp2; have up3 := pw_cell_at hb9 tp3; have up4 := pw_cell_at hb9 tp4; have up5 := pw_cell_at hb9 tp5; have up6 := pw_cell_at hb9 tp6; have up7 := pw_cell_at hb9 tp7; have up8 := pw_cell_at hb9 tp8; have up9 := pw_cell_at hb9 tp9; have up10 := pw_cell_at hb9 tp10; have up11 := pw_cell_at hb9 tp11; have up12 := pw_cell_at hb9 tp12; have up13 := pw_cell_at hb9 tp13; have up14 := pw_cell_at hb9 tp14; have uq0 := pw_cell_at hb9 tq0; have uq1 := pw_cell_at hb9 tq1; have uq2 := pw_cell_at hb9 tq2; have uq3 := pw_cell_at hb9 tq3; have uq4 := pw_cell_at hb9 tq4; have uq5 := pw_cell_at hb9 tq5; have uq6 := pw_cell_at hb9 tq6; have uq7 := pw_cell_at hb9 tq7; have uq8 := pw_cell_at hb9 tq8; have uq9 := pw_cell_at hb9 tq9; have uq10 := pw_cell_at hb9 tq10; have uq11 := pw_cell_at hb9 tq11; have uq12 := pw_cell_at hb9 tq12; have uq13 := pw_cell_at hb9 tq13; have uq14 := pw_cell_at hb9 tq14; clear hb9)))
      go_wp2
      go_meet
      case rel => exact ⟨rfl, ⟨below_then (below_then (below_then BA.out BA.out.size F7.out) (Nat.le_trans BA.out.size F7.out.size) F8.out) (Nat.le_trans BA.out.size (Nat.le_trans F7.out.size F8.out.size)) F9.out⟩⟩
    case rest =>
      obtain ⟨rfl, hbw⟩ := hcut
      go_wp2
      go_ret
      exact ⟨rfl, hbw.out⟩
end Go.Proofs.Ytgifcmbknkjemaa.Own
end
