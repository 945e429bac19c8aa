/- What the law Ip4Behind rests on, part 21: contracts of the functions that it calls, and plain lemmas. No condition. -/
import Derived.Test.YtgifcmbknkjemaaZIp4Behind20
section
namespace Go.Proofs.Ytgifcmbknkjemaa.Own
open Go Go.RowKit Go.Proofs.YtgifcmbknkjemaaW.PrintWords Go.Proofs.YtgifcmbknkjemaaW.PrintLast Go.Proofs.Ytgifcmbknkjemaa.QQ
set_option linter.unusedVariables false
set_option linter.unusedSimpArgs false
def onIp {α : Type} (f : Int → Int → Int → Int → Int → Int → Int → Int → Int → Bool → Int → Int → Bool → List Int → List Int → α) (p : IpV) : α :=
  f p.fam p.src.1 p.src.2.1 p.src.2.2 p.dst.1 p.dst.2.1 p.dst.2.2 p.proto p.hop p.frag p.id p.off p.more p.exts p.data
theorem four_is {a : Int × Int × Int} (ha : okA a) : ip4_may_1.f a.1 a.2.1 a.2.2 = some (four a) := by
  unfold ip4_may_1.f four
  by_cases h : a.1 = 4
  · rw [if_pos h]
    unfold addr_Right.f
    rw [if_pos ⟨ha.1, ha.2⟩]
    simp only [h, decide_true, Bool.true_and, Option.bind_some]
    exact congrArg some (congrArg rightA (by rw [← h]))
  · rw [if_neg h]
    simp [h]
theorem byte1_is (n : Int) : ip4_byte1.f n = some (decide (0 ≤ n ∧ n ≤ 255)) := by
  unfold ip4_byte1.f
  by_cases h : n ≥ 0
  · rw [if_pos h]
    have : (0 ≤ n ∧ n ≤ 255) ↔ n ≤ 255 := ⟨fun h => h.2, fun h2 => ⟨h, h2⟩⟩
    simp [this]
  · rw [if_neg h]
    have : ¬ (0 ≤ n ∧ n ≤ 255) := fun h2 => h h2.1
    simp [this]
def tail4 (fr mo : Bool) (off : Int) (da : List Int) : Bool := !(mo && decide (da.length % 8 ≠ 0)) && (!fr || mo || decide (0 < off))
theorem may4_j2 (k : Nat) (x : Bool) (f s1 s2 s3 t1 t2 t3 pr h : Int) (fr : Bool) (id off : Int) (mo : Bool) (ex da : List Int) :
    ip4_may.j2 (k + 1) x f s1 s2 s3 t1 t2 t3 pr h fr id off mo ex da = some (!x && tail4 fr mo off da) := by
  rw [ip4_may.j2]
  unfold tail4
  by_cases hd : da.length % 8 = 0
  · have hd' : ((da.length : Int) % 8) = 0 := by omega
    rw [if_pos hd']
    cases x <;> cases mo <;> cases fr <;> simp [hd]
  · have hd' : ¬ ((da.length : Int) % 8) = 0 := by omega
    rw [if_neg hd']
    cases x <;> cases mo <;> cases fr <;> simp [hd]
theorem tmod8 {x : Int} (h : 0 ≤ x) : Int.tmod x 8 = x % 8 := Int.tmod_eq_emod_of_nonneg h
theorem may4_j1 (k : Nat) (x : Bool) (f s1 s2 s3 t1 t2 t3 pr h : Int) (fr : Bool) (id off : Int) (mo : Bool) (ex da : List Int) :
    ip4_may.j1 (k + 2) x f s1 s2 s3 t1 t2 t3 pr h fr id off mo ex da = some (!x && (decide (da.length ≤ 65515) && decide (0 ≤ off) && decide (off % 8 = 0) && decide (off + da.length ≤ 65515) && tail4 fr mo off da)) := by
  rw [ip4_may.j1]
  cases x with
  | true => simp
  | false =>
    rw [if_neg (by simp)]
    by_cases c1 : (da.length : Int) > 65515
    · rw [if_pos c1, may4_j2]
      have : ¬ da.length ≤ 65515 := by omega
      simp [this]
    rw [if_neg c1]
    have e1 : da.length ≤ 65515 := by omega
    by_cases c2 : off < 0
    · rw [if_pos c2, may4_j2]
      have : ¬ 0 ≤ off := by omega
      simp [this]
    rw [if_neg c2]
    have e2 : 0 ≤ off := by omega
    rw [tmod8 e2]
    by_cases c3 : off % 8 = 0
    · rw [if_pos c3, may4_j2, w64 _ (by omega) (by omega)]
      by_cases c4 : off > 65515 - (da.length : Int)
      · have : ¬ off + (da.length : Int) ≤ 65515 := by omega
        simp [c4, this]
      · have : off + (da.length : Int) ≤ 65515 := by omega
        simp [c4, this, e1, e2, c3]
    · rw [if_neg c3, may4_j2]
      simp [c3]
theorem may4_j0 (k : Nat) (x : Bool) (f s1 s2 s3 t1 t2 t3 pr h : Int) (fr : Bool) (id off : Int) (mo : Bool) (ex da : List Int) :
    ip4_may.j0 (k + 3) x f s1 s2 s3 t1 t2 t3 pr h fr id off mo ex da = some (!x && (decide (0 ≤ pr ∧ pr ≤ 255) && decide (1 ≤ h ∧ h ≤ 255) && decide (id ≤ 65535) && (decide (da.length ≤ 65515) && decide (0 ≤ off) && decide (off % 8 = 0) && decide (off + da.length ≤ 65515) && tail4 fr mo off da))) := by
  rw [ip4_may.j0]
  cases x with
  | true => simp
  | false =>
    rw [if_neg (by simp), byte1_is, byte1_is]
    simp only [Option.bind_some]
    by_cases c1 : 0 ≤ pr ∧ pr ≤ 255
    · rw [if_pos (by simpa using c1)]
      by_cases c2 : 0 ≤ h ∧ h ≤ 255
      · rw [if_pos (by simpa using c2)]
        by_cases c3 : h = 0
        · rw [if_pos c3, may4_j1]
          have : ¬ (1 ≤ h ∧ h ≤ 255) := by omega
          simp [this]
        · rw [if_neg c3, may4_j1]
          have e : 1 ≤ h ∧ h ≤ 255 := by omega
          by_cases c4 : id > 65535
          · have : ¬ id ≤ 65535 := by omega
            simp [c4, this]
          · have : id ≤ 65535 := by omega
            simp [c4, this, c1, e]
      · rw [if_neg (by simpa using c2), may4_j1]
        have : ¬ (1 ≤ h ∧ h ≤ 255) := by omega
        simp [this]
    · rw [if_neg (by simpa using c1), may4_j1]
      simp [c1]
theorem ip4_may_some (p : IpV) (hs : okA p.src) (hd : okA p.dst) (k : Nat) : onIp (ip4_may.f (k + 3)) p = some (may4 p) := by
  obtain ⟨fam, src, dst, proto, hop, frag, id, off, more, exts, data⟩ := p
  unfold onIp ip4_may.f may4
  simp only at hs hd ⊢
  by_cases c1 : fam = 4
  · rw [if_pos c1, four_is hs, four_is hd]
    simp only [Option.bind_some]
    cases four src with
    | false => rw [if_neg (by simp), may4_j0]; simp
    | true =>
      cases four dst with
      | false => rw [if_pos rfl, if_neg (by simp), may4_j0]; simp
      | true =>
        rw [if_pos rfl, if_pos rfl, may4_j0]
        by_cases c2 : exts.length = 0
        · have : ¬ ((exts.length : Int) > 0) := by omega
          simp [c1, c2, this, tail4, Bool.and_assoc]
        · have : (exts.length : Int) > 0 := by omega
          simp [c1, c2, this]
  · rw [if_neg c1, may4_j0]
    simp [c1]
theorem or8192 (x : Int) (h0 : 0 ≤ x) (h1 : x < 8192) : Go.bits .or .i64 x 8192 = x + 8192 := by
  have h := bits_join .i64 63 (by decide) wraps_i64 13 8192 x (by omega) (by omega) (by omega) h0 (by omega) (by omega)
  have hc : Go.bits .or .i64 x 8192 = Go.bits .or .i64 8192 x := by
    simp only [Go.bits]
    rw [BitVec.or_comm]
  rw [hc, h]
  omega
theorem head4_len (p : IpV) : (head4 p).length = 10 := rfl
theorem okP_two {a b : List Int} (ha : Bytes a) (hb : Bytes b) (hla : a.length ≤ 1000) (hlb : b.length ≤ 140737488353000) : okP [a, b] = true := okP_iff.2 ⟨by simp, fun p hp => by
  simp at hp
  rcases hp with rfl | rfl
  · exact ⟨ha, by omega⟩
  · exact ⟨hb, by omega⟩⟩
theorem bytes_lit {l : List Int} (h : okB l = true) : Bytes l := okB_iff.1 h
theorem bytes_two (a b : Int) : Bytes [a % 256, b % 256] := fun c hc => by
  simp at hc
  omega
theorem bytes_head4 (p : IpV) : Bytes (head4 p) := by
  unfold head4
  exact bytes_append (bytes_put16 (bytes_put16 (bytes_put16 (bytes_lit rfl) _) _) _) (bytes_two _ _)
theorem bytes_ends4 (p : IpV) : Bytes (ends4 p) := bytes_append (bytes_bytesA _) (bytes_bytesA _)
theorem put16_some {l : List Int} (n : Int) (h : l.length ≤ 140737488355000) : QQ.wire_Put16.f l n = some (put16 l n) := by unfold QQ.wire_Put16.f wire_Put16.f; rw [if_pos h]
theorem put16_len (l : List Int) (n : Int) : (put16 l n).length = l.length + 2 := by unfold put16; simp
theorem bytesA_some {a : Int × Int × Int} (ha : okA a) : addr_Bytes.f a.1 a.2.1 a.2.2 = some (bytesA a) := by unfold addr_Bytes.f; rw [if_pos ⟨ha.1, ha.2⟩]
theorem bytesA_le (a : Int × Int × Int) : (bytesA a).length ≤ 16 := by
  unfold bytesA
  split
  · split <;> simp [d4, d8]
  · simp
theorem build4_j0 (k : Nat) (p : IpV) (hs : okA p.src) (hd : okA p.dst) (hl : p.data.length ≤ 65515) (i o : Int) (hi : i = if p.frag = true then p.id else 0) (ho : o = if p.frag = true then p.off / 8 + (if p.more = true then 8192 else 0) else 0) :
    onIp (ip4_Build.j0 (k + 1) i o) p = some (put16 (head4 p) (65535 - sumOf [head4 p, ends4 p]) ++ ends4 p ++ p.data, 0) := by
  have hb1 := bytesA_le p.src
  have hb2 := bytesA_le p.dst
  have hel : (ends4 p).length ≤ 32 := by unfold ends4; rw [List.length_append]; omega
  unfold onIp
  rw [ip4_Build.j0, w64 (20 + (p.data.length : Int)) (by omega) (by omega), put16_some _ (by simp)]
  simp only [Option.bind_some]
  rw [put16_some _ (by rw [put16_len]; simp)]
  simp only [Option.bind_some]
  rw [put16_some _ (by rw [put16_len, put16_len]; simp)]
  simp only [Option.bind_some]
  have hh : put16 (put16 (put16 [69, 0] (20 + p.data.length)) i) o ++ [p.hop % 256, p.proto % 256] = head4 p := by unfold head4; rw [hi, ho]
  rw [if_pos (by simp [put16]), hh, bytesA_some hs, bytesA_some hd]
  simp only [Option.bind_some]
  rw [if_pos (by omega), show bytesA p.src ++ bytesA p.dst = ends4 p from rfl]
  have hc : QQ.wire_Check.f [head4 p, ends4 p] = some (65535 - sumOf [head4 p, ends4 p]) := by
    unfold QQ.wire_Check.f wire_Check.f
    rw [if_pos (okP_two (bytes_head4 p) (bytes_ends4 p) (by rw [head4_len]; omega) (by omega))]
  rw [hc]
  simp only [Option.bind_some]
  rw [put16_some _ (by rw [head4_len]; omega)]
  simp only [Option.bind_some]
  rw [if_pos (by rw [put16_len, head4_len]; omega), if_pos (by rw [List.length_append, put16_len, head4_len]; omega)]
theorem tdiv8 {x : Int} (h : 0 ≤ x) : Int.tdiv x 8 = x / 8 := Int.tdiv_eq_ediv_of_nonneg h
theorem ip4_Build_some (p : IpV) (hs : okA p.src) (hd : okA p.dst) (h0 : 0 ≤ p.id) (k : Nat) : onIp (ip4_Build.f (k + 3)) p = some (build4 p) := by
  have hm := ip4_may_some p hs hd k
  unfold onIp at hm ⊢
  unfold ip4_Build.f
  rw [hm]
  simp only [Option.bind_some]
  unfold build4
  cases h : may4 p with
  | false => simp
  | true =>
    have m := may4_has h
    have m1 := m.id
    have m2 := m.off
    have m3 := m.len
    rw [if_pos rfl, if_pos rfl]
    cases hf : p.frag with
    | false =>
      rw [if_neg (by simp)]
      have := build4_j0 (k + 2) p hs hd m.len 0 0 (by rw [hf]; rfl) (by rw [hf]; rfl)
      unfold onIp at this
      rw [hf] at this
      exact this
    | true =>
      rw [if_pos rfl, w64 p.id (by omega) (by omega), tdiv8 (by omega), w64 (p.off / 8) (by omega) (by omega)]
      cases hmo : p.more with
      | true =>
        rw [if_pos rfl, or8192 _ (by omega) (by omega)]
        have := build4_j0 (k + 2) p hs hd m.len p.id (p.off / 8 + 8192) (by rw [hf]; rfl) (by rw [hf, hmo]; rfl)
        unfold onIp at this
        rw [hf, hmo] at this
        exact this
      | false =>
        rw [if_neg (by simp)]
        have := build4_j0 (k + 2) p hs hd m.len p.id (p.off / 8) (by rw [hf]; rfl) (by rw [hf, hmo]; simp)
        unfold onIp at this
        rw [hf, hmo] at this
        exact this
end Go.Proofs.Ytgifcmbknkjemaa.Own
end
section
namespace Go.Proofs.Ytgifcmbknkjemaa.Own
open Go Go.RowKit Go.Proofs.YtgifcmbknkjemaaW.PrintWords Go.Proofs.YtgifcmbknkjemaaW.PrintLast Go.Proofs.YtgifcmbknkjemaaW.PrintMore
set_option linter.unusedVariables false
set_option linter.unusedSimpArgs false
set_option maxHeartbeats 2000000 in
set_option maxRecDepth 100000 in
theorem SameIp_at {w : World} {p : IpV} {Ae Be Ad Bd : Option Addr} {ce de cd dd : Nat} (h1 : (Kd.int .i64).C w Ae p.exts.length p.exts) (h2 : (Kd.int .i64).C w Be p.exts.length p.exts) (h3 : (Kd.int .u8).C w Ad p.data.length p.data) (h4 : (Kd.int .u8).C w Bd p.data.length p.data) (hby : Bytes p.data) (hl : p.exts.length ≤ 1000000000) (hcd : p.data.length ≤ cd) (hdd : p.data.length ≤ dd) :
    Calls Try.prog 57 #[.agg (ipCells p (.slice Ae p.exts.length ce) (.slice Ad p.data.length cd)), .agg (ipCells p (.slice Be p.exts.length de) (.slice Bd p.data.length dd))] w fun e w' => e = .returned (.bool true) ∧ Below w.heap.size w w' := by
  obtain ⟨fam, src, dst, proto, hop, frag, id, off, more, exts, data⟩ := p
  obtain ⟨s1, s2, s3⟩ := src
  obtain ⟨t1, t2, t3⟩ := dst
  obtain ⟨n, hn⟩ : ∃ n, n = exts.length := ⟨_, rfl⟩
  obtain ⟨m, hm⟩ : ∃ m, m = data.length := ⟨_, rfl⟩
  unfold ipCells
  simp only at h1 h2 h3 h4 hby hl hcd hdd ⊢
  rw [← hn] at h1 h2 hl ⊢
  rw [← hm] at h3 h4 hcd hdd ⊢
  have hw : ∀ W, Below w.heap.size w W → Calls Try.prog 46 #[.slice Ad m cd, .slice Bd m dd] W fun e w' => e = .returned (.bool true) ∧ ∃ k, w' = W.drewN k := fun W hW => by
    have a := Kd.C_below h3 hW
    have b := Kd.C_below h4 hW
    rw [hm] at a b hcd hdd ⊢
    refine (stockaderef01_Same.calls Ad cd data Bd dd data true W a hcd b hdd ?_).mono fun e w' h => ⟨h.1, h.2.out⟩
    unfold stockaderef01_Same.f
    rw [if_pos ⟨okB_iff.2 hby, okB_iff.2 hby⟩]
    simp
  have HW := Aside0.mk hw
  have H1 := Aside0.mk h1
  have H2 := Aside0.mk h2
  clear hw h1 h2 h3 h4 hby hn hm hcd hdd
  have hnm : n ≤ 9223372036854775807 := by omega
  go_enter Try.func57, Try.ntmps57
  go_wp2
  go_loopw [5] (fun i wr => ∃ k : Nat, k ≤ n ∧ i = .int .i64 k ∧ Aside0 (wr.heap[w.heap.size]? = some (.cells (ipCells ⟨fam, (s1, s2, s3), (t1, t2, t3), proto, hop, frag, id, off, more, exts, data⟩ (.slice Ae n ce) (.slice Ad m cd)) 55 (0, 0))) ∧ Aside0 (wr.heap[w.heap.size + 1]? = some (.cells (ipCells ⟨fam, (s1, s2, s3), (t1, t2, t3), proto, hop, frag, id, off, more, exts, data⟩ (.slice Be n de) (.slice Bd m dd)) 55 (0, 0))) ∧ Aside0 (Below w.heap.size w wr)) (fun i _ => n - (intOf i).toNat)
  case atStart => exact ⟨0, Nat.zero_le _, rfl, ⟨blk_alloc (blk_at rfl) _⟩, ⟨blk_at (W := w.alloc _) (by simp)⟩, ⟨below_alloc (below_alloc (Below.refl _ _) _) _⟩⟩
  case round =>
    obtain ⟨k, hk, rfl, HA, HB, HBel⟩ := hrel
    have a13 : wr.cell? ⟨w.heap.size, 13, none⟩ = some (.slice Ae n ce) := blk_cell HA.out 13
    have b13 : wr.cell? ⟨w.heap.size + 1, 13, none⟩ = some (.slice Be n de) := blk_cell HB.out 13
    by_cases hlt : k < n
    · obtain ⟨ae, rfl, ea⟩ := Kd.at_int (Kd.C_below H1.out HBel.out) (k : Int) (by omega) (by omega)
      obtain ⟨be', rfl, eb⟩ := Kd.at_int (Kd.C_below H2.out HBel.out) (k : Int) (by omega) (by omega)
      rw [Int.toNat_natCast] at ea eb
      obtain ⟨v, hv⟩ : ∃ v, v = rd exts (k : Int) := ⟨_, rfl⟩
      rw [← hv] at ea eb
      have q0 : (0 : Int) ≤ (k : Int) := by omega
      have q1 : (k : Int) < (n : Int) := by omega
      have e1 : IntKind.i64.wrap ((k : Int) + 1) = (k : Int) + 1 := wraps_i64 _ (by omega) (by omega)
      clear hv
      go_wp2
      go_quiet (fail)
      go_wp2
      go_roundw
      case rel => exact ⟨k + 1, by omega, by go_num, HA, HB, ⟨pw_below_drewN HBel.out _⟩⟩
      case measure => simp [intOf]; omega
    · have q1 : (n : Int) ≤ (k : Int) := by omega
      have q2 : ¬ (k : Int) < (n : Int) := by omega
      have a0 : wr.cell? ⟨w.heap.size, 0, none⟩ = some (.int .i64 fam) := blk_cell HA.out 0
      have a1 : wr.cell? ⟨w.heap.size, 1, none⟩ = some (.int .i64 s1) := blk_cell HA.out 1
      have a2 : wr.cell? ⟨w.heap.size, 2, none⟩ = some (.int .u64 s2) := blk_cell HA.out 2
      have a3 : wr.cell? ⟨w.heap.size, 3, none⟩ = some (.int .u64 s3) := blk_cell HA.out 3
      have a4 : wr.cell? ⟨w.heap.size, 4, none⟩ = some (.int .i64 t1) := blk_cell HA.out 4
      have a5 : wr.cell? ⟨w.heap.size, 5, none⟩ = some (.int .u64 t2) := blk_cell HA.out 5
      have a6 : wr.cell? ⟨w.heap.size, 6, none⟩ = some (.int .u64 t3) := blk_cell HA.out 6
      have a7 : wr.cell? ⟨w.heap.size, 7, none⟩ = some (.int .i64 proto) := blk_cell HA.out 7
      have a8 : wr.cell? ⟨w.heap.size, 8, none⟩ = some (.int .i64 hop) := blk_cell HA.out 8
      have a9 : wr.cell? ⟨w.heap.size, 9, none⟩ = some (.bool frag) := blk_cell HA.out 9
      have a10 : wr.cell? ⟨w.heap.size, 10, none⟩ = some (.int .u32 id) := blk_cell HA.out 10
      have a11 : wr.cell? ⟨w.heap.size, 11, none⟩ = some (.int .i64 off) := blk_cell HA.out 11
      have a12 : wr.cell? ⟨w.heap.size, 12, none⟩ = some (.bool more) := blk_cell HA.out 12
      have a14 : wr.cell? ⟨w.heap.size, 14, none⟩ = some (.slice Ad m cd) := blk_cell HA.out 14
      have b0 : wr.cell? ⟨w.heap.size + 1, 0, none⟩ = some (.int .i64 fam) := blk_cell HB.out 0
      have b1 : wr.cell? ⟨w.heap.size + 1, 1, none⟩ = some (.int .i64 s1) := blk_cell HB.out 1
      have b2 : wr.cell? ⟨w.heap.size + 1, 2, none⟩ = some (.int .u64 s2) := blk_cell HB.out 2
      have b3 : wr.cell? ⟨w.heap.size + 1, 3, none⟩ = some (.int .u64 s3) := blk_cell HB.out 3
      have b4 : wr.cell? ⟨w.heap.size + 1, 4, none⟩ = some (.int .i64 t1) := blk_cell HB.out 4
      have b5 : wr.cell? ⟨w.heap.size + 1, 5, none⟩ = some (.int .u64 t2) := blk_cell HB.out 5
      have b6 : wr.cell? ⟨w.heap.size + 1, 6, none⟩ = some (.int .u64 t3) := blk_cell HB.out 6
      have b7 : wr.cell? ⟨w.heap.size + 1, 7, none⟩ = some (.int .i64 proto) := blk_cell HB.out 7
      have b8 : wr.cell? ⟨w.heap.size + 1, 8, none⟩ = some (.int .i64 hop) := blk_cell HB.out 8
      have b9 : wr.cell? ⟨w.heap.size + 1, 9, none⟩ = some (.bool frag) := blk_cell HB.out 9
      have b10 : wr.cell? ⟨w.heap.size + 1, 10, none⟩ = some (.int .u32 id) := blk_cell HB.out 10
      have b11 : wr.cell? ⟨w.heap.size + 1, 11, none⟩ = some (.int .i64 off) := blk_cell HB.out 11
      have b12 : wr.cell? ⟨w.heap.size + 1, 12, none⟩ = some (.bool more) := blk_cell HB.out 12
      have b14 : wr.cell? ⟨w.heap.size + 1, 14, none⟩ = some (.slice Bd m dd) := blk_cell HB.out 14
      go_wp2_with (go_at_call 46; refine (HW.out _ HBel.out).mono ?_; rintro e w' ⟨rfl, q, rfl⟩)
      go_ret
      exact ⟨rfl, pw_below_drewN HBel.out _⟩
end Go.Proofs.Ytgifcmbknkjemaa.Own
end
section
namespace Go.Proofs.Ytgifcmbknkjemaa.Own
open Go Go.RowKit Go.Proofs.YtgifcmbknkjemaaW.PrintWords Go.Proofs.YtgifcmbknkjemaaW.PrintLast Go.Proofs.YtgifcmbknkjemaaW.PrintMore
set_option linter.unusedVariables false
def BuildPost (w : World) (r : List Int × Int) (e : Ending) (w' : World) : Prop :=
  ∃ v : Value, e = .returned (.tuple #[v, .int .i64 r.2]) ∧ Kd.R (Kd.int .u8) 5 w' w.heap.size (fun _ => True) v r.1 ∧ Below w.heap.size w w'
theorem Kd.R_form {k : IntKind} {e base : Nat} {w : World} {v : Value} {xs : List Int} {n : Nat} (h : Kd.R (Kd.int k) e w base (fun _ => True) v xs) (hn : xs.length = n) : ∃ A c, v = .slice A n c ∧ n ≤ c ∧ (Kd.int k).C w A n xs := by
  subst hn
  exact Kd.R_reads h
end Go.Proofs.Ytgifcmbknkjemaa.Own
end
section
namespace Go.Proofs.Ytgifcmbknkjemaa.Own
open Go Go.RowKit Go.Proofs.YtgifcmbknkjemaaW.PrintWords Go.Proofs.YtgifcmbknkjemaaW.PrintLast Go.Proofs.YtgifcmbknkjemaaW.PrintMore
set_option linter.unusedVariables false
set_option linter.unusedSimpArgs false
theorem Build4_at {w : World} {p : IpV} {Ae Ad : Option Addr} {ne nd ce cd : Nat} (h1 : (Kd.int .i64).C w Ae ne p.exts) (h2 : (Kd.int .u8).C w Ad nd p.data) (hce : ne ≤ ce) (hcd : nd ≤ cd) (ok : IpOk p) :
    Calls Try.prog 67 #[.agg (ipCells p (.slice Ae ne ce) (.slice Ad nd cd))] w (BuildPost w (build4 p)) := by
  have l1 := h1.1
  have l2 := h2.1
  subst l1 l2
  have h := ip4_Build_some p ok.2.2.1 ok.2.2.2.1 ok.1 0
  exact QQ.ip4_Build.calls 3 _ _ _ _ _ _ _ _ _ _ _ _ _ Ae ce p.exts Ad cd p.data (build4 p).1 (build4 p).2 w h1 hce h2 hcd h
def smallV : IpV := ⟨4, (4, 0, 167772161), (4, 0, 167772162), 17, 64, false, 0, 0, false, [], [1, 2, 3, 4]⟩
theorem small_ok : IpOk smallV := ⟨by decide, by decide, ⟨⟨by decide, by decide⟩, by decide, by decide⟩, ⟨⟨by decide, by decide⟩, by decide, by decide⟩, bytes_lit rfl⟩
theorem small_may : may4 smallV = true := by decide
theorem Small_at (w : World) : Calls Try.prog 115 #[] w fun e w' => ∃ vE vD : Value, e = .returned (.agg (ipCells smallV vE vD)) ∧ Kd.R (Kd.int .i64) 3 w' w.heap.size (fun _ => True) vE [] ∧ Kd.R (Kd.int .u8) 5 w' w.heap.size (fun _ => True) vD [1, 2, 3, 4] ∧ Below w.heap.size w w' :=
  QQ.stockadelaw03_small.calls 4 4 0 167772161 4 0 167772162 17 64 false 0 0 false [] [1, 2, 3, 4] w rfl
set_option maxHeartbeats 4000000 in
set_option maxRecDepth 100000 in
theorem Alive3_at (w : World) : Calls Try.prog 66 #[] w fun e w' => e = .returned (.bool true) ∧ Below w.heap.size w w' := by
  obtain ⟨B, hB⟩ : ∃ B, B = (build4 smallV).1 := ⟨_, rfl⟩
  have hb2 : build4 smallV = (B, 0) := by rw [hB, build4_is small_may]
  have hB2 : B = H20 smallV ++ [1, 2, 3, 4] := by rw [hB, build4_is small_may]; rfl
  have hpar : parse4 B = (smallV, 0) := by rw [hB]; exact parse4_build small_may small_ok
  have hlen : B.length = 24 := by rw [hB2]; rfl
  have h0 : rd B 0 = 69 := by rw [hB2]; rfl
  have h9 : rd B 9 = 17 := by rw [hB2]; rfl
  have hby : Bytes B := by rw [hB2]; exact bytes_append (bytes_H20 (may4_has small_may) small_ok) (bytes_lit rfl)
  have HB := Aside0.mk (And.intro hb2 (And.intro hpar (And.intro hlen (And.intro h0 (And.intro h9 hby)))))
  clear hB hb2 hB2 hpar hlen h0 h9 hby
  go_enter Try.func66, Try.ntmps66
  go_wp2_with (fail)
  refine (Small_at w).mono ?_
  rintro e1 w1 ⟨vE, vD, rfl, hE, hD, hb1⟩
  obtain ⟨Ae, ce, rfl, hce, hCE⟩ := Kd.R_form hE (show ([] : List Int).length = 0 from rfl)
  obtain ⟨Ad, cd, rfl, hcd, hCD⟩ := Kd.R_form hD (show ([1, 2, 3, 4] : List Int).length = 4 from rfl)
  have hbuild := Build4_at (p := smallV) hCE hCD hce hcd small_ok
  rw [HB.out.1] at hbuild
  have B1 := Aside0.mk hb1
  clear hE hD hb1 hCE hCD
  go_wp2_with (fail)
  refine hbuild.mono ?_
  rintro e2 w2 ⟨v, rfl, hv, hb2⟩
  obtain ⟨A, c, rfl, hc, hC⟩ := Kd.R_form hv HB.out.2.2.1
  have HC := Aside0.mk hC
  have B2 := Aside0.mk (below_then B1.out B1.out.size hb2)
  have hparse := Parse4_at hC hc HB.out.2.2.2.2.2 (by omega)
  rw [HB.out.2.1] at hparse
  clear hv hC hb2 hbuild
  go_wp2_with (fail)
  refine hparse.mono ?_
  rintro e4 w4 ⟨vE, vD, rfl, hE, hD, hb4⟩
  obtain ⟨Ae, ce, rfl, hce, hCE⟩ := Kd.R_form hE (show smallV.exts.length = 0 from rfl)
  obtain ⟨Ad, cd, rfl, hcd, hCD⟩ := Kd.R_form hD (show smallV.data.length = 4 from rfl)
  have B4 := Aside0.mk (below_then B2.out B2.out.size hb4)
  have HC4 := Aside0.mk (Kd.C_below HC.out hb4)
  have HE := Aside0.mk (And.intro hCE hCD)
  clear hE hD hb4 hCE hCD hparse HC
  go_upto_region 3 with (refine wpList_store_new rfl 55 (.tmp 3) (.tmp 13) rfl _ (ipCells smallV (.slice Ae 0 ce) (.slice Ad 4 cd)) rfl rfl (by kernel_rfl) rfl (ipCells_one _ _ _ _ _ _ _) ?_)
  obtain ⟨ad, rfl, c0⟩ := Kd.at_int HC4.out 0 (by omega) (by omega)
  obtain ⟨_, h9', c9⟩ := Kd.at_int HC4.out 9 (by omega) (by omega)
  obtain rfl := Option.some.inj h9'
  rw [show ((0 : Int)).toNat = 0 from rfl, Addr.add_zero', HB.out.2.2.2.1] at c0
  rw [show ((9 : Int)).toNat = 9 from rfl, add_at _ _ (by omega), HB.out.2.2.2.2.1] at c9
  have d0 : (w4.alloc (.cells (ipCells smallV (.slice Ae 0 ce) (.slice Ad 4 cd)) 55)).drew.cell? ad = some (.int .u8 69) := pw_cell_below (below_alloc (Below.refl _ _) _) c0
  have d9 : (w4.alloc (.cells (ipCells smallV (.slice Ae 0 ce) (.slice Ad 4 cd)) 55)).drew.cell? ⟨ad.block, ad.off + 9, none⟩ = some (.int .u8 17) := pw_cell_below (below_alloc (Below.refl _ _) _) c9
  have kd0 : (w4.alloc (.cells (ipCells smallV (.slice Ae 0 ce) (.slice Ad 4 cd)) 55)).drew.cell? ⟨w4.heap.size, 0, none⟩ = some (.int .i64 4) := blk_cell (blk_at (W := w4) rfl) 0
  have kd1 : (w4.alloc (.cells (ipCells smallV (.slice Ae 0 ce) (.slice Ad 4 cd)) 55)).drew.cell? ⟨w4.heap.size, 1, none⟩ = some (.int .i64 4) := blk_cell (blk_at (W := w4) rfl) 1
  have kd2 : (w4.alloc (.cells (ipCells smallV (.slice Ae 0 ce) (.slice Ad 4 cd)) 55)).drew.cell? ⟨w4.heap.size, 2, none⟩ = some (.int .u64 0) := blk_cell (blk_at (W := w4) rfl) 2
  have kd3 : (w4.alloc (.cells (ipCells smallV (.slice Ae 0 ce) (.slice Ad 4 cd)) 55)).drew.cell? ⟨w4.heap.size, 3, none⟩ = some (.int .u64 167772161) := blk_cell (blk_at (W := w4) rfl) 3
  have kd4 : (w4.alloc (.cells (ipCells smallV (.slice Ae 0 ce) (.slice Ad 4 cd)) 55)).drew.cell? ⟨w4.heap.size, 4, none⟩ = some (.int .i64 4) := blk_cell (blk_at (W := w4) rfl) 4
  have kd5 : (w4.alloc (.cells (ipCells smallV (.slice Ae 0 ce) (.slice Ad 4 cd)) 55)).drew.cell? ⟨w4.heap.size, 5, none⟩ = some (.int .u64 0) := blk_cell (blk_at (W := w4) rfl) 5
  have kd6 : (w4.alloc (.cells (ipCells smallV (.slice Ae 0 ce) (.slice Ad 4 cd)) 55)).drew.cell? ⟨w4.heap.size, 6, none⟩ = some (.int .u64 167772162) := blk_cell (blk_at (W := w4) rfl) 6
  have kd7 : (w4.alloc (.cells (ipCells smallV (.slice Ae 0 ce) (.slice Ad 4 cd)) 55)).drew.cell? ⟨w4.heap.size, 7, none⟩ = some (.int .i64 17) := blk_cell (blk_at (W := w4) rfl) 7
  have kd8 : (w4.alloc (.cells (ipCells smallV (.slice Ae 0 ce) (.slice Ad 4 cd)) 55)).drew.cell? ⟨w4.heap.size, 8, none⟩ = some (.int .i64 64) := blk_cell (blk_at (W := w4) rfl) 8
  have kd9 : (w4.alloc (.cells (ipCells smallV (.slice Ae 0 ce) (.slice Ad 4 cd)) 55)).drew.cell? ⟨w4.heap.size, 9, none⟩ = some (.bool false) := blk_cell (blk_at (W := w4) rfl) 9
  have kd10 : (w4.alloc (.cells (ipCells smallV (.slice Ae 0 ce) (.slice Ad 4 cd)) 55)).drew.cell? ⟨w4.heap.size, 10, none⟩ = some (.int .u32 0) := blk_cell (blk_at (W := w4) rfl) 10
  have kd11 : (w4.alloc (.cells (ipCells smallV (.slice Ae 0 ce) (.slice Ad 4 cd)) 55)).drew.cell? ⟨w4.heap.size, 11, none⟩ = some (.int .i64 0) := blk_cell (blk_at (W := w4) rfl) 11
  have kd12 : (w4.alloc (.cells (ipCells smallV (.slice Ae 0 ce) (.slice Ad 4 cd)) 55)).drew.cell? ⟨w4.heap.size, 12, none⟩ = some (.bool false) := blk_cell (blk_at (W := w4) rfl) 12
  have kd13 : (w4.alloc (.cells (ipCells smallV (.slice Ae 0 ce) (.slice Ad 4 cd)) 55)).drew.cell? ⟨w4.heap.size, 13, none⟩ = some (.slice Ae 0 ce) := blk_cell (blk_at (W := w4) rfl) 13
  have kd14 : (w4.alloc (.cells (ipCells smallV (.slice Ae 0 ce) (.slice Ad 4 cd)) 55)).drew.cell? ⟨w4.heap.size, 14, none⟩ = some (.slice Ad 4 cd) := blk_cell (blk_at (W := w4) rfl) 14
  clear c0 c9
  have BA := Aside0.mk (below_drew (below_alloc B4.out (.cells (ipCells smallV (.slice Ae 0 ce) (.slice Ad 4 cd)) 55)))
  have hsame : ∀ W, Below (w4.alloc (.cells (ipCells smallV (.slice Ae 0 ce) (.slice Ad 4 cd)) 55)).heap.size (w4.alloc (.cells (ipCells smallV (.slice Ae 0 ce) (.slice Ad 4 cd)) 55)).drew W → ∀ (Be Bd : Option Addr) (de dd : Nat), 0 ≤ de → 4 ≤ dd → (Kd.int .i64).C W Be 0 [] → (Kd.int .u8).C W Bd 4 [1, 2, 3, 4] → Calls Try.prog 57 #[.agg (ipCells smallV (.slice Ae 0 ce) (.slice Ad 4 cd)), .agg (ipCells smallV (.slice Be 0 de) (.slice Bd 4 dd))] W fun e w' => e = .returned (.bool true) ∧ Below W.heap.size W w' := fun W hW Be Bd de dd hde hdd g1 g2 =>
    SameIp_at (p := smallV) (Kd.C_below (Kd.C_drew (Kd.C_alloc HE.out.1 _)) hW) g1 (Kd.C_below (Kd.C_drew (Kd.C_alloc HE.out.2 _)) hW) g2 (bytes_lit rfl) (by show 0 ≤ _; omega) hcd hdd
  have HS := Aside0.mk hsame
  clear hsame
  go_cut [0] (fun v wc => v = .bool true ∧ Aside0 (Below w.heap.size w wc))
  case first =>
    go_region_held3 (fun w' => w'.cell? ⟨w4.heap.size, 0, none⟩ = some (.int .i64 4) ∧ w'.cell? ⟨w4.heap.size, 1, none⟩ = some (.int .i64 4) ∧ w'.cell? ⟨w4.heap.size, 2, none⟩ = some (.int .u64 0) ∧ w'.cell? ⟨w4.heap.size, 3, none⟩ = some (.int .u64 167772161) ∧ w'.cell? ⟨w4.heap.size, 4, none⟩ = some (.int .i64 4) ∧ w'.cell? ⟨w4.heap.size, 5, none⟩ = some (.int .u64 0) ∧ w'.cell? ⟨w4.heap.size, 6, none⟩ = some (.int .u64 167772162) ∧ w'.cell? ⟨w4.heap.size, 7, none⟩ = some (.int .i64 17) ∧ w'.cell? ⟨w4.heap.size, 8, none⟩ = some (.int .i64 64) ∧ w'.cell? ⟨w4.heap.size, 9, none⟩ = some (.bool false) ∧ w'.cell? ⟨w4.heap.size, 10, none⟩ = some (.int .u32 0) ∧ w'.cell? ⟨w4.heap.size, 11, none⟩ = some (.int .i64 0) ∧ w'.cell? ⟨w4.heap.size, 12, none⟩ = some (.bool false) ∧ w'.cell? ⟨w4.heap.size, 13, none⟩ = some (.slice Ae 0 ce) ∧ w'.cell? ⟨w4.heap.size, 14, none⟩ = some (.slice Ad 4 cd) ∧ w'.cell? ad = some (.int .u8 69) ∧ w'.cell? ⟨ad.block, ad.off + 9, none⟩ = some (.int .u8 17)) (first | with_reducible exact ⟨kd0, kd1, kd2, kd3, kd4, kd5, kd6, kd7, kd8, kd9, kd10, kd11, kd12, kd13, kd14, d0, d9⟩ | with_reducible exact ⟨s0, s1, s2, s3, s4, s5, s6, s7, s8, s9, s10, s11, s12, s13, s14, sa, sb⟩ | with_reducible exact ⟨t0, t1, t2, t3, t4, t5, t6, t7, t8, t9, t10, t11, t12, t13, t14, ta, tb⟩)
      ((first
        | (go_at_call 115; refine (Small_at _).mono ?_; rintro e7 w7 ⟨vE7, vD7, rfl, hE7, hD7, hb7⟩; obtain ⟨Be, de, rfl, hde, hCE7⟩ := Kd.R_form hE7 (show ([] : List Int).length = 0 from rfl); obtain ⟨Bd, dd, rfl, hdd, hCD7⟩ := Kd.R_form hD7 (show ([1, 2, 3, 4] : List Int).length = 4 from rfl); have F7 := Aside0.mk (And.intro hb7 (And.intro hCE7 hCD7)); have t0 := pw_cell_at hb7 kd0; have t1 := pw_cell_at hb7 kd1; have t2 := pw_cell_at hb7 kd2; have t3 := pw_cell_at hb7 kd3; have t4 := pw_cell_at hb7 kd4; have t5 := pw_cell_at hb7 kd5; have t6 := pw_cell_at hb7 kd6; have t7 := pw_cell_at hb7 kd7; have t8 := pw_cell_at hb7 kd8; have t9 := pw_cell_at hb7 kd9; have t10 := pw_cell_at hb7 kd10; have t11 := pw_cell_at hb7 kd11; have t12 := pw_cell_at hb7 kd12; have t13 := pw_cell_at hb7 kd13; have t14 := pw_cell_at hb7 kd14; have ta := pw_cell_at hb7 d0; have tb := pw_cell_at hb7 d9; clear hE7 hD7 hb7 hCE7 hCD7)
        | (go_at_call 57; refine (HS.out w7 F7.out.1 Be Bd de dd hde hdd F7.out.2.1 F7.out.2.2).mono ?_; rintro e8 w8 ⟨rfl, hb8⟩; have F8 := Aside0.mk hb8; have s0 := pw_cell_at hb8 t0; have s1 := pw_cell_at hb8 t1; have s2 := pw_cell_at hb8 t2; have s3 := pw_cell_at hb8 t3; have s4 := pw_cell_at hb8 t4; have s5 := pw_cell_at hb8 t5; have s6 := pw_cell_at hb8 t6; have s7 := pw_cell_at hb8 t7; have s8 := pw_cell_at hb8 t8; have s9 := pw_cell_at hb8 t9; have s10 := pw_cell_at hb8 t10; have s11 := pw_cell_at hb8 t11; have s12 := pw_cell_at hb8 t12; have s13 := pw_cell_at hb8 t13; have s14 := pw_cell_at hb8 t14; have sa := pw_cell_at hb8 ta; have sb := pw_cell_at hb8 tb; clear hb8)))
    go_wp2
    go_meet
    case rel => exact ⟨rfl, ⟨below_then (below_then BA.out BA.out.size F7.out.1) (Nat.le_trans BA.out.size F7.out.1.size) F8.out⟩⟩
  case rest =>
    obtain ⟨rfl, hbw⟩ := hcut
    go_wp2
    go_ret
    exact ⟨rfl, hbw.out⟩
end Go.Proofs.Ytgifcmbknkjemaa.Own
end
section
namespace Go.Proofs.Ytgifcmbknkjemaa.Own
open Go Go.RowKit Go.Proofs.YtgifcmbknkjemaaW.PrintWords Go.Proofs.YtgifcmbknkjemaaW.PrintLast Go.Proofs.YtgifcmbknkjemaaW.PrintMore
set_option linter.unusedVariables false
set_option linter.unusedSimpArgs false
theorem ite_both {α : Type} {P : α → Prop} {c : Prop} [Decidable c] {a b : α} (ha : P a) (hb : P b) : P (if c then a else b) := by
  by_cases h : c
  · rw [if_pos h]; exact ha
  · rw [if_neg h]; exact hb
def Inv4 (b : List Int) (r : IpV × Int) : Prop := r.1.exts.length ≤ 8 ∧ Bytes r.1.data ∧ r.1.data.length ≤ b.length
theorem parse4_inv {b : List Int} (hb : Bytes b) : (parse4 b).1.exts.length ≤ 8 ∧ Bytes (parse4 b).1.data ∧ (parse4 b).1.data.length ≤ b.length := by
  have hz : ∀ e, Inv4 b (zeroV, e) := fun e => ⟨Nat.zero_le _, (fun y hy => by cases hy), Nat.zero_le _⟩
  have hd : ∀ m k : Nat, Bytes ((b.take m).drop k) ∧ ((b.take m).drop k).length ≤ b.length := fun m k => ⟨fun y hy => hb y (List.mem_of_mem_take (List.mem_of_mem_drop hy)), by simp only [List.length_drop, List.length_take]; omega⟩
  show Inv4 b (parse4 b)
  unfold parse4
  refine ite_both (hz _) ?_
  refine ite_both (hz _) ?_
  refine ite_both (hz _) ?_
  refine ite_both (hz _) ?_
  refine ite_both (hz _) ?_
  refine ite_both (hz _) ?_
  refine ite_both (hz _) ?_
  refine ite_both (hz _) ?_
  refine ite_both (hz _) ?_
  refine ite_both (hz _) ?_
  exact ite_both ⟨Nat.zero_le _, hd _ _⟩ ⟨Nat.zero_le _, hd _ _⟩
end Go.Proofs.Ytgifcmbknkjemaa.Own
end
section
namespace Go.Proofs.Ytgifcmbknkjemaa.Own
open Go Go.RowKit Go.Proofs.YtgifcmbknkjemaaW.PrintWords Go.Proofs.YtgifcmbknkjemaaW.PrintLast Go.Proofs.YtgifcmbknkjemaaW.PrintMore
set_option linter.unusedVariables false
set_option linter.unusedSimpArgs false
set_option maxHeartbeats 2000000 in
set_option maxRecDepth 100000 in
theorem Ip4Behind_walk (w : World) (A0 : Option Addr) (c0 : Nat) (l0 : List Int) (hr0 : Kd.C (Kd.int .u8) w A0 l0.length l0) (hc0 : l0.length ≤ c0) (hg0 : Bytes l0 ∧ l0.length ≤ 140737488351232) (A1 : Option Addr) (c1 : Nat) (l1 : List Int) (hr1 : Kd.C (Kd.int .u8) w A1 l1.length l1) (hc1 : l1.length ≤ c1) (hg1 : Bytes l1 ∧ l1.length ≤ 140737488351232) (hk : l0.length + l1.length ≤ 1048576) :
    Calls Try.prog 18 #[.slice A0 l0.length c0, .slice A1 l1.length c1] w fun e w' => e = .returned (.bool true) ∧ Below w.heap.size w w' := by
  obtain ⟨n, hn⟩ : ∃ n, n = l0.length := ⟨_, rfl⟩
  obtain ⟨m, hm⟩ : ∃ n, n = l1.length := ⟨_, rfl⟩
  rw [← hn] at hr0 hc0 hg0 hk ⊢
  rw [← hm] at hr1 hc1 hg1 hk ⊢
  have hP := Parse4_at hr0 hc0 hg0.1 (by omega)
  have hinv := parse4_inv hg0.1
  have hbe : (parse4 l0).2 = 0 → parse4 (l0 ++ l1) = parse4 l0 := fun h => parse4_behind hg0.1 h
  obtain ⟨p, e, hpe⟩ : ∃ p e, parse4 l0 = (p, e) := ⟨_, _, rfl⟩
  rw [hpe] at hP hinv hbe
  have HP := Aside0.mk hP
  have HI := Aside0.mk hinv
  have HB := Aside0.mk hbe
  have HC := Aside0.mk (And.intro hr0 (And.intro hr1 (And.intro hn hm)))
  have HY : Aside0 (Bytes (l0 ++ l1)) := ⟨bytes_append hg0.1 hg1.1⟩
  have hle : p.exts.length ≤ 8 := hinv.1
  clear hP hinv hbe hpe hn hm hr0 hr1 hg0 hg1
  go_enter Try.func18, Try.ntmps18
  go_wp2_with (fail)
  refine HP.out.mono ?_
  rintro e1 w1 ⟨vE, vD, rfl, hE, hD, hB⟩
  obtain ⟨Ae, ce, rfl, hce, hCE⟩ := Kd.R_reads hE
  obtain ⟨Ad, cd, rfl, hcd, hCD⟩ := Kd.R_reads hD
  simp only at hce hCE hcd hCD
  have F1 := Aside0.mk (And.intro hCE (And.intro hCD hB))
  clear hE hD hCE hCD hB
  go_upto_region 2 with (refine wpList_store_new rfl 55 (.tmp 5) (.tmp 12) rfl _ (ipCells p (.slice Ae p.exts.length ce) (.slice Ad p.data.length cd)) rfl rfl (by kernel_rfl) rfl (ipCells_one _ _ _ _ _ _ _) ?_)
  obtain ⟨W0, hW0⟩ : ∃ W0, W0 = w1.alloc (.cells (ipCells p (.slice Ae p.exts.length ce) (.slice Ad p.data.length cd)) 55) := ⟨_, rfl⟩
  have G0 : Aside0 (W0.heap[w1.heap.size]? = some (.cells (ipCells p (.slice Ae p.exts.length ce) (.slice Ad p.data.length cd)) 55 (0, 0))) := ⟨by rw [hW0]; exact blk_at rfl⟩
  have B0 : Aside0 (Below w.heap.size w W0) := ⟨by rw [hW0]; exact below_alloc F1.out.2.2 _⟩
  have E0 : Aside0 ((Kd.int .i64).C W0 Ae p.exts.length p.exts ∧ (Kd.int .u8).C W0 Ad p.data.length p.data) := ⟨by rw [hW0]; exact ⟨Kd.C_alloc F1.out.1 _, Kd.C_alloc F1.out.2.1 _⟩⟩
  rw [← hW0]
  clear hW0 F1
  by_cases he : e = 0
  · have hpb := HB.out he
    have HPB := Aside0.mk hpb
    subst he
    clear hpb HB
    go_wp2_with (first
      | (at_builtin; refine Kd.R_append_rows (Kd.int .u8) (w0 := W0) W0.heap.size rfl (.const (.slice none 0 0)) (.tmp 18) 27 5 (.int .u8 0) 1 rfl Try.underlying27 info5 rfl (by decide) (by omega) (.slice none 0 0) [] l0 _ _ _ (fun _ => True) (fun _ => False) rfl rfl (Kd.R_nil _ _ _ _ _) (Kd.C_below HC.out.1 B0.out) (fun _ _ h => h) (fun _ h => h.elim) (fun _ _ => trivial) (Below.refl _ _) (Nat.le_refl _) (by have := HC.out.2.2.1; simp; omega) ?_; intro v1 w2 ho hb hg hat; clear hg hat; rw [List.nil_append] at ho; obtain ⟨A2, c2, hv, hc2, hC2⟩ := Kd.R_form ho HC.out.2.2.1.symm; have HO := Aside0.mk ho; have HBB := Aside0.mk hb; clear ho hb hC2; subst hv)
      | (at_builtin; refine Kd.R_append_rows (Kd.int .u8) (w0 := W0) W0.heap.size rfl (.tmp 19) (.tmp 20) 27 5 (.int .u8 0) 1 rfl Try.underlying27 info5 rfl (by decide) (by omega) (.slice A2 n c2) l0 l1 _ _ _ (fun _ => True) (fun _ => False) rfl rfl HO.out (Kd.C_below HC.out.2.1 (below_then B0.out B0.out.size HBB.out)) (fun _ _ h => h) (fun _ h => h.elim) (fun _ _ => trivial) HBB.out HBB.out.size (by have h1 := HC.out.2.2.1; have h2 := HC.out.2.2.2; omega) ?_; intro v1 w3 ho hb hg hat; clear hg hat; obtain ⟨A3, c3, hv, hc3, hC3⟩ := Kd.R_form (n := n + m) ho (by rw [List.length_append, ← HC.out.2.2.1, ← HC.out.2.2.2]); have HO3 := Aside0.mk hC3; have HB3 := Aside0.mk hb; clear ho hb hC3; subst hv))
    have hP2 := Parse4_at HO3.out hc3 HY.out (by omega)
    rw [HPB.out] at hP2
    have HP2 := Aside0.mk hP2
    clear hP2 HO HBB HP HPB HY
    refine HP2.out.mono ?_
    rintro e2 w4 ⟨vE, vD, rfl, hE, hD, hB⟩
    obtain ⟨Be, de, rfl, hde, hCE⟩ := Kd.R_reads hE
    obtain ⟨Bd, dd, rfl, hdd, hCD⟩ := Kd.R_reads hD
    simp only at hde hCE hdd hCD
    have B4 : Below W0.heap.size W0 w4 := below_then HB3.out HB3.out.size hB
    have G1 : Aside0 (w4.heap[w1.heap.size]? = some (.cells (ipCells p (.slice Ae p.exts.length ce) (.slice Ad p.data.length cd)) 55 (0, 0))) := ⟨(B4.block _ (Array.getElem?_eq_some_iff.1 G0.out).1).trans G0.out⟩
    have F2 := Aside0.mk (And.intro hCE (And.intro hCD B4))
    have E4 := Aside0.mk (And.intro (Kd.C_below E0.out.1 B4) (Kd.C_below E0.out.2 B4))
    clear hE hD hCE hCD hB B4 HP2 HB3 HO3 G0 E0
    go_upto_region 5 with (refine wpList_store_new rfl 55 (.tmp 7) (.tmp 23) rfl _ (ipCells p (.slice Be p.exts.length de) (.slice Bd p.data.length dd)) rfl rfl (by kernel_rfl) rfl (ipCells_one _ _ _ _ _ _ _) ?_)
    have G2 : Aside0 ((w4.alloc (.cells (ipCells p (.slice Be p.exts.length de) (.slice Bd p.data.length dd)) 55)).heap[w1.heap.size]? = some (.cells (ipCells p (.slice Ae p.exts.length ce) (.slice Ad p.data.length cd)) 55 (0, 0))) := ⟨blk_alloc G1.out _⟩
    have G3 : Aside0 ((w4.alloc (.cells (ipCells p (.slice Be p.exts.length de) (.slice Bd p.data.length dd)) 55)).heap[w4.heap.size]? = some (.cells (ipCells p (.slice Be p.exts.length de) (.slice Bd p.data.length dd)) 55 (0, 0))) := ⟨blk_at rfl⟩
    have kp0 : (w4.alloc (.cells (ipCells p (.slice Be p.exts.length de) (.slice Bd p.data.length dd)) 55)).cell? ⟨w1.heap.size, 0, none⟩ = some (.int .i64 p.fam) := blk_cell G2.out 0
    have kp1 : (w4.alloc (.cells (ipCells p (.slice Be p.exts.length de) (.slice Bd p.data.length dd)) 55)).cell? ⟨w1.heap.size, 1, none⟩ = some (.int .i64 p.src.1) := blk_cell G2.out 1
    have kp2 : (w4.alloc (.cells (ipCells p (.slice Be p.exts.length de) (.slice Bd p.data.length dd)) 55)).cell? ⟨w1.heap.size, 2, none⟩ = some (.int .u64 p.src.2.1) := blk_cell G2.out 2
    have kp3 : (w4.alloc (.cells (ipCells p (.slice Be p.exts.length de) (.slice Bd p.data.length dd)) 55)).cell? ⟨w1.heap.size, 3, none⟩ = some (.int .u64 p.src.2.2) := blk_cell G2.out 3
    have kp4 : (w4.alloc (.cells (ipCells p (.slice Be p.exts.length de) (.slice Bd p.data.length dd)) 55)).cell? ⟨w1.heap.size, 4, none⟩ = some (.int .i64 p.dst.1) := blk_cell G2.out 4
    have kp5 : (w4.alloc (.cells (ipCells p (.slice Be p.exts.length de) (.slice Bd p.data.length dd)) 55)).cell? ⟨w1.heap.size, 5, none⟩ = some (.int .u64 p.dst.2.1) := blk_cell G2.out 5
    have kp6 : (w4.alloc (.cells (ipCells p (.slice Be p.exts.length de) (.slice Bd p.data.length dd)) 55)).cell? ⟨w1.heap.size, 6, none⟩ = some (.int .u64 p.dst.2.2) := blk_cell G2.out 6
    have kp7 : (w4.alloc (.cells (ipCells p (.slice Be p.exts.length de) (.slice Bd p.data.length dd)) 55)).cell? ⟨w1.heap.size, 7, none⟩ = some (.int .i64 p.proto) := blk_cell G2.out 7
    have kp8 : (w4.alloc (.cells (ipCells p (.slice Be p.exts.length de) (.slice Bd p.data.length dd)) 55)).cell? ⟨w1.heap.size, 8, none⟩ = some (.int .i64 p.hop) := blk_cell G2.out 8
    have kp9 : (w4.alloc (.cells (ipCells p (.slice Be p.exts.length de) (.slice Bd p.data.length dd)) 55)).cell? ⟨w1.heap.size, 9, none⟩ = some (.bool p.frag) := blk_cell G2.out 9
    have kp10 : (w4.alloc (.cells (ipCells p (.slice Be p.exts.length de) (.slice Bd p.data.length dd)) 55)).cell? ⟨w1.heap.size, 10, none⟩ = some (.int .u32 p.id) := blk_cell G2.out 10
    have kp11 : (w4.alloc (.cells (ipCells p (.slice Be p.exts.length de) (.slice Bd p.data.length dd)) 55)).cell? ⟨w1.heap.size, 11, none⟩ = some (.int .i64 p.off) := blk_cell G2.out 11
    have kp12 : (w4.alloc (.cells (ipCells p (.slice Be p.exts.length de) (.slice Bd p.data.length dd)) 55)).cell? ⟨w1.heap.size, 12, none⟩ = some (.bool p.more) := blk_cell G2.out 12
    have kp13 : (w4.alloc (.cells (ipCells p (.slice Be p.exts.length de) (.slice Bd p.data.length dd)) 55)).cell? ⟨w1.heap.size, 13, none⟩ = some (.slice Ae p.exts.length ce) := blk_cell G2.out 13
    have kp14 : (w4.alloc (.cells (ipCells p (.slice Be p.exts.length de) (.slice Bd p.data.length dd)) 55)).cell? ⟨w1.heap.size, 14, none⟩ = some (.slice Ad p.data.length cd) := blk_cell G2.out 14
    have kq0 : (w4.alloc (.cells (ipCells p (.slice Be p.exts.length de) (.slice Bd p.data.length dd)) 55)).cell? ⟨w4.heap.size, 0, none⟩ = some (.int .i64 p.fam) := blk_cell G3.out 0
    have kq1 : (w4.alloc (.cells (ipCells p (.slice Be p.exts.length de) (.slice Bd p.data.length dd)) 55)).cell? ⟨w4.heap.size, 1, none⟩ = some (.int .i64 p.src.1) := blk_cell G3.out 1
    have kq2 : (w4.alloc (.cells (ipCells p (.slice Be p.exts.length de) (.slice Bd p.data.length dd)) 55)).cell? ⟨w4.heap.size, 2, none⟩ = some (.int .u64 p.src.2.1) := blk_cell G3.out 2
    have kq3 : (w4.alloc (.cells (ipCells p (.slice Be p.exts.length de) (.slice Bd p.data.length dd)) 55)).cell? ⟨w4.heap.size, 3, none⟩ = some (.int .u64 p.src.2.2) := blk_cell G3.out 3
    have kq4 : (w4.alloc (.cells (ipCells p (.slice Be p.exts.length de) (.slice Bd p.data.length dd)) 55)).cell? ⟨w4.heap.size, 4, none⟩ = some (.int .i64 p.dst.1) := blk_cell G3.out 4
    have kq5 : (w4.alloc (.cells (ipCells p (.slice Be p.exts.length de) (.slice Bd p.data.length dd)) 55)).cell? ⟨w4.heap.size, 5, none⟩ = some (.int .u64 p.dst.2.1) := blk_cell G3.out 5
    have kq6 : (w4.alloc (.cells (ipCells p (.slice Be p.exts.length de) (.slice Bd p.data.length dd)) 55)).cell? ⟨w4.heap.size, 6, none⟩ = some (.int .u64 p.dst.2.2) := blk_cell G3.out 6
    have kq7 : (w4.alloc (.cells (ipCells p (.slice Be p.exts.length de) (.slice Bd p.data.length dd)) 55)).cell? ⟨w4.heap.size, 7, none⟩ = some (.int .i64 p.proto) := blk_cell G3.out 7
    have kq8 : (w4.alloc (.cells (ipCells p (.slice Be p.exts.length de) (.slice Bd p.data.length dd)) 55)).cell? ⟨w4.heap.size, 8, none⟩ = some (.int .i64 p.hop) := blk_cell G3.out 8
    have kq9 : (w4.alloc (.cells (ipCells p (.slice Be p.exts.length de) (.slice Bd p.data.length dd)) 55)).cell? ⟨w4.heap.size, 9, none⟩ = some (.bool p.frag) := blk_cell G3.out 9
    have kq10 : (w4.alloc (.cells (ipCells p (.slice Be p.exts.length de) (.slice Bd p.data.length dd)) 55)).cell? ⟨w4.heap.size, 10, none⟩ = some (.int .u32 p.id) := blk_cell G3.out 10
    have kq11 : (w4.alloc (.cells (ipCells p (.slice Be p.exts.length de) (.slice Bd p.data.length dd)) 55)).cell? ⟨w4.heap.size, 11, none⟩ = some (.int .i64 p.off) := blk_cell G3.out 11
    have kq12 : (w4.alloc (.cells (ipCells p (.slice Be p.exts.length de) (.slice Bd p.data.length dd)) 55)).cell? ⟨w4.heap.size, 12, none⟩ = some (.bool p.more) := blk_cell G3.out 12
    have kq13 : (w4.alloc (.cells (ipCells p (.slice Be p.exts.length de) (.slice Bd p.data.length dd)) 55)).cell? ⟨w4.heap.size, 13, none⟩ = some (.slice Be p.exts.length de) := blk_cell G3.out 13
    have kq14 : (w4.alloc (.cells (ipCells p (.slice Be p.exts.length de) (.slice Bd p.data.length dd)) 55)).cell? ⟨w4.heap.size, 14, none⟩ = some (.slice Bd p.data.length dd) := blk_cell G3.out 14
    go_wp2_with (fail)
    refine (SameIp_at (Kd.C_alloc E4.out.1 _) (Kd.C_alloc F2.out.1 _) (Kd.C_alloc E4.out.2 _) (Kd.C_alloc F2.out.2.1 _) HI.out.2.1 (by omega) hcd hdd).mono ?_
    rintro e3 w5 ⟨rfl, hB3⟩
    have F3 := Aside0.mk (below_then (below_alloc F2.out.2.2 _) (by rw [size_alloc']; have := F2.out.2.2.size; omega) hB3)
    clear hB3
    go_wp2_with (fail)
    refine (Alive3_at _).mono ?_
    rintro e5 w6 ⟨rfl, hb5⟩
    have F5 := Aside0.mk (below_then F3.out F3.out.size hb5)
    clear hb5
    go_wp2
    go_ret
    exact ⟨rfl, below_then B0.out B0.out.size F5.out⟩
  · have he' : (e != 0) = true := by simpa using he
    go_wp2_with (fail)
    refine (Alive3_at _).mono ?_
    rintro e5 w5 ⟨rfl, hb5⟩
    have F5 := Aside0.mk (below_then B0.out B0.out.size hb5)
    clear hb5
    go_wp2
    go_ret
    exact ⟨rfl, F5.out⟩
end Go.Proofs.Ytgifcmbknkjemaa.Own
end
