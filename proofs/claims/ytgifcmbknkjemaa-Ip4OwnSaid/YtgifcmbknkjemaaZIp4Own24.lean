/- What the law Ip4Own rests on, part 24: contracts of the functions that it calls, and plain lemmas. No condition. -/
import Derived.Test.YtgifcmbknkjemaaZIp4Own23
section
namespace Go.Proofs.Ytgifcmbknkjemaa.Own
open Go Go.RowKit Go.Proofs.YtgifcmbknkjemaaW.PrintWords Go.Proofs.YtgifcmbknkjemaaW.PrintLast Go.Proofs.Ytgifcmbknkjemaa.QQ
set_option linter.unusedVariables false
set_option linter.unusedSimpArgs false
def onIp {α : Type} (f : Int → Int → Int → Int → Int → Int → Int → Int → Int → Bool → Int → Int → Bool → List Int → List Int → α) (p : IpV) : α :=
  f p.fam p.src.1 p.src.2.1 p.src.2.2 p.dst.1 p.dst.2.1 p.dst.2.2 p.proto p.hop p.frag p.id p.off p.more p.exts p.data
theorem four_is {a : Int × Int × Int} (ha : okA a) : ip4_may_1.f a.1 a.2.1 a.2.2 = some (four a) := by
  unfold ip4_may_1.f four
  by_cases h : a.1 = 4
  · rw [if_pos h]
    unfold addr_Right.f
    rw [if_pos ⟨ha.1, ha.2⟩]
    simp only [h, decide_true, Bool.true_and, Option.bind_some]
    exact congrArg some (congrArg rightA (by rw [← h]))
  · rw [if_neg h]
    simp [h]
theorem byte1_is (n : Int) : ip4_byte1.f n = some (decide (0 ≤ n ∧ n ≤ 255)) := by
  unfold ip4_byte1.f
  by_cases h : n ≥ 0
  · rw [if_pos h]
    have : (0 ≤ n ∧ n ≤ 255) ↔ n ≤ 255 := ⟨fun h => h.2, fun h2 => ⟨h, h2⟩⟩
    simp [this]
  · rw [if_neg h]
    have : ¬ (0 ≤ n ∧ n ≤ 255) := fun h2 => h h2.1
    simp [this]
def tail4 (fr mo : Bool) (off : Int) (da : List Int) : Bool := !(mo && decide (da.length % 8 ≠ 0)) && (!fr || mo || decide (0 < off))
theorem may4_j2 (k : Nat) (x : Bool) (f s1 s2 s3 t1 t2 t3 pr h : Int) (fr : Bool) (id off : Int) (mo : Bool) (ex da : List Int) :
    ip4_may.j2 (k + 1) x f s1 s2 s3 t1 t2 t3 pr h fr id off mo ex da = some (!x && tail4 fr mo off da) := by
  rw [ip4_may.j2]
  unfold tail4
  by_cases hd : da.length % 8 = 0
  · have hd' : ((da.length : Int) % 8) = 0 := by omega
    rw [if_pos hd']
    cases x <;> cases mo <;> cases fr <;> simp [hd]
  · have hd' : ¬ ((da.length : Int) % 8) = 0 := by omega
    rw [if_neg hd']
    cases x <;> cases mo <;> cases fr <;> simp [hd]
theorem tmod8 {x : Int} (h : 0 ≤ x) : Int.tmod x 8 = x % 8 := Int.tmod_eq_emod_of_nonneg h
theorem may4_j1 (k : Nat) (x : Bool) (f s1 s2 s3 t1 t2 t3 pr h : Int) (fr : Bool) (id off : Int) (mo : Bool) (ex da : List Int) :
    ip4_may.j1 (k + 2) x f s1 s2 s3 t1 t2 t3 pr h fr id off mo ex da = some (!x && (decide (da.length ≤ 65515) && decide (0 ≤ off) && decide (off % 8 = 0) && decide (off + da.length ≤ 65515) && tail4 fr mo off da)) := by
  rw [ip4_may.j1]
  cases x with
  | true => simp
  | false =>
    rw [if_neg (by simp)]
    by_cases c1 : (da.length : Int) > 65515
    · rw [if_pos c1, may4_j2]
      have : ¬ da.length ≤ 65515 := by omega
      simp [this]
    rw [if_neg c1]
    have e1 : da.length ≤ 65515 := by omega
    by_cases c2 : off < 0
    · rw [if_pos c2, may4_j2]
      have : ¬ 0 ≤ off := by omega
      simp [this]
    rw [if_neg c2]
    have e2 : 0 ≤ off := by omega
    rw [tmod8 e2]
    by_cases c3 : off % 8 = 0
    · rw [if_pos c3, may4_j2, w64 _ (by omega) (by omega)]
      by_cases c4 : off > 65515 - (da.length : Int)
      · have : ¬ off + (da.length : Int) ≤ 65515 := by omega
        simp [c4, this]
      · have : off + (da.length : Int) ≤ 65515 := by omega
        simp [c4, this, e1, e2, c3]
    · rw [if_neg c3, may4_j2]
      simp [c3]
theorem may4_j0 (k : Nat) (x : Bool) (f s1 s2 s3 t1 t2 t3 pr h : Int) (fr : Bool) (id off : Int) (mo : Bool) (ex da : List Int) :
    ip4_may.j0 (k + 3) x f s1 s2 s3 t1 t2 t3 pr h fr id off mo ex da = some (!x && (decide (0 ≤ pr ∧ pr ≤ 255) && decide (1 ≤ h ∧ h ≤ 255) && decide (id ≤ 65535) && (decide (da.length ≤ 65515) && decide (0 ≤ off) && decide (off % 8 = 0) && decide (off + da.length ≤ 65515) && tail4 fr mo off da))) := by
  rw [ip4_may.j0]
  cases x with
  | true => simp
  | false =>
    rw [if_neg (by simp), byte1_is, byte1_is]
    simp only [Option.bind_some]
    by_cases c1 : 0 ≤ pr ∧ pr ≤ 255
    · rw [if_pos (by simpa using c1)]
      by_cases c2 : 0 ≤ h ∧ h ≤ 255
      · rw [if_pos (by simpa using c2)]
        by_cases c3 : h = 0
        · rw [if_pos c3, may4_j1]
          have : ¬ (1 ≤ h ∧ h ≤ 255) := by omega
          simp [this]
        · rw [if_neg c3, may4_j1]
          have e : 1 ≤ h ∧ h ≤ 255 := by omega
          by_cases c4 : id > 65535
          · have : ¬ id ≤ 65535 := by omega
            simp [c4, this]
          · have : id ≤ 65535 := by omega
            simp [c4, this, c1, e]
      · rw [if_neg (by simpa using c2), may4_j1]
        have : ¬ (1 ≤ h ∧ h ≤ 255) := by omega
        simp [this]
    · rw [if_neg (by simpa using c1), may4_j1]
      simp [c1]
theorem ip4_may_some (p : IpV) (hs : okA p.src) (hd : okA p.dst) (k : Nat) : onIp (ip4_may.f (k + 3)) p = some (may4 p) := by
  obtain ⟨fam, src, dst, proto, hop, frag, id, off, more, exts, data⟩ := p
  unfold onIp ip4_may.f may4
  simp only at hs hd ⊢
  by_cases c1 : fam = 4
  · rw [if_pos c1, four_is hs, four_is hd]
    simp only [Option.bind_some]
    cases four src with
    | false => rw [if_neg (by simp), may4_j0]; simp
    | true =>
      cases four dst with
      | false => rw [if_pos rfl, if_neg (by simp), may4_j0]; simp
      | true =>
        rw [if_pos rfl, if_pos rfl, may4_j0]
        by_cases c2 : exts.length = 0
        · have : ¬ ((exts.length : Int) > 0) := by omega
          simp [c1, c2, this, tail4, Bool.and_assoc]
        · have : (exts.length : Int) > 0 := by omega
          simp [c1, c2, this]
  · rw [if_neg c1, may4_j0]
    simp [c1]
theorem or8192 (x : Int) (h0 : 0 ≤ x) (h1 : x < 8192) : Go.bits .or .i64 x 8192 = x + 8192 := by
  have h := bits_join .i64 63 (by decide) wraps_i64 13 8192 x (by omega) (by omega) (by omega) h0 (by omega) (by omega)
  have hc : Go.bits .or .i64 x 8192 = Go.bits .or .i64 8192 x := by
    simp only [Go.bits]
    rw [BitVec.or_comm]
  rw [hc, h]
  omega
theorem head4_len (p : IpV) : (head4 p).length = 10 := rfl
theorem okP_two {a b : List Int} (ha : Bytes a) (hb : Bytes b) (hla : a.length ≤ 1000) (hlb : b.length ≤ 140737488353000) : okP [a, b] = true := okP_iff.2 ⟨by simp, fun p hp => by
  simp at hp
  rcases hp with rfl | rfl
  · exact ⟨ha, by omega⟩
  · exact ⟨hb, by omega⟩⟩
theorem bytes_lit {l : List Int} (h : okB l = true) : Bytes l := okB_iff.1 h
theorem bytes_two (a b : Int) : Bytes [a % 256, b % 256] := fun c hc => by
  simp at hc
  omega
theorem bytes_head4 (p : IpV) : Bytes (head4 p) := by
  unfold head4
  exact bytes_append (bytes_put16 (bytes_put16 (bytes_put16 (bytes_lit rfl) _) _) _) (bytes_two _ _)
theorem bytes_ends4 (p : IpV) : Bytes (ends4 p) := bytes_append (bytes_bytesA _) (bytes_bytesA _)
theorem put16_some {l : List Int} (n : Int) (h : l.length ≤ 140737488355000) : QQ.wire_Put16.f l n = some (put16 l n) := by unfold QQ.wire_Put16.f wire_Put16.f; rw [if_pos h]
theorem put16_len (l : List Int) (n : Int) : (put16 l n).length = l.length + 2 := by unfold put16; simp
theorem bytesA_some {a : Int × Int × Int} (ha : okA a) : addr_Bytes.f a.1 a.2.1 a.2.2 = some (bytesA a) := by unfold addr_Bytes.f; rw [if_pos ⟨ha.1, ha.2⟩]
theorem bytesA_le (a : Int × Int × Int) : (bytesA a).length ≤ 16 := by
  unfold bytesA
  split
  · split <;> simp [d4, d8]
  · simp
theorem build4_j0 (k : Nat) (p : IpV) (hs : okA p.src) (hd : okA p.dst) (hl : p.data.length ≤ 65515) (i o : Int) (hi : i = if p.frag = true then p.id else 0) (ho : o = if p.frag = true then p.off / 8 + (if p.more = true then 8192 else 0) else 0) :
    onIp (ip4_Build.j0 (k + 1) i o) p = some (put16 (head4 p) (65535 - sumOf [head4 p, ends4 p]) ++ ends4 p ++ p.data, 0) := by
  have hb1 := bytesA_le p.src
  have hb2 := bytesA_le p.dst
  have hel : (ends4 p).length ≤ 32 := by unfold ends4; rw [List.length_append]; omega
  unfold onIp
  rw [ip4_Build.j0, w64 (20 + (p.data.length : Int)) (by omega) (by omega), put16_some _ (by simp)]
  simp only [Option.bind_some]
  rw [put16_some _ (by rw [put16_len]; simp)]
  simp only [Option.bind_some]
  rw [put16_some _ (by rw [put16_len, put16_len]; simp)]
  simp only [Option.bind_some]
  have hh : put16 (put16 (put16 [69, 0] (20 + p.data.length)) i) o ++ [p.hop % 256, p.proto % 256] = head4 p := by unfold head4; rw [hi, ho]
  rw [if_pos (by simp [put16]), hh, bytesA_some hs, bytesA_some hd]
  simp only [Option.bind_some]
  rw [if_pos (by omega), show bytesA p.src ++ bytesA p.dst = ends4 p from rfl]
  have hc : QQ.wire_Check.f [head4 p, ends4 p] = some (65535 - sumOf [head4 p, ends4 p]) := by
    unfold QQ.wire_Check.f wire_Check.f
    rw [if_pos (okP_two (bytes_head4 p) (bytes_ends4 p) (by rw [head4_len]; omega) (by omega))]
  rw [hc]
  simp only [Option.bind_some]
  rw [put16_some _ (by rw [head4_len]; omega)]
  simp only [Option.bind_some]
  rw [if_pos (by rw [put16_len, head4_len]; omega), if_pos (by rw [List.length_append, put16_len, head4_len]; omega)]
theorem tdiv8 {x : Int} (h : 0 ≤ x) : Int.tdiv x 8 = x / 8 := Int.tdiv_eq_ediv_of_nonneg h
theorem ip4_Build_some (p : IpV) (hs : okA p.src) (hd : okA p.dst) (h0 : 0 ≤ p.id) (k : Nat) : onIp (ip4_Build.f (k + 3)) p = some (build4 p) := by
  have hm := ip4_may_some p hs hd k
  unfold onIp at hm ⊢
  unfold ip4_Build.f
  rw [hm]
  simp only [Option.bind_some]
  unfold build4
  cases h : may4 p with
  | false => simp
  | true =>
    have m := may4_has h
    have m1 := m.id
    have m2 := m.off
    have m3 := m.len
    rw [if_pos rfl, if_pos rfl]
    cases hf : p.frag with
    | false =>
      rw [if_neg (by simp)]
      have := build4_j0 (k + 2) p hs hd m.len 0 0 (by rw [hf]; rfl) (by rw [hf]; rfl)
      unfold onIp at this
      rw [hf] at this
      exact this
    | true =>
      rw [if_pos rfl, w64 p.id (by omega) (by omega), tdiv8 (by omega), w64 (p.off / 8) (by omega) (by omega)]
      cases hmo : p.more with
      | true =>
        rw [if_pos rfl, or8192 _ (by omega) (by omega)]
        have := build4_j0 (k + 2) p hs hd m.len p.id (p.off / 8 + 8192) (by rw [hf]; rfl) (by rw [hf, hmo]; rfl)
        unfold onIp at this
        rw [hf, hmo] at this
        exact this
      | false =>
        rw [if_neg (by simp)]
        have := build4_j0 (k + 2) p hs hd m.len p.id (p.off / 8) (by rw [hf]; rfl) (by rw [hf, hmo]; simp)
        unfold onIp at this
        rw [hf, hmo] at this
        exact this
end Go.Proofs.Ytgifcmbknkjemaa.Own
end
section
namespace Go.Proofs.Ytgifcmbknkjemaa.Own
open Go Go.RowKit Go.Proofs.YtgifcmbknkjemaaW.PrintWords Go.Proofs.YtgifcmbknkjemaaW.PrintLast Go.Proofs.YtgifcmbknkjemaaW.PrintMore
set_option linter.unusedVariables false
set_option linter.unusedSimpArgs false
set_option maxHeartbeats 2000000 in
set_option maxRecDepth 100000 in
theorem SameIp_at {w : World} {p : IpV} {Ae Be Ad Bd : Option Addr} {ce de cd dd : Nat} (h1 : (Kd.int .i64).C w Ae p.exts.length p.exts) (h2 : (Kd.int .i64).C w Be p.exts.length p.exts) (h3 : (Kd.int .u8).C w Ad p.data.length p.data) (h4 : (Kd.int .u8).C w Bd p.data.length p.data) (hby : Bytes p.data) (hl : p.exts.length ≤ 1000000000) (hcd : p.data.length ≤ cd) (hdd : p.data.length ≤ dd) :
    Calls Try.prog 57 #[.agg (ipCells p (.slice Ae p.exts.length ce) (.slice Ad p.data.length cd)), .agg (ipCells p (.slice Be p.exts.length de) (.slice Bd p.data.length dd))] w fun e w' => e = .returned (.bool true) ∧ Below w.heap.size w w' := by
  obtain ⟨fam, src, dst, proto, hop, frag, id, off, more, exts, data⟩ := p
  obtain ⟨s1, s2, s3⟩ := src
  obtain ⟨t1, t2, t3⟩ := dst
  obtain ⟨n, hn⟩ : ∃ n, n = exts.length := ⟨_, rfl⟩
  obtain ⟨m, hm⟩ : ∃ m, m = data.length := ⟨_, rfl⟩
  unfold ipCells
  simp only at h1 h2 h3 h4 hby hl hcd hdd ⊢
  rw [← hn] at h1 h2 hl ⊢
  rw [← hm] at h3 h4 hcd hdd ⊢
  have hw : ∀ W, Below w.heap.size w W → Calls Try.prog 46 #[.slice Ad m cd, .slice Bd m dd] W fun e w' => e = .returned (.bool true) ∧ ∃ k, w' = W.drewN k := fun W hW => by
    have a := Kd.C_below h3 hW
    have b := Kd.C_below h4 hW
    rw [hm] at a b hcd hdd ⊢
    refine (stockaderef01_Same.calls Ad cd data Bd dd data true W a hcd b hdd ?_).mono fun e w' h => ⟨h.1, h.2.out⟩
    unfold stockaderef01_Same.f
    rw [if_pos ⟨okB_iff.2 hby, okB_iff.2 hby⟩]
    simp
  have HW := Aside0.mk hw
  have H1 := Aside0.mk h1
  have H2 := Aside0.mk h2
  clear hw h1 h2 h3 h4 hby hn hm hcd hdd
  have hnm : n ≤ 9223372036854775807 := by omega
  go_enter Try.func57, Try.ntmps57
  go_wp2
  go_loopw [5] (fun i wr => ∃ k : Nat, k ≤ n ∧ i = .int .i64 k ∧ Aside0 (wr.heap[w.heap.size]? = some (.cells (ipCells ⟨fam, (s1, s2, s3), (t1, t2, t3), proto, hop, frag, id, off, more, exts, data⟩ (.slice Ae n ce) (.slice Ad m cd)) 55 (0, 0))) ∧ Aside0 (wr.heap[w.heap.size + 1]? = some (.cells (ipCells ⟨fam, (s1, s2, s3), (t1, t2, t3), proto, hop, frag, id, off, more, exts, data⟩ (.slice Be n de) (.slice Bd m dd)) 55 (0, 0))) ∧ Aside0 (Below w.heap.size w wr)) (fun i _ => n - (intOf i).toNat)
  case atStart => exact ⟨0, Nat.zero_le _, rfl, ⟨blk_alloc (blk_at rfl) _⟩, ⟨blk_at (W := w.alloc _) (by simp)⟩, ⟨below_alloc (below_alloc (Below.refl _ _) _) _⟩⟩
  case round =>
    obtain ⟨k, hk, rfl, HA, HB, HBel⟩ := hrel
    have a13 : wr.cell? ⟨w.heap.size, 13, none⟩ = some (.slice Ae n ce) := blk_cell HA.out 13
    have b13 : wr.cell? ⟨w.heap.size + 1, 13, none⟩ = some (.slice Be n de) := blk_cell HB.out 13
    by_cases hlt : k < n
    · obtain ⟨ae, rfl, ea⟩ := Kd.at_int (Kd.C_below H1.out HBel.out) (k : Int) (by omega) (by omega)
      obtain ⟨be', rfl, eb⟩ := Kd.at_int (Kd.C_below H2.out HBel.out) (k : Int) (by omega) (by omega)
      rw [Int.toNat_natCast] at ea eb
      obtain ⟨v, hv⟩ : ∃ v, v = rd exts (k : Int) := ⟨_, rfl⟩
      rw [← hv] at ea eb
      have q0 : (0 : Int) ≤ (k : Int) := by omega
      have q1 : (k : Int) < (n : Int) := by omega
      have e1 : IntKind.i64.wrap ((k : Int) + 1) = (k : Int) + 1 := wraps_i64 _ (by omega) (by omega)
      clear hv
      go_wp2
      go_quiet (fail)
      go_wp2
      go_roundw
      case rel => exact ⟨k + 1, by omega, by go_num, HA, HB, ⟨pw_below_drewN HBel.out _⟩⟩
      case measure => simp [intOf]; omega
    · have q1 : (n : Int) ≤ (k : Int) := by omega
      have q2 : ¬ (k : Int) < (n : Int) := by omega
      have a0 : wr.cell? ⟨w.heap.size, 0, none⟩ = some (.int .i64 fam) := blk_cell HA.out 0
      have a1 : wr.cell? ⟨w.heap.size, 1, none⟩ = some (.int .i64 s1) := blk_cell HA.out 1
      have a2 : wr.cell? ⟨w.heap.size, 2, none⟩ = some (.int .u64 s2) := blk_cell HA.out 2
      have a3 : wr.cell? ⟨w.heap.size, 3, none⟩ = some (.int .u64 s3) := blk_cell HA.out 3
      have a4 : wr.cell? ⟨w.heap.size, 4, none⟩ = some (.int .i64 t1) := blk_cell HA.out 4
      have a5 : wr.cell? ⟨w.heap.size, 5, none⟩ = some (.int .u64 t2) := blk_cell HA.out 5
      have a6 : wr.cell? ⟨w.heap.size, 6, none⟩ = some (.int .u64 t3) := blk_cell HA.out 6
      have a7 : wr.cell? ⟨w.heap.size, 7, none⟩ = some (.int .i64 proto) := blk_cell HA.out 7
      have a8 : wr.cell? ⟨w.heap.size, 8, none⟩ = some (.int .i64 hop) := blk_cell HA.out 8
      have a9 : wr.cell? ⟨w.heap.size, 9, none⟩ = some (.bool frag) := blk_cell HA.out 9
      have a10 : wr.cell? ⟨w.heap.size, 10, none⟩ = some (.int .u32 id) := blk_cell HA.out 10
      have a11 : wr.cell? ⟨w.heap.size, 11, none⟩ = some (.int .i64 off) := blk_cell HA.out 11
      have a12 : wr.cell? ⟨w.heap.size, 12, none⟩ = some (.bool more) := blk_cell HA.out 12
      have a14 : wr.cell? ⟨w.heap.size, 14, none⟩ = some (.slice Ad m cd) := blk_cell HA.out 14
      have b0 : wr.cell? ⟨w.heap.size + 1, 0, none⟩ = some (.int .i64 fam) := blk_cell HB.out 0
      have b1 : wr.cell? ⟨w.heap.size + 1, 1, none⟩ = some (.int .i64 s1) := blk_cell HB.out 1
      have b2 : wr.cell? ⟨w.heap.size + 1, 2, none⟩ = some (.int .u64 s2) := blk_cell HB.out 2
      have b3 : wr.cell? ⟨w.heap.size + 1, 3, none⟩ = some (.int .u64 s3) := blk_cell HB.out 3
      have b4 : wr.cell? ⟨w.heap.size + 1, 4, none⟩ = some (.int .i64 t1) := blk_cell HB.out 4
      have b5 : wr.cell? ⟨w.heap.size + 1, 5, none⟩ = some (.int .u64 t2) := blk_cell HB.out 5
      have b6 : wr.cell? ⟨w.heap.size + 1, 6, none⟩ = some (.int .u64 t3) := blk_cell HB.out 6
      have b7 : wr.cell? ⟨w.heap.size + 1, 7, none⟩ = some (.int .i64 proto) := blk_cell HB.out 7
      have b8 : wr.cell? ⟨w.heap.size + 1, 8, none⟩ = some (.int .i64 hop) := blk_cell HB.out 8
      have b9 : wr.cell? ⟨w.heap.size + 1, 9, none⟩ = some (.bool frag) := blk_cell HB.out 9
      have b10 : wr.cell? ⟨w.heap.size + 1, 10, none⟩ = some (.int .u32 id) := blk_cell HB.out 10
      have b11 : wr.cell? ⟨w.heap.size + 1, 11, none⟩ = some (.int .i64 off) := blk_cell HB.out 11
      have b12 : wr.cell? ⟨w.heap.size + 1, 12, none⟩ = some (.bool more) := blk_cell HB.out 12
      have b14 : wr.cell? ⟨w.heap.size + 1, 14, none⟩ = some (.slice Bd m dd) := blk_cell HB.out 14
      go_wp2_with (go_at_call 46; refine (HW.out _ HBel.out).mono ?_; rintro e w' ⟨rfl, q, rfl⟩)
      go_ret
      exact ⟨rfl, pw_below_drewN HBel.out _⟩
end Go.Proofs.Ytgifcmbknkjemaa.Own
end
section
namespace Go.Proofs.Ytgifcmbknkjemaa.Own
open Go Go.RowKit Go.Proofs.YtgifcmbknkjemaaW.PrintWords Go.Proofs.YtgifcmbknkjemaaW.PrintLast Go.Proofs.YtgifcmbknkjemaaW.PrintMore
set_option linter.unusedVariables false
def BuildPost (w : World) (r : List Int × Int) (e : Ending) (w' : World) : Prop :=
  ∃ v : Value, e = .returned (.tuple #[v, .int .i64 r.2]) ∧ Kd.R (Kd.int .u8) 5 w' w.heap.size (fun _ => True) v r.1 ∧ Below w.heap.size w w'
theorem Kd.R_form {k : IntKind} {e base : Nat} {w : World} {v : Value} {xs : List Int} {n : Nat} (h : Kd.R (Kd.int k) e w base (fun _ => True) v xs) (hn : xs.length = n) : ∃ A c, v = .slice A n c ∧ n ≤ c ∧ (Kd.int k).C w A n xs := by
  subst hn
  exact Kd.R_reads h
end Go.Proofs.Ytgifcmbknkjemaa.Own
end
section
namespace Go.Proofs.Ytgifcmbknkjemaa.Own
open Go Go.RowKit Go.Proofs.YtgifcmbknkjemaaW.PrintWords Go.Proofs.YtgifcmbknkjemaaW.PrintLast Go.Proofs.YtgifcmbknkjemaaW.PrintMore
set_option linter.unusedVariables false
set_option linter.unusedSimpArgs false
theorem Build4_at {w : World} {p : IpV} {Ae Ad : Option Addr} {ne nd ce cd : Nat} (h1 : (Kd.int .i64).C w Ae ne p.exts) (h2 : (Kd.int .u8).C w Ad nd p.data) (hce : ne ≤ ce) (hcd : nd ≤ cd) (ok : IpOk p) :
    Calls Try.prog 67 #[.agg (ipCells p (.slice Ae ne ce) (.slice Ad nd cd))] w (BuildPost w (build4 p)) := by
  have l1 := h1.1
  have l2 := h2.1
  subst l1 l2
  have h := ip4_Build_some p ok.2.2.1 ok.2.2.2.1 ok.1 0
  exact QQ.ip4_Build.calls 3 _ _ _ _ _ _ _ _ _ _ _ _ _ Ae ce p.exts Ad cd p.data (build4 p).1 (build4 p).2 w h1 hce h2 hcd h
def smallV : IpV := ⟨4, (4, 0, 167772161), (4, 0, 167772162), 17, 64, false, 0, 0, false, [], [1, 2, 3, 4]⟩
theorem small_ok : IpOk smallV := ⟨by decide, by decide, ⟨⟨by decide, by decide⟩, by decide, by decide⟩, ⟨⟨by decide, by decide⟩, by decide, by decide⟩, bytes_lit rfl⟩
theorem small_may : may4 smallV = true := by decide
theorem Small_at (w : World) : Calls Try.prog 115 #[] w fun e w' => ∃ vE vD : Value, e = .returned (.agg (ipCells smallV vE vD)) ∧ Kd.R (Kd.int .i64) 3 w' w.heap.size (fun _ => True) vE [] ∧ Kd.R (Kd.int .u8) 5 w' w.heap.size (fun _ => True) vD [1, 2, 3, 4] ∧ Below w.heap.size w w' :=
  QQ.stockadelaw03_small.calls 4 4 0 167772161 4 0 167772162 17 64 false 0 0 false [] [1, 2, 3, 4] w rfl
set_option maxHeartbeats 4000000 in
set_option maxRecDepth 100000 in
theorem Alive3_at (w : World) : Calls Try.prog 66 #[] w fun e w' => e = .returned (.bool true) ∧ Below w.heap.size w w' := by
  obtain ⟨B, hB⟩ : ∃ B, B = (build4 smallV).1 := ⟨_, rfl⟩
  have hb2 : build4 smallV = (B, 0) := by rw [hB, build4_is small_may]
  have hB2 : B = H20 smallV ++ [1, 2, 3, 4] := by rw [hB, build4_is small_may]; rfl
  have hpar : parse4 B = (smallV, 0) := by rw [hB]; exact parse4_build small_may small_ok
  have hlen : B.length = 24 := by rw [hB2]; rfl
  have h0 : rd B 0 = 69 := by rw [hB2]; rfl
  have h9 : rd B 9 = 17 := by rw [hB2]; rfl
  have hby : Bytes B := by rw [hB2]; exact bytes_append (bytes_H20 (may4_has small_may) small_ok) (bytes_lit rfl)
  have HB := Aside0.mk (And.intro hb2 (And.intro hpar (And.intro hlen (And.intro h0 (And.intro h9 hby)))))
  clear hB hb2 hB2 hpar hlen h0 h9 hby
  go_enter Try.func66, Try.ntmps66
  go_wp2_with (fail)
  refine (Small_at w).mono ?_
  rintro e1 w1 ⟨vE, vD, rfl, hE, hD, hb1⟩
  obtain ⟨Ae, ce, rfl, hce, hCE⟩ := Kd.R_form hE (show ([] : List Int).length = 0 from rfl)
  obtain ⟨Ad, cd, rfl, hcd, hCD⟩ := Kd.R_form hD (show ([1, 2, 3, 4] : List Int).length = 4 from rfl)
  have hbuild := Build4_at (p := smallV) hCE hCD hce hcd small_ok
  rw [HB.out.1] at hbuild
  have B1 := Aside0.mk hb1
  clear hE hD hb1 hCE hCD
  go_wp2_with (fail)
  refine hbuild.mono ?_
  rintro e2 w2 ⟨v, rfl, hv, hb2⟩
  obtain ⟨A, c, rfl, hc, hC⟩ := Kd.R_form hv HB.out.2.2.1
  have HC := Aside0.mk hC
  have B2 := Aside0.mk (below_then B1.out B1.out.size hb2)
  have hparse := Parse4_at hC hc HB.out.2.2.2.2.2 (by omega)
  rw [HB.out.2.1] at hparse
  clear hv hC hb2 hbuild
  go_wp2_with (fail)
  refine hparse.mono ?_
  rintro e4 w4 ⟨vE, vD, rfl, hE, hD, hb4⟩
  obtain ⟨Ae, ce, rfl, hce, hCE⟩ := Kd.R_form hE (show smallV.exts.length = 0 from rfl)
  obtain ⟨Ad, cd, rfl, hcd, hCD⟩ := Kd.R_form hD (show smallV.data.length = 4 from rfl)
  have B4 := Aside0.mk (below_then B2.out B2.out.size hb4)
  have HC4 := Aside0.mk (Kd.C_below HC.out hb4)
  have HE := Aside0.mk (And.intro hCE hCD)
  clear hE hD hb4 hCE hCD hparse HC
  go_upto_region 3 with (refine wpList_store_new rfl 55 (.tmp 3) (.tmp 13) rfl _ (ipCells smallV (.slice Ae 0 ce) (.slice Ad 4 cd)) rfl rfl (by kernel_rfl) rfl (ipCells_one _ _ _ _ _ _ _) ?_)
  obtain ⟨ad, rfl, c0⟩ := Kd.at_int HC4.out 0 (by omega) (by omega)
  obtain ⟨_, h9', c9⟩ := Kd.at_int HC4.out 9 (by omega) (by omega)
  obtain rfl := Option.some.inj h9'
  rw [show ((0 : Int)).toNat = 0 from rfl, Addr.add_zero', HB.out.2.2.2.1] at c0
  rw [show ((9 : Int)).toNat = 9 from rfl, add_at _ _ (by omega), HB.out.2.2.2.2.1] at c9
  have d0 : (w4.alloc (.cells (ipCells smallV (.slice Ae 0 ce) (.slice Ad 4 cd)) 55)).drew.cell? ad = some (.int .u8 69) := pw_cell_below (below_alloc (Below.refl _ _) _) c0
  have d9 : (w4.alloc (.cells (ipCells smallV (.slice Ae 0 ce) (.slice Ad 4 cd)) 55)).drew.cell? ⟨ad.block, ad.off + 9, none⟩ = some (.int .u8 17) := pw_cell_below (below_alloc (Below.refl _ _) _) c9
  have kd0 : (w4.alloc (.cells (ipCells smallV (.slice Ae 0 ce) (.slice Ad 4 cd)) 55)).drew.cell? ⟨w4.heap.size, 0, none⟩ = some (.int .i64 4) := blk_cell (blk_at (W := w4) rfl) 0
  have kd1 : (w4.alloc (.cells (ipCells smallV (.slice Ae 0 ce) (.slice Ad 4 cd)) 55)).drew.cell? ⟨w4.heap.size, 1, none⟩ = some (.int .i64 4) := blk_cell (blk_at (W := w4) rfl) 1
  have kd2 : (w4.alloc (.cells (ipCells smallV (.slice Ae 0 ce) (.slice Ad 4 cd)) 55)).drew.cell? ⟨w4.heap.size, 2, none⟩ = some (.int .u64 0) := blk_cell (blk_at (W := w4) rfl) 2
  have kd3 : (w4.alloc (.cells (ipCells smallV (.slice Ae 0 ce) (.slice Ad 4 cd)) 55)).drew.cell? ⟨w4.heap.size, 3, none⟩ = some (.int .u64 167772161) := blk_cell (blk_at (W := w4) rfl) 3
  have kd4 : (w4.alloc (.cells (ipCells smallV (.slice Ae 0 ce) (.slice Ad 4 cd)) 55)).drew.cell? ⟨w4.heap.size, 4, none⟩ = some (.int .i64 4) := blk_cell (blk_at (W := w4) rfl) 4
  have kd5 : (w4.alloc (.cells (ipCells smallV (.slice Ae 0 ce) (.slice Ad 4 cd)) 55)).drew.cell? ⟨w4.heap.size, 5, none⟩ = some (.int .u64 0) := blk_cell (blk_at (W := w4) rfl) 5
  have kd6 : (w4.alloc (.cells (ipCells smallV (.slice Ae 0 ce) (.slice Ad 4 cd)) 55)).drew.cell? ⟨w4.heap.size, 6, none⟩ = some (.int .u64 167772162) := blk_cell (blk_at (W := w4) rfl) 6
  have kd7 : (w4.alloc (.cells (ipCells smallV (.slice Ae 0 ce) (.slice Ad 4 cd)) 55)).drew.cell? ⟨w4.heap.size, 7, none⟩ = some (.int .i64 17) := blk_cell (blk_at (W := w4) rfl) 7
  have kd8 : (w4.alloc (.cells (ipCells smallV (.slice Ae 0 ce) (.slice Ad 4 cd)) 55)).drew.cell? ⟨w4.heap.size, 8, none⟩ = some (.int .i64 64) := blk_cell (blk_at (W := w4) rfl) 8
  have kd9 : (w4.alloc (.cells (ipCells smallV (.slice Ae 0 ce) (.slice Ad 4 cd)) 55)).drew.cell? ⟨w4.heap.size, 9, none⟩ = some (.bool false) := blk_cell (blk_at (W := w4) rfl) 9
  have kd10 : (w4.alloc (.cells (ipCells smallV (.slice Ae 0 ce) (.slice Ad 4 cd)) 55)).drew.cell? ⟨w4.heap.size, 10, none⟩ = some (.int .u32 0) := blk_cell (blk_at (W := w4) rfl) 10
  have kd11 : (w4.alloc (.cells (ipCells smallV (.slice Ae 0 ce) (.slice Ad 4 cd)) 55)).drew.cell? ⟨w4.heap.size, 11, none⟩ = some (.int .i64 0) := blk_cell (blk_at (W := w4) rfl) 11
  have kd12 : (w4.alloc (.cells (ipCells smallV (.slice Ae 0 ce) (.slice Ad 4 cd)) 55)).drew.cell? ⟨w4.heap.size, 12, none⟩ = some (.bool false) := blk_cell (blk_at (W := w4) rfl) 12
  have kd13 : (w4.alloc (.cells (ipCells smallV (.slice Ae 0 ce) (.slice Ad 4 cd)) 55)).drew.cell? ⟨w4.heap.size, 13, none⟩ = some (.slice Ae 0 ce) := blk_cell (blk_at (W := w4) rfl) 13
  have kd14 : (w4.alloc (.cells (ipCells smallV (.slice Ae 0 ce) (.slice Ad 4 cd)) 55)).drew.cell? ⟨w4.heap.size, 14, none⟩ = some (.slice Ad 4 cd) := blk_cell (blk_at (W := w4) rfl) 14
  clear c0 c9
  have BA := Aside0.mk (below_drew (below_alloc B4.out (.cells (ipCells smallV (.slice Ae 0 ce) (.slice Ad 4 cd)) 55)))
  have hsame : ∀ W, Below (w4.alloc (.cells (ipCells smallV (.slice Ae 0 ce) (.slice Ad 4 cd)) 55)).heap.size (w4.alloc (.cells (ipCells smallV (.slice Ae 0 ce) (.slice Ad 4 cd)) 55)).drew W → ∀ (Be Bd : Option Addr) (de dd : Nat), 0 ≤ de → 4 ≤ dd → (Kd.int .i64).C W Be 0 [] → (Kd.int .u8).C W Bd 4 [1, 2, 3, 4] → Calls Try.prog 57 #[.agg (ipCells smallV (.slice Ae 0 ce) (.slice Ad 4 cd)), .agg (ipCells smallV (.slice Be 0 de) (.slice Bd 4 dd))] W fun e w' => e = .returned (.bool true) ∧ Below W.heap.size W w' := fun W hW Be Bd de dd hde hdd g1 g2 =>
    SameIp_at (p := smallV) (Kd.C_below (Kd.C_drew (Kd.C_alloc HE.out.1 _)) hW) g1 (Kd.C_below (Kd.C_drew (Kd.C_alloc HE.out.2 _)) hW) g2 (bytes_lit rfl) (by show 0 ≤ _; omega) hcd hdd
  have HS := Aside0.mk hsame
  clear hsame
  go_cut [0] (fun v wc => v = .bool true ∧ Aside0 (Below w.heap.size w wc))
  case first =>
    go_region_held3 (fun w' => w'.cell? ⟨w4.heap.size, 0, none⟩ = some (.int .i64 4) ∧ w'.cell? ⟨w4.heap.size, 1, none⟩ = some (.int .i64 4) ∧ w'.cell? ⟨w4.heap.size, 2, none⟩ = some (.int .u64 0) ∧ w'.cell? ⟨w4.heap.size, 3, none⟩ = some (.int .u64 167772161) ∧ w'.cell? ⟨w4.heap.size, 4, none⟩ = some (.int .i64 4) ∧ w'.cell? ⟨w4.heap.size, 5, none⟩ = some (.int .u64 0) ∧ w'.cell? ⟨w4.heap.size, 6, none⟩ = some (.int .u64 167772162) ∧ w'.cell? ⟨w4.heap.size, 7, none⟩ = some (.int .i64 17) ∧ w'.cell? ⟨w4.heap.size, 8, none⟩ = some (.int .i64 64) ∧ w'.cell? ⟨w4.heap.size, 9, none⟩ = some (.bool false) ∧ w'.cell? ⟨w4.heap.size, 10, none⟩ = some (.int .u32 0) ∧ w'.cell? ⟨w4.heap.size, 11, none⟩ = some (.int .i64 0) ∧ w'.cell? ⟨w4.heap.size, 12, none⟩ = some (.bool false) ∧ w'.cell? ⟨w4.heap.size, 13, none⟩ = some (.slice Ae 0 ce) ∧ w'.cell? ⟨w4.heap.size, 14, none⟩ = some (.slice Ad 4 cd) ∧ w'.cell? ad = some (.int .u8 69) ∧ w'.cell? ⟨ad.block, ad.off + 9, none⟩ = some (.int .u8 17)) (first | with_reducible exact ⟨kd0, kd1, kd2, kd3, kd4, kd5, kd6, kd7, kd8, kd9, kd10, kd11, kd12, kd13, kd14, d0, d9⟩ | with_reducible exact ⟨s0, s1, s2, s3, s4, s5, s6, s7, s8, s9, s10, s11, s12, s13, s14, sa, sb⟩ | with_reducible exact ⟨t0, t1, t2, t3, t4, t5, t6, t7, t8, t9, t10, t11, t12, t13, t14, ta, tb⟩)
      ((first
        | (go_at_call 115; refine (Small_at _).mono ?_; rintro e7 w7 ⟨vE7, vD7, rfl, hE7, hD7, hb7⟩; obtain ⟨Be, de, rfl, hde, hCE7⟩ := Kd.R_form hE7 (show ([] : List Int).length = 0 from rfl); obtain ⟨Bd, dd, rfl, hdd, hCD7⟩ := Kd.R_form hD7 (show ([1, 2, 3, 4] : List Int).length = 4 from rfl); have F7 := Aside0.mk (And.intro hb7 (And.intro hCE7 hCD7)); have t0 := pw_cell_at hb7 kd0; have t1 := pw_cell_at hb7 kd1; have t2 := pw_cell_at hb7 kd2; have t3 := pw_cell_at hb7 kd3; have t4 := pw_cell_at hb7 kd4; have t5 := pw_cell_at hb7 kd5; have t6 := pw_cell_at hb7 kd6; have t7 := pw_cell_at hb7 kd7; have t8 := pw_cell_at hb7 kd8; have t9 := pw_cell_at hb7 kd9; have t10 := pw_cell_at hb7 kd10; have t11 := pw_cell_at hb7 kd11; have t12 := pw_cell_at hb7 kd12; have t13 := pw_cell_at hb7 kd13; have t14 := pw_cell_at hb7 kd14; have ta := pw_cell_at hb7 d0; have tb := pw_cell_at hb7 d9; clear hE7 hD7 hb7 hCE7 hCD7)
        | (go_at_call 57; refine (HS.out w7 F7.out.1 Be Bd de dd hde hdd F7.out.2.1 F7.out.2.2).mono ?_; rintro e8 w8 ⟨rfl, hb8⟩; have F8 := Aside0.mk hb8; have s0 := pw_cell_at hb8 t0; have s1 := pw_cell_at hb8 t1; have s2 := pw_cell_at hb8 t2; have s3 := pw_cell_at hb8 t3; have s4 := pw_cell_at hb8 t4; have s5 := pw_cell_at hb8 t5; have s6 := pw_cell_at hb8 t6; have s7 := pw_cell_at hb8 t7; have s8 := pw_cell_at hb8 t8; have s9 := pw_cell_at hb8 t9; have s10 := pw_cell_at hb8 t10; have s11 := pw_cell_at hb8 t11; have s12 := pw_cell_at hb8 t12; have s13 := pw_cell_at hb8 t13; have s14 := pw_cell_at hb8 t14; have sa := pw_cell_at hb8 ta; have sb := pw_cell_at hb8 tb; clear hb8)))
    go_wp2
    go_meet
    case rel => exact ⟨rfl, ⟨below_then (below_then BA.out BA.out.size F7.out.1) (Nat.le_trans BA.out.size F7.out.1.size) F8.out⟩⟩
  case rest =>
    obtain ⟨rfl, hbw⟩ := hcut
    go_wp2
    go_ret
    exact ⟨rfl, hbw.out⟩
end Go.Proofs.Ytgifcmbknkjemaa.Own
end
section
namespace Go.Proofs.Ytgifcmbknkjemaa.Own
open Go Go.RowKit Go.Proofs.YtgifcmbknkjemaaW.PrintWords Go.Proofs.YtgifcmbknkjemaaW.PrintLast Go.Proofs.YtgifcmbknkjemaaW.PrintMore
set_option linter.unusedVariables false
set_option linter.unusedSimpArgs false
theorem ite_both {α : Type} {P : α → Prop} {c : Prop} [Decidable c] {a b : α} (ha : P a) (hb : P b) : P (if c then a else b) := by
  by_cases h : c
  · rw [if_pos h]; exact ha
  · rw [if_neg h]; exact hb
def Inv4 (b : List Int) (r : IpV × Int) : Prop := r.1.exts.length ≤ 8 ∧ Bytes r.1.data ∧ r.1.data.length ≤ b.length
theorem parse4_inv {b : List Int} (hb : Bytes b) : (parse4 b).1.exts.length ≤ 8 ∧ Bytes (parse4 b).1.data ∧ (parse4 b).1.data.length ≤ b.length := by
  have hz : ∀ e, Inv4 b (zeroV, e) := fun e => ⟨Nat.zero_le _, (fun y hy => by cases hy), Nat.zero_le _⟩
  have hd : ∀ m k : Nat, Bytes ((b.take m).drop k) ∧ ((b.take m).drop k).length ≤ b.length := fun m k => ⟨fun y hy => hb y (List.mem_of_mem_take (List.mem_of_mem_drop hy)), by simp only [List.length_drop, List.length_take]; omega⟩
  show Inv4 b (parse4 b)
  unfold parse4
  refine ite_both (hz _) ?_
  refine ite_both (hz _) ?_
  refine ite_both (hz _) ?_
  refine ite_both (hz _) ?_
  refine ite_both (hz _) ?_
  refine ite_both (hz _) ?_
  refine ite_both (hz _) ?_
  refine ite_both (hz _) ?_
  refine ite_both (hz _) ?_
  refine ite_both (hz _) ?_
  exact ite_both ⟨Nat.zero_le _, hd _ _⟩ ⟨Nat.zero_le _, hd _ _⟩
end Go.Proofs.Ytgifcmbknkjemaa.Own
end
section
namespace Go.Proofs.Ytgifcmbknkjemaa.Own
open Go Go.RowKit Go.Proofs.YtgifcmbknkjemaaW.PrintWords Go.Proofs.YtgifcmbknkjemaaW.PrintLast Go.Proofs.YtgifcmbknkjemaaW.PrintMore
set_option linter.unusedVariables false
set_option linter.unusedSimpArgs false
def ipT (r : IpV × Int) : Int × Int × Int × Int × Int × Int × Int × Int × Int × Bool × Int × Int × Bool × List Int × List Int × Int :=
  (r.1.fam, r.1.src.1, r.1.src.2.1, r.1.src.2.2, r.1.dst.1, r.1.dst.2.1, r.1.dst.2.2, r.1.proto, r.1.hop, r.1.frag, r.1.id, r.1.off, r.1.more, r.1.exts, r.1.data, r.2)
def stockaderef03_Same.f (a0_0 : Int) (a0_1 : Int) (a0_2 : Int) (a0_3 : Int) (a0_4 : Int) (a0_5 : Int) (a0_6 : Int) (a0_7 : Int) (a0_8 : Int) (a0_9 : Bool) (a0_10 : Int) (a0_11 : Int) (a0_12 : Bool) (l0_13 : List Int) (l0_14 : List Int) (a1_0 : Int) (a1_1 : Int) (a1_2 : Int) (a1_3 : Int) (a1_4 : Int) (a1_5 : Int) (a1_6 : Int) (a1_7 : Int) (a1_8 : Int) (a1_9 : Bool) (a1_10 : Int) (a1_11 : Int) (a1_12 : Bool) (l1_13 : List Int) (l1_14 : List Int) : Option (Bool) := if (a0_0 = a1_0 ∧ a0_1 = a1_1 ∧ a0_2 = a1_2 ∧ a0_3 = a1_3 ∧ a0_4 = a1_4 ∧ a0_5 = a1_5 ∧ a0_6 = a1_6 ∧ a0_7 = a1_7 ∧ a0_8 = a1_8 ∧ a0_9 = a1_9 ∧ a0_10 = a1_10 ∧ a0_11 = a1_11 ∧ a0_12 = a1_12 ∧ l0_13 = l1_13 ∧ l0_14 = l1_14) ∧ okB l0_14 = true ∧ l0_13.length ≤ 1000000000 then some (true) else none
set_option maxRecDepth 100000 in
theorem stockaderef03_Same.calls (a0_0 : Int) (a0_1 : Int) (a0_2 : Int) (a0_3 : Int) (a0_4 : Int) (a0_5 : Int) (a0_6 : Int) (a0_7 : Int) (a0_8 : Int) (a0_9 : Bool) (a0_10 : Int) (a0_11 : Int) (a0_12 : Bool) (A0_13 : Option Addr) (c0_13 : Nat) (l0_13 : List Int) (A0_14 : Option Addr) (c0_14 : Nat) (l0_14 : List Int) (a1_0 : Int) (a1_1 : Int) (a1_2 : Int) (a1_3 : Int) (a1_4 : Int) (a1_5 : Int) (a1_6 : Int) (a1_7 : Int) (a1_8 : Int) (a1_9 : Bool) (a1_10 : Int) (a1_11 : Int) (a1_12 : Bool) (A1_13 : Option Addr) (c1_13 : Nat) (l1_13 : List Int) (A1_14 : Option Addr) (c1_14 : Nat) (l1_14 : List Int) (r : Bool) (w : World) (hr0_13 : Kd.C (Kd.int .i64) w A0_13 l0_13.length l0_13) (hc0_13 : l0_13.length ≤ c0_13) (hr0_14 : Kd.C (Kd.int .u8) w A0_14 l0_14.length l0_14) (hc0_14 : l0_14.length ≤ c0_14) (hr1_13 : Kd.C (Kd.int .i64) w A1_13 l1_13.length l1_13) (hc1_13 : l1_13.length ≤ c1_13) (hr1_14 : Kd.C (Kd.int .u8) w A1_14 l1_14.length l1_14) (hc1_14 : l1_14.length ≤ c1_14) (h : stockaderef03_Same.f a0_0 a0_1 a0_2 a0_3 a0_4 a0_5 a0_6 a0_7 a0_8 a0_9 a0_10 a0_11 a0_12 l0_13 l0_14 a1_0 a1_1 a1_2 a1_3 a1_4 a1_5 a1_6 a1_7 a1_8 a1_9 a1_10 a1_11 a1_12 l1_13 l1_14 = some r) :
    Calls Try.prog 57 #[.agg #[.int .i64 a0_0, .int .i64 a0_1, .int .u64 a0_2, .int .u64 a0_3, .int .i64 a0_4, .int .u64 a0_5, .int .u64 a0_6, .int .i64 a0_7, .int .i64 a0_8, .bool a0_9, .int .u32 a0_10, .int .i64 a0_11, .bool a0_12, .slice A0_13 l0_13.length c0_13, .slice A0_14 l0_14.length c0_14], .agg #[.int .i64 a1_0, .int .i64 a1_1, .int .u64 a1_2, .int .u64 a1_3, .int .i64 a1_4, .int .u64 a1_5, .int .u64 a1_6, .int .i64 a1_7, .int .i64 a1_8, .bool a1_9, .int .u32 a1_10, .int .i64 a1_11, .bool a1_12, .slice A1_13 l1_13.length c1_13, .slice A1_14 l1_14.length c1_14]] w fun e w' => e = .returned (.bool r) ∧ Below w.heap.size w w' := by
  unfold stockaderef03_Same.f at h
  split at h
  · rename_i hg
    obtain rfl := Option.some.inj h
    obtain ⟨he, hby, hle⟩ := hg
    obtain ⟨rfl, rfl, rfl, rfl, rfl, rfl, rfl, rfl, rfl, rfl, rfl, rfl, rfl, rfl, rfl⟩ := he
    exact SameIp_at (p := (⟨a0_0, (a0_1, a0_2, a0_3), (a0_4, a0_5, a0_6), a0_7, a0_8, a0_9, a0_10, a0_11, a0_12, l0_13, l0_14⟩ : IpV)) hr0_13 hr1_13 hr0_14 hr1_14 (okB_iff.1 hby) hle hc0_14 hc1_14
  · cases h
end Go.Proofs.Ytgifcmbknkjemaa.Own
end
section
namespace Go.Proofs.Ytgifcmbknkjemaa.Own
open Go Go.RowKit Go.Proofs.YtgifcmbknkjemaaW.PrintWords Go.Proofs.YtgifcmbknkjemaaW.PrintLast Go.Proofs.YtgifcmbknkjemaaW.PrintMore
set_option linter.unusedVariables false
set_option linter.unusedSimpArgs false
def ip4_Parse.f (l0 : List Int) : Option (Int × Int × Int × Int × Int × Int × Int × Int × Int × Bool × Int × Int × Bool × List Int × List Int × Int) := if okS l0 = true then some (ipT (parse4 l0)) else none
set_option maxRecDepth 100000 in
theorem ip4_Parse.calls (A0 : Option Addr) (c0 : Nat) (l0 : List Int) (r1 : Int) (r2 : Int) (r3 : Int) (r4 : Int) (r5 : Int) (r6 : Int) (r7 : Int) (r8 : Int) (r9 : Int) (r10 : Bool) (r11 : Int) (r12 : Int) (r13 : Bool) (r14 : List Int) (r15 : List Int) (r16 : Int) (w : World) (hr0 : Kd.C (Kd.int .u8) w A0 l0.length l0) (hc0 : l0.length ≤ c0) (h : ip4_Parse.f l0 = some (r1, r2, r3, r4, r5, r6, r7, r8, r9, r10, r11, r12, r13, r14, r15, r16)) :
    Calls Try.prog 64 #[.slice A0 l0.length c0] w fun e w' => ∃ v0_ v1_ : Value, e = .returned (.tuple #[.agg #[.int .i64 r1, .int .i64 r2, .int .u64 r3, .int .u64 r4, .int .i64 r5, .int .u64 r6, .int .u64 r7, .int .i64 r8, .int .i64 r9, .bool r10, .int .u32 r11, .int .i64 r12, .bool r13, v0_, v1_], .int .i64 r16]) ∧ Kd.R (Kd.int .i64) 3 w' w.heap.size (fun _ => True) v0_ r14 ∧ Kd.R (Kd.int .u8) 5 w' w.heap.size (fun _ => True) v1_ r15 ∧ Below w.heap.size w w' := by
  unfold ip4_Parse.f at h
  split at h
  · rename_i hg
    simp only [Option.some.injEq, Prod.mk.injEq] at h; obtain ⟨rfl, rfl, rfl, rfl, rfl, rfl, rfl, rfl, rfl, rfl, rfl, rfl, rfl, rfl, rfl, rfl⟩ := h
    exact Parse4_at hr0 hc0 (okS_iff.1 hg).1 (okS_iff.1 hg).2
  · cases h
def stockaderef03_Parse.f (l0 : List Int) : Option (Int × Int × Int × Int × Int × Int × Int × Int × Int × Bool × Int × Int × Bool × List Int × List Int × Int) := if okS l0 = true then some (ipT (parse4 l0)) else none
set_option maxRecDepth 100000 in
theorem stockaderef03_Parse.calls (A0 : Option Addr) (c0 : Nat) (l0 : List Int) (r1 : Int) (r2 : Int) (r3 : Int) (r4 : Int) (r5 : Int) (r6 : Int) (r7 : Int) (r8 : Int) (r9 : Int) (r10 : Bool) (r11 : Int) (r12 : Int) (r13 : Bool) (r14 : List Int) (r15 : List Int) (r16 : Int) (w : World) (hr0 : Kd.C (Kd.int .u8) w A0 l0.length l0) (hc0 : l0.length ≤ c0) (h : stockaderef03_Parse.f l0 = some (r1, r2, r3, r4, r5, r6, r7, r8, r9, r10, r11, r12, r13, r14, r15, r16)) :
    Calls Try.prog 65 #[.slice A0 l0.length c0] w fun e w' => ∃ v0_ v1_ : Value, e = .returned (.tuple #[.agg #[.int .i64 r1, .int .i64 r2, .int .u64 r3, .int .u64 r4, .int .i64 r5, .int .u64 r6, .int .u64 r7, .int .i64 r8, .int .i64 r9, .bool r10, .int .u32 r11, .int .i64 r12, .bool r13, v0_, v1_], .int .i64 r16]) ∧ Kd.R (Kd.int .i64) 3 w' w.heap.size (fun _ => True) v0_ r14 ∧ Kd.R (Kd.int .u8) 5 w' w.heap.size (fun _ => True) v1_ r15 ∧ Below w.heap.size w w' := by
  unfold stockaderef03_Parse.f at h
  split at h
  · rename_i hg
    simp only [Option.some.injEq, Prod.mk.injEq] at h; obtain ⟨rfl, rfl, rfl, rfl, rfl, rfl, rfl, rfl, rfl, rfl, rfl, rfl, rfl, rfl, rfl, rfl⟩ := h
    exact rParse4_at hr0 hc0 (okS_iff.1 hg).1 (okS_iff.1 hg).2
  · cases h
def stockadelaw03_alive.f  : Option (Bool) := if True then some (true) else none
set_option maxRecDepth 100000 in
theorem stockadelaw03_alive.calls (r : Bool) (w : World) (h : stockadelaw03_alive.f  = some r) :
    Calls Try.prog 66 #[] w fun e w' => e = .returned (.bool r) ∧ Below w.heap.size w w' := by
  unfold stockadelaw03_alive.f at h
  split at h
  · rename_i hg
    obtain rfl := Option.some.inj h
    exact Alive3_at w
  · cases h
end Go.Proofs.Ytgifcmbknkjemaa.Own
end
section
namespace Go.Proofs.Ytgifcmbknkjemaa.I4Own
open Go.RowKit Go.Proofs.YtgifcmbknkjemaaW.PrintWords Go.Proofs.YtgifcmbknkjemaaW.PrintLast Go.Proofs.YtgifcmbknkjemaaW.PrintMore Go.Proofs.Ytgifcmbknkjemaa.Own
attribute [local go_sem] max2_int min2_int max_two min_two max_three min_three max_four min_four   -- for this text's walks alone
set_option linter.unusedVariables false
set_option linter.unusedSimpArgs false
def errW : Option Int → Value
  | none => .nilIface
  | some c => .iface 0 (.int .i64 c)
theorem errW_none : errW none = .nilIface := rfl
theorem errW_some (c : Int) : errW (some c) = .iface 0 (.int .i64 c) := rfl
theorem info5 : (Try.prog.info? 5).map (fun i => (i.zero, i.size, i.bytes)) = some (some (.int .u8 0), 1, 1) := by kernel_rfl
end Go.Proofs.Ytgifcmbknkjemaa.I4Own
end
