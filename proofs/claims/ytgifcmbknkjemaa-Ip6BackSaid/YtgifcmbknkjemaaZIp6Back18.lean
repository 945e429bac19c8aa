/- What the law Ip6Back rests on, part 18: contracts of the functions that it calls, and plain lemmas. No condition. -/
import Derived.Test.YtgifcmbknkjemaaZIp6Back17
section
namespace Go.Proofs.Ytgifcmbknkjemaa.Own
open Go Go.RowKit Go.Proofs.YtgifcmbknkjemaaW.PrintWords Go.Proofs.YtgifcmbknkjemaaW.PrintLast
set_option linter.unusedVariables false
set_option linter.unusedSimpArgs false
def may6 (p : IpV) : Bool :=
  decide (p.fam = 6) && decide (p.src.1 = 6) && decide (p.dst.1 = 6) && decide (0 ≤ p.proto ∧ p.proto ≤ 255) && decide (1 ≤ p.hop ∧ p.hop ≤ 255) && decide (p.data.length ≤ 65000)
    && (if p.frag = true then (decide (p.exts = []) || decide (p.exts = [44])) && decide (0 ≤ p.off) && decide (p.off % 8 = 0) && decide (p.off + p.data.length ≤ 65535) && !(p.more && decide (p.data.length % 8 ≠ 0)) && (p.more || decide (0 < p.off)) else decide (p.exts = []))
def bare6 (p : IpV) : IpV := if p.frag = true then { p with exts := [44] } else { p with id := 0, off := 0, more := false }
def place6 (p : IpV) : Int := if p.more = true then p.off + 1 else p.off
def ext6 (p : IpV) : List Int := if p.frag = true then put32 (put16 [p.proto % 256, 0] (place6 p)) p.id else []
def next6h (p : IpV) : Int := if p.frag = true then 44 else p.proto
def build6 (p : IpV) : List Int × Int :=
  if may6 p = true then (put16 [96, 0, 0, 0] ((ext6 p).length + p.data.length) ++ [next6h p % 256, p.hop % 256] ++ bytesA p.src ++ bytesA p.dst ++ ext6 p ++ p.data, 0) else ([], 1)
structure May6 (p : IpV) : Prop where
  fam : p.fam = 6
  src : p.src.1 = 6
  dst : p.dst.1 = 6
  proto : 0 ≤ p.proto ∧ p.proto ≤ 255
  hop : 1 ≤ p.hop ∧ p.hop ≤ 255
  len : p.data.length ≤ 65000
  nofrag : p.frag = false → p.exts = []
  frag : p.frag = true → 0 ≤ p.off ∧ p.off % 8 = 0 ∧ p.off + p.data.length ≤ 65535 ∧ (p.more = true → p.data.length % 8 = 0) ∧ (p.more = true ∨ 0 < p.off)
theorem may6_has {p : IpV} (h : may6 p = true) : May6 p := by
  simp only [may6, Bool.and_eq_true, decide_eq_true_eq] at h
  obtain ⟨⟨⟨⟨⟨⟨h1, h2⟩, h3⟩, h4⟩, h5⟩, h6⟩, h7⟩ := h
  refine ⟨h1, h2, h3, h4, h5, h6, fun hf => ?_, fun hf => ?_⟩
  · rw [hf] at h7
    simpa using h7
  · rw [hf] at h7
    simp only [if_true, Bool.and_eq_true, decide_eq_true_eq] at h7
    obtain ⟨⟨⟨⟨⟨g1, g2⟩, g3⟩, g4⟩, g5⟩, g6⟩ := h7
    refine ⟨g2, g3, g4, fun hm => ?_, ?_⟩
    · rw [hm] at g5
      simp at g5
      omega
    · simpa using g6
def H40 (p : IpV) : List Int := put16 [96, 0, 0, 0] ((ext6 p).length + p.data.length) ++ [next6h p % 256, p.hop % 256] ++ (d8 p.src.2.1 ++ d8 p.src.2.2) ++ (d8 p.dst.2.1 ++ d8 p.dst.2.2)
theorem H40_len (p : IpV) : (H40 p).length = 40 := rfl
theorem right_six {a : Int × Int × Int} (h : a.1 = 6) : rightA a = true := by simp [rightA, h]
theorem build6_is {p : IpV} (h : may6 p = true) : build6 p = (H40 p ++ (ext6 p ++ p.data), 0) := by
  have m := may6_has h
  unfold build6
  rw [if_pos h, bytesA_six (right_six m.src) m.src, bytesA_six (right_six m.dst) m.dst]
  unfold H40
  simp only [List.append_assoc]
theorem ext6_len (p : IpV) : (ext6 p).length = if p.frag = true then 8 else 0 := by
  unfold ext6
  split <;> rfl
theorem parse6_build {p : IpV} (hm : may6 p = true) (ok : IpOk p) (hx : isExt p.proto = false) (hw : p.frag = true → p.off = 0 → whole6 p.proto p.data = true) : parse6 (build6 p).1 = (bare6 p, 0) := by
  have m := may6_has hm
  have hlen := H40_len p
  have hel := ext6_len p
  have hel8 : (ext6 p).length ≤ 8 := by rw [hel]; split <;> omega
  have e0 : rd (H40 p) 0 = 96 := rfl
  have e4 : u16 (H40 p) 4 = (ext6 p).length + p.data.length := by
    show 256 * ((((ext6 p).length : Int) + (p.data.length : Int)) / 256 % 256) + (((ext6 p).length : Int) + (p.data.length : Int)) % 256 = _
    have := m.len
    omega
  have e6 : rd (H40 p) 6 = next6h p := by
    show next6h p % 256 = _
    unfold next6h
    have := m.proto
    split <;> omega
  have e7 : rd (H40 p) 7 = p.hop := by show p.hop % 256 = _; have := m.hop; omega
  have eS : addrOf (((H40 p).drop 8).take 16) = p.src := by
    have := fromA_six (right_six m.src) m.src ok.2.2.1
    rw [bytesA_six (right_six m.src) m.src] at this
    exact this
  have eD : addrOf (((H40 p).drop 24).take 16) = p.dst := by
    have := fromA_six (right_six m.dst) m.dst ok.2.2.2.1
    rw [bytesA_six (right_six m.dst) m.dst] at this
    exact this
  have hhop := m.hop
  rw [build6_is hm]
  unfold parse6
  simp only
  rw [rd_app (by omega) (by omega), u16_app (by omega) (by omega), rd_app (by omega) (by omega), rd_app (by omega) (by omega), e0, e4, e6, e7, if_neg (by simp; omega), if_neg (by omega), if_neg (by simp; omega), if_neg (by omega)]
  have hd : ((H40 p ++ (ext6 p ++ p.data)).drop 40).take (((ext6 p).length : Int) + (p.data.length : Int)).toNat = ext6 p ++ p.data := by
    rw [List.drop_append_of_le_length (by omega), List.drop_of_length_le (by omega), List.nil_append, List.take_of_length_le (by simp; omega)]
  rw [hd]
  unfold end6
  rw [mid_app (by omega), mid_app (by omega), rd_app (by omega) (by omega), e7, eS, eD]
  obtain ⟨fam, src, dst, proto, hop, frag, id, off, more, exts, data⟩ := p
  have m1 := m.fam
  have m2 := m.nofrag
  have m3 := m.frag
  have mp := m.proto
  have ml := m.len
  have oid := ok.1
  have oid2 := ok.2.1
  simp only at m1 m2 m3 mp ml hx hw oid oid2 ⊢
  subst m1
  cases frag with
  | false =>
    have m2' := m2 rfl
    subst m2'
    have he : run6 true 9 ⟨proto, data, [], false, false, none⟩ = (0, ⟨proto, data, [], false, false, none⟩) := by
      rw [run6, if_pos (.inr hx)]
    have hq : ext6 ⟨6, src, dst, proto, hop, false, id, off, more, [], data⟩ = [] := rfl
    have hn : next6h ⟨6, src, dst, proto, hop, false, id, off, more, [], data⟩ = proto := rfl
    rw [hq, hn, List.nil_append, he]
    simp [bare6]
  | true =>
    obtain ⟨g1, g2, g3, g4, g5⟩ := m3 rfl
    obtain ⟨pl, hpl⟩ : ∃ pl, pl = place6 ⟨6, src, dst, proto, hop, true, id, off, more, exts, data⟩ := ⟨_, rfl⟩
    have hq : ext6 ⟨6, src, dst, proto, hop, true, id, off, more, exts, data⟩ = [proto % 256, 0, pl / 256 % 256, pl % 256, id / 16777216 % 256, id / 65536 % 256, id / 256 % 256, id % 256] := by rw [hpl]; rfl
    have hn : next6h ⟨6, src, dst, proto, hop, true, id, off, more, exts, data⟩ = 44 := rfl
    have hplv : pl = if more = true then off + 1 else off := hpl
    have hpl2 : 0 ≤ pl ∧ pl ≤ 65535 ∧ pl / 8 * 8 = off ∧ (pl % 2 = 1 ↔ more = true) := by
      rw [hplv]
      cases more with
      | true =>
        have := g4 rfl
        rw [if_pos rfl]
        exact ⟨by omega, by omega, by omega, fun _ => rfl, fun _ => by omega⟩
      | false =>
        rw [if_neg (by simp)]
        exact ⟨by omega, by omega, by omega, fun h => by omega, fun h => by cases h⟩
    clear hplv hpl
    have he : run6 true 9 ⟨44, [proto % 256, 0, pl / 256 % 256, pl % 256, id / 16777216 % 256, id / 65536 % 256, id / 256 % 256, id % 256] ++ data, [], false, false, none⟩ = (0, ⟨proto, data, [44], true, true, some (id, off, more)⟩) := by
      have hs : size6 44 ([proto % 256, 0, pl / 256 % 256, pl % 256, id / 16777216 % 256, id / 65536 % 256, id / 256 % 256, id % 256] ++ data) = (8, true) := by
        unfold size6
        rw [if_pos rfl]
        simp
      have ht : ([proto % 256, 0, pl / 256 % 256, pl % 256, id / 16777216 % 256, id / 65536 % 256, id / 256 % 256, id % 256] ++ data).take 8 = [proto % 256, 0, pl / 256 % 256, pl % 256, id / 16777216 % 256, id / 65536 % 256, id / 256 % 256, id % 256] := rfl
      have hdr : ([proto % 256, 0, pl / 256 % 256, pl % 256, id / 16777216 % 256, id / 65536 % 256, id / 256 % 256, id % 256] ++ data).drop 8 = data := rfl
      have hu2 : u16 [proto % 256, 0, pl / 256 % 256, pl % 256, id / 16777216 % 256, id / 65536 % 256, id / 256 % 256, id % 256] 2 = pl := by
        show 256 * (pl / 256 % 256) + pl % 256 = _
        omega
      have hu4 : u32 [proto % 256, 0, pl / 256 % 256, pl % 256, id / 16777216 % 256, id / 65536 % 256, id / 256 % 256, id % 256] 4 = id := by
        show 65536 * (256 * (id / 16777216 % 256) + id / 65536 % 256) + (256 * (id / 256 % 256) + id % 256) = _
        omega
      have hf : frag6 true none [proto % 256, 0, pl / 256 % 256, pl % 256, id / 16777216 % 256, id / 65536 % 256, id / 256 % 256, id % 256] = some (id, off, more) := by
        unfold frag6
        rw [hu2, hu4, if_pos ⟨rfl, by
          cases more with
          | true => exact .inr (hpl2.2.2.2.2 rfl)
          | false => simp at g5; exact .inl (by omega)⟩, hpl2.2.2.1]
        cases more with
        | true => rw [decide_eq_true (hpl2.2.2.2.2 rfl)]
        | false => rw [decide_eq_false (fun h => by have := hpl2.2.2.2.1 h; cases this)]
      rw [run6]
      simp only
      rw [if_neg (by simp [isExt]), if_neg (by simp), hs]
      simp only
      rw [if_neg (by simp), show ((8 : Int)).toNat = 8 from rfl, ht]
      have hl : look6 ⟨44, [proto % 256, 0, pl / 256 % 256, pl % 256, id / 16777216 % 256, id / 65536 % 256, id / 256 % 256, id % 256] ++ data, [], false, false, none⟩ [proto % 256, 0, pl / 256 % 256, pl % 256, id / 16777216 % 256, id / 65536 % 256, id / 256 % 256, id % 256] = 0 := rfl
      rw [hl, if_neg (by omega)]
      have hnx : next6 true ⟨44, [proto % 256, 0, pl / 256 % 256, pl % 256, id / 16777216 % 256, id / 65536 % 256, id / 256 % 256, id % 256] ++ data, [], false, false, none⟩ 8 = ⟨proto, data, [44], true, true, some (id, off, more)⟩ := by
        unfold next6
        simp only
        rw [if_pos trivial, ht, hf, hdr]
        have : rd ([proto % 256, 0, pl / 256 % 256, pl % 256, id / 16777216 % 256, id / 65536 % 256, id / 256 % 256, id % 256] ++ data) 0 = proto := by
          show proto % 256 = _
          omega
        rw [this]
        rfl
      rw [hnx, run6, if_pos (.inl rfl)]
    rw [hq, hn, he]
    simp only [Option.getD_some, Option.isSome_some]
    rw [if_neg (by simp), if_neg (fun h => h.2 (g4 h.1)), if_neg (by omega), if_neg (fun h => by rw [hw rfl h.2.1] at h; simp at h)]
    rfl
end Go.Proofs.Ytgifcmbknkjemaa.Own
end
section
namespace Go.Proofs.Ytgifcmbknkjemaa.Own
open Go Go.RowKit Go.Proofs.YtgifcmbknkjemaaW.PrintWords Go.Proofs.YtgifcmbknkjemaaW.PrintLast Go.Proofs.YtgifcmbknkjemaaW.PrintMore
set_option linter.unusedVariables false
set_option linter.unusedSimpArgs false
theorem right_is {a : Int × Int × Int} (ha : okA a) : GA.addr_Right.f a.1 a.2.1 a.2.2 = some (rightA a) := by
  obtain ⟨f, x, y⟩ := a
  have h1 := ha.2.1
  have h2 := ha.2.2
  simp only at h1 h2
  unfold GA.addr_Right.f rightA
  simp only
  by_cases h4 : f = 4
  · subst h4
    rw [if_pos rfl]
    by_cases hx : x = 0
    · subst hx
      rw [if_pos rfl]
      by_cases hy : y < 4294967296
      · have : y / 4294967296 = 0 := by omega
        simp [this, hy]
      · have : ¬ y / 4294967296 = 0 := by omega
        simp [this, hy]
    · rw [if_neg hx]
      simp [hx]
  · rw [if_neg h4]
    by_cases h6 : f = 6
    · subst h6; simp
    · simp [h4, h6]
theorem ab_hi {f x y : Int} {out R : List Int} (i : Nat) (h64 : 64 ≤ i) (hi : i ≤ 120) (ho : out.length ≤ 100) (h : Ev (fun k => GA.addr_Bytes.l0 k (out ++ [x / 2 ^ (i - 64) % 256]) ((i - 8 : Nat) : Int) f x y) R) :
    Ev (fun k => GA.addr_Bytes.l0 k out (i : Int) f x y) R := by
  refine Ev.step (fun k => ?_) h
  have e1 : wrap64 ((i : Int) - 64) = ((i - 64 : Nat) : Int) := by rw [w64 _ (by omega) (by omega)]; omega
  have e2 : wrap64 ((i : Int) - 8) = ((i - 8 : Nat) : Int) := by rw [w64 _ (by omega) (by omega)]; omega
  have e3 : shr .u64 x ((i - 64 : Nat) : Int) = x / 2 ^ (i - 64) := by unfold shr; rw [Int.toNat_natCast, Nat.min_eq_left (by simp [IntKind.bits]; omega)]
  rw [GA.addr_Bytes.l0, if_pos (by omega), if_pos (by omega), e1, if_pos (by omega), if_pos (by omega), e2, e3]
theorem ab_lo {f x y : Int} {out R : List Int} (i : Nat) (h64 : i < 64) (h8 : 8 ≤ i) (ho : out.length ≤ 100) (h : Ev (fun k => GA.addr_Bytes.l0 k (out ++ [y / 2 ^ i % 256]) ((i - 8 : Nat) : Int) f x y) R) :
    Ev (fun k => GA.addr_Bytes.l0 k out (i : Int) f x y) R := by
  refine Ev.step (fun k => ?_) h
  have e2 : wrap64 ((i : Int) - 8) = ((i - 8 : Nat) : Int) := by rw [w64 _ (by omega) (by omega)]; omega
  have e3 : shr .u64 y (i : Int) = y / 2 ^ i := by unfold shr; rw [Int.toNat_natCast, Nat.min_eq_left (by simp [IntKind.bits]; omega)]
  rw [GA.addr_Bytes.l0, if_pos (by omega), if_neg (by omega), if_pos (by omega), if_pos (by omega), e2, e3]
theorem ab_end {f x y : Int} {out : List Int} (ho : out.length ≤ 100) : Ev (fun k => GA.addr_Bytes.l0 k out 0 f x y) (out ++ [y % 256]) := by
  refine Ev.step (fun k => ?_) (Ev.step (f := fun _ => some (out ++ [y % 256])) (g := fun k => GA.addr_Bytes.l0 k (out ++ [y % 256]) (-8) f x y) (fun k => ?_) (Ev.now _))
  · have e2 : wrap64 ((0 : Int) - 8) = -8 := by rw [w64 _ (by omega) (by omega)]; omega
    have e3 : shr .u64 y 0 = y := by unfold shr; simp
    rw [GA.addr_Bytes.l0, if_pos (by omega), if_neg (by omega), if_pos (by omega), if_pos (by omega), e2, e3]
  · rw [GA.addr_Bytes.l0, if_neg (by omega)]
theorem addr_Bytes_some {a : Int × Int × Int} (ha : okA a) : ∃ k, GA.addr_Bytes.f k a.1 a.2.1 a.2.2 = some (bytesA a) := by
  have hr := right_is ha
  obtain ⟨f, x, y⟩ := a
  unfold GA.addr_Bytes.f bytesA
  rw [hr]
  simp only [Option.bind_some]
  cases hq : rightA (f, x, y) with
  | false => exact ⟨0, by simp⟩
  | true =>
    simp only [if_true]
    unfold GA.addr_bits.f
    by_cases h4 : f = 4
    · rw [if_pos h4, if_pos h4]
      simp only [Option.bind_some]
      rw [show wrap64 (32 - 8) = ((24 : Nat) : Int) by (rw [w64 _ (by omega) (by omega)]; rfl)]
      refine (Ev.rounds (g := fun k => GA.addr_Bytes.l0 k [] ((24 : Nat) : Int) f x y) ?_)
      refine ab_lo 24 (by omega) (by omega) (by simp) ?_
      refine ab_lo 16 (by omega) (by omega) (by simp) ?_
      refine ab_lo 8 (by omega) (by omega) (by simp) ?_
      exact ab_end (by simp)
    · rw [if_neg h4, if_neg h4]
      simp only [Option.bind_some]
      rw [show wrap64 (128 - 8) = ((120 : Nat) : Int) by (rw [w64 _ (by omega) (by omega)]; rfl)]
      refine (Ev.rounds (g := fun k => GA.addr_Bytes.l0 k [] ((120 : Nat) : Int) f x y) ?_)
      refine ab_hi 120 (by omega) (by omega) (by simp) ?_
      refine ab_hi 112 (by omega) (by omega) (by simp) ?_
      refine ab_hi 104 (by omega) (by omega) (by simp) ?_
      refine ab_hi 96 (by omega) (by omega) (by simp) ?_
      refine ab_hi 88 (by omega) (by omega) (by simp) ?_
      refine ab_hi 80 (by omega) (by omega) (by simp) ?_
      refine ab_hi 72 (by omega) (by omega) (by simp) ?_
      refine ab_hi 64 (by omega) (by omega) (by simp) ?_
      refine ab_lo 56 (by omega) (by omega) (by simp) ?_
      refine ab_lo 48 (by omega) (by omega) (by simp) ?_
      refine ab_lo 40 (by omega) (by omega) (by simp) ?_
      refine ab_lo 32 (by omega) (by omega) (by simp) ?_
      refine ab_lo 24 (by omega) (by omega) (by simp) ?_
      refine ab_lo 16 (by omega) (by omega) (by simp) ?_
      refine ab_lo 8 (by omega) (by omega) (by simp) ?_
      have he := ab_end (f := f) (x := x) (y := y) (out := [] ++ [x / 2 ^ (120 - 64) % 256] ++ [x / 2 ^ (112 - 64) % 256] ++ [x / 2 ^ (104 - 64) % 256] ++ [x / 2 ^ (96 - 64) % 256] ++ [x / 2 ^ (88 - 64) % 256] ++ [x / 2 ^ (80 - 64) % 256] ++ [x / 2 ^ (72 - 64) % 256] ++ [x / 2 ^ (64 - 64) % 256] ++ [y / 2 ^ 56 % 256] ++ [y / 2 ^ 48 % 256] ++ [y / 2 ^ 40 % 256] ++ [y / 2 ^ 32 % 256] ++ [y / 2 ^ 24 % 256] ++ [y / 2 ^ 16 % 256] ++ [y / 2 ^ 8 % 256]) (by simp)
      have hz : x / 2 ^ (64 - 64) % 256 = x % 256 := by simp
      rw [hz] at he ⊢
      exact he
theorem addrBytes_at (a : Int × Int × Int) (ha : okA a) (w : World) :
    Calls Try.prog 117 #[.agg #[.int .i64 a.1, .int .u64 a.2.1, .int .u64 a.2.2]] w fun e w' => ∃ v : Value, e = .returned v ∧ Kd.R (Kd.int .u8) 5 w' w.heap.size (fun _ => True) v (bytesA a) ∧ Below w.heap.size w w' :=
  have ⟨k, hk⟩ := addr_Bytes_some ha
  GA.addr_Bytes.calls k a.1 a.2.1 a.2.2 _ w hk
end Go.Proofs.Ytgifcmbknkjemaa.Own
end
