/- What the law Ip4Behind rests on, part 13: contracts of the functions that it calls, and plain lemmas. No condition. -/
import Derived.Test.YtgifcmbknkjemaaZIp4Behind12
import Derived.Laws.CopyOwn
import Derived.StillTailTactics
section
namespace Go.Proofs.Ytgifcmbknkjemaa.Own
open Go Go.RowKit Go.Proofs.YtgifcmbknkjemaaW.PrintWords Go.Proofs.YtgifcmbknkjemaaW.PrintLast Go.Proofs.YtgifcmbknkjemaaW.PrintMore
set_option linter.unusedVariables false
set_option linter.unusedSimpArgs false
def zeroC : Array Value := ipCells zeroV (.slice none 0 0) (.slice none 0 0)
theorem zeroC_one : zeroC.all (·.oneCell') = true := ipCells_one _ _ _ _ _ _ _
theorem fail_post {w W : World} {g : Nat} (e : Int) (hB : Below w.heap.size w W) : IpPost w (zeroV, e) (.returned (.tuple #[.agg zeroC, .int .i64 e])) W :=
  ⟨_, _, rfl, Kd.R_nil _ _ _ _ _, Kd.R_nil _ _ _ _ _, hB⟩
theorem R_setRow {α : Type} {d : Kd α} {e : Nat} {w : World} {base : Nat} {v : Value} {xs : List α} {g t : Nat} {cells cs : Array Value} (h : d.R e w base (fun _ => True) v xs) (hb : w.heap[g]? = some (.cells cells t (0, 0))) (ht : ∀ q, q ∈ e :: d.E → q ≠ t) : d.R e (w.setRow g cs) base (fun _ => True) v xs :=
  Kd.R_mono (Kd.R_step (Kd.R_types h hb ht) (fun k hk _ => setRow_other w g k cs hk.2)) (fun _ _ => trivial)
theorem pw_cell_at {w w1 : World} {a : Addr} {v : Value} (hb : Below w.heap.size w w1) (hc : w.cell? a = some v) : w1.cell? a = some v := pw_cell_below hb hc
section
variable {w w1 wc wd : World} {b pb : Nat} {d : List Int} {A : Option Addr} {n c p : Nat} {s : S6} {vE : Value} {cells : Array Value}
end
end Go.Proofs.Ytgifcmbknkjemaa.Own
end
section
namespace Go.Proofs.Ytgifcmbknkjemaa.Own
open Go Go.RowKit Go.Proofs.YtgifcmbknkjemaaW.PrintWords Go.Proofs.YtgifcmbknkjemaaW.PrintLast Go.Proofs.YtgifcmbknkjemaaW.PrintMore
set_option linter.unusedVariables false
set_option linter.unusedSimpArgs false
theorem rd_app {a b : List Int} {i : Int} (h0 : 0 ≤ i) (h : i < a.length) : rd (a ++ b) i = rd a i := by
  unfold rd
  rw [List.getD_eq_getElem?_getD, List.getD_eq_getElem?_getD, List.getElem?_append_left (by omega)]
theorem u16_app {a b : List Int} {i : Int} (h0 : 0 ≤ i) (h : i + 1 < a.length) : u16 (a ++ b) i = u16 a i := by
  unfold u16
  rw [rd_app h0 (by omega), rd_app (by omega) (by omega)]
theorem mid_app {a b : List Int} {o m : Nat} (h : o + m ≤ a.length) : ((a ++ b).drop o).take m = (a.drop o).take m := by
  rw [List.drop_append_of_le_length (by omega), List.take_append_of_le_length (by rw [List.length_drop]; omega)]
end Go.Proofs.Ytgifcmbknkjemaa.Own
end
section
namespace Go.Proofs.Ytgifcmbknkjemaa.Own
open Go Go.RowKit Go.Proofs.YtgifcmbknkjemaaW.PrintWords Go.Proofs.YtgifcmbknkjemaaW.PrintLast
set_option linter.unusedVariables false
def rightA (a : Int × Int × Int) : Bool := decide (a.1 = 6) || (decide (a.1 = 4) && decide (a.2.1 = 0) && decide (a.2.2 < 4294967296))
def d4 (x : Int) : List Int := [x / 16777216 % 256, x / 65536 % 256, x / 256 % 256, x % 256]
def d8 (x : Int) : List Int := [x / 72057594037927936 % 256, x / 281474976710656 % 256, x / 1099511627776 % 256, x / 4294967296 % 256, x / 16777216 % 256, x / 65536 % 256, x / 256 % 256, x % 256]
def bytesA (a : Int × Int × Int) : List Int := if rightA a = true then (if a.1 = 4 then d4 a.2.2 else d8 a.2.1 ++ d8 a.2.2) else []
def W64 (x : Int) : Prop := 0 ≤ x ∧ x < 18446744073709551616
def okA (a : Int × Int × Int) : Prop := W64 a.2.1 ∧ W64 a.2.2
theorem be_d4 (x : Int) (h0 : 0 ≤ x) (h1 : x < 4294967296) : be (d4 x) = x := by
  simp only [be, d4, List.foldl_cons, List.foldl_nil]
  omega
theorem bytes_d4 (x : Int) : Bytes (d4 x) := fun c hc => by
  simp [d4] at hc
  omega
theorem bytes_d8 (x : Int) : Bytes (d8 x) := fun c hc => by
  simp [d8] at hc
  omega
theorem bytes_bytesA (a : Int × Int × Int) : Bytes (bytesA a) := by
  unfold bytesA
  split
  · split
    · exact bytes_d4 _
    · exact bytes_append (bytes_d8 _) (bytes_d8 _)
  · intro c hc; cases hc
theorem bytesA_four {a : Int × Int × Int} (h : rightA a = true) (h4 : a.1 = 4) : bytesA a = d4 a.2.2 := by unfold bytesA; rw [if_pos h, if_pos h4]
theorem fromA_four {a : Int × Int × Int} (h : rightA a = true) (h4 : a.1 = 4) (ha : okA a) : addrOf (bytesA a) = a := by
  obtain ⟨f, x, y⟩ := a
  rw [bytesA_four h h4]
  simp only at h4
  subst h4
  simp [rightA] at h
  obtain ⟨h1, h2⟩ := h
  subst h1
  have e : fromA (d4 y) = (4, 0, y, 0) := by unfold fromA; rw [if_pos (show (d4 y).length = 4 from rfl), be_d4 y ha.2.1 h2]
  unfold addrOf
  simp only [e]
def opt4 : Nat → List Int → Int
  | 0, _ => 0
  | k + 1, l =>
    if l.length = 0 then 0
    else if rd l 0 = 0 then 0
    else if rd l 0 = 1 then opt4 k (l.drop 1)
    else if rd l 0 = 131 ∨ rd l 0 = 137 then 8
    else if l.length < 2 ∨ rd l 1 < 2 ∨ (l.length : Int) < rd l 1 then 7
    else opt4 k (l.drop (rd l 1).toNat)
def parse4 (b : List Int) : IpV × Int :=
  if b.length < 20 then (zeroV, 2)
  else if rd b 0 / 16 ≠ 4 then (zeroV, 3)
  else if rd b 0 % 16 * 4 < 20 ∨ (b.length : Int) < rd b 0 % 16 * 4 then (zeroV, 4)
  else if u16 b 2 < rd b 0 % 16 * 4 ∨ (b.length : Int) < u16 b 2 then (zeroV, 5)
  else if sumOf [b.take (rd b 0 % 16 * 4).toNat] ≠ 65535 then (zeroV, 6)
  else if rd b 8 = 0 then (zeroV, 26)
  else if 128 ≤ rd b 6 then (zeroV, 10)
  else if opt4 60 ((b.take (rd b 0 % 16 * 4).toNat).drop 20) ≠ 0 then (zeroV, opt4 60 ((b.take (rd b 0 % 16 * 4).toNat).drop 20))
  else if u16 b 6 / 8192 % 2 = 1 ∧ (u16 b 2 - rd b 0 % 16 * 4) % 8 ≠ 0 then (zeroV, 5)
  else if 65515 < u16 b 6 % 8192 * 8 + (u16 b 2 - rd b 0 % 16 * 4) then (zeroV, 11)
  else if u16 b 6 / 8192 % 2 = 1 ∨ 0 < u16 b 6 % 8192 then
    (⟨4, addrOf ((b.drop 12).take 4), addrOf ((b.drop 16).take 4), rd b 9, rd b 8, true, u16 b 4, u16 b 6 % 8192 * 8, decide (u16 b 6 / 8192 % 2 = 1), [], (b.take (u16 b 2).toNat).drop (rd b 0 % 16 * 4).toNat⟩, 0)
  else (⟨4, addrOf ((b.drop 12).take 4), addrOf ((b.drop 16).take 4), rd b 9, rd b 8, false, 0, 0, false, [], (b.take (u16 b 2).toNat).drop (rd b 0 % 16 * 4).toNat⟩, 0)
def four (a : Int × Int × Int) : Bool := decide (a.1 = 4) && rightA a
def may4 (p : IpV) : Bool :=
  decide (p.fam = 4) && four p.src && four p.dst && decide (p.exts.length = 0) && decide (0 ≤ p.proto ∧ p.proto ≤ 255) && decide (1 ≤ p.hop ∧ p.hop ≤ 255) && decide (p.id ≤ 65535)
    && decide (p.data.length ≤ 65515) && decide (0 ≤ p.off) && decide (p.off % 8 = 0) && decide (p.off + p.data.length ≤ 65515) && !(p.more && decide (p.data.length % 8 ≠ 0)) && (!p.frag || p.more || decide (0 < p.off))
def bare4 (p : IpV) : IpV := if p.frag = true then p else { p with id := 0, off := 0, more := false }
def head4 (p : IpV) : List Int := put16 (put16 (put16 [69, 0] (20 + p.data.length)) (if p.frag = true then p.id else 0)) (if p.frag = true then p.off / 8 + (if p.more = true then 8192 else 0) else 0) ++ [p.hop % 256, p.proto % 256]
def ends4 (p : IpV) : List Int := bytesA p.src ++ bytesA p.dst
def build4 (p : IpV) : List Int × Int :=
  if may4 p = true then (put16 (head4 p) (65535 - sumOf [head4 p, ends4 p]) ++ ends4 p ++ p.data, 0) else ([], 1)
end Go.Proofs.Ytgifcmbknkjemaa.Own
end
section
namespace Go.Proofs.Ytgifcmbknkjemaa.Own
open Go Go.RowKit Go.Proofs.YtgifcmbknkjemaaW.PrintWords Go.Proofs.YtgifcmbknkjemaaW.PrintLast
set_option linter.unusedVariables false
set_option linter.unusedSimpArgs false
def IpOk (p : IpV) : Prop := 0 ≤ p.id ∧ p.id ≤ 4294967295 ∧ okA p.src ∧ okA p.dst ∧ Bytes p.data
theorem parse4_ok {b : List Int} (h : (parse4 b).2 = 0) : 20 ≤ b.length ∧ rd b 0 / 16 = 4 ∧ 20 ≤ rd b 0 % 16 * 4 ∧ rd b 0 % 16 * 4 ≤ b.length ∧ rd b 0 % 16 * 4 ≤ u16 b 2 ∧ u16 b 2 ≤ b.length ∧ sumOf [b.take (rd b 0 % 16 * 4).toNat] = 65535 := by
  unfold parse4 at h
  by_cases h1 : b.length < 20
  · rw [if_pos h1] at h; simp at h
  rw [if_neg h1] at h
  by_cases h2 : rd b 0 / 16 ≠ 4
  · rw [if_pos h2] at h; simp at h
  rw [if_neg h2] at h
  by_cases h3 : rd b 0 % 16 * 4 < 20 ∨ (b.length : Int) < rd b 0 % 16 * 4
  · rw [if_pos h3] at h; simp at h
  rw [if_neg h3] at h
  by_cases h4 : u16 b 2 < rd b 0 % 16 * 4 ∨ (b.length : Int) < u16 b 2
  · rw [if_pos h4] at h; simp at h
  rw [if_neg h4] at h
  by_cases h5 : sumOf [b.take (rd b 0 % 16 * 4).toNat] ≠ 65535
  · rw [if_pos h5] at h; simp at h
  refine ⟨by omega, by omega, by omega, by omega, by omega, by omega, by simpa using h5⟩
theorem take_app {a b : List Int} {m : Nat} (h : m ≤ a.length) : (a ++ b).take m = a.take m := List.take_append_of_le_length h
theorem parse4_behind {b m : List Int} (hb : Bytes b) (h : (parse4 b).2 = 0) : parse4 (b ++ m) = parse4 b := by
  obtain ⟨g1, g2, g3, g4, g5, g6, g7⟩ := parse4_ok h
  have hu := u16_bounds hb 2
  unfold parse4
  rw [rd_app (by omega) (by omega), u16_app (by omega) (by omega), u16_app (by omega) (by omega), u16_app (by omega) (by omega), rd_app (by omega) (by omega), rd_app (by omega) (by omega), rd_app (by omega) (by omega),
    take_app (by omega), take_app (by omega), mid_app (by omega), mid_app (by omega), List.length_append]
  rw [if_neg (show ¬ b.length + m.length < 20 by omega), if_neg (show ¬ b.length < 20 by omega),
    if_neg (show ¬ (rd b 0 % 16 * 4 < 20 ∨ ((b.length + m.length : Nat) : Int) < rd b 0 % 16 * 4) by omega), if_neg (show ¬ (rd b 0 % 16 * 4 < 20 ∨ (b.length : Int) < rd b 0 % 16 * 4) by omega),
    if_neg (show ¬ (u16 b 2 < rd b 0 % 16 * 4 ∨ ((b.length + m.length : Nat) : Int) < u16 b 2) by omega), if_neg (show ¬ (u16 b 2 < rd b 0 % 16 * 4 ∨ (b.length : Int) < u16 b 2) by omega)]
def H20 (p : IpV) : List Int :=
  let c := 65535 - sumOf [head4 p, ends4 p]
  let i := if p.frag = true then p.id else 0
  let o := if p.frag = true then p.off / 8 + (if p.more = true then 8192 else 0) else 0
  [69, 0, (20 + p.data.length) / 256 % 256, (20 + p.data.length) % 256, i / 256 % 256, i % 256, o / 256 % 256, o % 256, p.hop % 256, p.proto % 256, c / 256 % 256, c % 256,
    p.src.2.2 / 16777216 % 256, p.src.2.2 / 65536 % 256, p.src.2.2 / 256 % 256, p.src.2.2 % 256, p.dst.2.2 / 16777216 % 256, p.dst.2.2 / 65536 % 256, p.dst.2.2 / 256 % 256, p.dst.2.2 % 256]
structure May4 (p : IpV) : Prop where
  fam : p.fam = 4
  src : p.src.1 = 4
  srcR : rightA p.src = true
  dst : p.dst.1 = 4
  dstR : rightA p.dst = true
  exts : p.exts = []
  proto : 0 ≤ p.proto ∧ p.proto ≤ 255
  hop : 1 ≤ p.hop ∧ p.hop ≤ 255
  id : p.id ≤ 65535
  len : p.data.length ≤ 65515
  off : 0 ≤ p.off ∧ p.off % 8 = 0 ∧ p.off + p.data.length ≤ 65515
  more : p.more = true → p.data.length % 8 = 0
  frag : p.frag = true → p.more = true ∨ 0 < p.off
theorem may4_has {p : IpV} (h : may4 p = true) : May4 p := by
  simp only [may4, four, Bool.and_eq_true, decide_eq_true_eq] at h
  obtain ⟨⟨⟨⟨⟨⟨⟨⟨⟨⟨⟨⟨h1, h2⟩, h3⟩, h4⟩, h5⟩, h6⟩, h7⟩, h8⟩, h9⟩, h10⟩, h11⟩, h12⟩, h13⟩ := h
  refine ⟨h1, h2.1, h2.2, h3.1, h3.2, List.eq_nil_of_length_eq_zero h4, h5, h6, h7, h8, ⟨h9, h10, h11⟩, fun hm => ?_, fun hf => ?_⟩
  · rw [hm] at h12
    simp at h12
    omega
  · rw [hf] at h13
    simpa using h13
theorem build4_is {p : IpV} (h : may4 p = true) : build4 p = (H20 p ++ p.data, 0) := by
  have m := may4_has h
  unfold build4
  rw [if_pos h]
  have e : ends4 p = d4 p.src.2.2 ++ d4 p.dst.2.2 := by unfold ends4; rw [bytesA_four m.srcR m.src, bytesA_four m.dstR m.dst]
  have : put16 (head4 p) (65535 - sumOf [head4 p, ends4 p]) ++ ends4 p = H20 p := by
    unfold H20
    simp only
    generalize sumOf [head4 p, ends4 p] = s
    rw [e]
    rfl
  rw [this]
theorem wsum_H20 (p : IpV) (m : May4 p) (ok : IpOk p) : ∃ S : Int, 0 < S ∧ sumOf [head4 p, ends4 p] = fold S ∧ wsum false (H20 p) = S + (65535 - fold S) := by
  have e : ends4 p = d4 p.src.2.2 ++ d4 p.dst.2.2 := by unfold ends4; rw [bytesA_four m.srcR m.src, bytesA_four m.dstR m.dst]
  refine ⟨wsum false (head4 p ++ (d4 p.src.2.2 ++ d4 p.dst.2.2)), ?_, ?_, ?_⟩
  · unfold head4 put16 d4
    simp only [List.cons_append, List.nil_append, wsum]
    omega
  · unfold sumOf
    rw [e]
    simp
  · have hs : sumOf [head4 p, ends4 p] = fold (wsum false (head4 p ++ (d4 p.src.2.2 ++ d4 p.dst.2.2))) := by unfold sumOf; rw [e]; simp
    unfold H20
    simp only
    rw [hs]
    have hf := fold_bounds (wsum false (head4 p ++ (d4 p.src.2.2 ++ d4 p.dst.2.2)))
    generalize fold (wsum false (head4 p ++ (d4 p.src.2.2 ++ d4 p.dst.2.2))) = c at hf ⊢
    unfold head4 put16 d4
    simp only [List.cons_append, List.nil_append, wsum]
    omega
theorem fold_back (S : Int) (h : 0 < S) : fold (S + (65535 - fold S)) = 65535 := by
  unfold fold
  rw [if_neg (by omega : ¬ S = 0), if_neg (by omega)]
  omega
theorem sum_H20 {p : IpV} (m : May4 p) (ok : IpOk p) : sumOf [H20 p] = 65535 := by
  obtain ⟨S, h0, h1, h2⟩ := wsum_H20 p m ok
  unfold sumOf
  simp only [List.flatten_cons, List.flatten_nil, List.append_nil]
  rw [h2]
  exact fold_back S h0
theorem H20_len (p : IpV) : (H20 p).length = 20 := rfl
theorem bytes_H20 {p : IpV} (m : May4 p) (ok : IpOk p) : Bytes (H20 p) := fun c hc => by
  simp [H20] at hc
  have := m.hop
  have := m.proto
  omega
theorem parse4_build {p : IpV} (hm : may4 p = true) (ok : IpOk p) : parse4 (build4 p).1 = (bare4 p, 0) := by
  have m := may4_has hm
  have hb := bytes_H20 m ok
  have hs := sum_H20 m ok
  have hlen := H20_len p
  have e0 : rd (H20 p) 0 = 69 := rfl
  have e2 : u16 (H20 p) 2 = 20 + p.data.length := by
    show 256 * ((20 + (p.data.length : Int)) / 256 % 256) + (20 + (p.data.length : Int)) % 256 = _
    have := m.len
    omega
  have e8 : rd (H20 p) 8 = p.hop := by show p.hop % 256 = _; have := m.hop; omega
  have e9 : rd (H20 p) 9 = p.proto := by show p.proto % 256 = _; have := m.proto; omega
  have eS : addrOf (((H20 p).drop 12).take 4) = p.src := by
    have := fromA_four m.srcR m.src ok.2.2.1
    rw [bytesA_four m.srcR m.src] at this
    exact this
  have eD : addrOf (((H20 p).drop 16).take 4) = p.dst := by
    have := fromA_four m.dstR m.dst ok.2.2.2.1
    rw [bytesA_four m.dstR m.dst] at this
    exact this
  have hoff := m.off
  have eo : ∃ o, o = (if p.frag = true then p.off / 8 + (if p.more = true then 8192 else 0) else 0) ∧ rd (H20 p) 6 = o / 256 % 256 ∧ u16 (H20 p) 6 = 256 * (o / 256 % 256) + o % 256 := ⟨_, rfl, rfl, rfl⟩
  obtain ⟨o, ho, e6, e6'⟩ := eo
  have ei : ∃ i, i = (if p.frag = true then p.id else 0) ∧ u16 (H20 p) 4 = 256 * (i / 256 % 256) + i % 256 := ⟨_, rfl, rfl⟩
  obtain ⟨i, hi, e4⟩ := ei
  have ho2 : 0 ≤ o ∧ o < 16384 := by
    rw [ho]
    split
    · split <;> omega
    · omega
  have hi2 : 0 ≤ i ∧ i ≤ 65535 := by rw [hi]; have := m.id; have := ok.1; split <;> omega
  have e6'' : u16 (H20 p) 6 = o := by omega
  have e4' : u16 (H20 p) 4 = i := by omega
  rw [build4_is hm]
  unfold parse4
  simp only
  rw [rd_app (by omega) (by omega), u16_app (by omega) (by omega), u16_app (by omega) (by omega), u16_app (by omega) (by omega), rd_app (by omega) (by omega), rd_app (by omega) (by omega), rd_app (by omega) (by omega),
    mid_app (by omega), mid_app (by omega), e0, e2, e8, e9, eS, eD, e6'', e4', List.length_append]
  have q : (69 : Int) % 16 * 4 = 20 := by decide
  rw [q, take_app (by omega), show ((20 : Int)).toNat = 20 from rfl, show (H20 p).take 20 = H20 p from rfl, hs, show (H20 p).drop 20 = [] from rfl]
  have hmh := m.hop
  have e5 : 256 * (o / 256 % 256) + o % 256 = o := by omega
  have hd : ((H20 p ++ p.data).take (20 + (p.data.length : Int)).toNat).drop 20 = p.data := by
    rw [List.take_of_length_le (by rw [List.length_append]; omega)]
    rfl
  rw [hd, if_neg (by omega), if_neg (by omega), if_neg (by omega), if_neg (by omega), if_neg (by omega), if_neg (by omega), if_neg (by omega), if_neg (by simp [opt4])]
  obtain ⟨fam, src, dst, proto, hop, frag, id, off, more, exts, data⟩ := p
  have m1 := m.fam
  have m2 := m.exts
  have m3 := m.more
  have m4 := m.frag
  simp only at m1 m2 m3 m4 ho hi hoff ⊢
  subst m1 m2
  cases frag with
  | false =>
    simp only [Bool.false_eq_true, if_false] at ho hi
    subst ho hi
    rw [if_neg (by omega), if_neg (by omega), if_neg (by omega)]
    rfl
  | true =>
    simp only [if_true] at ho hi
    subst hi
    cases more with
    | false =>
      simp only [Bool.false_eq_true, if_false] at ho
      have h5 := m4 rfl
      simp at h5
      rw [if_neg (by omega), if_neg (by omega), if_pos (by omega)]
      have h6 : o % 8192 * 8 = off := by omega
      have h7 : decide (o / 8192 % 2 = 1) = false := decide_eq_false (by omega)
      rw [h6, h7]
      rfl
    | true =>
      simp only [if_true] at ho
      have h5 := m3 rfl
      rw [if_neg (by omega), if_neg (by omega), if_pos (by omega)]
      have h6 : o % 8192 * 8 = off := by omega
      have h7 : decide (o / 8192 % 2 = 1) = true := decide_eq_true (by omega)
      rw [h6, h7]
      rfl
end Go.Proofs.Ytgifcmbknkjemaa.Own
end
section
namespace Go.Proofs.Ytgifcmbknkjemaa.Own
open Go Go.RowKit Go.Proofs.YtgifcmbknkjemaaW.PrintWords Go.Proofs.YtgifcmbknkjemaaW.PrintLast Go.Proofs.YtgifcmbknkjemaaW.PrintMore
set_option linter.unusedVariables false
set_option linter.unusedSimpArgs false
theorem right_is {a : Int × Int × Int} (ha : okA a) : GA.addr_Right.f a.1 a.2.1 a.2.2 = some (rightA a) := by
  obtain ⟨f, x, y⟩ := a
  have h1 := ha.2.1
  have h2 := ha.2.2
  simp only at h1 h2
  unfold GA.addr_Right.f rightA
  simp only
  by_cases h4 : f = 4
  · subst h4
    rw [if_pos rfl]
    by_cases hx : x = 0
    · subst hx
      rw [if_pos rfl]
      by_cases hy : y < 4294967296
      · have : y / 4294967296 = 0 := by omega
        simp [this, hy]
      · have : ¬ y / 4294967296 = 0 := by omega
        simp [this, hy]
    · rw [if_neg hx]
      simp [hx]
  · rw [if_neg h4]
    by_cases h6 : f = 6
    · subst h6; simp
    · simp [h4, h6]
theorem ab_hi {f x y : Int} {out R : List Int} (i : Nat) (h64 : 64 ≤ i) (hi : i ≤ 120) (ho : out.length ≤ 100) (h : Ev (fun k => GA.addr_Bytes.l0 k (out ++ [x / 2 ^ (i - 64) % 256]) ((i - 8 : Nat) : Int) f x y) R) :
    Ev (fun k => GA.addr_Bytes.l0 k out (i : Int) f x y) R := by
  refine Ev.step (fun k => ?_) h
  have e1 : wrap64 ((i : Int) - 64) = ((i - 64 : Nat) : Int) := by rw [w64 _ (by omega) (by omega)]; omega
  have e2 : wrap64 ((i : Int) - 8) = ((i - 8 : Nat) : Int) := by rw [w64 _ (by omega) (by omega)]; omega
  have e3 : shr .u64 x ((i - 64 : Nat) : Int) = x / 2 ^ (i - 64) := by unfold shr; rw [Int.toNat_natCast, Nat.min_eq_left (by simp [IntKind.bits]; omega)]
  rw [GA.addr_Bytes.l0, if_pos (by omega), if_pos (by omega), e1, if_pos (by omega), if_pos (by omega), e2, e3]
theorem ab_lo {f x y : Int} {out R : List Int} (i : Nat) (h64 : i < 64) (h8 : 8 ≤ i) (ho : out.length ≤ 100) (h : Ev (fun k => GA.addr_Bytes.l0 k (out ++ [y / 2 ^ i % 256]) ((i - 8 : Nat) : Int) f x y) R) :
    Ev (fun k => GA.addr_Bytes.l0 k out (i : Int) f x y) R := by
  refine Ev.step (fun k => ?_) h
  have e2 : wrap64 ((i : Int) - 8) = ((i - 8 : Nat) : Int) := by rw [w64 _ (by omega) (by omega)]; omega
  have e3 : shr .u64 y (i : Int) = y / 2 ^ i := by unfold shr; rw [Int.toNat_natCast, Nat.min_eq_left (by simp [IntKind.bits]; omega)]
  rw [GA.addr_Bytes.l0, if_pos (by omega), if_neg (by omega), if_pos (by omega), if_pos (by omega), e2, e3]
theorem ab_end {f x y : Int} {out : List Int} (ho : out.length ≤ 100) : Ev (fun k => GA.addr_Bytes.l0 k out 0 f x y) (out ++ [y % 256]) := by
  refine Ev.step (fun k => ?_) (Ev.step (f := fun _ => some (out ++ [y % 256])) (g := fun k => GA.addr_Bytes.l0 k (out ++ [y % 256]) (-8) f x y) (fun k => ?_) (Ev.now _))
  · have e2 : wrap64 ((0 : Int) - 8) = -8 := by rw [w64 _ (by omega) (by omega)]; omega
    have e3 : shr .u64 y 0 = y := by unfold shr; simp
    rw [GA.addr_Bytes.l0, if_pos (by omega), if_neg (by omega), if_pos (by omega), if_pos (by omega), e2, e3]
  · rw [GA.addr_Bytes.l0, if_neg (by omega)]
theorem addr_Bytes_some {a : Int × Int × Int} (ha : okA a) : ∃ k, GA.addr_Bytes.f k a.1 a.2.1 a.2.2 = some (bytesA a) := by
  have hr := right_is ha
  obtain ⟨f, x, y⟩ := a
  unfold GA.addr_Bytes.f bytesA
  rw [hr]
  simp only [Option.bind_some]
  cases hq : rightA (f, x, y) with
  | false => exact ⟨0, by simp⟩
  | true =>
    simp only [if_true]
    unfold GA.addr_bits.f
    by_cases h4 : f = 4
    · rw [if_pos h4, if_pos h4]
      simp only [Option.bind_some]
      rw [show wrap64 (32 - 8) = ((24 : Nat) : Int) by (rw [w64 _ (by omega) (by omega)]; rfl)]
      refine (Ev.rounds (g := fun k => GA.addr_Bytes.l0 k [] ((24 : Nat) : Int) f x y) ?_)
      refine ab_lo 24 (by omega) (by omega) (by simp) ?_
      refine ab_lo 16 (by omega) (by omega) (by simp) ?_
      refine ab_lo 8 (by omega) (by omega) (by simp) ?_
      exact ab_end (by simp)
    · rw [if_neg h4, if_neg h4]
      simp only [Option.bind_some]
      rw [show wrap64 (128 - 8) = ((120 : Nat) : Int) by (rw [w64 _ (by omega) (by omega)]; rfl)]
      refine (Ev.rounds (g := fun k => GA.addr_Bytes.l0 k [] ((120 : Nat) : Int) f x y) ?_)
      refine ab_hi 120 (by omega) (by omega) (by simp) ?_
      refine ab_hi 112 (by omega) (by omega) (by simp) ?_
      refine ab_hi 104 (by omega) (by omega) (by simp) ?_
      refine ab_hi 96 (by omega) (by omega) (by simp) ?_
      refine ab_hi 88 (by omega) (by omega) (by simp) ?_
      refine ab_hi 80 (by omega) (by omega) (by simp) ?_
      refine ab_hi 72 (by omega) (by omega) (by simp) ?_
      refine ab_hi 64 (by omega) (by omega) (by simp) ?_
      refine ab_lo 56 (by omega) (by omega) (by simp) ?_
      refine ab_lo 48 (by omega) (by omega) (by simp) ?_
      refine ab_lo 40 (by omega) (by omega) (by simp) ?_
      refine ab_lo 32 (by omega) (by omega) (by simp) ?_
      refine ab_lo 24 (by omega) (by omega) (by simp) ?_
      refine ab_lo 16 (by omega) (by omega) (by simp) ?_
      refine ab_lo 8 (by omega) (by omega) (by simp) ?_
      have he := ab_end (f := f) (x := x) (y := y) (out := [] ++ [x / 2 ^ (120 - 64) % 256] ++ [x / 2 ^ (112 - 64) % 256] ++ [x / 2 ^ (104 - 64) % 256] ++ [x / 2 ^ (96 - 64) % 256] ++ [x / 2 ^ (88 - 64) % 256] ++ [x / 2 ^ (80 - 64) % 256] ++ [x / 2 ^ (72 - 64) % 256] ++ [x / 2 ^ (64 - 64) % 256] ++ [y / 2 ^ 56 % 256] ++ [y / 2 ^ 48 % 256] ++ [y / 2 ^ 40 % 256] ++ [y / 2 ^ 32 % 256] ++ [y / 2 ^ 24 % 256] ++ [y / 2 ^ 16 % 256] ++ [y / 2 ^ 8 % 256]) (by simp)
      have hz : x / 2 ^ (64 - 64) % 256 = x % 256 := by simp
      rw [hz] at he ⊢
      exact he
theorem addrBytes_at (a : Int × Int × Int) (ha : okA a) (w : World) :
    Calls Try.prog 117 #[.agg #[.int .i64 a.1, .int .u64 a.2.1, .int .u64 a.2.2]] w fun e w' => ∃ v : Value, e = .returned v ∧ Kd.R (Kd.int .u8) 5 w' w.heap.size (fun _ => True) v (bytesA a) ∧ Below w.heap.size w w' :=
  have ⟨k, hk⟩ := addr_Bytes_some ha
  GA.addr_Bytes.calls k a.1 a.2.1 a.2.2 _ w hk
end Go.Proofs.Ytgifcmbknkjemaa.Own
end
