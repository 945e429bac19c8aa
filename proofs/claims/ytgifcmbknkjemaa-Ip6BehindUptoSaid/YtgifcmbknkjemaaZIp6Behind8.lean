/- What the law Ip6Behind rests on, part 8: contracts of the functions that it calls, and plain lemmas. No condition. -/
import Derived.Test.YtgifcmbknkjemaaZIp6Behind7
import Derived.MapKept
section
namespace Go.Proofs.Ytgifcmbknkjemaa.Own
open Go Go.RowKit Go.Proofs.YtgifcmbknkjemaaW.PrintWords Go.Proofs.YtgifcmbknkjemaaW.PrintLast Go.Proofs.YtgifcmbknkjemaaW.PrintMore
set_option linter.unusedVariables false
set_option linter.unusedSimpArgs false
theorem find_ints (es : List MapEntry) (x : Int) (ks : List (Int × Value × Nat)) (he : es = ks.map fun k => ⟨.int .i64 k.1, k.2.1, k.2.2⟩) (i : Nat) :
    Instr.findNow (.int .i64) (.int .i64 x) es i = some ((ks.findIdx? fun k => k.1 == x).map fun j => (i + j, (ks[j]?.map fun k => k.2.1).getD .nilIface)) := by
  subst he
  induction ks generalizing i with
  | nil => rfl
  | cons k ks ih =>
    simp only [List.map_cons, Instr.findNow, Instr.sameNow, if_true]
    by_cases h : k.1 = x
    · simp [h, List.findIdx?_cons]
    · have h2 : (x == k.1) = false := by simp; omega
      have h3 : (k.1 == x) = false := by simpa using h
      rw [h2]
      simp only [ih, List.findIdx?_cons, h3]
      cases hh : ks.findIdx? (fun k => k.1 == x) with
      | none => simp
      | some j => simp; omega
theorem run_lookup_ints {P : Program} (W : World) (mt kt et : TypeId) (h : P.underlying mt = some (.map kt et)) (hk : P.underlying kt = some (.int .i64)) (i0 : TypeInfo) (hi : P.info? et = some i0) (z : Value) (hz : i0.zero = some z) (r clock : Nat) (ks : List (Int × Value × Nat)) (hb : W.heap[r]? = some (.map (ks.map fun k => (⟨.int .i64 k.1, k.2.1, k.2.2⟩ : MapEntry)).toArray clock)) (x : Int) :
    (Instr.lookup mt (.map (some r)) (.int .i64 x) true).run P W = .ok (.tuple #[match ks.findIdx? fun k => k.1 == x with | some j => (ks[j]?.map fun k => k.2.1).getD .nilIface | none => z, .bool (ks.findIdx? fun k => k.1 == x).isSome]) W := by
  have hf := find_ints _ x ks rfl 0
  simp only [Nat.zero_add] at hf
  have hg := Go.MapKept.run_getObj_map (P := P) hb
  have hc := fun e => Go.MapKept.run_checkKey (P := P) (w := W) (k := .int .i64 x) hk (by trivial) e 9999
  have hfk := Go.MapKept.run_findKey (P := P) (w := W) hk hf
  have hzv : (zeroValue et).run P W = .ok z W := by simp [zeroValue, typeInfo, hi, hz]
  unfold Instr.lookup
  simp only [Sem.run_bind, run_underlying h, Result.andThen_ok, Sem.run_pure, hg, hc, List.toList_toArray, hfk]
  cases hh : ks.findIdx? (fun k => k.1 == x) with
  | none => simp [hzv]
  | some j => simp
def ints (ks : List (Int × Value × Nat)) : Array MapEntry := (ks.map fun k => (⟨.int .i64 k.1, k.2.1, k.2.2⟩ : MapEntry)).toArray
theorem run_insert_ints {P : Program} (W : World) (mt kt et : TypeId) (h : P.underlying mt = some (.map kt et)) (hk : P.underlying kt = some (.int .i64)) (r clock : Nat) (ks : List (Int × Value × Nat)) (hb : W.heap[r]? = some (.map (ints ks) clock)) (x : Int) (v : Value) (hx : (ks.findIdx? fun k => k.1 == x) = none) :
    (Instr.mapUpdate mt (.map (some r)) (.int .i64 x) v).run P W = .ok () { W with heap := W.heap.setIfInBounds r (.map (ints (ks ++ [(x, v, clock)])) (clock + 1)) } := by
  have hf := find_ints _ x ks rfl 0
  rw [hx] at hf
  have hg := Go.MapKept.run_getObj_map (P := P) hb
  have hc := fun e => Go.MapKept.run_checkKey (P := P) (w := W) (k := .int .i64 x) hk (by trivial) e 9999
  have hfk := Go.MapKept.run_findKey (P := P) (w := W) hk hf
  have hs := Go.MapKept.run_setObj_map (P := P) (.map (ints (ks ++ [(x, v, clock)])) (clock + 1)) hb
  have hp : (ints ks).push ⟨.int .i64 x, v, clock⟩ = ints (ks ++ [(x, v, clock)]) := by simp [ints]
  have hl : (ints ks).toList = ks.map fun k => (⟨.int .i64 k.1, k.2.1, k.2.2⟩ : MapEntry) := by simp [ints]
  unfold Instr.mapUpdate
  simp only [Sem.run_bind, run_underlying h, Result.andThen_ok, Sem.run_pure, hg, hc, hl, hfk, Option.map_none, hp, hs]
theorem insert_next {P : Program} {W w0 : World} {base : Nat} (mt kt et : TypeId) (h : P.underlying mt = some (.map kt et)) (hk : P.underlying kt = some (.int .i64)) (r clock : Nat) (ks : List (Int × Value × Nat)) (hb : W.heap[r]? = some (.map (ints ks) clock)) (x : Int) (v : Value) (hx : (ks.findIdx? fun k => k.1 == x) = none) (hB : Below base w0 W) (hr : base ≤ r) :
    ∃ W2, (Instr.mapUpdate mt (.map (some r)) (.int .i64 x) v).run P W = .ok () W2 ∧ W2.heap[r]? = some (.map (ints (ks ++ [(x, v, clock)])) (clock + 1)) ∧ (∀ i, i ≠ r → W2.heap[i]? = W.heap[i]?) ∧ Below base w0 W2 := by
  have hlt : r < W.heap.size := by
    rcases Nat.lt_or_ge r W.heap.size with h | h
    · exact h
    · rw [Array.getElem?_eq_none h] at hb; cases hb
  refine ⟨_, run_insert_ints W mt kt et h hk r clock ks hb x v hx, ?_, ?_, ?_⟩
  · show (W.heap.setIfInBounds r _)[r]? = _
    rw [Array.getElem?_setIfInBounds_self_of_lt hlt]
  · intro i hi
    show (W.heap.setIfInBounds r _)[i]? = _
    rw [Array.getElem?_setIfInBounds_ne (by omega)]
  · refine ⟨hB.os, hB.tape, hB.output, ?_, ?_⟩
    · have := hB.size
      show _ ≤ (W.heap.setIfInBounds r _).size
      rw [Array.size_setIfInBounds]
      exact this
    · intro i hi
      show (W.heap.setIfInBounds r _)[i]? = _
      rw [Array.getElem?_setIfInBounds_ne (by omega)]
      exact hB.block i hi
def looksOf (b x : Nat) : List (Int × Value × Nat) := [(0, .func (.func 174) #[] #[.pointer (some ⟨x, 0, none⟩)], 0), (60, .func (.func 176) #[] #[], 1), (43, .func (.func 177) #[] #[], 2), (44, .func (.func 178) #[.pointer (some ⟨b, 0, none⟩)] #[], 3)]
end Go.Proofs.Ytgifcmbknkjemaa.Own
end
section
namespace Go.Proofs.Ytgifcmbknkjemaa.Own
open Go Go.RowKit Go.Proofs.YtgifcmbknkjemaaW.PrintWords Go.Proofs.YtgifcmbknkjemaaW.PrintLast Go.Proofs.YtgifcmbknkjemaaW.PrintMore
set_option linter.unusedVariables false
set_option linter.unusedSimpArgs false
set_option maxRecDepth 100000 in
theorem looks_at (w : World) (b : Nat) :
    Calls Try.prog 144 #[.pointer (some ⟨b, 0, none⟩)] w fun e w' => ∃ r x : Nat, e = .returned (.map (some r)) ∧ w.heap.size ≤ r ∧ w.heap.size ≤ x ∧ w'.heap[r]? = some (.map (ints (looksOf b x)) 4) ∧ w'.heap[x]? = some (.cells #[.pointer (some ⟨b, 0, none⟩)] 126 (0, 0)) ∧ Below w.heap.size w w' := by
  obtain ⟨x, hx⟩ : ∃ x, x = w.heap.size := ⟨_, rfl⟩
  obtain ⟨wm, hwm⟩ : ∃ wm, wm = (w.alloc (.cells #[.pointer (some ⟨b, 0, none⟩)] 126)).alloc (.map #[] 0) := ⟨_, rfl⟩
  have h0 : wm.heap[x + 1]? = some (.map (ints []) 0) := by rw [hwm, hx]; exact blk_at (by simp)
  have hbx : wm.heap[x]? = some (.cells #[.pointer (some ⟨b, 0, none⟩)] 126 (0, 0)) := by rw [hwm, hx]; exact blk_alloc (blk_at rfl) _
  have hB0 : Below w.heap.size w wm := by rw [hwm]; exact below_alloc (below_alloc (Below.refl _ _) _) _
  obtain ⟨w1, e1, h1, k1, hB1⟩ := insert_next 173 3 148 Try.underlying173 Try.underlying3 (x + 1) 0 [] h0 0 (.func (.func 174) #[] #[.pointer (some ⟨x, 0, none⟩)]) rfl hB0 (by omega)
  obtain ⟨w2, e2, h2, k2, hB2⟩ := insert_next 173 3 148 Try.underlying173 Try.underlying3 (x + 1) 1 _ h1 60 (.func (.func 176) #[] #[]) rfl hB1 (by omega)
  obtain ⟨w3, e3, h3, k3, hB3⟩ := insert_next 173 3 148 Try.underlying173 Try.underlying3 (x + 1) 2 _ h2 43 (.func (.func 177) #[] #[]) rfl hB2 (by omega)
  obtain ⟨w4, e4, h4, k4, hB4⟩ := insert_next 173 3 148 Try.underlying173 Try.underlying3 (x + 1) 3 _ h3 44 (.func (.func 178) #[.pointer (some ⟨b, 0, none⟩)] #[]) rfl hB3 (by omega)
  have hx3 : w3.heap[x]? = some (.cells #[.pointer (some ⟨b, 0, none⟩)] 126 (0, 0)) := by rw [k3 x (by omega), k2 x (by omega), k1 x (by omega), hbx]
  have hx4 : w4.heap[x]? = some (.cells #[.pointer (some ⟨b, 0, none⟩)] 126 (0, 0)) := by rw [k4 x (by omega), hx3]
  have hmk : (Instr.makeMap 173 none).run Try.prog (w.alloc (.cells #[.pointer (some ⟨b, 0, none⟩)] 126)) = .ok (.map (some (x + 1))) wm := by
    rw [run_makeMap, hwm, hx]; simp
  have C3 : w3.cell? ⟨x, 0, none⟩ = some (.pointer (some ⟨b, 0, none⟩)) := blk_cell hx3 0
  have F4 := Aside0.mk (And.intro h4 (And.intro hx4 hB4))
  clear h0 hbx hB0 h1 k1 hB1 h2 k2 hB2 h3 k3 hB3 h4 k4 hB4 hx3 hx4 hwm
  subst hx
  go_enter Try.func144, Try.ntmps144
  go_wp2_with (fail)
  go_ret
  exact ⟨w.heap.size + 1, w.heap.size, rfl, by omega, by omega, F4.out.1, F4.out.2.1, F4.out.2.2⟩
theorem C_behind {w : World} {ad : Addr} {n : Nat} {l : List Int} (h : (Kd.int .u8).C w (some ad) n l) (k : Nat) (hk : 0 < k) (hkn : k < n) : (Kd.int .u8).C w (some ⟨ad.block, ad.off + k, none⟩) (n - k) (l.drop k) := by
  have hn : l.length = n := h.1
  subst hn
  have h1 := Kd.C_drop (c := l.length + 1) (m := k) h (by omega) (by omega)
  rw [if_neg (by omega)] at h1
  have h2 : (ad.add (k * (Kd.int .u8).sz)) = ⟨ad.block, ad.off + k, none⟩ := by
    show (ad.add (k * 1)) = _
    rw [Nat.mul_one]
    unfold Addr.add
    rw [if_neg (by omega)]
  simp only [Option.map_some, h2, List.length_drop] at h1
  exact h1
set_option maxRecDepth 100000 in
theorem look60_at {ad : Addr} {c n : Nat} {l : List Int} {w : World} (hr : (Kd.int .u8).C w (some ad) n l) (hc : n ≤ c) (hb : Bytes l) (hl : 8 ≤ n) (hl2 : n ≤ 140737488355328) :
    Calls Try.prog 176 #[.slice (some ad) n c] w fun e w' => e = .returned (.int .i64 (opt (l.drop 2))) ∧ Below w.heap.size w w' := by
  have HR := Aside0.mk (C_behind hr 2 (by omega) (by omega))
  have HB := Aside0.mk (show Bytes (l.drop 2) from fun x hx => hb x (List.mem_of_mem_drop hx))
  clear hr hb
  go_enter Try.func176, Try.ntmps176
  go_wp2_with (fail)
  refine (Opt_at HR.out (by omega) HB.out (by omega)).mono ?_
  rintro e w1 ⟨rfl, hb1⟩
  go_wp2
  go_ret
  exact ⟨rfl, hb1⟩
def lookRoute (h : List Int) : Int := if rd h 2 = 0 ∨ rd h 3 ≠ 0 then 8 else 0
set_option maxRecDepth 100000 in
theorem look43_at {ad : Addr} {c n : Nat} {l : List Int} {w : World} (hr : (Kd.int .u8).C w (some ad) n l) (hc : n ≤ c) (hl : 8 ≤ n) (hl2 : n ≤ 140737488355328) :
    Calls Try.prog 177 #[.slice (some ad) n c] w fun e w' => e = .returned (.int .i64 (lookRoute l)) ∧ Below w.heap.size w w' := by
  obtain ⟨_, h2, c2⟩ := Kd.at_int hr 2 (by omega) (by omega)
  obtain ⟨_, h3, c3⟩ := Kd.at_int hr 3 (by omega) (by omega)
  obtain rfl := Option.some.inj h2
  obtain rfl := Option.some.inj h3
  have e2 : ad.add (2 : Int).toNat = ⟨ad.block, ad.off + 2, none⟩ := rfl
  have e3 : ad.add (3 : Int).toNat = ⟨ad.block, ad.off + 3, none⟩ := rfl
  rw [e2] at c2
  rw [e3] at c3
  clear h2 h3 e2 e3 hr
  by_cases z2 : rd l 2 = 0
  · have y2 : (rd l 2 == 0) = true := by simp [z2]
    go_enter Try.func177, Try.ntmps177
    go_wp2
    go_ret
    exact ⟨by simp [lookRoute, z2], Below.refl _ _⟩
  · have y2 : (rd l 2 == 0) = false := by simp [z2]
    by_cases z3 : rd l 3 = 0
    · have y3 : (rd l 3 != 0) = false := by simp [z3]
      go_enter Try.func177, Try.ntmps177
      go_wp2
      go_ret
      exact ⟨by simp [lookRoute, z2, z3], Below.refl _ _⟩
    · have y3 : (rd l 3 != 0) = true := by simp [z3]
      go_enter Try.func177, Try.ntmps177
      go_wp2
      go_ret
      exact ⟨by simp [lookRoute, z2, z3], Below.refl _ _⟩
set_option maxRecDepth 100000 in
theorem look0_at {ad : Addr} {b x c n : Nat} {l : List Int} {hop : Bool} {w : World} (hx : w.cell? ⟨x, 0, none⟩ = some (.pointer (some ⟨b, 0, none⟩))) (hh : w.cell? ⟨b, 3, none⟩ = some (.bool hop)) (hr : (Kd.int .u8).C w (some ad) n l) (hc : n ≤ c) (hb : Bytes l) (hl : 8 ≤ n) (hl2 : n ≤ 140737488355328) :
    Calls Try.prog 174 #[.slice (some ad) n c, .pointer (some ⟨x, 0, none⟩)] w fun e w' => e = .returned (.int .i64 (if hop = true then 7 else opt (l.drop 2))) ∧ Below w.heap.size w w' := by
  have HR := Aside0.mk (C_behind hr 2 (by omega) (by omega))
  have HB := Aside0.mk (show Bytes (l.drop 2) from fun x hx => hb x (List.mem_of_mem_drop hx))
  clear hr hb
  cases hop with
  | true =>
    go_enter Try.func174, Try.ntmps174
    go_wp2
    go_ret
    exact ⟨rfl, Below.refl _ _⟩
  | false =>
    go_enter Try.func174, Try.ntmps174
    go_wp2_with (fail)
    refine (Opt_at HR.out (by omega) HB.out (by omega)).mono ?_
    rintro e w1 ⟨rfl, hb1⟩
    go_wp2
    go_ret
    exact ⟨rfl, hb1⟩
def size6 (next : Int) (l : List Int) : Int × Bool := if next = 44 then (8, decide (8 ≤ l.length)) else if l.length < 2 then (0, false) else (8 * (rd l 1 + 1), decide (8 * (rd l 1 + 1) ≤ l.length))
set_option maxRecDepth 100000 in
theorem size6_at {b : Nat} {next : Int} {A : Option Addr} {c n : Nat} {l : List Int} {w : World} (h0 : w.cell? ⟨b, 0, none⟩ = some (.int .i64 next)) (h1 : w.cell? ⟨b, 1, none⟩ = some (.slice A n c)) (hr : (Kd.int .u8).C w A n l) (hc : n ≤ c) (hb : Bytes l) (hl2 : n ≤ 140737488355328) :
    Calls Try.prog 145 #[.pointer (some ⟨b, 0, none⟩)] w fun e w' => e = .returned (.tuple #[.int .i64 (size6 next l).1, .bool (size6 next l).2]) ∧ ∃ m, w' = w.drewN m := by
  have hn : l.length = n := hr.1
  by_cases z : next = 44
  · subst z
    go_enter Try.func145, Try.ntmps145
    go_wp2_with (fail)
    go_quiet (fail)
    go_wp2
    go_ret2
    refine ⟨?_, ?_⟩
    · simp [size6, hn]
      try omega
    · exact ⟨_, rfl⟩
  · have zb : (next == 44) = false := by simp [z]
    by_cases h2 : n < 2
    · go_enter Try.func145, Try.ntmps145
      go_wp2_with (fail)
      go_ret2
      exact ⟨by simp [size6, hn, z, h2], 0, rfl⟩
    · obtain ⟨ad, rfl, c1⟩ := Kd.at_int hr 1 (by omega) (by omega)
      have e1 : ad.add (1 : Int).toNat = ⟨ad.block, ad.off + 1, none⟩ := rfl
      rw [e1] at c1
      have hb1 := rd_byte' l hb 1
      obtain ⟨v, hv⟩ : ∃ v, v = rd l 1 := ⟨_, rfl⟩
      rw [← hv] at c1 hb1
      have HV := Aside0.mk hv
      clear hv hr hb e1
      go_enter Try.func145, Try.ntmps145
      go_wp2_with (fail)
      go_quiet (fail)
      go_wp2
      go_ret2
      refine ⟨?_, _, rfl⟩
      have hv := HV.out
      simp [size6, hn, z, h2, ← hv]
      try omega
end Go.Proofs.Ytgifcmbknkjemaa.Own
end
section
namespace Go.Proofs.Ytgifcmbknkjemaa.Own
open Go Go.RowKit Go.Proofs.YtgifcmbknkjemaaW.PrintWords Go.Proofs.YtgifcmbknkjemaaW.PrintLast
set_option linter.unusedVariables false
structure S6 where
  next : Int
  rest : List Int
  exts : List Int
  hop : Bool
  frg : Bool
  fr : Option (Int × Int × Bool)
def isExt (n : Int) : Bool := n == 0 || n == 60 || n == 43 || n == 44
def frag6 (stops : Bool) (fr : Option (Int × Int × Bool)) (h : List Int) : Option (Int × Int × Bool) :=
  if stops = true ∧ (u16 h 2 / 8 ≠ 0 ∨ u16 h 2 % 2 = 1) then some (u32 h 4, u16 h 2 / 8 * 8, decide (u16 h 2 % 2 = 1)) else fr
def look6 (s : S6) (h : List Int) : Int :=
  if s.next = 0 then (if s.hop = true then 7 else opt (h.drop 2))
  else if s.next = 60 then opt (h.drop 2)
  else if s.next = 43 then lookRoute h
  else if s.frg = true then 7 else 0
def next6 (stops : Bool) (s : S6) (n : Nat) : S6 :=
  ⟨rd s.rest 0, s.rest.drop n, s.exts ++ [s.next], true, s.frg || s.next == 44, if s.next = 44 then frag6 stops s.fr (s.rest.take n) else s.fr⟩
def run6 (stops : Bool) : Nat → S6 → Int × S6
  | 0, s => (17, s)
  | k + 1, s =>
    if s.fr.isSome = true ∨ isExt s.next = false then (0, s)
    else if 8 ≤ s.exts.length then (17, s)
    else if (size6 s.next s.rest).2 = false then (4, s)
    else if look6 s (s.rest.take (size6 s.next s.rest).1.toNat) ≠ 0 then (look6 s (s.rest.take (size6 s.next s.rest).1.toNat), s)
    else run6 stops k (next6 stops s (size6 s.next s.rest).1.toNat)
end Go.Proofs.Ytgifcmbknkjemaa.Own
end
section
namespace Go.Proofs.Ytgifcmbknkjemaa.Own
open Go Go.RowKit
set_option linter.unusedSimpArgs false
theorem and_eights (x : Nat) (hx : x < 2 ^ 64) : x &&& 18446744073709551608 = x / 8 * 8 := by
  apply Nat.eq_of_testBit_eq
  intro i
  rw [Nat.testBit_and, show x / 8 * 8 = 2 ^ 3 * (x / 2 ^ 3) by omega, Nat.testBit_two_pow_mul, show 18446744073709551608 = 2 ^ 3 * (2 ^ 61 - 1) by decide, Nat.testBit_two_pow_mul, Nat.testBit_two_pow_sub_one]
  by_cases h : 3 ≤ i
  · simp only [h, decide_true, Bool.true_and, ge_iff_le]
    rw [Nat.testBit_div_two_pow, show i - 3 + 3 = i by omega]
    by_cases h2 : i - 3 < 61
    · simp [h2]
    · have : x.testBit i = false := Nat.testBit_lt_two_pow (Nat.lt_of_lt_of_le hx (Nat.pow_le_pow_right (by omega) (by omega)))
      simp [this]
  · simp [h]
theorem andNot7 (n : Nat) (h : n < 65536) : Go.bits .andNot .i64 (n : Int) 7 = ((n / 8 * 8 : Nat) : Int) := by
  show IntKind.i64.wrap ((BitVec.ofInt 64 (n : Int) &&& ~~~BitVec.ofInt 64 7).toNat : Int) = _
  have h2 : (BitVec.ofInt 64 7).toNat = 7 := by decide
  rw [BitVec.toNat_and, BitVec.toNat_not, ofInt_u64 n (by omega), h2, show 2 ^ 64 - 1 - 7 = 18446744073709551608 by decide, and_eights n (by omega)]
  rw [wraps_i64 _ (by omega) (by omega)]
theorem andNot6_zero (n : Nat) (h : n < 65536) : (Go.bits .andNot .i64 (n : Int) 6 = 0) ↔ n / 8 = 0 ∧ n % 2 = 0 := by
  have hs : Go.bits .andNot .i64 (n : Int) 6 = IntKind.i64.wrap ((n &&& 18446744073709551609 : Nat) : Int) := by
    show IntKind.i64.wrap ((BitVec.ofInt 64 (n : Int) &&& ~~~BitVec.ofInt 64 6).toNat : Int) = _
    have h2 : (BitVec.ofInt 64 6).toNat = 6 := by decide
    rw [BitVec.toNat_and, BitVec.toNat_not, ofInt_u64 n (by omega), h2]
  have hle : n &&& 18446744073709551609 ≤ n := Nat.and_le_left
  rw [hs, wraps_i64 _ (by omega) (by omega)]
  constructor
  · intro h0
    have h1 : n &&& 18446744073709551609 = 0 := by omega
    have h3 : n &&& 18446744073709551608 = 0 := by
      rw [show (18446744073709551608 : Nat) = 18446744073709551609 &&& 18446744073709551608 by decide, ← Nat.and_assoc, h1, Nat.zero_and]
    have h4 : n &&& 1 = 0 := by
      rw [show (1 : Nat) = 18446744073709551609 &&& 1 by decide, ← Nat.and_assoc, h1, Nat.zero_and]
    rw [and_eights n (by omega)] at h3
    rw [Nat.and_one_is_mod] at h4
    omega
  · rintro ⟨h1, h2⟩
    have : n = 0 ∨ n = 2 ∨ n = 4 ∨ n = 6 := by omega
    rcases this with rfl | rfl | rfl | rfl <;> decide
theorem and1 (n : Nat) (h : n < 65536) : Go.bits .and .i64 (n : Int) 1 = ((n % 2 : Nat) : Int) := by
  have := bits_mask .i64 63 (by decide) wraps_i64 1 (by decide) (n : Int) (by omega) (by omega)
  rw [show ((n % 2 : Nat) : Int) = (n : Int) % 2 by omega]
  exact this
end Go.Proofs.Ytgifcmbknkjemaa.Own
end
section
namespace Go.Proofs.Ytgifcmbknkjemaa.Own
open Go Go.RowKit Go.Proofs.YtgifcmbknkjemaaW.PrintWords Go.Proofs.YtgifcmbknkjemaaW.PrintLast Go.Proofs.YtgifcmbknkjemaaW.PrintMore
set_option linter.unusedVariables false
set_option linter.unusedSimpArgs false
def obj6 (next : Int) (rest vE : Value) (hop frg stops st : Bool) (id off : Int) (more : Bool) : Array Value :=
  #[.int .i64 next, rest, vE, .bool hop, .bool frg, .bool stops, .bool st, .int .i64 0, .int .i64 0, .int .u64 0, .int .u64 0, .int .i64 0, .int .u64 0, .int .u64 0, .int .i64 0, .int .i64 0, .bool st, .int .u32 id, .int .i64 off, .bool more, .slice none 0 0, .slice none 0 0]
def objS (s : S6) (stops : Bool) (rest vE : Value) : Array Value :=
  obj6 s.next rest vE s.hop s.frg stops s.fr.isSome (s.fr.getD (0, 0, false)).1 (s.fr.getD (0, 0, false)).2.1 (s.fr.getD (0, 0, false)).2.2
theorem U16_at {A : Option Addr} {c n : Nat} {l : List Int} {w : World} (a : Int) (hr : (Kd.int .u8).C w A n l) (hc : n ≤ c) (hb : Bytes l) (hl : n ≤ 140737488355000) (h0 : 0 ≤ a) (ha : a + 2 ≤ n) :
    Calls Try.prog 49 #[.slice A n c, .int .i64 a] w fun e w' => e = .returned (.tuple #[.int .i64 (u16 l a), .bool true]) ∧ ∃ m, w' = w.drewN m := by
  have hn : l.length = n := hr.1
  subst hn
  refine (wire_U16.calls A c l a (u16 l a) true w hr hc ?_).mono fun e w' h => ⟨h.1, h.2.out⟩
  unfold wire_U16.f
  rw [if_pos (by simp [okS, okB_iff.2 hb]; exact hl), if_pos ⟨h0, ha⟩]
theorem U32_at {A : Option Addr} {c n : Nat} {l : List Int} {w : World} (a : Int) (hr : (Kd.int .u8).C w A n l) (hc : n ≤ c) (hb : Bytes l) (hl : n ≤ 140737488355000) (h0 : 0 ≤ a) (ha : a + 4 ≤ n) :
    Calls Try.prog 50 #[.slice A n c, .int .i64 a] w fun e w' => e = .returned (.tuple #[.int .u32 (u32 l a), .bool true]) ∧ ∃ m, w' = w.drewN m := by
  have hn : l.length = n := hr.1
  subst hn
  refine (wire_U32.calls A c l a (u32 l a) true w hr hc ?_).mono fun e w' h => ⟨h.1, h.2.out⟩
  unfold wire_U32.f
  rw [if_pos (by simp [okS, okB_iff.2 hb]; exact hl), if_pos ⟨h0, ha⟩]
theorem blk_unfrozen {W : World} {b : Nat} {cs : Array Value} {t : TypeId} (h : W.heap[b]? = some (.cells cs t (0, 0))) (i : Nat) : W.frozen? ⟨b, i, none⟩ = false := by simp [World.frozen?, h]
theorem obj_set {w : World} {b t : Nat} {C : Array Value} (h : w.heap[b]? = some (.cells C t (0, 0))) (i : Nat) (v : Value) : (w.setCell ⟨b, i, none⟩ v).heap[b]? = some (.cells (C.setIfInBounds i v) t (0, 0)) := heap_setCell_same w b i C t v h
theorem C_same {k : IntKind} {w w1 : World} {A : Option Addr} {n : Nat} {l : List Int} (h : (Kd.int k).C w A n l) (hh : ∀ ad, A = some ad → w1.heap[ad.block]? = w.heap[ad.block]?) : (Kd.int k).C w1 A n l := by
  refine ⟨h.1, h.2.1, fun hn => ?_⟩
  obtain ⟨ad, e, hc⟩ := h.2.2 hn
  refine ⟨ad, e, fun j p hj => ?_⟩
  obtain ⟨c, h1, h2, h3⟩ := hc j p hj
  refine ⟨c, h1, h2, fun i u hu => ?_⟩
  have h4 := h3 i u hu
  have hb : (ad.add (j * (Kd.int k).sz + i)).block = ad.block := by unfold Addr.add; split <;> rfl
  rw [← h4]
  unfold World.cell?
  rw [hb, hh ad e]
theorem C_set {k : IntKind} {w : World} {A : Option Addr} {n : Nat} {l : List Int} (h : (Kd.int k).C w A n l) (b i : Nat) (v : Value) (hb : ∀ ad, A = some ad → ad.block ≠ b) : (Kd.int k).C (w.setCell ⟨b, i, none⟩ v) A n l :=
  C_same h fun ad ha => heap_setCell_other w ⟨b, i, none⟩ ad.block v (hb ad ha)
theorem C_drewN {k : IntKind} {w : World} {A : Option Addr} {n : Nat} {l : List Int} (h : (Kd.int k).C w A n l) (m : Nat) : (Kd.int k).C (w.drewN m) A n l := C_same h fun _ _ => rfl
def Far (b : Nat) (w w1 : World) : Prop := ∀ i, i ≠ b → w1.heap[i]? = w.heap[i]?
theorem Far.refl (b : Nat) (w : World) : Far b w w := fun _ _ => rfl
theorem Far.set {b : Nat} {w w1 : World} (h : Far b w w1) (i : Nat) (v : Value) : Far b w (w1.setCell ⟨b, i, none⟩ v) := fun j hj => (heap_setCell_other w1 ⟨b, i, none⟩ j v hj).trans (h j hj)
theorem Far.drewN {b : Nat} {w w1 : World} (h : Far b w w1) (m : Nat) : Far b w (w1.drewN m) := fun j hj => h j hj
theorem Far.drew {b : Nat} {w w1 : World} (h : Far b w w1) : Far b w w1.drew := fun j hj => h j hj
theorem C_far {k : IntKind} {b : Nat} {w w1 : World} {A : Option Addr} {n : Nat} {l : List Int} (h : (Kd.int k).C w A n l) (hne : ∀ ad, A = some ad → ad.block ≠ b) (hf : Far b w w1) : (Kd.int k).C w1 A n l := C_same h fun ad ha => hf _ (hne ad ha)
theorem obj_drewN {w : World} {b : Nat} {o : Obj} (h : w.heap[b]? = some o) (m : Nat) : (w.drewN m).heap[b]? = some o := h
def Frag6Post (b base : Nat) (w0 w : World) (s : S6) (stops : Bool) (rest vE : Value) (l : List Int) (w' : World) : Prop :=
  Far b w w' ∧ Below base w0 w' ∧ (s.frg = false → w'.heap[b]? = some (.cells (objS ⟨s.next, s.rest, s.exts, s.hop, true, frag6 stops s.fr l⟩ stops rest vE) 128 (0, 0)))
set_option maxRecDepth 100000 in
set_option maxHeartbeats 1000000 in
theorem fragment_at {b base : Nat} {s : S6} {stops : Bool} {rest vE : Value} {w w0 : World} {A : Option Addr} {c n : Nat} {l : List Int} (ho : w.heap[b]? = some (.cells (objS s stops rest vE) 128 (0, 0))) (hs : s.fr = none) (hr : (Kd.int .u8).C w A n l) (hne : ∀ ad, A = some ad → ad.block ≠ b) (hc : n ≤ c) (hb : Bytes l) (hl : n ≤ 140737488355000) (h8 : 8 ≤ n) (hB : Below base w0 w) (hbb : base ≤ b) :
    Calls Try.prog 178 #[.pointer (some ⟨b, 0, none⟩), .slice A n c] w fun e w' => e = .returned (.int .i64 (if s.frg = true then 7 else 0)) ∧ Frag6Post b base w0 w s stops rest vE l w' := by
  obtain ⟨next, rst, exts, hop, frg, fr⟩ := s
  obtain rfl : fr = none := hs
  cases frg with
  | true =>
    have c4 : w.cell? ⟨b, 4, none⟩ = some (.bool true) := blk_cell ho 4
    have HB := Aside0.mk hB
    clear ho hr hB hne
    go_enter Try.func178, Try.ntmps178
    go_wp2
    go_ret
    exact ⟨rfl, Far.refl _ _, HB.out, fun h => by cases h⟩
  | false =>
    have ub := u16_bounds hb 2
    obtain ⟨p, hp2⟩ : ∃ p : Nat, u16 l 2 = (p : Int) := ⟨(u16 l 2).toNat, by omega⟩
    have c4 : w.cell? ⟨b, 4, none⟩ = some (.bool false) := blk_cell ho 4
    have c5 : w.cell? ⟨b, 5, none⟩ = some (.bool stops) := blk_cell ho 5
    have c6 : w.cell? ⟨b, 6, none⟩ = some (.bool false) := blk_cell ho 6
    have c16 : w.cell? ⟨b, 16, none⟩ = some (.bool false) := blk_cell ho 16
    have c17 : w.cell? ⟨b, 17, none⟩ = some (.int .u32 0) := blk_cell ho 17
    have c18 : w.cell? ⟨b, 18, none⟩ = some (.int .i64 0) := blk_cell ho 18
    have c19 : w.cell? ⟨b, 19, none⟩ = some (.bool false) := blk_cell ho 19
    have f4 := blk_unfrozen ho 4
    have f6 := blk_unfrozen ho 6
    have f16 := blk_unfrozen ho 16
    have f17 := blk_unfrozen ho 17
    have f18 := blk_unfrozen ho 18
    have f19 := blk_unfrozen ho 19
    have HO := Aside0.mk ho
    have HB := Aside0.mk hB
    have HR := Aside0.mk hr
    have HNE := Aside0.mk hne
    have HP := Aside0.mk hp2
    have e16 : ∀ W, (Kd.int .u8).C W A n l → Calls Try.prog 49 #[.slice A n c, .int .i64 2] W fun e w' => e = .returned (.tuple #[.int .i64 (p : Int), .bool true]) ∧ ∃ m, w' = W.drewN m := fun W h => by
      rw [← hp2]; exact U16_at 2 h hc hb hl (by omega) (by omega)
    have E16 := Aside0.mk e16
    clear ho hB hr hne e16
    by_cases h : stops = true ∧ (p / 8 ≠ 0 ∨ p % 2 = 1)
    · obtain ⟨rfl, h1⟩ := h
      have hbit : (Go.bits .andNot .i64 (p : Int) 6 != 0) = true := by
        rw [bne_iff_ne]
        intro h0
        have := (andNot6_zero p (by omega)).1 h0
        omega
      have h7 : Go.bits .andNot .i64 (p : Int) 7 = ((p / 8 * 8 : Nat) : Int) := andNot7 p (by omega)
      have h1b : (Go.bits .and .i64 (p : Int) 1 == 1) = decide (p % 2 = 1) := by
        rw [and1 p (by omega)]
        by_cases h2 : p % 2 = 1
        · simp [h2]
        · have : p % 2 = 0 := by omega
          simp [this]
      have HF := Aside0.mk (show frag6 true none l = some (u32 l 4, ((p / 8 * 8 : Nat) : Int), decide (p % 2 = 1)) from by
        unfold frag6
        rw [hp2, if_pos ⟨rfl, by omega⟩]
        congr 3
        by_cases h2 : p % 2 = 1
        · rw [decide_eq_true h2, decide_eq_true (by omega)]
        · rw [decide_eq_false h2, decide_eq_false (by omega)])
      obtain ⟨q, hq⟩ : ∃ q : Nat, q = p / 8 * 8 := ⟨_, rfl⟩
      obtain ⟨m1, hm1⟩ : ∃ m1 : Bool, m1 = decide (p % 2 = 1) := ⟨_, rfl⟩
      rw [← hq] at h7 HF
      rw [← hm1] at h1b HF
      clear hp2 h1 hq hm1 ub
      go_enter Try.func178, Try.ntmps178
      go_wp2_with (first | (go_at_call 49; refine (E16.out _ (C_set HR.out b 4 _ HNE.out)).mono ?_; rintro e w2 ⟨rfl, m, rfl⟩) | (go_at_call 50; refine (U32_at 4 (C_far HR.out HNE.out ?hs) hc hb hl (by omega) (by omega)).mono ?_; rotate_left; rintro e w2 ⟨rfl, m2, rfl⟩))
      case hs => repeat (first | with_reducible exact Far.refl _ _ | with_reducible apply Far.set | with_reducible apply Far.drewN)
      go_ret
      refine ⟨rfl, ?_, ?_, fun _ => ?_⟩
      · repeat (first | with_reducible exact Far.refl _ _ | with_reducible apply Far.set | with_reducible apply Far.drewN)
      · repeat (first | with_reducible exact HB.out | with_reducible apply pw_below_drewN | with_reducible refine Below.setCell ?_ hbb _)
      · rw [HF.out]
        have o1 := obj_set HO.out 4 (.bool true)
        have o2 := obj_set (obj_drewN o1 m) 6 (.bool true)
        have o3 := obj_set o2 16 (.bool true)
        have o4 := obj_set o3 18 (.int .i64 q)
        have o5 := obj_set o4 19 (.bool m1)
        have o6 := obj_set (obj_drewN o5 m2) 17 (.int .u32 (u32 l 4))
        rw [o6]
        rfl
    · have HF := Aside0.mk (show frag6 stops none l = none from by
        unfold frag6
        rw [hp2, if_neg (fun hh => h ⟨hh.1, by have := hh.2; omega⟩)])
      cases stops with
      | false =>
        clear h hp2
        go_enter Try.func178, Try.ntmps178
        go_wp2_with (go_at_call 49; refine (E16.out _ (C_set HR.out b 4 _ HNE.out)).mono ?_; rintro e w2 ⟨rfl, m, rfl⟩)
        go_ret
        refine ⟨rfl, ?_, ?_, fun _ => ?_⟩
        · repeat (first | with_reducible exact Far.refl _ _ | with_reducible apply Far.set | with_reducible apply Far.drewN)
        · repeat (first | with_reducible exact HB.out | with_reducible apply pw_below_drewN | with_reducible refine Below.setCell ?_ hbb _)
        · rw [HF.out]
          have o1 := obj_drewN (obj_set HO.out 4 (.bool true)) m
          rw [o1]
          rfl
      | true =>
        have h' : ¬ (p / 8 ≠ 0 ∨ p % 2 = 1) := fun hh => h ⟨rfl, hh⟩
        have hbit : (Go.bits .andNot .i64 (p : Int) 6 != 0) = false := by
          rw [bne_eq_false_iff_eq]
          exact (andNot6_zero p (by omega)).2 ⟨by omega, by omega⟩
        clear h h' hp2
        go_enter Try.func178, Try.ntmps178
        go_wp2_with (go_at_call 49; refine (E16.out _ (C_set HR.out b 4 _ HNE.out)).mono ?_; rintro e w2 ⟨rfl, m, rfl⟩)
        go_ret
        refine ⟨rfl, ?_, ?_, fun _ => ?_⟩
        · repeat (first | with_reducible exact Far.refl _ _ | with_reducible apply Far.set | with_reducible apply Far.drewN)
        · repeat (first | with_reducible exact HB.out | with_reducible apply pw_below_drewN | with_reducible refine Below.setCell ?_ hbb _)
        · rw [HF.out]
          have o1 := obj_drewN (obj_set HO.out 4 (.bool true)) m
          rw [o1]
          rfl
end Go.Proofs.Ytgifcmbknkjemaa.Own
end
