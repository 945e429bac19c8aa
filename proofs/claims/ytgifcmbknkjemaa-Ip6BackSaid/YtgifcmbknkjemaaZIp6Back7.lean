/- What the law Ip6Back rests on, part 7: contracts of the functions that it calls, and plain lemmas. No condition. -/
import Derived.Test.YtgifcmbknkjemaaZIp6Back6
section
namespace Go.Proofs.Ytgifcmbknkjemaa.Own
open Go Go.RowKit Go.Proofs.Ytgifcmbknkjemaa.GW Go.Proofs.YtgifcmbknkjemaaW.PrintWords Go.Proofs.YtgifcmbknkjemaaW.PrintLast
set_option linter.unusedVariables false
set_option linter.unusedSimpArgs false
def Bytes (xs : List Int) : Prop := ∀ c ∈ xs, 0 ≤ c ∧ c ≤ 255
theorem w64 (n : Int) (h0 : -9223372036854775808 ≤ n) (h1 : n ≤ 9223372036854775807) : wrap64 n = n := by unfold wrap64; omega
theorem wsucc (i : Nat) (h : i < 4611686018427387904) : wrap64 ((i : Int) + 1) = ((i + 1 : Nat) : Int) := by unfold wrap64; omega
theorem wraps_i64 (n : Int) (h₀ : 0 ≤ n) (h₁ : n < 2 ^ 63) : IntKind.i64.wrap n = n := by rw [IntKind.wrap_i64]; omega
def atOf (b : Bool) : Int := if b then 1 else 0
theorem a0 : atOf false = 0 := rfl
theorem a1 : atOf true = 1 := rfl
theorem e0 : wrap64 (1 - 1) = atOf false := by rw [w64 _ (by omega) (by omega)]; rfl
theorem e1 : wrap64 (1 - 0) = atOf true := by rw [w64 _ (by omega) (by omega)]; rfl
end Go.Proofs.Ytgifcmbknkjemaa.Own
end
section
namespace Go.Proofs.Ytgifcmbknkjemaa.Own
open Go Go.RowKit Go.Proofs.YtgifcmbknkjemaaW.PrintWords Go.Proofs.YtgifcmbknkjemaaW.PrintLast
set_option linter.unusedVariables false
set_option linter.unusedSimpArgs false
def okB (xs : List Int) : Bool := xs.all fun c => decide (0 ≤ c) && decide (c ≤ 255)
theorem okB_iff {xs : List Int} : okB xs = true ↔ Bytes xs := by
  unfold okB Bytes
  simp [List.all_eq_true]
theorem u16_at (b0 b1 : Int) (h0 : 0 ≤ b0) (h1 : b0 ≤ 255) (h2 : 0 ≤ b1) (h3 : b1 ≤ 255) : Go.bits .or .i64 (wrap64 ((wrap64 b0) * 256)) (wrap64 b1) = 256 * b0 + b1 := by
  rw [w64 b0 (by omega) (by omega), w64 b1 (by omega) (by omega), w64 _ (by omega) (by omega), bits_join .i64 63 (by decide) wraps_i64 8 (b0 * 256) b1 (by omega) (by omega) (by omega) h2 (by omega) (by omega)]
  omega
def okS (l : List Int) : Bool := okB l && decide (l.length ≤ 140737488355000)
theorem okS_iff {l : List Int} : okS l = true ↔ Bytes l ∧ l.length ≤ 140737488355000 := by
  unfold okS
  simp [okB_iff]
theorem rd_byte {l : List Int} (h : Bytes l) (i : Int) : 0 ≤ rd l i ∧ rd l i ≤ 255 := by
  unfold rd
  rw [List.getD_eq_getElem?_getD]
  rcases Nat.lt_or_ge i.toNat l.length with hi | hi
  · rw [List.getElem?_eq_getElem hi]
    exact h _ (List.getElem_mem _)
  · rw [List.getElem?_eq_none hi]
    decide
def u16 (l : List Int) (a : Int) : Int := 256 * rd l a + rd l (a + 1)
def u32 (l : List Int) (a : Int) : Int := 65536 * u16 l a + u16 l (a + 2)
theorem u16_bounds {l : List Int} (h : Bytes l) (a : Int) : 0 ≤ u16 l a ∧ u16 l a ≤ 65535 := by
  have h1 := rd_byte h a
  have h2 := rd_byte h (a + 1)
  unfold u16
  omega
def wire_U16.f (l0 : List Int) (a1 : Int) : Option (Int × Bool) := if okS l0 = true then (if 0 ≤ a1 ∧ a1 + 2 ≤ l0.length then some (u16 l0 a1, true) else some (0, false)) else none
theorem gw_U16 {l : List Int} {a : Int} (hb : Bytes l) (hl : l.length ≤ 140737488355000) : GW.wire_U16.f l a = if 0 ≤ a ∧ a + 2 ≤ l.length then some (u16 l a, true) else some (0, false) := by
  unfold GW.wire_U16.f
  by_cases h0 : a < 0
  · rw [if_pos h0, if_neg (by omega)]
  · rw [if_neg h0, w64 ((l.length : Int) - 2) (by omega) (by omega)]
    by_cases h1 : a > (l.length : Int) - 2
    · rw [if_pos h1, if_neg (by omega)]
    · have b0 := rd_byte hb a
      have b1 := rd_byte hb (a + 1)
      rw [if_neg h1, if_pos (by omega), if_pos (by omega), w64 (a + 1) (by omega) (by omega), if_pos (by omega), if_pos (by omega), if_pos (by omega), u16_at _ _ b0.1 b0.2 b1.1 b1.2]
      rfl
theorem wire_U16.calls (A0 : Option Addr) (c0 : Nat) (l0 : List Int) (a1 : Int) (r1 : Int) (r2 : Bool) (w : World) (hr0 : Kd.C (Kd.int .u8) w A0 l0.length l0) (hc0 : l0.length ≤ c0) (h : wire_U16.f l0 a1 = some (r1, r2)) :
    Calls Try.prog 49 #[.slice A0 l0.length c0, .int .i64 a1] w fun e w' => e = .returned (.tuple #[.int .i64 r1, .bool r2]) ∧ Drawn0 w w' := by
  unfold wire_U16.f at h
  split at h
  · rename_i hs
    obtain ⟨hb, hl⟩ := okS_iff.1 hs
    exact GW.wire_U16.calls A0 c0 l0 a1 r1 r2 w hr0 hc0 (by rw [gw_U16 hb hl]; exact h)
  · cases h
def wire_U32.f (l0 : List Int) (a1 : Int) : Option (Int × Bool) := if okS l0 = true then (if 0 ≤ a1 ∧ a1 + 4 ≤ l0.length then some (u32 l0 a1, true) else some (0, false)) else none
theorem u32_at (x y : Int) (h0 : 0 ≤ x) (h1 : x ≤ 65535) (h2 : 0 ≤ y) (h3 : y ≤ 65535) : Go.bits .or .u32 (((x % 4294967296) * 65536) % 4294967296) (y % 4294967296) = 65536 * x + y := by
  have e1 : ((x % 4294967296) * 65536) % 4294967296 = x * 65536 := by omega
  have e2 : y % 4294967296 = y := by omega
  rw [e1, e2, bits_join .u32 32 (by decide) (fun n h0 h1 => by rw [IntKind.wrap_u32]; omega) 16 (x * 65536) y (by omega) (by omega) (by omega) h2 (by omega) (by omega)]
  omega
theorem wire_U32.calls (A0 : Option Addr) (c0 : Nat) (l0 : List Int) (a1 : Int) (r1 : Int) (r2 : Bool) (w : World) (hr0 : Kd.C (Kd.int .u8) w A0 l0.length l0) (hc0 : l0.length ≤ c0) (h : wire_U32.f l0 a1 = some (r1, r2)) :
    Calls Try.prog 50 #[.slice A0 l0.length c0, .int .i64 a1] w fun e w' => e = .returned (.tuple #[.int .u32 r1, .bool r2]) ∧ Drawn0 w w' := by
  unfold wire_U32.f at h
  split at h
  · rename_i hs
    obtain ⟨hb, hl⟩ := okS_iff.1 hs
    refine GW.wire_U32.calls 1 A0 c0 l0 a1 r1 r2 w hr0 hc0 ?_
    simp only [GW.wire_U32.f, GW.wire_U32.j0]
    by_cases h0 : a1 < 0
    · rw [if_neg (by omega)] at h
      rw [if_pos h0]
      exact h
    · rw [if_neg h0, w64 ((l0.length : Int) - 4) (by omega) (by omega)]
      by_cases h1 : a1 > (l0.length : Int) - 4
      · rw [if_neg (by omega)] at h
        rw [if_pos (decide_eq_true h1)]
        exact h
      · rw [if_pos (by omega)] at h
        have c1 := u16_bounds hb a1
        have c2 := u16_bounds hb (a1 + 2)
        rw [if_neg (by simp; omega), gw_U16 hb hl, if_pos (by omega), w64 (a1 + 2) (by omega) (by omega), gw_U16 hb hl, if_pos (by omega)]
        simp only [Option.bind_some]
        rw [u32_at _ _ c1.1 c1.2 c2.1 c2.2]
        exact h
  · cases h
def cutL (l : List Int) (a b : Int) : List Int := (l.take b.toNat).drop a.toNat
theorem cutL_length {l : List Int} {a b : Int} (h0 : 0 ≤ a) (h1 : a ≤ b) (h2 : b ≤ l.length) : ((cutL l a b).length : Int) = b - a := by
  unfold cutL
  rw [List.length_drop, List.length_take]
  omega
theorem rd_cutL {l : List Int} {a b i : Int} (h0 : 0 ≤ a) (h2 : 0 ≤ i) (h3 : a + i < b) : rd (cutL l a b) i = rd l (a + i) := by
  unfold rd cutL
  rw [List.getD_eq_getElem?_getD, List.getD_eq_getElem?_getD, List.getElem?_drop, List.getElem?_take]
  rw [if_pos (by omega)]
  congr 2
  omega
def part (l : List Int) (a n : Int) : List Int × Bool := if n < 0 ∨ a < 0 ∨ a > l.length ∨ (l.length : Int) - a < n then ([], false) else (cutL l a (a + n), true)
def stockaderef01_Part.f (l0 : List Int) (a1 a2 : Int) : Option (List Int × Bool) := if l0.length ≤ 140737488355000 then some (part l0 a1 a2) else none
theorem gw_refPart {l : List Int} {a n : Int} (hl : l.length ≤ 140737488355000) : GW.stockaderef01_Part.f l a n = some (part l a n) := by
  unfold GW.stockaderef01_Part.f part
  by_cases h1 : n < 0
  · rw [if_pos h1, if_pos (by omega)]
  by_cases h2 : a < 0
  · rw [if_neg h1, if_pos h2, if_pos (by omega)]
  by_cases h3 : a > l.length
  · rw [if_neg h1, if_neg h2, if_pos h3, if_pos (by omega)]
  rw [if_neg h1, if_neg h2, if_neg h3, w64 ((l.length : Int) - a) (by omega) (by omega)]
  by_cases h4 : (l.length : Int) - a < n
  · rw [if_pos (by omega), if_pos (by omega)]
  have hcl := cutL_length (l := l) (a := a) (b := a + n) (by omega) (by omega) (by omega)
  have e : cutL l a (a + n) = (l.take (a + n).toNat).drop a.toNat := rfl
  rw [if_neg (by omega), w64 (a + n) (by omega) (by omega), if_pos (by omega), if_pos (by omega), if_pos (by omega), ← e, if_pos (by simp; omega), if_neg (by omega)]
  rfl
theorem stockaderef01_Part.calls (A0 : Option Addr) (c0 : Nat) (l0 : List Int) (a1 a2 : Int) (r1 : List Int) (r2 : Bool) (w : World) (hr0 : Kd.C (Kd.int .u8) w A0 l0.length l0) (hc0 : l0.length ≤ c0) (h : stockaderef01_Part.f l0 a1 a2 = some (r1, r2)) :
    Calls Try.prog 111 #[.slice A0 l0.length c0, .int .i64 a1, .int .i64 a2] w fun e w' => ∃ v0_ : Value, e = .returned (.tuple #[v0_, .bool r2]) ∧ Kd.R (Kd.int .u8) 5 w' w.heap.size (fun _ => True) v0_ r1 ∧ Below w.heap.size w w' := by
  unfold stockaderef01_Part.f at h
  split at h
  · rename_i hl
    exact GW.stockaderef01_Part.calls A0 c0 l0 a1 a2 r1 r2 w hr0 hc0 (by rw [gw_refPart hl]; exact h)
  · cases h
def stockaderef01_U16.f (l0 : List Int) (a1 : Int) : Option (Int × Bool) := wire_U16.f l0 a1
theorem part_at {l : List Int} {a n : Int} (hn : 0 ≤ n) : part l a n = if 0 ≤ a ∧ a + n ≤ l.length then (cutL l a (a + n), true) else ([], false) := by
  unfold part
  by_cases h : 0 ≤ a ∧ a + n ≤ l.length
  · rw [if_neg (by omega), if_pos h]
  · rw [if_pos (by omega), if_neg h]
theorem stockaderef01_U16.calls (A0 : Option Addr) (c0 : Nat) (l0 : List Int) (a1 : Int) (r1 : Int) (r2 : Bool) (w : World) (hr0 : Kd.C (Kd.int .u8) w A0 l0.length l0) (hc0 : l0.length ≤ c0) (h : stockaderef01_U16.f l0 a1 = some (r1, r2)) :
    Calls Try.prog 63 #[.slice A0 l0.length c0, .int .i64 a1] w fun e w' => e = .returned (.tuple #[.int .i64 r1, .bool r2]) ∧ Below w.heap.size w w' := by
  unfold stockaderef01_U16.f wire_U16.f at h
  split at h
  · rename_i hs
    obtain ⟨hb, hl⟩ := okS_iff.1 hs
    refine GW.stockaderef01_U16.calls A0 c0 l0 a1 r1 r2 w hr0 hc0 ?_
    unfold GW.stockaderef01_U16.f
    rw [gw_refPart hl, part_at (by omega)]
    simp only [Option.bind_some]
    by_cases h1 : 0 ≤ a1 ∧ a1 + 2 ≤ l0.length
    · have hcl := cutL_length (l := l0) (a := a1) (b := a1 + 2) (by omega) (by omega) (by omega)
      have b0 := rd_byte hb a1
      have b1 := rd_byte hb (a1 + 1)
      rw [if_pos h1] at h
      rw [if_pos h1, if_pos rfl, if_pos (by simp only []; omega), if_pos (by simp only []; omega)]
      simp only []
      rw [rd_cutL (by omega) (by omega) (by omega), rd_cutL (by omega) (by omega) (by omega), Int.add_zero, u16_at _ _ b0.1 b0.2 b1.1 b1.2]
      exact h
    · rw [if_neg h1] at h
      rw [if_neg h1, if_neg (by simp)]
      exact h
  · cases h
def stockaderef01_U32.f (l0 : List Int) (a1 : Int) : Option (Int × Bool) := wire_U32.f l0 a1
theorem u32_at4 (a b c d : Int) (h0 : 0 ≤ a ∧ a ≤ 255) (h1 : 0 ≤ b ∧ b ≤ 255) (h2 : 0 ≤ c ∧ c ≤ 255) (h3 : 0 ≤ d ∧ d ≤ 255) :
    Go.bits .or .u32 (Go.bits .or .u32 (Go.bits .or .u32 (((a % 4294967296) * 16777216) % 4294967296) (((b % 4294967296) * 65536) % 4294967296)) (((c % 4294967296) * 256) % 4294967296)) (d % 4294967296) = 65536 * (256 * a + b) + (256 * c + d) := by
  have e1 : ((a % 4294967296) * 16777216) % 4294967296 = a * 16777216 := by omega
  have e2 : ((b % 4294967296) * 65536) % 4294967296 = b * 65536 := by omega
  have e3 : ((c % 4294967296) * 256) % 4294967296 = c * 256 := by omega
  have e4 : d % 4294967296 = d := by omega
  have hw : ∀ n : Int, 0 ≤ n → n < 2 ^ 32 → IntKind.u32.wrap n = n := fun n h0 h1 => by rw [IntKind.wrap_u32]; omega
  rw [e1, e2, e3, e4, bits_join .u32 32 (by decide) hw 24 (a * 16777216) (b * 65536) (by omega) (by omega) (by omega) (by omega) (by omega) (by omega),
    bits_join .u32 32 (by decide) hw 16 _ (c * 256) (by omega) (by omega) (by omega) (by omega) (by omega) (by omega),
    bits_join .u32 32 (by decide) hw 8 _ d (by omega) (by omega) (by omega) (by omega) (by omega) (by omega)]
  omega
theorem stockaderef01_U32.calls (A0 : Option Addr) (c0 : Nat) (l0 : List Int) (a1 : Int) (r1 : Int) (r2 : Bool) (w : World) (hr0 : Kd.C (Kd.int .u8) w A0 l0.length l0) (hc0 : l0.length ≤ c0) (h : stockaderef01_U32.f l0 a1 = some (r1, r2)) :
    Calls Try.prog 168 #[.slice A0 l0.length c0, .int .i64 a1] w fun e w' => e = .returned (.tuple #[.int .u32 r1, .bool r2]) ∧ Below w.heap.size w w' := by
  unfold stockaderef01_U32.f wire_U32.f at h
  split at h
  · rename_i hs
    obtain ⟨hb, hl⟩ := okS_iff.1 hs
    refine GW.stockaderef01_U32.calls A0 c0 l0 a1 r1 r2 w hr0 hc0 ?_
    unfold GW.stockaderef01_U32.f
    rw [gw_refPart hl, part_at (by omega)]
    simp only [Option.bind_some]
    by_cases h1 : 0 ≤ a1 ∧ a1 + 4 ≤ l0.length
    · have hcl := cutL_length (l := l0) (a := a1) (b := a1 + 4) (by omega) (by omega) (by omega)
      rw [if_pos h1] at h
      rw [if_pos h1, if_pos rfl, if_pos (by simp only []; omega), if_pos (by simp only []; omega), if_pos (by simp only []; omega), if_pos (by simp only []; omega)]
      simp only []
      rw [rd_cutL (by omega) (by omega) (by omega), rd_cutL (by omega) (by omega) (by omega), rd_cutL (by omega) (by omega) (by omega), rd_cutL (by omega) (by omega) (by omega), Int.add_zero,
        u32_at4 _ _ _ _ (rd_byte hb _) (rd_byte hb _) (rd_byte hb _) (rd_byte hb _)]
      rw [← h]
      unfold u32 u16
      rw [show a1 + 2 + 1 = a1 + 3 from by omega]
    · rw [if_neg h1] at h
      rw [if_neg h1, if_neg (by simp)]
      exact h
  · cases h
def put16 (l : List Int) (n : Int) : List Int := l ++ [n / 256 % 256, n % 256]
def put32 (l : List Int) (n : Int) : List Int := l ++ [n / 16777216 % 256, n / 65536 % 256, n / 256 % 256, n % 256]
def wire_Put16.f (l0 : List Int) (a1 : Int) : Option (List Int) := if l0.length ≤ 140737488355000 then some (put16 l0 a1) else none
theorem wire_Put16.calls (A0 : Option Addr) (c0 : Nat) (l0 : List Int) (a1 : Int) (r : List Int) (w : World) (hr0 : Kd.C (Kd.int .u8) w A0 l0.length l0) (hc0 : l0.length ≤ c0) (h : wire_Put16.f l0 a1 = some r) :
    Calls Try.prog 44 #[.slice A0 l0.length c0, .int .i64 a1] w fun e w' => ∃ v0_ : Value, e = .returned (v0_) ∧ Kd.R (Kd.int .u8) 5 w' w.heap.size (fun _ => True) v0_ r ∧ Below w.heap.size w w' := by
  unfold wire_Put16.f at h
  split at h
  · refine GW.wire_Put16.calls A0 c0 l0 a1 r w hr0 hc0 ?_
    unfold GW.wire_Put16.f slices_Clone_byte_byte.f
    rw [if_pos (by omega)]
    simp only [Option.bind_some]
    rw [if_pos (by simp; omega)]
    exact h
  · cases h
def wire_Put32.f (l0 : List Int) (a1 : Int) : Option (List Int) := if l0.length ≤ 140737488355000 then some (put32 l0 a1) else none
theorem wire_Put32.calls (A0 : Option Addr) (c0 : Nat) (l0 : List Int) (a1 : Int) (r : List Int) (w : World) (hr0 : Kd.C (Kd.int .u8) w A0 l0.length l0) (hc0 : l0.length ≤ c0) (h : wire_Put32.f l0 a1 = some r) :
    Calls Try.prog 45 #[.slice A0 l0.length c0, .int .u32 a1] w fun e w' => ∃ v0_ : Value, e = .returned (v0_) ∧ Kd.R (Kd.int .u8) 5 w' w.heap.size (fun _ => True) v0_ r ∧ Below w.heap.size w w' := by
  unfold wire_Put32.f at h
  split at h
  · refine GW.wire_Put32.calls A0 c0 l0 a1 r w hr0 hc0 ?_
    unfold GW.wire_Put32.f slices_Clone_byte_byte.f
    rw [if_pos (by omega)]
    simp only [Option.bind_some]
    rw [if_pos (by simp; omega)]
    exact h
  · cases h
theorem letters_inj : ∀ {xs ys : List Int}, Bytes xs → Bytes ys → (xs.map fun n => UInt8.ofNat n.toNat) = (ys.map fun n => UInt8.ofNat n.toNat) → xs = ys
  | [], [], _, _, _ => rfl
  | [], _ :: _, _, _, h => by simp at h
  | _ :: _, [], _, _, h => by simp at h
  | x :: xs, y :: ys, hx, hy, h => by
    simp only [List.map_cons, List.cons.injEq] at h
    obtain ⟨h1, h2⟩ := h
    have bx := hx x List.mem_cons_self
    have by' := hy y List.mem_cons_self
    have e : x = y := by
      have := congrArg UInt8.toNat h1
      simp only [UInt8.toNat_ofNat'] at this
      omega
    rw [e, letters_inj (fun c hc => hx c (List.mem_cons_of_mem _ hc)) (fun c hc => hy c (List.mem_cons_of_mem _ hc)) h2]
theorem toList_str (xs : List Int) : (strOfNums xs).toList = xs.map fun n => UInt8.ofNat n.toNat := by
  rw [ByteArray.toList_eq]
  exact strOfNums_data xs
theorem str_eq {xs ys : List Int} (hx : Bytes xs) (hy : Bytes ys) : ((strOfNums xs).toList == (strOfNums ys).toList) = decide (xs = ys) := by
  rw [toList_str, toList_str]
  by_cases h : xs = ys
  · subst h
    simp
  · rw [decide_eq_false h, beq_eq_false_iff_ne]
    exact fun e => h (letters_inj hx hy e)
def stockaderef01_Same.f (l0 l1 : List Int) : Option Bool := if okB l0 = true ∧ okB l1 = true then some (decide (l0 = l1)) else none
theorem stockaderef01_Same.calls (A0 : Option Addr) (c0 : Nat) (l0 : List Int) (A1 : Option Addr) (c1 : Nat) (l1 : List Int) (r : Bool) (w : World) (hr0 : Kd.C (Kd.int .u8) w A0 l0.length l0) (hc0 : l0.length ≤ c0) (hr1 : Kd.C (Kd.int .u8) w A1 l1.length l1) (hc1 : l1.length ≤ c1) (h : stockaderef01_Same.f l0 l1 = some r) :
    Calls Try.prog 46 #[.slice A0 l0.length c0, .slice A1 l1.length c1] w fun e w' => e = .returned (.bool r) ∧ Drawn0 w w' := by
  unfold stockaderef01_Same.f at h
  split at h
  · rename_i hh
    refine GW.stockaderef01_Same.calls A0 c0 l0 A1 c1 l1 r w hr0 hc0 hr1 hc1 ?_
    unfold GW.stockaderef01_Same.f
    rw [str_eq (okB_iff.1 hh.1) (okB_iff.1 hh.2)]
    exact h
  · cases h
end Go.Proofs.Ytgifcmbknkjemaa.Own
end
section
namespace Go.Proofs.Ytgifcmbknkjemaa.Own
open Go Go.RowKit Go.ChangeShapes Go.WideShapes Go.Deep Go.Proofs.YtgifcmbknkjemaaW.PrintWords
set_option linter.unusedVariables false
set_option linter.unusedSimpArgs false
theorem bytes_of_wf {l : List Int} (h : ∀ x ∈ l, (Lit.int .u8 x).wf = true) : Bytes l := fun c hc => by
  have := h c hc
  simp [Lit.wf, IntKind.min, IntKind.max, IntKind.signed, IntKind.bits] at this
  omega
theorem i64_of_wf {n : Int} (h : (Lit.int .i64 n).wf = true) : -9223372036854775808 ≤ n ∧ n ≤ 9223372036854775807 := by
  simp [Lit.wf, IntKind.min, IntKind.max, IntKind.signed, IntKind.bits] at h
  omega
theorem u64_of_wf {n : Int} (h : (Lit.int .u64 n).wf = true) : 0 ≤ n ∧ n ≤ 18446744073709551615 := by
  simp [Lit.wf, IntKind.min, IntKind.max, IntKind.signed, IntKind.bits] at h
  omega
theorem u32_of_wf {n : Int} (h : (Lit.int .u32 n).wf = true) : 0 ≤ n ∧ n ≤ 4294967295 := by
  simp [Lit.wf, IntKind.min, IntKind.max, IntKind.signed, IntKind.bits] at h
  omega
theorem opens27 : Opens 27 (Kd.slice 5 (Kd.int .u8)) (fun l => Bytes l ∧ l.length ≤ 140737488351232) :=
  (Opens.slice Try.underlying27 (Opens.int Try.underlying5) (by kernel_rfl) (B := 1) (by kernel_rfl)).imp fun l h => ⟨bytes_of_wf h.2, by have := h.1; omega⟩
section
variable {H : Type} {enc : TypeId × Value → H} {W : World} {ts : List TypeId} {ds : List (DataW H)} {j : Nat} {v : Value} {dd : DataW H} {p : List MemPlace} {r : Reach} {b0 : Nat}
set_option maxRecDepth 100000 in
theorem par_struct {t : TypeId} {fs : Array Field} {α : Type} {d : Kd α} {good : α → Prop} (hu : Try.prog.underlying t = some (.struct fs)) (ho : Opens t d good) (hval : Value.okWide Try.prog W r b0 t v)
    (hsz : (DataW.weightsEach Try.prog ts ds).all (· ≤ reachBytes) = true) (ht : ts[j]? = some t) (hd : ds[j]? = some dd) (h : DataW.Trod enc Try.prog W 0 (fun _ => true) true t v dd p) :
    ∃ (cs : List Value) (a : α), v = .agg cs.toArray ∧ d.K W a cs ∧ good a := by
  obtain ⟨cs, rfl, hsz'⟩ := okWide_struct hu hval
  obtain ⟨a, hK, hg⟩ := open_par ho hsz ht hd h
  exact ⟨cs.toList, a, by simp, by simpa [Value.cells] using hK, hg⟩
end
end Go.Proofs.Ytgifcmbknkjemaa.Own
end
section
namespace Go.Proofs.Ytgifcmbknkjemaa.LA
open Go.RowKit Go.Proofs.YtgifcmbknkjemaaW.PrintWords Go.Proofs.YtgifcmbknkjemaaW.PrintLast Go.Proofs.YtgifcmbknkjemaaW.PrintMore Go.Proofs.Ytgifcmbknkjemaa.Own
attribute [local go_sem] max2_int min2_int max_two min_two max_three min_three max_four min_four   -- for this text's walks alone
set_option linter.unusedVariables false
set_option linter.unusedSimpArgs false
def errW : Option Int → Value
  | none => .nilIface
  | some c => .iface 0 (.int .i64 c)
theorem errW_none : errW none = .nilIface := rfl
theorem errW_some (c : Int) : errW (some c) = .iface 0 (.int .i64 c) := rfl
theorem info5 : (Try.prog.info? 5).map (fun i => (i.zero, i.size, i.bytes)) = some (some (.int .u8 0), 1, 1) := by kernel_rfl
end Go.Proofs.Ytgifcmbknkjemaa.LA
end
