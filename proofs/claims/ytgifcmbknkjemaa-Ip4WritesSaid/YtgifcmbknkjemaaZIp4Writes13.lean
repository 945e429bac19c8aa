/- What the law Ip4Writes rests on, part 13: contracts of the functions that it calls, and plain lemmas. No condition. -/
import Derived.Test.YtgifcmbknkjemaaZIp4Writes12
section
namespace Go.Proofs.Ytgifcmbknkjemaa.Own
open Go Go.RowKit Go.Proofs.YtgifcmbknkjemaaW.PrintWords Go.Proofs.YtgifcmbknkjemaaW.PrintLast Go.Proofs.YtgifcmbknkjemaaW.PrintMore
set_option linter.unusedVariables false
set_option linter.unusedSimpArgs false
theorem SameB_at {A B : Option Addr} {ca cb na nb : Nat} {x y : List Int} {w : World} (ha : (Kd.int .u8).C w A na x) (hb : (Kd.int .u8).C w B nb y) (hx : Bytes x) (hy : Bytes y) (hca : na ≤ ca) (hcb : nb ≤ cb) :
    Calls Try.prog 46 #[.slice A na ca, .slice B nb cb] w fun e w' => e = .returned (.bool (decide (x = y))) ∧ Below w.heap.size w w' := by
  have h1 : x.length = na := ha.1
  have h2 : y.length = nb := hb.1
  subst h1
  subst h2
  refine (stockaderef01_Same.calls A ca x B cb y (decide (x = y)) w ha hca hb hcb ?_).mono fun e w' h => ⟨h.1, h.2.below⟩
  unfold stockaderef01_Same.f
  rw [if_pos ⟨okB_iff.2 hx, okB_iff.2 hy⟩]
theorem size_alloc' (w : World) (o : Obj) : (w.alloc o).heap.size = w.heap.size + 1 := by simp
def be (l : List Int) : Int := l.foldl (fun a c => a * 256 + c) 0
theorem be_snoc (l : List Int) (c : Int) : be (l ++ [c]) = be l * 256 + c := by simp [be, List.foldl_append]
theorem fold_be (l : List Int) : ∀ a : Int, l.foldl (fun a c => a * 256 + c) a = a * (256 : Int) ^ l.length + be l := by
  induction l with
  | nil => intro a; simp [be]
  | cons x l ih =>
    intro a
    simp only [List.foldl_cons, be, List.length_cons]
    rw [ih, ih (0 * 256 + x), Int.pow_succ]
    have : (a * 256 + x) * (256 : Int) ^ l.length = a * ((256 : Int) ^ l.length * 256) + x * (256 : Int) ^ l.length := by
      rw [Int.add_mul, Int.mul_assoc, Int.mul_comm 256]
    rw [this, Int.zero_mul, Int.zero_add, Int.add_assoc]
theorem be_cons (x : Int) (l : List Int) : be (x :: l) = x * (256 : Int) ^ l.length + be l := by
  have := fold_be l (0 * 256 + x)
  simp only [be, List.foldl_cons]
  rw [this, Int.zero_mul, Int.zero_add]
  rfl
theorem be_bounds (l : List Int) (hb : Bytes l) : 0 ≤ be l ∧ be l < (256 : Int) ^ l.length := by
  induction l with
  | nil => simp [be]
  | cons x l ih =>
    have h1 := ih (fun y hy => hb y (List.mem_cons_of_mem _ hy))
    have h2 := hb x List.mem_cons_self
    rw [be_cons, List.length_cons, Int.pow_succ]
    generalize (256 : Int) ^ l.length = P at *
    have h3 : x * P ≤ 255 * P := Int.mul_le_mul_of_nonneg_right h2.2 (by omega)
    have h4 : 0 ≤ x * P := Int.mul_nonneg h2.1 (by omega)
    omega
theorem pw_pos (n : Nat) : (0 : Int) < 256 ^ n := by
  induction n with
  | zero => decide
  | succ n ih => rw [Int.pow_succ]; omega
theorem pw_le {a b : Nat} (h : a ≤ b) : (256 : Int) ^ a ≤ 256 ^ b := by
  obtain ⟨d, rfl⟩ := Nat.exists_eq_add_of_le h
  induction d with
  | zero => exact Int.le_refl _
  | succ d ih =>
    have h1 := ih (by omega)
    have h2 := pw_pos (a + d)
    rw [show a + (d + 1) = (a + d) + 1 by omega, Int.pow_succ]
    omega
theorem take_rd {l : List Int} {i : Nat} (h : i < l.length) : l.take (i + 1) = l.take i ++ [rd l (i : Int)] := by
  rw [List.take_succ_eq_append_getElem h]
  simp [rd, List.getD_eq_getElem?_getD, List.getElem?_eq_getElem h]
theorem shl8 (x c : Int) (h0 : 0 ≤ x) (hc0 : 0 ≤ c) (hc1 : c ≤ 255) : Go.bits .or .u64 (IntKind.u64.wrap (x * 256)) (IntKind.u64.wrap c) = (x * 256) % 18446744073709551616 + c := by
  have e1 : IntKind.u64.wrap (x * 256) = (x * 256) % 18446744073709551616 := IntKind.wrap_u64 _
  have e2 : IntKind.u64.wrap c = c := by rw [IntKind.wrap_u64]; omega
  rw [e1, e2]
  exact bits_join .u64 64 (by decide) (fun n h0 h1 => by rw [IntKind.wrap_u64]; omega) 8 _ c (by omega) (by omega) (by omega) hc0 (by omega) (by omega)
def fromA (l : List Int) : Int × Int × Int × Int := if l.length = 4 then (4, 0, be l, 0) else if l.length = 16 then (6, be (l.take 8), be (l.drop 8), 0) else (0, 0, 0, 1)
theorem from16 (l : List Int) (hb : Bytes l) (hl : l.length = 16) (d : Nat) : ∀ i : Nat, i + d = 16 → Ev (fun k => GA.addr_From.l0 k l l 16 i 6 (be (l.take (min i 8))) (be ((l.take i).drop 8))) (6, be (l.take 8), be (l.drop 8), 0) := by
  induction d with
  | zero =>
    intro i hi
    obtain rfl : i = 16 := by omega
    refine Ev.step (fun k => ?_) (Ev.now _)
    simp only [GA.addr_From.l0]
    rw [if_neg (by omega), List.take_of_length_le (l := l) (i := 16) (by omega)]
    rfl
  | succ d ih =>
    intro i hi
    have hr := rd_byte hb (i : Int)
    have hm := be_bounds (l.take (min i 8)) (fun y hy => hb y (List.mem_of_mem_take hy))
    have hd := be_bounds ((l.take i).drop 8) (fun y hy => hb y (List.mem_of_mem_take (List.mem_of_mem_drop hy)))
    have h1 := ih (i + 1) (by omega)
    refine Ev.step (fun k => ?_) h1
    simp only [GA.addr_From.l0]
    rw [if_pos (by omega), if_pos (by omega), if_pos (by omega), hl, w64 ((16 : Nat) - 8 : Int) (by omega) (by omega), w64 ((i : Int) + 1) (by omega) (by omega)]
    rw [List.length_take] at hm
    rw [List.length_drop, List.length_take] at hd
    have hT := take_rd (l := l) (i := i) (by omega)
    by_cases h8 : i < 8
    · rw [if_pos (by omega), shl8 _ _ hm.1 hr.1 hr.2]
      have e1 : min (i + 1) 8 = i + 1 := by omega
      have e2 : min i 8 = i := by omega
      have e3 : (l.take (i + 1)).drop 8 = [] := List.drop_eq_nil_of_le (by rw [List.length_take]; omega)
      have e4 : (l.take i).drop 8 = [] := List.drop_eq_nil_of_le (by rw [List.length_take]; omega)
      rw [e2] at hm ⊢
      rw [e1, e3, e4, hT, be_snoc]
      have hp : (256 : Int) ^ min i l.length ≤ 256 ^ 7 := pw_le (by omega)
      rw [Int.emod_eq_of_lt (by omega) (by omega)]
      rfl
    · rw [if_neg (by omega), shl8 _ _ hd.1 hr.1 hr.2]
      have e1 : min (i + 1) 8 = 8 := by omega
      have e2 : min i 8 = 8 := by omega
      have e3 : (l.take (i + 1)).drop 8 = (l.take i).drop 8 ++ [rd l (i : Int)] := by
        rw [hT, List.drop_append_of_le_length (by rw [List.length_take]; omega)]
      rw [e1, e2, e3, be_snoc]
      have hp : (256 : Int) ^ (min i l.length - 8) ≤ 256 ^ 7 := pw_le (by omega)
      rw [Int.emod_eq_of_lt (by omega) (by omega)]
      rfl
theorem from4 (l : List Int) (hb : Bytes l) (hl : l.length = 4) (d : Nat) : ∀ i : Nat, i + d = 4 → Ev (fun k => GA.addr_From.l0 k l l 4 i 4 0 (be (l.take i))) (4, 0, be l, 0) := by
  induction d with
  | zero =>
    intro i hi
    obtain rfl : i = 4 := by omega
    refine Ev.step (fun k => ?_) (Ev.now _)
    simp only [GA.addr_From.l0]
    rw [if_neg (by omega), List.take_of_length_le (by omega)]
  | succ d ih =>
    intro i hi
    have hr := rd_byte hb (i : Int)
    have hm := be_bounds (l.take i) (fun y hy => hb y (List.mem_of_mem_take hy))
    have h1 := ih (i + 1) (by omega)
    refine Ev.step (fun k => ?_) h1
    simp only [GA.addr_From.l0]
    rw [if_pos (by omega), if_pos (by omega), if_pos (by omega), hl, w64 ((4 : Nat) - 8 : Int) (by omega) (by omega), w64 ((i : Int) + 1) (by omega) (by omega)]
    rw [List.length_take] at hm
    rw [if_neg (by omega), shl8 _ _ hm.1 hr.1 hr.2, take_rd (l := l) (i := i) (by omega), be_snoc]
    have hp : (256 : Int) ^ min i l.length ≤ 256 ^ 3 := pw_le (by omega)
    rw [Int.emod_eq_of_lt (by omega) (by omega)]
    rfl
theorem From_at {A : Option Addr} {c n : Nat} {l : List Int} {w : World} (hr : (Kd.int .u8).C w A n l) (hc : n ≤ c) (hb : Bytes l) :
    Calls Try.prog 102 #[.slice A n c] w fun e w' => e = .returned (.tuple #[.agg #[.int .i64 (fromA l).1, .int .u64 (fromA l).2.1, .int .u64 (fromA l).2.2.1], .int .i64 (fromA l).2.2.2]) ∧ Below w.heap.size w w' := by
  have hn : l.length = n := hr.1
  subst hn
  have hev : ∃ k, GA.addr_From.f k l = some (fromA l) := by
    unfold GA.addr_From.f fromA
    by_cases h4 : l.length = 4
    · obtain ⟨k, hk⟩ := (from4 l hb h4 4 0 (by omega)).rounds
      refine ⟨k + 1, ?_⟩
      rw [if_pos (by omega), if_pos h4]
      simp only [GA.addr_From.j0]
      rw [h4]
      exact hk
    · by_cases h16 : l.length = 16
      · obtain ⟨k, hk⟩ := (from16 l hb h16 16 0 (by omega)).rounds
        refine ⟨k + 1, ?_⟩
        rw [if_neg (by omega), if_pos (by omega), if_neg h4, if_pos h16]
        simp only [GA.addr_From.j0]
        rw [h16]
        exact hk
      · exact ⟨0, by rw [if_neg (by omega), if_neg (by omega), if_neg h4, if_neg h16]⟩
  obtain ⟨k, hk⟩ := hev
  exact GA.addr_From.calls k A c l _ _ _ _ w hr hc hk
structure IpV where
  fam : Int
  src : Int × Int × Int
  dst : Int × Int × Int
  proto : Int
  hop : Int
  frag : Bool
  id : Int
  off : Int
  more : Bool
  exts : List Int
  data : List Int
def zeroV : IpV := ⟨0, (0, 0, 0), (0, 0, 0), 0, 0, false, 0, 0, false, [], []⟩
def ipCells (p : IpV) (vE vD : Value) : Array Value :=
  #[.int .i64 p.fam, .int .i64 p.src.1, .int .u64 p.src.2.1, .int .u64 p.src.2.2, .int .i64 p.dst.1, .int .u64 p.dst.2.1, .int .u64 p.dst.2.2, .int .i64 p.proto, .int .i64 p.hop, .bool p.frag, .int .u32 p.id, .int .i64 p.off, .bool p.more, vE, vD]
theorem ipCells_one (p : IpV) (A B : Option Addr) (n c m d : Nat) : (ipCells p (.slice A n c) (.slice B m d)).all (·.oneCell') = true := by simp [ipCells, Value.oneCell']
def addrOf (l : List Int) : Int × Int × Int := ((fromA l).1, (fromA l).2.1, (fromA l).2.2.1)
def IpPost (w : World) (r : IpV × Int) (e : Ending) (w' : World) : Prop :=
  ∃ vE vD : Value, e = .returned (.tuple #[.agg (ipCells r.1 vE vD), .int .i64 r.2]) ∧ Kd.R (Kd.int .i64) 3 w' w.heap.size (fun _ => True) vE r.1.exts ∧ Kd.R (Kd.int .u8) 5 w' w.heap.size (fun _ => True) vD r.1.data ∧ Below w.heap.size w w'
end Go.Proofs.Ytgifcmbknkjemaa.Own
end
section
namespace Go.Proofs.Ytgifcmbknkjemaa.Own
open Go Go.RowKit Go.Proofs.YtgifcmbknkjemaaW.PrintWords Go.Proofs.YtgifcmbknkjemaaW.PrintLast Go.Proofs.YtgifcmbknkjemaaW.PrintMore
set_option linter.unusedVariables false
set_option linter.unusedSimpArgs false
theorem rd_app {a b : List Int} {i : Int} (h0 : 0 ≤ i) (h : i < a.length) : rd (a ++ b) i = rd a i := by
  unfold rd
  rw [List.getD_eq_getElem?_getD, List.getD_eq_getElem?_getD, List.getElem?_append_left (by omega)]
theorem u16_app {a b : List Int} {i : Int} (h0 : 0 ≤ i) (h : i + 1 < a.length) : u16 (a ++ b) i = u16 a i := by
  unfold u16
  rw [rd_app h0 (by omega), rd_app (by omega) (by omega)]
theorem mid_app {a b : List Int} {o m : Nat} (h : o + m ≤ a.length) : ((a ++ b).drop o).take m = (a.drop o).take m := by
  rw [List.drop_append_of_le_length (by omega), List.take_append_of_le_length (by rw [List.length_drop]; omega)]
end Go.Proofs.Ytgifcmbknkjemaa.Own
end
section
namespace Go.Proofs.Ytgifcmbknkjemaa.Own
open Go Go.RowKit Go.Proofs.YtgifcmbknkjemaaW.PrintWords Go.Proofs.YtgifcmbknkjemaaW.PrintLast
set_option linter.unusedVariables false
def rightA (a : Int × Int × Int) : Bool := decide (a.1 = 6) || (decide (a.1 = 4) && decide (a.2.1 = 0) && decide (a.2.2 < 4294967296))
def d4 (x : Int) : List Int := [x / 16777216 % 256, x / 65536 % 256, x / 256 % 256, x % 256]
def d8 (x : Int) : List Int := [x / 72057594037927936 % 256, x / 281474976710656 % 256, x / 1099511627776 % 256, x / 4294967296 % 256, x / 16777216 % 256, x / 65536 % 256, x / 256 % 256, x % 256]
def bytesA (a : Int × Int × Int) : List Int := if rightA a = true then (if a.1 = 4 then d4 a.2.2 else d8 a.2.1 ++ d8 a.2.2) else []
def W64 (x : Int) : Prop := 0 ≤ x ∧ x < 18446744073709551616
def okA (a : Int × Int × Int) : Prop := W64 a.2.1 ∧ W64 a.2.2
theorem be_d4 (x : Int) (h0 : 0 ≤ x) (h1 : x < 4294967296) : be (d4 x) = x := by
  simp only [be, d4, List.foldl_cons, List.foldl_nil]
  omega
theorem bytes_d4 (x : Int) : Bytes (d4 x) := fun c hc => by
  simp [d4] at hc
  omega
theorem bytes_d8 (x : Int) : Bytes (d8 x) := fun c hc => by
  simp [d8] at hc
  omega
theorem bytes_bytesA (a : Int × Int × Int) : Bytes (bytesA a) := by
  unfold bytesA
  split
  · split
    · exact bytes_d4 _
    · exact bytes_append (bytes_d8 _) (bytes_d8 _)
  · intro c hc; cases hc
theorem bytesA_four {a : Int × Int × Int} (h : rightA a = true) (h4 : a.1 = 4) : bytesA a = d4 a.2.2 := by unfold bytesA; rw [if_pos h, if_pos h4]
theorem fromA_four {a : Int × Int × Int} (h : rightA a = true) (h4 : a.1 = 4) (ha : okA a) : addrOf (bytesA a) = a := by
  obtain ⟨f, x, y⟩ := a
  rw [bytesA_four h h4]
  simp only at h4
  subst h4
  simp [rightA] at h
  obtain ⟨h1, h2⟩ := h
  subst h1
  have e : fromA (d4 y) = (4, 0, y, 0) := by unfold fromA; rw [if_pos (show (d4 y).length = 4 from rfl), be_d4 y ha.2.1 h2]
  unfold addrOf
  simp only [e]
def opt4 : Nat → List Int → Int
  | 0, _ => 0
  | k + 1, l =>
    if l.length = 0 then 0
    else if rd l 0 = 0 then 0
    else if rd l 0 = 1 then opt4 k (l.drop 1)
    else if rd l 0 = 131 ∨ rd l 0 = 137 then 8
    else if l.length < 2 ∨ rd l 1 < 2 ∨ (l.length : Int) < rd l 1 then 7
    else opt4 k (l.drop (rd l 1).toNat)
def parse4 (b : List Int) : IpV × Int :=
  if b.length < 20 then (zeroV, 2)
  else if rd b 0 / 16 ≠ 4 then (zeroV, 3)
  else if rd b 0 % 16 * 4 < 20 ∨ (b.length : Int) < rd b 0 % 16 * 4 then (zeroV, 4)
  else if u16 b 2 < rd b 0 % 16 * 4 ∨ (b.length : Int) < u16 b 2 then (zeroV, 5)
  else if sumOf [b.take (rd b 0 % 16 * 4).toNat] ≠ 65535 then (zeroV, 6)
  else if rd b 8 = 0 then (zeroV, 26)
  else if 128 ≤ rd b 6 then (zeroV, 10)
  else if opt4 60 ((b.take (rd b 0 % 16 * 4).toNat).drop 20) ≠ 0 then (zeroV, opt4 60 ((b.take (rd b 0 % 16 * 4).toNat).drop 20))
  else if u16 b 6 / 8192 % 2 = 1 ∧ (u16 b 2 - rd b 0 % 16 * 4) % 8 ≠ 0 then (zeroV, 5)
  else if 65515 < u16 b 6 % 8192 * 8 + (u16 b 2 - rd b 0 % 16 * 4) then (zeroV, 11)
  else if u16 b 6 / 8192 % 2 = 1 ∨ 0 < u16 b 6 % 8192 then
    (⟨4, addrOf ((b.drop 12).take 4), addrOf ((b.drop 16).take 4), rd b 9, rd b 8, true, u16 b 4, u16 b 6 % 8192 * 8, decide (u16 b 6 / 8192 % 2 = 1), [], (b.take (u16 b 2).toNat).drop (rd b 0 % 16 * 4).toNat⟩, 0)
  else (⟨4, addrOf ((b.drop 12).take 4), addrOf ((b.drop 16).take 4), rd b 9, rd b 8, false, 0, 0, false, [], (b.take (u16 b 2).toNat).drop (rd b 0 % 16 * 4).toNat⟩, 0)
def four (a : Int × Int × Int) : Bool := decide (a.1 = 4) && rightA a
def may4 (p : IpV) : Bool :=
  decide (p.fam = 4) && four p.src && four p.dst && decide (p.exts.length = 0) && decide (0 ≤ p.proto ∧ p.proto ≤ 255) && decide (1 ≤ p.hop ∧ p.hop ≤ 255) && decide (p.id ≤ 65535)
    && decide (p.data.length ≤ 65515) && decide (0 ≤ p.off) && decide (p.off % 8 = 0) && decide (p.off + p.data.length ≤ 65515) && !(p.more && decide (p.data.length % 8 ≠ 0)) && (!p.frag || p.more || decide (0 < p.off))
def bare4 (p : IpV) : IpV := if p.frag = true then p else { p with id := 0, off := 0, more := false }
def head4 (p : IpV) : List Int := put16 (put16 (put16 [69, 0] (20 + p.data.length)) (if p.frag = true then p.id else 0)) (if p.frag = true then p.off / 8 + (if p.more = true then 8192 else 0) else 0) ++ [p.hop % 256, p.proto % 256]
def ends4 (p : IpV) : List Int := bytesA p.src ++ bytesA p.dst
def build4 (p : IpV) : List Int × Int :=
  if may4 p = true then (put16 (head4 p) (65535 - sumOf [head4 p, ends4 p]) ++ ends4 p ++ p.data, 0) else ([], 1)
end Go.Proofs.Ytgifcmbknkjemaa.Own
end
section
namespace Go.Proofs.Ytgifcmbknkjemaa.Own
open Go Go.RowKit Go.Proofs.YtgifcmbknkjemaaW.PrintWords Go.Proofs.YtgifcmbknkjemaaW.PrintLast
set_option linter.unusedVariables false
set_option linter.unusedSimpArgs false
def IpOk (p : IpV) : Prop := 0 ≤ p.id ∧ p.id ≤ 4294967295 ∧ okA p.src ∧ okA p.dst ∧ Bytes p.data
theorem take_app {a b : List Int} {m : Nat} (h : m ≤ a.length) : (a ++ b).take m = a.take m := List.take_append_of_le_length h
def H20 (p : IpV) : List Int :=
  let c := 65535 - sumOf [head4 p, ends4 p]
  let i := if p.frag = true then p.id else 0
  let o := if p.frag = true then p.off / 8 + (if p.more = true then 8192 else 0) else 0
  [69, 0, (20 + p.data.length) / 256 % 256, (20 + p.data.length) % 256, i / 256 % 256, i % 256, o / 256 % 256, o % 256, p.hop % 256, p.proto % 256, c / 256 % 256, c % 256,
    p.src.2.2 / 16777216 % 256, p.src.2.2 / 65536 % 256, p.src.2.2 / 256 % 256, p.src.2.2 % 256, p.dst.2.2 / 16777216 % 256, p.dst.2.2 / 65536 % 256, p.dst.2.2 / 256 % 256, p.dst.2.2 % 256]
structure May4 (p : IpV) : Prop where
  fam : p.fam = 4
  src : p.src.1 = 4
  srcR : rightA p.src = true
  dst : p.dst.1 = 4
  dstR : rightA p.dst = true
  exts : p.exts = []
  proto : 0 ≤ p.proto ∧ p.proto ≤ 255
  hop : 1 ≤ p.hop ∧ p.hop ≤ 255
  id : p.id ≤ 65535
  len : p.data.length ≤ 65515
  off : 0 ≤ p.off ∧ p.off % 8 = 0 ∧ p.off + p.data.length ≤ 65515
  more : p.more = true → p.data.length % 8 = 0
  frag : p.frag = true → p.more = true ∨ 0 < p.off
theorem may4_has {p : IpV} (h : may4 p = true) : May4 p := by
  simp only [may4, four, Bool.and_eq_true, decide_eq_true_eq] at h
  obtain ⟨⟨⟨⟨⟨⟨⟨⟨⟨⟨⟨⟨h1, h2⟩, h3⟩, h4⟩, h5⟩, h6⟩, h7⟩, h8⟩, h9⟩, h10⟩, h11⟩, h12⟩, h13⟩ := h
  refine ⟨h1, h2.1, h2.2, h3.1, h3.2, List.eq_nil_of_length_eq_zero h4, h5, h6, h7, h8, ⟨h9, h10, h11⟩, fun hm => ?_, fun hf => ?_⟩
  · rw [hm] at h12
    simp at h12
    omega
  · rw [hf] at h13
    simpa using h13
theorem build4_is {p : IpV} (h : may4 p = true) : build4 p = (H20 p ++ p.data, 0) := by
  have m := may4_has h
  unfold build4
  rw [if_pos h]
  have e : ends4 p = d4 p.src.2.2 ++ d4 p.dst.2.2 := by unfold ends4; rw [bytesA_four m.srcR m.src, bytesA_four m.dstR m.dst]
  have : put16 (head4 p) (65535 - sumOf [head4 p, ends4 p]) ++ ends4 p = H20 p := by
    unfold H20
    simp only
    generalize sumOf [head4 p, ends4 p] = s
    rw [e]
    rfl
  rw [this]
theorem wsum_H20 (p : IpV) (m : May4 p) (ok : IpOk p) : ∃ S : Int, 0 < S ∧ sumOf [head4 p, ends4 p] = fold S ∧ wsum false (H20 p) = S + (65535 - fold S) := by
  have e : ends4 p = d4 p.src.2.2 ++ d4 p.dst.2.2 := by unfold ends4; rw [bytesA_four m.srcR m.src, bytesA_four m.dstR m.dst]
  refine ⟨wsum false (head4 p ++ (d4 p.src.2.2 ++ d4 p.dst.2.2)), ?_, ?_, ?_⟩
  · unfold head4 put16 d4
    simp only [List.cons_append, List.nil_append, wsum]
    omega
  · unfold sumOf
    rw [e]
    simp
  · have hs : sumOf [head4 p, ends4 p] = fold (wsum false (head4 p ++ (d4 p.src.2.2 ++ d4 p.dst.2.2))) := by unfold sumOf; rw [e]; simp
    unfold H20
    simp only
    rw [hs]
    have hf := fold_bounds (wsum false (head4 p ++ (d4 p.src.2.2 ++ d4 p.dst.2.2)))
    generalize fold (wsum false (head4 p ++ (d4 p.src.2.2 ++ d4 p.dst.2.2))) = c at hf ⊢
    unfold head4 put16 d4
    simp only [List.cons_append, List.nil_append, wsum]
    omega
theorem fold_back (S : Int) (h : 0 < S) : fold (S + (65535 - fold S)) = 65535 := by
  unfold fold
  rw [if_neg (by omega : ¬ S = 0), if_neg (by omega)]
  omega
theorem sum_H20 {p : IpV} (m : May4 p) (ok : IpOk p) : sumOf [H20 p] = 65535 := by
  obtain ⟨S, h0, h1, h2⟩ := wsum_H20 p m ok
  unfold sumOf
  simp only [List.flatten_cons, List.flatten_nil, List.append_nil]
  rw [h2]
  exact fold_back S h0
theorem H20_len (p : IpV) : (H20 p).length = 20 := rfl
theorem bytes_H20 {p : IpV} (m : May4 p) (ok : IpOk p) : Bytes (H20 p) := fun c hc => by
  simp [H20] at hc
  have := m.hop
  have := m.proto
  omega
theorem parse4_build {p : IpV} (hm : may4 p = true) (ok : IpOk p) : parse4 (build4 p).1 = (bare4 p, 0) := by
  have m := may4_has hm
  have hb := bytes_H20 m ok
  have hs := sum_H20 m ok
  have hlen := H20_len p
  have e0 : rd (H20 p) 0 = 69 := rfl
  have e2 : u16 (H20 p) 2 = 20 + p.data.length := by
    show 256 * ((20 + (p.data.length : Int)) / 256 % 256) + (20 + (p.data.length : Int)) % 256 = _
    have := m.len
    omega
  have e8 : rd (H20 p) 8 = p.hop := by show p.hop % 256 = _; have := m.hop; omega
  have e9 : rd (H20 p) 9 = p.proto := by show p.proto % 256 = _; have := m.proto; omega
  have eS : addrOf (((H20 p).drop 12).take 4) = p.src := by
    have := fromA_four m.srcR m.src ok.2.2.1
    rw [bytesA_four m.srcR m.src] at this
    exact this
  have eD : addrOf (((H20 p).drop 16).take 4) = p.dst := by
    have := fromA_four m.dstR m.dst ok.2.2.2.1
    rw [bytesA_four m.dstR m.dst] at this
    exact this
  have hoff := m.off
  have eo : ∃ o, o = (if p.frag = true then p.off / 8 + (if p.more = true then 8192 else 0) else 0) ∧ rd (H20 p) 6 = o / 256 % 256 ∧ u16 (H20 p) 6 = 256 * (o / 256 % 256) + o % 256 := ⟨_, rfl, rfl, rfl⟩
  obtain ⟨o, ho, e6, e6'⟩ := eo
  have ei : ∃ i, i = (if p.frag = true then p.id else 0) ∧ u16 (H20 p) 4 = 256 * (i / 256 % 256) + i % 256 := ⟨_, rfl, rfl⟩
  obtain ⟨i, hi, e4⟩ := ei
  have ho2 : 0 ≤ o ∧ o < 16384 := by
    rw [ho]
    split
    · split <;> omega
    · omega
  have hi2 : 0 ≤ i ∧ i ≤ 65535 := by rw [hi]; have := m.id; have := ok.1; split <;> omega
  have e6'' : u16 (H20 p) 6 = o := by omega
  have e4' : u16 (H20 p) 4 = i := by omega
  rw [build4_is hm]
  unfold parse4
  simp only
  rw [rd_app (by omega) (by omega), u16_app (by omega) (by omega), u16_app (by omega) (by omega), u16_app (by omega) (by omega), rd_app (by omega) (by omega), rd_app (by omega) (by omega), rd_app (by omega) (by omega),
    mid_app (by omega), mid_app (by omega), e0, e2, e8, e9, eS, eD, e6'', e4', List.length_append]
  have q : (69 : Int) % 16 * 4 = 20 := by decide
  rw [q, take_app (by omega), show ((20 : Int)).toNat = 20 from rfl, show (H20 p).take 20 = H20 p from rfl, hs, show (H20 p).drop 20 = [] from rfl]
  have hmh := m.hop
  have e5 : 256 * (o / 256 % 256) + o % 256 = o := by omega
  have hd : ((H20 p ++ p.data).take (20 + (p.data.length : Int)).toNat).drop 20 = p.data := by
    rw [List.take_of_length_le (by rw [List.length_append]; omega)]
    rfl
  rw [hd, if_neg (by omega), if_neg (by omega), if_neg (by omega), if_neg (by omega), if_neg (by omega), if_neg (by omega), if_neg (by omega), if_neg (by simp [opt4])]
  obtain ⟨fam, src, dst, proto, hop, frag, id, off, more, exts, data⟩ := p
  have m1 := m.fam
  have m2 := m.exts
  have m3 := m.more
  have m4 := m.frag
  simp only at m1 m2 m3 m4 ho hi hoff ⊢
  subst m1 m2
  cases frag with
  | false =>
    simp only [Bool.false_eq_true, if_false] at ho hi
    subst ho hi
    rw [if_neg (by omega), if_neg (by omega), if_neg (by omega)]
    rfl
  | true =>
    simp only [if_true] at ho hi
    subst hi
    cases more with
    | false =>
      simp only [Bool.false_eq_true, if_false] at ho
      have h5 := m4 rfl
      simp at h5
      rw [if_neg (by omega), if_neg (by omega), if_pos (by omega)]
      have h6 : o % 8192 * 8 = off := by omega
      have h7 : decide (o / 8192 % 2 = 1) = false := decide_eq_false (by omega)
      rw [h6, h7]
      rfl
    | true =>
      simp only [if_true] at ho
      have h5 := m3 rfl
      rw [if_neg (by omega), if_neg (by omega), if_pos (by omega)]
      have h6 : o % 8192 * 8 = off := by omega
      have h7 : decide (o / 8192 % 2 = 1) = true := decide_eq_true (by omega)
      rw [h6, h7]
      rfl
end Go.Proofs.Ytgifcmbknkjemaa.Own
end
section
namespace Go.Proofs.Ytgifcmbknkjemaa.Own
open Go.RowKit Go.ChangeShapes Go.WideShapes Go.Deep Go.Proofs.YtgifcmbknkjemaaW.PrintWords
set_option linter.unusedVariables false
set_option linter.unusedSimpArgs false
def kdA : Kd (Int × Int × Int) := Kd.pair (Kd.int .i64) (Kd.pair (Kd.int .u64) (Kd.int .u64))
def goodA (a : Int × Int × Int) : Prop := (Lit.int .i64 a.1).wf = true ∧ (Lit.int .u64 a.2.1).wf = true ∧ (Lit.int .u64 a.2.2).wf = true
set_option maxRecDepth 100000 in
theorem opens53 : Opens 53 kdA goodA :=
  Opens.struct (d := kdA) Try.underlying53 (by kernel_rfl) (OpensFs.cons rfl (by kernel_rfl) (Opens.int (by kernel_rfl)) (OpensFs.cons rfl (by kernel_rfl) (Opens.int (by kernel_rfl)) (OpensFs.one rfl (by kernel_rfl) (Opens.int (by kernel_rfl)))))
def kdIp0 : Kd (Int × (Int × Int × Int) × (Int × Int × Int) × Int × Int × Bool × Int × Int × Bool × List Int × List Int) :=
  Kd.pair (Kd.int .i64) (Kd.pair kdA (Kd.pair kdA (Kd.pair (Kd.int .i64) (Kd.pair (Kd.int .i64) (Kd.pair Kd.bool (Kd.pair (Kd.int .u32) (Kd.pair (Kd.int .i64) (Kd.pair Kd.bool (Kd.pair (Kd.slice 3 (Kd.int .i64)) (Kd.slice 5 (Kd.int .u8)))))))))))
def ipTup (p : IpV) : Int × (Int × Int × Int) × (Int × Int × Int) × Int × Int × Bool × Int × Int × Bool × List Int × List Int := (p.fam, p.src, p.dst, p.proto, p.hop, p.frag, p.id, p.off, p.more, p.exts, p.data)
def tupIp (t : Int × (Int × Int × Int) × (Int × Int × Int) × Int × Int × Bool × Int × Int × Bool × List Int × List Int) : IpV := ⟨t.1, t.2.1, t.2.2.1, t.2.2.2.1, t.2.2.2.2.1, t.2.2.2.2.2.1, t.2.2.2.2.2.2.1, t.2.2.2.2.2.2.2.1, t.2.2.2.2.2.2.2.2.1, t.2.2.2.2.2.2.2.2.2.1, t.2.2.2.2.2.2.2.2.2.2⟩
def kdIp : Kd IpV := Kd.iso kdIp0 ipTup
structure GoodIp (p : IpV) : Prop where
  ok : IpOk p
  exts : p.exts.length * 8 ≤ 140737488351232
  data : p.data.length ≤ 140737488351232
  off : -9223372036854775808 ≤ p.off ∧ p.off ≤ 9223372036854775807
  fam : -9223372036854775808 ≤ p.fam ∧ p.fam ≤ 9223372036854775807
  proto : -9223372036854775808 ≤ p.proto ∧ p.proto ≤ 9223372036854775807
  hop : -9223372036854775808 ≤ p.hop ∧ p.hop ≤ 9223372036854775807
set_option maxRecDepth 100000 in
theorem opens43 : Opens 43 (Kd.slice 3 (Kd.int .i64)) (fun l => l.length * 8 ≤ 140737488351232 ∧ ∀ a ∈ l, (Lit.int .i64 a).wf = true) :=
  Opens.slice (by kernel_rfl) (Opens.int (by kernel_rfl)) (by kernel_rfl) (by kernel_rfl)
set_option maxRecDepth 100000 in
theorem opens55 : Opens 55 kdIp GoodIp :=
  ((Opens.struct (d := kdIp0) Try.underlying55 (by kernel_rfl) (OpensFs.cons rfl (by kernel_rfl) (Opens.int (k := .i64) (by kernel_rfl)) (OpensFs.cons rfl (by kernel_rfl) opens53 (OpensFs.cons rfl (by kernel_rfl) opens53
    (OpensFs.cons rfl (by kernel_rfl) (Opens.int (k := .i64) (by kernel_rfl)) (OpensFs.cons rfl (by kernel_rfl) (Opens.int (k := .i64) (by kernel_rfl)) (OpensFs.cons rfl (by kernel_rfl) (Opens.bool (by kernel_rfl)) (OpensFs.cons rfl (by kernel_rfl) (Opens.int (k := .u32) (by kernel_rfl))
    (OpensFs.cons rfl (by kernel_rfl) (Opens.int (k := .i64) (by kernel_rfl)) (OpensFs.cons rfl (by kernel_rfl) (Opens.bool (by kernel_rfl)) (OpensFs.cons rfl (by kernel_rfl) opens43 (OpensFs.one rfl (by kernel_rfl) opens27)))))))))))).iso ipTup tupIp (fun _ => rfl)).imp fun p h => by
    obtain ⟨h0, h1, h2, h3, h4, _, h6, h7, _, h9, h10⟩ := h
    have u6 := u32_of_wf h6
    have a1 := u64_of_wf h1.2.1
    have a2 := u64_of_wf h1.2.2
    have b1 := u64_of_wf h2.2.1
    have b2 := u64_of_wf h2.2.2
    exact ⟨⟨u6.1, u6.2, ⟨⟨a1.1, by have := a1.2; exact Int.lt_add_one_of_le this⟩, ⟨a2.1, by have := a2.2; exact Int.lt_add_one_of_le this⟩⟩, ⟨⟨b1.1, by have := b1.2; exact Int.lt_add_one_of_le this⟩, ⟨b2.1, by have := b2.2; exact Int.lt_add_one_of_le this⟩⟩, h10.1⟩, h9.1, h10.2, i64_of_wf h7, i64_of_wf h0, i64_of_wf h3, i64_of_wf h4⟩
theorem kdA_cells {w : World} {a : Int × Int × Int} {cs : List Value} (h : kdA.K w a cs) : cs = [.int .i64 a.1, .int .u64 a.2.1, .int .u64 a.2.2] := by
  obtain ⟨c0, c1, rfl, h0, c2, c3, rfl, h2, h3⟩ := h
  rw [show c0 = _ from h0, show c2 = _ from h2, show c3 = _ from h3]
  rfl
theorem kdIp_cells {w : World} {p : IpV} {cs : List Value} (h : kdIp.K w p cs) : ∃ (Ae Ad : Option Addr) (ce cd : Nat), cs.toArray = ipCells p (.slice Ae p.exts.length ce) (.slice Ad p.data.length cd) ∧ p.exts.length ≤ ce ∧ p.data.length ≤ cd ∧ (Kd.int .i64).C w Ae p.exts.length p.exts ∧ (Kd.int .u8).C w Ad p.data.length p.data := by
  obtain ⟨c0, r0, rfl, h0, c1, r1, rfl, h1, c2, r2, rfl, h2, c3, r3, rfl, h3, c4, r4, rfl, h4, c5, r5, rfl, h5, c6, r6, rfl, h6, c7, r7, rfl, h7, c8, r8, rfl, h8, c9, c10, rfl, ⟨Ae, ce, h9, le, he⟩, ⟨Ad, cd, h10, ld, hd⟩⟩ := h
  refine ⟨Ae, Ad, ce, cd, ?_, le, ld, he, hd⟩
  rw [kdA_cells h1, kdA_cells h2, show c0 = _ from h0, show c3 = _ from h3, show c4 = _ from h4, show c5 = _ from h5, show c6 = _ from h6, show c7 = _ from h7, show c8 = _ from h8, h9, h10]
  rfl
end Go.Proofs.Ytgifcmbknkjemaa.Own
end
