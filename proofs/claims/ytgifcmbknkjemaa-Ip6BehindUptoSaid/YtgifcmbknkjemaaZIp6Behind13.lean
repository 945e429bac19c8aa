/- What the law Ip6Behind rests on, part 13: contracts of the functions that it calls, and plain lemmas. No condition. -/
import Derived.Test.YtgifcmbknkjemaaZIp6Behind12
section
namespace Go.Proofs.Ytgifcmbknkjemaa.Own
open Go Go.RowKit Go.Proofs.YtgifcmbknkjemaaW.PrintWords Go.Proofs.YtgifcmbknkjemaaW.PrintLast Go.Proofs.YtgifcmbknkjemaaW.PrintMore
set_option linter.unusedVariables false
set_option linter.unusedSimpArgs false
theorem run6_inv (stops : Bool) (k : Nat) : ∀ s : S6, s.exts.length ≤ 8 → Bytes s.rest → (run6 stops k s).2.exts.length ≤ 8 ∧ Bytes (run6 stops k s).2.rest ∧ (run6 stops k s).2.rest.length ≤ s.rest.length := by
  induction k with
  | zero => intro s h1 h2; exact ⟨h1, h2, Nat.le_refl _⟩
  | succ k ih =>
    intro s h1 h2
    simp only [run6]
    by_cases c1 : s.fr.isSome = true ∨ isExt s.next = false
    · rw [if_pos c1]; exact ⟨h1, h2, Nat.le_refl _⟩
    rw [if_neg c1]
    by_cases c2 : 8 ≤ s.exts.length
    · rw [if_pos c2]; exact ⟨h1, h2, Nat.le_refl _⟩
    rw [if_neg c2]
    by_cases c3 : (size6 s.next s.rest).2 = false
    · rw [if_pos c3]; exact ⟨h1, h2, Nat.le_refl _⟩
    rw [if_neg c3]
    by_cases c4 : look6 s (s.rest.take (size6 s.next s.rest).1.toNat) ≠ 0
    · rw [if_pos c4]; exact ⟨h1, h2, Nat.le_refl _⟩
    rw [if_neg c4]
    have h3 := ih (next6 stops s (size6 s.next s.rest).1.toNat) (by show (s.exts ++ [s.next]).length ≤ 8; rw [List.length_append, List.length_singleton]; omega) (fun y hy => h2 y (List.mem_of_mem_drop hy))
    refine ⟨h3.1, h3.2.1, Nat.le_trans h3.2.2 ?_⟩
    show (s.rest.drop _).length ≤ _
    rw [List.length_drop]
    omega
theorem walk6_inv {next : Int} {l : List Int} (hb : Bytes l) : (walk6 next l).2.1.length ≤ 8 ∧ Bytes (walk6 next l).2.2.1 ∧ (walk6 next l).2.2.1.length ≤ l.length := by
  have h := run6_inv false 9 ⟨next, l, [], true, true, none⟩ (by show 0 ≤ 8; omega) hb
  unfold walk6
  simp only
  split
  · exact h
  · exact ⟨by simp, fun y hy => by simp at hy, by simp⟩
theorem Walk_is {w : World} {next : Int} {A : Option Addr} {n c : Nat} {l : List Int} (hr : (Kd.int .u8).C w A n l) (hc : n ≤ c) (hby : Bytes l) (hn : n ≤ 140737488355000) :
    Calls Try.prog 51 #[.int .i64 next, .slice A n c] w (Walk6Post w (walk6 next l)) := Walk_at hr hc hby hn
theorem size_alloc' (w : World) (o : Obj) : (w.alloc o).heap.size = w.heap.size + 1 := by simp
set_option maxHeartbeats 1000000 in
set_option maxRecDepth 100000 in
theorem Alive4_at (w : World) : Calls Try.prog 54 #[] w fun e w' => e = .returned (.bool true) ∧ Below w.heap.size w w' := by
  have hw : walk6 60 [17, 0, 1, 4, 0, 0, 0, 0, 9] = (17, [60], [9], 0) := by decide +kernel
  have hlit : (Kd.int .u8).C (w.alloc (.cells #[.int .u8 17, .int .u8 0, .int .u8 1, .int .u8 4, .int .u8 0, .int .u8 0, .int .u8 0, .int .u8 0, .int .u8 9] 5)) (some ⟨w.heap.size, 0, none⟩) 9 [17, 0, 1, 4, 0, 0, 0, 0, 9] := by
    refine ⟨rfl, by decide, fun _ => ⟨_, rfl, fun j p hj => ⟨[.int .u8 p], rfl, rfl, fun i u hu => ?_⟩⟩⟩
    have hj9 : j < 9 := by
      have := (List.getElem?_eq_some_iff.1 hj).1
      simpa using this
    obtain rfl : i = 0 := by
      have := (List.getElem?_eq_some_iff.1 hu).1
      simpa using this
    have hu' : u = .int .u8 p := by simpa using hu.symm
    subst hu'
    have h1 : ((⟨w.heap.size, 0, none⟩ : Addr).add (j * (Kd.int .u8).sz + 0)) = ⟨w.heap.size, j, none⟩ := by
      rw [show j * (Kd.int .u8).sz + 0 = j from by show j * 1 + 0 = j; omega]
      exact add_plain _ _
    rw [h1, blk_cell (blk_at rfl) j]
    match j, hj9, hj with
    | 0, _, hj => simp at hj; subst hj; rfl
    | 1, _, hj => simp at hj; subst hj; rfl
    | 2, _, hj => simp at hj; subst hj; rfl
    | 3, _, hj => simp at hj; subst hj; rfl
    | 4, _, hj => simp at hj; subst hj; rfl
    | 5, _, hj => simp at hj; subst hj; rfl
    | 6, _, hj => simp at hj; subst hj; rfl
    | 7, _, hj => simp at hj; subst hj; rfl
    | 8, _, hj => simp at hj; subst hj; rfl
  have hcall := Walk_is (next := 60) (c := 9) hlit (by omega) (fun y hy => by simp at hy; omega) (by omega)
  rw [hw] at hcall
  have HC := Aside0.mk hcall
  clear hlit hcall hw
  go_enter Try.func54, Try.ntmps54
  go_wp2_with (go_at_call 51; refine HC.out.mono ?_; rintro e w1 ⟨vE, vD, rfl, hE, hD, hB⟩; obtain ⟨Ae, ce, rfl, hce, hCE⟩ := Kd.R_reads hE; obtain ⟨Ad, cd, rfl, hcd, hCD⟩ := Kd.R_reads hD; obtain ⟨ae, rfl, e0⟩ := Kd.at_int hCE 0 (by omega) (by simp); obtain ⟨de, rfl, d0⟩ := Kd.at_int hCD 0 (by omega) (by simp); rw [show ((0 : Int)).toNat = 0 from rfl, Addr.add_zero'] at e0 d0; have HB := Aside0.mk hB; clear hE hD hCE hCD hB)
  go_ret
  exact ⟨rfl, below_then (below_alloc (Below.refl _ _) _) (by rw [size_alloc']; omega) HB.out⟩
def be (l : List Int) : Int := l.foldl (fun a c => a * 256 + c) 0
theorem be_snoc (l : List Int) (c : Int) : be (l ++ [c]) = be l * 256 + c := by simp [be, List.foldl_append]
theorem fold_be (l : List Int) : ∀ a : Int, l.foldl (fun a c => a * 256 + c) a = a * (256 : Int) ^ l.length + be l := by
  induction l with
  | nil => intro a; simp [be]
  | cons x l ih =>
    intro a
    simp only [List.foldl_cons, be, List.length_cons]
    rw [ih, ih (0 * 256 + x), Int.pow_succ]
    have : (a * 256 + x) * (256 : Int) ^ l.length = a * ((256 : Int) ^ l.length * 256) + x * (256 : Int) ^ l.length := by
      rw [Int.add_mul, Int.mul_assoc, Int.mul_comm 256]
    rw [this, Int.zero_mul, Int.zero_add, Int.add_assoc]
theorem be_cons (x : Int) (l : List Int) : be (x :: l) = x * (256 : Int) ^ l.length + be l := by
  have := fold_be l (0 * 256 + x)
  simp only [be, List.foldl_cons]
  rw [this, Int.zero_mul, Int.zero_add]
  rfl
theorem be_bounds (l : List Int) (hb : Bytes l) : 0 ≤ be l ∧ be l < (256 : Int) ^ l.length := by
  induction l with
  | nil => simp [be]
  | cons x l ih =>
    have h1 := ih (fun y hy => hb y (List.mem_cons_of_mem _ hy))
    have h2 := hb x List.mem_cons_self
    rw [be_cons, List.length_cons, Int.pow_succ]
    generalize (256 : Int) ^ l.length = P at *
    have h3 : x * P ≤ 255 * P := Int.mul_le_mul_of_nonneg_right h2.2 (by omega)
    have h4 : 0 ≤ x * P := Int.mul_nonneg h2.1 (by omega)
    omega
theorem pw_pos (n : Nat) : (0 : Int) < 256 ^ n := by
  induction n with
  | zero => decide
  | succ n ih => rw [Int.pow_succ]; omega
theorem pw_le {a b : Nat} (h : a ≤ b) : (256 : Int) ^ a ≤ 256 ^ b := by
  obtain ⟨d, rfl⟩ := Nat.exists_eq_add_of_le h
  induction d with
  | zero => exact Int.le_refl _
  | succ d ih =>
    have h1 := ih (by omega)
    have h2 := pw_pos (a + d)
    rw [show a + (d + 1) = (a + d) + 1 by omega, Int.pow_succ]
    omega
theorem take_rd {l : List Int} {i : Nat} (h : i < l.length) : l.take (i + 1) = l.take i ++ [rd l (i : Int)] := by
  rw [List.take_succ_eq_append_getElem h]
  simp [rd, List.getD_eq_getElem?_getD, List.getElem?_eq_getElem h]
theorem shl8 (x c : Int) (h0 : 0 ≤ x) (hc0 : 0 ≤ c) (hc1 : c ≤ 255) : Go.bits .or .u64 (IntKind.u64.wrap (x * 256)) (IntKind.u64.wrap c) = (x * 256) % 18446744073709551616 + c := by
  have e1 : IntKind.u64.wrap (x * 256) = (x * 256) % 18446744073709551616 := IntKind.wrap_u64 _
  have e2 : IntKind.u64.wrap c = c := by rw [IntKind.wrap_u64]; omega
  rw [e1, e2]
  exact bits_join .u64 64 (by decide) (fun n h0 h1 => by rw [IntKind.wrap_u64]; omega) 8 _ c (by omega) (by omega) (by omega) hc0 (by omega) (by omega)
def fromA (l : List Int) : Int × Int × Int × Int := if l.length = 4 then (4, 0, be l, 0) else if l.length = 16 then (6, be (l.take 8), be (l.drop 8), 0) else (0, 0, 0, 1)
theorem from16 (l : List Int) (hb : Bytes l) (hl : l.length = 16) (d : Nat) : ∀ i : Nat, i + d = 16 → Ev (fun k => GA.addr_From.l0 k l l 16 i 6 (be (l.take (min i 8))) (be ((l.take i).drop 8))) (6, be (l.take 8), be (l.drop 8), 0) := by
  induction d with
  | zero =>
    intro i hi
    obtain rfl : i = 16 := by omega
    refine Ev.step (fun k => ?_) (Ev.now _)
    simp only [GA.addr_From.l0]
    rw [if_neg (by omega), List.take_of_length_le (l := l) (i := 16) (by omega)]
    rfl
  | succ d ih =>
    intro i hi
    have hr := rd_byte hb (i : Int)
    have hm := be_bounds (l.take (min i 8)) (fun y hy => hb y (List.mem_of_mem_take hy))
    have hd := be_bounds ((l.take i).drop 8) (fun y hy => hb y (List.mem_of_mem_take (List.mem_of_mem_drop hy)))
    have h1 := ih (i + 1) (by omega)
    refine Ev.step (fun k => ?_) h1
    simp only [GA.addr_From.l0]
    rw [if_pos (by omega), if_pos (by omega), if_pos (by omega), hl, w64 ((16 : Nat) - 8 : Int) (by omega) (by omega), w64 ((i : Int) + 1) (by omega) (by omega)]
    rw [List.length_take] at hm
    rw [List.length_drop, List.length_take] at hd
    have hT := take_rd (l := l) (i := i) (by omega)
    by_cases h8 : i < 8
    · rw [if_pos (by omega), shl8 _ _ hm.1 hr.1 hr.2]
      have e1 : min (i + 1) 8 = i + 1 := by omega
      have e2 : min i 8 = i := by omega
      have e3 : (l.take (i + 1)).drop 8 = [] := List.drop_eq_nil_of_le (by rw [List.length_take]; omega)
      have e4 : (l.take i).drop 8 = [] := List.drop_eq_nil_of_le (by rw [List.length_take]; omega)
      rw [e2] at hm ⊢
      rw [e1, e3, e4, hT, be_snoc]
      have hp : (256 : Int) ^ min i l.length ≤ 256 ^ 7 := pw_le (by omega)
      rw [Int.emod_eq_of_lt (by omega) (by omega)]
      rfl
    · rw [if_neg (by omega), shl8 _ _ hd.1 hr.1 hr.2]
      have e1 : min (i + 1) 8 = 8 := by omega
      have e2 : min i 8 = 8 := by omega
      have e3 : (l.take (i + 1)).drop 8 = (l.take i).drop 8 ++ [rd l (i : Int)] := by
        rw [hT, List.drop_append_of_le_length (by rw [List.length_take]; omega)]
      rw [e1, e2, e3, be_snoc]
      have hp : (256 : Int) ^ (min i l.length - 8) ≤ 256 ^ 7 := pw_le (by omega)
      rw [Int.emod_eq_of_lt (by omega) (by omega)]
      rfl
theorem from4 (l : List Int) (hb : Bytes l) (hl : l.length = 4) (d : Nat) : ∀ i : Nat, i + d = 4 → Ev (fun k => GA.addr_From.l0 k l l 4 i 4 0 (be (l.take i))) (4, 0, be l, 0) := by
  induction d with
  | zero =>
    intro i hi
    obtain rfl : i = 4 := by omega
    refine Ev.step (fun k => ?_) (Ev.now _)
    simp only [GA.addr_From.l0]
    rw [if_neg (by omega), List.take_of_length_le (by omega)]
  | succ d ih =>
    intro i hi
    have hr := rd_byte hb (i : Int)
    have hm := be_bounds (l.take i) (fun y hy => hb y (List.mem_of_mem_take hy))
    have h1 := ih (i + 1) (by omega)
    refine Ev.step (fun k => ?_) h1
    simp only [GA.addr_From.l0]
    rw [if_pos (by omega), if_pos (by omega), if_pos (by omega), hl, w64 ((4 : Nat) - 8 : Int) (by omega) (by omega), w64 ((i : Int) + 1) (by omega) (by omega)]
    rw [List.length_take] at hm
    rw [if_neg (by omega), shl8 _ _ hm.1 hr.1 hr.2, take_rd (l := l) (i := i) (by omega), be_snoc]
    have hp : (256 : Int) ^ min i l.length ≤ 256 ^ 3 := pw_le (by omega)
    rw [Int.emod_eq_of_lt (by omega) (by omega)]
    rfl
theorem From_at {A : Option Addr} {c n : Nat} {l : List Int} {w : World} (hr : (Kd.int .u8).C w A n l) (hc : n ≤ c) (hb : Bytes l) :
    Calls Try.prog 102 #[.slice A n c] w fun e w' => e = .returned (.tuple #[.agg #[.int .i64 (fromA l).1, .int .u64 (fromA l).2.1, .int .u64 (fromA l).2.2.1], .int .i64 (fromA l).2.2.2]) ∧ Below w.heap.size w w' := by
  have hn : l.length = n := hr.1
  subst hn
  have hev : ∃ k, GA.addr_From.f k l = some (fromA l) := by
    unfold GA.addr_From.f fromA
    by_cases h4 : l.length = 4
    · obtain ⟨k, hk⟩ := (from4 l hb h4 4 0 (by omega)).rounds
      refine ⟨k + 1, ?_⟩
      rw [if_pos (by omega), if_pos h4]
      simp only [GA.addr_From.j0]
      rw [h4]
      exact hk
    · by_cases h16 : l.length = 16
      · obtain ⟨k, hk⟩ := (from16 l hb h16 16 0 (by omega)).rounds
        refine ⟨k + 1, ?_⟩
        rw [if_neg (by omega), if_pos (by omega), if_neg h4, if_pos h16]
        simp only [GA.addr_From.j0]
        rw [h16]
        exact hk
      · exact ⟨0, by rw [if_neg (by omega), if_neg (by omega), if_neg h4, if_neg h16]⟩
  obtain ⟨k, hk⟩ := hev
  exact GA.addr_From.calls k A c l _ _ _ _ w hr hc hk
structure IpV where
  fam : Int
  src : Int × Int × Int
  dst : Int × Int × Int
  proto : Int
  hop : Int
  frag : Bool
  id : Int
  off : Int
  more : Bool
  exts : List Int
  data : List Int
def zeroV : IpV := ⟨0, (0, 0, 0), (0, 0, 0), 0, 0, false, 0, 0, false, [], []⟩
def ipCells (p : IpV) (vE vD : Value) : Array Value :=
  #[.int .i64 p.fam, .int .i64 p.src.1, .int .u64 p.src.2.1, .int .u64 p.src.2.2, .int .i64 p.dst.1, .int .u64 p.dst.2.1, .int .u64 p.dst.2.2, .int .i64 p.proto, .int .i64 p.hop, .bool p.frag, .int .u32 p.id, .int .i64 p.off, .bool p.more, vE, vD]
theorem ipCells_one (p : IpV) (A B : Option Addr) (n c m d : Nat) : (ipCells p (.slice A n c) (.slice B m d)).all (·.oneCell') = true := by simp [ipCells, Value.oneCell']
def least6 (n : Int) : Int := if n = 6 then 20 else if n = 17 ∨ n = 1 ∨ n = 58 then 8 else 0
def whole6 (proto : Int) (d : List Int) : Bool := decide ((walk6 proto d).2.2.2 = 0 ∧ least6 (walk6 proto d).1 ≤ ((walk6 proto d).2.2.1.length : Int))
def addrOf (l : List Int) : Int × Int × Int := ((fromA l).1, (fromA l).2.1, (fromA l).2.2.1)
def end6 (b : List Int) (r : Int × S6) : IpV × Int :=
  if r.1 ≠ 0 then (zeroV, r.1)
  else if (r.2.fr.getD (0, 0, false)).2.2 = true ∧ r.2.rest.length % 8 ≠ 0 then (zeroV, 5)
  else if r.2.fr.isSome = true ∧ 65535 < (r.2.fr.getD (0, 0, false)).2.1 + r.2.rest.length then (zeroV, 11)
  else if r.2.fr.isSome = true ∧ (r.2.fr.getD (0, 0, false)).2.1 = 0 ∧ whole6 r.2.next r.2.rest = false then (zeroV, 4)
  else (⟨6, addrOf ((b.drop 8).take 16), addrOf ((b.drop 24).take 16), r.2.next, rd b 7, r.2.fr.isSome, (r.2.fr.getD (0, 0, false)).1, (r.2.fr.getD (0, 0, false)).2.1, (r.2.fr.getD (0, 0, false)).2.2, r.2.exts, r.2.rest⟩, 0)
def parse6 (b : List Int) : IpV × Int :=
  if b.length < 40 then (zeroV, 2)
  else if rd b 0 / 16 ≠ 6 then (zeroV, 3)
  else if (b.length : Int) - 40 < u16 b 4 then (zeroV, 5)
  else if rd b 7 = 0 then (zeroV, 26)
  else end6 b (run6 true 9 ⟨rd b 6, (b.drop 40).take (u16 b 4).toNat, [], false, false, none⟩)
def IpPost (w : World) (r : IpV × Int) (e : Ending) (w' : World) : Prop :=
  ∃ vE vD : Value, e = .returned (.tuple #[.agg (ipCells r.1 vE vD), .int .i64 r.2]) ∧ Kd.R (Kd.int .i64) 3 w' w.heap.size (fun _ => True) vE r.1.exts ∧ Kd.R (Kd.int .u8) 5 w' w.heap.size (fun _ => True) vD r.1.data ∧ Below w.heap.size w w'
theorem run_lookup_ints1 {P : Program} (W : World) (mt kt et : TypeId) (h : P.underlying mt = some (.map kt et)) (hk : P.underlying kt = some (.int .i64)) (i0 : TypeInfo) (hi : P.info? et = some i0) (z : Value) (hz : i0.zero = some z) (r clock : Nat) (ks : List (Int × Value × Nat)) (hb : W.heap[r]? = some (.map (ints ks) clock)) (x : Int) :
    (Instr.lookup mt (.map (some r)) (.int .i64 x) false).run P W = .ok (match ks.findIdx? fun k => k.1 == x with | some j => (ks[j]?.map fun k => k.2.1).getD .nilIface | none => z) W := by
  have hf := find_ints _ x ks rfl 0
  simp only [Nat.zero_add] at hf
  have hg := Go.MapKept.run_getObj_map (P := P) hb
  have hc := fun e => Go.MapKept.run_checkKey (P := P) (w := W) (k := .int .i64 x) hk (by trivial) e 9999
  have hl : (ints ks).toList = ks.map fun k => (⟨.int .i64 k.1, k.2.1, k.2.2⟩ : MapEntry) := by simp [ints]
  have hfk := Go.MapKept.run_findKey (P := P) (w := W) hk hf
  have hzv : (zeroValue et).run P W = .ok z W := by simp [zeroValue, typeInfo, hi, hz]
  unfold Instr.lookup
  simp only [Sem.run_bind, run_underlying h, Result.andThen_ok, Sem.run_pure, hg, hc, hl, hfk]
  cases hh : ks.findIdx? (fun k => k.1 == x) with
  | none => simp [hzv]
  | some j => simp
def leasts : List (Int × Value × Nat) := [(6, .int .i64 20, 0), (17, .int .i64 8, 1), (1, .int .i64 8, 2), (58, .int .i64 8, 3)]
theorem least_found (x : Int) : (match leasts.findIdx? fun k => k.1 == x with | some j => (leasts[j]?.map fun k : Int × Value × Nat => k.2.1).getD Value.nilIface | none => Value.int .i64 0) = Value.int .i64 (least6 x) := by
  by_cases h6 : x = 6
  · subst h6; rfl
  · by_cases h17 : x = 17
    · subst h17; rfl
    · by_cases h1 : x = 1
      · subst h1; rfl
      · by_cases h58 : x = 58
        · subst h58; rfl
        · have b1 : ((6 : Int) == x) = false := by simp; omega
          have b2 : ((17 : Int) == x) = false := by simp; omega
          have b3 : ((1 : Int) == x) = false := by simp; omega
          have b4 : ((58 : Int) == x) = false := by simp; omega
          simp [leasts, List.findIdx?_cons, b1, b2, b3, b4, least6, h6, h17, h1, h58]
set_option maxHeartbeats 1000000 in
set_option maxRecDepth 100000 in
theorem Whole_at {w : World} {next : Int} {A : Option Addr} {n c : Nat} {l : List Int} (hr : (Kd.int .u8).C w A n l) (hc : n ≤ c) (hby : Bytes l) (hn : n ≤ 140737488355000) :
    Calls Try.prog 101 #[.int .i64 next, .slice A n c] w fun e w' => e = .returned (.bool (whole6 next l)) ∧ Below w.heap.size w w' := by
  have hcall := Walk_at (next := next) hr hc hby hn
  have hinv := walk6_inv (next := next) hby
  have hwh : whole6 next l = decide ((walk6 next l).2.2.2 = 0 ∧ least6 (walk6 next l).1 ≤ ((walk6 next l).2.2.1.length : Int)) := rfl
  rw [hwh]
  obtain ⟨m, E, D, e, hw⟩ : ∃ m E D e, walk6 next l = (m, E, D, e) := ⟨_, _, _, _, rfl⟩
  rw [hw] at hcall hinv ⊢
  have HC := Aside0.mk hcall
  have hmaps : ∀ w1 : World, Below w.heap.size w w1 → ∃ W4, (Instr.makeMap 178 none).run Try.prog w1 = .ok (.map (some w1.heap.size)) (w1.alloc (.map #[] 0)) ∧ ∃ W1 W2 W3, (Instr.mapUpdate 178 (.map (some w1.heap.size)) (.int .i64 6) (.int .i64 20)).run Try.prog (w1.alloc (.map #[] 0)) = .ok () W1 ∧ (Instr.mapUpdate 178 (.map (some w1.heap.size)) (.int .i64 17) (.int .i64 8)).run Try.prog W1 = .ok () W2 ∧ (Instr.mapUpdate 178 (.map (some w1.heap.size)) (.int .i64 1) (.int .i64 8)).run Try.prog W2 = .ok () W3 ∧ (Instr.mapUpdate 178 (.map (some w1.heap.size)) (.int .i64 58) (.int .i64 8)).run Try.prog W3 = .ok () W4 ∧ Below w.heap.size w W4 ∧ (Instr.lookup 178 (.map (some w1.heap.size)) (.int .i64 m) false).run Try.prog W4 = .ok (.int .i64 (least6 m)) W4 := fun w1 hb1 => by
    have hB0 : Below w.heap.size w (w1.alloc (.map #[] 0)) := below_alloc hb1 _
    have hz := hb1.size
    obtain ⟨W1, e1, h1, k1, hB1⟩ := insert_next 178 3 3 Try.underlying178 Try.underlying3 w1.heap.size 0 [] (W := w1.alloc (.map #[] 0)) (blk_at rfl) 6 (.int .i64 20) rfl hB0 hz
    obtain ⟨W2, e2, h2, k2, hB2⟩ := insert_next 178 3 3 Try.underlying178 Try.underlying3 w1.heap.size 1 _ h1 17 (.int .i64 8) rfl hB1 hz
    obtain ⟨W3, e3, h3, k3, hB3⟩ := insert_next 178 3 3 Try.underlying178 Try.underlying3 w1.heap.size 2 _ h2 1 (.int .i64 8) rfl hB2 hz
    obtain ⟨W4, e4, h4, k4, hB4⟩ := insert_next 178 3 3 Try.underlying178 Try.underlying3 w1.heap.size 3 _ h3 58 (.int .i64 8) rfl hB3 hz
    obtain ⟨i0, hi, hz0, hz1, hz2⟩ := info_parts info3
    have hlk := run_lookup_ints1 (P := Try.prog) W4 178 3 3 Try.underlying178 Try.underlying3 i0 hi _ hz0 w1.heap.size 4 leasts h4 m
    rw [least_found] at hlk
    exact ⟨W4, by rw [run_makeMap], W1, W2, W3, e1, e2, e3, e4, hB4, hlk⟩
  have HM := Aside0.mk hmaps
  have hn1 : D.length ≤ 140737488355000 := by have h1 : D.length ≤ l.length := hinv.2.2; have := hr.1; omega
  clear hcall hinv hwh hw hmaps hr hby
  by_cases h0 : e = 0
  · subst h0
    have HD : Aside0 (decide ((0 : Int) = 0 ∧ least6 m ≤ (D.length : Int)) = decide (least6 m ≤ (D.length : Int))) := ⟨by simp⟩
    go_enter Try.func101, Try.ntmps101
    go_wp2_with (fail)
    refine HC.out.mono ?_
    rintro e1 w1 ⟨vE, vD, rfl, hE, hD, hB⟩
    obtain ⟨Ad, cd, rfl, hcd, hCD⟩ := Kd.R_reads hD
    obtain ⟨W4, hmk, W1, W2, W3, e1, e2, e3, e4, hB4, hlk⟩ := HM.out w1 hB
    have HB4 := Aside0.mk hB4
    clear hE hD hCD hB hB4
    go_wp2
    go_ret
    exact ⟨by rw [HD.out]; rfl, HB4.out⟩
  · have hb : (e == 0) = false := by simpa using h0
    have HD : Aside0 (decide (e = 0 ∧ least6 m ≤ (D.length : Int)) = false) := ⟨by simp [h0]⟩
    clear h0
    go_enter Try.func101, Try.ntmps101
    go_wp2_with (fail)
    refine HC.out.mono ?_
    rintro e1 w1 ⟨vE, vD, rfl, hE, hD, hB⟩
    obtain ⟨Ad, cd, rfl, hcd, hCD⟩ := Kd.R_reads hD
    obtain ⟨W4, hmk, W1, W2, W3, e1, e2, e3, e4, hB4, hlk⟩ := HM.out w1 hB
    have HB4 := Aside0.mk hB4
    clear hE hD hCD hB hB4
    go_wp2
    go_ret
    exact ⟨by rw [HD.out]; rfl, HB4.out⟩
end Go.Proofs.Ytgifcmbknkjemaa.Own
end
