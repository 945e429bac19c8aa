/- What the law Ip6Back rests on, part 16: contracts of the functions that it calls, and plain lemmas. No condition. -/
import Derived.Test.YtgifcmbknkjemaaZIp6Back15
section
namespace Go.Proofs.Ytgifcmbknkjemaa.Own
open Go Go.RowKit Go.Proofs.YtgifcmbknkjemaaW.PrintWords Go.Proofs.YtgifcmbknkjemaaW.PrintLast Go.Proofs.YtgifcmbknkjemaaW.PrintMore
set_option linter.unusedVariables false
set_option linter.unusedSimpArgs false
theorem run6_inv (stops : Bool) (k : Nat) : ∀ s : S6, s.exts.length ≤ 8 → Bytes s.rest → (run6 stops k s).2.exts.length ≤ 8 ∧ Bytes (run6 stops k s).2.rest ∧ (run6 stops k s).2.rest.length ≤ s.rest.length := by
  induction k with
  | zero => intro s h1 h2; exact ⟨h1, h2, Nat.le_refl _⟩
  | succ k ih =>
    intro s h1 h2
    simp only [run6]
    by_cases c1 : s.fr.isSome = true ∨ isExt s.next = false
    · rw [if_pos c1]; exact ⟨h1, h2, Nat.le_refl _⟩
    rw [if_neg c1]
    by_cases c2 : 8 ≤ s.exts.length
    · rw [if_pos c2]; exact ⟨h1, h2, Nat.le_refl _⟩
    rw [if_neg c2]
    by_cases c3 : (size6 s.next s.rest).2 = false
    · rw [if_pos c3]; exact ⟨h1, h2, Nat.le_refl _⟩
    rw [if_neg c3]
    by_cases c4 : look6 s (s.rest.take (size6 s.next s.rest).1.toNat) ≠ 0
    · rw [if_pos c4]; exact ⟨h1, h2, Nat.le_refl _⟩
    rw [if_neg c4]
    have h3 := ih (next6 stops s (size6 s.next s.rest).1.toNat) (by show (s.exts ++ [s.next]).length ≤ 8; rw [List.length_append, List.length_singleton]; omega) (fun y hy => h2 y (List.mem_of_mem_drop hy))
    refine ⟨h3.1, h3.2.1, Nat.le_trans h3.2.2 ?_⟩
    show (s.rest.drop _).length ≤ _
    rw [List.length_drop]
    omega
theorem walk6_inv {next : Int} {l : List Int} (hb : Bytes l) : (walk6 next l).2.1.length ≤ 8 ∧ Bytes (walk6 next l).2.2.1 ∧ (walk6 next l).2.2.1.length ≤ l.length := by
  have h := run6_inv false 9 ⟨next, l, [], true, true, none⟩ (by show 0 ≤ 8; omega) hb
  unfold walk6
  simp only
  split
  · exact h
  · exact ⟨by simp, fun y hy => by simp at hy, by simp⟩
theorem Walk_is {w : World} {next : Int} {A : Option Addr} {n c : Nat} {l : List Int} (hr : (Kd.int .u8).C w A n l) (hc : n ≤ c) (hby : Bytes l) (hn : n ≤ 140737488355000) :
    Calls Try.prog 51 #[.int .i64 next, .slice A n c] w (Walk6Post w (walk6 next l)) := Walk_at hr hc hby hn
theorem size_alloc' (w : World) (o : Obj) : (w.alloc o).heap.size = w.heap.size + 1 := by simp
set_option maxHeartbeats 1000000 in
set_option maxRecDepth 100000 in
theorem Alive4_at (w : World) : Calls Try.prog 54 #[] w fun e w' => e = .returned (.bool true) ∧ Below w.heap.size w w' := by
  have hw : walk6 60 [17, 0, 1, 4, 0, 0, 0, 0, 9] = (17, [60], [9], 0) := by decide +kernel
  have hlit : (Kd.int .u8).C (w.alloc (.cells #[.int .u8 17, .int .u8 0, .int .u8 1, .int .u8 4, .int .u8 0, .int .u8 0, .int .u8 0, .int .u8 0, .int .u8 9] 5)) (some ⟨w.heap.size, 0, none⟩) 9 [17, 0, 1, 4, 0, 0, 0, 0, 9] := by
    refine ⟨rfl, by decide, fun _ => ⟨_, rfl, fun j p hj => ⟨[.int .u8 p], rfl, rfl, fun i u hu => ?_⟩⟩⟩
    have hj9 : j < 9 := by
      have := (List.getElem?_eq_some_iff.1 hj).1
      simpa using this
    obtain rfl : i = 0 := by
      have := (List.getElem?_eq_some_iff.1 hu).1
      simpa using this
    have hu' : u = .int .u8 p := by simpa using hu.symm
    subst hu'
    have h1 : ((⟨w.heap.size, 0, none⟩ : Addr).add (j * (Kd.int .u8).sz + 0)) = ⟨w.heap.size, j, none⟩ := by
      rw [show j * (Kd.int .u8).sz + 0 = j from by show j * 1 + 0 = j; omega]
      exact add_plain _ _
    rw [h1, blk_cell (blk_at rfl) j]
    match j, hj9, hj with
    | 0, _, hj => simp at hj; subst hj; rfl
    | 1, _, hj => simp at hj; subst hj; rfl
    | 2, _, hj => simp at hj; subst hj; rfl
    | 3, _, hj => simp at hj; subst hj; rfl
    | 4, _, hj => simp at hj; subst hj; rfl
    | 5, _, hj => simp at hj; subst hj; rfl
    | 6, _, hj => simp at hj; subst hj; rfl
    | 7, _, hj => simp at hj; subst hj; rfl
    | 8, _, hj => simp at hj; subst hj; rfl
  have hcall := Walk_is (next := 60) (c := 9) hlit (by omega) (fun y hy => by simp at hy; omega) (by omega)
  rw [hw] at hcall
  have HC := Aside0.mk hcall
  clear hlit hcall hw
  go_enter Try.func54, Try.ntmps54
  go_wp2_with (go_at_call 51; refine HC.out.mono ?_; rintro e w1 ⟨vE, vD, rfl, hE, hD, hB⟩; obtain ⟨Ae, ce, rfl, hce, hCE⟩ := Kd.R_reads hE; obtain ⟨Ad, cd, rfl, hcd, hCD⟩ := Kd.R_reads hD; obtain ⟨ae, rfl, e0⟩ := Kd.at_int hCE 0 (by omega) (by simp); obtain ⟨de, rfl, d0⟩ := Kd.at_int hCD 0 (by omega) (by simp); rw [show ((0 : Int)).toNat = 0 from rfl, Addr.add_zero'] at e0 d0; have HB := Aside0.mk hB; clear hE hD hCE hCD hB)
  go_ret
  exact ⟨rfl, below_then (below_alloc (Below.refl _ _) _) (by rw [size_alloc']; omega) HB.out⟩
def be (l : List Int) : Int := l.foldl (fun a c => a * 256 + c) 0
theorem be_snoc (l : List Int) (c : Int) : be (l ++ [c]) = be l * 256 + c := by simp [be, List.foldl_append]
theorem fold_be (l : List Int) : ∀ a : Int, l.foldl (fun a c => a * 256 + c) a = a * (256 : Int) ^ l.length + be l := by
  induction l with
  | nil => intro a; simp [be]
  | cons x l ih =>
    intro a
    simp only [List.foldl_cons, be, List.length_cons]
    rw [ih, ih (0 * 256 + x), Int.pow_succ]
    have : (a * 256 + x) * (256 : Int) ^ l.length = a * ((256 : Int) ^ l.length * 256) + x * (256 : Int) ^ l.length := by
      rw [Int.add_mul, Int.mul_assoc, Int.mul_comm 256]
    rw [this, Int.zero_mul, Int.zero_add, Int.add_assoc]
theorem be_cons (x : Int) (l : List Int) : be (x :: l) = x * (256 : Int) ^ l.length + be l := by
  have := fold_be l (0 * 256 + x)
  simp only [be, List.foldl_cons]
  rw [this, Int.zero_mul, Int.zero_add]
  rfl
theorem be_bounds (l : List Int) (hb : Bytes l) : 0 ≤ be l ∧ be l < (256 : Int) ^ l.length := by
  induction l with
  | nil => simp [be]
  | cons x l ih =>
    have h1 := ih (fun y hy => hb y (List.mem_cons_of_mem _ hy))
    have h2 := hb x List.mem_cons_self
    rw [be_cons, List.length_cons, Int.pow_succ]
    generalize (256 : Int) ^ l.length = P at *
    have h3 : x * P ≤ 255 * P := Int.mul_le_mul_of_nonneg_right h2.2 (by omega)
    have h4 : 0 ≤ x * P := Int.mul_nonneg h2.1 (by omega)
    omega
theorem pw_pos (n : Nat) : (0 : Int) < 256 ^ n := by
  induction n with
  | zero => decide
  | succ n ih => rw [Int.pow_succ]; omega
theorem pw_le {a b : Nat} (h : a ≤ b) : (256 : Int) ^ a ≤ 256 ^ b := by
  obtain ⟨d, rfl⟩ := Nat.exists_eq_add_of_le h
  induction d with
  | zero => exact Int.le_refl _
  | succ d ih =>
    have h1 := ih (by omega)
    have h2 := pw_pos (a + d)
    rw [show a + (d + 1) = (a + d) + 1 by omega, Int.pow_succ]
    omega
theorem take_rd {l : List Int} {i : Nat} (h : i < l.length) : l.take (i + 1) = l.take i ++ [rd l (i : Int)] := by
  rw [List.take_succ_eq_append_getElem h]
  simp [rd, List.getD_eq_getElem?_getD, List.getElem?_eq_getElem h]
theorem shl8 (x c : Int) (h0 : 0 ≤ x) (hc0 : 0 ≤ c) (hc1 : c ≤ 255) : Go.bits .or .u64 (IntKind.u64.wrap (x * 256)) (IntKind.u64.wrap c) = (x * 256) % 18446744073709551616 + c := by
  have e1 : IntKind.u64.wrap (x * 256) = (x * 256) % 18446744073709551616 := IntKind.wrap_u64 _
  have e2 : IntKind.u64.wrap c = c := by rw [IntKind.wrap_u64]; omega
  rw [e1, e2]
  exact bits_join .u64 64 (by decide) (fun n h0 h1 => by rw [IntKind.wrap_u64]; omega) 8 _ c (by omega) (by omega) (by omega) hc0 (by omega) (by omega)
def fromA (l : List Int) : Int × Int × Int × Int := if l.length = 4 then (4, 0, be l, 0) else if l.length = 16 then (6, be (l.take 8), be (l.drop 8), 0) else (0, 0, 0, 1)
theorem from16 (l : List Int) (hb : Bytes l) (hl : l.length = 16) (d : Nat) : ∀ i : Nat, i + d = 16 → Ev (fun k => GA.addr_From.l0 k l l 16 i 6 (be (l.take (min i 8))) (be ((l.take i).drop 8))) (6, be (l.take 8), be (l.drop 8), 0) := by
  induction d with
  | zero =>
    intro i hi
    obtain rfl : i = 16 := by omega
    refine Ev.step (fun k => ?_) (Ev.now _)
    simp only [GA.addr_From.l0]
    rw [if_neg (by omega), List.take_of_length_le (l := l) (i := 16) (by omega)]
    rfl
  | succ d ih =>
    intro i hi
    have hr := rd_byte hb (i : Int)
    have hm := be_bounds (l.take (min i 8)) (fun y hy => hb y (List.mem_of_mem_take hy))
    have hd := be_bounds ((l.take i).drop 8) (fun y hy => hb y (List.mem_of_mem_take (List.mem_of_mem_drop hy)))
    have h1 := ih (i + 1) (by omega)
    refine Ev.step (fun k => ?_) h1
    simp only [GA.addr_From.l0]
    rw [if_pos (by omega), if_pos (by omega), if_pos (by omega), hl, w64 ((16 : Nat) - 8 : Int) (by omega) (by omega), w64 ((i : Int) + 1) (by omega) (by omega)]
    rw [List.length_take] at hm
    rw [List.length_drop, List.length_take] at hd
    have hT := take_rd (l := l) (i := i) (by omega)
    by_cases h8 : i < 8
    · rw [if_pos (by omega), shl8 _ _ hm.1 hr.1 hr.2]
      have e1 : min (i + 1) 8 = i + 1 := by omega
      have e2 : min i 8 = i := by omega
      have e3 : (l.take (i + 1)).drop 8 = [] := List.drop_eq_nil_of_le (by rw [List.length_take]; omega)
      have e4 : (l.take i).drop 8 = [] := List.drop_eq_nil_of_le (by rw [List.length_take]; omega)
      rw [e2] at hm ⊢
      rw [e1, e3, e4, hT, be_snoc]
      have hp : (256 : Int) ^ min i l.length ≤ 256 ^ 7 := pw_le (by omega)
      rw [Int.emod_eq_of_lt (by omega) (by omega)]
      rfl
    · rw [if_neg (by omega), shl8 _ _ hd.1 hr.1 hr.2]
      have e1 : min (i + 1) 8 = 8 := by omega
      have e2 : min i 8 = 8 := by omega
      have e3 : (l.take (i + 1)).drop 8 = (l.take i).drop 8 ++ [rd l (i : Int)] := by
        rw [hT, List.drop_append_of_le_length (by rw [List.length_take]; omega)]
      rw [e1, e2, e3, be_snoc]
      have hp : (256 : Int) ^ (min i l.length - 8) ≤ 256 ^ 7 := pw_le (by omega)
      rw [Int.emod_eq_of_lt (by omega) (by omega)]
      rfl
theorem from4 (l : List Int) (hb : Bytes l) (hl : l.length = 4) (d : Nat) : ∀ i : Nat, i + d = 4 → Ev (fun k => GA.addr_From.l0 k l l 4 i 4 0 (be (l.take i))) (4, 0, be l, 0) := by
  induction d with
  | zero =>
    intro i hi
    obtain rfl : i = 4 := by omega
    refine Ev.step (fun k => ?_) (Ev.now _)
    simp only [GA.addr_From.l0]
    rw [if_neg (by omega), List.take_of_length_le (by omega)]
  | succ d ih =>
    intro i hi
    have hr := rd_byte hb (i : Int)
    have hm := be_bounds (l.take i) (fun y hy => hb y (List.mem_of_mem_take hy))
    have h1 := ih (i + 1) (by omega)
    refine Ev.step (fun k => ?_) h1
    simp only [GA.addr_From.l0]
    rw [if_pos (by omega), if_pos (by omega), if_pos (by omega), hl, w64 ((4 : Nat) - 8 : Int) (by omega) (by omega), w64 ((i : Int) + 1) (by omega) (by omega)]
    rw [List.length_take] at hm
    rw [if_neg (by omega), shl8 _ _ hm.1 hr.1 hr.2, take_rd (l := l) (i := i) (by omega), be_snoc]
    have hp : (256 : Int) ^ min i l.length ≤ 256 ^ 3 := pw_le (by omega)
    rw [Int.emod_eq_of_lt (by omega) (by omega)]
    rfl
theorem From_at {A : Option Addr} {c n : Nat} {l : List Int} {w : World} (hr : (Kd.int .u8).C w A n l) (hc : n ≤ c) (hb : Bytes l) :
    Calls Try.prog 102 #[.slice A n c] w fun e w' => e = .returned (.tuple #[.agg #[.int .i64 (fromA l).1, .int .u64 (fromA l).2.1, .int .u64 (fromA l).2.2.1], .int .i64 (fromA l).2.2.2]) ∧ Below w.heap.size w w' := by
  have hn : l.length = n := hr.1
  subst hn
  have hev : ∃ k, GA.addr_From.f k l = some (fromA l) := by
    unfold GA.addr_From.f fromA
    by_cases h4 : l.length = 4
    · obtain ⟨k, hk⟩ := (from4 l hb h4 4 0 (by omega)).rounds
      refine ⟨k + 1, ?_⟩
      rw [if_pos (by omega), if_pos h4]
      simp only [GA.addr_From.j0]
      rw [h4]
      exact hk
    · by_cases h16 : l.length = 16
      · obtain ⟨k, hk⟩ := (from16 l hb h16 16 0 (by omega)).rounds
        refine ⟨k + 1, ?_⟩
        rw [if_neg (by omega), if_pos (by omega), if_neg h4, if_pos h16]
        simp only [GA.addr_From.j0]
        rw [h16]
        exact hk
      · exact ⟨0, by rw [if_neg (by omega), if_neg (by omega), if_neg h4, if_neg h16]⟩
  obtain ⟨k, hk⟩ := hev
  exact GA.addr_From.calls k A c l _ _ _ _ w hr hc hk
theorem fromA_16 {l : List Int} (h : l.length = 16) : fromA l = (6, be (l.take 8), be (l.drop 8), 0) := by unfold fromA; rw [if_neg (by omega), if_pos h]
structure IpV where
  fam : Int
  src : Int × Int × Int
  dst : Int × Int × Int
  proto : Int
  hop : Int
  frag : Bool
  id : Int
  off : Int
  more : Bool
  exts : List Int
  data : List Int
def zeroV : IpV := ⟨0, (0, 0, 0), (0, 0, 0), 0, 0, false, 0, 0, false, [], []⟩
def ipCells (p : IpV) (vE vD : Value) : Array Value :=
  #[.int .i64 p.fam, .int .i64 p.src.1, .int .u64 p.src.2.1, .int .u64 p.src.2.2, .int .i64 p.dst.1, .int .u64 p.dst.2.1, .int .u64 p.dst.2.2, .int .i64 p.proto, .int .i64 p.hop, .bool p.frag, .int .u32 p.id, .int .i64 p.off, .bool p.more, vE, vD]
theorem ipCells_one (p : IpV) (A B : Option Addr) (n c m d : Nat) : (ipCells p (.slice A n c) (.slice B m d)).all (·.oneCell') = true := by simp [ipCells, Value.oneCell']
def least6 (n : Int) : Int := if n = 6 then 20 else if n = 17 ∨ n = 1 ∨ n = 58 then 8 else 0
def whole6 (proto : Int) (d : List Int) : Bool := decide ((walk6 proto d).2.2.2 = 0 ∧ least6 (walk6 proto d).1 ≤ ((walk6 proto d).2.2.1.length : Int))
def addrOf (l : List Int) : Int × Int × Int := ((fromA l).1, (fromA l).2.1, (fromA l).2.2.1)
def end6 (b : List Int) (r : Int × S6) : IpV × Int :=
  if r.1 ≠ 0 then (zeroV, r.1)
  else if (r.2.fr.getD (0, 0, false)).2.2 = true ∧ r.2.rest.length % 8 ≠ 0 then (zeroV, 5)
  else if r.2.fr.isSome = true ∧ 65535 < (r.2.fr.getD (0, 0, false)).2.1 + r.2.rest.length then (zeroV, 11)
  else if r.2.fr.isSome = true ∧ (r.2.fr.getD (0, 0, false)).2.1 = 0 ∧ whole6 r.2.next r.2.rest = false then (zeroV, 4)
  else (⟨6, addrOf ((b.drop 8).take 16), addrOf ((b.drop 24).take 16), r.2.next, rd b 7, r.2.fr.isSome, (r.2.fr.getD (0, 0, false)).1, (r.2.fr.getD (0, 0, false)).2.1, (r.2.fr.getD (0, 0, false)).2.2, r.2.exts, r.2.rest⟩, 0)
def parse6 (b : List Int) : IpV × Int :=
  if b.length < 40 then (zeroV, 2)
  else if rd b 0 / 16 ≠ 6 then (zeroV, 3)
  else if (b.length : Int) - 40 < u16 b 4 then (zeroV, 5)
  else if rd b 7 = 0 then (zeroV, 26)
  else end6 b (run6 true 9 ⟨rd b 6, (b.drop 40).take (u16 b 4).toNat, [], false, false, none⟩)
def IpPost (w : World) (r : IpV × Int) (e : Ending) (w' : World) : Prop :=
  ∃ vE vD : Value, e = .returned (.tuple #[.agg (ipCells r.1 vE vD), .int .i64 r.2]) ∧ Kd.R (Kd.int .i64) 3 w' w.heap.size (fun _ => True) vE r.1.exts ∧ Kd.R (Kd.int .u8) 5 w' w.heap.size (fun _ => True) vD r.1.data ∧ Below w.heap.size w w'
theorem run_lookup_ints1 {P : Program} (W : World) (mt kt et : TypeId) (h : P.underlying mt = some (.map kt et)) (hk : P.underlying kt = some (.int .i64)) (i0 : TypeInfo) (hi : P.info? et = some i0) (z : Value) (hz : i0.zero = some z) (r clock : Nat) (ks : List (Int × Value × Nat)) (hb : W.heap[r]? = some (.map (ints ks) clock)) (x : Int) :
    (Instr.lookup mt (.map (some r)) (.int .i64 x) false).run P W = .ok (match ks.findIdx? fun k => k.1 == x with | some j => (ks[j]?.map fun k => k.2.1).getD .nilIface | none => z) W := by
  have hf := find_ints _ x ks rfl 0
  simp only [Nat.zero_add] at hf
  have hg := Go.MapKept.run_getObj_map (P := P) hb
  have hc := fun e => Go.MapKept.run_checkKey (P := P) (w := W) (k := .int .i64 x) hk (by trivial) e 9999
  have hl : (ints ks).toList = ks.map fun k => (⟨.int .i64 k.1, k.2.1, k.2.2⟩ : MapEntry) := by simp [ints]
  have hfk := Go.MapKept.run_findKey (P := P) (w := W) hk hf
  have hzv : (zeroValue et).run P W = .ok z W := by simp [zeroValue, typeInfo, hi, hz]
  unfold Instr.lookup
  simp only [Sem.run_bind, run_underlying h, Result.andThen_ok, Sem.run_pure, hg, hc, hl, hfk]
  cases hh : ks.findIdx? (fun k => k.1 == x) with
  | none => simp [hzv]
  | some j => simp
def leasts : List (Int × Value × Nat) := [(6, .int .i64 20, 0), (17, .int .i64 8, 1), (1, .int .i64 8, 2), (58, .int .i64 8, 3)]
theorem least_found (x : Int) : (match leasts.findIdx? fun k => k.1 == x with | some j => (leasts[j]?.map fun k : Int × Value × Nat => k.2.1).getD Value.nilIface | none => Value.int .i64 0) = Value.int .i64 (least6 x) := by
  by_cases h6 : x = 6
  · subst h6; rfl
  · by_cases h17 : x = 17
    · subst h17; rfl
    · by_cases h1 : x = 1
      · subst h1; rfl
      · by_cases h58 : x = 58
        · subst h58; rfl
        · have b1 : ((6 : Int) == x) = false := by simp; omega
          have b2 : ((17 : Int) == x) = false := by simp; omega
          have b3 : ((1 : Int) == x) = false := by simp; omega
          have b4 : ((58 : Int) == x) = false := by simp; omega
          simp [leasts, List.findIdx?_cons, b1, b2, b3, b4, least6, h6, h17, h1, h58]
set_option maxHeartbeats 1000000 in
set_option maxRecDepth 100000 in
theorem Whole_at {w : World} {next : Int} {A : Option Addr} {n c : Nat} {l : List Int} (hr : (Kd.int .u8).C w A n l) (hc : n ≤ c) (hby : Bytes l) (hn : n ≤ 140737488355000) :
    Calls Try.prog 101 #[.int .i64 next, .slice A n c] w fun e w' => e = .returned (.bool (whole6 next l)) ∧ Below w.heap.size w w' := by
  have hcall := Walk_at (next := next) hr hc hby hn
  have hinv := walk6_inv (next := next) hby
  have hwh : whole6 next l = decide ((walk6 next l).2.2.2 = 0 ∧ least6 (walk6 next l).1 ≤ ((walk6 next l).2.2.1.length : Int)) := rfl
  rw [hwh]
  obtain ⟨m, E, D, e, hw⟩ : ∃ m E D e, walk6 next l = (m, E, D, e) := ⟨_, _, _, _, rfl⟩
  rw [hw] at hcall hinv ⊢
  have HC := Aside0.mk hcall
  have hmaps : ∀ w1 : World, Below w.heap.size w w1 → ∃ W4, (Instr.makeMap 178 none).run Try.prog w1 = .ok (.map (some w1.heap.size)) (w1.alloc (.map #[] 0)) ∧ ∃ W1 W2 W3, (Instr.mapUpdate 178 (.map (some w1.heap.size)) (.int .i64 6) (.int .i64 20)).run Try.prog (w1.alloc (.map #[] 0)) = .ok () W1 ∧ (Instr.mapUpdate 178 (.map (some w1.heap.size)) (.int .i64 17) (.int .i64 8)).run Try.prog W1 = .ok () W2 ∧ (Instr.mapUpdate 178 (.map (some w1.heap.size)) (.int .i64 1) (.int .i64 8)).run Try.prog W2 = .ok () W3 ∧ (Instr.mapUpdate 178 (.map (some w1.heap.size)) (.int .i64 58) (.int .i64 8)).run Try.prog W3 = .ok () W4 ∧ Below w.heap.size w W4 ∧ (Instr.lookup 178 (.map (some w1.heap.size)) (.int .i64 m) false).run Try.prog W4 = .ok (.int .i64 (least6 m)) W4 := fun w1 hb1 => by
    have hB0 : Below w.heap.size w (w1.alloc (.map #[] 0)) := below_alloc hb1 _
    have hz := hb1.size
    obtain ⟨W1, e1, h1, k1, hB1⟩ := insert_next 178 3 3 Try.underlying178 Try.underlying3 w1.heap.size 0 [] (W := w1.alloc (.map #[] 0)) (blk_at rfl) 6 (.int .i64 20) rfl hB0 hz
    obtain ⟨W2, e2, h2, k2, hB2⟩ := insert_next 178 3 3 Try.underlying178 Try.underlying3 w1.heap.size 1 _ h1 17 (.int .i64 8) rfl hB1 hz
    obtain ⟨W3, e3, h3, k3, hB3⟩ := insert_next 178 3 3 Try.underlying178 Try.underlying3 w1.heap.size 2 _ h2 1 (.int .i64 8) rfl hB2 hz
    obtain ⟨W4, e4, h4, k4, hB4⟩ := insert_next 178 3 3 Try.underlying178 Try.underlying3 w1.heap.size 3 _ h3 58 (.int .i64 8) rfl hB3 hz
    obtain ⟨i0, hi, hz0, hz1, hz2⟩ := info_parts info3
    have hlk := run_lookup_ints1 (P := Try.prog) W4 178 3 3 Try.underlying178 Try.underlying3 i0 hi _ hz0 w1.heap.size 4 leasts h4 m
    rw [least_found] at hlk
    exact ⟨W4, by rw [run_makeMap], W1, W2, W3, e1, e2, e3, e4, hB4, hlk⟩
  have HM := Aside0.mk hmaps
  have hn1 : D.length ≤ 140737488355000 := by have h1 : D.length ≤ l.length := hinv.2.2; have := hr.1; omega
  clear hcall hinv hwh hw hmaps hr hby
  by_cases h0 : e = 0
  · subst h0
    have HD : Aside0 (decide ((0 : Int) = 0 ∧ least6 m ≤ (D.length : Int)) = decide (least6 m ≤ (D.length : Int))) := ⟨by simp⟩
    go_enter Try.func101, Try.ntmps101
    go_wp2_with (fail)
    refine HC.out.mono ?_
    rintro e1 w1 ⟨vE, vD, rfl, hE, hD, hB⟩
    obtain ⟨Ad, cd, rfl, hcd, hCD⟩ := Kd.R_reads hD
    obtain ⟨W4, hmk, W1, W2, W3, e1, e2, e3, e4, hB4, hlk⟩ := HM.out w1 hB
    have HB4 := Aside0.mk hB4
    clear hE hD hCD hB hB4
    go_wp2
    go_ret
    exact ⟨by rw [HD.out]; rfl, HB4.out⟩
  · have hb : (e == 0) = false := by simpa using h0
    have HD : Aside0 (decide (e = 0 ∧ least6 m ≤ (D.length : Int)) = false) := ⟨by simp [h0]⟩
    clear h0
    go_enter Try.func101, Try.ntmps101
    go_wp2_with (fail)
    refine HC.out.mono ?_
    rintro e1 w1 ⟨vE, vD, rfl, hE, hD, hB⟩
    obtain ⟨Ad, cd, rfl, hcd, hCD⟩ := Kd.R_reads hD
    obtain ⟨W4, hmk, W1, W2, W3, e1, e2, e3, e4, hB4, hlk⟩ := HM.out w1 hB
    have HB4 := Aside0.mk hB4
    clear hE hD hCD hB hB4
    go_wp2
    go_ret
    exact ⟨by rw [HD.out]; rfl, HB4.out⟩
end Go.Proofs.Ytgifcmbknkjemaa.Own
end
section
namespace Go.Proofs.Ytgifcmbknkjemaa.Own
open Go Go.RowKit Go.Proofs.YtgifcmbknkjemaaW.PrintWords Go.Proofs.YtgifcmbknkjemaaW.PrintLast Go.Proofs.YtgifcmbknkjemaaW.PrintMore
set_option linter.unusedVariables false
set_option linter.unusedSimpArgs false
theorem rd_app {a b : List Int} {i : Int} (h0 : 0 ≤ i) (h : i < a.length) : rd (a ++ b) i = rd a i := by
  unfold rd
  rw [List.getD_eq_getElem?_getD, List.getD_eq_getElem?_getD, List.getElem?_append_left (by omega)]
theorem u16_app {a b : List Int} {i : Int} (h0 : 0 ≤ i) (h : i + 1 < a.length) : u16 (a ++ b) i = u16 a i := by
  unfold u16
  rw [rd_app h0 (by omega), rd_app (by omega) (by omega)]
theorem mid_app {a b : List Int} {o m : Nat} (h : o + m ≤ a.length) : ((a ++ b).drop o).take m = (a.drop o).take m := by
  rw [List.drop_append_of_le_length (by omega), List.take_append_of_le_length (by rw [List.length_drop]; omega)]
end Go.Proofs.Ytgifcmbknkjemaa.Own
end
section
namespace Go.Proofs.Ytgifcmbknkjemaa.Own
open Go Go.RowKit Go.Proofs.YtgifcmbknkjemaaW.PrintWords Go.Proofs.YtgifcmbknkjemaaW.PrintLast
set_option linter.unusedVariables false
def rightA (a : Int × Int × Int) : Bool := decide (a.1 = 6) || (decide (a.1 = 4) && decide (a.2.1 = 0) && decide (a.2.2 < 4294967296))
def d4 (x : Int) : List Int := [x / 16777216 % 256, x / 65536 % 256, x / 256 % 256, x % 256]
def d8 (x : Int) : List Int := [x / 72057594037927936 % 256, x / 281474976710656 % 256, x / 1099511627776 % 256, x / 4294967296 % 256, x / 16777216 % 256, x / 65536 % 256, x / 256 % 256, x % 256]
def bytesA (a : Int × Int × Int) : List Int := if rightA a = true then (if a.1 = 4 then d4 a.2.2 else d8 a.2.1 ++ d8 a.2.2) else []
def W64 (x : Int) : Prop := 0 ≤ x ∧ x < 18446744073709551616
def okA (a : Int × Int × Int) : Prop := W64 a.2.1 ∧ W64 a.2.2
theorem be_d8 (x : Int) (h : W64 x) : be (d8 x) = x := by
  obtain ⟨h0, h1⟩ := h
  simp only [be, d8, List.foldl_cons, List.foldl_nil]
  omega
theorem bytes_d4 (x : Int) : Bytes (d4 x) := fun c hc => by
  simp [d4] at hc
  omega
theorem bytes_d8 (x : Int) : Bytes (d8 x) := fun c hc => by
  simp [d8] at hc
  omega
theorem bytes_bytesA (a : Int × Int × Int) : Bytes (bytesA a) := by
  unfold bytesA
  split
  · split
    · exact bytes_d4 _
    · exact bytes_append (bytes_d8 _) (bytes_d8 _)
  · intro c hc; cases hc
theorem bytesA_six {a : Int × Int × Int} (h : rightA a = true) (h4 : a.1 = 6) : bytesA a = d8 a.2.1 ++ d8 a.2.2 := by unfold bytesA; rw [if_pos h, if_neg (by omega)]
theorem fromA_six {a : Int × Int × Int} (h : rightA a = true) (h4 : a.1 = 6) (ha : okA a) : addrOf (bytesA a) = a := by
  obtain ⟨f, x, y⟩ := a
  rw [bytesA_six h h4]
  simp only at h4
  subst h4
  unfold addrOf
  rw [fromA_16 rfl]
  have e1 : (d8 x ++ d8 y).take 8 = d8 x := rfl
  have e2 : (d8 x ++ d8 y).drop 8 = d8 y := rfl
  simp only [e1, e2]
  rw [be_d8 x ha.1, be_d8 y ha.2]
end Go.Proofs.Ytgifcmbknkjemaa.Own
end
section
namespace Go.Proofs.Ytgifcmbknkjemaa.Own
open Go Go.RowKit Go.Proofs.YtgifcmbknkjemaaW.PrintWords Go.Proofs.YtgifcmbknkjemaaW.PrintLast
set_option linter.unusedVariables false
set_option linter.unusedSimpArgs false
def IpOk (p : IpV) : Prop := 0 ≤ p.id ∧ p.id ≤ 4294967295 ∧ okA p.src ∧ okA p.dst ∧ Bytes p.data
end Go.Proofs.Ytgifcmbknkjemaa.Own
end
section
namespace Go.Proofs.Ytgifcmbknkjemaa.Own
open Go.RowKit Go.ChangeShapes Go.WideShapes Go.Deep Go.Proofs.YtgifcmbknkjemaaW.PrintWords
set_option linter.unusedVariables false
set_option linter.unusedSimpArgs false
def kdA : Kd (Int × Int × Int) := Kd.pair (Kd.int .i64) (Kd.pair (Kd.int .u64) (Kd.int .u64))
def goodA (a : Int × Int × Int) : Prop := (Lit.int .i64 a.1).wf = true ∧ (Lit.int .u64 a.2.1).wf = true ∧ (Lit.int .u64 a.2.2).wf = true
set_option maxRecDepth 100000 in
theorem opens53 : Opens 53 kdA goodA :=
  Opens.struct (d := kdA) Try.underlying53 (by kernel_rfl) (OpensFs.cons rfl (by kernel_rfl) (Opens.int (by kernel_rfl)) (OpensFs.cons rfl (by kernel_rfl) (Opens.int (by kernel_rfl)) (OpensFs.one rfl (by kernel_rfl) (Opens.int (by kernel_rfl)))))
def kdIp0 : Kd (Int × (Int × Int × Int) × (Int × Int × Int) × Int × Int × Bool × Int × Int × Bool × List Int × List Int) :=
  Kd.pair (Kd.int .i64) (Kd.pair kdA (Kd.pair kdA (Kd.pair (Kd.int .i64) (Kd.pair (Kd.int .i64) (Kd.pair Kd.bool (Kd.pair (Kd.int .u32) (Kd.pair (Kd.int .i64) (Kd.pair Kd.bool (Kd.pair (Kd.slice 3 (Kd.int .i64)) (Kd.slice 5 (Kd.int .u8)))))))))))
def ipTup (p : IpV) : Int × (Int × Int × Int) × (Int × Int × Int) × Int × Int × Bool × Int × Int × Bool × List Int × List Int := (p.fam, p.src, p.dst, p.proto, p.hop, p.frag, p.id, p.off, p.more, p.exts, p.data)
def tupIp (t : Int × (Int × Int × Int) × (Int × Int × Int) × Int × Int × Bool × Int × Int × Bool × List Int × List Int) : IpV := ⟨t.1, t.2.1, t.2.2.1, t.2.2.2.1, t.2.2.2.2.1, t.2.2.2.2.2.1, t.2.2.2.2.2.2.1, t.2.2.2.2.2.2.2.1, t.2.2.2.2.2.2.2.2.1, t.2.2.2.2.2.2.2.2.2.1, t.2.2.2.2.2.2.2.2.2.2⟩
def kdIp : Kd IpV := Kd.iso kdIp0 ipTup
structure GoodIp (p : IpV) : Prop where
  ok : IpOk p
  exts : p.exts.length * 8 ≤ 140737488351232
  data : p.data.length ≤ 140737488351232
  off : -9223372036854775808 ≤ p.off ∧ p.off ≤ 9223372036854775807
  fam : -9223372036854775808 ≤ p.fam ∧ p.fam ≤ 9223372036854775807
  proto : -9223372036854775808 ≤ p.proto ∧ p.proto ≤ 9223372036854775807
  hop : -9223372036854775808 ≤ p.hop ∧ p.hop ≤ 9223372036854775807
set_option maxRecDepth 100000 in
theorem opens43 : Opens 43 (Kd.slice 3 (Kd.int .i64)) (fun l => l.length * 8 ≤ 140737488351232 ∧ ∀ a ∈ l, (Lit.int .i64 a).wf = true) :=
  Opens.slice (by kernel_rfl) (Opens.int (by kernel_rfl)) (by kernel_rfl) (by kernel_rfl)
set_option maxRecDepth 100000 in
theorem opens55 : Opens 55 kdIp GoodIp :=
  ((Opens.struct (d := kdIp0) Try.underlying55 (by kernel_rfl) (OpensFs.cons rfl (by kernel_rfl) (Opens.int (k := .i64) (by kernel_rfl)) (OpensFs.cons rfl (by kernel_rfl) opens53 (OpensFs.cons rfl (by kernel_rfl) opens53
    (OpensFs.cons rfl (by kernel_rfl) (Opens.int (k := .i64) (by kernel_rfl)) (OpensFs.cons rfl (by kernel_rfl) (Opens.int (k := .i64) (by kernel_rfl)) (OpensFs.cons rfl (by kernel_rfl) (Opens.bool (by kernel_rfl)) (OpensFs.cons rfl (by kernel_rfl) (Opens.int (k := .u32) (by kernel_rfl))
    (OpensFs.cons rfl (by kernel_rfl) (Opens.int (k := .i64) (by kernel_rfl)) (OpensFs.cons rfl (by kernel_rfl) (Opens.bool (by kernel_rfl)) (OpensFs.cons rfl (by kernel_rfl) opens43 (OpensFs.one rfl (by kernel_rfl) opens27)))))))))))).iso ipTup tupIp (fun _ => rfl)).imp fun p h => by
    obtain ⟨h0, h1, h2, h3, h4, _, h6, h7, _, h9, h10⟩ := h
    have u6 := u32_of_wf h6
    have a1 := u64_of_wf h1.2.1
    have a2 := u64_of_wf h1.2.2
    have b1 := u64_of_wf h2.2.1
    have b2 := u64_of_wf h2.2.2
    exact ⟨⟨u6.1, u6.2, ⟨⟨a1.1, by have := a1.2; exact Int.lt_add_one_of_le this⟩, ⟨a2.1, by have := a2.2; exact Int.lt_add_one_of_le this⟩⟩, ⟨⟨b1.1, by have := b1.2; exact Int.lt_add_one_of_le this⟩, ⟨b2.1, by have := b2.2; exact Int.lt_add_one_of_le this⟩⟩, h10.1⟩, h9.1, h10.2, i64_of_wf h7, i64_of_wf h0, i64_of_wf h3, i64_of_wf h4⟩
theorem kdA_cells {w : World} {a : Int × Int × Int} {cs : List Value} (h : kdA.K w a cs) : cs = [.int .i64 a.1, .int .u64 a.2.1, .int .u64 a.2.2] := by
  obtain ⟨c0, c1, rfl, h0, c2, c3, rfl, h2, h3⟩ := h
  rw [show c0 = _ from h0, show c2 = _ from h2, show c3 = _ from h3]
  rfl
theorem kdIp_cells {w : World} {p : IpV} {cs : List Value} (h : kdIp.K w p cs) : ∃ (Ae Ad : Option Addr) (ce cd : Nat), cs.toArray = ipCells p (.slice Ae p.exts.length ce) (.slice Ad p.data.length cd) ∧ p.exts.length ≤ ce ∧ p.data.length ≤ cd ∧ (Kd.int .i64).C w Ae p.exts.length p.exts ∧ (Kd.int .u8).C w Ad p.data.length p.data := by
  obtain ⟨c0, r0, rfl, h0, c1, r1, rfl, h1, c2, r2, rfl, h2, c3, r3, rfl, h3, c4, r4, rfl, h4, c5, r5, rfl, h5, c6, r6, rfl, h6, c7, r7, rfl, h7, c8, r8, rfl, h8, c9, c10, rfl, ⟨Ae, ce, h9, le, he⟩, ⟨Ad, cd, h10, ld, hd⟩⟩ := h
  refine ⟨Ae, Ad, ce, cd, ?_, le, ld, he, hd⟩
  rw [kdA_cells h1, kdA_cells h2, show c0 = _ from h0, show c3 = _ from h3, show c4 = _ from h4, show c5 = _ from h5, show c6 = _ from h6, show c7 = _ from h7, show c8 = _ from h8, h9, h10]
  rfl
end Go.Proofs.Ytgifcmbknkjemaa.Own
end
