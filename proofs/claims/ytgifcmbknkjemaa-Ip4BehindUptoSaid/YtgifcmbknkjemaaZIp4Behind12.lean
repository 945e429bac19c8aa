/- What the law Ip4Behind rests on, part 12: contracts of the functions that it calls, and plain lemmas. No condition. -/
import Derived.Test.YtgifcmbknkjemaaZIp4Behind11
section
namespace Go.Proofs.Ytgifcmbknkjemaa.Own
open Go Go.RowKit Go.Proofs.YtgifcmbknkjemaaW.PrintWords Go.Proofs.YtgifcmbknkjemaaW.PrintLast Go.Proofs.YtgifcmbknkjemaaW.PrintMore
set_option linter.unusedVariables false
set_option linter.unusedSimpArgs false
theorem size_alloc' (w : World) (o : Obj) : (w.alloc o).heap.size = w.heap.size + 1 := by simp
def be (l : List Int) : Int := l.foldl (fun a c => a * 256 + c) 0
theorem be_snoc (l : List Int) (c : Int) : be (l ++ [c]) = be l * 256 + c := by simp [be, List.foldl_append]
theorem fold_be (l : List Int) : ∀ a : Int, l.foldl (fun a c => a * 256 + c) a = a * (256 : Int) ^ l.length + be l := by
  induction l with
  | nil => intro a; simp [be]
  | cons x l ih =>
    intro a
    simp only [List.foldl_cons, be, List.length_cons]
    rw [ih, ih (0 * 256 + x), Int.pow_succ]
    have : (a * 256 + x) * (256 : Int) ^ l.length = a * ((256 : Int) ^ l.length * 256) + x * (256 : Int) ^ l.length := by
      rw [Int.add_mul, Int.mul_assoc, Int.mul_comm 256]
    rw [this, Int.zero_mul, Int.zero_add, Int.add_assoc]
theorem be_cons (x : Int) (l : List Int) : be (x :: l) = x * (256 : Int) ^ l.length + be l := by
  have := fold_be l (0 * 256 + x)
  simp only [be, List.foldl_cons]
  rw [this, Int.zero_mul, Int.zero_add]
  rfl
theorem be_bounds (l : List Int) (hb : Bytes l) : 0 ≤ be l ∧ be l < (256 : Int) ^ l.length := by
  induction l with
  | nil => simp [be]
  | cons x l ih =>
    have h1 := ih (fun y hy => hb y (List.mem_cons_of_mem _ hy))
    have h2 := hb x List.mem_cons_self
    rw [be_cons, List.length_cons, Int.pow_succ]
    generalize (256 : Int) ^ l.length = P at *
    have h3 : x * P ≤ 255 * P := Int.mul_le_mul_of_nonneg_right h2.2 (by omega)
    have h4 : 0 ≤ x * P := Int.mul_nonneg h2.1 (by omega)
    omega
theorem pw_pos (n : Nat) : (0 : Int) < 256 ^ n := by
  induction n with
  | zero => decide
  | succ n ih => rw [Int.pow_succ]; omega
theorem pw_le {a b : Nat} (h : a ≤ b) : (256 : Int) ^ a ≤ 256 ^ b := by
  obtain ⟨d, rfl⟩ := Nat.exists_eq_add_of_le h
  induction d with
  | zero => exact Int.le_refl _
  | succ d ih =>
    have h1 := ih (by omega)
    have h2 := pw_pos (a + d)
    rw [show a + (d + 1) = (a + d) + 1 by omega, Int.pow_succ]
    omega
theorem take_rd {l : List Int} {i : Nat} (h : i < l.length) : l.take (i + 1) = l.take i ++ [rd l (i : Int)] := by
  rw [List.take_succ_eq_append_getElem h]
  simp [rd, List.getD_eq_getElem?_getD, List.getElem?_eq_getElem h]
theorem shl8 (x c : Int) (h0 : 0 ≤ x) (hc0 : 0 ≤ c) (hc1 : c ≤ 255) : Go.bits .or .u64 (IntKind.u64.wrap (x * 256)) (IntKind.u64.wrap c) = (x * 256) % 18446744073709551616 + c := by
  have e1 : IntKind.u64.wrap (x * 256) = (x * 256) % 18446744073709551616 := IntKind.wrap_u64 _
  have e2 : IntKind.u64.wrap c = c := by rw [IntKind.wrap_u64]; omega
  rw [e1, e2]
  exact bits_join .u64 64 (by decide) (fun n h0 h1 => by rw [IntKind.wrap_u64]; omega) 8 _ c (by omega) (by omega) (by omega) hc0 (by omega) (by omega)
def fromA (l : List Int) : Int × Int × Int × Int := if l.length = 4 then (4, 0, be l, 0) else if l.length = 16 then (6, be (l.take 8), be (l.drop 8), 0) else (0, 0, 0, 1)
theorem from16 (l : List Int) (hb : Bytes l) (hl : l.length = 16) (d : Nat) : ∀ i : Nat, i + d = 16 → Ev (fun k => GA.addr_From.l0 k l l 16 i 6 (be (l.take (min i 8))) (be ((l.take i).drop 8))) (6, be (l.take 8), be (l.drop 8), 0) := by
  induction d with
  | zero =>
    intro i hi
    obtain rfl : i = 16 := by omega
    refine Ev.step (fun k => ?_) (Ev.now _)
    simp only [GA.addr_From.l0]
    rw [if_neg (by omega), List.take_of_length_le (l := l) (i := 16) (by omega)]
    rfl
  | succ d ih =>
    intro i hi
    have hr := rd_byte hb (i : Int)
    have hm := be_bounds (l.take (min i 8)) (fun y hy => hb y (List.mem_of_mem_take hy))
    have hd := be_bounds ((l.take i).drop 8) (fun y hy => hb y (List.mem_of_mem_take (List.mem_of_mem_drop hy)))
    have h1 := ih (i + 1) (by omega)
    refine Ev.step (fun k => ?_) h1
    simp only [GA.addr_From.l0]
    rw [if_pos (by omega), if_pos (by omega), if_pos (by omega), hl, w64 ((16 : Nat) - 8 : Int) (by omega) (by omega), w64 ((i : Int) + 1) (by omega) (by omega)]
    rw [List.length_take] at hm
    rw [List.length_drop, List.length_take] at hd
    have hT := take_rd (l := l) (i := i) (by omega)
    by_cases h8 : i < 8
    · rw [if_pos (by omega), shl8 _ _ hm.1 hr.1 hr.2]
      have e1 : min (i + 1) 8 = i + 1 := by omega
      have e2 : min i 8 = i := by omega
      have e3 : (l.take (i + 1)).drop 8 = [] := List.drop_eq_nil_of_le (by rw [List.length_take]; omega)
      have e4 : (l.take i).drop 8 = [] := List.drop_eq_nil_of_le (by rw [List.length_take]; omega)
      rw [e2] at hm ⊢
      rw [e1, e3, e4, hT, be_snoc]
      have hp : (256 : Int) ^ min i l.length ≤ 256 ^ 7 := pw_le (by omega)
      rw [Int.emod_eq_of_lt (by omega) (by omega)]
      rfl
    · rw [if_neg (by omega), shl8 _ _ hd.1 hr.1 hr.2]
      have e1 : min (i + 1) 8 = 8 := by omega
      have e2 : min i 8 = 8 := by omega
      have e3 : (l.take (i + 1)).drop 8 = (l.take i).drop 8 ++ [rd l (i : Int)] := by
        rw [hT, List.drop_append_of_le_length (by rw [List.length_take]; omega)]
      rw [e1, e2, e3, be_snoc]
      have hp : (256 : Int) ^ (min i l.length - 8) ≤ 256 ^ 7 := pw_le (by omega)
      rw [Int.emod_eq_of_lt (by omega) (by omega)]
      rfl
theorem from4 (l : List Int) (hb : Bytes l) (hl : l.length = 4) (d : Nat) : ∀ i : Nat, i + d = 4 → Ev (fun k => GA.addr_From.l0 k l l 4 i 4 0 (be (l.take i))) (4, 0, be l, 0) := by
  induction d with
  | zero =>
    intro i hi
    obtain rfl : i = 4 := by omega
    refine Ev.step (fun k => ?_) (Ev.now _)
    simp only [GA.addr_From.l0]
    rw [if_neg (by omega), List.take_of_length_le (by omega)]
  | succ d ih =>
    intro i hi
    have hr := rd_byte hb (i : Int)
    have hm := be_bounds (l.take i) (fun y hy => hb y (List.mem_of_mem_take hy))
    have h1 := ih (i + 1) (by omega)
    refine Ev.step (fun k => ?_) h1
    simp only [GA.addr_From.l0]
    rw [if_pos (by omega), if_pos (by omega), if_pos (by omega), hl, w64 ((4 : Nat) - 8 : Int) (by omega) (by omega), w64 ((i : Int) + 1) (by omega) (by omega)]
    rw [List.length_take] at hm
    rw [if_neg (by omega), shl8 _ _ hm.1 hr.1 hr.2, take_rd (l := l) (i := i) (by omega), be_snoc]
    have hp : (256 : Int) ^ min i l.length ≤ 256 ^ 3 := pw_le (by omega)
    rw [Int.emod_eq_of_lt (by omega) (by omega)]
    rfl
theorem From_at {A : Option Addr} {c n : Nat} {l : List Int} {w : World} (hr : (Kd.int .u8).C w A n l) (hc : n ≤ c) (hb : Bytes l) :
    Calls Try.prog 102 #[.slice A n c] w fun e w' => e = .returned (.tuple #[.agg #[.int .i64 (fromA l).1, .int .u64 (fromA l).2.1, .int .u64 (fromA l).2.2.1], .int .i64 (fromA l).2.2.2]) ∧ Below w.heap.size w w' := by
  have hn : l.length = n := hr.1
  subst hn
  have hev : ∃ k, GA.addr_From.f k l = some (fromA l) := by
    unfold GA.addr_From.f fromA
    by_cases h4 : l.length = 4
    · obtain ⟨k, hk⟩ := (from4 l hb h4 4 0 (by omega)).rounds
      refine ⟨k + 1, ?_⟩
      rw [if_pos (by omega), if_pos h4]
      simp only [GA.addr_From.j0]
      rw [h4]
      exact hk
    · by_cases h16 : l.length = 16
      · obtain ⟨k, hk⟩ := (from16 l hb h16 16 0 (by omega)).rounds
        refine ⟨k + 1, ?_⟩
        rw [if_neg (by omega), if_pos (by omega), if_neg h4, if_pos h16]
        simp only [GA.addr_From.j0]
        rw [h16]
        exact hk
      · exact ⟨0, by rw [if_neg (by omega), if_neg (by omega), if_neg h4, if_neg h16]⟩
  obtain ⟨k, hk⟩ := hev
  exact GA.addr_From.calls k A c l _ _ _ _ w hr hc hk
structure IpV where
  fam : Int
  src : Int × Int × Int
  dst : Int × Int × Int
  proto : Int
  hop : Int
  frag : Bool
  id : Int
  off : Int
  more : Bool
  exts : List Int
  data : List Int
def zeroV : IpV := ⟨0, (0, 0, 0), (0, 0, 0), 0, 0, false, 0, 0, false, [], []⟩
def ipCells (p : IpV) (vE vD : Value) : Array Value :=
  #[.int .i64 p.fam, .int .i64 p.src.1, .int .u64 p.src.2.1, .int .u64 p.src.2.2, .int .i64 p.dst.1, .int .u64 p.dst.2.1, .int .u64 p.dst.2.2, .int .i64 p.proto, .int .i64 p.hop, .bool p.frag, .int .u32 p.id, .int .i64 p.off, .bool p.more, vE, vD]
theorem ipCells_one (p : IpV) (A B : Option Addr) (n c m d : Nat) : (ipCells p (.slice A n c) (.slice B m d)).all (·.oneCell') = true := by simp [ipCells, Value.oneCell']
def addrOf (l : List Int) : Int × Int × Int := ((fromA l).1, (fromA l).2.1, (fromA l).2.2.1)
def IpPost (w : World) (r : IpV × Int) (e : Ending) (w' : World) : Prop :=
  ∃ vE vD : Value, e = .returned (.tuple #[.agg (ipCells r.1 vE vD), .int .i64 r.2]) ∧ Kd.R (Kd.int .i64) 3 w' w.heap.size (fun _ => True) vE r.1.exts ∧ Kd.R (Kd.int .u8) 5 w' w.heap.size (fun _ => True) vD r.1.data ∧ Below w.heap.size w w'
end Go.Proofs.Ytgifcmbknkjemaa.Own
end
