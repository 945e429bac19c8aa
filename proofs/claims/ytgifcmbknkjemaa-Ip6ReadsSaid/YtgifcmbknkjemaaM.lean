/- Words for walks by hand: blocks that the call has laid, literals of bytes and of slices of bytes. No condition. -/
import Derived.Test.YtgifcmbknkjemaaC2
namespace Go.Proofs.Ytgifcmbknkjemaa.Own
open Go Go.RowKit Go.Proofs.YtgifcmbknkjemaaW.PrintWords Go.Proofs.YtgifcmbknkjemaaW.PrintLast
set_option linter.unusedVariables false
set_option linter.unusedSimpArgs false

theorem blk_at {W : World} {o : Obj} {n : Nat} (h : n = W.heap.size) : (W.alloc o).heap[n]? = some o := by
  subst h
  exact heap_alloc_new W o
/-- A literal of one-cell elements. -/
theorem lit_cells {W : World} {b n : Nat} {t : TypeId} {vs : List Value} {α : Type} {d : Kd α} {xs : List α} (hb : W.heap[b]? = some (.cells vs.toArray t (0, 0))) (hsz : d.sz = 1) (hn : xs.length = n) (hm : n ≤ 9223372036854775807)
    (h : ∀ (j : Nat) (x : α), xs[j]? = some x → ∃ v, vs[j]? = some v ∧ d.K W x [v]) : d.C W (some ⟨b, 0, none⟩) n xs := by
  refine ⟨hn, hm, fun _ => ⟨_, rfl, fun j p hj => ?_⟩⟩
  obtain ⟨v, hv, hK⟩ := h j p hj
  refine ⟨[v], hsz.symm, hK, fun i u hu => ?_⟩
  match i, hu with
  | 0, hu =>
    obtain rfl : v = u := by simpa using hu
    rw [hsz, Nat.mul_one, Nat.add_zero, add_plain]
    refine (blk_cell hb j).trans ?_
    simpa using hv
theorem lit_nums {W : World} {b n : Nat} {k : IntKind} {t : TypeId} {xs : List Int} (hb : W.heap[b]? = some (.cells (nums k xs).toArray t (0, 0))) (hn : xs.length = n) (hm : n ≤ 9223372036854775807) : (Kd.int k).C W (some ⟨b, 0, none⟩) n xs :=
  lit_cells hb rfl hn hm fun j x hj => ⟨.int k x, by simp [nums, hj], rfl⟩
theorem K_sl {W : World} {e : Nat} {α : Type} {d : Kd α} {A : Option Addr} {n c : Nat} {xs : List α} (h : d.C W A n xs) (hc : n ≤ c) : (Kd.slice e d).K W xs [.slice A n c] := by
  have hn : xs.length = n := h.1
  subst hn
  exact ⟨A, c, rfl, hc, h⟩
theorem parts_one {W : World} {b : Nat} {t : TypeId} {A1 : Option Addr} {n1 c1 : Nat} {x1 : List Int} (hb : W.heap[b]? = some (.cells #[.slice A1 n1 c1] t (0, 0))) (h1 : (Kd.int .u8).C W A1 n1 x1) (l1 : n1 ≤ c1) :
    (Kd.slice 5 (Kd.int .u8)).C W (some ⟨b, 0, none⟩) 1 [x1] :=
  lit_cells (vs := [.slice A1 n1 c1]) hb rfl rfl (by omega) fun j x hj => by
    match j, hj with
    | 0, hj => obtain rfl : x1 = x := by simpa using hj
               exact ⟨_, rfl, K_sl h1 l1⟩
theorem parts_two {W : World} {b : Nat} {t : TypeId} {A1 A2 : Option Addr} {n1 c1 n2 c2 : Nat} {x1 x2 : List Int} (hb : W.heap[b]? = some (.cells #[.slice A1 n1 c1, .slice A2 n2 c2] t (0, 0))) (h1 : (Kd.int .u8).C W A1 n1 x1) (l1 : n1 ≤ c1) (h2 : (Kd.int .u8).C W A2 n2 x2) (l2 : n2 ≤ c2) :
    (Kd.slice 5 (Kd.int .u8)).C W (some ⟨b, 0, none⟩) 2 [x1, x2] :=
  lit_cells (vs := [.slice A1 n1 c1, .slice A2 n2 c2]) hb rfl rfl (by omega) fun j x hj => by
    match j, hj with
    | 0, hj => obtain rfl : x1 = x := by simpa using hj
               exact ⟨_, rfl, K_sl h1 l1⟩
    | 1, hj => obtain rfl : x2 = x := by simpa using hj
               exact ⟨_, rfl, K_sl h2 l2⟩
theorem parts_three {W : World} {b : Nat} {t : TypeId} {A1 A2 A3 : Option Addr} {n1 c1 n2 c2 n3 c3 : Nat} {x1 x2 x3 : List Int} (hb : W.heap[b]? = some (.cells #[.slice A1 n1 c1, .slice A2 n2 c2, .slice A3 n3 c3] t (0, 0))) (h1 : (Kd.int .u8).C W A1 n1 x1) (l1 : n1 ≤ c1) (h2 : (Kd.int .u8).C W A2 n2 x2) (l2 : n2 ≤ c2) (h3 : (Kd.int .u8).C W A3 n3 x3) (l3 : n3 ≤ c3) :
    (Kd.slice 5 (Kd.int .u8)).C W (some ⟨b, 0, none⟩) 3 [x1, x2, x3] :=
  lit_cells (vs := [.slice A1 n1 c1, .slice A2 n2 c2, .slice A3 n3 c3]) hb rfl rfl (by omega) fun j x hj => by
    match j, hj with
    | 0, hj => obtain rfl : x1 = x := by simpa using hj
               exact ⟨_, rfl, K_sl h1 l1⟩
    | 1, hj => obtain rfl : x2 = x := by simpa using hj
               exact ⟨_, rfl, K_sl h2 l2⟩
    | 2, hj => obtain rfl : x3 = x := by simpa using hj
               exact ⟨_, rfl, K_sl h3 l3⟩
/-- A call of Sum where the slice's length is a number. -/
theorem Sum_at {A : Option Addr} {c n : Nat} {l : List (List Int)} {w : World} (hr : (Kd.slice 5 (Kd.int .u8)).C w A n l) (hc : n ≤ c) (hp : okP l = true) :
    Calls Try.prog 40 #[.slice A n c] w fun e w' => e = .returned (.int .i64 (sumOf l)) ∧ Below w.heap.size w w' := by
  have hn : l.length = n := hr.1
  subst hn
  exact (wire_Sum.calls A c l _ w hr hc (by unfold wire_Sum.f; rw [if_pos hp])).mono fun e w' h => ⟨h.1, h.2.below⟩
theorem Check_at {A : Option Addr} {c n : Nat} {l : List (List Int)} {w : World} (hr : (Kd.slice 5 (Kd.int .u8)).C w A n l) (hc : n ≤ c) (hp : okP l = true) :
    Calls Try.prog 41 #[.slice A n c] w fun e w' => e = .returned (.int .i64 (65535 - sumOf l)) ∧ Below w.heap.size w w' := by
  have hn : l.length = n := hr.1
  subst hn
  exact (wire_Check.calls A c l _ w hr hc (by unfold wire_Check.f; rw [if_pos hp])).mono fun e w' h => ⟨h.1, h.2.below⟩
theorem alive01_at (w : World) : Calls Try.prog 42 #[] w fun e w' => e = .returned (.bool true) ∧ Below w.heap.size w w' := stockadelaw01_alive.calls true w rfl
theorem Sum_to {A : Option Addr} {c n : Nat} {l : List (List Int)} {w : World} (r : Int) (hr : (Kd.slice 5 (Kd.int .u8)).C w A n l) (hc : n ≤ c) (hp : okP l = true) (h : sumOf l = r) :
    Calls Try.prog 40 #[.slice A n c] w fun e w' => e = .returned (.int .i64 r) ∧ Below w.heap.size w w' := by
  subst h
  exact Sum_at hr hc hp
/-- Sum where the world has only drawn: its letter stays. -/
theorem Sum_drawn {A : Option Addr} {c n : Nat} {l : List (List Int)} {w : World} (hr : (Kd.slice 5 (Kd.int .u8)).C w A n l) (hc : n ≤ c) (hp : okP l = true) :
    Calls Try.prog 40 #[.slice A n c] w fun e w' => e = .returned (.int .i64 (sumOf l)) ∧ ∃ m, w' = w.drewN m := by
  have hn : l.length = n := hr.1
  subst hn
  exact (wire_Sum.calls A c l _ w hr hc (by unfold wire_Sum.f; rw [if_pos hp])).mono fun e w' h => ⟨h.1, h.2.out⟩

theorem and_evens (x : Nat) (hx : x < 2 ^ 64) : x &&& 18446744073709551614 = x - x % 2 := by
  apply Nat.eq_of_testBit_eq
  intro i
  rw [Nat.testBit_and]
  cases i with
  | zero =>
    rw [Nat.testBit_zero, Nat.testBit_zero, Nat.testBit_zero, show (x - x % 2) % 2 = 0 by omega]
    simp
  | succ i =>
    have h1 : Nat.testBit 18446744073709551614 (i + 1) = decide (i < 63) := by
      rw [Nat.testBit_succ, show 18446744073709551614 / 2 = 2 ^ 63 - 1 by decide, Nat.testBit_two_pow_sub_one]
    have h2 : (x - x % 2).testBit (i + 1) = x.testBit (i + 1) := by
      rw [Nat.testBit_succ, Nat.testBit_succ, show (x - x % 2) / 2 = x / 2 by omega]
    rw [h1, h2]
    by_cases hi : i < 63
    · simp [hi]
    · have : x.testBit (i + 1) = false := Nat.testBit_lt_two_pow (Nat.lt_of_lt_of_le hx (Nat.pow_le_pow_right (by omega) (by omega)))
      simp [hi, this]
theorem ofInt_u64 (x : Nat) (h : x < 2 ^ 64) : (BitVec.ofInt 64 (x : Int)).toNat = x := by
  rw [BitVec.ofInt_natCast, BitVec.toNat_ofNat]
  exact Nat.mod_eq_of_lt h
theorem andNot_even (n : Nat) (h1 : n < 4611686018427387904) : Go.bits .andNot .i64 (n : Int) 1 = ((n / 2 * 2 : Nat) : Int) := by
  show IntKind.i64.wrap ((BitVec.ofInt 64 (n : Int) &&& ~~~BitVec.ofInt 64 1).toNat : Int) = _
  have h2 : (BitVec.ofInt 64 1).toNat = 1 := by decide
  rw [BitVec.toNat_and, BitVec.toNat_not, ofInt_u64 n (by omega), h2, show 2 ^ 64 - 1 - 1 = 18446744073709551614 by decide, and_evens n (by omega)]
  rw [wraps_i64 _ (by omega) (by omega)]
  omega
theorem block_add (a : Addr) (n : Nat) : (a.add n).block = a.block := by unfold Addr.add; split <;> rfl
/-- What is read of numbers stays read wherever the old blocks stand. -/
theorem F_of_C {w : World} {k : IntKind} {A : Option Addr} {n : Nat} {xs : List Int} (h : (Kd.int k).C w A n xs) : Kd.F (Kd.int k) w (fun _ => True) A n xs := fun W' hW => by
  refine ⟨h.1, h.2.1, fun hn => ?_⟩
  obtain ⟨ad, rfl, hc⟩ := h.2.2 hn
  refine ⟨ad, rfl, fun j p hj => ?_⟩
  obtain ⟨c, hs, hK, hcell⟩ := hc j p hj
  refine ⟨c, hs, hK, fun i u hu => ?_⟩
  have h1 := hcell i u hu
  have hlt : ad.block < w.heap.size := by
    have := World.block_lt_of_cell? w _ h1
    rwa [block_add] at this
  exact (World.cell?_of_block (by rw [block_add]; exact hW _ trivial hlt)).trans h1
theorem V_of_C {w : World} {k : IntKind} {e base : Nat} {A : Option Addr} {c : Nat} {xs : List Int} (h : (Kd.int k).C w A xs.length xs) (hc : xs.length ≤ c) : Kd.V (Kd.int k) e w base (fun _ => True) (.slice A xs.length c) xs := Kd.V_mk hc (F_of_C h)
/-- A row of the call's own that isn't empty: its block. -/
theorem own_form_u8 {w w1 : World} {v : Value} {xs : List Int} (h : Kd.R (Kd.int .u8) 5 w1 w.heap.size (fun _ => True) v xs) (hn : 0 < xs.length) :
    ∃ g cap, v = .slice (some ⟨g, 0, none⟩) xs.length cap ∧ w.heap.size ≤ g ∧ g < w1.heap.size ∧ xs.length ≤ cap ∧ Aside0 (w1.ownsRow w.heap.size 5 1 (.slice (some ⟨g, 0, none⟩) xs.length cap) xs.length (nums .u8 xs)) := by
  have h2 := Kd.own_of_R h
  obtain ⟨g, cap, rfl, hb, hl⟩ := h2.form hn
  obtain ⟨A, c, he, hle, _⟩ := Kd.R_reads h
  injection he with _ _ he
  subst he
  exact ⟨g, cap, rfl, hb, hl, hle, ⟨h2⟩⟩
theorem C_of_own {w : World} {base n c : Nat} {e : TypeId} {k : IntKind} {A : Option Addr} {xs : List Int} (h : w.ownsRow base e 1 (.slice A n c) n (nums k xs)) : (Kd.int k).C w A n xs := by
  obtain ⟨A', c', he, hr⟩ := own_reads h
  injection he with h1 h2 h3
  subst h1
  exact Kd.C_of_reads (d := (0 : Int)) (h1 := fun _ => rfl) hr
theorem own_form_n {w w1 : World} {v : Value} {xs : List Int} {n : Nat} (hl : xs.length = n) (h : Kd.R (Kd.int .u8) 5 w1 w.heap.size (fun _ => True) v xs) (hn : 0 < n) :
    ∃ g cap, v = .slice (some ⟨g, 0, none⟩) n cap ∧ w.heap.size ≤ g ∧ g < w1.heap.size ∧ n ≤ cap ∧ Aside0 (w1.ownsRow w.heap.size 5 1 (.slice (some ⟨g, 0, none⟩) n cap) n (nums .u8 xs)) := by
  subst hl
  exact own_form_u8 h hn
end Go.Proofs.Ytgifcmbknkjemaa.Own
