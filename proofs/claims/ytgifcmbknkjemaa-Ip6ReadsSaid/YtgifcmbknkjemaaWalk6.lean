/- The walk of the program's extension headers, function by function. -/
import Derived.Test.YtgifcmbknkjemaaMaps6
namespace Go.Proofs.Ytgifcmbknkjemaa.Own
open Go Go.RowKit Go.Proofs.YtgifcmbknkjemaaW.PrintWords Go.Proofs.YtgifcmbknkjemaaW.PrintLast Go.Proofs.YtgifcmbknkjemaaW.PrintMore
set_option linter.unusedVariables false
set_option linter.unusedSimpArgs false
set_option maxRecDepth 100000 in
/-- The looks: a map of the call's own. -/
theorem looks_at (w : World) (b : Nat) :
    Calls Try.prog 144 #[.pointer (some ⟨b, 0, none⟩)] w fun e w' => ∃ r x : Nat, e = .returned (.map (some r)) ∧ w.heap.size ≤ r ∧ w.heap.size ≤ x ∧ w'.heap[r]? = some (.map (ints (looksOf b x)) 4) ∧ w'.heap[x]? = some (.cells #[.pointer (some ⟨b, 0, none⟩)] 126 (0, 0)) ∧ Below w.heap.size w w' := by
  obtain ⟨x, hx⟩ : ∃ x, x = w.heap.size := ⟨_, rfl⟩
  obtain ⟨wm, hwm⟩ : ∃ wm, wm = (w.alloc (.cells #[.pointer (some ⟨b, 0, none⟩)] 126)).alloc (.map #[] 0) := ⟨_, rfl⟩
  have h0 : wm.heap[x + 1]? = some (.map (ints []) 0) := by rw [hwm, hx]; exact blk_at (by simp)
  have hbx : wm.heap[x]? = some (.cells #[.pointer (some ⟨b, 0, none⟩)] 126 (0, 0)) := by rw [hwm, hx]; exact blk_alloc (blk_at rfl) _
  have hB0 : Below w.heap.size w wm := by rw [hwm]; exact below_alloc (below_alloc (Below.refl _ _) _) _
  obtain ⟨w1, e1, h1, k1, hB1⟩ := insert_next 173 3 148 Try.underlying173 Try.underlying3 (x + 1) 0 [] h0 0 (.func (.func 174) #[] #[.pointer (some ⟨x, 0, none⟩)]) rfl hB0 (by omega)
  obtain ⟨w2, e2, h2, k2, hB2⟩ := insert_next 173 3 148 Try.underlying173 Try.underlying3 (x + 1) 1 _ h1 60 (.func (.func 176) #[] #[]) rfl hB1 (by omega)
  obtain ⟨w3, e3, h3, k3, hB3⟩ := insert_next 173 3 148 Try.underlying173 Try.underlying3 (x + 1) 2 _ h2 43 (.func (.func 177) #[] #[]) rfl hB2 (by omega)
  obtain ⟨w4, e4, h4, k4, hB4⟩ := insert_next 173 3 148 Try.underlying173 Try.underlying3 (x + 1) 3 _ h3 44 (.func (.func 178) #[.pointer (some ⟨b, 0, none⟩)] #[]) rfl hB3 (by omega)
  have hx3 : w3.heap[x]? = some (.cells #[.pointer (some ⟨b, 0, none⟩)] 126 (0, 0)) := by rw [k3 x (by omega), k2 x (by omega), k1 x (by omega), hbx]
  have hx4 : w4.heap[x]? = some (.cells #[.pointer (some ⟨b, 0, none⟩)] 126 (0, 0)) := by rw [k4 x (by omega), hx3]
  have hmk : (Instr.makeMap 173 none).run Try.prog (w.alloc (.cells #[.pointer (some ⟨b, 0, none⟩)] 126)) = .ok (.map (some (x + 1))) wm := by
    rw [run_makeMap, hwm, hx]; simp
  have C3 : w3.cell? ⟨x, 0, none⟩ = some (.pointer (some ⟨b, 0, none⟩)) := blk_cell hx3 0
  have F4 := Aside0.mk (And.intro h4 (And.intro hx4 hB4))
  clear h0 hbx hB0 h1 k1 hB1 h2 k2 hB2 h3 k3 hB3 h4 k4 hB4 hx3 hx4 hwm
  subst hx
  go_enter Try.func144, Try.ntmps144
  go_wp2_with (fail)
  go_ret
  exact ⟨w.heap.size + 1, w.heap.size, rfl, by omega, by omega, F4.out.1, F4.out.2.1, F4.out.2.2⟩
theorem C_behind {w : World} {ad : Addr} {n : Nat} {l : List Int} (h : (Kd.int .u8).C w (some ad) n l) (k : Nat) (hk : 0 < k) (hkn : k < n) : (Kd.int .u8).C w (some ⟨ad.block, ad.off + k, none⟩) (n - k) (l.drop k) := by
  have hn : l.length = n := h.1
  subst hn
  have h1 := Kd.C_drop (c := l.length + 1) (m := k) h (by omega) (by omega)
  rw [if_neg (by omega)] at h1
  have h2 : (ad.add (k * (Kd.int .u8).sz)) = ⟨ad.block, ad.off + k, none⟩ := by
    show (ad.add (k * 1)) = _
    rw [Nat.mul_one]
    unfold Addr.add
    rw [if_neg (by omega)]
  simp only [Option.map_some, h2, List.length_drop] at h1
  exact h1
set_option maxRecDepth 100000 in
theorem look60_at {ad : Addr} {c n : Nat} {l : List Int} {w : World} (hr : (Kd.int .u8).C w (some ad) n l) (hc : n ≤ c) (hb : Bytes l) (hl : 8 ≤ n) (hl2 : n ≤ 140737488355328) :
    Calls Try.prog 176 #[.slice (some ad) n c] w fun e w' => e = .returned (.int .i64 (opt (l.drop 2))) ∧ Below w.heap.size w w' := by
  have HR := Aside0.mk (C_behind hr 2 (by omega) (by omega))
  have HB := Aside0.mk (show Bytes (l.drop 2) from fun x hx => hb x (List.mem_of_mem_drop hx))
  clear hr hb
  go_enter Try.func176, Try.ntmps176
  go_wp2_with (fail)
  refine (Opt_at HR.out (by omega) HB.out (by omega)).mono ?_
  rintro e w1 ⟨rfl, hb1⟩
  go_wp2
  go_ret
  exact ⟨rfl, hb1⟩
def lookRoute (h : List Int) : Int := if rd h 2 = 0 ∨ rd h 3 ≠ 0 then 8 else 0
set_option maxRecDepth 100000 in
theorem look43_at {ad : Addr} {c n : Nat} {l : List Int} {w : World} (hr : (Kd.int .u8).C w (some ad) n l) (hc : n ≤ c) (hl : 8 ≤ n) (hl2 : n ≤ 140737488355328) :
    Calls Try.prog 177 #[.slice (some ad) n c] w fun e w' => e = .returned (.int .i64 (lookRoute l)) ∧ Below w.heap.size w w' := by
  obtain ⟨_, h2, c2⟩ := Kd.at_int hr 2 (by omega) (by omega)
  obtain ⟨_, h3, c3⟩ := Kd.at_int hr 3 (by omega) (by omega)
  obtain rfl := Option.some.inj h2
  obtain rfl := Option.some.inj h3
  have e2 : ad.add (2 : Int).toNat = ⟨ad.block, ad.off + 2, none⟩ := rfl
  have e3 : ad.add (3 : Int).toNat = ⟨ad.block, ad.off + 3, none⟩ := rfl
  rw [e2] at c2
  rw [e3] at c3
  clear h2 h3 e2 e3 hr
  by_cases z2 : rd l 2 = 0
  · have y2 : (rd l 2 == 0) = true := by simp [z2]
    go_enter Try.func177, Try.ntmps177
    go_wp2
    go_ret
    exact ⟨by simp [lookRoute, z2], Below.refl _ _⟩
  · have y2 : (rd l 2 == 0) = false := by simp [z2]
    by_cases z3 : rd l 3 = 0
    · have y3 : (rd l 3 != 0) = false := by simp [z3]
      go_enter Try.func177, Try.ntmps177
      go_wp2
      go_ret
      exact ⟨by simp [lookRoute, z2, z3], Below.refl _ _⟩
    · have y3 : (rd l 3 != 0) = true := by simp [z3]
      go_enter Try.func177, Try.ntmps177
      go_wp2
      go_ret
      exact ⟨by simp [lookRoute, z2, z3], Below.refl _ _⟩
set_option maxRecDepth 100000 in
theorem look0_at {ad : Addr} {b x c n : Nat} {l : List Int} {hop : Bool} {w : World} (hx : w.cell? ⟨x, 0, none⟩ = some (.pointer (some ⟨b, 0, none⟩))) (hh : w.cell? ⟨b, 3, none⟩ = some (.bool hop)) (hr : (Kd.int .u8).C w (some ad) n l) (hc : n ≤ c) (hb : Bytes l) (hl : 8 ≤ n) (hl2 : n ≤ 140737488355328) :
    Calls Try.prog 174 #[.slice (some ad) n c, .pointer (some ⟨x, 0, none⟩)] w fun e w' => e = .returned (.int .i64 (if hop = true then 7 else opt (l.drop 2))) ∧ Below w.heap.size w w' := by
  have HR := Aside0.mk (C_behind hr 2 (by omega) (by omega))
  have HB := Aside0.mk (show Bytes (l.drop 2) from fun x hx => hb x (List.mem_of_mem_drop hx))
  clear hr hb
  cases hop with
  | true =>
    go_enter Try.func174, Try.ntmps174
    go_wp2
    go_ret
    exact ⟨rfl, Below.refl _ _⟩
  | false =>
    go_enter Try.func174, Try.ntmps174
    go_wp2_with (fail)
    refine (Opt_at HR.out (by omega) HB.out (by omega)).mono ?_
    rintro e w1 ⟨rfl, hb1⟩
    go_wp2
    go_ret
    exact ⟨rfl, hb1⟩
def size6 (next : Int) (l : List Int) : Int × Bool := if next = 44 then (8, decide (8 ≤ l.length)) else if l.length < 2 then (0, false) else (8 * (rd l 1 + 1), decide (8 * (rd l 1 + 1) ≤ l.length))
set_option maxRecDepth 100000 in
theorem size6_at {b : Nat} {next : Int} {A : Option Addr} {c n : Nat} {l : List Int} {w : World} (h0 : w.cell? ⟨b, 0, none⟩ = some (.int .i64 next)) (h1 : w.cell? ⟨b, 1, none⟩ = some (.slice A n c)) (hr : (Kd.int .u8).C w A n l) (hc : n ≤ c) (hb : Bytes l) (hl2 : n ≤ 140737488355328) :
    Calls Try.prog 145 #[.pointer (some ⟨b, 0, none⟩)] w fun e w' => e = .returned (.tuple #[.int .i64 (size6 next l).1, .bool (size6 next l).2]) ∧ ∃ m, w' = w.drewN m := by
  have hn : l.length = n := hr.1
  by_cases z : next = 44
  · subst z
    go_enter Try.func145, Try.ntmps145
    go_wp2_with (fail)
    go_quiet (fail)
    go_wp2
    go_ret2
    refine ⟨?_, ?_⟩
    · simp [size6, hn]
      try omega
    · exact ⟨_, rfl⟩
  · have zb : (next == 44) = false := by simp [z]
    by_cases h2 : n < 2
    · go_enter Try.func145, Try.ntmps145
      go_wp2_with (fail)
      go_ret2
      exact ⟨by simp [size6, hn, z, h2], 0, rfl⟩
    · obtain ⟨ad, rfl, c1⟩ := Kd.at_int hr 1 (by omega) (by omega)
      have e1 : ad.add (1 : Int).toNat = ⟨ad.block, ad.off + 1, none⟩ := rfl
      rw [e1] at c1
      have hb1 := rd_byte' l hb 1
      obtain ⟨v, hv⟩ : ∃ v, v = rd l 1 := ⟨_, rfl⟩
      rw [← hv] at c1 hb1
      have HV := Aside0.mk hv
      clear hv hr hb e1
      go_enter Try.func145, Try.ntmps145
      go_wp2_with (fail)
      go_quiet (fail)
      go_wp2
      go_ret2
      refine ⟨?_, _, rfl⟩
      have hv := HV.out
      simp [size6, hn, z, h2, ← hv]
      try omega
end Go.Proofs.Ytgifcmbknkjemaa.Own
