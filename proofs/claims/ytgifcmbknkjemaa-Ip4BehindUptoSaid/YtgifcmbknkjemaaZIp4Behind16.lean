/- What the law Ip4Behind rests on, part 16: contracts of the functions that it calls, and plain lemmas. No condition. -/
import Derived.Test.YtgifcmbknkjemaaZIp4Behind15
section
namespace Go.Proofs.Ytgifcmbknkjemaa.Own
open Go Go.RowKit Go.Proofs.YtgifcmbknkjemaaW.PrintWords Go.Proofs.YtgifcmbknkjemaaW.PrintLast Go.Proofs.Ytgifcmbknkjemaa.QQ
set_option linter.unusedVariables false
set_option linter.unusedSimpArgs false
theorem opt4_ev (d : Nat) : ∀ l : List Int, Bytes l → l.length ≤ d → d ≤ 140737488355328 → Ev (fun k => ip4_options.l0 k l) (opt4 d l) := by
  induction d with
  | zero =>
    intro l hb hl _
    refine Ev.step (fun k => ?_) (Ev.step (f := fun _ => some 0) (g := fun k => ip4_options.j1 k l false) (fun k => ?_) (Ev.now _))
    · rw [ip4_options.l0, if_neg (by omega)]
    · rw [ip4_options.j1, if_neg (by simp)]
  | succ d ih =>
    intro l hb hl hd
    simp only [opt4]
    by_cases h0 : l.length = 0
    · rw [if_pos h0]
      refine Ev.step (fun k => ?_) (Ev.step (f := fun _ => some 0) (g := fun k => ip4_options.j1 k l false) (fun k => ?_) (Ev.now _))
      · rw [ip4_options.l0, if_neg (by omega)]
      · rw [ip4_options.j1, if_neg (by simp)]
    rw [if_neg h0]
    by_cases h1 : rd l 0 = 0
    · rw [if_pos h1]
      refine Ev.step (fun k => ?_) (Ev.step (f := fun _ => some 0) (g := fun k => ip4_options.j1 k l false) (fun k => ?_) (Ev.now _))
      · rw [ip4_options.l0, if_pos (by omega), if_pos (by omega), h1]
        rfl
      · rw [ip4_options.j1, if_neg (by simp)]
    rw [if_neg h1]
    have e0 : ∀ k, ip4_options.l0 (k + 1) l = ip4_options.j1 k l true := fun k => by
      rw [ip4_options.l0, if_pos (by omega), if_pos (by omega)]
      have : (rd l 0 != 0) = true := by simpa using h1
      rw [this]
    have hdrop : ∀ m, Bytes (l.drop m) := fun m c hc => hb c (List.mem_of_mem_drop hc)
    by_cases h2 : rd l 0 = 1
    · rw [if_pos h2]
      refine Ev.step e0 (Ev.step (f := fun k => ip4_options.l0 k (l.drop 1)) (g := fun k => ip4_options.j1 k l true) (fun k => ?_) (ih _ (hdrop 1) (by rw [List.length_drop]; omega) (by omega)))
      rw [ip4_options.j1, if_pos rfl, if_pos (by omega), if_pos h2, if_pos (by omega)]
    rw [if_neg h2]
    by_cases h3 : rd l 0 = 131 ∨ rd l 0 = 137
    · rw [if_pos h3]
      refine Ev.step e0 (Ev.step (f := fun k => ip4_options.j2 k l true) (g := fun k => ip4_options.j1 k l true) (fun k => ?_) (Ev.step (f := fun _ => some 8) (fun k => ?_) (Ev.now _)))
      · rw [ip4_options.j1, if_pos rfl, if_pos (by omega), if_neg h2]
        by_cases h4 : rd l 0 = 131
        · rw [if_pos h4, h4]; rfl
        · rw [if_neg h4]
          have h5 : rd l 0 = 137 := by omega
          rw [h5]; rfl
      · rw [ip4_options.j2, if_pos rfl]
    rw [if_neg h3]
    have e1 : ∀ k, ip4_options.j1 (k + 1) l true = ip4_options.j2 k l false := fun k => by
      rw [ip4_options.j1, if_pos rfl, if_pos (by omega), if_neg h2, if_neg (by omega)]
      have : (rd l 0 == 137) = false := by
        simp
        omega
      rw [this]
    have hb1 := rd_byte hb 1
    have w1 : wrap64 (rd l 1) = rd l 1 := w64 _ (by omega) (by omega)
    by_cases h4 : l.length < 2 ∨ rd l 1 < 2 ∨ (l.length : Int) < rd l 1
    · rw [if_pos h4]
      refine Ev.step e0 (Ev.step e1 (Ev.step (f := fun _ => some 7) (fun k => ?_) (Ev.now _)))
      rw [ip4_options.j2, if_neg (by simp), w1]
      by_cases c1 : (l.length : Int) < 2
      · rw [if_pos c1]
      rw [if_neg c1, if_pos (by omega)]
      by_cases c2 : rd l 1 < 2
      · rw [if_pos c2]
      rw [if_neg c2, if_pos (by omega)]
    · rw [if_neg h4]
      refine Ev.step e0 (Ev.step e1 (Ev.step (f := fun k => ip4_options.l0 k (l.drop (rd l 1).toNat)) (fun k => ?_) (ih _ (hdrop _) (by rw [List.length_drop]; omega) (by omega))))
      rw [ip4_options.j2, if_neg (by simp), w1, if_neg (by omega), if_pos (by omega), if_neg (by omega), if_neg (by omega), if_pos (by omega), if_pos (by omega)]
theorem Opt4_at {A : Option Addr} {c n : Nat} {l : List Int} {w : World} (hr : (Kd.int .u8).C w A n l) (hc : n ≤ c) (hb : Bytes l) (hl : n ≤ 60) :
    Calls Try.prog 113 #[.slice A n c] w fun e w' => e = .returned (.int .i64 (opt4 60 l)) ∧ Below w.heap.size w w' := by
  have hn : l.length = n := hr.1
  subst hn
  obtain ⟨k, hk⟩ := (opt4_ev 60 l hb hl (by omega)).rounds
  exact ip4_options.calls k (fun _ => True) A c l _ w (V_of_C hr hc) hk
end Go.Proofs.Ytgifcmbknkjemaa.Own
end
section
namespace Go.Proofs.Ytgifcmbknkjemaa.Own
open Go Go.RowKit Go.Proofs.YtgifcmbknkjemaaW.PrintWords Go.Proofs.YtgifcmbknkjemaaW.PrintLast Go.Proofs.YtgifcmbknkjemaaW.PrintMore
set_option linter.unusedVariables false
set_option linter.unusedSimpArgs false
structure MidP (w : World) (g pb : Nat) (vD : Value) (da : List Int) (cells : Array Value) (wc : World) : Prop where
  g0 : wc.heap[g]? = some (.cells zeroC 55 (0, 0))
  p : wc.heap[pb]? = some (.cells cells 55 (0, 0))
  ne : g < pb
  ge : w.heap.size ≤ g
  hD : Kd.R (Kd.int .u8) 5 wc w.heap.size (fun _ => True) vD da
  hB : Below w.heap.size w wc
theorem MidP.below {w wc wd : World} {g pb : Nat} {vD : Value} {da : List Int} {cells : Array Value} (h : MidP w g pb vD da cells wc) (hb : Below wc.heap.size wc wd) : MidP w g pb vD da cells wd :=
  ⟨(hb.block _ (lt_of_heap h.g0)).trans h.g0, (hb.block _ (lt_of_heap h.p)).trans h.p, h.ne, h.ge, Kd.R_below h.hD hb, below_then h.hB h.hB.size hb⟩
theorem MidP.set {w wc : World} {g pb : Nat} {vD : Value} {da : List Int} {cells : Array Value} (h : MidP w g pb vD da cells wc) (i : Nat) (v : Value) : MidP w g pb vD da (cells.setIfInBounds i v) (wc.setCell ⟨pb, i, none⟩ v) :=
  ⟨(heap_setCell_other wc ⟨pb, i, none⟩ _ v (Nat.ne_of_lt h.ne)).trans h.g0, obj_set h.p i v, h.ne, h.ge, Kd.R_set h.hD h.p (by intro q hq; simp [Kd.int, Kd.scalar] at hq; omega) i v, h.hB.setCell (Nat.le_trans h.ge (Nat.le_of_lt h.ne)) v⟩
theorem MidP.drewN {w wc : World} {g pb : Nat} {vD : Value} {da : List Int} {cells : Array Value} (h : MidP w g pb vD da cells wc) (m : Nat) : MidP w g pb vD da cells (wc.drewN m) := ⟨h.g0, h.p, h.ne, h.ge, Kd.R_move h.hD (fun _ _ => rfl), pw_below_drewN h.hB m⟩
theorem MidP.done {w wc : World} {g pb : Nat} {vD : Value} {da : List Int} {cells cs : Array Value} (h : MidP w g pb vD da cells wc) {r : IpV × Int} (hr : r.1.exts = [] ∧ r.1.data = da) (hcs : cs = ipCells r.1 (.slice none 0 0) vD) : IpPost w r (.returned (.tuple #[.agg cs, .int .i64 r.2])) (wc.setRow g cs) :=
  ⟨.slice none 0 0, vD, by rw [hcs], by rw [hr.1]; exact Kd.R_nil _ _ _ _ _, by rw [hr.2]; exact R_setRow h.hD h.g0 (by intro q hq; simp [Kd.int, Kd.scalar] at hq; omega), below_setRow h.hB h.ge _⟩
theorem u8_and15 (x : Int) (h0 : 0 ≤ x) (h1 : x ≤ 255) : Go.bits .and .u8 x 15 = x % 16 :=
  bits_mask .u8 8 (by decide) (fun n h0 h1 => by rw [IntKind.wrap_u8]; omega) 4 (by decide) x h0 (by omega)
theorem i64_and8191 (x : Int) (h0 : 0 ≤ x) (h1 : x < 9223372036854775808) : Go.bits .and .i64 x 8191 = x % 8192 :=
  bits_mask .i64 63 (by decide) wraps_i64 13 (by decide) x h0 h1
theorem i64_and1' (x : Int) (h0 : 0 ≤ x) (h1 : x < 9223372036854775808) : Go.bits .and .i64 x 1 = x % 2 :=
  bits_mask .i64 63 (by decide) wraps_i64 1 (by decide) x h0 h1
def rest4 (l : List Int) (hd tot : Nat) (pl : Int) : IpV × Int :=
  if sumOf [l.take hd] ≠ 65535 then (zeroV, 6)
  else if rd l 8 = 0 then (zeroV, 26)
  else if 128 ≤ rd l 6 then (zeroV, 10)
  else if opt4 60 ((l.take hd).drop 20) ≠ 0 then (zeroV, opt4 60 ((l.take hd).drop 20))
  else if pl / 8192 % 2 = 1 ∧ ((tot : Int) - hd) % 8 ≠ 0 then (zeroV, 5)
  else if 65515 < pl % 8192 * 8 + ((tot : Int) - hd) then (zeroV, 11)
  else if pl / 8192 % 2 = 1 ∨ 0 < pl % 8192 then
    (⟨4, addrOf ((l.drop 12).take 4), addrOf ((l.drop 16).take 4), rd l 9, rd l 8, true, u16 l 4, pl % 8192 * 8, decide (pl / 8192 % 2 = 1), [], (l.take tot).drop hd⟩, 0)
  else (⟨4, addrOf ((l.drop 12).take 4), addrOf ((l.drop 16).take 4), rd l 9, rd l 8, false, 0, 0, false, [], (l.take tot).drop hd⟩, 0)
theorem parse4_by {l : List Int} {hd tot : Nat} {pl : Int} (h1 : rd l 0 % 16 * 4 = hd) (h2 : u16 l 2 = tot) (h3 : u16 l 6 = pl) :
    parse4 l = if l.length < 20 then (zeroV, 2) else if rd l 0 / 16 ≠ 4 then (zeroV, 3) else if hd < 20 ∨ l.length < hd then (zeroV, 4) else if tot < hd ∨ l.length < tot then (zeroV, 5) else rest4 l hd tot pl := by
  unfold parse4 rest4
  rw [h1, h2, h3]
  simp only [Int.toNat_natCast, Int.ofNat_lt]
  have e : ((hd : Int) < 20) ↔ hd < 20 := by omega
  simp only [e]
end Go.Proofs.Ytgifcmbknkjemaa.Own
end
