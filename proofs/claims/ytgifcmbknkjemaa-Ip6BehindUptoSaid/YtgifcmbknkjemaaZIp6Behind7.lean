/- What the law Ip6Behind rests on, part 7: contracts of the functions that it calls, and plain lemmas. No condition. -/
import Derived.Test.YtgifcmbknkjemaaZIp6Behind6
section
namespace Go.Proofs.Ytgifcmbknkjemaa.Own
open Go Go.RowKit Go.Proofs.YtgifcmbknkjemaaW.PrintWords Go.Proofs.YtgifcmbknkjemaaW.PrintLast
set_option linter.unusedVariables false
set_option linter.unusedSimpArgs false
theorem bytes_append {xs ys : List Int} (hx : Bytes xs) (hy : Bytes ys) : Bytes (xs ++ ys) := fun c hc => by
  rcases List.mem_append.1 hc with h | h
  · exact hx c h
  · exact hy c h
end Go.Proofs.Ytgifcmbknkjemaa.Own
end
section
namespace Go.Proofs.Ytgifcmbknkjemaa.Own
open Go Go.RowKit Go.Proofs.YtgifcmbknkjemaaW.PrintWords Go.Proofs.YtgifcmbknkjemaaW.PrintLast
set_option linter.unusedVariables false
set_option linter.unusedSimpArgs false
theorem blk_at {W : World} {o : Obj} {n : Nat} (h : n = W.heap.size) : (W.alloc o).heap[n]? = some o := by
  subst h
  exact heap_alloc_new W o
theorem ofInt_u64 (x : Nat) (h : x < 2 ^ 64) : (BitVec.ofInt 64 (x : Int)).toNat = x := by
  rw [BitVec.ofInt_natCast, BitVec.toNat_ofNat]
  exact Nat.mod_eq_of_lt h
theorem block_add (a : Addr) (n : Nat) : (a.add n).block = a.block := by unfold Addr.add; split <;> rfl
theorem F_of_C {w : World} {k : IntKind} {A : Option Addr} {n : Nat} {xs : List Int} (h : (Kd.int k).C w A n xs) : Kd.F (Kd.int k) w (fun _ => True) A n xs := fun W' hW => by
  refine ⟨h.1, h.2.1, fun hn => ?_⟩
  obtain ⟨ad, rfl, hc⟩ := h.2.2 hn
  refine ⟨ad, rfl, fun j p hj => ?_⟩
  obtain ⟨c, hs, hK, hcell⟩ := hc j p hj
  refine ⟨c, hs, hK, fun i u hu => ?_⟩
  have h1 := hcell i u hu
  have hlt : ad.block < w.heap.size := by
    have := World.block_lt_of_cell? w _ h1
    rwa [block_add] at this
  exact (World.cell?_of_block (by rw [block_add]; exact hW _ trivial hlt)).trans h1
theorem V_of_C {w : World} {k : IntKind} {e base : Nat} {A : Option Addr} {c : Nat} {xs : List Int} (h : (Kd.int k).C w A xs.length xs) (hc : xs.length ≤ c) : Kd.V (Kd.int k) e w base (fun _ => True) (.slice A xs.length c) xs := Kd.V_mk hc (F_of_C h)
end Go.Proofs.Ytgifcmbknkjemaa.Own
end
section
namespace Go.Proofs.Ytgifcmbknkjemaa.Own
open Go Go.RowKit Go.Proofs.YtgifcmbknkjemaaW.PrintWords Go.Proofs.YtgifcmbknkjemaaW.PrintLast Go.Proofs.YtgifcmbknkjemaaW.PrintMore
set_option linter.unusedVariables false
set_option linter.unusedSimpArgs false
def optE (l : List Int) : Nat → Nat → Int
  | 0, _ => 0
  | k + 1, i => if l.length ≤ i then 0 else if rd l i = 0 then optE l k (i + 1) else if l.length ≤ i + 1 then 7 else if rd l i > 63 then 7 else if rd l (i + 1 : Nat) > (l.length : Int) - i - 2 then 7 else optE l k (i + 2 + (rd l (i + 1 : Nat)).toNat)
theorem rd_drop (l : List Int) (i j : Nat) : rd (l.drop i) (j : Int) = rd l (i + j : Nat) := by
  unfold rd
  rw [Int.toNat_natCast, Int.toNat_natCast, List.getD_eq_getElem?_getD, List.getD_eq_getElem?_getD, List.getElem?_drop]
theorem rd_byte' (l : List Int) (h : Bytes l) (i : Int) : 0 ≤ rd l i ∧ rd l i ≤ 255 := by
  unfold rd
  rw [List.getD_eq_getElem?_getD]
  rcases hh : l[i.toNat]? with _ | c
  · decide
  · exact h c (List.mem_of_getElem? hh)
theorem ip6_options_ev (l : List Int) (hb : Bytes l) (hl : l.length ≤ 140737488355328) (d : Nat) : ∀ i : Nat, i ≤ l.length → l.length - i ≤ d → Ev (fun k => LA.ip6_options.l0 k (l.drop i)) (optE l d i) := by
  induction d with
  | zero =>
    intro i hi hd
    refine Ev.step (fun k => ?_) (Ev.now _)
    simp only [LA.ip6_options.l0, List.length_drop, optE]
    rw [if_neg (by omega)]
  | succ d ih =>
    intro i hi hd
    have r0 : rd (l.drop i) 0 = rd l i := rd_drop l i 0
    have r1 : rd (l.drop i) 1 = rd l (i + 1 : Nat) := rd_drop l i 1
    have b0 := rd_byte' l hb i
    have b1 := rd_byte' l hb (i + 1 : Nat)
    by_cases h0 : l.length ≤ i
    · refine Ev.step (fun k => ?_) (Ev.now _)
      simp only [LA.ip6_options.l0, List.length_drop, optE]
      rw [if_neg (by omega), if_pos h0]
    by_cases h1 : rd l i = 0
    · refine Ev.step (f := fun k => LA.ip6_options.l0 k (l.drop (i + 1))) (fun k => ?_) ?_
      · simp only [LA.ip6_options.l0, List.length_drop, List.drop_drop]
        rw [if_pos (by omega), if_pos (by omega), r0, if_pos h1, if_pos (by omega)]
      · simp only [optE]
        rw [if_neg h0, if_pos h1]
        exact ih (i + 1) (by omega) (by omega)
    by_cases h2 : l.length ≤ i + 1
    · refine Ev.step (fun k => ?_) (Ev.now _)
      simp only [LA.ip6_options.l0, List.length_drop, optE]
      rw [if_pos (by omega), if_pos (by omega), r0, if_neg h1, if_pos (by omega), if_neg h0, if_neg h1, if_pos h2]
    by_cases h3 : rd l i > 63
    · refine Ev.step (fun k => ?_) (Ev.now _)
      simp only [LA.ip6_options.l0, List.length_drop, optE]
      rw [if_pos (by omega), if_pos (by omega), r0, if_neg h1, if_neg (by omega), if_pos h3, if_neg h0, if_neg h1, if_neg h2, if_pos h3]
    have w1 := w64 (rd l (i + 1 : Nat)) (by omega) (by omega)
    have w2 := w64 (((l.length - i : Nat) : Int) - 2) (by omega) (by omega)
    have w3 := w64 (2 + rd l (i + 1 : Nat)) (by omega) (by omega)
    by_cases h4 : rd l (i + 1 : Nat) > (l.length : Int) - i - 2
    · refine Ev.step (fun k => ?_) (Ev.now _)
      simp only [LA.ip6_options.l0, List.length_drop, optE]
      rw [if_pos (by omega), if_pos (by omega), r0, if_neg h1, if_neg (by omega), if_neg h3, if_pos (by omega), r1, w1, w2, if_pos (by clear w1 w2 w3; omega), if_neg h0, if_neg h1, if_neg h2, if_neg h3, if_pos h4]
    · refine Ev.step (f := fun k => LA.ip6_options.l0 k (l.drop (i + 2 + (rd l (i + 1 : Nat)).toNat))) (fun k => ?_) ?_
      · simp only [LA.ip6_options.l0, List.length_drop, List.drop_drop]
        rw [if_pos (by clear w1 w2 w3; omega), if_pos (by clear w1 w2 w3; omega), r0, if_neg h1, if_neg (by clear w1 w2 w3; omega), if_neg h3, if_pos (by clear w1 w2 w3; omega), r1, w1, w2, if_neg (by clear w1 w2 w3; omega), w3, if_pos (by clear w1 w2 w3; omega), if_pos (by clear w1 w2 w3; omega)]
        rw [show i + (2 + rd l (i + 1 : Nat)).toNat = i + 2 + (rd l (i + 1 : Nat)).toNat by clear w1 w2 w3; omega]
      · simp only [optE]
        rw [if_neg h0, if_neg h1, if_neg h2, if_neg h3, if_neg h4]
        clear w1 w2 w3
        exact ih _ (by omega) (by omega)
def opt (l : List Int) : Int := optE l l.length 0
theorem Opt_at {A : Option Addr} {c n : Nat} {l : List Int} {w : World} (hr : (Kd.int .u8).C w A n l) (hc : n ≤ c) (hb : Bytes l) (hl : n ≤ 140737488355328) :
    Calls Try.prog 175 #[.slice A n c] w fun e w' => e = .returned (.int .i64 (opt l)) ∧ Below w.heap.size w w' := by
  have hn : l.length = n := hr.1
  subst hn
  obtain ⟨k, hk⟩ := (ip6_options_ev l hb hl l.length 0 (Nat.zero_le _) (by omega)).rounds
  exact LA.ip6_options.calls k (fun _ => True) A c l _ w (Kd.V_mono (V_of_C hr hc) (fun _ h => h)) hk
end Go.Proofs.Ytgifcmbknkjemaa.Own
end
