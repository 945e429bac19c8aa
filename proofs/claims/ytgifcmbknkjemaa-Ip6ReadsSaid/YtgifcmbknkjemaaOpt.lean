/- Options of an extension header: the program's function and the document's come to one number. Also: sameInts. -/
import Derived.Test.YtgifcmbknkjemaaLAx1
import Derived.Test.YtgifcmbknkjemaaM
namespace Go.Proofs.Ytgifcmbknkjemaa.Own
open Go Go.RowKit Go.Proofs.YtgifcmbknkjemaaW.PrintWords Go.Proofs.YtgifcmbknkjemaaW.PrintLast Go.Proofs.YtgifcmbknkjemaaW.PrintMore
set_option linter.unusedVariables false
set_option linter.unusedSimpArgs false

def optE (l : List Int) : Nat → Nat → Int
  | 0, _ => 0
  | k + 1, i => if l.length ≤ i then 0 else if rd l i = 0 then optE l k (i + 1) else if l.length ≤ i + 1 then 7 else if rd l i > 63 then 7 else if rd l (i + 1 : Nat) > (l.length : Int) - i - 2 then 7 else optE l k (i + 2 + (rd l (i + 1 : Nat)).toNat)
theorem rd_drop (l : List Int) (i j : Nat) : rd (l.drop i) (j : Int) = rd l (i + j : Nat) := by
  unfold rd
  rw [Int.toNat_natCast, Int.toNat_natCast, List.getD_eq_getElem?_getD, List.getD_eq_getElem?_getD, List.getElem?_drop]
theorem rd_byte' (l : List Int) (h : Bytes l) (i : Int) : 0 ≤ rd l i ∧ rd l i ≤ 255 := by
  unfold rd
  rw [List.getD_eq_getElem?_getD]
  rcases hh : l[i.toNat]? with _ | c
  · decide
  · exact h c (List.mem_of_getElem? hh)
theorem ip6_options_ev (l : List Int) (hb : Bytes l) (hl : l.length ≤ 140737488355328) (d : Nat) : ∀ i : Nat, i ≤ l.length → l.length - i ≤ d → Ev (fun k => LA.ip6_options.l0 k (l.drop i)) (optE l d i) := by
  induction d with
  | zero =>
    intro i hi hd
    refine Ev.step (fun k => ?_) (Ev.now _)
    simp only [LA.ip6_options.l0, List.length_drop, optE]
    rw [if_neg (by omega)]
  | succ d ih =>
    intro i hi hd
    have r0 : rd (l.drop i) 0 = rd l i := rd_drop l i 0
    have r1 : rd (l.drop i) 1 = rd l (i + 1 : Nat) := rd_drop l i 1
    have b0 := rd_byte' l hb i
    have b1 := rd_byte' l hb (i + 1 : Nat)
    by_cases h0 : l.length ≤ i
    · refine Ev.step (fun k => ?_) (Ev.now _)
      simp only [LA.ip6_options.l0, List.length_drop, optE]
      rw [if_neg (by omega), if_pos h0]
    by_cases h1 : rd l i = 0
    · refine Ev.step (f := fun k => LA.ip6_options.l0 k (l.drop (i + 1))) (fun k => ?_) ?_
      · simp only [LA.ip6_options.l0, List.length_drop, List.drop_drop]
        rw [if_pos (by omega), if_pos (by omega), r0, if_pos h1, if_pos (by omega)]
      · simp only [optE]
        rw [if_neg h0, if_pos h1]
        exact ih (i + 1) (by omega) (by omega)
    by_cases h2 : l.length ≤ i + 1
    · refine Ev.step (fun k => ?_) (Ev.now _)
      simp only [LA.ip6_options.l0, List.length_drop, optE]
      rw [if_pos (by omega), if_pos (by omega), r0, if_neg h1, if_pos (by omega), if_neg h0, if_neg h1, if_pos h2]
    by_cases h3 : rd l i > 63
    · refine Ev.step (fun k => ?_) (Ev.now _)
      simp only [LA.ip6_options.l0, List.length_drop, optE]
      rw [if_pos (by omega), if_pos (by omega), r0, if_neg h1, if_neg (by omega), if_pos h3, if_neg h0, if_neg h1, if_neg h2, if_pos h3]
    have w1 := w64 (rd l (i + 1 : Nat)) (by omega) (by omega)
    have w2 := w64 (((l.length - i : Nat) : Int) - 2) (by omega) (by omega)
    have w3 := w64 (2 + rd l (i + 1 : Nat)) (by omega) (by omega)
    by_cases h4 : rd l (i + 1 : Nat) > (l.length : Int) - i - 2
    · refine Ev.step (fun k => ?_) (Ev.now _)
      simp only [LA.ip6_options.l0, List.length_drop, optE]
      rw [if_pos (by omega), if_pos (by omega), r0, if_neg h1, if_neg (by omega), if_neg h3, if_pos (by omega), r1, w1, w2, if_pos (by clear w1 w2 w3; omega), if_neg h0, if_neg h1, if_neg h2, if_neg h3, if_pos h4]
    · refine Ev.step (f := fun k => LA.ip6_options.l0 k (l.drop (i + 2 + (rd l (i + 1 : Nat)).toNat))) (fun k => ?_) ?_
      · simp only [LA.ip6_options.l0, List.length_drop, List.drop_drop]
        rw [if_pos (by clear w1 w2 w3; omega), if_pos (by clear w1 w2 w3; omega), r0, if_neg h1, if_neg (by clear w1 w2 w3; omega), if_neg h3, if_pos (by clear w1 w2 w3; omega), r1, w1, w2, if_neg (by clear w1 w2 w3; omega), w3, if_pos (by clear w1 w2 w3; omega), if_pos (by clear w1 w2 w3; omega)]
        rw [show i + (2 + rd l (i + 1 : Nat)).toNat = i + 2 + (rd l (i + 1 : Nat)).toNat by clear w1 w2 w3; omega]
      · simp only [optE]
        rw [if_neg h0, if_neg h1, if_neg h2, if_neg h3, if_neg h4]
        clear w1 w2 w3
        exact ih _ (by omega) (by omega)
theorem ref_options_ev (l : List Int) (hb : Bytes l) (hl : l.length ≤ 140737488355328) (d : Nat) : ∀ i : Nat, i ≤ l.length → l.length - i ≤ d → Ev (fun k => LA.stockaderef04_options.l0 k l i) (optE l d i) := by
  induction d with
  | zero =>
    intro i hi hd
    refine Ev.step (fun k => ?_) (Ev.now _)
    simp only [LA.stockaderef04_options.l0, optE]
    rw [if_neg (by omega)]
  | succ d ih =>
    intro i hi hd
    have b0 := rd_byte' l hb i
    have b1 := rd_byte' l hb (i + 1 : Nat)
    by_cases h0 : l.length ≤ i
    · refine Ev.step (fun k => ?_) (Ev.now _)
      simp only [LA.stockaderef04_options.l0, optE]
      rw [if_neg (by omega), if_pos h0]
    by_cases h1 : rd l i = 0
    · refine Ev.step (f := fun k => LA.stockaderef04_options.l0 k l (i + 1 : Nat)) (fun k => ?_) ?_
      · simp only [LA.stockaderef04_options.l0]
        rw [if_pos (by omega), if_pos (by omega), if_pos h1, wsucc i (by omega)]
      · simp only [optE]
        rw [if_neg h0, if_pos h1]
        exact ih (i + 1) (by omega) (by omega)
    have w0 := wsucc i (by omega)
    by_cases h2 : l.length ≤ i + 1
    · refine Ev.step (fun k => ?_) (Ev.now _)
      simp only [LA.stockaderef04_options.l0, optE]
      rw [if_pos (by clear w0; omega), if_pos (by clear w0; omega), if_neg h1, w0, if_pos (by clear w0; omega), if_neg h0, if_neg h1, if_pos h2]
    have w1 := w64 (rd l (i + 1 : Nat)) (by clear w0; omega) (by clear w0; omega)
    have w2 := w64 ((l.length : Int) - i) (by clear w0 w1; omega) (by clear w0 w1; omega)
    have w4 := w64 ((l.length : Int) - i - 2) (by clear w0 w1 w2; omega) (by clear w0 w1 w2; omega)
    have w3 := w64 (2 + rd l (i + 1 : Nat)) (by clear w0 w1 w2 w4; omega) (by clear w0 w1 w2 w4; omega)
    have w5 := w64 ((i : Int) + (2 + rd l (i + 1 : Nat))) (by clear w0 w1 w2 w3 w4; omega) (by clear w0 w1 w2 w3 w4; omega)
    by_cases h4 : rd l (i + 1 : Nat) > (l.length : Int) - i - 2
    · refine Ev.step (fun k => ?_) (Ev.now _)
      simp only [LA.stockaderef04_options.l0, optE]
      rw [if_pos (by clear w0 w1 w2 w3 w4 w5; omega), if_pos (by clear w0 w1 w2 w3 w4 w5; omega), if_neg h1, w0, if_neg (by clear w0 w1 w2 w3 w4 w5; omega), if_pos (by clear w0 w1 w2 w3 w4 w5; omega), if_pos (by clear w0 w1 w2 w3 w4 w5; omega), w1, w2, w4, if_pos h4, if_neg h0, if_neg h1, if_neg h2]
      split <;> first | rfl | rw [if_pos h4]
    by_cases h3 : rd l i > 63
    · refine Ev.step (fun k => ?_) (Ev.now _)
      simp only [LA.stockaderef04_options.l0, optE]
      rw [if_pos (by clear w0 w1 w2 w3 w4 w5; omega), if_pos (by clear w0 w1 w2 w3 w4 w5; omega), if_neg h1, w0, if_neg (by clear w0 w1 w2 w3 w4 w5; omega), if_pos (by clear w0 w1 w2 w3 w4 w5; omega), if_pos (by clear w0 w1 w2 w3 w4 w5; omega), w1, w2, w4, if_neg h4, if_neg (by clear w0 w1 w2 w3 w4 w5; omega), if_neg h0, if_neg h1, if_neg h2, if_pos h3]
    · refine Ev.step (f := fun k => LA.stockaderef04_options.l0 k l (i + 2 + (rd l (i + 1 : Nat)).toNat : Nat)) (fun k => ?_) ?_
      · simp only [LA.stockaderef04_options.l0]
        rw [if_pos (by clear w0 w1 w2 w3 w4 w5; omega), if_pos (by clear w0 w1 w2 w3 w4 w5; omega), if_neg h1, w0, if_neg (by clear w0 w1 w2 w3 w4 w5; omega), if_pos (by clear w0 w1 w2 w3 w4 w5; omega), if_pos (by clear w0 w1 w2 w3 w4 w5; omega), w1, w2, w4, if_neg h4, if_pos (by clear w0 w1 w2 w3 w4 w5; omega), w3, w5]
        rw [show (i : Int) + (2 + rd l (i + 1 : Nat)) = ((i + 2 + (rd l (i + 1 : Nat)).toNat : Nat) : Int) by clear w0 w1 w2 w3 w4 w5; omega]
      · simp only [optE]
        rw [if_neg h0, if_neg h1, if_neg h2, if_neg h3, if_neg h4]
        clear w0 w1 w2 w3 w4 w5
        exact ih _ (by omega) (by omega)
def opt (l : List Int) : Int := optE l l.length 0
theorem optE_or (l : List Int) (d : Nat) : ∀ i, optE l d i = 0 ∨ optE l d i = 7 := by
  induction d with
  | zero => intro i; exact .inl rfl
  | succ d ih =>
    intro i
    simp only [optE]
    repeat' split
    all_goals first | exact ih _ | exact .inl rfl | exact .inr rfl
theorem opt_or (l : List Int) : opt l = 0 ∨ opt l = 7 := optE_or l _ 0
theorem Opt_at {A : Option Addr} {c n : Nat} {l : List Int} {w : World} (hr : (Kd.int .u8).C w A n l) (hc : n ≤ c) (hb : Bytes l) (hl : n ≤ 140737488355328) :
    Calls Try.prog 175 #[.slice A n c] w fun e w' => e = .returned (.int .i64 (opt l)) ∧ Below w.heap.size w w' := by
  have hn : l.length = n := hr.1
  subst hn
  obtain ⟨k, hk⟩ := (ip6_options_ev l hb hl l.length 0 (Nat.zero_le _) (by omega)).rounds
  exact LA.ip6_options.calls k (fun _ => True) A c l _ w (Kd.V_mono (V_of_C hr hc) (fun _ h => h)) hk
theorem refOpt_at {A : Option Addr} {c n : Nat} {l : List Int} {w : World} (hr : (Kd.int .u8).C w A n l) (hc : n ≤ c) (hb : Bytes l) (hl : n ≤ 140737488355328) :
    Calls Try.prog 180 #[.slice A n c] w fun e w' => e = .returned (.int .i64 (opt l)) ∧ Below w.heap.size w w' := by
  have hn : l.length = n := hr.1
  subst hn
  obtain ⟨k, hk⟩ := (ref_options_ev l hb hl l.length 0 (Nat.zero_le _) (by omega)).rounds
  exact (LA.stockaderef04_options.calls k A c l _ w hr hc hk).mono fun e w' h => ⟨h.1, h.2.below⟩
theorem sameInts_ev (x y : List Int) (hl : x.length ≤ 1000000000) (he : x.length = y.length) (d : Nat) : ∀ i : Nat, x.length - i = d → i ≤ x.length → Ev (fun k => LA.stockadelaw04_sameInts.l0 k x y x.length i) (decide (x.drop i = y.drop i)) := by
  induction d with
  | zero =>
    intro i hd hi
    have h1 : x.drop i = [] := List.drop_eq_nil_of_le (by omega)
    have h2 : y.drop i = [] := List.drop_eq_nil_of_le (by omega)
    rw [h1, h2]
    refine Ev.step (fun k => ?_) (Ev.now _)
    simp only [LA.stockadelaw04_sameInts.l0]
    rw [if_neg (by omega)]
    rfl
  | succ d ih =>
    intro i hd hi
    have hlt : i < x.length := by omega
    have hlt2 : i < y.length := by omega
    have hx : rd x (i : Int) = x[i] := by simp [rd, List.getD_eq_getElem?_getD, List.getElem?_eq_getElem hlt]
    have hy : rd y (i : Int) = y[i] := by simp [rd, List.getD_eq_getElem?_getD, List.getElem?_eq_getElem hlt2]
    rw [List.drop_eq_getElem_cons hlt, List.drop_eq_getElem_cons hlt2]
    by_cases h : x[i] = y[i]
    · refine Ev.step (f := fun k => LA.stockadelaw04_sameInts.l0 k x y x.length (i + 1 : Nat)) (fun k => ?_) ?_
      · simp only [LA.stockadelaw04_sameInts.l0]
        rw [if_pos (by omega), if_pos (by omega), if_pos (by omega), if_pos (by omega), hx, hy, if_pos h, wsucc i (by omega)]
      · have := ih (i + 1) (by omega) (by omega)
        have he2 : decide (x[i] :: x.drop (i + 1) = y[i] :: y.drop (i + 1)) = decide (x.drop (i + 1) = y.drop (i + 1)) := decide_eq_decide.2 ⟨fun h => (List.cons.inj h).2, fun h2 => by rw [h, h2]⟩
        rw [he2]
        exact this
    · refine Ev.step (fun k => ?_) (Ev.now _)
      simp only [LA.stockadelaw04_sameInts.l0]
      rw [if_pos (by omega), if_pos (by omega), if_pos (by omega), if_pos (by omega), hx, hy, if_neg h, decide_eq_false (fun h2 => h (List.cons.inj h2).1)]
theorem SameInts_at {A B : Option Addr} {ca cb na nb : Nat} {x y : List Int} {w : World} (hx : (Kd.int .i64).C w A na x) (hca : na ≤ ca) (hy : (Kd.int .i64).C w B nb y) (hcb : nb ≤ cb) (hl : na ≤ 1000000000) :
    Calls Try.prog 53 #[.slice A na ca, .slice B nb cb] w fun e w' => e = .returned (.bool (decide (x = y))) ∧ Below w.heap.size w w' := by
  have h1 : x.length = na := hx.1
  have h2 : y.length = nb := hy.1
  subst h1
  subst h2
  have hev : ∃ k, LA.stockadelaw04_sameInts.f k x y = some (decide (x = y)) := by
    by_cases he : x.length = y.length
    · obtain ⟨k, hk⟩ := (sameInts_ev x y hl he _ 0 rfl (Nat.zero_le _)).rounds
      refine ⟨k, ?_⟩
      unfold LA.stockadelaw04_sameInts.f
      rw [if_pos (by omega)]
      exact hk
    · refine ⟨0, ?_⟩
      unfold LA.stockadelaw04_sameInts.f
      rw [if_neg (by omega), decide_eq_false (fun h => he (by rw [h]))]
  obtain ⟨k, hk⟩ := hev
  exact (LA.stockadelaw04_sameInts.calls k A ca x B cb y _ w hx hca hy hcb hk).mono fun e w' h => ⟨h.1, h.2.below⟩
end Go.Proofs.Ytgifcmbknkjemaa.Own
