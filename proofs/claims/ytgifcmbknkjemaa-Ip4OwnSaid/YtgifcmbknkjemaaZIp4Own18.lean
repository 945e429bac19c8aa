/- What the law Ip4Own rests on, part 18: contracts of the functions that it calls, and plain lemmas. No condition. -/
import Derived.Test.YtgifcmbknkjemaaZIp4Own17
section
namespace Go.Proofs.Ytgifcmbknkjemaa.Own
open Go Go.RowKit Go.Proofs.YtgifcmbknkjemaaW.PrintWords Go.Proofs.YtgifcmbknkjemaaW.PrintLast Go.Proofs.Ytgifcmbknkjemaa.QQ
set_option linter.unusedVariables false
set_option linter.unusedSimpArgs false
theorem opt4_ev (d : Nat) : ∀ l : List Int, Bytes l → l.length ≤ d → d ≤ 140737488355328 → Ev (fun k => ip4_options.l0 k l) (opt4 d l) := by
  induction d with
  | zero =>
    intro l hb hl _
    refine Ev.step (fun k => ?_) (Ev.step (f := fun _ => some 0) (g := fun k => ip4_options.j1 k l false) (fun k => ?_) (Ev.now _))
    · rw [ip4_options.l0, if_neg (by omega)]
    · rw [ip4_options.j1, if_neg (by simp)]
  | succ d ih =>
    intro l hb hl hd
    simp only [opt4]
    by_cases h0 : l.length = 0
    · rw [if_pos h0]
      refine Ev.step (fun k => ?_) (Ev.step (f := fun _ => some 0) (g := fun k => ip4_options.j1 k l false) (fun k => ?_) (Ev.now _))
      · rw [ip4_options.l0, if_neg (by omega)]
      · rw [ip4_options.j1, if_neg (by simp)]
    rw [if_neg h0]
    by_cases h1 : rd l 0 = 0
    · rw [if_pos h1]
      refine Ev.step (fun k => ?_) (Ev.step (f := fun _ => some 0) (g := fun k => ip4_options.j1 k l false) (fun k => ?_) (Ev.now _))
      · rw [ip4_options.l0, if_pos (by omega), if_pos (by omega), h1]
        rfl
      · rw [ip4_options.j1, if_neg (by simp)]
    rw [if_neg h1]
    have e0 : ∀ k, ip4_options.l0 (k + 1) l = ip4_options.j1 k l true := fun k => by
      rw [ip4_options.l0, if_pos (by omega), if_pos (by omega)]
      have : (rd l 0 != 0) = true := by simpa using h1
      rw [this]
    have hdrop : ∀ m, Bytes (l.drop m) := fun m c hc => hb c (List.mem_of_mem_drop hc)
    by_cases h2 : rd l 0 = 1
    · rw [if_pos h2]
      refine Ev.step e0 (Ev.step (f := fun k => ip4_options.l0 k (l.drop 1)) (g := fun k => ip4_options.j1 k l true) (fun k => ?_) (ih _ (hdrop 1) (by rw [List.length_drop]; omega) (by omega)))
      rw [ip4_options.j1, if_pos rfl, if_pos (by omega), if_pos h2, if_pos (by omega)]
    rw [if_neg h2]
    by_cases h3 : rd l 0 = 131 ∨ rd l 0 = 137
    · rw [if_pos h3]
      refine Ev.step e0 (Ev.step (f := fun k => ip4_options.j2 k l true) (g := fun k => ip4_options.j1 k l true) (fun k => ?_) (Ev.step (f := fun _ => some 8) (fun k => ?_) (Ev.now _)))
      · rw [ip4_options.j1, if_pos rfl, if_pos (by omega), if_neg h2]
        by_cases h4 : rd l 0 = 131
        · rw [if_pos h4, h4]; rfl
        · rw [if_neg h4]
          have h5 : rd l 0 = 137 := by omega
          rw [h5]; rfl
      · rw [ip4_options.j2, if_pos rfl]
    rw [if_neg h3]
    have e1 : ∀ k, ip4_options.j1 (k + 1) l true = ip4_options.j2 k l false := fun k => by
      rw [ip4_options.j1, if_pos rfl, if_pos (by omega), if_neg h2, if_neg (by omega)]
      have : (rd l 0 == 137) = false := by
        simp
        omega
      rw [this]
    have hb1 := rd_byte hb 1
    have w1 : wrap64 (rd l 1) = rd l 1 := w64 _ (by omega) (by omega)
    by_cases h4 : l.length < 2 ∨ rd l 1 < 2 ∨ (l.length : Int) < rd l 1
    · rw [if_pos h4]
      refine Ev.step e0 (Ev.step e1 (Ev.step (f := fun _ => some 7) (fun k => ?_) (Ev.now _)))
      rw [ip4_options.j2, if_neg (by simp), w1]
      by_cases c1 : (l.length : Int) < 2
      · rw [if_pos c1]
      rw [if_neg c1, if_pos (by omega)]
      by_cases c2 : rd l 1 < 2
      · rw [if_pos c2]
      rw [if_neg c2, if_pos (by omega)]
    · rw [if_neg h4]
      refine Ev.step e0 (Ev.step e1 (Ev.step (f := fun k => ip4_options.l0 k (l.drop (rd l 1).toNat)) (fun k => ?_) (ih _ (hdrop _) (by rw [List.length_drop]; omega) (by omega))))
      rw [ip4_options.j2, if_neg (by simp), w1, if_neg (by omega), if_pos (by omega), if_neg (by omega), if_neg (by omega), if_pos (by omega), if_pos (by omega)]
theorem ropt4_ev (l : List Int) (hb : Bytes l) (hl : l.length ≤ 140737488355328) (d : Nat) : ∀ i : Nat, i ≤ l.length → l.length - i ≤ d → Ev (fun k => stockaderef03_options.l0 k l (i : Int)) (opt4 d (l.drop i)) := by
  induction d with
  | zero =>
    intro i hi hd
    refine Ev.step (fun k => ?_) (Ev.now _)
    rw [stockaderef03_options.l0, if_neg (by omega)]
    rfl
  | succ d ih =>
    intro i hi hd
    have r0 : rd (l.drop i) 0 = rd l (i : Int) := by
      unfold rd
      rw [List.getD_eq_getElem?_getD, List.getD_eq_getElem?_getD, List.getElem?_drop]
      rfl
    have r1 : rd (l.drop i) 1 = rd l ((i + 1 : Nat) : Int) := by
      unfold rd
      rw [List.getD_eq_getElem?_getD, List.getD_eq_getElem?_getD, List.getElem?_drop]
      rfl
    simp only [opt4]
    rw [List.length_drop, r0, r1]
    by_cases h0 : l.length - i = 0
    · rw [if_pos h0]
      refine Ev.step (fun k => ?_) (Ev.now _)
      rw [stockaderef03_options.l0, if_neg (by omega)]
    rw [if_neg h0]
    by_cases h1 : rd l (i : Int) = 0
    · rw [if_pos h1]
      refine Ev.step (fun k => ?_) (Ev.now _)
      rw [stockaderef03_options.l0, if_pos (by omega), if_pos (by omega), if_pos h1]
    rw [if_neg h1]
    have w0 : wrap64 ((i : Int) + 1) = ((i + 1 : Nat) : Int) := wsucc i (by omega)
    by_cases h2 : rd l (i : Int) = 1
    · rw [if_pos h2, List.drop_drop]
      refine Ev.step (fun k => ?_) (ih (i + 1) (by omega) (by omega))
      rw [stockaderef03_options.l0, if_pos (by omega), if_pos (by omega), if_neg h1, if_pos h2, w0]
    rw [if_neg h2]
    by_cases h3 : rd l (i : Int) = 131 ∨ rd l (i : Int) = 137
    · rw [if_pos h3]
      refine Ev.step (f := fun k => stockaderef03_options.j1 k l (i : Int) true) (fun k => ?_) (Ev.step (f := fun _ => some 8) (fun k => ?_) (Ev.now _))
      · rw [stockaderef03_options.l0, if_pos (by omega), if_pos (by omega), if_neg h1, if_neg h2]
        by_cases h4 : rd l (i : Int) = 131
        · rw [if_pos h4]
        · rw [if_neg h4]
          have h5 : rd l (i : Int) = 137 := by omega
          rw [h5]; rfl
      · rw [stockaderef03_options.j1, if_pos rfl]
    rw [if_neg h3]
    have e1 : ∀ k, stockaderef03_options.l0 (k + 1) l (i : Int) = stockaderef03_options.j1 k l (i : Int) false := fun k => by
      rw [stockaderef03_options.l0, if_pos (by omega), if_pos (by omega), if_neg h1, if_neg h2, if_neg (by omega)]
      have : (rd l (i : Int) == 137) = false := by
        simp
        omega
      rw [this]
    have hb1 := rd_byte hb ((i + 1 : Nat) : Int)
    have w1 : wrap64 (rd l ((i + 1 : Nat) : Int)) = rd l ((i + 1 : Nat) : Int) := w64 _ (by omega) (by omega)
    have w2 : wrap64 ((l.length : Int) - i) = (l.length : Int) - i := w64 _ (by omega) (by omega)
    by_cases h4 : l.length - i < 2 ∨ rd l ((i + 1 : Nat) : Int) < 2 ∨ ((l.length - i : Nat) : Int) < rd l ((i + 1 : Nat) : Int)
    · rw [if_pos h4]
      refine Ev.step e1 (Ev.step (f := fun _ => some 7) (fun k => ?_) (Ev.now _))
      rw [stockaderef03_options.j1, if_neg (by simp), w0, w1, w2]
      by_cases c1 : ((i + 1 : Nat) : Int) ≥ (l.length : Int)
      · rw [if_pos c1]
      rw [if_neg c1, if_pos (by omega), if_pos (by omega)]
      by_cases c2 : rd l ((i + 1 : Nat) : Int) < 2
      · rw [if_pos c2]
      rw [if_neg c2, if_pos (by omega)]
    · rw [if_neg h4, List.drop_drop]
      refine Ev.step e1 (Ev.step (f := fun k => stockaderef03_options.l0 k l ((i + (rd l ((i + 1 : Nat) : Int)).toNat : Nat) : Int)) (fun k => ?_) (ih _ (by omega) (by omega)))
      have w3 : wrap64 ((i : Int) + rd l ((i + 1 : Nat) : Int)) = ((i + (rd l ((i + 1 : Nat) : Int)).toNat : Nat) : Int) := by rw [w64 _ (by omega) (by omega)]; omega
      rw [stockaderef03_options.j1, if_neg (by simp), w0, w1, w2, if_neg (by omega), if_pos (by omega), if_pos (by omega), if_neg (by omega), if_neg (by omega), w3]
theorem Opt4_at {A : Option Addr} {c n : Nat} {l : List Int} {w : World} (hr : (Kd.int .u8).C w A n l) (hc : n ≤ c) (hb : Bytes l) (hl : n ≤ 60) :
    Calls Try.prog 113 #[.slice A n c] w fun e w' => e = .returned (.int .i64 (opt4 60 l)) ∧ Below w.heap.size w w' := by
  have hn : l.length = n := hr.1
  subst hn
  obtain ⟨k, hk⟩ := (opt4_ev 60 l hb hl (by omega)).rounds
  exact ip4_options.calls k (fun _ => True) A c l _ w (V_of_C hr hc) hk
theorem rOpt4_at {A : Option Addr} {c n : Nat} {l : List Int} {w : World} (hr : (Kd.int .u8).C w A n l) (hc : n ≤ c) (hb : Bytes l) (hl : n ≤ 60) :
    Calls Try.prog 114 #[.slice A n c] w fun e w' => e = .returned (.int .i64 (opt4 60 l)) ∧ ∃ m, w' = w.drewN m := by
  have hn : l.length = n := hr.1
  subst hn
  obtain ⟨k, hk⟩ := (ropt4_ev l hb (by omega) 60 0 (by omega) (by omega)).rounds
  exact (stockaderef03_options.calls k A c l _ w hr hc hk).mono fun e w' h => ⟨h.1, h.2.out⟩
end Go.Proofs.Ytgifcmbknkjemaa.Own
end
