/- What the law Ip6Behind rests on, part 10: contracts of the functions that it calls, and plain lemmas. No condition. -/
import Derived.Test.YtgifcmbknkjemaaZIp6Behind9
section
namespace Go.Proofs.Ytgifcmbknkjemaa.Own
open Go Go.RowKit Go.Proofs.YtgifcmbknkjemaaW.PrintWords Go.Proofs.YtgifcmbknkjemaaW.PrintLast Go.Proofs.YtgifcmbknkjemaaW.PrintMore
set_option linter.unusedVariables false
set_option linter.unusedSimpArgs false
section
variable {w0 wr w1 : World} {b : Nat} {stops : Bool} {d : List Int} {A : Option Addr} {n c p : Nat} {s : S6} {vE : Value}
end
section
variable {w0 wr w1 : World} {b : Nat} {stops : Bool} {d : List Int} {A : Option Addr} {n c p : Nat} {s : S6} {vE : Value}
end
theorem C_midN {k : IntKind} {w : World} {A : Option Addr} {n c : Nat} {l : List Int} (h : (Kd.int k).C w A n l) (hc : n ≤ c) (lo m : Nat) (hm : lo + m ≤ n) : (Kd.int k).C w (if c = lo then A else A.map (·.add (lo * 1))) m ((l.drop lo).take m) := by
  have hn : l.length = n := h.1
  subst hn
  have h1 := Kd.C_mid (lo := lo) (hi := lo + m) (c := c) h (by omega) (by omega) hc
  rw [List.drop_take, show lo + m - lo = m by omega, List.length_take, List.length_drop, Nat.min_eq_left (by omega)] at h1
  exact h1
theorem add_at (ad : Addr) (k : Nat) (hk : 0 < k) : ad.add k = ⟨ad.block, ad.off + k, none⟩ := by unfold Addr.add; rw [if_neg (by omega)]
end Go.Proofs.Ytgifcmbknkjemaa.Own
end
section
namespace Go.Proofs.Ytgifcmbknkjemaa.Own
open Go Go.RowKit Go.Proofs.YtgifcmbknkjemaaW.PrintWords Go.Proofs.YtgifcmbknkjemaaW.PrintLast Go.Proofs.YtgifcmbknkjemaaW.PrintMore
set_option linter.unusedVariables false
set_option linter.unusedSimpArgs false
def walk6 (next : Int) (l : List Int) : Int × List Int × List Int × Int :=
  let r := run6 false 9 ⟨next, l, [], true, true, none⟩
  if r.1 = 0 then (r.2.next, r.2.exts, r.2.rest, 0) else (0, [], [], r.1)
def Walk6Post (w : World) (r : Int × List Int × List Int × Int) (e : Ending) (w' : World) : Prop :=
  ∃ vE vD : Value, e = .returned (.tuple #[.int .i64 r.1, vE, vD, .int .i64 r.2.2.2]) ∧ Kd.R (Kd.int .i64) 3 w' w.heap.size (fun _ => True) vE r.2.1 ∧ Kd.R (Kd.int .u8) 5 w' w.heap.size (fun _ => True) vD r.2.2.1 ∧ Below w.heap.size w w'
theorem Clone_at {A : Option Addr} {c n : Nat} {l : List Int} {w : World} (hr : (Kd.int .u8).C w A n l) (hc : n ≤ c) (hn : n < 140737488355328) :
    Calls Try.prog 98 #[.slice A n c] w fun e w' => ∃ v0_ : Value, e = .returned (v0_) ∧ Kd.R (Kd.int .u8) 5 w' w.heap.size (fun _ => True) v0_ l ∧ Below w.heap.size w w' := by
  have h1 : l.length = n := hr.1
  subst h1
  exact slices_Clone_byte_byte.calls A c l l w hr hc (by unfold slices_Clone_byte_byte.f; rw [if_pos hn])
set_option maxHeartbeats 1000000 in
set_option maxRecDepth 100000 in
theorem Walk_at {w : World} {next : Int} {A : Option Addr} {n c : Nat} {l : List Int} (hr : (Kd.int .u8).C w A n l) (hc : n ≤ c) (hby : Bytes l) (hn : n ≤ 140737488355000) :
    Calls Try.prog 51 #[.int .i64 next, .slice A n c] w (Walk6Post w (walk6 next l)) := by
  obtain ⟨R, hR⟩ : ∃ R, R = run6 false 9 ⟨next, l, [], true, true, none⟩ := ⟨_, rfl⟩
  have hW : walk6 next l = if R.1 = 0 then (R.2.next, R.2.exts, R.2.rest, 0) else (0, [], [], R.1) := by rw [hR]; rfl
  rw [hW]
  have hall := all6_at (w0 := w) (w := w.alloc (.cells (objS ⟨next, l, [], true, true, none⟩ false (.slice A n c) (.slice none 0 0)) 128)) (b := w.heap.size) (stops := false) (s := ⟨next, l, [], true, true, none⟩) (blk_at rfl) rfl rfl hr hc hby hn (below_alloc (Below.refl _ _) _) (Nat.le_refl _)
  rw [← hR] at hall
  have HALL := Aside0.mk hall
  clear hall hW hR hr hby
  obtain ⟨e, s⟩ := R
  by_cases h : e = 0
  · subst h
    go_enter Try.func51, Try.ntmps51
    go_wp2_with (go_at_call 99; refine (HALL.out).mono ?_; rintro e w1 ⟨rfl, r, x, hB, hP⟩)
    obtain ⟨A1, n1, c1, vE, HO, hc1, hby1, hn1⟩ := hP (by first | rfl | trivial)
    have k0 : w1.cell? ⟨w.heap.size, 0, none⟩ = some (.int .i64 s.next) := blk_cell HO.ho 0
    have k1 : w1.cell? ⟨w.heap.size, 1, none⟩ = some (.slice A1 n1 c1) := blk_cell HO.ho 1
    have k2 : w1.cell? ⟨w.heap.size, 2, none⟩ = some vE := blk_cell HO.ho 2
    have hz := HO.hB.size
    have HB := Aside0.mk hB
    have HH := Aside0.mk HO
    clear HO hP hB HALL hby1
    go_wp2
    have hlt : w.heap.size < w1.heap.size := lt_of_heap HH.out.ho
    go_region_with (go_at_call 98; refine (Clone_at (w := w1.drew) (C_drewN (Kd.C_below HH.out.hr HH.out.hB) 1) hc1 (by omega)).mono ?_; rintro e w2 ⟨vD, rfl, hD, hB2⟩; have HD := Aside0.mk hD; have HB2 := Aside0.mk hB2; have k0' := pw_cell_below (w := w1.drew) hB2 k0; have k1' := pw_cell_below (w := w1.drew) hB2 k1; have k2' := pw_cell_below (w := w1.drew) hB2 k2; clear hD hB2)
    all_goals
      go_wp2
      refine bodyPost_ret (v := .tuple #[.int .i64 s.next, vE, vD, .int .i64 0]) (by simp [results, Try.results51, go_sem]) rfl ?_
      exact ⟨_, _, rfl, Kd.R_mono (Kd.R_below HH.out.drew.hx HB2.out) (fun _ _ => trivial), Kd.R_lower HD.out hz, below_then HH.out.drew.hB hz HB2.out⟩
  · have hb : (e != 0) = true := by simpa using h
    rw [if_neg h]
    go_enter Try.func51, Try.ntmps51
    go_wp2_with (go_at_call 99; refine (HALL.out).mono ?_; rintro e w1 ⟨rfl, r, x, hB, hP⟩)
    refine bodyPost_ret (v := .tuple #[.int .i64 0, .slice none 0 0, .slice none 0 0, .int .i64 e]) (by simp [results, Try.results51, go_sem]) rfl ?_
    exact ⟨_, _, rfl, Kd.R_nil _ _ _ _ _, Kd.R_nil _ _ _ _ _, hB⟩
end Go.Proofs.Ytgifcmbknkjemaa.Own
end
