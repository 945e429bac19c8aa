/- The law Ip6Walks: both walks over extension headers come to one function. -/
import Derived.Test.YtgifcmbknkjemaaR6c
namespace Go.Proofs.Ytgifcmbknkjemaa.Own
open Go Go.RowKit Go.Proofs.YtgifcmbknkjemaaW.PrintWords Go.Proofs.YtgifcmbknkjemaaW.PrintLast Go.Proofs.YtgifcmbknkjemaaW.PrintMore
set_option linter.unusedVariables false
set_option linter.unusedSimpArgs false
theorem run6_inv (stops : Bool) (k : Nat) : ∀ s : S6, s.exts.length ≤ 8 → Bytes s.rest → (run6 stops k s).2.exts.length ≤ 8 ∧ Bytes (run6 stops k s).2.rest ∧ (run6 stops k s).2.rest.length ≤ s.rest.length := by
  induction k with
  | zero => intro s h1 h2; exact ⟨h1, h2, Nat.le_refl _⟩
  | succ k ih =>
    intro s h1 h2
    simp only [run6]
    by_cases c1 : s.fr.isSome = true ∨ isExt s.next = false
    · rw [if_pos c1]; exact ⟨h1, h2, Nat.le_refl _⟩
    rw [if_neg c1]
    by_cases c2 : 8 ≤ s.exts.length
    · rw [if_pos c2]; exact ⟨h1, h2, Nat.le_refl _⟩
    rw [if_neg c2]
    by_cases c3 : (size6 s.next s.rest).2 = false
    · rw [if_pos c3]; exact ⟨h1, h2, Nat.le_refl _⟩
    rw [if_neg c3]
    by_cases c4 : look6 s (s.rest.take (size6 s.next s.rest).1.toNat) ≠ 0
    · rw [if_pos c4]; exact ⟨h1, h2, Nat.le_refl _⟩
    rw [if_neg c4]
    have h3 := ih (next6 stops s (size6 s.next s.rest).1.toNat) (by show (s.exts ++ [s.next]).length ≤ 8; rw [List.length_append, List.length_singleton]; omega) (fun y hy => h2 y (List.mem_of_mem_drop hy))
    refine ⟨h3.1, h3.2.1, Nat.le_trans h3.2.2 ?_⟩
    show (s.rest.drop _).length ≤ _
    rw [List.length_drop]
    omega
theorem walk6_inv {next : Int} {l : List Int} (hb : Bytes l) : (walk6 next l).2.1.length ≤ 8 ∧ Bytes (walk6 next l).2.2.1 ∧ (walk6 next l).2.2.1.length ≤ l.length := by
  have h := run6_inv false 9 ⟨next, l, [], true, true, none⟩ (by show 0 ≤ 8; omega) hb
  unfold walk6
  simp only
  split
  · exact h
  · exact ⟨by simp, fun y hy => by simp at hy, by simp⟩
/-- What a Walk gives, with what is to be known of it. -/
theorem Walk_is {w : World} {next : Int} {A : Option Addr} {n c : Nat} {l : List Int} (hr : (Kd.int .u8).C w A n l) (hc : n ≤ c) (hby : Bytes l) (hn : n ≤ 140737488355000) :
    Calls Try.prog 51 #[.int .i64 next, .slice A n c] w (Walk6Post w (walk6 next l)) := Walk_at hr hc hby hn
theorem SameB_at {A B : Option Addr} {ca cb na nb : Nat} {x y : List Int} {w : World} (ha : (Kd.int .u8).C w A na x) (hb : (Kd.int .u8).C w B nb y) (hx : Bytes x) (hy : Bytes y) (hca : na ≤ ca) (hcb : nb ≤ cb) :
    Calls Try.prog 46 #[.slice A na ca, .slice B nb cb] w fun e w' => e = .returned (.bool (decide (x = y))) ∧ Below w.heap.size w w' := by
  have h1 : x.length = na := ha.1
  have h2 : y.length = nb := hb.1
  subst h1
  subst h2
  refine (stockaderef01_Same.calls A ca x B cb y (decide (x = y)) w ha hca hb hcb ?_).mono fun e w' h => ⟨h.1, h.2.below⟩
  unfold stockaderef01_Same.f
  rw [if_pos ⟨okB_iff.2 hx, okB_iff.2 hy⟩]
theorem size_alloc' (w : World) (o : Obj) : (w.alloc o).heap.size = w.heap.size + 1 := by simp
set_option maxHeartbeats 1000000 in
set_option maxRecDepth 100000 in
theorem Alive4_at (w : World) : Calls Try.prog 54 #[] w fun e w' => e = .returned (.bool true) ∧ Below w.heap.size w w' := by
  have hw : walk6 60 [17, 0, 1, 4, 0, 0, 0, 0, 9] = (17, [60], [9], 0) := by decide +kernel
  have hlit : (Kd.int .u8).C (w.alloc (.cells #[.int .u8 17, .int .u8 0, .int .u8 1, .int .u8 4, .int .u8 0, .int .u8 0, .int .u8 0, .int .u8 0, .int .u8 9] 5)) (some ⟨w.heap.size, 0, none⟩) 9 [17, 0, 1, 4, 0, 0, 0, 0, 9] := by
    refine ⟨rfl, by decide, fun _ => ⟨_, rfl, fun j p hj => ⟨[.int .u8 p], rfl, rfl, fun i u hu => ?_⟩⟩⟩
    have hj9 : j < 9 := by
      have := (List.getElem?_eq_some_iff.1 hj).1
      simpa using this
    obtain rfl : i = 0 := by
      have := (List.getElem?_eq_some_iff.1 hu).1
      simpa using this
    have hu' : u = .int .u8 p := by simpa using hu.symm
    subst hu'
    have h1 : ((⟨w.heap.size, 0, none⟩ : Addr).add (j * (Kd.int .u8).sz + 0)) = ⟨w.heap.size, j, none⟩ := by
      rw [show j * (Kd.int .u8).sz + 0 = j from by show j * 1 + 0 = j; omega]
      exact add_plain _ _
    rw [h1, blk_cell (blk_at rfl) j]
    match j, hj9, hj with
    | 0, _, hj => simp at hj; subst hj; rfl
    | 1, _, hj => simp at hj; subst hj; rfl
    | 2, _, hj => simp at hj; subst hj; rfl
    | 3, _, hj => simp at hj; subst hj; rfl
    | 4, _, hj => simp at hj; subst hj; rfl
    | 5, _, hj => simp at hj; subst hj; rfl
    | 6, _, hj => simp at hj; subst hj; rfl
    | 7, _, hj => simp at hj; subst hj; rfl
    | 8, _, hj => simp at hj; subst hj; rfl
  have hcall := Walk_is (next := 60) (c := 9) hlit (by omega) (fun y hy => by simp at hy; omega) (by omega)
  rw [hw] at hcall
  have HC := Aside0.mk hcall
  clear hlit hcall hw
  go_enter Try.func54, Try.ntmps54
  go_wp2_with (go_at_call 51; refine HC.out.mono ?_; rintro e w1 ⟨vE, vD, rfl, hE, hD, hB⟩; obtain ⟨Ae, ce, rfl, hce, hCE⟩ := Kd.R_reads hE; obtain ⟨Ad, cd, rfl, hcd, hCD⟩ := Kd.R_reads hD; obtain ⟨ae, rfl, e0⟩ := Kd.at_int hCE 0 (by omega) (by simp); obtain ⟨de, rfl, d0⟩ := Kd.at_int hCD 0 (by omega) (by simp); rw [show ((0 : Int)).toNat = 0 from rfl, Addr.add_zero'] at e0 d0; have HB := Aside0.mk hB; clear hE hD hCE hCD hB)
  go_ret
  exact ⟨rfl, below_then (below_alloc (Below.refl _ _) _) (by rw [size_alloc']; omega) HB.out⟩
set_option maxHeartbeats 1000000 in
set_option maxRecDepth 100000 in
theorem Ip6Walks_walk (w : World) (a0 : Int) (hg0 : -9223372036854775808 ≤ a0 ∧ a0 ≤ 9223372036854775807) (A1 : Option Addr) (c1 : Nat) (l1 : List Int) (hr1 : Kd.C (Kd.int .u8) w A1 l1.length l1) (hc1 : l1.length ≤ c1) (hg1 : Bytes l1 ∧ l1.length ≤ 140737488351232) :
    Calls Try.prog 9 #[.int .i64 a0, .slice A1 l1.length c1] w fun e w' => e = .returned (.bool true) ∧ Below w.heap.size w w' := by
  obtain ⟨n, hn⟩ : ∃ n, n = l1.length := ⟨_, rfl⟩
  rw [← hn] at hr1 hc1 hg1 ⊢
  have hwalk := Walk_at (next := a0) hr1 hc1 hg1.1 (by omega)
  have hinv := walk6_inv (next := a0) hg1.1
  obtain ⟨m, E, D, e, hw⟩ : ∃ m E D e, walk6 a0 l1 = (m, E, D, e) := ⟨_, _, _, _, rfl⟩
  have hrwalk : ∀ W, Below w.heap.size w W → Calls Try.prog 52 #[.int .i64 a0, .slice A1 n c1] W (Walk6Post W (walk6 a0 l1)) := fun W hW => rWalk_at (Kd.C_below hr1 hW) hc1 hg1.1 (by omega)
  rw [hw] at hwalk hinv hrwalk
  have HW := Aside0.mk hwalk
  have HR := Aside0.mk hrwalk
  have HI := Aside0.mk hinv
  clear hn hr1 hg1 hwalk hrwalk hinv hw
  go_enter Try.func9, Try.ntmps9
  go_wp2_with (fail)
  refine HW.out.mono ?_
  rintro e1 w1 ⟨vE, vD, rfl, hE, hD, hB⟩
  obtain ⟨Ae, ce, rfl, hce, hCE⟩ := Kd.R_reads hE
  obtain ⟨Ad, cd, rfl, hcd, hCD⟩ := Kd.R_reads hD
  have F1 := Aside0.mk (And.intro hCE (And.intro hCD hB))
  clear hE hD hCE hCD hB
  go_wp2_with (fail)
  refine (HR.out _ F1.out.2.2).mono ?_
  rintro e2 w2 ⟨vE2, vD2, rfl, hE, hD, hB⟩
  obtain ⟨Ae2, ce2, rfl, hce2, hCE⟩ := Kd.R_reads hE
  obtain ⟨Ad2, cd2, rfl, hcd2, hCD⟩ := Kd.R_reads hD
  have F2 := Aside0.mk (And.intro hCE (And.intro hCD hB))
  have B2 := Aside0.mk (below_then F1.out.2.2 F1.out.2.2.size hB)
  clear hE hD hCE hCD hB
  have hs := fun W (hW : Below w2.heap.size w2 W) => SameInts_at (w := W) (Kd.C_below (Kd.C_below F1.out.1 F2.out.2.2) hW) hce (Kd.C_below F2.out.1 hW) hce2 (by have h1 : E.length ≤ 8 := HI.out.1; omega)
  have hb := fun W (hW : Below w2.heap.size w2 W) => SameB_at (w := W) (Kd.C_below (Kd.C_below F1.out.2.1 F2.out.2.2) hW) (Kd.C_below F2.out.2.1 hW) HI.out.2.1 HI.out.2.1 hcd hcd2
  simp only [decide_true] at hs hb
  have HS := Aside0.mk hs
  have HB := Aside0.mk hb
  clear hs hb
  go_wp2_with (fail)
  refine (HS.out _ (Below.refl _ _)).mono ?_
  rintro e3 w3 ⟨rfl, hb3⟩
  have F3 := Aside0.mk hb3
  clear hb3
  go_wp2_with (fail)
  refine (HB.out _ F3.out).mono ?_
  rintro e4 w4 ⟨rfl, hb4⟩
  have F4 := Aside0.mk (below_then F3.out F3.out.size hb4)
  clear hb4
  go_wp2_with (fail)
  refine (Alive4_at _).mono ?_
  rintro e5 w5 ⟨rfl, hb5⟩
  have F5 := Aside0.mk (below_then F4.out F4.out.size hb5)
  clear hb5
  go_wp2
  go_ret
  exact ⟨rfl, below_then B2.out B2.out.size F5.out⟩
end Go.Proofs.Ytgifcmbknkjemaa.Own
