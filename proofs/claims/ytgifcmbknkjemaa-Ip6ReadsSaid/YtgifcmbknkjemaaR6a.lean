/- The reference's walker of extension headers (layer 4): its small functions. -/
import Derived.Test.YtgifcmbknkjemaaFrag6
namespace Go.Proofs.Ytgifcmbknkjemaa.Own
open Go Go.RowKit Go.Proofs.YtgifcmbknkjemaaW.PrintWords Go.Proofs.YtgifcmbknkjemaaW.PrintLast Go.Proofs.YtgifcmbknkjemaaW.PrintMore
set_option linter.unusedVariables false
set_option linter.unusedSimpArgs false
set_option maxRecDepth 100000 in
theorem IsExt_at (n : Int) (w : World) : Calls Try.prog 78 #[.int .i64 n] w fun e w' => e = .returned (.bool (isExt n)) ∧ w = w' := by
  by_cases h0 : n = 0
  · subst h0
    go_enter Try.func78, Try.ntmps78
    go_wp2
    go_ret
    exact ⟨rfl, rfl⟩
  · have b0 : (n == 0) = false := by simpa using h0
    by_cases h1 : n = 43
    · subst h1
      go_enter Try.func78, Try.ntmps78
      go_wp2
      go_ret
      exact ⟨rfl, rfl⟩
    · have b1 : (n == 43) = false := by simpa using h1
      by_cases h2 : n = 60
      · subst h2
        go_enter Try.func78, Try.ntmps78
        go_wp2
        go_ret
        exact ⟨rfl, rfl⟩
      · have b2 : (n == 60) = false := by simpa using h2
        have he : isExt n = (n == 44) := by simp [isExt, b0, b1, b2]
        have HE := Aside0.mk he
        clear he
        go_enter Try.func78, Try.ntmps78
        go_wp2
        go_ret
        exact ⟨by rw [HE.out]; rfl, rfl⟩
/-- The reference's size of a header: -1 where it is not there. -/
def rsize6 (next : Int) (l : List Int) : Int := if (size6 next l).2 = true then (size6 next l).1 else -1
set_option maxHeartbeats 1000000 in
set_option maxRecDepth 100000 in
theorem rsize6_at {b p : Nat} {next : Int} {A : Option Addr} {c n : Nat} {l : List Int} {w : World} (g0 : w.cell? ⟨b, 0, none⟩ = some (.int .i64 next)) (g1 : w.cell? ⟨b, 1, none⟩ = some (.int .i64 p)) (g2 : w.cell? ⟨b, 2, none⟩ = some (.slice A n c)) (hr : (Kd.int .u8).C w A n l) (hc : n ≤ c) (hb : Bytes l) (hl2 : n ≤ 140737488355328) (hp : p ≤ n) :
    Calls Try.prog 179 #[.pointer (some ⟨b, 0, none⟩)] w fun e w' => e = .returned (.int .i64 (rsize6 next (l.drop p))) ∧ ∃ m, w' = w.drewN m := by
  have hn : l.length = n := hr.1
  by_cases z : next = 44
  · subst z
    by_cases h8 : 8 ≤ n - p
    · have hf : rsize6 44 (l.drop p) = 8 := by simp [rsize6, size6, hn]; omega
      have hlt : decide ((n : Int) - (p : Int) < 8) = false := by simp; omega
      rw [hf]
      have e1 : IntKind.i64.wrap ((n : Int) - (p : Int)) = (n : Int) - (p : Int) := wraps_i64 _ (by omega) (by omega)
      go_enter Try.func179, Try.ntmps179
      go_wp2_with (fail)
      go_quiet (fail)
      go_wp2
      go_ret
      exact ⟨rfl, _, rfl⟩
    · have hf : rsize6 44 (l.drop p) = -1 := by simp [rsize6, size6, hn]; omega
      have hlt : decide ((n : Int) - (p : Int) < 8) = true := by simp; omega
      rw [hf]
      have e1 : IntKind.i64.wrap ((n : Int) - (p : Int)) = (n : Int) - (p : Int) := wraps_i64 _ (by omega) (by omega)
      go_enter Try.func179, Try.ntmps179
      go_wp2_with (fail)
      go_quiet (fail)
      go_wp2
      go_ret
      exact ⟨rfl, _, rfl⟩
  · have zb : (next != 44) = true := by simpa using z
    have e1 : IntKind.i64.wrap ((n : Int) - (p : Int)) = (n : Int) - (p : Int) := wraps_i64 _ (by omega) (by omega)
    by_cases z2 : n - p < 2
    · have hf : rsize6 next (l.drop p) = -1 := by
        unfold rsize6 size6
        rw [if_neg z, List.length_drop, hn, if_pos z2, if_neg (by simp)]
      have hlt : decide ((n : Int) - (p : Int) < 2) = true := by simp; omega
      rw [hf]
      go_enter Try.func179, Try.ntmps179
      go_wp2_with (fail)
      go_quiet (fail)
      go_wp2
      go_ret
      exact ⟨rfl, _, rfl⟩
    · have hlt : decide ((n : Int) - (p : Int) < 2) = false := by simp; omega
      obtain ⟨ad, rfl, c1⟩ := Kd.at_int hr ((p : Int) + 1) (by omega) (by omega)
      have hb1 := rd_byte' l hb ((p : Int) + 1)
      have hrd : rd (l.drop p) 1 = rd l ((p : Int) + 1) := by
        unfold rd
        rw [List.getD_eq_getElem?_getD, List.getD_eq_getElem?_getD, List.getElem?_drop]
        congr 2
      obtain ⟨v, hv⟩ : ∃ v, v = rd l ((p : Int) + 1) := ⟨_, rfl⟩
      rw [← hv] at c1 hb1 hrd
      rw [show ((p : Int) + 1).toNat = p + 1 by omega, show ad.add (p + 1) = ⟨ad.block, ad.off + (p + 1), none⟩ by unfold Addr.add; rw [if_neg (by omega)]] at c1
      have q2 : ((p : Int) + 1).toNat = p + 1 := by omega
      have hf : rsize6 next (l.drop p) = if 8 * (v + 1) ≤ (n : Int) - p then (v + 1) * 8 else -1 := by
        have hnp : ((n - p : Nat) : Int) = (n : Int) - p := by omega
        unfold rsize6 size6
        rw [if_neg z, List.length_drop, hn, if_neg z2, hrd, hnp]
        by_cases hh : 8 * (v + 1) ≤ (n : Int) - p
        · rw [if_pos (decide_eq_true hh), if_pos hh]; show 8 * (v + 1) = _; omega
        · rw [if_neg (by simp only [decide_eq_true_eq]; exact hh), if_neg hh]
      rw [hf]
      have q1 : (p : Int) + 1 < (n : Int) := by omega
      have q0 : (0 : Int) ≤ (p : Int) + 1 := by omega
      have e2 : IntKind.i64.wrap ((p : Int) + 1) = (p : Int) + 1 := wraps_i64 _ (by omega) (by omega)
      have e3 : IntKind.i64.wrap (v + 1) = v + 1 := wraps_i64 _ (by omega) (by omega)
      have e4 : IntKind.i64.wrap ((v + 1) * 8) = (v + 1) * 8 := wraps_i64 _ (by omega) (by omega)
      have e5 : IntKind.i64.wrap v = v := wraps_i64 _ (by omega) (by omega)
      by_cases hh : 8 * (v + 1) ≤ (n : Int) - p
      · rw [if_pos hh]
        have hd : decide ((n : Int) - (p : Int) < (v + 1) * 8) = false := by simp; omega
        clear hr hb hb1 hv hrd hf hh hn
        go_enter Try.func179, Try.ntmps179
        go_wp2_with (fail)
        go_quiet (fail)
        go_wp2
        go_quiet (fail)
        go_wp2
        go_quiet (fail)
        go_wp2
        go_ret
        exact ⟨rfl, _, by rw [World.drewN_drewN, World.drewN_drewN]⟩
      · rw [if_neg hh]
        have hd : decide ((n : Int) - (p : Int) < (v + 1) * 8) = true := by simp; omega
        clear hr hb hb1 hv hrd hf hh hn
        go_enter Try.func179, Try.ntmps179
        go_wp2_with (fail)
        go_quiet (fail)
        go_wp2
        go_quiet (fail)
        go_wp2
        go_quiet (fail)
        go_wp2
        go_ret
        exact ⟨rfl, _, by rw [World.drewN_drewN, World.drewN_drewN]⟩
end Go.Proofs.Ytgifcmbknkjemaa.Own
