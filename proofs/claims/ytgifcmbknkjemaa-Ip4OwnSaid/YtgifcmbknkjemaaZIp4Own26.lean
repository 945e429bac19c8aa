/- What the law Ip4Own rests on, part 26: contracts of the functions that it calls, and plain lemmas. No condition. -/
import Derived.Test.YtgifcmbknkjemaaZIp4Own25
section
namespace Go.Proofs.Ytgifcmbknkjemaa.Own
open Go Go.RowKit Go.Proofs.YtgifcmbknkjemaaW.PrintWords Go.Proofs.YtgifcmbknkjemaaW.PrintLast Go.Proofs.YtgifcmbknkjemaaW.PrintMore Go.Proofs.Ytgifcmbknkjemaa.I4Own
set_option linter.unusedVariables false
set_option linter.unusedSimpArgs false
theorem alive03_is' : stockadelaw03_alive.f = some true := by unfold stockadelaw03_alive.f; rw [if_pos trivial]
theorem Ip4Own_l1 {l0 : List Int} (hb : Bytes l0) (hl : l0.length ≤ 140737488351232) (p : IpV) (hp : p = (parse4 l0).1) (d : Nat) : ∀ (j : Nat) (c : List Int), j + d = l0.length → c.length = l0.length →
    Ev (fun k => stockadelaw03_Ip4Own.l1 k l0 c (parse4 l0).2 (l0.length : Int) j p.fam p.src.1 p.src.2.1 p.src.2.2 p.dst.1 p.dst.2.1 p.dst.2.2 p.proto p.hop p.frag p.id p.off p.more p.exts p.data) true := by
  have hinv := parse4_inv hb
  induction d with
  | zero =>
    intro j c hj hc
    refine Ev.step (fun k => ?_) (Ev.now _)
    rw [stockadelaw03_Ip4Own.l1, if_neg (by omega)]
    have e0 : stockaderef03_Parse.f l0 = some (ipT (parse4 l0)) := by unfold stockaderef03_Parse.f; rw [if_pos (okS_iff.2 ⟨hb, by omega⟩)]
    rw [e0]
    simp only [Option.bind_some, ipT, if_true]
    have e1 : stockaderef03_Same.f p.fam p.src.1 p.src.2.1 p.src.2.2 p.dst.1 p.dst.2.1 p.dst.2.2 p.proto p.hop p.frag p.id p.off p.more p.exts p.data (parse4 l0).1.fam (parse4 l0).1.src.1 (parse4 l0).1.src.2.1 (parse4 l0).1.src.2.2 (parse4 l0).1.dst.1 (parse4 l0).1.dst.2.1 (parse4 l0).1.dst.2.2 (parse4 l0).1.proto (parse4 l0).1.hop (parse4 l0).1.frag (parse4 l0).1.id (parse4 l0).1.off (parse4 l0).1.more (parse4 l0).1.exts (parse4 l0).1.data = some true := by
      subst hp
      unfold stockaderef03_Same.f
      rw [if_pos ⟨⟨rfl, rfl, rfl, rfl, rfl, rfl, rfl, rfl, rfl, rfl, rfl, rfl, rfl, rfl, rfl⟩, okB_iff.2 hinv.2.1, by omega⟩]
    rw [e1]
    simp only [Option.bind_some, if_true]
    rw [alive03_is']
    rfl
  | succ d ih =>
    intro j c hj hc
    refine Ev.step (fun k => ?_) (ih (j + 1) (c.set ((j : Nat) : Int).toNat (Go.bits .xor .u8 (rd c (j : Int)) 255)) (by omega) (by rw [List.length_set]; exact hc))
    rw [stockadelaw03_Ip4Own.l1, if_pos (by omega), if_pos (by omega), if_pos (by omega), wsucc j (by omega)]
theorem Ip4Own_l0 {l0 : List Int} (hb : Bytes l0) (hl : l0.length ≤ 140737488351232) (a0 a1 a2 a3 a4 a5 a6 a7 a8 : Int) (fr : Bool) (i o : Int) (m : Bool) (ex : List Int) (n : Nat) (hn : n ≤ 140737488351232) (d : Nat) : ∀ (j : Nat) (da : List Int), j + d = n → da.length = n →
    Ev (fun k => stockadelaw03_Ip4Own.l0 k l0 l0 (parse4 l0).2 (n : Int) j a0 a1 a2 a3 a4 a5 a6 a7 a8 fr i o m ex da) true := by
  induction d with
  | zero =>
    intro j da hj hda
    refine Ev.step (fun k => ?_) (Ip4Own_l1 hb hl (parse4 l0).1 rfl l0.length 0 l0 (Nat.zero_add _) rfl)
    have e0 : ip4_Parse.f l0 = some (ipT (parse4 l0)) := by unfold ip4_Parse.f; rw [if_pos (okS_iff.2 ⟨hb, by omega⟩)]
    have e8 : stockaderef01_Same.f l0 l0 = some true := by
      unfold stockaderef01_Same.f
      rw [if_pos ⟨okB_iff.2 hb, okB_iff.2 hb⟩]
      simp
    rw [stockadelaw03_Ip4Own.l0, if_neg (by omega), e8]
    simp only [Option.bind_some, if_true]
    rw [e0]
    simp only [Option.bind_some, ipT]
    rfl
  | succ d ih =>
    intro j da hj hda
    refine Ev.step (fun k => ?_) (ih (j + 1) (da.set ((j : Nat) : Int).toNat (Go.bits .xor .u8 (rd da (j : Int)) 255)) (by omega) (by rw [List.length_set]; exact hda))
    rw [stockadelaw03_Ip4Own.l0, if_pos (by omega), if_pos (by omega), if_pos (by omega), wsucc j (by omega)]
theorem Ip4Own_some {l0 : List Int} (hb : Bytes l0) (hl : l0.length ≤ 140737488351232) : ∃ k, stockadelaw03_Ip4Own.f k l0 = some true := by
  have hinv := parse4_inv hb
  have e0 : ip4_Parse.f l0 = some (ipT (parse4 l0)) := by unfold ip4_Parse.f; rw [if_pos (okS_iff.2 ⟨hb, by omega⟩)]
  obtain ⟨k, hk⟩ := (Ip4Own_l0 hb hl (parse4 l0).1.fam (parse4 l0).1.src.1 (parse4 l0).1.src.2.1 (parse4 l0).1.src.2.2 (parse4 l0).1.dst.1 (parse4 l0).1.dst.2.1 (parse4 l0).1.dst.2.2 (parse4 l0).1.proto (parse4 l0).1.hop (parse4 l0).1.frag (parse4 l0).1.id (parse4 l0).1.off (parse4 l0).1.more (parse4 l0).1.exts (parse4 l0).1.data.length (by omega) _ 0 (parse4 l0).1.data (Nat.zero_add _) rfl).rounds
  refine ⟨k, ?_⟩
  unfold stockadelaw03_Ip4Own.f
  rw [if_pos (by simp; omega)]
  simp only [List.nil_append, Option.bind_some]
  rw [e0]
  simp only [Option.bind_some, ipT]
  exact hk
theorem Ip4Own_walk (w : World) (A0 : Option Addr) (c0 : Nat) (l0 : List Int) (hr0 : Kd.C (Kd.int .u8) w A0 l0.length l0) (hc0 : l0.length ≤ c0) (hg0 : Bytes l0 ∧ l0.length ≤ 140737488351232) :
    Calls Try.prog 21 #[.slice A0 l0.length c0] w fun e w' => e = .returned (.bool true) ∧ Below w.heap.size w w' := by
  obtain ⟨k, hk⟩ := Ip4Own_some hg0.1 hg0.2
  exact stockadelaw03_Ip4Own.calls k A0 c0 l0 true w hr0 hc0 hk
end Go.Proofs.Ytgifcmbknkjemaa.Own
end
