/- The program's look at a fragment's header (layer 4): what it writes into the walker. -/
import Derived.Test.YtgifcmbknkjemaaSpec6
import Derived.Test.YtgifcmbknkjemaaBits6
namespace Go.Proofs.Ytgifcmbknkjemaa.Own
open Go Go.RowKit Go.Proofs.YtgifcmbknkjemaaW.PrintWords Go.Proofs.YtgifcmbknkjemaaW.PrintLast Go.Proofs.YtgifcmbknkjemaaW.PrintMore
set_option linter.unusedVariables false
set_option linter.unusedSimpArgs false
/-- The walker's block. -/
def obj6 (next : Int) (rest vE : Value) (hop frg stops st : Bool) (id off : Int) (more : Bool) : Array Value :=
  #[.int .i64 next, rest, vE, .bool hop, .bool frg, .bool stops, .bool st, .int .i64 0, .int .i64 0, .int .u64 0, .int .u64 0, .int .i64 0, .int .u64 0, .int .u64 0, .int .i64 0, .int .i64 0, .bool st, .int .u32 id, .int .i64 off, .bool more, .slice none 0 0, .slice none 0 0]
/-- The walker's block at a state. -/
def objS (s : S6) (stops : Bool) (rest vE : Value) : Array Value :=
  obj6 s.next rest vE s.hop s.frg stops s.fr.isSome (s.fr.getD (0, 0, false)).1 (s.fr.getD (0, 0, false)).2.1 (s.fr.getD (0, 0, false)).2.2
theorem U16_at {A : Option Addr} {c n : Nat} {l : List Int} {w : World} (a : Int) (hr : (Kd.int .u8).C w A n l) (hc : n ≤ c) (hb : Bytes l) (hl : n ≤ 140737488355000) (h0 : 0 ≤ a) (ha : a + 2 ≤ n) :
    Calls Try.prog 49 #[.slice A n c, .int .i64 a] w fun e w' => e = .returned (.tuple #[.int .i64 (u16 l a), .bool true]) ∧ ∃ m, w' = w.drewN m := by
  have hn : l.length = n := hr.1
  subst hn
  refine (wire_U16.calls A c l a (u16 l a) true w hr hc ?_).mono fun e w' h => ⟨h.1, h.2.out⟩
  unfold wire_U16.f
  rw [if_pos (by simp [okS, okB_iff.2 hb]; exact hl), if_pos ⟨h0, ha⟩]
theorem U32_at {A : Option Addr} {c n : Nat} {l : List Int} {w : World} (a : Int) (hr : (Kd.int .u8).C w A n l) (hc : n ≤ c) (hb : Bytes l) (hl : n ≤ 140737488355000) (h0 : 0 ≤ a) (ha : a + 4 ≤ n) :
    Calls Try.prog 50 #[.slice A n c, .int .i64 a] w fun e w' => e = .returned (.tuple #[.int .u32 (u32 l a), .bool true]) ∧ ∃ m, w' = w.drewN m := by
  have hn : l.length = n := hr.1
  subst hn
  refine (wire_U32.calls A c l a (u32 l a) true w hr hc ?_).mono fun e w' h => ⟨h.1, h.2.out⟩
  unfold wire_U32.f
  rw [if_pos (by simp [okS, okB_iff.2 hb]; exact hl), if_pos ⟨h0, ha⟩]
theorem blk_unfrozen {W : World} {b : Nat} {cs : Array Value} {t : TypeId} (h : W.heap[b]? = some (.cells cs t (0, 0))) (i : Nat) : W.frozen? ⟨b, i, none⟩ = false := by simp [World.frozen?, h]
theorem obj_set {w : World} {b t : Nat} {C : Array Value} (h : w.heap[b]? = some (.cells C t (0, 0))) (i : Nat) (v : Value) : (w.setCell ⟨b, i, none⟩ v).heap[b]? = some (.cells (C.setIfInBounds i v) t (0, 0)) := heap_setCell_same w b i C t v h
/-- A row of whole numbers is read alike where its block is the same. -/
theorem C_same {k : IntKind} {w w1 : World} {A : Option Addr} {n : Nat} {l : List Int} (h : (Kd.int k).C w A n l) (hh : ∀ ad, A = some ad → w1.heap[ad.block]? = w.heap[ad.block]?) : (Kd.int k).C w1 A n l := by
  refine ⟨h.1, h.2.1, fun hn => ?_⟩
  obtain ⟨ad, e, hc⟩ := h.2.2 hn
  refine ⟨ad, e, fun j p hj => ?_⟩
  obtain ⟨c, h1, h2, h3⟩ := hc j p hj
  refine ⟨c, h1, h2, fun i u hu => ?_⟩
  have h4 := h3 i u hu
  have hb : (ad.add (j * (Kd.int k).sz + i)).block = ad.block := by unfold Addr.add; split <;> rfl
  rw [← h4]
  unfold World.cell?
  rw [hb, hh ad e]
theorem C_set {k : IntKind} {w : World} {A : Option Addr} {n : Nat} {l : List Int} (h : (Kd.int k).C w A n l) (b i : Nat) (v : Value) (hb : ∀ ad, A = some ad → ad.block ≠ b) : (Kd.int k).C (w.setCell ⟨b, i, none⟩ v) A n l :=
  C_same h fun ad ha => heap_setCell_other w ⟨b, i, none⟩ ad.block v (hb ad ha)
theorem C_drewN {k : IntKind} {w : World} {A : Option Addr} {n : Nat} {l : List Int} (h : (Kd.int k).C w A n l) (m : Nat) : (Kd.int k).C (w.drewN m) A n l := C_same h fun _ _ => rfl
/-- The worlds are alike but for one block. -/
def Far (b : Nat) (w w1 : World) : Prop := ∀ i, i ≠ b → w1.heap[i]? = w.heap[i]?
theorem Far.refl (b : Nat) (w : World) : Far b w w := fun _ _ => rfl
theorem Far.set {b : Nat} {w w1 : World} (h : Far b w w1) (i : Nat) (v : Value) : Far b w (w1.setCell ⟨b, i, none⟩ v) := fun j hj => (heap_setCell_other w1 ⟨b, i, none⟩ j v hj).trans (h j hj)
theorem Far.drewN {b : Nat} {w w1 : World} (h : Far b w w1) (m : Nat) : Far b w (w1.drewN m) := fun j hj => h j hj
theorem Far.drew {b : Nat} {w w1 : World} (h : Far b w w1) : Far b w w1.drew := fun j hj => h j hj
theorem C_far {k : IntKind} {b : Nat} {w w1 : World} {A : Option Addr} {n : Nat} {l : List Int} (h : (Kd.int k).C w A n l) (hne : ∀ ad, A = some ad → ad.block ≠ b) (hf : Far b w w1) : (Kd.int k).C w1 A n l := C_same h fun ad ha => hf _ (hne ad ha)
theorem obj_drewN {w : World} {b : Nat} {o : Obj} (h : w.heap[b]? = some o) (m : Nat) : (w.drewN m).heap[b]? = some o := h
/-- What a look at a fragment leaves. -/
def Frag6Post (b base : Nat) (w0 w : World) (s : S6) (stops : Bool) (rest vE : Value) (l : List Int) (w' : World) : Prop :=
  Far b w w' ∧ Below base w0 w' ∧ (s.frg = false → w'.heap[b]? = some (.cells (objS ⟨s.next, s.rest, s.exts, s.hop, true, frag6 stops s.fr l⟩ stops rest vE) 128 (0, 0)))
set_option maxRecDepth 100000 in
set_option maxHeartbeats 1000000 in
theorem fragment_at {b base : Nat} {s : S6} {stops : Bool} {rest vE : Value} {w w0 : World} {A : Option Addr} {c n : Nat} {l : List Int} (ho : w.heap[b]? = some (.cells (objS s stops rest vE) 128 (0, 0))) (hs : s.fr = none) (hr : (Kd.int .u8).C w A n l) (hne : ∀ ad, A = some ad → ad.block ≠ b) (hc : n ≤ c) (hb : Bytes l) (hl : n ≤ 140737488355000) (h8 : 8 ≤ n) (hB : Below base w0 w) (hbb : base ≤ b) :
    Calls Try.prog 178 #[.pointer (some ⟨b, 0, none⟩), .slice A n c] w fun e w' => e = .returned (.int .i64 (if s.frg = true then 7 else 0)) ∧ Frag6Post b base w0 w s stops rest vE l w' := by
  obtain ⟨next, rst, exts, hop, frg, fr⟩ := s
  obtain rfl : fr = none := hs
  cases frg with
  | true =>
    have c4 : w.cell? ⟨b, 4, none⟩ = some (.bool true) := blk_cell ho 4
    have HB := Aside0.mk hB
    clear ho hr hB hne
    go_enter Try.func178, Try.ntmps178
    go_wp2
    go_ret
    exact ⟨rfl, Far.refl _ _, HB.out, fun h => by cases h⟩
  | false =>
    have ub := u16_bounds hb 2
    obtain ⟨p, hp2⟩ : ∃ p : Nat, u16 l 2 = (p : Int) := ⟨(u16 l 2).toNat, by omega⟩
    have c4 : w.cell? ⟨b, 4, none⟩ = some (.bool false) := blk_cell ho 4
    have c5 : w.cell? ⟨b, 5, none⟩ = some (.bool stops) := blk_cell ho 5
    have c6 : w.cell? ⟨b, 6, none⟩ = some (.bool false) := blk_cell ho 6
    have c16 : w.cell? ⟨b, 16, none⟩ = some (.bool false) := blk_cell ho 16
    have c17 : w.cell? ⟨b, 17, none⟩ = some (.int .u32 0) := blk_cell ho 17
    have c18 : w.cell? ⟨b, 18, none⟩ = some (.int .i64 0) := blk_cell ho 18
    have c19 : w.cell? ⟨b, 19, none⟩ = some (.bool false) := blk_cell ho 19
    have f4 := blk_unfrozen ho 4
    have f6 := blk_unfrozen ho 6
    have f16 := blk_unfrozen ho 16
    have f17 := blk_unfrozen ho 17
    have f18 := blk_unfrozen ho 18
    have f19 := blk_unfrozen ho 19
    have HO := Aside0.mk ho
    have HB := Aside0.mk hB
    have HR := Aside0.mk hr
    have HNE := Aside0.mk hne
    have HP := Aside0.mk hp2
    have e16 : ∀ W, (Kd.int .u8).C W A n l → Calls Try.prog 49 #[.slice A n c, .int .i64 2] W fun e w' => e = .returned (.tuple #[.int .i64 (p : Int), .bool true]) ∧ ∃ m, w' = W.drewN m := fun W h => by
      rw [← hp2]; exact U16_at 2 h hc hb hl (by omega) (by omega)
    have E16 := Aside0.mk e16
    clear ho hB hr hne e16
    by_cases h : stops = true ∧ (p / 8 ≠ 0 ∨ p % 2 = 1)
    · obtain ⟨rfl, h1⟩ := h
      have hbit : (Go.bits .andNot .i64 (p : Int) 6 != 0) = true := by
        rw [bne_iff_ne]
        intro h0
        have := (andNot6_zero p (by omega)).1 h0
        omega
      have h7 : Go.bits .andNot .i64 (p : Int) 7 = ((p / 8 * 8 : Nat) : Int) := andNot7 p (by omega)
      have h1b : (Go.bits .and .i64 (p : Int) 1 == 1) = decide (p % 2 = 1) := by
        rw [and1 p (by omega)]
        by_cases h2 : p % 2 = 1
        · simp [h2]
        · have : p % 2 = 0 := by omega
          simp [this]
      have HF := Aside0.mk (show frag6 true none l = some (u32 l 4, ((p / 8 * 8 : Nat) : Int), decide (p % 2 = 1)) from by
        unfold frag6
        rw [hp2, if_pos ⟨rfl, by omega⟩]
        congr 3
        by_cases h2 : p % 2 = 1
        · rw [decide_eq_true h2, decide_eq_true (by omega)]
        · rw [decide_eq_false h2, decide_eq_false (by omega)])
      obtain ⟨q, hq⟩ : ∃ q : Nat, q = p / 8 * 8 := ⟨_, rfl⟩
      obtain ⟨m1, hm1⟩ : ∃ m1 : Bool, m1 = decide (p % 2 = 1) := ⟨_, rfl⟩
      rw [← hq] at h7 HF
      rw [← hm1] at h1b HF
      clear hp2 h1 hq hm1 ub
      go_enter Try.func178, Try.ntmps178
      go_wp2_with (first | (go_at_call 49; refine (E16.out _ (C_set HR.out b 4 _ HNE.out)).mono ?_; rintro e w2 ⟨rfl, m, rfl⟩) | (go_at_call 50; refine (U32_at 4 (C_far HR.out HNE.out ?hs) hc hb hl (by omega) (by omega)).mono ?_; rotate_left; rintro e w2 ⟨rfl, m2, rfl⟩))
      case hs => repeat (first | with_reducible exact Far.refl _ _ | with_reducible apply Far.set | with_reducible apply Far.drewN)
      go_ret
      refine ⟨rfl, ?_, ?_, fun _ => ?_⟩
      · repeat (first | with_reducible exact Far.refl _ _ | with_reducible apply Far.set | with_reducible apply Far.drewN)
      · repeat (first | with_reducible exact HB.out | with_reducible apply pw_below_drewN | with_reducible refine Below.setCell ?_ hbb _)
      · rw [HF.out]
        have o1 := obj_set HO.out 4 (.bool true)
        have o2 := obj_set (obj_drewN o1 m) 6 (.bool true)
        have o3 := obj_set o2 16 (.bool true)
        have o4 := obj_set o3 18 (.int .i64 q)
        have o5 := obj_set o4 19 (.bool m1)
        have o6 := obj_set (obj_drewN o5 m2) 17 (.int .u32 (u32 l 4))
        rw [o6]
        rfl
    · have HF := Aside0.mk (show frag6 stops none l = none from by
        unfold frag6
        rw [hp2, if_neg (fun hh => h ⟨hh.1, by have := hh.2; omega⟩)])
      cases stops with
      | false =>
        clear h hp2
        go_enter Try.func178, Try.ntmps178
        go_wp2_with (go_at_call 49; refine (E16.out _ (C_set HR.out b 4 _ HNE.out)).mono ?_; rintro e w2 ⟨rfl, m, rfl⟩)
        go_ret
        refine ⟨rfl, ?_, ?_, fun _ => ?_⟩
        · repeat (first | with_reducible exact Far.refl _ _ | with_reducible apply Far.set | with_reducible apply Far.drewN)
        · repeat (first | with_reducible exact HB.out | with_reducible apply pw_below_drewN | with_reducible refine Below.setCell ?_ hbb _)
        · rw [HF.out]
          have o1 := obj_drewN (obj_set HO.out 4 (.bool true)) m
          rw [o1]
          rfl
      | true =>
        have h' : ¬ (p / 8 ≠ 0 ∨ p % 2 = 1) := fun hh => h ⟨rfl, hh⟩
        have hbit : (Go.bits .andNot .i64 (p : Int) 6 != 0) = false := by
          rw [bne_eq_false_iff_eq]
          exact (andNot6_zero p (by omega)).2 ⟨by omega, by omega⟩
        clear h h' hp2
        go_enter Try.func178, Try.ntmps178
        go_wp2_with (go_at_call 49; refine (E16.out _ (C_set HR.out b 4 _ HNE.out)).mono ?_; rintro e w2 ⟨rfl, m, rfl⟩)
        go_ret
        refine ⟨rfl, ?_, ?_, fun _ => ?_⟩
        · repeat (first | with_reducible exact Far.refl _ _ | with_reducible apply Far.set | with_reducible apply Far.drewN)
        · repeat (first | with_reducible exact HB.out | with_reducible apply pw_below_drewN | with_reducible refine Below.setCell ?_ hbb _)
        · rw [HF.out]
          have o1 := obj_drewN (obj_set HO.out 4 (.bool true)) m
          rw [o1]
          rfl
end Go.Proofs.Ytgifcmbknkjemaa.Own
