/- What the law Ip6Behind rests on, part 9: contracts of the functions that it calls, and plain lemmas. No condition. -/
import Derived.Test.YtgifcmbknkjemaaZIp6Behind8
import Derived.Deep.RegionLaw
import Derived.BigRegion
section
namespace Go.Proofs.Ytgifcmbknkjemaa.Own
open Go Go.RowKit Go.Proofs.YtgifcmbknkjemaaW.PrintWords Go.Proofs.YtgifcmbknkjemaaW.PrintLast Go.Proofs.YtgifcmbknkjemaaW.PrintMore
set_option linter.unusedVariables false
set_option linter.unusedSimpArgs false
structure Obj6 (w0 : World) (b r x : Nat) (stops : Bool) (s : S6) (A : Option Addr) (n c : Nat) (vE : Value) (wr : World) : Prop where
  ho : wr.heap[b]? = some (.cells (objS s stops (.slice A n c) vE) 128 (0, 0))
  hr : (Kd.int .u8).C w0 A n s.rest
  hx : Kd.R (Kd.int .i64) 3 wr w0.heap.size (fun k => k ≠ b ∧ k ≠ r ∧ k ≠ x) vE s.exts
  hm : wr.heap[r]? = some (.map (ints (looksOf b x)) 4)
  hp : wr.heap[x]? = some (.cells #[.pointer (some ⟨b, 0, none⟩)] 126 (0, 0))
  hB : Below w0.heap.size w0 wr
theorem Obj6.drewN {w0 : World} {b r x : Nat} {stops : Bool} {s : S6} {A : Option Addr} {n c : Nat} {vE : Value} {wr : World} (h : Obj6 w0 b r x stops s A n c vE wr) (m : Nat) : Obj6 w0 b r x stops s A n c vE (wr.drewN m) :=
  ⟨h.ho, h.hr, Kd.R_move h.hx (fun _ _ => rfl), h.hm, h.hp, pw_below_drewN h.hB m⟩
theorem Obj6.drew {w0 : World} {b r x : Nat} {stops : Bool} {s : S6} {A : Option Addr} {n c : Nat} {vE : Value} {wr : World} (h : Obj6 w0 b r x stops s A n c vE wr) : Obj6 w0 b r x stops s A n c vE wr.drew :=
  ⟨h.ho, h.hr, Kd.R_move h.hx (fun _ _ => rfl), h.hm, h.hp, below_drew h.hB⟩
theorem lt_of_heap {w : World} {i : Nat} {o : Obj} (h : w.heap[i]? = some o) : i < w.heap.size := by
  rcases Nat.lt_or_ge i w.heap.size with h1 | h1
  · exact h1
  · rw [Array.getElem?_eq_none h1] at h; cases h
theorem Obj6.below {w0 : World} {b r x : Nat} {stops : Bool} {s : S6} {A : Option Addr} {n c : Nat} {vE : Value} {wr w1 : World} (h : Obj6 w0 b r x stops s A n c vE wr) (hb : Below wr.heap.size wr w1) : Obj6 w0 b r x stops s A n c vE w1 :=
  ⟨(hb.block _ (lt_of_heap h.ho)).trans h.ho, h.hr, Kd.R_below h.hx hb, (hb.block _ (lt_of_heap h.hm)).trans h.hm, (hb.block _ (lt_of_heap h.hp)).trans h.hp, below_then h.hB h.hB.size hb⟩
structure Grew6 (w0 : World) (b r x : Nat) (stops : Bool) (s : S6) (A : Option Addr) (n c : Nat) (vE v1 : Value) (q : Int) (w4 : World) : Prop where
  ho : w4.heap[b]? = some (.cells (objS s stops (.slice A n c) vE) 128 (0, 0))
  hr : (Kd.int .u8).C w0 A n s.rest
  hx : Kd.R (Kd.int .i64) 3 w4 w0.heap.size (fun k => k ≠ b ∧ k ≠ r ∧ k ≠ x) v1 (s.exts ++ [q])
  hm : w4.heap[r]? = some (.map (ints (looksOf b x)) 4)
  hp : w4.heap[x]? = some (.cells #[.pointer (some ⟨b, 0, none⟩)] 126 (0, 0))
  hB : Below w0.heap.size w0 w4
theorem Obj6.grew {w0 : World} {b r x : Nat} {stops : Bool} {s : S6} {A : Option Addr} {n c : Nat} {vE v1 : Value} {q : Int} {w3 w4 : World} (h : Obj6 w0 b r x stops s A n c vE w3) (hx : Kd.R (Kd.int .i64) 3 w4 w0.heap.size (fun k => k ≠ b ∧ k ≠ r ∧ k ≠ x) v1 (s.exts ++ [q])) (hB : Below w0.heap.size w0 w4) (hg : w3.grownBy w4 vE.ownBlock) : Grew6 w0 b r x stops s A n c vE v1 q w4 := by
  have hk : ∀ k, k < w3.heap.size → (k = b ∨ k = r ∨ k = x) → w4.heap[k]? = w3.heap[k]? := fun k hlt hk => hg.block k hlt fun he => by
    have := h.hx.1 k he.symm
    omega
  exact ⟨(hk b (lt_of_heap h.ho) (.inl rfl)).trans h.ho, h.hr, hx, (hk r (lt_of_heap h.hm) (.inr (.inl rfl))).trans h.hm, (hk x (lt_of_heap h.hp) (.inr (.inr rfl))).trans h.hp, hB⟩
def exts6 (s : S6) (q : Int) : S6 := ⟨s.next, s.rest, s.exts ++ [q], s.hop, s.frg, s.fr⟩
theorem Grew6.store {w0 : World} {b r x : Nat} {stops : Bool} {s : S6} {A : Option Addr} {n c : Nat} {vE v1 : Value} {q : Int} {w4 : World} (h : Grew6 w0 b r x stops s A n c vE v1 q w4) (hbb : w0.heap.size ≤ b) (hbr : b ≠ r) (hbx : b ≠ x) : Obj6 w0 b r x stops (exts6 s q) A n c v1 (w4.setCell ⟨b, 2, none⟩ v1) := by
  refine ⟨?_, h.hr, ?_, ?_, ?_, h.hB.setCell hbb _⟩
  · have h1 := obj_set h.ho 2 v1
    rw [h1]
    rfl
  · exact Kd.R_step h.hx (fun k hk _ => heap_setCell_other w4 ⟨b, 2, none⟩ k v1 hk.1)
  · exact (heap_setCell_other w4 ⟨b, 2, none⟩ r v1 (Ne.symm hbr)).trans h.hm
  · exact (heap_setCell_other w4 ⟨b, 2, none⟩ x v1 (Ne.symm hbx)).trans h.hp
theorem Obj6.fresh {w0 : World} {b r x : Nat} {stops : Bool} {s : S6} {A : Option Addr} {n c : Nat} {vE : Value} {w3 : World} (h : Obj6 w0 b r x stops s A n c vE w3) (k : Nat) (hk : w3.heap.size ≤ k) : k ≠ b ∧ k ≠ r ∧ k ≠ x := by
  have := lt_of_heap h.ho
  have := lt_of_heap h.hm
  have := lt_of_heap h.hp
  omega
structure At6 (w0 : World) (b r x : Nat) (stops : Bool) (R : Int × S6) (k : Nat) (s : S6) (A : Option Addr) (n c : Nat) (vE : Value) (wr : World) : Prop where
  run : run6 stops k s = R
  many : 9 ≤ k + s.exts.length
  few : s.exts.length ≤ 8
  o : Obj6 w0 b r x stops s A n c vE wr
  hc : n ≤ c
  hby : Bytes s.rest
  hn : n ≤ 140737488355000
def Post6 (w0 : World) (b r x : Nat) (stops : Bool) (R : Int × S6) (w' : World) : Prop :=
  Below w0.heap.size w0 w' ∧ (R.1 = 0 → ∃ A n c vE, Obj6 w0 b r x stops R.2 A n c vE w' ∧ n ≤ c ∧ Bytes R.2.rest ∧ n ≤ 140737488355000)
theorem look_none (next : Int) (b x : Nat) (h : isExt next = false) : ((looksOf b x).findIdx? fun k => k.1 == next) = none := by
  simp only [isExt, Bool.or_eq_false_iff, beq_eq_false_iff_ne, ne_eq] at h
  have h0 : ((0 : Int) == next) = false := by simp; omega
  have h1 : ((60 : Int) == next) = false := by simp; omega
  have h2 : ((43 : Int) == next) = false := by simp; omega
  have h3 : ((44 : Int) == next) = false := by simp; omega
  simp [looksOf, List.findIdx?_cons, h0, h1, h2, h3]
theorem size6_facts {next : Int} {l : List Int} (hb : Bytes l) (h : (size6 next l).2 = true) : ∃ nn : Nat, (size6 next l).1 = nn ∧ 8 ≤ nn ∧ nn ≤ l.length ∧ nn ≤ 2048 := by
  have h1 := rd_byte hb 1
  unfold size6 at h ⊢
  by_cases z : next = 44
  · rw [if_pos z] at h ⊢
    simp at h
    exact ⟨8, rfl, by omega, h, by omega⟩
  · rw [if_neg z] at h ⊢
    by_cases z2 : l.length < 2
    · rw [if_pos z2] at h; cases h
    · rw [if_neg z2] at h ⊢
      simp at h
      exact ⟨(8 * (rd l 1 + 1)).toNat, by show 8 * (rd l 1 + 1) = _; omega, by omega, by omega, by omega⟩
def look2 (stops : Bool) (s : S6) (n : Nat) : S6 := ⟨s.next, s.rest, s.exts, s.hop, s.frg || s.next == 44, if s.next = 44 then frag6 stops s.fr (s.rest.take n) else s.fr⟩
def LookPost (w0 : World) (b r x : Nat) (stops : Bool) (s : S6) (A : Option Addr) (n c : Nat) (vE : Value) (nn : Nat) (e : Ending) (w' : World) : Prop :=
  e = .returned (.int .i64 (look6 s (s.rest.take nn))) ∧ Below w0.heap.size w0 w' ∧ (look6 s (s.rest.take nn) = 0 → Obj6 w0 b r x stops (look2 stops s nn) A n c vE w')
theorem C_takeN {k : IntKind} {w : World} {A : Option Addr} {n : Nat} {l : List Int} (h : (Kd.int k).C w A n l) (m : Nat) (hm : m ≤ n) : (Kd.int k).C w A m (l.take m) := by
  have hn : l.length = n := h.1
  subst hn
  have h1 := Kd.C_take h hm
  rwa [List.length_take, Nat.min_eq_left hm] at h1
theorem C_block {k : IntKind} {w : World} {ad : Addr} {n : Nat} {l : List Int} (h : (Kd.int k).C w (some ad) n l) (hn : 0 < n) : ad.block < w.heap.size := by
  obtain ⟨ad', e, hc⟩ := Kd.at_int h 0 (by omega) (by omega)
  obtain rfl := Option.some.inj e
  have := World.block_lt_of_cell? w _ hc
  unfold Addr.add at this
  split at this <;> exact this
section
variable {w0 W : World} {b r x : Nat} {stops : Bool} {s : S6} {ad : Addr} {n c nn : Nat} {vE : Value}
theorem look_key0 (H : Obj6 w0 b r x stops s (some ad) n c vE W) (hc : n ≤ c) (hb : Bytes s.rest) (hn : n ≤ 140737488355000) (h8 : 8 ≤ nn) (hnn : nn ≤ n) (hk : s.next = 0) :
    Calls Try.prog 174 #[.slice (some ad) nn c, .pointer (some ⟨x, 0, none⟩)] W (LookPost w0 b r x stops s (some ad) n c vE nn) := by
  refine (look0_at (hop := s.hop) (blk_cell H.hp 0) (blk_cell H.ho 3) (C_takeN (Kd.C_below H.hr H.hB) nn hnn) (by omega) (fun y hy => hb y (List.mem_of_mem_take hy)) h8 (by omega)).mono fun e w' h => ?_
  obtain ⟨rfl, h2⟩ := h
  have hl : look6 s (s.rest.take nn) = if s.hop = true then 7 else opt ((s.rest.take nn).drop 2) := by unfold look6; rw [if_pos hk]
  refine ⟨by rw [hl], below_then H.hB H.hB.size h2, fun _ => ?_⟩
  have h3 := H.below h2
  have he : look2 stops s nn = s := by
    have hne : (s.next == 44) = false := by rw [hk]; rfl
    have hne2 : ¬ s.next = 44 := by rw [hk]; omega
    unfold look2
    rw [hne, Bool.or_false, if_neg hne2]
  rw [he]
  exact h3
theorem look_key60 (H : Obj6 w0 b r x stops s (some ad) n c vE W) (hc : n ≤ c) (hb : Bytes s.rest) (hn : n ≤ 140737488355000) (h8 : 8 ≤ nn) (hnn : nn ≤ n) (hk : s.next = 60) :
    Calls Try.prog 176 #[.slice (some ad) nn c] W (LookPost w0 b r x stops s (some ad) n c vE nn) := by
  refine (look60_at (C_takeN (Kd.C_below H.hr H.hB) nn hnn) (by omega) (fun y hy => hb y (List.mem_of_mem_take hy)) h8 (by omega)).mono fun e w' h => ?_
  obtain ⟨rfl, h2⟩ := h
  have hl : look6 s (s.rest.take nn) = opt ((s.rest.take nn).drop 2) := by unfold look6; rw [if_neg (by omega), if_pos hk]
  refine ⟨by rw [hl], below_then H.hB H.hB.size h2, fun _ => ?_⟩
  have h3 := H.below h2
  have he : look2 stops s nn = s := by
    have hne : (s.next == 44) = false := by rw [hk]; rfl
    have hne2 : ¬ s.next = 44 := by rw [hk]; omega
    unfold look2
    rw [hne, Bool.or_false, if_neg hne2]
  rw [he]
  exact h3
theorem look_key43 (H : Obj6 w0 b r x stops s (some ad) n c vE W) (hc : n ≤ c) (hb : Bytes s.rest) (hn : n ≤ 140737488355000) (h8 : 8 ≤ nn) (hnn : nn ≤ n) (hk : s.next = 43) :
    Calls Try.prog 177 #[.slice (some ad) nn c] W (LookPost w0 b r x stops s (some ad) n c vE nn) := by
  refine (look43_at (C_takeN (Kd.C_below H.hr H.hB) nn hnn) (by omega) h8 (by omega)).mono fun e w' h => ?_
  obtain ⟨rfl, h2⟩ := h
  have hl : look6 s (s.rest.take nn) = lookRoute (s.rest.take nn) := by unfold look6; rw [if_neg (by omega), if_neg (by omega), if_pos hk]
  refine ⟨by rw [hl], below_then H.hB H.hB.size h2, fun _ => ?_⟩
  have h3 := H.below h2
  have he : look2 stops s nn = s := by
    have hne : (s.next == 44) = false := by rw [hk]; rfl
    have hne2 : ¬ s.next = 44 := by rw [hk]; omega
    unfold look2
    rw [hne, Bool.or_false, if_neg hne2]
  rw [he]
  exact h3
theorem look_key44 (H : Obj6 w0 b r x stops s (some ad) n c vE W) (hbb : w0.heap.size ≤ b) (hbr : b ≠ r) (hbx : b ≠ x) (hf : s.fr = none) (hc : n ≤ c) (hb : Bytes s.rest) (hn : n ≤ 140737488355000) (h8 : 8 ≤ nn) (hnn : nn ≤ n) (hk : s.next = 44) :
    Calls Try.prog 178 #[.pointer (some ⟨b, 0, none⟩), .slice (some ad) nn c] W (LookPost w0 b r x stops s (some ad) n c vE nn) := by
  have hadb : ad.block < w0.heap.size := C_block H.hr (by omega)
  refine (fragment_at (base := w0.heap.size) (w0 := w0) H.ho hf (C_takeN (Kd.C_below H.hr H.hB) nn hnn) (fun ad' h => by have := Option.some.inj h; subst this; omega) (by omega) (fun y hy => hb y (List.mem_of_mem_take hy)) (by omega) h8 H.hB hbb).mono fun e w' h => ?_
  obtain ⟨rfl, hfar, h2, h3⟩ := h
  have hl : look6 s (s.rest.take nn) = if s.frg = true then 7 else 0 := by unfold look6; rw [if_neg (by omega), if_neg (by omega), if_neg (by omega)]
  refine ⟨by rw [hl], h2, fun h0 => ?_⟩
  have hfrg : s.frg = false := by
    rw [hl] at h0
    by_cases hh : s.frg = true
    · rw [if_pos hh] at h0; omega
    · simpa using hh
  have h4 := h3 hfrg
  have he : look2 stops s nn = ⟨s.next, s.rest, s.exts, s.hop, true, frag6 stops s.fr (s.rest.take nn)⟩ := by
    have hne : (s.next == 44) = true := by rw [hk]; rfl
    unfold look2
    rw [hne, Bool.or_true, if_pos hk]
  rw [he]
  exact ⟨h4, H.hr, Kd.R_move H.hx (fun k hk => hfar k hk.1), (hfar r (Ne.symm hbr)).trans H.hm, (hfar x (Ne.symm hbx)).trans H.hp, h2⟩
end
theorem Obj6.step {w0 : World} {b r x : Nat} {stops : Bool} {s : S6} {A A' : Option Addr} {n c n' c' nn : Nat} {vE : Value} {q : Int} {wc : World} (h : Obj6 w0 b r x stops (exts6 (look2 stops s nn) q) A n c vE wc) (hq : s.next = q) (hb : Bytes s.rest) (hbb : w0.heap.size ≤ b) (hbr : b ≠ r) (hbx : b ≠ x) (hC : (Kd.int .u8).C w0 A' n' (s.rest.drop nn)) :
    Obj6 w0 b r x stops (next6 stops s nn) A' n' c' vE (((wc.setCell ⟨b, 0, none⟩ (.int .i64 (wrap64 (rd s.rest 0)))).setCell ⟨b, 1, none⟩ (.slice A' n' c')).setCell ⟨b, 3, none⟩ (.bool true)).drew := by
  subst hq
  have hby := rd_byte hb 0
  rw [w64 _ (by omega) (by omega)]
  have hfar : Far b wc (((wc.setCell ⟨b, 0, none⟩ (.int .i64 (rd s.rest 0))).setCell ⟨b, 1, none⟩ (.slice A' n' c')).setCell ⟨b, 3, none⟩ (.bool true)).drew := (((Far.refl b wc).set 0 _).set 1 _).set 3 _
  refine ⟨?_, hC, Kd.R_step h.hx (fun k hk _ => hfar k hk.1), (hfar r (Ne.symm hbr)).trans h.hm, (hfar x (Ne.symm hbx)).trans h.hp, below_drew (((h.hB.setCell hbb _).setCell hbb _).setCell hbb _)⟩
  have h1 := obj_set (obj_set (obj_set h.ho 0 (.int .i64 (rd s.rest 0))) 1 (.slice A' n' c')) 3 (.bool true)
  refine Eq.trans (show _ = _ from h1) ?_
  rfl
set_option maxHeartbeats 4000000 in
set_option maxRecDepth 100000 in
theorem all6_at {w0 w : World} {b : Nat} {stops : Bool} {s : S6} {A : Option Addr} {n c : Nat} (ho : w.heap[b]? = some (.cells (objS s stops (.slice A n c) (.slice none 0 0)) 128 (0, 0))) (hs : s.fr = none) (hex : s.exts = []) (hr : (Kd.int .u8).C w0 A n s.rest) (hc : n ≤ c) (hby : Bytes s.rest) (hn : n ≤ 140737488355000) (hB : Below w0.heap.size w0 w) (hbb : w0.heap.size ≤ b) :
    Calls Try.prog 99 #[.pointer (some ⟨b, 0, none⟩)] w fun e w' => e = .returned (.int .i64 (run6 stops 9 s).1) ∧ ∃ r x, Post6 w0 b r x stops (run6 stops 9 s) w' := by
  obtain ⟨R, hR⟩ : ∃ R, R = run6 stops 9 s := ⟨_, rfl⟩
  have HR := Aside0.mk hR
  rw [← hR]
  clear hR
  have hblt := lt_of_heap ho
  have H0 := Aside0.mk (And.intro ho (And.intro hs (And.intro hex (And.intro hr hB))))
  have HBY := Aside0.mk hby
  clear ho hs hex hr hB hby
  go_enter Try.func99, Try.ntmps99
  go_wp2_with (go_at_call 144; refine (looks_at _ b).mono ?_; rintro e w1 ⟨r, x, rfl, hr1, hx1, hm, hp, hb1⟩)
  have A0 : Aside0 (At6 w0 b r x stops R 9 s A n c (.slice none 0 0) w1) := ⟨⟨HR.out.symm, by omega, by rw [H0.out.2.2.1]; exact Nat.zero_le _, ⟨(hb1.block _ hblt).trans H0.out.1, H0.out.2.2.2.1, by rw [H0.out.2.2.1]; exact Kd.R_nil _ _ _ _ _, hm, hp, below_then H0.out.2.2.2.2 H0.out.2.2.2.2.size hb1⟩, hc, HBY.out, hn⟩⟩
  have hz1 := hb1.size
  clear hm hp hb1 H0 HR HBY
  go_loopg [] 9 (fun kq wr => ∃ s A n c vE, Aside0 (At6 w0 b r x stops R kq s A n c vE wr))
  case atStart => exact ⟨_, _, _, _, _, A0⟩
  case round =>
    clear A0 hc hn
    obtain ⟨s, A, n, c, vE, HA⟩ := hrel
    have c6 : wr.cell? ⟨b, 6, none⟩ = some (.bool s.fr.isSome) := blk_cell HA.out.o.ho 6
    have c0 : wr.cell? ⟨b, 0, none⟩ = some (.int .i64 s.next) := blk_cell HA.out.o.ho 0
    have c1 : wr.cell? ⟨b, 1, none⟩ = some (.slice A n c) := blk_cell HA.out.o.ho 1
    have c2 : wr.cell? ⟨b, 2, none⟩ = some vE := blk_cell HA.out.o.ho 2
    have hsz := HA.out.o.hB.size
    obtain ⟨Ae, ce, rfl⟩ := Kd.R_slice HA.out.o.hx
    have hfew := HA.out.few
    have hmany := HA.out.many
    cases gk with
    | zero => exact absurd hmany (by omega)
    | succ k =>
      have H := HA.out.run
      simp only [run6] at H
      by_cases z1 : s.fr.isSome = true
      · rw [if_pos (.inl z1)] at H
        rw [z1] at c6
        have HH := Aside0.mk H
        clear H z1
        go_wp2
        go_ret
        exact ⟨by rw [← HH.out]; rfl, r, x, HA.out.o.hB, fun _ => by rw [← HH.out]; exact ⟨_, _, _, _, HA.out.o, HA.out.hc, HA.out.hby, HA.out.hn⟩⟩
      · have z1' : s.fr.isSome = false := by simpa using z1
        rw [z1'] at c6
        by_cases z2 : isExt s.next = false
        · rw [if_pos (.inr z2)] at H
          have HH := Aside0.mk H
          have hl := run_lookup_ints (P := Try.prog) wr 173 3 148 Try.underlying173 Try.underlying3 _ rfl _ rfl r 4 (looksOf b x) HA.out.o.hm s.next
          rw [look_none _ _ _ z2] at hl
          clear H z1 z2 z1'
          go_wp2
          go_ret
          exact ⟨by rw [← HH.out]; rfl, r, x, HA.out.o.hB, fun _ => by rw [← HH.out]; exact ⟨_, _, _, _, HA.out.o, HA.out.hc, HA.out.hby, HA.out.hn⟩⟩
        · rw [if_neg (by rintro (h | h); exact z1 h; exact z2 h)] at H
          have hl := run_lookup_ints (P := Try.prog) wr 173 3 148 Try.underlying173 Try.underlying3 _ rfl _ rfl r 4 (looksOf b x) HA.out.o.hm s.next
          have hkey : s.next = 0 ∨ s.next = 60 ∨ s.next = 43 ∨ s.next = 44 := by
            simp [isExt] at z2
            omega
          by_cases z3 : 8 ≤ s.exts.length
          · rw [if_pos z3] at H
            have HH := Aside0.mk H
            clear H z1 z2 z1'
            rcases hkey with h | h | h | h
            all_goals
              rw [h] at hl c0
              simp [looksOf, List.findIdx?_cons] at hl
              clear h
              go_wp2
              go_ret
              exact ⟨by rw [← HH.out]; rfl, r, x, HA.out.o.hB, fun h => by rw [← HH.out] at h; simp at h⟩
          · rw [if_neg z3] at H
            have hsize := fun (w : World) (h0 : w.cell? ⟨b, 0, none⟩ = some (.int .i64 s.next)) (h1 : w.cell? ⟨b, 1, none⟩ = some (.slice A n c)) (hr : (Kd.int .u8).C w A n s.rest) => size6_at h0 h1 hr HA.out.hc HA.out.hby (by have := HA.out.hn; omega)
            have HS := Aside0.mk hsize
            clear hsize
            by_cases z4 : (size6 s.next s.rest).2 = false
            · rw [if_pos z4] at H
              have HH := Aside0.mk H
              rw [z4] at HS
              clear H z1 z2 z1' z4
              rcases hkey with h | h | h | h
              all_goals
                rw [h] at hl c0
                simp [looksOf, List.findIdx?_cons] at hl
                go_wp2_with (go_at_call 145; refine (HS.out wr (by rw [h]; exact c0) c1 (Kd.C_below HA.out.o.hr HA.out.o.hB)).mono ?_; rintro e w2 ⟨rfl, m, rfl⟩)
                go_ret
                exact ⟨by rw [← HH.out]; rfl, r, x, pw_below_drewN HA.out.o.hB _, fun h => by rw [← HH.out] at h; simp at h⟩
            · rw [if_neg z4] at H
              have z4' : (size6 s.next s.rest).2 = true := by simpa using z4
              obtain ⟨nn, hnn, hn8, hnl, hn2⟩ := size6_facts HA.out.hby z4'
              rw [z4', hnn] at HS
              rw [hnn, Int.toNat_natCast] at H
              have hnr : s.rest.length = n := HA.out.o.hr.1
              have hnn' : nn ≤ n := by omega
              have hc := HA.out.hc
              have hn := HA.out.hn
              obtain ⟨ad, rfl, _⟩ := Kd.at_int HA.out.o.hr 0 (by omega) (by omega)
              have hfr : s.fr = none := by simpa using z1'
              obtain ⟨A', hA'⟩ : ∃ A', A' = (if c = nn then some ad else (some ad).map (·.add (nn * 1))) := ⟨_, rfl⟩
              have hcut : ∀ W : World, (Instr.slice 27 (.slice (some ad) n c) (some (.int .i64 (nn : Int))) none none).run Try.prog W = .ok (.slice A' (n - nn) (c - nn)) W := by
                obtain ⟨i0, hi0, _, hsz0, _⟩ := info_parts info5
                have h := cut_from (P := Try.prog) 27 5 .i64 Try.underlying27 hi0 1 hsz0 (some ad) n c (nn : Int) (by omega) (by omega)
                simp only [Int.toNat_natCast] at h
                rw [hA']
                exact h
              have hC' : (Kd.int .u8).C w0 A' (n - nn) (s.rest.drop nn) := by
                have h := Kd.C_drop (c := c) (m := nn) (show (Kd.int .u8).C w0 (some ad) s.rest.length s.rest by rw [hnr]; exact HA.out.o.hr) (by omega) (by omega)
                rw [List.length_drop, hnr] at h
                rw [hA']
                exact h
              have HC' := Aside0.mk hC'
              obtain ⟨E, hE⟩ : ∃ E, E = look6 s (s.rest.take nn) := ⟨_, rfl⟩
              rw [← hE] at H
              have HE := Aside0.mk hE
              have HN := Aside0.mk hnr
              have hbr : b ≠ r := by omega
              have hbx : b ≠ x := by omega
              have HF := Aside0.mk (And.intro hbr (And.intro hbx hfr))
              have ND := HA.out.o.drewN
              have HD := Aside0.mk ND
              have z3' : s.exts.length < 8 := by omega
              clear z1 z2 z1' z3 z4 z4' hA' hC' hE hnr hbr hbx hfr ND hnl hnn
              by_cases z5 : E ≠ 0
              · rw [if_pos z5] at H
                have HH := Aside0.mk H
                have zb : (E != 0) = true := by simpa using z5
                clear H z5
                rcases hkey with h | h | h | h
                all_goals
                  rw [h] at hl c0
                  simp [looksOf, List.findIdx?_cons] at hl
                · go_wp2_with (first | (go_at_call 145; refine (HS.out wr (by rw [h]; exact c0) c1 (Kd.C_below HA.out.o.hr HA.out.o.hB)).mono ?_; rintro e w2 ⟨rfl, m, rfl⟩) | (go_at_call 174; refine (look_key0 (HD.out _) hc HA.out.hby hn hn8 hnn' h).mono ?_; rintro e w3 ⟨rfl, hb3, _⟩; rw [← HE.out]))
                  go_ret
                  exact ⟨by rw [← HH.out]; rfl, r, x, hb3, fun h => by rw [← HH.out] at h; simp at h; rw [h] at zb; cases zb⟩
                · go_wp2_with (first | (go_at_call 145; refine (HS.out wr (by rw [h]; exact c0) c1 (Kd.C_below HA.out.o.hr HA.out.o.hB)).mono ?_; rintro e w2 ⟨rfl, m, rfl⟩) | (go_at_call 176; refine (look_key60 (HD.out _) hc HA.out.hby hn hn8 hnn' h).mono ?_; rintro e w3 ⟨rfl, hb3, _⟩; rw [← HE.out]))
                  go_ret
                  exact ⟨by rw [← HH.out]; rfl, r, x, hb3, fun h => by rw [← HH.out] at h; simp at h; rw [h] at zb; cases zb⟩
                · go_wp2_with (first | (go_at_call 145; refine (HS.out wr (by rw [h]; exact c0) c1 (Kd.C_below HA.out.o.hr HA.out.o.hB)).mono ?_; rintro e w2 ⟨rfl, m, rfl⟩) | (go_at_call 177; refine (look_key43 (HD.out _) hc HA.out.hby hn hn8 hnn' h).mono ?_; rintro e w3 ⟨rfl, hb3, _⟩; rw [← HE.out]))
                  go_ret
                  exact ⟨by rw [← HH.out]; rfl, r, x, hb3, fun h => by rw [← HH.out] at h; simp at h; rw [h] at zb; cases zb⟩
                · go_wp2_with (first | (go_at_call 145; refine (HS.out wr (by rw [h]; exact c0) c1 (Kd.C_below HA.out.o.hr HA.out.o.hB)).mono ?_; rintro e w2 ⟨rfl, m, rfl⟩) | (go_at_call 178; refine (look_key44 (HD.out _) hbb HF.out.1 HF.out.2.1 HF.out.2.2 hc HA.out.hby hn hn8 hnn' h).mono ?_; rintro e w3 ⟨rfl, hb3, _⟩; rw [← HE.out]))
                  go_ret
                  exact ⟨by rw [← HH.out]; rfl, r, x, hb3, fun h => by rw [← HH.out] at h; simp at h; rw [h] at zb; cases zb⟩
              · have hE0 : E = 0 := by omega
                rw [if_neg (by omega)] at H
                have HH := Aside0.mk H
                have HE0 := Aside0.mk (show look6 s (s.rest.take nn) = 0 by rw [← HE.out, hE0])
                clear H z5 hE0 HE E
                rcases hkey with h | h | h | h
                all_goals
                  rw [h] at hl c0
                  simp [looksOf, List.findIdx?_cons] at hl
                · go_wp2_with (first | (go_at_call 145; refine (HS.out wr (by rw [h]; exact c0) c1 (Kd.C_below HA.out.o.hr HA.out.o.hB)).mono ?_; rintro e w2 ⟨rfl, m, rfl⟩) | (go_at_call 174; refine (look_key0 (HD.out _) hc HA.out.hby hn hn8 hnn' h).mono ?_; rintro e w3 ⟨rfl, hb3, hO3⟩; rw [HE0.out]))
                  have hO := hO3 HE0.out
                  have d2 : w3.cell? ⟨b, 2, none⟩ = some (.slice Ae s.exts.length ce) := blk_cell hO.ho 2
                  have d0 : w3.cell? ⟨b, 0, none⟩ = some (.int .i64 s.next) := blk_cell hO.ho 0
                  rw [h] at d0
                  have hz3 := hO.hB.size
                  have hlt3 := lt_of_heap hO.ho
                  have HO := Aside0.mk hO
                  have HX := Aside0.mk hO.hx
                  clear hO3 hO hb3
                  go_wp2
                  go_upto_region 14 with (fail)
                  go_cut [] (fun wc => ∃ A4 c4, Aside0 (Obj6 w0 b r x stops (exts6 (look2 stops s nn) 0) (some ad) n c (.slice A4 (s.exts.length + 1) c4) wc))
                  case first =>
                    go_region_law (refine Kd.R_append_step (Kd.int .i64) (w0 := w0) (W := w3.drew) w0.heap.size ?hw (.tmp 57) (.tmp 62) 43 3 (.int .i64 0) 8 rfl Try.underlying43 info3 rfl (by decide) (by omega) (.slice Ae s.exts.length ce) s.exts 0 [.int .i64 0] (fun k => k ≠ b ∧ k ≠ r ∧ k ≠ x) (fun _ => False) rfl rfl ?hp (fun _ h => h.elim) ?hfresh ?hO ?hB ?hbase ?hl ?_; (case hw => rfl); (case hp => rfl); (case hfresh => exact HO.out.fresh); (case hO => exact HO.out.drew.hx); (case hB => exact HO.out.drew.hB); (case hbase => exact hz3); (case hl => omega); intro v1 w4 hx4 hB4 hg4 _; obtain ⟨A4, c4, hv4⟩ := Kd.R_slice hx4; rw [List.length_append, List.length_singleton] at hv4; have G4 := Aside0.mk (HO.out.drew.grew hx4 hB4 hg4); clear hx4 hB4 hg4; rw [hv4] at G4 ⊢; clear hv4; have g2 : w4.cell? ⟨b, 2, none⟩ = some (.slice Ae s.exts.length ce) := blk_cell G4.out.ho 2; have gf := blk_unfrozen G4.out.ho 2)
                    all_goals
                      go_wp2
                      go_meet
                      case rel => exact ⟨_, _, ⟨G4.out.store hbb HF.out.1 HF.out.2.1⟩⟩
                  case rest =>
                    clear d2 d0 hz3 hlt3 HO HX
                    obtain ⟨A4, c4, HO4⟩ := hcut
                    have e0 : wc.cell? ⟨b, 0, none⟩ = some (.int .i64 s.next) := blk_cell HO4.out.ho 0
                    have e1 : wc.cell? ⟨b, 1, none⟩ = some (.slice (some ad) n c) := blk_cell HO4.out.ho 1
                    have e3 : wc.cell? ⟨b, 3, none⟩ = some (.bool s.hop) := blk_cell HO4.out.ho 3
                    have f0 := blk_unfrozen HO4.out.ho 0
                    have f1 := blk_unfrozen HO4.out.ho 1
                    have f3 := blk_unfrozen HO4.out.ho 3
                    obtain ⟨_, had, ed⟩ := Kd.at_int (Kd.C_below HO4.out.hr HO4.out.hB) 0 (by omega) (by have := HA.out.hn; omega)
                    obtain rfl := Option.some.inj had
                    rw [show ((0 : Int)).toNat = 0 from rfl, Addr.add_zero'] at ed
                    have q0 : (0 : Int) < (nn : Int) := by omega
                    have qn : (nn : Int) ≤ (n : Int) := by omega
                    go_wp2
                    go_region
                    go_wp2
                    go_roundg k
                    case measure => omega
                    case rel =>
                      refine ⟨next6 stops s nn, A', n - nn, c - nn, .slice A4 (s.exts.length + 1) c4, ⟨HH.out, ?_, ?_, HO4.out.step h HA.out.hby hbb HF.out.1 HF.out.2.1 HC'.out, by omega, fun y hy => HA.out.hby y (List.mem_of_mem_drop hy), by omega⟩⟩
                      · show 9 ≤ k + (s.exts ++ [s.next]).length
                        rw [List.length_append, List.length_singleton]
                        omega
                      · show (s.exts ++ [s.next]).length ≤ 8
                        rw [List.length_append, List.length_singleton]
                        omega
                · go_wp2_with (first | (go_at_call 145; refine (HS.out wr (by rw [h]; exact c0) c1 (Kd.C_below HA.out.o.hr HA.out.o.hB)).mono ?_; rintro e w2 ⟨rfl, m, rfl⟩) | (go_at_call 176; refine (look_key60 (HD.out _) hc HA.out.hby hn hn8 hnn' h).mono ?_; rintro e w3 ⟨rfl, hb3, hO3⟩; rw [HE0.out]))
                  have hO := hO3 HE0.out
                  have d2 : w3.cell? ⟨b, 2, none⟩ = some (.slice Ae s.exts.length ce) := blk_cell hO.ho 2
                  have d0 : w3.cell? ⟨b, 0, none⟩ = some (.int .i64 s.next) := blk_cell hO.ho 0
                  rw [h] at d0
                  have hz3 := hO.hB.size
                  have hlt3 := lt_of_heap hO.ho
                  have HO := Aside0.mk hO
                  have HX := Aside0.mk hO.hx
                  clear hO3 hO hb3
                  go_wp2
                  go_upto_region 14 with (fail)
                  go_cut [] (fun wc => ∃ A4 c4, Aside0 (Obj6 w0 b r x stops (exts6 (look2 stops s nn) 60) (some ad) n c (.slice A4 (s.exts.length + 1) c4) wc))
                  case first =>
                    go_region_law (refine Kd.R_append_step (Kd.int .i64) (w0 := w0) (W := w3.drew) w0.heap.size ?hw (.tmp 57) (.tmp 62) 43 3 (.int .i64 0) 8 rfl Try.underlying43 info3 rfl (by decide) (by omega) (.slice Ae s.exts.length ce) s.exts 60 [.int .i64 60] (fun k => k ≠ b ∧ k ≠ r ∧ k ≠ x) (fun _ => False) rfl rfl ?hp (fun _ h => h.elim) ?hfresh ?hO ?hB ?hbase ?hl ?_; (case hw => rfl); (case hp => rfl); (case hfresh => exact HO.out.fresh); (case hO => exact HO.out.drew.hx); (case hB => exact HO.out.drew.hB); (case hbase => exact hz3); (case hl => omega); intro v1 w4 hx4 hB4 hg4 _; obtain ⟨A4, c4, hv4⟩ := Kd.R_slice hx4; rw [List.length_append, List.length_singleton] at hv4; have G4 := Aside0.mk (HO.out.drew.grew hx4 hB4 hg4); clear hx4 hB4 hg4; rw [hv4] at G4 ⊢; clear hv4; have g2 : w4.cell? ⟨b, 2, none⟩ = some (.slice Ae s.exts.length ce) := blk_cell G4.out.ho 2; have gf := blk_unfrozen G4.out.ho 2)
                    all_goals
                      go_wp2
                      go_meet
                      case rel => exact ⟨_, _, ⟨G4.out.store hbb HF.out.1 HF.out.2.1⟩⟩
                  case rest =>
                    clear d2 d0 hz3 hlt3 HO HX
                    obtain ⟨A4, c4, HO4⟩ := hcut
                    have e0 : wc.cell? ⟨b, 0, none⟩ = some (.int .i64 s.next) := blk_cell HO4.out.ho 0
                    have e1 : wc.cell? ⟨b, 1, none⟩ = some (.slice (some ad) n c) := blk_cell HO4.out.ho 1
                    have e3 : wc.cell? ⟨b, 3, none⟩ = some (.bool s.hop) := blk_cell HO4.out.ho 3
                    have f0 := blk_unfrozen HO4.out.ho 0
                    have f1 := blk_unfrozen HO4.out.ho 1
                    have f3 := blk_unfrozen HO4.out.ho 3
                    obtain ⟨_, had, ed⟩ := Kd.at_int (Kd.C_below HO4.out.hr HO4.out.hB) 0 (by omega) (by have := HA.out.hn; omega)
                    obtain rfl := Option.some.inj had
                    rw [show ((0 : Int)).toNat = 0 from rfl, Addr.add_zero'] at ed
                    have q0 : (0 : Int) < (nn : Int) := by omega
                    have qn : (nn : Int) ≤ (n : Int) := by omega
                    go_wp2
                    go_region
                    go_wp2
                    go_roundg k
                    case measure => omega
                    case rel =>
                      refine ⟨next6 stops s nn, A', n - nn, c - nn, .slice A4 (s.exts.length + 1) c4, ⟨HH.out, ?_, ?_, HO4.out.step h HA.out.hby hbb HF.out.1 HF.out.2.1 HC'.out, by omega, fun y hy => HA.out.hby y (List.mem_of_mem_drop hy), by omega⟩⟩
                      · show 9 ≤ k + (s.exts ++ [s.next]).length
                        rw [List.length_append, List.length_singleton]
                        omega
                      · show (s.exts ++ [s.next]).length ≤ 8
                        rw [List.length_append, List.length_singleton]
                        omega
                · go_wp2_with (first | (go_at_call 145; refine (HS.out wr (by rw [h]; exact c0) c1 (Kd.C_below HA.out.o.hr HA.out.o.hB)).mono ?_; rintro e w2 ⟨rfl, m, rfl⟩) | (go_at_call 177; refine (look_key43 (HD.out _) hc HA.out.hby hn hn8 hnn' h).mono ?_; rintro e w3 ⟨rfl, hb3, hO3⟩; rw [HE0.out]))
                  have hO := hO3 HE0.out
                  have d2 : w3.cell? ⟨b, 2, none⟩ = some (.slice Ae s.exts.length ce) := blk_cell hO.ho 2
                  have d0 : w3.cell? ⟨b, 0, none⟩ = some (.int .i64 s.next) := blk_cell hO.ho 0
                  rw [h] at d0
                  have hz3 := hO.hB.size
                  have hlt3 := lt_of_heap hO.ho
                  have HO := Aside0.mk hO
                  have HX := Aside0.mk hO.hx
                  clear hO3 hO hb3
                  go_wp2
                  go_upto_region 14 with (fail)
                  go_cut [] (fun wc => ∃ A4 c4, Aside0 (Obj6 w0 b r x stops (exts6 (look2 stops s nn) 43) (some ad) n c (.slice A4 (s.exts.length + 1) c4) wc))
                  case first =>
                    go_region_law (refine Kd.R_append_step (Kd.int .i64) (w0 := w0) (W := w3.drew) w0.heap.size ?hw (.tmp 57) (.tmp 62) 43 3 (.int .i64 0) 8 rfl Try.underlying43 info3 rfl (by decide) (by omega) (.slice Ae s.exts.length ce) s.exts 43 [.int .i64 43] (fun k => k ≠ b ∧ k ≠ r ∧ k ≠ x) (fun _ => False) rfl rfl ?hp (fun _ h => h.elim) ?hfresh ?hO ?hB ?hbase ?hl ?_; (case hw => rfl); (case hp => rfl); (case hfresh => exact HO.out.fresh); (case hO => exact HO.out.drew.hx); (case hB => exact HO.out.drew.hB); (case hbase => exact hz3); (case hl => omega); intro v1 w4 hx4 hB4 hg4 _; obtain ⟨A4, c4, hv4⟩ := Kd.R_slice hx4; rw [List.length_append, List.length_singleton] at hv4; have G4 := Aside0.mk (HO.out.drew.grew hx4 hB4 hg4); clear hx4 hB4 hg4; rw [hv4] at G4 ⊢; clear hv4; have g2 : w4.cell? ⟨b, 2, none⟩ = some (.slice Ae s.exts.length ce) := blk_cell G4.out.ho 2; have gf := blk_unfrozen G4.out.ho 2)
                    all_goals
                      go_wp2
                      go_meet
                      case rel => exact ⟨_, _, ⟨G4.out.store hbb HF.out.1 HF.out.2.1⟩⟩
                  case rest =>
                    clear d2 d0 hz3 hlt3 HO HX
                    obtain ⟨A4, c4, HO4⟩ := hcut
                    have e0 : wc.cell? ⟨b, 0, none⟩ = some (.int .i64 s.next) := blk_cell HO4.out.ho 0
                    have e1 : wc.cell? ⟨b, 1, none⟩ = some (.slice (some ad) n c) := blk_cell HO4.out.ho 1
                    have e3 : wc.cell? ⟨b, 3, none⟩ = some (.bool s.hop) := blk_cell HO4.out.ho 3
                    have f0 := blk_unfrozen HO4.out.ho 0
                    have f1 := blk_unfrozen HO4.out.ho 1
                    have f3 := blk_unfrozen HO4.out.ho 3
                    obtain ⟨_, had, ed⟩ := Kd.at_int (Kd.C_below HO4.out.hr HO4.out.hB) 0 (by omega) (by have := HA.out.hn; omega)
                    obtain rfl := Option.some.inj had
                    rw [show ((0 : Int)).toNat = 0 from rfl, Addr.add_zero'] at ed
                    have q0 : (0 : Int) < (nn : Int) := by omega
                    have qn : (nn : Int) ≤ (n : Int) := by omega
                    go_wp2
                    go_region
                    go_wp2
                    go_roundg k
                    case measure => omega
                    case rel =>
                      refine ⟨next6 stops s nn, A', n - nn, c - nn, .slice A4 (s.exts.length + 1) c4, ⟨HH.out, ?_, ?_, HO4.out.step h HA.out.hby hbb HF.out.1 HF.out.2.1 HC'.out, by omega, fun y hy => HA.out.hby y (List.mem_of_mem_drop hy), by omega⟩⟩
                      · show 9 ≤ k + (s.exts ++ [s.next]).length
                        rw [List.length_append, List.length_singleton]
                        omega
                      · show (s.exts ++ [s.next]).length ≤ 8
                        rw [List.length_append, List.length_singleton]
                        omega
                · go_wp2_with (first | (go_at_call 145; refine (HS.out wr (by rw [h]; exact c0) c1 (Kd.C_below HA.out.o.hr HA.out.o.hB)).mono ?_; rintro e w2 ⟨rfl, m, rfl⟩) | (go_at_call 178; refine (look_key44 (HD.out _) hbb HF.out.1 HF.out.2.1 HF.out.2.2 hc HA.out.hby hn hn8 hnn' h).mono ?_; rintro e w3 ⟨rfl, hb3, hO3⟩; rw [HE0.out]))
                  have hO := hO3 HE0.out
                  have d2 : w3.cell? ⟨b, 2, none⟩ = some (.slice Ae s.exts.length ce) := blk_cell hO.ho 2
                  have d0 : w3.cell? ⟨b, 0, none⟩ = some (.int .i64 s.next) := blk_cell hO.ho 0
                  rw [h] at d0
                  have hz3 := hO.hB.size
                  have hlt3 := lt_of_heap hO.ho
                  have HO := Aside0.mk hO
                  have HX := Aside0.mk hO.hx
                  clear hO3 hO hb3
                  go_wp2
                  go_upto_region 14 with (fail)
                  go_cut [] (fun wc => ∃ A4 c4, Aside0 (Obj6 w0 b r x stops (exts6 (look2 stops s nn) 44) (some ad) n c (.slice A4 (s.exts.length + 1) c4) wc))
                  case first =>
                    go_region_law (refine Kd.R_append_step (Kd.int .i64) (w0 := w0) (W := w3.drew) w0.heap.size ?hw (.tmp 57) (.tmp 62) 43 3 (.int .i64 0) 8 rfl Try.underlying43 info3 rfl (by decide) (by omega) (.slice Ae s.exts.length ce) s.exts 44 [.int .i64 44] (fun k => k ≠ b ∧ k ≠ r ∧ k ≠ x) (fun _ => False) rfl rfl ?hp (fun _ h => h.elim) ?hfresh ?hO ?hB ?hbase ?hl ?_; (case hw => rfl); (case hp => rfl); (case hfresh => exact HO.out.fresh); (case hO => exact HO.out.drew.hx); (case hB => exact HO.out.drew.hB); (case hbase => exact hz3); (case hl => omega); intro v1 w4 hx4 hB4 hg4 _; obtain ⟨A4, c4, hv4⟩ := Kd.R_slice hx4; rw [List.length_append, List.length_singleton] at hv4; have G4 := Aside0.mk (HO.out.drew.grew hx4 hB4 hg4); clear hx4 hB4 hg4; rw [hv4] at G4 ⊢; clear hv4; have g2 : w4.cell? ⟨b, 2, none⟩ = some (.slice Ae s.exts.length ce) := blk_cell G4.out.ho 2; have gf := blk_unfrozen G4.out.ho 2)
                    all_goals
                      go_wp2
                      go_meet
                      case rel => exact ⟨_, _, ⟨G4.out.store hbb HF.out.1 HF.out.2.1⟩⟩
                  case rest =>
                    clear d2 d0 hz3 hlt3 HO HX
                    obtain ⟨A4, c4, HO4⟩ := hcut
                    have e0 : wc.cell? ⟨b, 0, none⟩ = some (.int .i64 s.next) := blk_cell HO4.out.ho 0
                    have e1 : wc.cell? ⟨b, 1, none⟩ = some (.slice (some ad) n c) := blk_cell HO4.out.ho 1
                    have e3 : wc.cell? ⟨b, 3, none⟩ = some (.bool s.hop) := blk_cell HO4.out.ho 3
                    have f0 := blk_unfrozen HO4.out.ho 0
                    have f1 := blk_unfrozen HO4.out.ho 1
                    have f3 := blk_unfrozen HO4.out.ho 3
                    obtain ⟨_, had, ed⟩ := Kd.at_int (Kd.C_below HO4.out.hr HO4.out.hB) 0 (by omega) (by have := HA.out.hn; omega)
                    obtain rfl := Option.some.inj had
                    rw [show ((0 : Int)).toNat = 0 from rfl, Addr.add_zero'] at ed
                    have q0 : (0 : Int) < (nn : Int) := by omega
                    have qn : (nn : Int) ≤ (n : Int) := by omega
                    go_wp2
                    go_region
                    go_wp2
                    go_roundg k
                    case measure => omega
                    case rel =>
                      refine ⟨next6 stops s nn, A', n - nn, c - nn, .slice A4 (s.exts.length + 1) c4, ⟨HH.out, ?_, ?_, HO4.out.step h HA.out.hby hbb HF.out.1 HF.out.2.1 HC'.out, by omega, fun y hy => HA.out.hby y (List.mem_of_mem_drop hy), by omega⟩⟩
                      · show 9 ≤ k + (s.exts ++ [s.next]).length
                        rw [List.length_append, List.length_singleton]
                        omega
                      · show (s.exts ++ [s.next]).length ≤ 8
                        rw [List.length_append, List.length_singleton]
                        omega
end Go.Proofs.Ytgifcmbknkjemaa.Own
end
