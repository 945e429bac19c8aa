/- What the law Ip6Back rests on, part 12: contracts of the functions that it calls, and plain lemmas. No condition. -/
import Derived.Test.YtgifcmbknkjemaaZIp6Back11
section
namespace Go.Proofs.Ytgifcmbknkjemaa.Own
open Go Go.RowKit Go.Proofs.YtgifcmbknkjemaaW.PrintWords Go.Proofs.YtgifcmbknkjemaaW.PrintLast Go.Proofs.YtgifcmbknkjemaaW.PrintMore
set_option linter.unusedVariables false
set_option linter.unusedSimpArgs false
def objR (s : S6) (stops : Bool) (p : Nat) (vB vE : Value) : Array Value :=
  #[.int .i64 s.next, .int .i64 p, vB, vE, .bool (!s.hop), .bool s.frg, .bool stops, .int .i64 0, .int .i64 0, .int .u64 0, .int .u64 0, .int .i64 0, .int .u64 0, .int .u64 0, .int .i64 0, .int .i64 0, .bool s.fr.isSome, .int .u32 (s.fr.getD (0, 0, false)).1, .int .i64 (s.fr.getD (0, 0, false)).2.1, .bool (s.fr.getD (0, 0, false)).2.2, .slice none 0 0, .slice none 0 0]
structure ObjR (w0 : World) (b : Nat) (stops : Bool) (d : List Int) (A : Option Addr) (n c : Nat) (p : Nat) (s : S6) (vE : Value) (wr : World) : Prop where
  ho : wr.heap[b]? = some (.cells (objR s stops p (.slice A n c) vE) 131 (0, 0))
  hr : (Kd.int .u8).C w0 A n d
  hs : s.rest = d.drop p
  hp : p ≤ n
  hx : Kd.R (Kd.int .i64) 3 wr w0.heap.size (fun k => k ≠ b) vE s.exts
  hB : Below w0.heap.size w0 wr
section
variable {w0 wr w1 : World} {b : Nat} {stops : Bool} {d : List Int} {A : Option Addr} {n c p : Nat} {s : S6} {vE : Value}
theorem ObjR.drewN (h : ObjR w0 b stops d A n c p s vE wr) (m : Nat) : ObjR w0 b stops d A n c p s vE (wr.drewN m) := ⟨h.ho, h.hr, h.hs, h.hp, Kd.R_move h.hx (fun _ _ => rfl), pw_below_drewN h.hB m⟩
theorem ObjR.drew (h : ObjR w0 b stops d A n c p s vE wr) : ObjR w0 b stops d A n c p s vE wr.drew := ⟨h.ho, h.hr, h.hs, h.hp, Kd.R_move h.hx (fun _ _ => rfl), below_drew h.hB⟩
theorem ObjR.below (h : ObjR w0 b stops d A n c p s vE wr) (hb : Below wr.heap.size wr w1) : ObjR w0 b stops d A n c p s vE w1 := ⟨(hb.block _ (lt_of_heap h.ho)).trans h.ho, h.hr, h.hs, h.hp, Kd.R_below h.hx hb, below_then h.hB h.hB.size hb⟩
end
def one6 (stops : Bool) (s : S6) : Int × Bool :=
  if 8 ≤ s.exts.length then (17, true)
  else if (size6 s.next s.rest).2 = false then (4, true)
  else if look6 s (s.rest.take (size6 s.next s.rest).1.toNat) ≠ 0 then (look6 s (s.rest.take (size6 s.next s.rest).1.toNat), true)
  else (0, (next6 stops s (size6 s.next s.rest).1.toNat).fr.isSome)
def One6Post (w0 : World) (b : Nat) (stops : Bool) (d : List Int) (A : Option Addr) (n c : Nat) (s : S6) (e : Ending) (w' : World) : Prop :=
  e = .returned (.tuple #[.int .i64 (one6 stops s).1, .bool (one6 stops s).2]) ∧ Below w0.heap.size w0 w' ∧
    ((one6 stops s).1 = 0 → ∃ p vE, ObjR w0 b stops d A n c p (next6 stops s (size6 s.next s.rest).1.toNat) vE w')
theorem rU16_at {A : Option Addr} {c n : Nat} {l : List Int} {w : World} (a : Int) (hr : (Kd.int .u8).C w A n l) (hc : n ≤ c) (hb : Bytes l) (hl : n ≤ 140737488355000) (h0 : 0 ≤ a) (ha : a + 2 ≤ n) :
    Calls Try.prog 63 #[.slice A n c, .int .i64 a] w fun e w' => e = .returned (.tuple #[.int .i64 (u16 l a), .bool true]) ∧ Below w.heap.size w w' := by
  have hn : l.length = n := hr.1
  subst hn
  refine (stockaderef01_U16.calls A c l a (u16 l a) true w hr hc ?_).mono fun e w' h => h
  unfold stockaderef01_U16.f wire_U16.f
  rw [if_pos (by simp [okS, okB_iff.2 hb]; exact hl), if_pos ⟨h0, ha⟩]
theorem rU32_at {A : Option Addr} {c n : Nat} {l : List Int} {w : World} (a : Int) (hr : (Kd.int .u8).C w A n l) (hc : n ≤ c) (hb : Bytes l) (hl : n ≤ 140737488355000) (h0 : 0 ≤ a) (ha : a + 4 ≤ n) :
    Calls Try.prog 168 #[.slice A n c, .int .i64 a] w fun e w' => e = .returned (.tuple #[.int .u32 (u32 l a), .bool true]) ∧ Below w.heap.size w w' := by
  have hn : l.length = n := hr.1
  subst hn
  refine (stockaderef01_U32.calls A c l a (u32 l a) true w hr hc ?_).mono fun e w' h => h
  unfold stockaderef01_U32.f wire_U32.f
  rw [if_pos (by simp [okS, okB_iff.2 hb]; exact hl), if_pos ⟨h0, ha⟩]
def hop6 (s : S6) : S6 := ⟨s.next, s.rest, s.exts, true, s.frg, s.fr⟩
section
variable {w0 wr w1 : World} {b : Nat} {stops : Bool} {d : List Int} {A : Option Addr} {n c p : Nat} {s : S6} {vE : Value}
theorem ObjR.far {s' : S6} {p' : Nat} {vE' : Value} (h : ObjR w0 b stops d A n c p s vE wr) (hf : Far b wr w1) (ho : w1.heap[b]? = some (.cells (objR s' stops p' (.slice A n c) vE') 131 (0, 0))) (hs : s'.rest = d.drop p') (hp : p' ≤ n) (hx : s'.exts = s.exts ∧ vE' = vE) (hB : Below w0.heap.size w0 w1) : ObjR w0 b stops d A n c p' s' vE' w1 :=
  ⟨ho, h.hr, hs, hp, by rw [hx.1, hx.2]; exact Kd.R_step h.hx (fun k hk _ => hf k hk), hB⟩
theorem ObjR.hop (h : ObjR w0 b stops d A n c p s vE wr) (hbb : w0.heap.size ≤ b) : ObjR w0 b stops d A n c p (hop6 s) vE (wr.setCell ⟨b, 4, none⟩ (.bool false)) :=
  h.far ((Far.refl b wr).set 4 _) (by rw [obj_set h.ho 4 (.bool false)]; rfl) h.hs h.hp ⟨rfl, rfl⟩ (h.hB.setCell hbb _)
theorem ObjR.frg (h : ObjR w0 b stops d A n c p s vE wr) (hbb : w0.heap.size ≤ b) : ObjR w0 b stops d A n c p ⟨s.next, s.rest, s.exts, s.hop, true, s.fr⟩ vE (wr.setCell ⟨b, 5, none⟩ (.bool true)) :=
  h.far ((Far.refl b wr).set 5 _) (by rw [obj_set h.ho 5 (.bool true)]; rfl) h.hs h.hp ⟨rfl, rfl⟩ (h.hB.setCell hbb _)
theorem ObjR.stop (h : ObjR w0 b stops d A n c p ⟨s.next, s.rest, s.exts, s.hop, true, s.fr⟩ vE wr) (hbb : w0.heap.size ≤ b) (id off : Int) (more : Bool) :
    ObjR w0 b stops d A n c p ⟨s.next, s.rest, s.exts, s.hop, true, some (id, off, more)⟩ vE ((((wr.setCell ⟨b, 16, none⟩ (.bool true)).setCell ⟨b, 17, none⟩ (.int .u32 id)).setCell ⟨b, 18, none⟩ (.int .i64 off)).setCell ⟨b, 19, none⟩ (.bool more)) :=
  h.far (((((Far.refl b wr).set 16 _).set 17 _).set 18 _).set 19 _) (by rw [obj_set (obj_set (obj_set (obj_set h.ho 16 _) 17 _) 18 _) 19 _]; rfl) h.hs h.hp ⟨rfl, rfl⟩ ((((h.hB.setCell hbb _).setCell hbb _).setCell hbb _).setCell hbb _)
theorem ObjR.grew {v1 : Value} {q : Int} {w4 : World} (h : ObjR w0 b stops d A n c p s vE wr) (hx : Kd.R (Kd.int .i64) 3 w4 w0.heap.size (fun k => k ≠ b) v1 (s.exts ++ [q])) (hB : Below w0.heap.size w0 w4) (hg : wr.grownBy w4 vE.ownBlock) (hbb : w0.heap.size ≤ b) :
    w4.heap[b]? = some (.cells (objR s stops p (.slice A n c) vE) 131 (0, 0)) ∧ ObjR w0 b stops d A n c p (exts6 s q) v1 (w4.setCell ⟨b, 3, none⟩ v1) := by
  have h1 : w4.heap[b]? = some (.cells (objR s stops p (.slice A n c) vE) 131 (0, 0)) := (hg.block b (lt_of_heap h.ho) (fun he => h.hx.1 b he.symm rfl)).trans h.ho
  refine ⟨h1, ⟨?_, h.hr, h.hs, h.hp, Kd.R_step hx (fun k hk _ => heap_setCell_other w4 ⟨b, 3, none⟩ k v1 hk), hB.setCell hbb _⟩⟩
  rw [obj_set h1 3 v1]
  rfl
theorem ObjR.next {nn : Nat} {q : Int} (h : ObjR w0 b stops d A n c p (exts6 (hop6 (look2 stops s nn)) q) vE wr) (hq : s.next = q) (hbb : w0.heap.size ≤ b) (hpn : p + nn ≤ n) (v : Int) (hv : v = rd s.rest 0) : ObjR w0 b stops d A n c (p + nn) (next6 stops s nn) vE ((wr.setCell ⟨b, 0, none⟩ (.int .i64 v)).setCell ⟨b, 1, none⟩ (.int .i64 ((p : Int) + (nn : Int)))) := by
  subst hv
  subst hq
  refine h.far (((Far.refl b wr).set 0 _).set 1 _) ?_ ?_ hpn ⟨rfl, rfl⟩ ((h.hB.setCell hbb _).setCell hbb _)
  · rw [obj_set (obj_set h.ho 0 _) 1 _]
    rfl
  · show s.rest.drop nn = _
    have := h.hs
    show List.drop nn s.rest = _
    rw [show s.rest = d.drop p from this, List.drop_drop]
end
theorem look2_other {stops : Bool} {s : S6} {n : Nat} {q : Int} (h : s.next = q) (hq : q ≠ 44) : look2 stops s n = s := by
  have h1 : s.next ≠ 44 := by rw [h]; exact hq
  have h2 : (s.next == 44) = false := by simpa using h1
  unfold look2
  rw [h2, Bool.or_false, if_neg h1]
theorem rd_take {l : List Int} {m : Nat} {i : Int} (h0 : 0 ≤ i) (h : i < m) : rd (l.take m) i = rd l i := by
  unfold rd
  rw [List.getD_eq_getElem?_getD, List.getD_eq_getElem?_getD, List.getElem?_take, if_pos (by omega)]
theorem C_midN {k : IntKind} {w : World} {A : Option Addr} {n c : Nat} {l : List Int} (h : (Kd.int k).C w A n l) (hc : n ≤ c) (lo m : Nat) (hm : lo + m ≤ n) : (Kd.int k).C w (if c = lo then A else A.map (·.add (lo * 1))) m ((l.drop lo).take m) := by
  have hn : l.length = n := h.1
  subst hn
  have h1 := Kd.C_mid (lo := lo) (hi := lo + m) (c := c) h (by omega) (by omega) hc
  rw [List.drop_take, show lo + m - lo = m by omega, List.length_take, List.length_drop, Nat.min_eq_left (by omega)] at h1
  exact h1
theorem add_at (ad : Addr) (k : Nat) (hk : 0 < k) : ad.add k = ⟨ad.block, ad.off + k, none⟩ := by unfold Addr.add; rw [if_neg (by omega)]
set_option maxHeartbeats 4000000 in
set_option maxRecDepth 100000 in
theorem one_at {w0 w : World} {b : Nat} {stops : Bool} {d : List Int} {A : Option Addr} {n c p : Nat} {s : S6} {vE : Value} (HO : ObjR w0 b stops d A n c p s vE w) (hbb : w0.heap.size ≤ b) (hc : n ≤ c) (hby : Bytes d) (hn : n ≤ 140737488355000) (hk : isExt s.next = true) (hfr : s.fr = none) :
    Calls Try.prog 146 #[.pointer (some ⟨b, 0, none⟩)] w (One6Post w0 b stops d A n c s) := by
  have hby' : Bytes s.rest := by rw [HO.hs]; exact fun y hy => hby y (List.mem_of_mem_drop hy)
  have hkey : s.next = 0 ∨ s.next = 60 ∨ s.next = 43 ∨ s.next = 44 := by
    simp [isExt] at hk
    omega
  obtain ⟨Ae, ce, rfl⟩ := Kd.R_slice HO.hx
  have hdn : d.length = n := HO.hr.1
  have hp := HO.hp
  have hrl : s.rest.length = n - p := by rw [HO.hs, List.length_drop, hdn]
  have c0 : w.cell? ⟨b, 0, none⟩ = some (.int .i64 s.next) := blk_cell HO.ho 0
  have c1 : w.cell? ⟨b, 1, none⟩ = some (.int .i64 p) := blk_cell HO.ho 1
  have c2 : w.cell? ⟨b, 2, none⟩ = some (.slice A n c) := blk_cell HO.ho 2
  have c3 : w.cell? ⟨b, 3, none⟩ = some (.slice Ae s.exts.length ce) := blk_cell HO.ho 3
  have c4 : w.cell? ⟨b, 4, none⟩ = some (.bool (!s.hop)) := blk_cell HO.ho 4
  have c5 : w.cell? ⟨b, 5, none⟩ = some (.bool s.frg) := blk_cell HO.ho 5
  have hsz := HO.hB.size
  have blt := lt_of_heap HO.ho
  have HH := Aside0.mk HO
  have HB := Aside0.mk hby'
  clear HO hk
  by_cases z3 : 8 ≤ s.exts.length
  · have ho : one6 stops s = (17, true) := by unfold one6; rw [if_pos z3]
    have HO := Aside0.mk ho
    have hd : decide (8 ≤ s.exts.length) = true := decide_eq_true z3
    clear ho hrl hdn
    go_enter Try.func146, Try.ntmps146
    go_wp2
    go_ret2
    exact ⟨by rw [HO.out]; rfl, HH.out.hB, fun h => by rw [HO.out] at h; simp at h⟩
  · have z3' : s.exts.length < 8 := by omega
    have hs := fun (h0 : w.cell? ⟨b, 0, none⟩ = some (.int .i64 s.next)) => rsize6_at h0 c1 c2 (Kd.C_below HH.out.hr HH.out.hB) hc hby (by omega) hp
    rw [← HH.out.hs] at hs
    by_cases z4 : (size6 s.next s.rest).2 = false
    · have ho : one6 stops s = (4, true) := by unfold one6; rw [if_neg z3, if_pos z4]
      have HO := Aside0.mk ho
      have hr : rsize6 s.next s.rest = -1 := by unfold rsize6; rw [z4]; rfl
      rw [hr] at hs
      have HS := Aside0.mk (hs c0)
      clear hs ho hrl hdn z3 z4 hr
      go_enter Try.func146, Try.ntmps146
      go_wp2_with (go_at_call 179; refine HS.out.mono ?_; rintro e w2 ⟨rfl, m, rfl⟩)
      go_ret2
      exact ⟨by rw [HO.out]; rfl, pw_below_drewN HH.out.hB _, fun h => by rw [HO.out] at h; simp at h⟩
    · have z4' : (size6 s.next s.rest).2 = true := by simpa using z4
      obtain ⟨nn, hnn, hn8, hnl, hn2⟩ := size6_facts HB.out z4'
      have hr : rsize6 s.next s.rest = nn := by unfold rsize6; rw [z4', hnn]; rfl
      rw [hr] at hs
      have HS := Aside0.mk (hs c0)
      have hpn : p + nn ≤ n := by omega
      obtain ⟨h, hh⟩ : ∃ h, h = s.rest.take nn := ⟨_, rfl⟩
      obtain ⟨A', hA'⟩ : ∃ A', A' = (if c = p then A else A.map (·.add (p * 1))) := ⟨_, rfl⟩
      have hcut : ∀ W : World, (Instr.slice 27 (.slice A n c) (some (.int .i64 (p : Int))) (some (.int .i64 ((p : Int) + (nn : Int)))) none).run Try.prog W = .ok (.slice A' nn (c - p)) W := by
        obtain ⟨i0, hi0, _, hsz0, _⟩ := info_parts info5
        have h := cut_mid (P := Try.prog) 27 5 .i64 .i64 Try.underlying27 hi0 1 hsz0 A n c (p : Int) ((p : Int) + (nn : Int)) (by omega) (by omega) (by omega) hc
        rw [Int.toNat_natCast, show ((p : Int) + (nn : Int)).toNat - p = nn by omega] at h
        rw [hA']
        exact h
      have hC' : (Kd.int .u8).C w0 A' nn h := by
        have h1 := C_midN HH.out.hr hc p nn hpn
        rw [← HH.out.hs] at h1
        rw [hA', hh]
        exact h1
      obtain ⟨ad, rfl, a0⟩ := Kd.at_int (Kd.C_below hC' HH.out.hB) 0 (by omega) (by omega)
      obtain ⟨_, had2, a2⟩ := Kd.at_int (Kd.C_below hC' HH.out.hB) 2 (by omega) (by omega)
      obtain rfl := Option.some.inj had2
      obtain ⟨_, had3, a3⟩ := Kd.at_int (Kd.C_below hC' HH.out.hB) 3 (by omega) (by omega)
      obtain rfl := Option.some.inj had3
      rw [show ((0 : Int)).toNat = 0 from rfl, Addr.add_zero'] at a0
      rw [show ((2 : Int)).toNat = 2 from rfl, add_at _ _ (by omega)] at a2
      rw [show ((3 : Int)).toNat = 3 from rfl, add_at _ _ (by omega)] at a3
      have HC' := Aside0.mk hC'
      have hbh : Bytes h := by rw [hh]; exact fun y hy => HB.out y (List.mem_of_mem_take hy)
      have hadb : ad.block < w0.heap.size := C_block hC' (by omega)
      have hr0 : rd h 0 = rd s.rest 0 := by rw [hh]; exact rd_take (by omega) (by omega)
      obtain ⟨E, hE⟩ : ∃ E, E = look6 s h := ⟨_, rfl⟩
      have ho : one6 stops s = if E ≠ 0 then (E, true) else (0, (next6 stops s nn).fr.isSome) := by
        unfold one6
        rw [if_neg z3, if_neg z4, hnn, Int.toNat_natCast, ← hh, ← hE]
      have hN : next6 stops s (size6 s.next s.rest).1.toNat = next6 stops s nn := by rw [hnn, Int.toNat_natCast]
      have HN := Aside0.mk (And.intro ho hN)
      have HE := Aside0.mk (And.intro hE (And.intro hh hr0))
      have HBH := Aside0.mk hbh
      clear hs hr hrl hdn z3 z4 z4' hA' hC' hh hE ho hN hr0 hbh hnn hnl
      have e1 : IntKind.i64.wrap ((p : Int) + (nn : Int)) = (p : Int) + (nn : Int) := wraps_i64 _ (by omega) (by omega)
      rcases hkey with h' | h' | h' | h'
      · rw [h'] at c0
        cases hhop : s.hop with
        | true =>
          rw [hhop] at c4
          have hE7 : E = 7 := by rw [HE.out.1]; unfold look6; rw [if_pos h', if_pos hhop]
          have HE7 := Aside0.mk hE7
          clear hE7 hhop
          go_enter Try.func146, Try.ntmps146
          go_wp2_with (go_at_call 179; refine HS.out.mono ?_; rintro e w2 ⟨rfl, m, rfl⟩)
          go_quiet (fail)
          clear e1
          go_wp2
          go_ret2
          refine ⟨?_, pw_below_drewN HH.out.hB _, fun h0 => ?_⟩
          · rw [HN.out.1, if_pos (by rw [HE7.out]; omega), HE7.out]; rfl
          · rw [HN.out.1, if_pos (by rw [HE7.out]; omega), HE7.out] at h0
            simp at h0
        | false =>
          have hE60 : opt (h.drop 2) = E := by
            rw [HE.out.1]; unfold look6; rw [if_pos h', if_neg (by rw [hhop]; simp)]
          have hopt : ∀ W, Below w0.heap.size w0 W → Calls Try.prog 180 #[.slice (some ⟨ad.block, ad.off + 2, none⟩) (nn - 2) (c - p - 2)] W fun e w' => e = .returned (.int .i64 E) ∧ Below W.heap.size W w' := fun W hW => by
            have := refOpt_at (C_behind (Kd.C_below HC'.out hW) 2 (by omega) (by omega)) (c := c - p - 2) (by omega) (fun x hx => HBH.out x (List.mem_of_mem_drop hx)) (by omega)
            rwa [hE60] at this
          have HOPT := Aside0.mk hopt
          rw [hhop] at c4
          have HHOP := Aside0.mk hhop
          clear hopt hE60 e1 hhop
          have e1 : IntKind.i64.wrap ((p : Int) + (nn : Int)) = (p : Int) + (nn : Int) := wraps_i64 _ (by omega) (by omega)
          go_enter Try.func146, Try.ntmps146
          go_wp2_with (go_at_call 179; refine HS.out.mono ?_; rintro e w2 ⟨rfl, m, rfl⟩)
          go_quiet (fail)
          go_upto_block 0 with (fail)
          clear e1
          go_cut [6] (fun v6 wc => Aside0 (v6 = .int .i64 E) ∧ Aside0 (ObjR w0 b stops d A n c p (look2 stops s nn) (.slice Ae s.exts.length ce) wc))
          case first =>
            go_wp2_with (go_at_call 180; refine (HOPT.out _ (pw_below_drewN HH.out.hB _)).mono ?_; rintro e w3 ⟨rfl, hb3⟩)
            go_meet
            case rel =>
              have h2 := (HH.out.drewN _).below hb3
              refine ⟨⟨rfl⟩, ⟨?_⟩⟩
              rw [look2_other h' (by omega)]
              exact h2
          case rest =>
            obtain ⟨hv6, HO⟩ := hcut
            rw [hv6.out]
            clear hv6
            have d0 : wc.cell? ⟨b, 0, none⟩ = some (.int .i64 s.next) := blk_cell HO.out.ho 0
            have d1 : wc.cell? ⟨b, 1, none⟩ = some (.int .i64 p) := blk_cell HO.out.ho 1
            have d3 : wc.cell? ⟨b, 3, none⟩ = some (.slice Ae s.exts.length ce) := blk_cell HO.out.ho 3
            have d4 : wc.cell? ⟨b, 4, none⟩ = some (.bool (!s.hop)) := blk_cell HO.out.ho 4
            rw [h'] at d0
            have f4 := blk_unfrozen HO.out.ho 4
            have zlt := lt_of_heap HO.out.ho
            have hzc := HO.out.hB.size
            clear c0 c1 c2 c3 c4 c5 a0 a2 a3 blt hsz
            go_wp2
            have HO5 := Aside0.mk (HO.out.hop hbb)
            clear HO d0 d1 d3 d4 f4 zlt hzc
            generalize wc.setCell ⟨b, 4, none⟩ (.bool false) = w5 at *
            have d0 : w5.cell? ⟨b, 0, none⟩ = some (.int .i64 s.next) := blk_cell HO5.out.ho 0
            have d3 : w5.cell? ⟨b, 3, none⟩ = some (.slice Ae s.exts.length ce) := blk_cell HO5.out.ho 3
            rw [h'] at d0
            have zlt := lt_of_heap HO5.out.ho
            have hz5 := HO5.out.hB.size
            go_cut [] (fun w6 => ∃ A4 c4, Aside0 (ObjR w0 b stops d A n c p (exts6 (hop6 (look2 stops s nn)) 0) (.slice A4 (s.exts.length + 1) c4) w6))
            case first =>
              go_region_law (refine Kd.R_append_step (Kd.int .i64) (w0 := w0) (W := w5.drew) w0.heap.size ?hw (.tmp 134) (.tmp 139) 43 3 (.int .i64 0) 8 rfl Try.underlying43 info3 rfl (by decide) (by omega) (.slice Ae s.exts.length ce) s.exts 0 [.int .i64 0] (fun k => k ≠ b) (fun _ => False) rfl rfl ?hp (fun _ h => h.elim) ?hfresh ?hO ?hB ?hbase ?hl ?_; (case hw => rfl); (case hp => rfl); (case hfresh => intro k hk; have : w5.heap.size ≤ k := hk; omega); (case hO => exact HO5.out.drew.hx); (case hB => exact HO5.out.drew.hB); (case hbase => exact hz5); (case hl => omega); intro v1 w7 hx7 hB7 hg7 _; obtain ⟨A4, c4, hv7⟩ := Kd.R_slice hx7; rw [List.length_append, List.length_singleton] at hv7; have G7 := HO5.out.drew.grew hx7 hB7 hg7 hbb; have G8 := Aside0.mk G7.2; have g3 : w7.cell? ⟨b, 3, none⟩ = some (.slice Ae s.exts.length ce) := blk_cell G7.1 3; have gf := blk_unfrozen G7.1 3; clear G7 hx7 hB7 hg7; rw [hv7] at G8 ⊢; clear hv7)
              all_goals
                go_wp2
                go_meet
                case rel => exact ⟨_, _, G8⟩
            case rest =>
              clear d0 d3 zlt hz5 HO5
              obtain ⟨A4, c4, HO6⟩ := hcut
              have d0 : wc.cell? ⟨b, 0, none⟩ = some (.int .i64 s.next) := blk_cell HO6.out.ho 0
              have d1 : wc.cell? ⟨b, 1, none⟩ = some (.int .i64 p) := blk_cell HO6.out.ho 1
              have f0 := blk_unfrozen HO6.out.ho 0
              have f1 := blk_unfrozen HO6.out.ho 1
              have d16 : wc.cell? ⟨b, 16, none⟩ = some (.bool (next6 stops s nn).fr.isSome) := blk_cell HO6.out.ho 16
              obtain ⟨_, had, da⟩ := Kd.at_int (Kd.C_below HC'.out HO6.out.hB) 0 (by omega) (by omega)
              obtain rfl := Option.some.inj had
              rw [show ((0 : Int)).toNat = 0 from rfl, Addr.add_zero'] at da
              obtain ⟨v, hv⟩ : ∃ v, v = rd h 0 := ⟨_, rfl⟩
              rw [← hv] at da
              have hvb := rd_byte HBH.out 0
              rw [← hv] at hvb
              have HV := Aside0.mk (hv.trans HE.out.2.2)
              clear hv had
              obtain ⟨g, hg⟩ : ∃ g, g = (next6 stops s nn).fr.isSome := ⟨_, rfl⟩
              rw [← hg] at d16
              have HG := Aside0.mk hg
              clear hg
              by_cases zE : E = 0
              · have hz : (E != 0) = false := by simpa using zE
                go_wp2
                go_quiet (fail)
                go_wp2
                go_ret2
                refine ⟨?_, ?_, fun _ => ?_⟩
                · rw [HN.out.1, if_neg (by omega), ← HG.out, zE]; rfl
                · exact pw_below_drewN (((HO6.out.hB.setCell hbb _).setCell hbb _)) _
                · rw [HN.out.2]
                  exact ⟨_, _, (HO6.out.next h' hbb hpn v HV.out).drewN _⟩
              · have hz : (E != 0) = true := by simpa using zE
                go_wp2
                go_quiet (fail)
                go_wp2
                go_ret2
                refine ⟨?_, ?_, fun h0 => ?_⟩
                · rw [HN.out.1, if_pos zE]; rfl
                · exact pw_below_drewN (((HO6.out.hB.setCell hbb _).setCell hbb _)) _
                · rw [HN.out.1, if_pos zE] at h0
                  exact absurd h0 zE
      · rw [h'] at c0
        have hE60 : opt (h.drop 2) = E := by
          rw [HE.out.1]; unfold look6; rw [if_neg (by omega), if_pos h']
        have hopt : ∀ W, Below w0.heap.size w0 W → Calls Try.prog 180 #[.slice (some ⟨ad.block, ad.off + 2, none⟩) (nn - 2) (c - p - 2)] W fun e w' => e = .returned (.int .i64 E) ∧ Below W.heap.size W w' := fun W hW => by
          have := refOpt_at (C_behind (Kd.C_below HC'.out hW) 2 (by omega) (by omega)) (c := c - p - 2) (by omega) (fun x hx => HBH.out x (List.mem_of_mem_drop hx)) (by omega)
          rwa [hE60] at this
        have HOPT := Aside0.mk hopt
        clear hopt hE60 e1
        have e1 : IntKind.i64.wrap ((p : Int) + (nn : Int)) = (p : Int) + (nn : Int) := wraps_i64 _ (by omega) (by omega)
        go_enter Try.func146, Try.ntmps146
        go_wp2_with (go_at_call 179; refine HS.out.mono ?_; rintro e w2 ⟨rfl, m, rfl⟩)
        go_quiet (fail)
        go_upto_block 0 with (fail)
        clear e1
        go_cut [6] (fun v6 wc => Aside0 (v6 = .int .i64 E) ∧ Aside0 (ObjR w0 b stops d A n c p (look2 stops s nn) (.slice Ae s.exts.length ce) wc))
        case first =>
          go_wp2_with (go_at_call 180; refine (HOPT.out _ (pw_below_drewN HH.out.hB _)).mono ?_; rintro e w3 ⟨rfl, hb3⟩)
          go_meet
          case rel =>
            have h2 := (HH.out.drewN _).below hb3
            refine ⟨⟨rfl⟩, ⟨?_⟩⟩
            rw [look2_other h' (by omega)]
            exact h2
        case rest =>
          obtain ⟨hv6, HO⟩ := hcut
          rw [hv6.out]
          clear hv6
          have d0 : wc.cell? ⟨b, 0, none⟩ = some (.int .i64 s.next) := blk_cell HO.out.ho 0
          have d1 : wc.cell? ⟨b, 1, none⟩ = some (.int .i64 p) := blk_cell HO.out.ho 1
          have d3 : wc.cell? ⟨b, 3, none⟩ = some (.slice Ae s.exts.length ce) := blk_cell HO.out.ho 3
          have d4 : wc.cell? ⟨b, 4, none⟩ = some (.bool (!s.hop)) := blk_cell HO.out.ho 4
          rw [h'] at d0
          have f4 := blk_unfrozen HO.out.ho 4
          have zlt := lt_of_heap HO.out.ho
          have hzc := HO.out.hB.size
          clear c0 c1 c2 c3 c4 c5 a0 a2 a3 blt hsz
          go_wp2
          have HO5 := Aside0.mk (HO.out.hop hbb)
          clear HO d0 d1 d3 d4 f4 zlt hzc
          generalize wc.setCell ⟨b, 4, none⟩ (.bool false) = w5 at *
          have d0 : w5.cell? ⟨b, 0, none⟩ = some (.int .i64 s.next) := blk_cell HO5.out.ho 0
          have d3 : w5.cell? ⟨b, 3, none⟩ = some (.slice Ae s.exts.length ce) := blk_cell HO5.out.ho 3
          rw [h'] at d0
          have zlt := lt_of_heap HO5.out.ho
          have hz5 := HO5.out.hB.size
          go_cut [] (fun w6 => ∃ A4 c4, Aside0 (ObjR w0 b stops d A n c p (exts6 (hop6 (look2 stops s nn)) 60) (.slice A4 (s.exts.length + 1) c4) w6))
          case first =>
            go_region_law (refine Kd.R_append_step (Kd.int .i64) (w0 := w0) (W := w5.drew) w0.heap.size ?hw (.tmp 134) (.tmp 139) 43 3 (.int .i64 0) 8 rfl Try.underlying43 info3 rfl (by decide) (by omega) (.slice Ae s.exts.length ce) s.exts 60 [.int .i64 60] (fun k => k ≠ b) (fun _ => False) rfl rfl ?hp (fun _ h => h.elim) ?hfresh ?hO ?hB ?hbase ?hl ?_; (case hw => rfl); (case hp => rfl); (case hfresh => intro k hk; have : w5.heap.size ≤ k := hk; omega); (case hO => exact HO5.out.drew.hx); (case hB => exact HO5.out.drew.hB); (case hbase => exact hz5); (case hl => omega); intro v1 w7 hx7 hB7 hg7 _; obtain ⟨A4, c4, hv7⟩ := Kd.R_slice hx7; rw [List.length_append, List.length_singleton] at hv7; have G7 := HO5.out.drew.grew hx7 hB7 hg7 hbb; have G8 := Aside0.mk G7.2; have g3 : w7.cell? ⟨b, 3, none⟩ = some (.slice Ae s.exts.length ce) := blk_cell G7.1 3; have gf := blk_unfrozen G7.1 3; clear G7 hx7 hB7 hg7; rw [hv7] at G8 ⊢; clear hv7)
            all_goals
              go_wp2
              go_meet
              case rel => exact ⟨_, _, G8⟩
          case rest =>
            clear d0 d3 zlt hz5 HO5
            obtain ⟨A4, c4, HO6⟩ := hcut
            have d0 : wc.cell? ⟨b, 0, none⟩ = some (.int .i64 s.next) := blk_cell HO6.out.ho 0
            have d1 : wc.cell? ⟨b, 1, none⟩ = some (.int .i64 p) := blk_cell HO6.out.ho 1
            have f0 := blk_unfrozen HO6.out.ho 0
            have f1 := blk_unfrozen HO6.out.ho 1
            have d16 : wc.cell? ⟨b, 16, none⟩ = some (.bool (next6 stops s nn).fr.isSome) := blk_cell HO6.out.ho 16
            obtain ⟨_, had, da⟩ := Kd.at_int (Kd.C_below HC'.out HO6.out.hB) 0 (by omega) (by omega)
            obtain rfl := Option.some.inj had
            rw [show ((0 : Int)).toNat = 0 from rfl, Addr.add_zero'] at da
            obtain ⟨v, hv⟩ : ∃ v, v = rd h 0 := ⟨_, rfl⟩
            rw [← hv] at da
            have hvb := rd_byte HBH.out 0
            rw [← hv] at hvb
            have HV := Aside0.mk (hv.trans HE.out.2.2)
            clear hv had
            obtain ⟨g, hg⟩ : ∃ g, g = (next6 stops s nn).fr.isSome := ⟨_, rfl⟩
            rw [← hg] at d16
            have HG := Aside0.mk hg
            clear hg
            by_cases zE : E = 0
            · have hz : (E != 0) = false := by simpa using zE
              go_wp2
              go_quiet (fail)
              go_wp2
              go_ret2
              refine ⟨?_, ?_, fun _ => ?_⟩
              · rw [HN.out.1, if_neg (by omega), ← HG.out, zE]; rfl
              · exact pw_below_drewN (((HO6.out.hB.setCell hbb _).setCell hbb _)) _
              · rw [HN.out.2]
                exact ⟨_, _, (HO6.out.next h' hbb hpn v HV.out).drewN _⟩
            · have hz : (E != 0) = true := by simpa using zE
              go_wp2
              go_quiet (fail)
              go_wp2
              go_ret2
              refine ⟨?_, ?_, fun h0 => ?_⟩
              · rw [HN.out.1, if_pos zE]; rfl
              · exact pw_below_drewN (((HO6.out.hB.setCell hbb _).setCell hbb _)) _
              · rw [HN.out.1, if_pos zE] at h0
                exact absurd h0 zE
      · rw [h'] at c0
        have hE43 : E = lookRoute h := by rw [HE.out.1]; unfold look6; rw [if_neg (by omega), if_neg (by omega), if_pos h']
        obtain ⟨v2, hv2⟩ : ∃ v, v = rd h 2 := ⟨_, rfl⟩
        obtain ⟨v3, hv3⟩ : ∃ v, v = rd h 3 := ⟨_, rfl⟩
        rw [← hv2] at a2
        rw [← hv3] at a3
        unfold lookRoute at hE43
        rw [← hv2, ← hv3] at hE43
        have HE43 := Aside0.mk hE43
        clear hE43 hv2 hv3 e1
        have e1 : IntKind.i64.wrap ((p : Int) + (nn : Int)) = (p : Int) + (nn : Int) := wraps_i64 _ (by omega) (by omega)
        go_enter Try.func146, Try.ntmps146
        go_wp2_with (go_at_call 179; refine HS.out.mono ?_; rintro e w2 ⟨rfl, m, rfl⟩)
        go_quiet (fail)
        go_upto_block 0 with (fail)
        clear e1
        go_cut [6] (fun v6 wc => Aside0 (v6 = .int .i64 E) ∧ Aside0 (ObjR w0 b stops d A n c p (look2 stops s nn) (.slice Ae s.exts.length ce) wc))
        case first =>
          by_cases y3 : v3 = 0
          · have z3 : (v3 != 0) = false := by simpa using y3
            by_cases y2 : v2 = 0
            · have z2 : (v2 == 0) = true := by simpa using y2
              have hE8 := HE43.out
              rw [if_pos (.inl y2)] at hE8
              have HE8 := Aside0.mk hE8
              clear y2 y3 hE8
              go_wp2
              go_meet
              case rel =>
                refine ⟨⟨by rw [HE8.out]⟩, ⟨?_⟩⟩
                rw [look2_other h' (by omega)]
                exact HH.out.drewN _
            · have z2 : (v2 == 0) = false := by simpa using y2
              have hE8 := HE43.out
              rw [if_neg (by omega)] at hE8
              have HE8 := Aside0.mk hE8
              clear y2 y3 hE8
              go_wp2
              go_meet
              case rel =>
                refine ⟨⟨by rw [HE8.out]⟩, ⟨?_⟩⟩
                rw [look2_other h' (by omega)]
                exact HH.out.drewN _
          · have z3 : (v3 != 0) = true := by simpa using y3
            have hE8 := HE43.out
            rw [if_pos (.inr y3)] at hE8
            have HE8 := Aside0.mk hE8
            clear y3 hE8
            go_wp2
            go_meet
            case rel =>
              refine ⟨⟨by rw [HE8.out]⟩, ⟨?_⟩⟩
              rw [look2_other h' (by omega)]
              exact HH.out.drewN _
        case rest =>
          obtain ⟨hv6, HO⟩ := hcut
          rw [hv6.out]
          clear hv6
          have d0 : wc.cell? ⟨b, 0, none⟩ = some (.int .i64 s.next) := blk_cell HO.out.ho 0
          have d1 : wc.cell? ⟨b, 1, none⟩ = some (.int .i64 p) := blk_cell HO.out.ho 1
          have d3 : wc.cell? ⟨b, 3, none⟩ = some (.slice Ae s.exts.length ce) := blk_cell HO.out.ho 3
          have d4 : wc.cell? ⟨b, 4, none⟩ = some (.bool (!s.hop)) := blk_cell HO.out.ho 4
          rw [h'] at d0
          have f4 := blk_unfrozen HO.out.ho 4
          have zlt := lt_of_heap HO.out.ho
          have hzc := HO.out.hB.size
          clear c0 c1 c2 c3 c4 c5 a0 a2 a3 blt hsz
          go_wp2
          have HO5 := Aside0.mk (HO.out.hop hbb)
          clear HO d0 d1 d3 d4 f4 zlt hzc
          generalize wc.setCell ⟨b, 4, none⟩ (.bool false) = w5 at *
          have d0 : w5.cell? ⟨b, 0, none⟩ = some (.int .i64 s.next) := blk_cell HO5.out.ho 0
          have d3 : w5.cell? ⟨b, 3, none⟩ = some (.slice Ae s.exts.length ce) := blk_cell HO5.out.ho 3
          rw [h'] at d0
          have zlt := lt_of_heap HO5.out.ho
          have hz5 := HO5.out.hB.size
          go_cut [] (fun w6 => ∃ A4 c4, Aside0 (ObjR w0 b stops d A n c p (exts6 (hop6 (look2 stops s nn)) 43) (.slice A4 (s.exts.length + 1) c4) w6))
          case first =>
            go_region_law (refine Kd.R_append_step (Kd.int .i64) (w0 := w0) (W := w5.drew) w0.heap.size ?hw (.tmp 134) (.tmp 139) 43 3 (.int .i64 0) 8 rfl Try.underlying43 info3 rfl (by decide) (by omega) (.slice Ae s.exts.length ce) s.exts 43 [.int .i64 43] (fun k => k ≠ b) (fun _ => False) rfl rfl ?hp (fun _ h => h.elim) ?hfresh ?hO ?hB ?hbase ?hl ?_; (case hw => rfl); (case hp => rfl); (case hfresh => intro k hk; have : w5.heap.size ≤ k := hk; omega); (case hO => exact HO5.out.drew.hx); (case hB => exact HO5.out.drew.hB); (case hbase => exact hz5); (case hl => omega); intro v1 w7 hx7 hB7 hg7 _; obtain ⟨A4, c4, hv7⟩ := Kd.R_slice hx7; rw [List.length_append, List.length_singleton] at hv7; have G7 := HO5.out.drew.grew hx7 hB7 hg7 hbb; have G8 := Aside0.mk G7.2; have g3 : w7.cell? ⟨b, 3, none⟩ = some (.slice Ae s.exts.length ce) := blk_cell G7.1 3; have gf := blk_unfrozen G7.1 3; clear G7 hx7 hB7 hg7; rw [hv7] at G8 ⊢; clear hv7)
            all_goals
              go_wp2
              go_meet
              case rel => exact ⟨_, _, G8⟩
          case rest =>
            clear d0 d3 zlt hz5 HO5
            obtain ⟨A4, c4, HO6⟩ := hcut
            have d0 : wc.cell? ⟨b, 0, none⟩ = some (.int .i64 s.next) := blk_cell HO6.out.ho 0
            have d1 : wc.cell? ⟨b, 1, none⟩ = some (.int .i64 p) := blk_cell HO6.out.ho 1
            have f0 := blk_unfrozen HO6.out.ho 0
            have f1 := blk_unfrozen HO6.out.ho 1
            have d16 : wc.cell? ⟨b, 16, none⟩ = some (.bool (next6 stops s nn).fr.isSome) := blk_cell HO6.out.ho 16
            obtain ⟨_, had, da⟩ := Kd.at_int (Kd.C_below HC'.out HO6.out.hB) 0 (by omega) (by omega)
            obtain rfl := Option.some.inj had
            rw [show ((0 : Int)).toNat = 0 from rfl, Addr.add_zero'] at da
            obtain ⟨v, hv⟩ : ∃ v, v = rd h 0 := ⟨_, rfl⟩
            rw [← hv] at da
            have hvb := rd_byte HBH.out 0
            rw [← hv] at hvb
            have HV := Aside0.mk (hv.trans HE.out.2.2)
            clear hv had
            obtain ⟨g, hg⟩ : ∃ g, g = (next6 stops s nn).fr.isSome := ⟨_, rfl⟩
            rw [← hg] at d16
            have HG := Aside0.mk hg
            clear hg
            by_cases zE : E = 0
            · have hz : (E != 0) = false := by simpa using zE
              go_wp2
              go_quiet (fail)
              go_wp2
              go_ret2
              refine ⟨?_, ?_, fun _ => ?_⟩
              · rw [HN.out.1, if_neg (by omega), ← HG.out, zE]; rfl
              · exact pw_below_drewN (((HO6.out.hB.setCell hbb _).setCell hbb _)) _
              · rw [HN.out.2]
                exact ⟨_, _, (HO6.out.next h' hbb hpn v HV.out).drewN _⟩
            · have hz : (E != 0) = true := by simpa using zE
              go_wp2
              go_quiet (fail)
              go_wp2
              go_ret2
              refine ⟨?_, ?_, fun h0 => ?_⟩
              · rw [HN.out.1, if_pos zE]; rfl
              · exact pw_below_drewN (((HO6.out.hB.setCell hbb _).setCell hbb _)) _
              · rw [HN.out.1, if_pos zE] at h0
                exact absurd h0 zE
      · rw [h'] at c0
        cases hfrg : s.frg with
        | true =>
          rw [hfrg] at c5
          have hE7 : E = 7 := by rw [HE.out.1]; unfold look6; rw [if_neg (by omega), if_neg (by omega), if_neg (by omega), if_pos hfrg]
          have HE7 := Aside0.mk hE7
          clear hE7 hfrg
          go_enter Try.func146, Try.ntmps146
          go_wp2_with (go_at_call 179; refine HS.out.mono ?_; rintro e w2 ⟨rfl, m, rfl⟩)
          go_quiet (fail)
          clear e1
          go_wp2
          go_ret2
          refine ⟨?_, pw_below_drewN HH.out.hB _, fun h0 => ?_⟩
          · rw [HN.out.1, if_pos (by rw [HE7.out]; omega), HE7.out]; rfl
          · rw [HN.out.1, if_pos (by rw [HE7.out]; omega), HE7.out] at h0
            simp at h0
        | false =>
          rw [hfrg] at c5
          have hE0 : E = 0 := by rw [HE.out.1]; unfold look6; rw [if_neg (by omega), if_neg (by omega), if_neg (by omega), if_neg (by rw [hfrg]; simp)]
          have HE0 := Aside0.mk hE0
          have HFRG := Aside0.mk hfrg
          have c6 : w.cell? ⟨b, 6, none⟩ = some (.bool stops) := blk_cell HH.out.ho 6
          have c16 : w.cell? ⟨b, 16, none⟩ = some (.bool s.fr.isSome) := blk_cell HH.out.ho 16
          have c17 : w.cell? ⟨b, 17, none⟩ = some (.int .u32 (s.fr.getD (0, 0, false)).1) := blk_cell HH.out.ho 17
          have c18 : w.cell? ⟨b, 18, none⟩ = some (.int .i64 (s.fr.getD (0, 0, false)).2.1) := blk_cell HH.out.ho 18
          have c19 : w.cell? ⟨b, 19, none⟩ = some (.bool (s.fr.getD (0, 0, false)).2.2) := blk_cell HH.out.ho 19
          rw [hfr] at c16 c17 c18 c19
          have f5 := blk_unfrozen HH.out.ho 5
          have f16 := blk_unfrozen HH.out.ho 16
          have f17 := blk_unfrozen HH.out.ho 17
          have f18 := blk_unfrozen HH.out.ho 18
          have f19 := blk_unfrozen HH.out.ho 19
          have ub := u16_bounds HBH.out 2
          obtain ⟨P, hP⟩ : ∃ P : Nat, u16 h 2 = (P : Int) := ⟨(u16 h 2).toNat, by omega⟩
          have hPb : P ≤ 65535 := by omega
          have hne : ∀ ad', some ad = some ad' → ad'.block ≠ b := fun ad' he => by have := Option.some.inj he; subst this; omega
          have h16 : ∀ W, (Kd.int .u8).C W (some ad) nn h → Calls Try.prog 63 #[.slice (some ad) nn (c - p), .int .i64 2] W fun e w' => e = .returned (.tuple #[.int .i64 (P : Int), .bool true]) ∧ Below W.heap.size W w' := fun W hW => by
            rw [← hP]; exact rU16_at 2 hW (by omega) HBH.out (by omega) (by omega) (by omega)
          have H16 := Aside0.mk h16
          have HP := Aside0.mk hP
          have HNE := Aside0.mk hne
          have HFR := Aside0.mk hfr
          clear hE0 hfrg ub hP hne h16 e1 hfr
          have e1 : IntKind.i64.wrap ((p : Int) + (nn : Int)) = (p : Int) + (nn : Int) := wraps_i64 _ (by omega) (by omega)
          go_enter Try.func146, Try.ntmps146
          go_wp2_with (go_at_call 179; refine HS.out.mono ?_; rintro e w2 ⟨rfl, m, rfl⟩)
          go_quiet (fail)
          go_upto_block 0 with (fail)
          clear e1
          go_cut [6] (fun v6 wc => Aside0 (v6 = .int .i64 E) ∧ Aside0 (ObjR w0 b stops d A n c p (look2 stops s nn) (.slice Ae s.exts.length ce) wc))
          case first =>
            go_wp2_with (fail)
            refine (H16.out _ (C_set (C_drewN (Kd.C_below HC'.out HH.out.hB) _) b 5 _ HNE.out)).mono ?_
            rintro e w3 ⟨rfl, hb3⟩
            have O3 := Aside0.mk (((HH.out.drewN _).frg hbb).below hb3)
            clear hb3 c0 c1 c2 c3 c4 c5 c6 c16 c17 c18 c19 f5 f16 f17 f18 f19 a0 a2 a3
            have d6 : w3.cell? ⟨b, 6, none⟩ = some (.bool stops) := blk_cell O3.out.ho 6
            have hm1 : ∃ m1 : Bool, m1 = decide (P % 2 = 1) ∧ (Go.bits .and .i64 (P : Int) 1 == 1) = m1 := ⟨_, rfl, by
              rw [and1 P (by omega)]
              by_cases h2 : P % 2 = 1
              · simp [h2]
              · have : P % 2 = 0 := by omega
                simp [this]⟩
            obtain ⟨m1, hm1, hbit⟩ := hm1
            have HL := Aside0.mk (show look2 stops s nn = ⟨s.next, s.rest, s.exts, s.hop, true, if stops = true ∧ (P / 8 ≠ 0 ∨ P % 2 = 1) then some (u32 h 4, (P : Int) / 8 * 8, m1) else none⟩ from by
              have h2 : (s.next == 44) = true := by rw [h']; rfl
              unfold look2
              rw [h2, Bool.or_true, if_pos h', ← HE.out.2.1, HFR.out]
              unfold frag6
              rw [HP.out, hm1]
              congr 1
              by_cases hq : stops = true ∧ (P / 8 ≠ 0 ∨ P % 2 = 1)
              · rw [if_pos hq, if_pos ⟨hq.1, by have := hq.2; omega⟩]
                congr 3
                by_cases h3 : P % 2 = 1
                · rw [decide_eq_true h3, decide_eq_true (by omega)]
                · rw [decide_eq_false h3, decide_eq_false (by omega)]
              · rw [if_neg hq, if_neg (fun hh => hq ⟨hh.1, by have := hh.2; omega⟩)])
            by_cases hq : stops = true ∧ (P / 8 ≠ 0 ∨ P % 2 = 1)
            · obtain ⟨rfl, hq2⟩ := hq
              have HQ := Aside0.mk hq2
              have HR3 := Aside0.mk (Kd.C_below HC'.out O3.out.hB)
              have hz3 := O3.out.hB.size
              by_cases hpos : P / 8 = 0
              · have hm : m1 = true := by rw [hm1]; exact decide_eq_true (by omega)
                have HM := Aside0.mk hm
                rw [hm] at hbit
                have hle : (P : Int) / 8 * 8 ≤ 0 := by omega
                clear hm1 hq2 hpos hm
                go_wp2_with (go_at_call 168; refine (rU32_at 4 HR3.out (by omega) HBH.out (by omega) (by omega) (by omega)).mono ?_; rintro e w4 ⟨rfl, hb4⟩; have O4 := Aside0.mk (O3.out.below hb4); clear hb4; have d16 : w4.cell? ⟨b, 16, none⟩ = some (.bool s.fr.isSome) := blk_cell O4.out.ho 16; have d17 : w4.cell? ⟨b, 17, none⟩ = some (.int .u32 (s.fr.getD (0, 0, false)).1) := blk_cell O4.out.ho 17; have d18 : w4.cell? ⟨b, 18, none⟩ = some (.int .i64 (s.fr.getD (0, 0, false)).2.1) := blk_cell O4.out.ho 18; have d19 : w4.cell? ⟨b, 19, none⟩ = some (.bool (s.fr.getD (0, 0, false)).2.2) := blk_cell O4.out.ho 19; have f16 := blk_unfrozen O4.out.ho 16; have f17 := blk_unfrozen O4.out.ho 17; have f18 := blk_unfrozen O4.out.ho 18; have f19 := blk_unfrozen O4.out.ho 19)
                go_meet
                case rel =>
                  refine ⟨⟨by rw [HE0.out]⟩, ⟨?_⟩⟩
                  rw [HL.out, if_pos (by first | exact ⟨rfl, HQ.out⟩ | exact ⟨trivial, HQ.out⟩), HM.out]
                  exact O4.out.stop hbb _ _ _
              · have hgt : (0 : Int) < (P : Int) / 8 * 8 := by omega
                clear hm1 hq2 hpos
                go_wp2_with (go_at_call 168; refine (rU32_at 4 HR3.out (by omega) HBH.out (by omega) (by omega) (by omega)).mono ?_; rintro e w4 ⟨rfl, hb4⟩; have O4 := Aside0.mk (O3.out.below hb4); clear hb4; have d16 : w4.cell? ⟨b, 16, none⟩ = some (.bool s.fr.isSome) := blk_cell O4.out.ho 16; have d17 : w4.cell? ⟨b, 17, none⟩ = some (.int .u32 (s.fr.getD (0, 0, false)).1) := blk_cell O4.out.ho 17; have d18 : w4.cell? ⟨b, 18, none⟩ = some (.int .i64 (s.fr.getD (0, 0, false)).2.1) := blk_cell O4.out.ho 18; have d19 : w4.cell? ⟨b, 19, none⟩ = some (.bool (s.fr.getD (0, 0, false)).2.2) := blk_cell O4.out.ho 19; have f16 := blk_unfrozen O4.out.ho 16; have f17 := blk_unfrozen O4.out.ho 17; have f18 := blk_unfrozen O4.out.ho 18; have f19 := blk_unfrozen O4.out.ho 19)
                go_meet
                case rel =>
                  refine ⟨⟨by rw [HE0.out]⟩, ⟨?_⟩⟩
                  rw [HL.out, if_pos (by first | exact ⟨rfl, HQ.out⟩ | exact ⟨trivial, HQ.out⟩)]
                  exact O4.out.stop hbb _ _ _
            · have HQ := Aside0.mk hq
              cases stops with
              | false =>
                clear hm1 hq
                go_wp2_with (fail)
                go_meet
                case rel =>
                  refine ⟨⟨by rw [HE0.out]⟩, ⟨?_⟩⟩
                  rw [HL.out, if_neg HQ.out, ← HFR.out]
                  exact O3.out
              | true =>
                have hno : ¬ (P / 8 ≠ 0 ∨ P % 2 = 1) := fun hh => hq ⟨rfl, hh⟩
                have hm : m1 = false := by rw [hm1]; exact decide_eq_false (by omega)
                rw [hm] at hbit
                have hle : (P : Int) / 8 * 8 ≤ 0 := by omega
                clear hm1 hq hno hm
                go_wp2_with (fail)
                go_meet
                case rel =>
                  refine ⟨⟨by rw [HE0.out]⟩, ⟨?_⟩⟩
                  rw [HL.out, if_neg HQ.out, ← HFR.out]
                  exact O3.out
          case rest =>
            obtain ⟨hv6, HO⟩ := hcut
            rw [hv6.out]
            clear hv6
            have d0 : wc.cell? ⟨b, 0, none⟩ = some (.int .i64 s.next) := blk_cell HO.out.ho 0
            have d1 : wc.cell? ⟨b, 1, none⟩ = some (.int .i64 p) := blk_cell HO.out.ho 1
            have d3 : wc.cell? ⟨b, 3, none⟩ = some (.slice Ae s.exts.length ce) := blk_cell HO.out.ho 3
            have d4 : wc.cell? ⟨b, 4, none⟩ = some (.bool (!s.hop)) := blk_cell HO.out.ho 4
            rw [h'] at d0
            have f4 := blk_unfrozen HO.out.ho 4
            have zlt := lt_of_heap HO.out.ho
            have hzc := HO.out.hB.size
            clear c0 c1 c2 c3 c4 c5 a0 a2 a3 blt hsz
            go_wp2
            have HO5 := Aside0.mk (HO.out.hop hbb)
            clear HO d0 d1 d3 d4 f4 zlt hzc
            generalize wc.setCell ⟨b, 4, none⟩ (.bool false) = w5 at *
            have d0 : w5.cell? ⟨b, 0, none⟩ = some (.int .i64 s.next) := blk_cell HO5.out.ho 0
            have d3 : w5.cell? ⟨b, 3, none⟩ = some (.slice Ae s.exts.length ce) := blk_cell HO5.out.ho 3
            rw [h'] at d0
            have zlt := lt_of_heap HO5.out.ho
            have hz5 := HO5.out.hB.size
            go_cut [] (fun w6 => ∃ A4 c4, Aside0 (ObjR w0 b stops d A n c p (exts6 (hop6 (look2 stops s nn)) 44) (.slice A4 (s.exts.length + 1) c4) w6))
            case first =>
              go_region_law (refine Kd.R_append_step (Kd.int .i64) (w0 := w0) (W := w5.drew) w0.heap.size ?hw (.tmp 134) (.tmp 139) 43 3 (.int .i64 0) 8 rfl Try.underlying43 info3 rfl (by decide) (by omega) (.slice Ae s.exts.length ce) s.exts 44 [.int .i64 44] (fun k => k ≠ b) (fun _ => False) rfl rfl ?hp (fun _ h => h.elim) ?hfresh ?hO ?hB ?hbase ?hl ?_; (case hw => rfl); (case hp => rfl); (case hfresh => intro k hk; have : w5.heap.size ≤ k := hk; omega); (case hO => exact HO5.out.drew.hx); (case hB => exact HO5.out.drew.hB); (case hbase => exact hz5); (case hl => omega); intro v1 w7 hx7 hB7 hg7 _; obtain ⟨A4, c4, hv7⟩ := Kd.R_slice hx7; rw [List.length_append, List.length_singleton] at hv7; have G7 := HO5.out.drew.grew hx7 hB7 hg7 hbb; have G8 := Aside0.mk G7.2; have g3 : w7.cell? ⟨b, 3, none⟩ = some (.slice Ae s.exts.length ce) := blk_cell G7.1 3; have gf := blk_unfrozen G7.1 3; clear G7 hx7 hB7 hg7; rw [hv7] at G8 ⊢; clear hv7)
              all_goals
                go_wp2
                go_meet
                case rel => exact ⟨_, _, G8⟩
            case rest =>
              clear d0 d3 zlt hz5 HO5
              obtain ⟨A4, c4, HO6⟩ := hcut
              have d0 : wc.cell? ⟨b, 0, none⟩ = some (.int .i64 s.next) := blk_cell HO6.out.ho 0
              have d1 : wc.cell? ⟨b, 1, none⟩ = some (.int .i64 p) := blk_cell HO6.out.ho 1
              have f0 := blk_unfrozen HO6.out.ho 0
              have f1 := blk_unfrozen HO6.out.ho 1
              have d16 : wc.cell? ⟨b, 16, none⟩ = some (.bool (next6 stops s nn).fr.isSome) := blk_cell HO6.out.ho 16
              obtain ⟨_, had, da⟩ := Kd.at_int (Kd.C_below HC'.out HO6.out.hB) 0 (by omega) (by omega)
              obtain rfl := Option.some.inj had
              rw [show ((0 : Int)).toNat = 0 from rfl, Addr.add_zero'] at da
              obtain ⟨v, hv⟩ : ∃ v, v = rd h 0 := ⟨_, rfl⟩
              rw [← hv] at da
              have hvb := rd_byte HBH.out 0
              rw [← hv] at hvb
              have HV := Aside0.mk (hv.trans HE.out.2.2)
              clear hv had
              obtain ⟨g, hg⟩ : ∃ g, g = (next6 stops s nn).fr.isSome := ⟨_, rfl⟩
              rw [← hg] at d16
              have HG := Aside0.mk hg
              clear hg
              by_cases zE : E = 0
              · have hz : (E != 0) = false := by simpa using zE
                go_wp2
                go_quiet (fail)
                go_wp2
                go_ret2
                refine ⟨?_, ?_, fun _ => ?_⟩
                · rw [HN.out.1, if_neg (by omega), ← HG.out, zE]; rfl
                · exact pw_below_drewN (((HO6.out.hB.setCell hbb _).setCell hbb _)) _
                · rw [HN.out.2]
                  exact ⟨_, _, (HO6.out.next h' hbb hpn v HV.out).drewN _⟩
              · have hz : (E != 0) = true := by simpa using zE
                go_wp2
                go_quiet (fail)
                go_wp2
                go_ret2
                refine ⟨?_, ?_, fun h0 => ?_⟩
                · rw [HN.out.1, if_pos zE]; rfl
                · exact pw_below_drewN (((HO6.out.hB.setCell hbb _).setCell hbb _)) _
                · rw [HN.out.1, if_pos zE] at h0
                  exact absurd h0 zE
end Go.Proofs.Ytgifcmbknkjemaa.Own
end
