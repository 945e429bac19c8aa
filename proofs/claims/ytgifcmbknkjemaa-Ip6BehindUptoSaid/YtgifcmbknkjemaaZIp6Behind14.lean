/- What the law Ip6Behind rests on, part 14: contracts of the functions that it calls, and plain lemmas. No condition. -/
import Derived.Test.YtgifcmbknkjemaaZIp6Behind13
import Derived.Laws.CopyOwn
import Derived.StillTailTactics
section
namespace Go.Proofs.Ytgifcmbknkjemaa.Own
open Go Go.RowKit Go.Proofs.YtgifcmbknkjemaaW.PrintWords Go.Proofs.YtgifcmbknkjemaaW.PrintLast Go.Proofs.YtgifcmbknkjemaaW.PrintMore
set_option linter.unusedVariables false
set_option linter.unusedSimpArgs false
theorem frag_bounds {stops : Bool} (k : Nat) : ∀ {s : S6}, Bytes s.rest → (s.fr.isSome = true → 0 ≤ (s.fr.getD (0, 0, false)).2.1 ∧ (s.fr.getD (0, 0, false)).2.1 ≤ 65535) → ((run6 stops k s).2.fr.isSome = true → 0 ≤ ((run6 stops k s).2.fr.getD (0, 0, false)).2.1 ∧ ((run6 stops k s).2.fr.getD (0, 0, false)).2.1 ≤ 65535) := by
  induction k with
  | zero => intro s _ h; exact h
  | succ k ih =>
    intro s hb h
    simp only [run6]
    by_cases c1 : s.fr.isSome = true ∨ isExt s.next = false
    · rw [if_pos c1]; exact h
    rw [if_neg c1]
    by_cases c2 : 8 ≤ s.exts.length
    · rw [if_pos c2]; exact h
    rw [if_neg c2]
    by_cases c3 : (size6 s.next s.rest).2 = false
    · rw [if_pos c3]; exact h
    rw [if_neg c3]
    by_cases c4 : look6 s (s.rest.take (size6 s.next s.rest).1.toNat) ≠ 0
    · rw [if_pos c4]; exact h
    rw [if_neg c4]
    refine ih (fun y hy => hb y (List.mem_of_mem_drop hy)) ?_
    have hu := u16_bounds (show Bytes (s.rest.take (size6 s.next s.rest).1.toNat) from fun y hy => hb y (List.mem_of_mem_take hy)) 2
    unfold next6
    simp only
    by_cases c5 : s.next = 44
    · rw [if_pos c5]
      unfold frag6
      split
      · intro _
        simp only [Option.getD_some]
        omega
      · exact h
    · rw [if_neg c5]; exact h
def zeroC : Array Value := ipCells zeroV (.slice none 0 0) (.slice none 0 0)
theorem zeroC_one : zeroC.all (·.oneCell') = true := ipCells_one _ _ _ _ _ _ _
theorem fail_post {w W : World} {g : Nat} (e : Int) (hB : Below w.heap.size w W) : IpPost w (zeroV, e) (.returned (.tuple #[.agg zeroC, .int .i64 e])) W :=
  ⟨_, _, rfl, Kd.R_nil _ _ _ _ _, Kd.R_nil _ _ _ _ _, hB⟩
theorem add_in (g o j : Nat) : (⟨g, o, none⟩ : Addr).add j = ⟨g, o + j, none⟩ := by
  unfold Addr.add
  split
  · rename_i h; subst h; rfl
  · rfl
theorem keep_set4 {w : World} {a b c d : Addr} {va vb vc vd : Option Value} {pb i : Nat} {v : Value} (ha : a.block ≠ pb) (hb : b.block ≠ pb) (hc : c.block ≠ pb) (hd : d.block ≠ pb) (h0 : w.cell? a = va) (h1 : w.cell? b = vb) (h2 : w.cell? c = vc) (h3 : w.cell? d = vd) :
    (w.setCell ⟨pb, i, none⟩ v).cell? a = va ∧ (w.setCell ⟨pb, i, none⟩ v).cell? b = vb ∧ (w.setCell ⟨pb, i, none⟩ v).cell? c = vc ∧ (w.setCell ⟨pb, i, none⟩ v).cell? d = vd := by
  have h : ∀ x : Addr, x.block ≠ pb → (w.setCell ⟨pb, i, none⟩ v).cell? x = w.cell? x := fun x hx => by
    unfold World.cell?
    rw [heap_setCell_other w ⟨pb, i, none⟩ x.block v hx]
  exact ⟨(h a ha).trans h0, (h b hb).trans h1, (h c hc).trans h2, (h d hd).trans h3⟩
structure Mid7 (w : World) (pb : Nat) (s : S6) (vE vD : Value) (cells : Array Value) (wc : World) : Prop where
  g : wc.heap[w.heap.size]? = some (.cells zeroC 55 (0, 0))
  p : wc.heap[pb]? = some (.cells cells 55 (0, 0))
  ne : w.heap.size < pb
  hE : Kd.R (Kd.int .i64) 3 wc w.heap.size (fun _ => True) vE s.exts
  hD : Kd.R (Kd.int .u8) 5 wc w.heap.size (fun _ => True) vD s.rest
  hB : Below w.heap.size w wc
theorem Mid7.below {w wc wd : World} {pb : Nat} {s : S6} {vE vD : Value} {cells : Array Value} (h : Mid7 w pb s vE vD cells wc) (hb : Below wc.heap.size wc wd) : Mid7 w pb s vE vD cells wd :=
  ⟨(hb.block _ (lt_of_heap h.g)).trans h.g, (hb.block _ (lt_of_heap h.p)).trans h.p, h.ne, Kd.R_below h.hE hb, Kd.R_below h.hD hb, below_then h.hB h.hB.size hb⟩
theorem Mid7.set {w wc : World} {pb : Nat} {s : S6} {vE vD : Value} {cells : Array Value} (h : Mid7 w pb s vE vD cells wc) (i : Nat) (v : Value) : Mid7 w pb s vE vD (cells.setIfInBounds i v) (wc.setCell ⟨pb, i, none⟩ v) :=
  ⟨(heap_setCell_other wc ⟨pb, i, none⟩ _ v (Nat.ne_of_lt h.ne)).trans h.g, obj_set h.p i v, h.ne, Kd.R_set h.hE h.p (by intro q hq; simp [Kd.int, Kd.scalar] at hq; omega) i v, Kd.R_set h.hD h.p (by intro q hq; simp [Kd.int, Kd.scalar] at hq; omega) i v, h.hB.setCell (Nat.le_of_lt h.ne) v⟩
theorem Mid7.drewN {w wc : World} {pb : Nat} {s : S6} {vE vD : Value} {cells : Array Value} (h : Mid7 w pb s vE vD cells wc) (m : Nat) : Mid7 w pb s vE vD cells (wc.drewN m) := ⟨h.g, h.p, h.ne, Kd.R_move h.hE (fun _ _ => rfl), Kd.R_move h.hD (fun _ _ => rfl), pw_below_drewN h.hB m⟩
theorem R_setRow {α : Type} {d : Kd α} {e : Nat} {w : World} {base : Nat} {v : Value} {xs : List α} {g t : Nat} {cells cs : Array Value} (h : d.R e w base (fun _ => True) v xs) (hb : w.heap[g]? = some (.cells cells t (0, 0))) (ht : ∀ q, q ∈ e :: d.E → q ≠ t) : d.R e (w.setRow g cs) base (fun _ => True) v xs :=
  Kd.R_mono (Kd.R_step (Kd.R_types h hb ht) (fun k hk _ => setRow_other w g k cs hk.2)) (fun _ _ => trivial)
theorem Mid7.done {w wc : World} {pb : Nat} {s : S6} {vE vD : Value} {cells cs : Array Value} (h : Mid7 w pb s vE vD cells wc) {r : IpV × Int} (hr : r.1.exts = s.exts ∧ r.1.data = s.rest) (hcs : cs = ipCells r.1 vE vD) : IpPost w r (.returned (.tuple #[.agg cs, .int .i64 r.2])) (wc.setRow w.heap.size cs) :=
  ⟨vE, vD, by rw [hcs], by rw [hr.1]; exact R_setRow h.hE h.g (by intro q hq; simp [Kd.int, Kd.scalar] at hq; omega), by rw [hr.2]; exact R_setRow h.hD h.g (by intro q hq; simp [Kd.int, Kd.scalar] at hq; omega), below_setRow h.hB (Nat.le_refl _) _⟩
def fragV (f : Bool) (id off : Int) (more : Bool) : IpV := ⟨0, (0, 0, 0), (0, 0, 0), 0, 0, f, id, off, more, [], []⟩
theorem objS_part (s : S6) (stops : Bool) (vR vE : Value) : (objS s stops vR vE).extract 7 22 = ipCells (fragV s.fr.isSome (s.fr.getD (0, 0, false)).1 (s.fr.getD (0, 0, false)).2.1 (s.fr.getD (0, 0, false)).2.2) (.slice none 0 0) (.slice none 0 0) := rfl
theorem part_cells {w : World} {b t : Nat} {C : Array Value} (h : w.heap[b]? = some (.cells C t (0, 0))) (o m : Nat) (j : Nat) (v : Value) (hj : ((C.extract o m).toList)[j]? = some v) : w.cell? ((⟨b, o, none⟩ : Addr).add j) = some v := by
  rw [add_in, cell_of_row w b (o + j) C t (0, 0) h]
  rw [Array.getElem?_toList, Array.getElem?_extract] at hj
  split at hj
  · exact hj
  · cases hj
theorem pw_cell_at {w w1 : World} {a : Addr} {v : Value} (hb : Below w.heap.size w w1) (hc : w.cell? a = some v) : w1.cell? a = some v := pw_cell_below hb hc
structure Mid6 (w w1 : World) (b r x pb : Nat) (s : S6) (A2 : Option Addr) (n2 c2 : Nat) (vE : Value) (cells : Array Value) (wc : World) : Prop where
  g : wc.heap[w.heap.size]? = some (.cells zeroC 55 (0, 0))
  o : Obj6 w1 b r x true s A2 n2 c2 vE wc
  p : wc.heap[pb]? = some (.cells cells 55 (0, 0))
theorem Mid6.below {w w1 : World} {b r x pb : Nat} {s : S6} {A2 : Option Addr} {n2 c2 : Nat} {vE : Value} {cells : Array Value} {wc wd : World} (h : Mid6 w w1 b r x pb s A2 n2 c2 vE cells wc) (hb : Below wc.heap.size wc wd) : Mid6 w w1 b r x pb s A2 n2 c2 vE cells wd :=
  ⟨(hb.block _ (lt_of_heap h.g)).trans h.g, h.o.below hb, (hb.block _ (lt_of_heap h.p)).trans h.p⟩
theorem Mid6.drewN {w w1 : World} {b r x pb : Nat} {s : S6} {A2 : Option Addr} {n2 c2 : Nat} {vE : Value} {cells : Array Value} {wc : World} (h : Mid6 w w1 b r x pb s A2 n2 c2 vE cells wc) (m : Nat) : Mid6 w w1 b r x pb s A2 n2 c2 vE cells (wc.drewN m) := ⟨h.g, h.o.drewN m, h.p⟩
set_option maxHeartbeats 4000000 in
set_option maxRecDepth 100000 in
theorem Parse_at {w : World} {A : Option Addr} {n c : Nat} {l : List Int} (hr : (Kd.int .u8).C w A n l) (hc : n ≤ c) (hby : Bytes l) (hn : n ≤ 140737488355000) :
    Calls Try.prog 55 #[.slice A n c] w (IpPost w (parse6 l)) := by
  have hnl : l.length = n := hr.1
  by_cases h40 : n < 40
  · have hp : parse6 l = (zeroV, 2) := by unfold parse6; rw [if_pos (by omega)]
    rw [hp]
    clear hp hr hby hnl
    go_enter Try.func55, Try.ntmps55
    go_wp2_with (refine wpList_store_new rfl 55 (.tmp 2) (.tmp 12) rfl _ zeroC rfl rfl (by kernel_rfl) rfl zeroC_one ?_)
    refine bodyPost_ret (results_cell_tmp rfl _ _ w.heap.size 55 zeroC (0, 0) _ (.int .i64 2) rfl rfl (blk_at rfl) Try.underlying55 rfl (by kernel_rfl)) rfl ?_
    exact fail_post (g := 0) 2 (below_alloc (Below.refl _ _) _)
  · obtain ⟨ad, rfl, a0⟩ := Kd.at_int hr 0 (by omega) (by omega)
    obtain ⟨_, h6, a6⟩ := Kd.at_int hr 6 (by omega) (by omega)
    obtain rfl := Option.some.inj h6
    obtain ⟨_, h7, a7⟩ := Kd.at_int hr 7 (by omega) (by omega)
    obtain rfl := Option.some.inj h7
    rw [show ((0 : Int)).toNat = 0 from rfl, Addr.add_zero'] at a0
    rw [show ((6 : Int)).toNat = 6 from rfl, add_at _ _ (by omega)] at a6
    rw [show ((7 : Int)).toNat = 7 from rfl, add_at _ _ (by omega)] at a7
    have b0 := rd_byte hby 0
    have b6 := rd_byte hby 6
    have b7 := rd_byte hby 7
    have ub := u16_bounds hby 4
    obtain ⟨v0, hv0⟩ : ∃ v, v = rd l 0 := ⟨_, rfl⟩
    obtain ⟨v6, hv6⟩ : ∃ v, v = rd l 6 := ⟨_, rfl⟩
    obtain ⟨v7, hv7⟩ : ∃ v, v = rd l 7 := ⟨_, rfl⟩
    obtain ⟨sz, hsz⟩ : ∃ sz : Nat, u16 l 4 = (sz : Int) := ⟨(u16 l 4).toNat, by omega⟩
    have hp : parse6 l = if v0 / 16 ≠ 6 then (zeroV, 3) else if (n : Int) - 40 < sz then (zeroV, 5) else if v7 = 0 then (zeroV, 26) else end6 l (run6 true 9 ⟨v6, (l.drop 40).take sz, [], false, false, none⟩) := by
      unfold parse6
      rw [if_neg (by omega), hsz, hnl, ← hv0, ← hv6, ← hv7, Int.toNat_natCast]
    rw [hp]
    rw [← hv0] at a0 b0
    rw [← hv6] at a6 b6
    rw [← hv7] at a7 b7
    have h16 : ∀ W, Below w.heap.size w W → W.heap[w.heap.size]? = some (.cells zeroC 55 (0, 0)) → Calls Try.prog 49 #[.slice (some ad) n c, .int .i64 4] W fun e w' => e = .returned (.tuple #[.int .i64 (sz : Int), .bool true]) ∧ Aside0 (Below w.heap.size w w') ∧ Aside0 (w'.heap[w.heap.size]? = some (.cells zeroC 55 (0, 0))) := fun W hW hG => by
      refine (U16_at 4 (Kd.C_below hr hW) hc hby hn (by omega) (by omega)).mono fun e w' h => ?_
      obtain ⟨h1, m, rfl⟩ := h
      rw [hsz] at h1
      exact ⟨h1, ⟨pw_below_drewN hW m⟩, ⟨hG⟩⟩
    have H16 := Aside0.mk h16
    have HR := Aside0.mk (And.intro hr (And.intro hby (And.intro hnl hv7)))
    have hszb : sz ≤ 65535 := by omega
    have hn40 : (40 : Int) ≤ (n : Int) := by omega
    clear h16 hp hsz hv0 hv6 hv7 ub hr hby hnl h40
    by_cases z1 : v0 / 16 ≠ 6
    · rw [if_pos z1]
      have y1 : (v0 / 16 != 6) = true := by simpa using z1
      clear z1
      go_enter Try.func55, Try.ntmps55
      go_wp2_with (fail)
      refine (H16.out _ (below_alloc (Below.refl _ _) _) (blk_at rfl)).mono ?_
      rintro e w1 ⟨rfl, HB, HG⟩
      have c0 := pw_cell_at HB.out a0
      go_wp2_with (refine wpList_store_row rfl 55 (.tmp 2) (.tmp 24) rfl w.heap.size zeroC rfl rfl 55 zeroC HG.out (by kernel_rfl) rfl zeroC_one ?_)
      refine bodyPost_ret (results_cell_tmp rfl _ _ w.heap.size 55 zeroC (0, 0) _ (.int .i64 3) rfl rfl (setRow_heap _ _ _ _ _ _ HG.out) Try.underlying55 rfl (by kernel_rfl)) rfl ?_
      exact fail_post (g := 0) 3 (below_setRow HB.out (Nat.le_refl _) _)
    rw [if_neg z1]
    have y1 : (v0 / 16 != 6) = false := by simpa using z1
    clear z1
    by_cases z2 : (n : Int) - 40 < sz
    · rw [if_pos z2]
      go_enter Try.func55, Try.ntmps55
      go_wp2_with (fail)
      refine (H16.out _ (below_alloc (Below.refl _ _) _) (blk_at rfl)).mono ?_
      rintro e w1 ⟨rfl, HB, HG⟩
      have c0 := pw_cell_at HB.out a0
      go_wp2_with (refine wpList_store_row rfl 55 (.tmp 2) (.tmp 31) rfl w.heap.size zeroC rfl rfl 55 zeroC HG.out (by kernel_rfl) rfl zeroC_one ?_)
      refine bodyPost_ret (results_cell_tmp rfl _ _ w.heap.size 55 zeroC (0, 0) _ (.int .i64 5) rfl rfl (setRow_heap _ _ _ _ _ _ HG.out) Try.underlying55 rfl (by kernel_rfl)) rfl ?_
      exact fail_post (g := 0) 5 (below_setRow HB.out (Nat.le_refl _) _)
    rw [if_neg z2]
    by_cases z3 : v7 = 0
    · rw [if_pos z3]
      have y3 : (v7 == 0) = true := by simpa using z3
      clear z3
      go_enter Try.func55, Try.ntmps55
      go_wp2_with (fail)
      refine (H16.out _ (below_alloc (Below.refl _ _) _) (blk_at rfl)).mono ?_
      rintro e w1 ⟨rfl, HB, HG⟩
      have c0 := pw_cell_at HB.out a0
      have c7 := pw_cell_at HB.out a7
      go_wp2_with (refine wpList_store_row rfl 55 (.tmp 2) (.tmp 37) rfl w.heap.size zeroC rfl rfl 55 zeroC HG.out (by kernel_rfl) rfl zeroC_one ?_)
      refine bodyPost_ret (results_cell_tmp rfl _ _ w.heap.size 55 zeroC (0, 0) _ (.int .i64 26) rfl rfl (setRow_heap _ _ _ _ _ _ HG.out) Try.underlying55 rfl (by kernel_rfl)) rfl ?_
      exact fail_post (g := 0) 26 (below_setRow HB.out (Nat.le_refl _) _)
    rw [if_neg z3]
    have y3 : (v7 == 0) = false := by simpa using z3
    clear z3
    have hszn : (sz : Int) ≤ (n : Int) - 40 := by omega
    clear z2
    obtain ⟨A', hA'⟩ : ∃ A', A' = (if c = 40 then some ad else (some ad).map (·.add (40 * 1))) := ⟨_, rfl⟩
    have hcut : ∀ W : World, (Instr.slice 27 (.slice (some ad) n c) (some (.int .i64 40)) (some (.int .i64 (40 + (sz : Int)))) none).run Try.prog W = .ok (.slice A' sz (c - 40)) W := by
      obtain ⟨i0, hi0, _, hsz0, _⟩ := info_parts info5
      have h := cut_mid (P := Try.prog) 27 5 .i64 .i64 Try.underlying27 hi0 1 hsz0 (some ad) n c 40 (40 + (sz : Int)) (by omega) (by omega) (by omega) hc
      rw [show (40 : Int).toNat = 40 from rfl, show (40 + (sz : Int)).toNat - 40 = sz by omega] at h
      rw [hA']
      exact h
    have hC' : (Kd.int .u8).C w A' sz ((l.drop 40).take sz) := by
      rw [hA']
      exact C_midN HR.out.1 hc 40 sz (by omega)
    obtain ⟨R, hRR⟩ : ∃ R, R = run6 true 9 ⟨v6, (l.drop 40).take sz, [], false, false, none⟩ := ⟨_, rfl⟩
    rw [← hRR]
    have hall : ∀ w1 W : World, Below w.heap.size w w1 → W.heap[w1.heap.size]? = some (.cells (objS ⟨v6, (l.drop 40).take sz, [], false, false, none⟩ true (.slice A' sz (c - 40)) (.slice none 0 0)) 128 (0, 0)) → Below w1.heap.size w1 W → Calls Try.prog 99 #[.pointer (some ⟨w1.heap.size, 0, none⟩)] W fun e w' => e = .returned (.int .i64 R.1) ∧ ∃ r x, Post6 w1 w1.heap.size r x true R w' := fun w1 W hB hO hW => by
      rw [hRR]
      exact all6_at hO rfl rfl (Kd.C_below hC' hB) (by omega) (fun y hy => HR.out.2.1 y (List.mem_of_mem_drop (List.mem_of_mem_take hy))) (by omega) hW (Nat.le_refl _)
    have HALL := Aside0.mk hall
    clear hall hC' hA'
    have hfrb := frag_bounds (stops := true) 9 (s := ⟨v6, (l.drop 40).take sz, [], false, false, none⟩) (fun y hy => HR.out.2.1 y (List.mem_of_mem_drop (List.mem_of_mem_take hy))) (by intro h; cases h)
    rw [← hRR] at hfrb
    clear hRR
    obtain ⟨e, s⟩ := R
    have hwrap : IntKind.i64.wrap (40 + (sz : Int)) = 40 + (sz : Int) := wraps_i64 _ (by omega) (by omega)
    by_cases z4 : e ≠ 0
    · have hend : end6 l (e, s) = (zeroV, e) := by unfold end6; rw [if_pos z4]
      rw [hend]
      have y4 : (e != 0) = true := by simpa using z4
      clear hend z4 hwrap
      go_enter Try.func55, Try.ntmps55
      go_wp2_with (fail)
      refine (H16.out _ (below_alloc (Below.refl _ _) _) (blk_at rfl)).mono ?_
      rintro e1 w1 ⟨rfl, HB, HG⟩
      have c0 := pw_cell_at HB.out a0
      have c6 := pw_cell_at HB.out a6
      have c7 := pw_cell_at HB.out a7
      go_wp2
      go_region
      go_wp2_with (fail)
      refine (HALL.out w1 _ HB.out (by first | exact blk_at rfl | exact blk_drew (blk_at rfl)) (by first | exact below_alloc (Below.refl _ _) _ | exact below_drew (below_alloc (Below.refl _ _) _))).mono ?_
      rintro e2 w2 ⟨rfl, r, x, hB2, hP⟩
      have HG2 := Aside0.mk ((hB2.block _ (lt_of_heap HG.out)).trans HG.out)
      have HB2 := Aside0.mk (below_then HB.out HB.out.size hB2)
      clear hB2 hP
      go_wp2_with (refine wpList_store_row rfl 55 (.tmp 2) (.tmp 52) rfl w.heap.size zeroC rfl rfl 55 zeroC HG2.out (by kernel_rfl) rfl zeroC_one ?_)
      refine bodyPost_ret (results_cell_tmp rfl _ _ w.heap.size 55 zeroC (0, 0) _ (.int .i64 e) rfl rfl (setRow_heap _ _ _ _ _ _ HG2.out) Try.underlying55 rfl (by kernel_rfl)) rfl ?_
      exact fail_post (g := 0) e (below_setRow HB2.out (Nat.le_refl _) _)
    have he : e = 0 := by omega
    subst he
    obtain ⟨fg, hfg⟩ : ∃ fg, fg = s.fr.isSome := ⟨_, rfl⟩
    obtain ⟨fid, hfid⟩ : ∃ fid, fid = (s.fr.getD (0, 0, false)).1 := ⟨_, rfl⟩
    obtain ⟨foff, hfoff⟩ : ∃ foff, foff = (s.fr.getD (0, 0, false)).2.1 := ⟨_, rfl⟩
    obtain ⟨fmore, hfmore⟩ : ∃ fmore, fmore = (s.fr.getD (0, 0, false)).2.2 := ⟨_, rfl⟩
    have hend : end6 l (0, s) = if fmore = true ∧ s.rest.length % 8 ≠ 0 then (zeroV, 5) else if fg = true ∧ 65535 < foff + (s.rest.length : Int) then (zeroV, 11) else if fg = true ∧ foff = 0 ∧ whole6 s.next s.rest = false then (zeroV, 4)
        else (⟨6, addrOf ((l.drop 8).take 16), addrOf ((l.drop 24).take 16), s.next, v7, fg, fid, foff, fmore, s.exts, s.rest⟩, 0) := by
      unfold end6
      rw [if_neg (by simp), hfg, hfid, hfoff, hfmore, HR.out.2.2.2]
    have hpart := objS_part s true
    rw [← hfg, ← hfid, ← hfoff, ← hfmore] at hpart
    have HPART := Aside0.mk hpart
    have HFB := Aside0.mk (show fg = true → 0 ≤ foff ∧ foff ≤ 65535 from fun h => by rw [hfoff]; exact hfrb (by rw [← hfg]; exact h))
    have HEND := Aside0.mk hend
    obtain ⟨RES, hRES⟩ : ∃ RES, RES = end6 l (0, s) := ⟨_, rfl⟩
    rw [← hRES] at HEND ⊢
    clear hpart hend hfg hfid hfoff hfmore hRES z4
    have y4 : ((0 : Int) != 0) = false := rfl
    go_enter Try.func55, Try.ntmps55
    go_wp2_with (fail)
    refine (H16.out _ (below_alloc (Below.refl _ _) _) (blk_at rfl)).mono ?_
    rintro e1 w1 ⟨rfl, HB, HG⟩
    have c0 := pw_cell_at HB.out a0
    have c6 := pw_cell_at HB.out a6
    have c7 := pw_cell_at HB.out a7
    go_wp2
    go_region
    go_wp2_with (fail)
    refine (HALL.out w1 _ HB.out (by first | exact blk_at rfl | exact blk_drew (blk_at rfl)) (by first | exact below_alloc (Below.refl _ _) _ | exact below_drew (below_alloc (Below.refl _ _) _))).mono ?_
    rintro e2 w2 ⟨rfl, r, x, hB2, hP⟩
    obtain ⟨A2, n2, c2, vE, HO, hc2, hby2, hn2⟩ := hP (by first | rfl | trivial)
    obtain ⟨Ae, ce, rfl⟩ := Kd.R_slice HO.hx
    have HG2 := Aside0.mk ((hB2.block _ (lt_of_heap HG.out)).trans HG.out)
    have HO2 := Aside0.mk HO
    have HBY2 := Aside0.mk hby2
    have hlen : s.rest.length = n2 := HO.hr.1
    have HLEN := Aside0.mk hlen
    have HZ := Aside0.mk (And.intro HB.out.size hB2.size)
    clear hP HO hB2 hby2 hlen
    have d0 : w2.cell? ⟨w1.heap.size, 7, none⟩ = some (.int .i64 0) := blk_cell HO2.out.ho 7
    clear d0
    obtain ⟨cells, hcells⟩ : ∃ cells, cells = ipCells (fragV fg fid foff fmore) (.slice none 0 0) (.slice none 0 0) := ⟨_, rfl⟩
    go_upto_region 15 with (first | (refine wpList_load_part rfl 55 (.tmp 56) rfl ⟨w1.heap.size, 7, none⟩ (ipCells (fragV fg fid foff fmore) (.slice none 0 0) (.slice none 0 0)).toList rfl _ (fun j v hj => part_cells HO2.out.ho 7 22 j v (by rw [HPART.out]; exact hj)) Try.underlying55 rfl (by kernel_rfl) ?_) | (refine wpList_store_new rfl 55 (.tmp 8) (.tmp 57) rfl _ (ipCells (fragV fg fid foff fmore) (.slice none 0 0) (.slice none 0 0)) rfl rfl (by kernel_rfl) rfl (ipCells_one _ _ _ _ _ _ _) ?_))
    go_frame
    have M0 := Aside0.mk (show Mid6 w w1 w1.heap.size r x w2.heap.size s A2 n2 c2 (.slice Ae s.exts.length ce) (ipCells (fragV fg fid foff fmore) (.slice none 0 0) (.slice none 0 0)) (w2.alloc (.cells (ipCells (fragV fg fid foff fmore) (.slice none 0 0) (.slice none 0 0)) 55)) from ⟨blk_alloc HG2.out _, HO2.out.below (below_alloc (Below.refl _ _) _), blk_at rfl⟩)
    have hpbz : w1.heap.size < w2.heap.size := lt_of_heap HO2.out.ho
    clear HO2 HG2 HPART hcells cells c0 c6 y1 y3 y4
    generalize w2.alloc (.cells (ipCells (fragV fg fid foff fmore) (.slice none 0 0) (.slice none 0 0)) 55) = w3 at *
    generalize w2.heap.size = pb at *
    have m12 : w3.cell? ⟨pb, 12, none⟩ = some (.bool fmore) := blk_cell M0.out.p 12
    have k1 : w3.cell? ⟨w1.heap.size, 1, none⟩ = some (.slice A2 n2 c2) := blk_cell M0.out.o.ho 1
    obtain ⟨D5, hD5⟩ : ∃ D5, D5 = decide (fmore = true ∧ n2 % 8 ≠ 0) := ⟨_, rfl⟩
    have HD5 := Aside0.mk hD5
    clear hD5
    go_cut [58] (fun v wc => Aside0 (v = .bool D5) ∧ Aside0 (Mid6 w w1 w1.heap.size r x pb s A2 n2 c2 (.slice Ae s.exts.length ce) (ipCells (fragV fg fid foff fmore) (.slice none 0 0) (.slice none 0 0)) wc))
    case first =>
      cases fmore with
      | false =>
        go_wp2
        go_meet
        case rel => exact ⟨⟨by rw [HD5.out]; simp⟩, M0⟩
      | true =>
        by_cases h8 : n2 % 8 = 0
        · have hb : ((n2 : Int) % 8 != 0) = false := by simp; omega
          have HD : Aside0 (D5 = false) := ⟨by rw [HD5.out]; simp [h8]⟩
          clear h8
          go_wp2
          go_meet
          case rel => exact ⟨⟨by rw [HD.out]⟩, M0⟩
        · have hb : ((n2 : Int) % 8 != 0) = true := by simp; omega
          have HD : Aside0 (D5 = true) := ⟨by rw [HD5.out]; simp [h8]⟩
          clear h8
          go_wp2
          go_meet
          case rel => exact ⟨⟨by rw [HD.out]⟩, M0⟩
    case rest =>
      obtain ⟨hv, M1⟩ := hcut
      rw [hv.out]
      clear hv M0 m12 k1
      by_cases q5 : D5 = true
      · subst q5
        have HR5 : Aside0 (RES = (zeroV, 5)) := ⟨by rw [HEND.out, HLEN.out, if_pos (by have := HD5.out.symm; simpa using this)]⟩
        go_wp2_with (refine wpList_store_row rfl 55 (.tmp 2) (.tmp 70) rfl w.heap.size zeroC rfl rfl 55 zeroC M1.out.g (by kernel_rfl) rfl zeroC_one ?_)
        refine bodyPost_ret (results_cell_tmp rfl _ _ w.heap.size 55 zeroC (0, 0) _ (.int .i64 5) rfl rfl (setRow_heap _ _ _ _ _ _ M1.out.g) Try.underlying55 rfl (by kernel_rfl)) rfl ?_
        rw [HR5.out]
        exact fail_post (g := 0) 5 (below_setRow (below_then HB.out HB.out.size M1.out.o.hB) (Nat.le_refl _) _)
      · have q5' : D5 = false := by simpa using q5
        subst q5'
        have HR5 : Aside0 (RES = if fg = true ∧ 65535 < foff + (n2 : Int) then (zeroV, 11) else if fg = true ∧ foff = 0 ∧ whole6 s.next s.rest = false then (zeroV, 4)
            else (⟨6, addrOf ((l.drop 8).take 16), addrOf ((l.drop 24).take 16), s.next, v7, fg, fid, foff, fmore, s.exts, s.rest⟩, 0)) := ⟨by rw [HEND.out, HLEN.out, if_neg (by have := HD5.out.symm; simpa using this)]⟩
        clear HEND HD5 q5
        go_upto_region 17 with (fail)
        have m9 : wc.cell? ⟨pb, 9, none⟩ = some (.bool fg) := blk_cell M1.out.p 9
        have m11 : wc.cell? ⟨pb, 11, none⟩ = some (.int .i64 foff) := blk_cell M1.out.p 11
        have k1 : wc.cell? ⟨w1.heap.size, 1, none⟩ = some (.slice A2 n2 c2) := blk_cell M1.out.o.ho 1
        obtain ⟨DB, hDB⟩ : ∃ DB, DB = decide (fg = true ∧ 65535 < foff + (n2 : Int)) := ⟨_, rfl⟩
        have HDB := Aside0.mk hDB
        clear hDB
        go_cut [71] (fun v wd => Aside0 (v = .bool DB) ∧ Aside0 (Mid6 w w1 w1.heap.size r x pb s A2 n2 c2 (.slice Ae s.exts.length ce) (ipCells (fragV fg fid foff fmore) (.slice none 0 0) (.slice none 0 0)) wd))
        case first =>
          cases fg with
          | false =>
            have HD : Aside0 (DB = false) := ⟨by rw [HDB.out]; simp⟩
            go_quiet (fail)
            go_wp2
            go_meet
            case rel => exact ⟨⟨by rw [HD.out]⟩, ⟨M1.out.drewN _⟩⟩
          | true =>
            have fb : 0 ≤ foff ∧ foff ≤ 65535 := HFB.out rfl
            have hw : IntKind.i64.wrap (foff + (n2 : Int)) = foff + (n2 : Int) := wraps_i64 _ (by omega) (by omega)
            by_cases h8 : 65535 < foff + (n2 : Int)
            · have hb : decide (foff + (n2 : Int) > 65535) = true := by simpa using h8
              have HD : Aside0 (DB = true) := ⟨by rw [HDB.out]; simp [h8]⟩
              clear h8
              go_quiet (fail)
              go_wp2
              go_meet
              case rel => exact ⟨⟨by rw [HD.out]⟩, ⟨M1.out.drewN _⟩⟩
            · have hb : decide (foff + (n2 : Int) > 65535) = false := by simpa using h8
              have HD : Aside0 (DB = false) := ⟨by rw [HDB.out]; simp [h8]⟩
              clear h8
              go_quiet (fail)
              go_wp2
              go_meet
              case rel => exact ⟨⟨by rw [HD.out]⟩, ⟨M1.out.drewN _⟩⟩
        case rest =>
          obtain ⟨hv, M2⟩ := hcut
          rw [hv.out]
          clear hv M1 m9 m11 k1
          by_cases q5 : DB = true
          · subst q5
            have HRB : Aside0 (RES = (zeroV, 11)) := ⟨by rw [HR5.out, if_pos (by have := HDB.out.symm; simpa using this)]⟩
            go_wp2_with (refine wpList_store_row rfl 55 (.tmp 2) (.tmp 85) rfl w.heap.size zeroC rfl rfl 55 zeroC M2.out.g (by kernel_rfl) rfl zeroC_one ?_)
            refine bodyPost_ret (results_cell_tmp rfl _ _ w.heap.size 55 zeroC (0, 0) _ (.int .i64 11) rfl rfl (setRow_heap _ _ _ _ _ _ M2.out.g) Try.underlying55 rfl (by kernel_rfl)) rfl ?_
            rw [HRB.out]
            exact fail_post (g := 0) 11 (below_setRow (below_then HB.out HB.out.size M2.out.o.hB) (Nat.le_refl _) _)
          · have q5' : DB = false := by simpa using q5
            subst q5'
            have HRB : Aside0 (RES = if fg = true ∧ foff = 0 ∧ whole6 s.next s.rest = false then (zeroV, 4)
              else (⟨6, addrOf ((l.drop 8).take 16), addrOf ((l.drop 24).take 16), s.next, v7, fg, fid, foff, fmore, s.exts, s.rest⟩, 0)) := ⟨by rw [HR5.out, if_neg (by have := HDB.out.symm; simpa using this)]⟩
            clear HR5 HDB q5
            go_upto_region 19 with (fail)
            have m9 : wc.cell? ⟨pb, 9, none⟩ = some (.bool fg) := blk_cell M2.out.p 9
            have m11 : wc.cell? ⟨pb, 11, none⟩ = some (.int .i64 foff) := blk_cell M2.out.p 11
            have k0 : wc.cell? ⟨w1.heap.size, 0, none⟩ = some (.int .i64 s.next) := blk_cell M2.out.o.ho 0
            have k1 : wc.cell? ⟨w1.heap.size, 1, none⟩ = some (.slice A2 n2 c2) := blk_cell M2.out.o.ho 1
            obtain ⟨DC, hDC⟩ : ∃ DC, DC = decide (fg = true ∧ foff = 0 ∧ whole6 s.next s.rest = false) := ⟨_, rfl⟩
            have HDC := Aside0.mk hDC
            clear hDC
            go_cut [86] (fun v wd => Aside0 (v = .bool DC) ∧ Aside0 (Mid6 w w1 w1.heap.size r x pb s A2 n2 c2 (.slice Ae s.exts.length ce) (ipCells (fragV fg fid foff fmore) (.slice none 0 0) (.slice none 0 0)) wd))
            case first =>
              cases fg with
              | false =>
                have HD : Aside0 (DC = false) := ⟨by rw [HDC.out]; simp⟩
                go_quiet (fail)
                go_wp2
                go_meet
                case rel => exact ⟨⟨by rw [HD.out]⟩, ⟨M2.out.drewN _⟩⟩
              | true =>
                by_cases h8 : foff = 0
                · have hb : (foff == 0) = true := by simpa using h8
                  obtain ⟨wh, hwh⟩ : ∃ wh, wh = whole6 s.next s.rest := ⟨_, rfl⟩
                  have HD : Aside0 (DC = !wh) := ⟨by rw [HDC.out, hwh]; simp [h8]⟩
                  have hcall : ∀ W, Below w1.heap.size w1 W → Calls Try.prog 101 #[.int .i64 s.next, .slice A2 n2 c2] W fun e w' => e = .returned (.bool wh) ∧ Below W.heap.size W w' := fun W hW => by
                    rw [hwh]
                    exact Whole_at (Kd.C_below M2.out.o.hr hW) hc2 HBY2.out hn2
                  have HCALL := Aside0.mk hcall
                  clear h8 hwh hcall
                  go_still_tail 16, (by kernel_rfl)
                  change wpList _ _ _ _ _ wc.drew
                  have M2' := Aside0.mk (M2.out.drewN 1)
                  go_wp2_with (go_at_call 101; refine (HCALL.out _ (by exact M2'.out.o.hB)).mono ?_; rintro e3 w4 ⟨rfl, hB4⟩; have M3 := Aside0.mk (M2'.out.below hB4); clear hB4)
                  go_meet
                  case rel => exact ⟨⟨by rw [HD.out]⟩, M3⟩
                · have hb : (foff == 0) = false := by simpa using h8
                  have HD : Aside0 (DC = false) := ⟨by rw [HDC.out]; simp [h8]⟩
                  clear h8
                  go_quiet (fail)
                  go_wp2
                  go_meet
                  case rel => exact ⟨⟨by rw [HD.out]⟩, ⟨M2.out.drewN _⟩⟩
            case rest =>
              obtain ⟨hv, M3⟩ := hcut
              rw [hv.out]
              clear hv M2 m9 m11 k0 k1
              by_cases q5 : DC = true
              · subst q5
                have HRC : Aside0 (RES = (zeroV, 4)) := ⟨by rw [HRB.out, if_pos (by have := HDC.out.symm; simpa using this)]⟩
                go_wp2_with (refine wpList_store_row rfl 55 (.tmp 2) (.tmp 106) rfl w.heap.size zeroC rfl rfl 55 zeroC M3.out.g (by kernel_rfl) rfl zeroC_one ?_)
                refine bodyPost_ret (results_cell_tmp rfl _ _ w.heap.size 55 zeroC (0, 0) _ (.int .i64 4) rfl rfl (setRow_heap _ _ _ _ _ _ M3.out.g) Try.underlying55 rfl (by kernel_rfl)) rfl ?_
                rw [HRC.out]
                exact fail_post (g := 0) 4 (below_setRow (below_then HB.out HB.out.size M3.out.o.hB) (Nat.le_refl _) _)
              · have q5' : DC = false := by simpa using q5
                subst q5'
                have HRC : Aside0 (RES = (⟨6, addrOf ((l.drop 8).take 16), addrOf ((l.drop 24).take 16), s.next, v7, fg, fid, foff, fmore, s.exts, s.rest⟩, 0)) := ⟨by rw [HRB.out, if_neg (by have := HDC.out.symm; simpa using this)]⟩
                clear HRB HDC q5
                go_upto_region 21 with (fail)
                have k0 : wc.cell? ⟨w1.heap.size, 0, none⟩ = some (.int .i64 s.next) := blk_cell M3.out.o.ho 0
                have k1 : wc.cell? ⟨w1.heap.size, 1, none⟩ = some (.slice A2 n2 c2) := blk_cell M3.out.o.ho 1
                have k2 : wc.cell? ⟨w1.heap.size, 2, none⟩ = some (.slice Ae s.exts.length ce) := blk_cell M3.out.o.ho 2
                have k7 : wc.cell? ⟨ad.block, ad.off + 7, none⟩ = some (.int .u8 v7) := pw_cell_at M3.out.o.hB c7
                have hv7w : IntKind.i64.wrap v7 = v7 := wraps_i64 _ (by omega) (by omega)
                have hF : ∀ (o : Nat), 0 < o → o + 16 ≤ 40 → ∀ W, Below w.heap.size w W → Calls Try.prog 102 #[.slice (some ⟨ad.block, ad.off + o, none⟩) 16 (c - o)] W fun e w' => e = .returned (.tuple #[.agg #[.int .i64 (fromA ((l.drop o).take 16)).1, .int .u64 (fromA ((l.drop o).take 16)).2.1, .int .u64 (fromA ((l.drop o).take 16)).2.2.1], .int .i64 (fromA ((l.drop o).take 16)).2.2.2]) ∧ Below W.heap.size W w' := fun o ho ho2 W hW => by
                  have h := C_midN HR.out.1 hc o 16 (by omega)
                  rw [if_neg (by omega), Option.map_some, Nat.mul_one, add_at _ _ ho] at h
                  exact From_at (Kd.C_below h hW) (by omega) (fun y hy => HR.out.2.1 y (List.mem_of_mem_drop (List.mem_of_mem_take hy)))
                have hF8 := hF 8 (by omega) (by omega)
                have hF24 := hF 24 (by omega) (by omega)
                have e1 : w1.heap.size ≠ pb := by omega
                have e2 : ad.block ≠ pb := by
                  have h1 := C_block HR.out.1 (by omega)
                  have h2 := HZ.out.1
                  omega
                have l1 := lt_of_heap M3.out.o.ho
                have l2 : ad.block < wc.heap.size := by
                  have h1 := C_block HR.out.1 (by omega)
                  have h2 := HZ.out.1
                  omega
                go_cut [] (fun wd => ∃ Ad cd, Aside0 (Mid7 w pb s (.slice Ae s.exts.length ce) (.slice Ad n2 cd) (ipCells ⟨6, (0, 0, 0), (0, 0, 0), s.next, v7, fg, fid, foff, fmore, [], []⟩ (.slice Ae s.exts.length ce) (.slice Ad n2 cd)) wd))
                case first =>
                  have q7 : (7 : Int) < (n : Int) := by omega
                  have kd0 : wc.drew.cell? ⟨w1.heap.size, 0, none⟩ = some (.int .i64 s.next) := k0
                  have kd1 : wc.drew.cell? ⟨w1.heap.size, 1, none⟩ = some (.slice A2 n2 c2) := k1
                  have kd2 : wc.drew.cell? ⟨w1.heap.size, 2, none⟩ = some (.slice Ae s.exts.length ce) := k2
                  have kd7 : wc.drew.cell? ⟨ad.block, ad.off + 7, none⟩ = some (.int .u8 v7) := k7
                  clear hF hF8 hF24 hcut hwrap H16 HALL HRC HFB hfrb HBY2 b0 b6 b7 a0 a6 a7 hszb hszn HG c7
                  go_region_held3 (fun w' => w'.cell? ⟨w1.heap.size, 0, none⟩ = some (.int .i64 s.next) ∧ w'.cell? ⟨w1.heap.size, 1, none⟩ = some (.slice A2 n2 c2) ∧ w'.cell? ⟨w1.heap.size, 2, none⟩ = some (.slice Ae s.exts.length ce) ∧ w'.cell? ⟨ad.block, ad.off + 7, none⟩ = some (.int .u8 v7))
                    (first | with_reducible exact ⟨t0, t1, t2, t7⟩ | with_reducible exact ⟨kd0, kd1, kd2, kd7⟩ | (go_split_ands; with_reducible exact keep_set4 e1 e1 e1 e2 (by with_reducible assumption) (by with_reducible assumption) (by with_reducible assumption) (by with_reducible assumption)))
                    ((go_at_call 98; refine (Clone_at (w := wc.drew) (C_drewN (Kd.C_below M3.out.o.hr M3.out.o.hB) 1) hc2 (by omega)).mono ?_; rintro e4 w4 ⟨vD, rfl, hD, hB4⟩; have hpre := M3.out.drewN 1; have M4 := Aside0.mk (hpre.below hB4); have t0 := pw_cell_at (w := wc.drew) hB4 k0; have t1 := pw_cell_at (w := wc.drew) hB4 k1; have t2 := pw_cell_at (w := wc.drew) hB4 k2; have t7 := pw_cell_at (w := wc.drew) hB4 k7; obtain ⟨Ad, cd, hvD⟩ := Kd.R_slice hD; rw [HLEN.out] at hvD; have HD := Aside0.mk hD; rw [hvD] at HD ⊢; clear hD hB4 hvD hpre; have p0 : w4.cell? ⟨pb, 0, none⟩ = some (.int .i64 0) := blk_cell M4.out.p 0; have p7 : w4.cell? ⟨pb, 7, none⟩ = some (.int .i64 0) := blk_cell M4.out.p 7; have p8 : w4.cell? ⟨pb, 8, none⟩ = some (.int .i64 0) := blk_cell M4.out.p 8; have p13 : w4.cell? ⟨pb, 13, none⟩ = some (.slice none 0 0) := blk_cell M4.out.p 13; have p14 : w4.cell? ⟨pb, 14, none⟩ = some (.slice none 0 0) := blk_cell M4.out.p 14; have f0 := blk_unfrozen M4.out.p 0; have f7 := blk_unfrozen M4.out.p 7; have f8 := blk_unfrozen M4.out.p 8; have f13 := blk_unfrozen M4.out.p 13; have f14 := blk_unfrozen M4.out.p 14))
                  go_wp2
                  go_meet
                  case rel =>
                    try rw [hv7w]
                    have M7 : Mid7 w pb s (.slice Ae s.exts.length ce) (.slice Ad n2 cd) (ipCells (fragV fg fid foff fmore) (.slice none 0 0) (.slice none 0 0)) w4 :=
                      ⟨M4.out.g, M4.out.p, by have := HZ.out; omega, Kd.R_mono (Kd.R_lower M4.out.o.hx HB.out.size) (fun _ _ => trivial), Kd.R_lower HD.out (Nat.le_trans HB.out.size M3.out.o.hB.size), below_then HB.out HB.out.size M4.out.o.hB⟩
                    exact ⟨Ad, cd, ⟨((((M7.set 0 _).set 7 _).set 8 _).set 13 _).set 14 _⟩⟩
                case rest =>
                  obtain ⟨Ad, cd, M7⟩ := hcut
                  have h8 := hF8 _ M7.out.hB
                  have HF24 := Aside0.mk hF24
                  clear k0 k1 k2 k7 e1 e2 l1 l2 M3 c7 hF24
                  go_wp2_with (fail)
                  refine h8.mono ?_
                  rintro e5 w5 ⟨rfl, hB5⟩
                  have M8 := Aside0.mk (M7.out.below hB5)
                  have p1 : w5.cell? ⟨pb, 1, none⟩ = some (.int .i64 0) := blk_cell M8.out.p 1
                  have p2 : w5.cell? ⟨pb, 2, none⟩ = some (.int .u64 0) := blk_cell M8.out.p 2
                  have p3 : w5.cell? ⟨pb, 3, none⟩ = some (.int .u64 0) := blk_cell M8.out.p 3
                  have f1 := blk_unfrozen M8.out.p 1
                  have f2 := blk_unfrozen M8.out.p 2
                  have f3 := blk_unfrozen M8.out.p 3
                  clear hB5 h8 M7
                  go_wp2_with (fail)
                  have M9 := Aside0.mk (((M8.out.set 1 (.int .i64 (fromA ((l.drop 8).take 16)).1)).set 2 (.int .u64 (fromA ((l.drop 8).take 16)).2.1)).set 3 (.int .u64 (fromA ((l.drop 8).take 16)).2.2.1))
                  refine (HF24.out _ M9.out.hB).mono ?_
                  rintro e6 w6 ⟨rfl, hB6⟩
                  have M10 := Aside0.mk (M9.out.below hB6)
                  have p1 : w6.cell? ⟨pb, 4, none⟩ = some (.int .i64 0) := blk_cell M10.out.p 4
                  have p2 : w6.cell? ⟨pb, 5, none⟩ = some (.int .u64 0) := blk_cell M10.out.p 5
                  have p3 : w6.cell? ⟨pb, 6, none⟩ = some (.int .u64 0) := blk_cell M10.out.p 6
                  have f1 := blk_unfrozen M10.out.p 4
                  have f2 := blk_unfrozen M10.out.p 5
                  have f3 := blk_unfrozen M10.out.p 6
                  clear hB6 M8 M9
                  go_upto_region 24 with (fail)
                  have M11 := Aside0.mk (((M10.out.set 4 (.int .i64 (fromA ((l.drop 24).take 16)).1)).set 5 (.int .u64 (fromA ((l.drop 24).take 16)).2.1)).set 6 (.int .u64 (fromA ((l.drop 24).take 16)).2.2.1))
                  try go_frame
                  clear p1 p2 p3 f1 f2 f3 M10
                  generalize ((w6.setCell ⟨pb, 4, none⟩ (.int .i64 (fromA ((l.drop 24).take 16)).1)).setCell ⟨pb, 5, none⟩ (.int .u64 (fromA ((l.drop 24).take 16)).2.1)).setCell ⟨pb, 6, none⟩ (.int .u64 (fromA ((l.drop 24).take 16)).2.2.1) = w7 at *
                  have M12 : Aside0 (Mid7 w pb s (.slice Ae s.exts.length ce) (.slice Ad n2 cd) (ipCells ⟨6, addrOf ((l.drop 8).take 16), addrOf ((l.drop 24).take 16), s.next, v7, fg, fid, foff, fmore, s.exts, s.rest⟩ (.slice Ae s.exts.length ce) (.slice Ad n2 cd)) w7) := M11
                  clear M11
                  go_wp2_with (first | (refine wpList_load_row rfl 55 (.tmp 8) rfl pb rfl 55 _ (0, 0) _ M12.out.p Try.underlying55 rfl (by kernel_rfl) ?_) | (refine wpList_store_row rfl 55 (.tmp 2) (.tmp 143) rfl w.heap.size (ipCells ⟨6, addrOf ((l.drop 8).take 16), addrOf ((l.drop 24).take 16), s.next, v7, fg, fid, foff, fmore, s.exts, s.rest⟩ (.slice Ae s.exts.length ce) (.slice Ad n2 cd)) rfl rfl 55 zeroC M12.out.g (by kernel_rfl) rfl (ipCells_one _ _ _ _ _ _ _) ?_))
                  refine bodyPost_ret (results_cell_tmp rfl _ _ w.heap.size 55 _ (0, 0) _ (.int .i64 0) rfl rfl (setRow_heap _ _ _ _ _ _ M12.out.g) Try.underlying55 rfl (by kernel_rfl)) rfl ?_
                  have hd := M12.out.done (r := RES) (cs := ipCells ⟨6, addrOf ((l.drop 8).take 16), addrOf ((l.drop 24).take 16), s.next, v7, fg, fid, foff, fmore, s.exts, s.rest⟩ (.slice Ae s.exts.length ce) (.slice Ad n2 cd)) (by rw [HRC.out]; exact ⟨rfl, rfl⟩) (by rw [HRC.out])
                  rw [HRC.out] at hd ⊢
                  exact hd
section
variable {w w1 wc wd : World} {b pb : Nat} {d : List Int} {A : Option Addr} {n c p : Nat} {s : S6} {vE : Value} {cells : Array Value}
end
end Go.Proofs.Ytgifcmbknkjemaa.Own
end
