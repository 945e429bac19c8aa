/- What the law Ip6Back rests on, part 14: contracts of the functions that it calls, and plain lemmas. No condition. -/
import Derived.Test.YtgifcmbknkjemaaZIp6Back13
import Derived.Deep.WholeRow
section
namespace Go.Proofs.Ytgifcmbknkjemaa.Own
open Go Go.RowKit
theorem wpList_store_new {P : Program} {ops : Array Oper} {rest : List Oper} {o : Oper} {a : Act} {W : World} {Q : Exit → Act → World → Prop} (hgd : o.guard = none) (ty : TypeId) (x y : Operand) (ho : o.op = .store ty x y)
    (c cells : Array Value) (hx : a.eval x = .pointer (some ⟨W.heap.size, 0, none⟩)) (hy : a.eval y = .agg cells) (hi : (P.info? ty).map (·.size) = some cells.size)
    (hold : c.size = cells.size) (h1 : cells.all (·.oneCell') = true)
    (h : wpList P ops Q rest (a.put o.dst undef) (W.alloc (.cells cells ty))) : wpList P ops Q (o :: rest) a (W.alloc (.cells c ty)) := by
  rw [← World.setRow_alloc_new W c cells ty] at h
  exact wpList_store_row hgd ty x y ho W.heap.size cells hx hy ty c (heap_alloc_last W _) hi hold h1 h
theorem run_loadVar_part {P : Program} (w : World) (a : Addr) (ty : TypeId) (cs : List Value) (d : TypeDesc) (h : ∀ j v, cs[j]? = some v → w.cell? (a.add j) = some v)
    (hu : P.underlying ty = some d) (hd : (match d with | .struct _ | .array _ _ => true | _ => false) = true) (hi : (P.info? ty).map (·.size) = some cs.length) :
    (loadVar ty a).run P w = .ok (.agg cs.toArray) w := by
  have hl := run_loadCells_list (P := P) w a cs h
  cases hq : P.info? ty with
  | none => simp [hq] at hi
  | some i =>
    have hs : i.size = cs.length := by simpa [hq] using hi
    have hagg : (isAgg ty).run P w = .ok true w := by
      unfold isAgg
      rw [Sem.run_bind, run_underlying hu w]
      cases d <;> simp_all
    simp [loadVar, Sem.run_bind, hagg, sizeOf, typeInfo, hq, hs, hl]
theorem wpList_load_part {P : Program} {ops : Array Oper} {rest : List Oper} {o : Oper} {a : Act} {w : World} {Q : Exit → Act → World → Prop} (hgd : o.guard = none) (ty : TypeId) (x : Operand) (ho : o.op = .load ty x)
    (ad : Addr) (cs : List Value) (hx : a.eval x = .pointer (some ad)) (d : TypeDesc) (h : ∀ j v, cs[j]? = some v → w.cell? (ad.add j) = some v)
    (hu : P.underlying ty = some d) (hd : (match d with | .struct _ | .array _ _ => true | _ => false) = true) (hi : (P.info? ty).map (·.size) = some cs.length)
    (hk : wpList P ops Q rest (a.put o.dst (.agg cs.toArray)) w) : wpList P ops Q (o :: rest) a w := by
  refine wpList_plain hgd fun K hK => ?_
  unfold Oper.wp execOp
  simp only [ho, hx, Instr.loadAt, Instr.sureAddr, Sem.run_bind, Sem.run_pure, Result.andThen_ok, run_loadVar_part w ad ty cs d h hu hd hi]
  exact hK _ _ hk
theorem results_cell_tmp {P : Program} {fn : Func} {p q : Tmp} {ty : TypeId} (h : fn.results = #[.cell p ty, .tmp q]) (tmps : Array Value) (w : World) (g : Nat) (t : TypeId) (cs : Array Value) (fr : Nat × Nat) (d : TypeDesc) (v2 : Value)
    (hp : tmps.getD p undef = .pointer (some ⟨g, 0, none⟩)) (hq : tmps.getD q undef = v2) (hg : w.heap[g]? = some (.cells cs t fr))
    (hu : P.underlying ty = some d) (hd : (match d with | .struct _ | .array _ _ => true | _ => false) = true) (hi : (P.info? ty).map (·.size) = some cs.size) :
    (results fn tmps).run P w = .ok (.tuple #[.agg cs, v2]) w := by
  have hp' : tmps[p]?.getD undef = .pointer (some ⟨g, 0, none⟩) := by simpa using hp
  have hq' : tmps[q]?.getD undef = v2 := by simpa using hq
  simp [results, h, hp', hq', asAddr, run_loadVar_row w g t ty cs fr d hg hu hd hi]
end Go.Proofs.Ytgifcmbknkjemaa.Own
end
section
namespace Go.Proofs.Ytgifcmbknkjemaa.Own
open Go Go.RowKit Go.Proofs.YtgifcmbknkjemaaW.PrintWords Go.Proofs.YtgifcmbknkjemaaW.PrintLast Go.Proofs.YtgifcmbknkjemaaW.PrintMore
set_option linter.unusedVariables false
set_option linter.unusedSimpArgs false
theorem run6_one {stops : Bool} {k : Nat} {s : S6} (hf : s.fr = none) (hk : isExt s.next = true) :
    run6 stops (k + 1) s = if (one6 stops s).1 ≠ 0 then ((one6 stops s).1, s) else run6 stops k (next6 stops s (size6 s.next s.rest).1.toNat) := by
  have h0 : ¬ (s.fr.isSome = true ∨ isExt s.next = false) := by rw [hf, hk]; simp
  unfold one6
  simp only [run6]
  rw [if_neg h0]
  by_cases h1 : 8 ≤ s.exts.length
  · rw [if_pos h1, if_pos h1, if_pos (by simp)]
  · rw [if_neg h1, if_neg h1]
    by_cases h2 : (size6 s.next s.rest).2 = false
    · rw [if_pos h2, if_pos h2, if_pos (by simp)]
    · rw [if_neg h2, if_neg h2]
      by_cases h3 : look6 s (s.rest.take (size6 s.next s.rest).1.toNat) ≠ 0
      · rw [if_pos h3, if_pos h3, if_pos h3]
      · rw [if_neg h3, if_neg h3, if_neg (by simp)]
theorem one6_over {stops : Bool} {s : S6} (h : (one6 stops s).1 ≠ 0) : (one6 stops s).2 = true := by
  unfold one6 at h ⊢
  by_cases h1 : 8 ≤ s.exts.length
  · rw [if_pos h1]
  · rw [if_neg h1] at h ⊢
    by_cases h2 : (size6 s.next s.rest).2 = false
    · rw [if_pos h2]
    · rw [if_neg h2] at h ⊢
      by_cases h3 : look6 s (s.rest.take (size6 s.next s.rest).1.toNat) ≠ 0
      · rw [if_pos h3]
      · rw [if_neg h3] at h
        exact absurd rfl h
theorem one6_few {stops : Bool} {s : S6} (h : (one6 stops s).1 = 0) : s.exts.length < 8 ∧ (one6 stops s).2 = (next6 stops s (size6 s.next s.rest).1.toNat).fr.isSome := by
  unfold one6 at h ⊢
  by_cases h1 : 8 ≤ s.exts.length
  · rw [if_pos h1] at h; simp at h
  · rw [if_neg h1] at h ⊢
    refine ⟨by omega, ?_⟩
    by_cases h2 : (size6 s.next s.rest).2 = false
    · rw [if_pos h2] at h; simp at h
    · rw [if_neg h2] at h ⊢
      by_cases h3 : look6 s (s.rest.take (size6 s.next s.rest).1.toNat) ≠ 0
      · rw [if_pos h3] at h
        exact absurd h h3
      · rw [if_neg h3]
structure AtR (w0 : World) (b : Nat) (stops : Bool) (d : List Int) (A : Option Addr) (n c : Nat) (R : Int × S6) (k : Nat) (s : S6) (p : Nat) (vE : Value) (wr : World) : Prop where
  run : run6 stops k s = R
  many : 9 ≤ k + s.exts.length
  few : s.exts.length ≤ 8
  fr : s.fr = none
  o : ObjR w0 b stops d A n c p s vE wr
def PostR (w0 : World) (b : Nat) (stops : Bool) (d : List Int) (A : Option Addr) (n c : Nat) (R : Int × S6) (e : Ending) (w' : World) : Prop :=
  e = .returned (.int .i64 R.1) ∧ Below w0.heap.size w0 w' ∧ (R.1 = 0 → ∃ p vE, ObjR w0 b stops d A n c p R.2 vE w')
set_option maxHeartbeats 4000000 in
set_option maxRecDepth 100000 in
theorem rall_at {w0 w : World} {b : Nat} {stops : Bool} {d : List Int} {s : S6} {A : Option Addr} {n c p : Nat} (HO : ObjR w0 b stops d A n c p s (.slice none 0 0) w) (hs : s.fr = none) (hex : s.exts = []) (hc : n ≤ c) (hby : Bytes d) (hn : n ≤ 140737488355000) (hbb : w0.heap.size ≤ b) :
    Calls Try.prog 100 #[.pointer (some ⟨b, 0, none⟩)] w (PostR w0 b stops d A n c (run6 stops 9 s)) := by
  obtain ⟨R, hR⟩ : ∃ R, R = run6 stops 9 s := ⟨_, rfl⟩
  have A0 := Aside0.mk (show AtR w0 b stops d A n c R 9 s p (.slice none 0 0) w from ⟨hR.symm, by omega, by rw [hex]; exact Nat.zero_le _, hs, HO⟩)
  rw [← hR]
  clear hR HO hs hex
  go_enter Try.func100, Try.ntmps100
  go_wp2_with (fail)
  go_loopg [] 9 (fun kq wr => ∃ s p vE, Aside0 (AtR w0 b stops d A n c R kq s p vE wr))
  case atStart => exact ⟨_, _, _, A0⟩
  case round =>
    clear A0
    obtain ⟨s, p, vE, HA⟩ := hrel
    have c0 : wr.cell? ⟨b, 0, none⟩ = some (.int .i64 s.next) := blk_cell HA.out.o.ho 0
    have hsz := HA.out.o.hB.size
    have hfew := HA.out.few
    have hmany := HA.out.many
    cases gk with
    | zero => exact absurd hmany (by omega)
    | succ k =>
      have H := HA.out.run
      by_cases z : isExt s.next = true
      · rw [run6_one HA.out.fr z] at H
        have hone := one_at HA.out.o hbb hc hby hn z HA.out.fr
        obtain ⟨e, o, heo⟩ : ∃ e o, one6 stops s = (e, o) := ⟨_, _, rfl⟩
        have hover := @one6_over stops s
        have hfw := @one6_few stops s
        have hone' : Calls Try.prog 146 #[.pointer (some ⟨b, 0, none⟩)] wr fun e' w' => e' = .returned (.tuple #[.int .i64 e, .bool o]) ∧ Aside0 (Below w0.heap.size w0 w') ∧ Aside0 (e = 0 → ∃ p vE, ObjR w0 b stops d A n c p (next6 stops s (size6 s.next s.rest).1.toNat) vE w') := by
          refine hone.mono fun e' w' h => ?_
          obtain ⟨h1, h2, h3⟩ := h
          rw [heo] at h1 h3
          exact ⟨h1, ⟨h2⟩, ⟨h3⟩⟩
        rw [heo] at H hover hfw
        have HONE := Aside0.mk hone'
        have hext : ∀ W, Calls Try.prog 78 #[.int .i64 s.next] W fun e w' => e = .returned (.bool true) ∧ W = w' := fun W => by rw [← z]; exact IsExt_at _ W
        have HEXT := Aside0.mk hext
        have HH := Aside0.mk H
        have HF := Aside0.mk hfw
        clear hone hone' hext H hfw heo z
        by_cases ze : e = 0
        · subst ze
          cases o with
          | true =>
            clear hover
            go_wp2_with (first | (go_at_call 78; refine (HEXT.out _).mono ?_; rintro e w' ⟨rfl, rfl⟩) | (go_at_call 146; refine HONE.out.mono ?_; rintro e w' ⟨rfl, hB, hO⟩))
            go_ret
            obtain ⟨h8, hfr⟩ := HF.out (by first | rfl | trivial)
            have hRR : R = (0, next6 stops s (size6 s.next s.rest).1.toNat) := by
              have h1 := HH.out
              rw [if_neg (by simp)] at h1
              obtain ⟨k', rfl⟩ : ∃ k', k = k' + 1 := ⟨k - 1, by omega⟩
              rw [← h1]
              simp only [run6]
              rw [if_pos (.inl hfr.symm)]
            obtain ⟨p', vE', hO'⟩ := hO.out (by first | rfl | trivial)
            exact ⟨by rw [hRR]; rfl, hB.out, fun _ => ⟨p', vE', by rw [hRR]; exact hO'⟩⟩
          | false =>
            clear hover
            go_wp2_with (first | (go_at_call 78; refine (HEXT.out _).mono ?_; rintro e w' ⟨rfl, rfl⟩) | (go_at_call 146; refine HONE.out.mono ?_; rintro e w' ⟨rfl, hB, hO⟩))
            go_roundg k
            case measure => omega
            case rel =>
              obtain ⟨h8, hfr⟩ := HF.out (by first | rfl | trivial)
              obtain ⟨p', vE', hO'⟩ := hO.out (by first | rfl | trivial)
              have h1 := HH.out
              rw [if_neg (by simp)] at h1
              refine ⟨_, p', vE', ⟨h1, ?_, ?_, ?_, hO'⟩⟩
              · show 9 ≤ k + (s.exts ++ [s.next]).length
                rw [List.length_append, List.length_singleton]
                omega
              · show (s.exts ++ [s.next]).length ≤ 8
                rw [List.length_append, List.length_singleton]
                omega
              · have h2 : (next6 stops s (size6 s.next s.rest).1.toNat).fr.isSome = false := hfr.symm
                simpa using h2
        · have ho : o = true := hover ze
          subst ho
          have HE := Aside0.mk ze
          clear hover ze
          go_wp2_with (first | (go_at_call 78; refine (HEXT.out _).mono ?_; rintro e w' ⟨rfl, rfl⟩) | (go_at_call 146; refine HONE.out.mono ?_; rintro e w' ⟨rfl, hB, hO⟩))
          go_ret
          have h1 := HH.out
          rw [if_pos HE.out] at h1
          exact ⟨by rw [← h1]; rfl, hB.out, fun h => by rw [← h1] at h; exact absurd h HE.out⟩
      · have z' : isExt s.next = false := by simpa using z
        have hext : ∀ W, Calls Try.prog 78 #[.int .i64 s.next] W fun e w' => e = .returned (.bool false) ∧ W = w' := fun W => by rw [← z']; exact IsExt_at _ W
        have HEXT := Aside0.mk hext
        simp only [run6] at H
        rw [if_pos (.inr z')] at H
        have HH := Aside0.mk H
        clear hext H z z'
        go_wp2_with (go_at_call 78; refine (HEXT.out _).mono ?_; rintro e w' ⟨rfl, rfl⟩)
        go_ret
        exact ⟨by rw [← HH.out]; rfl, HA.out.o.hB, fun _ => ⟨p, vE, by rw [← HH.out]; exact HA.out.o⟩⟩
theorem objR_one (s : S6) (stops : Bool) (p : Nat) (A B : Option Addr) (n c m d : Nat) : (objR s stops p (.slice A n c) (.slice B m d)).all (·.oneCell') = true := by simp [objR, Value.oneCell']
set_option maxHeartbeats 2000000 in
set_option maxRecDepth 100000 in
theorem rWalk_at {w : World} {next : Int} {A : Option Addr} {n c : Nat} {l : List Int} (hr : (Kd.int .u8).C w A n l) (hc : n ≤ c) (hby : Bytes l) (hn : n ≤ 140737488355000) :
    Calls Try.prog 52 #[.int .i64 next, .slice A n c] w (Walk6Post w (walk6 next l)) := by
  obtain ⟨R, hR⟩ : ∃ R, R = run6 false 9 ⟨next, l, [], true, true, none⟩ := ⟨_, rfl⟩
  have hW : walk6 next l = if R.1 = 0 then (R.2.next, R.2.exts, R.2.rest, 0) else (0, [], [], R.1) := by rw [hR]; rfl
  rw [hW]
  have hall : ∀ W : World, W.heap[w.heap.size]? = some (.cells (objR ⟨next, l, [], true, true, none⟩ false 0 (.slice A n c) (.slice none 0 0)) 131 (0, 0)) → Below w.heap.size w W → Calls Try.prog 100 #[.pointer (some ⟨w.heap.size, 0, none⟩)] W (PostR w w.heap.size false l A n c R) := fun W h1 h2 => by
    rw [hR]
    exact rall_at (p := 0) ⟨h1, hr, rfl, Nat.zero_le _, Kd.R_nil _ _ _ _ _, h2⟩ rfl rfl hc hby hn (Nat.le_refl _)
  have HALL := Aside0.mk hall
  clear hall hW hR hr hby
  obtain ⟨e, s⟩ := R
  by_cases h : e = 0
  · subst h
    go_enter Try.func52, Try.ntmps52
    go_wp2_with (first | (refine wpList_store_new rfl 131 (.tmp 8) (.tmp 12) rfl _ (objR ⟨next, l, [], true, true, none⟩ false 0 (.slice A n c) (.slice none 0 0)) rfl rfl (by kernel_rfl) rfl (objR_one _ _ _ _ _ _ _ _ _) ?_) | (go_at_call 100; refine (HALL.out _ (blk_at rfl) (below_alloc (Below.refl _ _) _)).mono ?_; rintro e w1 ⟨rfl, hB, hP⟩))
    obtain ⟨p, vE, HO⟩ := hP (by first | rfl | trivial)
    obtain ⟨Ae, ce, rfl⟩ := Kd.R_slice HO.hx
    have k0 : w1.cell? ⟨w.heap.size, 0, none⟩ = some (.int .i64 s.next) := blk_cell HO.ho 0
    have k1 : w1.cell? ⟨w.heap.size, 1, none⟩ = some (.int .i64 p) := blk_cell HO.ho 1
    have k3 : w1.cell? ⟨w.heap.size, 3, none⟩ = some (.slice Ae s.exts.length ce) := blk_cell HO.ho 3
    have hz := HO.hB.size
    have hlt := lt_of_heap HO.ho
    have hp := HO.hp
    have hn0 : l.length = n := HO.hr.1
    obtain ⟨A', hA'⟩ : ∃ A', A' = (if c = p then A else A.map (·.add (p * 1))) := ⟨_, rfl⟩
    have hcut : ∀ W : World, (Instr.slice 27 (.slice A n c) (some (.int .i64 (p : Int))) none none).run Try.prog W = .ok (.slice A' (n - p) (c - p)) W := by
      obtain ⟨i0, hi0, _, hsz0, _⟩ := info_parts info5
      have h := cut_from (P := Try.prog) 27 5 .i64 Try.underlying27 hi0 1 hsz0 A n c (p : Int) (by omega) (by omega)
      simp only [Int.toNat_natCast] at h
      rw [hA']
      exact h
    have hC' : (Kd.int .u8).C w A' (n - p) s.rest := by
      have h := Kd.C_drop (c := c) (m := p) (show (Kd.int .u8).C w A l.length l by rw [hn0]; exact HO.hr) (by omega) (by omega)
      rw [List.length_drop, hn0] at h
      rw [hA', HO.hs]
      exact h
    have HC' := Aside0.mk hC'
    have HH := Aside0.mk HO
    clear HO hP hB HALL hA' hC' hn0
    go_wp2
    go_region_law (refine Kd.R_append_rows_step (Kd.int .u8) (w0 := w) (W := w1.drew) w.heap.size ?hw (.const (.slice none 0 0)) (.tmp 24) 27 5 (.int .u8 0) 1 rfl Try.underlying27 info5 rfl (by decide) (by omega) (.slice none 0 0) [] s.rest A' (n - p) (c - p) (fun k => k ≠ w.heap.size) (fun _ => False) rfl rfl ?hO ?hR (fun _ _ h => h) (fun _ h => h.elim) ?hfresh ?hB ?hbase ?hl ?_; (case hw => rfl); (case hO => exact Kd.R_nil _ _ _ _ _); (case hR => exact C_drewN (Kd.C_below HC'.out HH.out.hB) 1); (case hfresh => intro k hk; have : w1.heap.size ≤ k := hk; omega); (case hB => exact HH.out.drew.hB); (case hbase => exact hz); (case hl => have := List.length_nil (α := Int); omega); intro v1 w2 hx2 hB2 hg2 _; have g0 : w2.cell? ⟨w.heap.size, 0, none⟩ = some (.int .i64 s.next) := blk_cell ((hg2.block _ hlt (by simp [Value.ownBlock])).trans HH.out.ho) 0; have g3 : w2.cell? ⟨w.heap.size, 3, none⟩ = some (.slice Ae s.exts.length ce) := blk_cell ((hg2.block _ hlt (by simp [Value.ownBlock])).trans HH.out.ho) 3; have HX := Aside0.mk hx2; have HB2 := Aside0.mk hB2; have HE := Aside0.mk (Kd.R_grown HH.out.drew.hx hg2 (fun k _ => by simp [Value.ownBlock])); clear hx2 hB2 hg2)
    all_goals
      go_wp2
      refine bodyPost_ret (v := .tuple #[.int .i64 s.next, .slice Ae s.exts.length ce, v1, .int .i64 0]) (by simp [results, Try.results52, go_sem]) rfl ?_
      exact ⟨_, _, rfl, Kd.R_mono HE.out (fun _ _ => trivial), Kd.R_mono (by simpa using HX.out) (fun _ _ => trivial), HB2.out⟩
  · have hb : (e != 0) = true := by simpa using h
    rw [if_neg h]
    go_enter Try.func52, Try.ntmps52
    go_wp2_with (first | (refine wpList_store_new rfl 131 (.tmp 8) (.tmp 12) rfl _ (objR ⟨next, l, [], true, true, none⟩ false 0 (.slice A n c) (.slice none 0 0)) rfl rfl (by kernel_rfl) rfl (objR_one _ _ _ _ _ _ _ _ _) ?_) | (go_at_call 100; refine (HALL.out _ (blk_at rfl) (below_alloc (Below.refl _ _) _)).mono ?_; rintro e w1 ⟨rfl, hB, hP⟩))
    refine bodyPost_ret (v := .tuple #[.int .i64 0, .slice none 0 0, .slice none 0 0, .int .i64 e]) (by simp [results, Try.results52, go_sem]) rfl ?_
    exact ⟨_, _, rfl, Kd.R_nil _ _ _ _ _, Kd.R_nil _ _ _ _ _, hB⟩
end Go.Proofs.Ytgifcmbknkjemaa.Own
end
section
namespace Go.Proofs.Ytgifcmbknkjemaa.GA
open Go.RowKit Go.Proofs.YtgifcmbknkjemaaW.PrintWords Go.Proofs.YtgifcmbknkjemaaW.PrintLast Go.Proofs.YtgifcmbknkjemaaW.PrintMore
attribute [local go_sem] max2_int min2_int max_two min_two max_three min_three max_four min_four   -- for this text's walks alone
set_option linter.unusedVariables false
set_option linter.unusedSimpArgs false
def errW : Option Int → Value
  | none => .nilIface
  | some c => .iface 0 (.int .i64 c)
theorem errW_none : errW none = .nilIface := rfl
theorem errW_some (c : Int) : errW (some c) = .iface 0 (.int .i64 c) := rfl
theorem info5 : (Try.prog.info? 5).map (fun i => (i.zero, i.size, i.bytes)) = some (some (.int .u8 0), 1, 1) := by kernel_rfl
end Go.Proofs.Ytgifcmbknkjemaa.GA
end
