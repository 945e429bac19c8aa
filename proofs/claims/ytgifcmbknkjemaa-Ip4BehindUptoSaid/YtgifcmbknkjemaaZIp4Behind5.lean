/- What the law Ip4Behind rests on, part 5: contracts of the functions that it calls, and plain lemmas. No condition. -/
import Derived.Test.YtgifcmbknkjemaaZIp4Behind4
import Derived.ProofKit
import Derived.OpenShut
import Derived.ShutString
import Derived.ChangeOld
import Derived.SizedLaws
import Derived.Deep.Slices
import Derived.DataReads
section
namespace Go.Proofs.Ytgifcmbknkjemaa.Own
open Go Go.RowKit Go.ChangeShapes Go.WideShapes Go.Deep Go.Proofs.YtgifcmbknkjemaaW.PrintWords
set_option linter.unusedVariables false
set_option linter.unusedSimpArgs false
def Opens (t : TypeId) {α : Type} (d : Kd α) (good : α → Prop) : Prop :=
  ∀ (H : Type) (enc : TypeId × Value → H) (w : World) (base : Nat) (held : Bool) (fuel : Nat) (cs : List Value) (x : DataW H × List MemPlace),
    DataW.trod enc Try.prog w base (fun _ => true) held fuel t cs = some x → (∀ n ∈ x.1.weights Try.prog t, n ≤ reachBytes) → ∃ a : α, d.K w a cs ∧ good a
theorem Opens.imp {t : TypeId} {α : Type} {d : Kd α} {good good' : α → Prop} (h : Opens t d good) (hg : ∀ a, good a → good' a) : Opens t d good' := fun H enc w base held fuel cs x hx hw => by
  obtain ⟨a, h1, h2⟩ := h H enc w base held fuel cs x hx hw
  exact ⟨a, h1, hg a h2⟩
theorem Opens.int {t : TypeId} {k : IntKind} (ht : Try.prog.underlying t = some (.int k)) : Opens t (Kd.int k) (fun n => (Lit.int k n).wf = true) := fun H enc w base held fuel cs x hx hw => by
  obtain ⟨n, h1, h2, h3⟩ := DataW.trod_int ht hx
  exact ⟨n, h1, h3⟩
theorem Opens.bool {t : TypeId} (ht : Try.prog.underlying t = some .bool) : Opens t Kd.bool (fun _ => True) := fun H enc w base held fuel cs x hx hw => by
  obtain ⟨b, h1, h2⟩ := DataW.trod_bool ht hx
  exact ⟨b, h1, trivial⟩
theorem Opens.string {t : TypeId} (ht : Try.prog.underlying t = some .string) : Opens t Kd.string (fun s => s.size ≤ 140737488351232) := fun H enc w base held fuel cs x hx hw => by
  obtain ⟨s, h1, h2, h3⟩ := DataW.trod_string ht hx
  refine ⟨s, h1, ?_⟩
  rw [h2] at hw
  have := hw s.data.toList.length (by simp [DataW.weights])
  rw [Array.length_toList] at this
  exact this
theorem weights_elem {H : Type} {e : TypeId} {xs : List (DataW H)} {d : DataW H} (hd : d ∈ xs) : ∀ n ∈ d.weights Try.prog e, n ∈ DataW.weightsAll Try.prog e xs := by
  induction xs with
  | nil => cases hd
  | cons y ys ih =>
    intro n hn
    simp only [DataW.weightsAll, List.mem_append]
    rcases List.mem_cons.1 hd with h | h
    · subst h
      exact .inl hn
    · exact .inr (ih h n hn)
theorem Opens.slice {t e : TypeId} {α : Type} {d : Kd α} {good : α → Prop} {B : Nat} (ht : Try.prog.underlying t = some (.slice e)) (he : Opens e d good) (hc : Try.prog.cellsOf e = d.sz) (hB : Try.prog.bytesOf e = B) :
    Opens t (Kd.slice e d) (fun l => l.length * B ≤ 140737488351232 ∧ ∀ a ∈ l, good a) := fun H enc w base held fuel cs x hx hw => by
  rcases open_slice ht hx with ⟨rfl, rfl⟩ | ⟨a, len, cap, m, n, D, Pl, rfl, hb, hl, hm, hmm, rfl, hi⟩
  · exact ⟨[], ⟨none, 0, rfl, Nat.le_refl _, rfl, by simp, fun h => absurd h (by simp)⟩, by simp, fun a ha => by cases ha⟩
  · simp only [if_true] at hmm
    subst hmm
    have hwt : (len + (m - len)) * Try.prog.bytesOf e ≤ reachBytes ∧ ∀ i, i < len → ∀ q ∈ (D i).weights Try.prog e, q ≤ reachBytes := by
      simp only [DataW.weights, ht] at hw
      refine ⟨?_, fun i hi q hq => ?_⟩
      · have := hw ((len + (m - len)) * Try.prog.bytesOf e) (by simp)
        exact this
      · refine hw q ?_
        simp only [List.mem_cons, List.mem_append]
        exact .inr (.inl (weights_elem (List.mem_map.2 ⟨i, List.mem_range.2 hi, rfl⟩) q hq))
    have each : ∀ i : Nat, ∃ b : Option α, i < len → ∃ y, b = some y ∧ good y ∧ ∃ c, d.K w y c ∧ ∀ j u, c[j]? = some u → w.cell? (a.add (i * d.sz + j)) = some u := by
      intro i
      by_cases hlt : i < len
      · obtain ⟨c, hcell, htrod⟩ := hi i (by omega)
        obtain ⟨y, hy, hg⟩ := he H enc w base held n c (D i, Pl i) htrod (hwt.2 i hlt)
        obtain ⟨_, hlen, hat⟩ := World.cells?_some hcell
        refine ⟨some y, fun _ => ⟨y, rfl, hg, c, hy, fun j u hu => ?_⟩⟩
        have hj : j < c.length := (List.getElem?_eq_some_iff.1 hu).1
        rw [← hu, ← hat j (by omega), Go.Deep.add_add, hc]
      · exact ⟨none, fun h => absurd h hlt⟩
    obtain ⟨f, hf⟩ := Classical.axiomOfChoice each
    have hmap : ∃ l : List α, l.length = len ∧ ∀ i y, l[i]? = some y → f i = some y := by
      refine ⟨(List.range len).filterMap f, ?_, ?_⟩
      · have key : ∀ q, q ≤ len → ((List.range q).filterMap f).length = q := by
          intro q
          induction q with
          | zero => intro _; rfl
          | succ q ih =>
            intro hq
            obtain ⟨y, hy, _⟩ := hf q (by omega)
            rw [List.range_succ, List.filterMap_append, List.length_append, ih (by omega)]
            simp [hy]
        exact key len (Nat.le_refl _)
      · have key : ∀ q, q ≤ len → ∀ i y, ((List.range q).filterMap f)[i]? = some y → f i = some y := by
          intro q
          induction q with
          | zero => intro _ i y h; simp at h
          | succ q ih =>
            intro hq i y h
            have hlq : ∀ q, q ≤ len → ((List.range q).filterMap f).length = q := by
              intro q
              induction q with
              | zero => intro _; rfl
              | succ q ih =>
                intro hq
                obtain ⟨y, hy, _⟩ := hf q (by omega)
                rw [List.range_succ, List.filterMap_append, List.length_append, ih (by omega)]
                simp [hy]
            obtain ⟨z, hz, _⟩ := hf q (by omega)
            rw [List.range_succ, List.filterMap_append] at h
            have hl' := hlq q (by omega)
            rcases Nat.lt_or_ge i q with hi | hi
            · rw [List.getElem?_append_left (by omega)] at h
              exact ih (by omega) i y h
            · rw [List.getElem?_append_right (by omega), hl'] at h
              simp only [List.filterMap_cons, List.filterMap_nil, hz] at h
              have hiq : i = q := by
                rcases Nat.lt_or_ge q i with h' | h'
                · have : (i - q) ≠ 0 := by omega
                  rcases hk : i - q with _ | k
                  · omega
                  · rw [hk] at h
                    simp at h
                · omega
              subst hiq
              rw [Nat.sub_self] at h
              simp at h
              rw [hz, h]
        exact key len (Nat.le_refl _)
    obtain ⟨l, hlen, hat⟩ := hmap
    have hlm : len ≤ 9223372036854775807 := by
      have := Nat.le_trans hl hm
      simpa [maxLen] using this
    refine ⟨l, ⟨some a, m, by rw [hlen], by omega, rfl, by omega, fun _ => ⟨a, rfl, fun j p hj => ?_⟩⟩, ?_, fun y hy => ?_⟩
    · have hjl : j < l.length := (List.getElem?_eq_some_iff.1 hj).1
      obtain ⟨y, hy, _, c, hK, hcell⟩ := hf j (by omega)
      have hp : y = p := Option.some.inj (hy.symm.trans (hat j p hj))
      subst hp
      exact ⟨c, d.K_len hK, hK, hcell⟩
    · have h1 := hwt.1
      rw [hB] at h1
      have h2 : len * B ≤ (len + (m - len)) * B := Nat.mul_le_mul_right _ (by omega)
      rw [hlen]
      exact Nat.le_trans h2 h1
    · obtain ⟨j, hj⟩ := List.getElem?_of_mem hy
      have hjl : j < l.length := (List.getElem?_eq_some_iff.1 hj).1
      obtain ⟨z, hz, hg, _⟩ := hf j (by omega)
      have hp : z = y := Option.some.inj (hz.symm.trans (hat j y hj))
      subst hp
      exact hg
def OpensFs (fs : List Field) (off : Nat) {α : Type} (d : Kd α) (good : α → Prop) : Prop :=
  ∀ (H : Type) (enc : TypeId × Value → H) (w : World) (base : Nat) (held : Bool) (n : Nat) (cs : List Value) (xs : List (DataW H × List MemPlace)),
    xs.length = fs.length → cs.length = off + d.sz → (∀ (i : Nat) (f : Field), fs[i]? = some f → DataW.trod enc Try.prog w base (fun _ => true) held n f.type ((cs.drop f.offset).take (Try.prog.cellsOf f.type)) = xs[i]?) →
    (∀ m ∈ DataW.weightsEach Try.prog (fs.map (·.type)) (xs.map (·.1)), m ≤ reachBytes) → ∃ a : α, d.K w a (cs.drop off) ∧ good a
theorem OpensFs.one {f : Field} {off : Nat} {α : Type} {d : Kd α} {good : α → Prop} (ho : f.offset = off) (hc : Try.prog.cellsOf f.type = d.sz) (h : Opens f.type d good) : OpensFs [f] off d good := fun H enc w base held n cs xs hl hlen hx hw => by
  match xs, hl with
  | [y], _ =>
    have h1 := hx 0 f rfl
    rw [ho, hc] at h1
    have h2 : (cs.drop off).take d.sz = cs.drop off := List.take_of_length_le (by rw [List.length_drop]; omega)
    rw [h2] at h1
    exact h H enc w base held n (cs.drop off) y h1 (fun m hm => hw m (by simpa [DataW.weightsEach] using hm))
theorem OpensFs.cons {f : Field} {fs : List Field} {off : Nat} {α β : Type} {d : Kd α} {d' : Kd β} {good : α → Prop} {good' : β → Prop} (ho : f.offset = off) (hc : Try.prog.cellsOf f.type = d.sz) (h : Opens f.type d good) (ht : OpensFs fs (off + d.sz) d' good') :
    OpensFs (f :: fs) off (Kd.pair d d') (fun x => good x.1 ∧ good' x.2) := fun H enc w base held n cs xs hl hlen hx hw => by
  match xs, hl with
  | y :: ys, hl =>
    have hsz : (Kd.pair d d').sz = d.sz + d'.sz := rfl
    rw [hsz] at hlen
    have h1 := hx 0 f rfl
    rw [ho, hc] at h1
    obtain ⟨a, ha, hga⟩ := h H enc w base held n ((cs.drop off).take d.sz) y h1 (fun m hm => hw m (by simp only [List.map_cons, DataW.weightsEach, List.mem_append]; exact .inl hm))
    obtain ⟨b, hb, hgb⟩ := ht H enc w base held n cs ys (by simpa using hl) (by omega) (fun i g hg => hx (i + 1) g (by simpa using hg)) (fun m hm => hw m (by simp only [List.map_cons, DataW.weightsEach, List.mem_append]; exact .inr hm))
    refine ⟨(a, b), ⟨(cs.drop off).take d.sz, cs.drop (off + d.sz), ?_, ha, hb⟩, hga, hgb⟩
    rw [← List.drop_drop]
    exact (List.take_append_drop _ _).symm
theorem Opens.struct {t : TypeId} {fs : Array Field} {α : Type} {d : Kd α} {good : α → Prop} (ht : Try.prog.underlying t = some (.struct fs)) (hc : Try.prog.cellsOf t = d.sz) (hF : OpensFs fs.toList 0 d good) : Opens t d good := fun H enc w base held fuel cs x hx hw => by
  obtain ⟨xs, n, _, rfl, hlen, hl, hg⟩ := DataW.trod_struct ht hx
  have := hF H enc w base held n cs xs (by simpa using hl) (by rw [hlen, hc]; omega) (fun i f hf => hg i f (by rw [← hf]; simp)) (fun m hm => hw m (by simp only [DataW.weights, ht]; exact hm))
  simpa using this
theorem open_par {H : Type} {enc : TypeId × Value → H} {W : World} {t : TypeId} {α : Type} {d : Kd α} {good : α → Prop} {ts : List TypeId} {ds : List (DataW H)} {j : Nat} {v : Value} {dd : DataW H} {p : List MemPlace}
    (ho : Opens t d good) (hsz : (DataW.weightsEach Try.prog ts ds).all (· ≤ reachBytes) = true) (ht : ts[j]? = some t) (hd : ds[j]? = some dd) (h : DataW.Trod enc Try.prog W 0 (fun _ => true) true t v dd p) :
    ∃ a : α, d.K W a v.cells.toList ∧ good a := by
  obtain ⟨fuel, hf⟩ := h
  exact ho H enc W 0 true fuel _ _ hf (fun n hn => by
    have := List.all_eq_true.1 hsz _ (DataW.weights_mem_each ht hd n hn)
    simpa using this)
theorem par_lt {H : Type} {enc : TypeId × Value → H} {W : World} {t : TypeId} {v : Value} {dd : DataW H} {p : List MemPlace} (h : DataW.Trod enc Try.prog W 0 (fun _ => true) true t v dd p) : ∀ x ∈ p, x.block < W.heap.size := by
  obtain ⟨m, hm⟩ := h
  exact DataW.trod_lt m _ _ _ hm
theorem own : ownKnob Try.prog.godebug = none := by kernel_rfl
theorem laidOut : laidOutB Try.prog = true := by kernel_rfl
end Go.Proofs.Ytgifcmbknkjemaa.Own
end
section
namespace Go.Proofs.Ytgifcmbknkjemaa.Own
open Go.RowKit Go.Proofs.YtgifcmbknkjemaaW.PrintWords Go.Proofs.YtgifcmbknkjemaaW.PrintLast Go.Proofs.YtgifcmbknkjemaaW.PrintMore
set_option linter.unusedVariables false
set_option linter.unusedSimpArgs false
def slices_Clone_byte_byte.f (l0 : List Int) : Option (List Int) := if l0.length < 140737488355328 then some l0 else none
theorem nil_of_none {α : Type} {d : Kd α} {w : World} {n : Nat} {xs : List α} (h : d.C w none n xs) : xs = [] := by
  rcases Nat.eq_zero_or_pos n with h0 | h0
  · exact List.eq_nil_of_length_eq_zero (by rw [h.1, h0])
  · obtain ⟨ad, he, _⟩ := h.2.2 h0
    cases he
theorem own_empty (w : World) (e : Nat) : (Kd.int .u8).R e (w.alloc (.cells #[] e)) w.heap.size (fun _ => True) (.slice (some ⟨w.heap.size, 0, none⟩) 0 0) [] := by
  refine ⟨fun _ _ => trivial, [], ?_, Reps.none _ _⟩
  have h := World.ownsRow_lit (base := w.heap.size) (e := e) (size := 1) w #[] 0 (Nat.le_refl _) (by simp [maxLen]) (by simp)
  simp only [Array.toList_empty] at h
  exact h
theorem slices_Clone_byte_byte.calls (A0 : Option Addr) (c0 : Nat) (l0 : List Int) (r : List Int) (w : World) (hr0 : Kd.C (Kd.int .u8) w A0 l0.length l0) (hc0 : l0.length ≤ c0) (h : slices_Clone_byte_byte.f l0 = some r) :
    Calls Try.prog 98 #[.slice A0 l0.length c0] w fun e w' => ∃ v0_ : Value, e = .returned (v0_) ∧ Kd.R (Kd.int .u8) 5 w' w.heap.size (fun _ => True) v0_ r ∧ Below w.heap.size w w' := by
  unfold slices_Clone_byte_byte.f at h
  by_cases hl : l0.length < 140737488355328
  · rw [if_pos hl] at h
    obtain rfl := Option.some.inj h
    have HR := Aside0.mk hr0
    have HL := Aside0.mk hl
    clear hr0 hc0 h hl
    have hq := fun w a n c => Lib.run_eql_slice_nil (P := Try.prog) w 27 5 a n c 0 0 Try.underlying27
    cases A0 with
    | none =>
      obtain rfl := nil_of_none HR.out
      go_enter Try.func98, Try.ntmps98
      go_wp2
      go_ret
      exact ⟨_, rfl, Kd.R_nil _ _ _ _ _, Below.refl _ _⟩
    | some ad =>
      go_enter Try.func98, Try.ntmps98
      go_wp2_with (at_builtin; go_loud (refine Kd.R_append_rows (Kd.int .u8) (w0 := w) w.heap.size rfl (.tmp 5) (.tmp 6) 27 5 (.int .u8 0) 1 rfl Try.underlying27 info5 rfl (by decide) (by omega) (.slice (some ⟨w.heap.size, 0, none⟩) 0 0) [] l0 _ _ _ (fun _ => True) (fun _ => False) rfl rfl ?aO ?aR (fun _ _ h => h) (fun _ h => h.elim) ?aF ?aB ?aS ?aL ?_; (case aF => exact (fun _ _ => trivial)); (case aB => exact below_alloc (Below.refl _ _) _); (case aS => simp); (case aL => have := HL.out; simp; omega); (case aR => exact Kd.C_alloc HR.out _); (case aO => exact own_empty w 5); intro v1 w1 ho hb hg hat; clear hg hat))
      go_ret
      exact ⟨_, rfl, by simpa using ho, hb⟩
  · rw [if_neg hl] at h
    cases h
end Go.Proofs.Ytgifcmbknkjemaa.Own
end
section
namespace Go.Proofs.Ytgifcmbknkjemaa.GW
open Go.RowKit Go.Proofs.YtgifcmbknkjemaaW.PrintWords Go.Proofs.YtgifcmbknkjemaaW.PrintLast Go.Proofs.YtgifcmbknkjemaaW.PrintMore Go.Proofs.Ytgifcmbknkjemaa.Own
attribute [local go_sem] max2_int min2_int max_two min_two max_three min_three max_four min_four   -- for this text's walks alone
set_option linter.unusedVariables false
set_option linter.unusedSimpArgs false
def errW : Option Int → Value
  | none => .nilIface
  | some c => .iface 0 (.int .i64 c)
theorem errW_none : errW none = .nilIface := rfl
theorem errW_some (c : Int) : errW (some c) = .iface 0 (.int .i64 c) := rfl
theorem info5 : (Try.prog.info? 5).map (fun i => (i.zero, i.size, i.bytes)) = some (some (.int .u8 0), 1, 1) := by kernel_rfl
def rd_L1 (xs : List (List Int)) (i : Int) : (List Int) := xs.getD i.toNat ([] : List Int)
theorem at_L1 {w : World} {A : Option Addr} {n : Nat} {xs : List (List Int)} (h : Kd.C (Kd.slice 5 (Kd.int .u8)) w A n xs) (i : Int) (h0 : 0 ≤ i) (h1 : i < n) : ∃ ad A0 c0, A = some ad ∧ w.cell? (ad.add i.toNat) = some (.slice A0 (rd_L1 xs i).length c0) ∧ (rd_L1 xs i).length ≤ c0 ∧ (Kd.int .u8).C w A0 (rd_L1 xs i).length (rd_L1 xs i) := by
  obtain ⟨ad, c, e, _, hK, hc0⟩ := Kd.C_get h ([] : List Int) i h0 h1
  have hc : ∀ j u, c[j]? = some u → w.cell? (ad.add (i.toNat * 1 + j)) = some u := hc0
  obtain ⟨A0, c0, rfl, l0, g0⟩ := hK
  exact ⟨ad, A0, c0, e, by have hq := hc 0 _ rfl; rwa [Nat.mul_one, Nat.add_zero] at hq, l0, g0⟩
end Go.Proofs.Ytgifcmbknkjemaa.GW
end
