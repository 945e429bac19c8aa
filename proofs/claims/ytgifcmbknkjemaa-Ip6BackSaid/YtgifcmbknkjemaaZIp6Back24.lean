/- What the law Ip6Back rests on, part 24: contracts of the functions that it calls, and plain lemmas. No condition. -/
import Derived.Test.YtgifcmbknkjemaaZIp6Back23
section
namespace Go.Proofs.Ytgifcmbknkjemaa.Own
open Go Go.RowKit Go.Proofs.YtgifcmbknkjemaaW.PrintWords Go.Proofs.YtgifcmbknkjemaaW.PrintLast Go.Proofs.Ytgifcmbknkjemaa.QQ
set_option linter.unusedVariables false
set_option linter.unusedSimpArgs false
theorem may6_1 (n : Int) : ip6_may_1.f n = some (decide (0 ≤ n ∧ n ≤ 255)) := by
  unfold ip6_may_1.f
  by_cases h : n ≥ 0
  · rw [if_pos h]
    have : (0 ≤ n ∧ n ≤ 255) ↔ n ≤ 255 := ⟨fun h => h.2, fun h2 => ⟨h, h2⟩⟩
    simp [this]
  · rw [if_neg h]
    have : ¬ (0 ≤ n ∧ n ≤ 255) := fun h2 => h h2.1
    simp [this]
theorem equal44 (k : Nat) (l : List Int) (hl : l.length ≤ 140737488355328) : slices_Equal_int_int.f (k + 2) l [44] = some (decide (l = [44])) := by
  unfold slices_Equal_int_int.f
  by_cases h1 : (l.length : Int) = 1
  · match l, h1 with
    | [x], _ =>
      rw [if_pos (by simp)]
      rw [slices_Equal_int_int.l0, if_pos (by simp), if_pos (by simp), if_pos (by simp), if_pos (by simp)]
      by_cases hx : x = 44
      · subst hx
        rw [if_pos (by rfl), slices_Equal_int_int.l0, if_neg (by simp [wrap64])]
        rfl
      · rw [if_neg (by simpa [rd] using hx)]
        simp [hx]
  · rw [if_neg (by simpa using h1)]
    have : ¬ l = [44] := fun h => h1 (by rw [h]; rfl)
    simp [this]
def tail6 (mo : Bool) (off : Int) (da : List Int) : Bool := decide (0 ≤ off) && decide (off % 8 = 0) && decide (off + da.length ≤ 65535) && !(mo && decide (da.length % 8 ≠ 0)) && (mo || decide (0 < off))
theorem may6_j2 (k : Nat) (x : Bool) (f s1 s2 s3 t1 t2 t3 pr h : Int) (fr : Bool) (id off : Int) (mo : Bool) (ex da : List Int) (hda : da.length ≤ 140737488355328) :
    ip6_may.j2 (k + 1) x f s1 s2 s3 t1 t2 t3 pr h fr id off mo ex da = some (!x && tail6 mo off da) := by
  rw [ip6_may.j2]
  unfold tail6
  cases x with
  | true => simp
  | false =>
    rw [if_neg (by simp)]
    by_cases c2 : off < 0
    · rw [if_pos c2]
      have : ¬ 0 ≤ off := by omega
      simp [this]
    rw [if_neg c2]
    have e2 : 0 ≤ off := by omega
    rw [tmod8 e2]
    by_cases c3 : off % 8 = 0
    · rw [if_pos c3, w64 _ (by omega) (by omega)]
      by_cases c4 : off > 65535 - (da.length : Int)
      · have : ¬ off + (da.length : Int) ≤ 65535 := by omega
        rw [if_pos c4]
        simp [this]
      · have e4 : off + (da.length : Int) ≤ 65535 := by omega
        rw [if_neg c4]
        by_cases hd : da.length % 8 = 0
        · have hd' : ((da.length : Int) % 8) = 0 := by omega
          by_cases c5 : off > 0
          · have : 0 < off := by omega
            cases mo <;> simp [hd, hd', e4, e2, c3, this]
          · have : ¬ 0 < off := by omega
            cases mo <;> simp [hd, hd', e4, e2, c3, this]
        · have hd' : ¬ ((da.length : Int) % 8) = 0 := by omega
          by_cases c5 : off > 0
          · have : 0 < off := by omega
            cases mo <;> simp [hd, hd', e4, e2, c3, this]
          · have : ¬ 0 < off := by omega
            cases mo <;> simp [hd, hd', e4, e2, c3, this]
    · rw [if_neg c3]
      simp [c3]
def fragT6 (fr mo : Bool) (off : Int) (ex da : List Int) : Bool := if fr = true then (decide (ex = []) || decide (ex = [44])) && tail6 mo off da else decide (ex = [])
theorem may6_j1 (k : Nat) (x : Bool) (f s1 s2 s3 t1 t2 t3 pr h : Int) (fr : Bool) (id off : Int) (mo : Bool) (ex da : List Int) (hda : da.length ≤ 140737488355328) (hex : ex.length ≤ 140737488355328) :
    ip6_may.j1 (k + 3) x f s1 s2 s3 t1 t2 t3 pr h fr id off mo ex da = some (!x && fragT6 fr mo off ex da) := by
  rw [ip6_may.j1]
  unfold fragT6
  cases x with
  | true => simp
  | false =>
    rw [if_neg (by simp)]
    cases fr with
    | false =>
      rw [if_neg (by simp)]
      by_cases c1 : ex = []
      · subst c1; simp
      · have : ¬ ((ex.length : Int) = 0) := fun h => c1 (List.eq_nil_of_length_eq_zero (by omega))
        simp [c1]
    | true =>
      rw [if_pos rfl]
      by_cases c1 : ex = []
      · subst c1
        rw [if_neg (by simp), may6_j2 (hda := hda)]
        simp
      · have : (ex.length : Int) > 0 := by
          rcases Nat.eq_zero_or_pos ex.length with h | h
          · exact absurd (List.eq_nil_of_length_eq_zero h) c1
          · omega
        rw [if_pos this, equal44 _ _ hex]
        simp only [Option.bind_some]
        rw [may6_j2 (hda := hda)]
        simp [c1]
theorem may6_j0 (k : Nat) (x : Bool) (f s1 s2 s3 t1 t2 t3 pr h : Int) (fr : Bool) (id off : Int) (mo : Bool) (ex da : List Int) (hda : da.length ≤ 140737488355328) (hex : ex.length ≤ 140737488355328) :
    ip6_may.j0 (k + 4) x f s1 s2 s3 t1 t2 t3 pr h fr id off mo ex da = some (!x && (decide (0 ≤ pr ∧ pr ≤ 255) && decide (1 ≤ h ∧ h ≤ 255) && decide (da.length ≤ 65000) && fragT6 fr mo off ex da)) := by
  rw [ip6_may.j0]
  cases x with
  | true => simp
  | false =>
    rw [if_neg (by simp), may6_1, may6_1]
    simp only [Option.bind_some]
    by_cases c1 : 0 ≤ pr ∧ pr ≤ 255
    · rw [if_pos (by simpa using c1)]
      by_cases c2 : 0 ≤ h ∧ h ≤ 255
      · rw [if_pos (by simpa using c2)]
        by_cases c3 : h = 0
        · rw [if_pos c3, may6_j1 (hda := hda) (hex := hex)]
          have : ¬ (1 ≤ h ∧ h ≤ 255) := by omega
          simp [this]
        · rw [if_neg c3, may6_j1 (hda := hda) (hex := hex)]
          have e : 1 ≤ h ∧ h ≤ 255 := by omega
          by_cases c4 : (da.length : Int) > 65000
          · have : ¬ da.length ≤ 65000 := by omega
            simp [c4, this]
          · have : da.length ≤ 65000 := by omega
            simp [c4, this, c1, e]
      · rw [if_neg (by simpa using c2), may6_j1 (hda := hda) (hex := hex)]
        have : ¬ (1 ≤ h ∧ h ≤ 255) := by omega
        simp [this]
    · rw [if_neg (by simpa using c1), may6_j1 (hda := hda) (hex := hex)]
      simp [c1]
theorem may6_eq (p : IpV) : may6 p = (decide (p.fam = 6) && decide (p.src.1 = 6) && decide (p.dst.1 = 6) && (decide (0 ≤ p.proto ∧ p.proto ≤ 255) && decide (1 ≤ p.hop ∧ p.hop ≤ 255) && decide (p.data.length ≤ 65000) && fragT6 p.frag p.more p.off p.exts p.data)) := by
  unfold may6 fragT6 tail6
  simp only [Bool.and_assoc]
theorem ip6_may_some (p : IpV) (hda : p.data.length ≤ 140737488355328) (hex : p.exts.length ≤ 140737488355328) (k : Nat) : onIp (ip6_may.f (k + 4)) p = some (may6 p) := by
  rw [may6_eq]
  obtain ⟨fam, src, dst, proto, hop, frag, id, off, more, exts, data⟩ := p
  unfold onIp ip6_may.f
  simp only at hda hex ⊢
  by_cases c1 : fam = 6
  · rw [if_pos c1]
    by_cases c2 : src.1 = 6
    · rw [if_pos c2, may6_j0 (hda := hda) (hex := hex)]
      by_cases c3 : dst.1 = 6
      · simp [c1, c2, c3]
      · simp [c1, c2, c3]
    · rw [if_neg c2, may6_j0 (hda := hda) (hex := hex)]
      simp [c2]
  · rw [if_neg c1, may6_j0 (hda := hda) (hex := hex)]
    simp [c1]
theorem rd_L2_at {l : List (List Int)} {j : Nat} (h : j < l.length) : rd_L2 l (j : Int) = l[j] := by simp [rd_L2, List.getD_eq_getElem?_getD, List.getElem?_eq_getElem h]
theorem drop_at {l : List (List Int)} {j : Nat} (h : j < l.length) : (l.drop j).flatten = l[j] ++ (l.drop (j + 1)).flatten := by
  rw [List.drop_eq_getElem_cons h, List.flatten_cons]
theorem concat_l1 (l : List (List Int)) (hl : l.length ≤ 1000000) (hs : l.flatten.length ≤ 140737488350000) (d : Nat) : ∀ (j : Nat) (out : List Int), j + d = l.length → out.length + (l.drop j).flatten.length ≤ 140737488350000 →
    Ev (fun k => slices_Concat_byte_byte.l1 k out l (l.length : Int) (j : Int)) (out ++ (l.drop j).flatten) := by
  induction d with
  | zero =>
    intro j out hj ho
    refine Ev.step (fun k => ?_) (Ev.now _)
    rw [slices_Concat_byte_byte.l1, if_neg (by omega), List.drop_of_length_le (by omega)]
    simp
  | succ d ih =>
    intro j out hj ho
    have hjl : j < l.length := by omega
    rw [drop_at hjl] at ho ⊢
    rw [List.length_append] at ho
    rw [← List.append_assoc]
    refine Ev.step (fun k => ?_) (ih (j + 1) (out ++ l[j]) (by omega) (by rw [List.length_append]; omega))
    rw [slices_Concat_byte_byte.l1, if_pos (by omega), if_pos (by omega), if_pos (by omega), rd_L2_at hjl, if_pos (by omega), wsucc j (by omega)]
theorem concat_l0 (l : List (List Int)) (hl : l.length ≤ 1000000) (hs : l.flatten.length ≤ 140737488350000) (d : Nat) : ∀ (j : Nat) (n : Int), j + d = l.length → 0 ≤ n → n + (l.drop j).flatten.length = l.flatten.length →
    Ev (fun k => slices_Concat_byte_byte.l0 k l n l (l.length : Int) (j : Int)) l.flatten := by
  induction d with
  | zero =>
    intro j n hj h0 hn
    have h1 := concat_l1 l hl hs l.length 0 [] (Nat.zero_add _) (by simpa using hs)
    simp only [List.drop_zero, List.nil_append] at h1
    refine Ev.step (fun k => ?_) h1
    rw [List.drop_of_length_le (by omega), List.flatten_nil, List.length_nil] at hn
    rw [slices_Concat_byte_byte.l0, if_neg (by omega)]
    unfold slices_Grow_byte_byte.f
    rw [if_pos ⟨rfl, h0, by omega⟩]
    rfl
  | succ d ih =>
    intro j n hj h0 hn
    have hjl : j < l.length := by omega
    rw [drop_at hjl, List.length_append] at hn
    refine Ev.step (fun k => ?_) (ih (j + 1) (n + (l[j].length : Int)) (by omega) (by omega) (by omega))
    have e : wrap64 (n + (l[j].length : Int)) = n + (l[j].length : Int) := w64 _ (by omega) (by omega)
    rw [slices_Concat_byte_byte.l0, if_pos (by omega), if_pos (by omega), if_pos (by omega), rd_L2_at hjl, e, if_neg (by omega), wsucc j (by omega)]
theorem concat_ev (l : List (List Int)) (hl : l.length ≤ 1000000) (hs : l.flatten.length ≤ 140737488350000) : Ev (fun k => slices_Concat_byte_byte.f k l) l.flatten := by
  have := concat_l0 l hl hs l.length 0 0 (Nat.zero_add _) (by omega) (by simp)
  exact this
theorem put32_some {l : List Int} (n : Int) (h : l.length ≤ 140737488355000) : QQ.wire_Put32.f l n = some (put32 l n) := by unfold QQ.wire_Put32.f wire_Put32.f; rw [if_pos h]
def bytes6 (p : IpV) (next : Int) (ext : List Int) : List Int := put16 [96, 0, 0, 0] (ext.length + p.data.length) ++ [next % 256, p.hop % 256] ++ bytesA p.src ++ bytesA p.dst ++ ext ++ p.data
theorem build6_j0 (p : IpV) (hs : okA p.src) (hd : okA p.dst) (hl : p.data.length ≤ 65000) (next : Int) (ext : List Int) (he : ext.length ≤ 8) : ∃ K, ∀ k, K ≤ k → onIp (ip6_Build.j0 (k + 1) next ext) p = some (bytes6 p next ext, 0) := by
  have hb1 := bytesA_le p.src
  have hb2 := bytesA_le p.dst
  have hw : wrap64 ((ext.length : Int) + (p.data.length : Int)) = (ext.length : Int) + (p.data.length : Int) := w64 _ (by omega) (by omega)
  have hc := concat_ev [put16 [96, 0, 0, 0] ((ext.length : Int) + (p.data.length : Int)) ++ [next % 256, p.hop % 256], bytesA p.src, bytesA p.dst, ext, p.data] (by simp) (by simp [put16]; omega)
  obtain ⟨K, hK⟩ := hc
  have hK2 : ∀ k, K ≤ k → slices_Concat_byte_byte.f k [put16 [96, 0, 0, 0] ((ext.length : Int) + (p.data.length : Int)) ++ [next % 256, p.hop % 256], bytesA p.src, bytesA p.dst, ext, p.data] = some _ := hK
  refine ⟨K, fun k hk => ?_⟩
  unfold onIp
  rw [ip6_Build.j0, hw, put16_some _ (by simp)]
  simp only [Option.bind_some]
  rw [if_pos (by simp [put16]), bytesA_some hs, bytesA_some hd]
  simp only [Option.bind_some]
  rw [hK2 k hk]
  simp [bytes6]
theorem ip6_Build_some (p : IpV) (hs : okA p.src) (hd : okA p.dst) (hda : p.data.length ≤ 140737488355328) (hex : p.exts.length ≤ 140737488355328) : ∃ k, onIp (ip6_Build.f k) p = some (build6 p) := by
  cases h : may6 p with
  | false =>
    refine ⟨4, ?_⟩
    have hm := ip6_may_some p hda hex 0
    unfold onIp at hm ⊢
    unfold ip6_Build.f build6
    rw [hm, h]
    simp
  | true =>
    have m := may6_has h
    have m3 := m.len
    have e8 := ext6_len p
    obtain ⟨K, hK⟩ := build6_j0 p hs hd m3 (next6h p) (ext6 p) (by rw [e8]; split <;> omega)
    obtain ⟨k1, hm, hk⟩ : ∃ k1, onIp (ip6_may.f k1) p = some (may6 p) ∧ onIp (ip6_Build.j0 k1 (next6h p) (ext6 p)) p = some (bytes6 p (next6h p) (ext6 p), 0) :=
      ⟨K + 1 + 4, ip6_may_some p hda hex (K + 1), hK (K + 4) (by omega)⟩
    refine ⟨k1, ?_⟩
    have hb : build6 p = (bytes6 p (next6h p) (ext6 p), 0) := by
      unfold build6 bytes6
      rw [if_pos h]
    rw [hb]
    unfold onIp at hm hk ⊢
    unfold ip6_Build.f
    rw [hm, h]
    simp only [Option.bind_some, if_true]
    cases hf : p.frag with
    | false =>
      rw [if_neg (by simp)]
      have h1 : next6h p = p.proto := by unfold next6h; rw [hf]; rfl
      have h2 : ext6 p = [] := by unfold ext6; rw [hf]; rfl
      rw [h1, h2, hf] at hk
      rw [h1, h2]
      exact hk
    | true =>
      obtain ⟨g1, g2, g3, g4, g5⟩ := m.frag hf
      rw [if_pos rfl]
      have h1 : next6h p = 44 := by unfold next6h; rw [hf]; rfl
      cases hmo : p.more with
      | true =>
        have h2 : ext6 p = put32 (put16 [p.proto % 256, 0] (p.off + 1)) p.id := by unfold ext6 place6; rw [hf, hmo]; rfl
        rw [if_pos rfl, w64 (p.off + 1) (by omega) (by omega), put16_some _ (by simp)]
        simp only [Option.bind_some]
        rw [put32_some _ (by simp [put16])]
        simp only [Option.bind_some]
        rw [h1, h2, hf, hmo] at hk
        rw [h1, h2]
        exact hk
      | false =>
        have h2 : ext6 p = put32 (put16 [p.proto % 256, 0] p.off) p.id := by unfold ext6 place6; rw [hf, hmo]; rfl
        rw [if_neg (by simp), put16_some _ (by simp)]
        simp only [Option.bind_some]
        rw [put32_some _ (by simp [put16])]
        simp only [Option.bind_some]
        rw [h1, h2, hf, hmo] at hk
        rw [h1, h2]
        exact hk
end Go.Proofs.Ytgifcmbknkjemaa.Own
end
section
namespace Go.Proofs.Ytgifcmbknkjemaa.Own
open Go Go.RowKit Go.Proofs.YtgifcmbknkjemaaW.PrintWords Go.Proofs.YtgifcmbknkjemaaW.PrintLast Go.Proofs.YtgifcmbknkjemaaW.PrintMore
set_option linter.unusedVariables false
set_option linter.unusedSimpArgs false
theorem Build6_at {w : World} {p : IpV} {Ae Ad : Option Addr} {ne nd ce cd : Nat} (h1 : (Kd.int .i64).C w Ae ne p.exts) (h2 : (Kd.int .u8).C w Ad nd p.data) (hce : ne ≤ ce) (hcd : nd ≤ cd) (ok : IpOk p) (hl : nd ≤ 140737488355328) (hle : ne ≤ 140737488355328) :
    Calls Try.prog 70 #[.agg (ipCells p (.slice Ae ne ce) (.slice Ad nd cd))] w (BuildPost w (build6 p)) := by
  have l1 := h1.1
  have l2 := h2.1
  subst l1 l2
  obtain ⟨k, h⟩ := ip6_Build_some p ok.2.2.1 ok.2.2.2.1 hl hle
  exact (QQ.ip6_Build.calls k _ _ _ _ _ _ _ _ _ _ _ _ _ Ae ce p.exts (fun _ => True) Ad cd p.data (build6 p).1 (build6 p).2 w h1 hce (V_of_C h2 hcd) h).mono fun e w' ⟨v, g1, g2, g3⟩ => ⟨v, g1, Kd.R_mono g2 (fun _ _ => trivial), g3⟩
theorem bytes_build6 (p : IpV) (ok : IpOk p) : Bytes (build6 p).1 := by
  unfold build6
  split
  · have hx : Bytes (ext6 p) := by
      unfold ext6
      split
      · exact bytes_put32 (bytes_put16 (fun c hc => by simp at hc; omega) _) _
      · intro c hc; cases hc
    exact bytes_append (bytes_append (bytes_append (bytes_append (bytes_append (bytes_put16 (bytes_lit rfl) _) (bytes_two _ _)) (bytes_bytesA _)) (bytes_bytesA _)) hx) ok.2.2.2.2
  · intro c hc; cases hc
end Go.Proofs.Ytgifcmbknkjemaa.Own
end
