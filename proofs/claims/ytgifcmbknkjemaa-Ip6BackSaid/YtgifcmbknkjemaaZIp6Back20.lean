/- What the law Ip6Back rests on, part 20: contracts of the functions that it calls, and plain lemmas. No condition. -/
import Derived.Test.YtgifcmbknkjemaaZIp6Back19
section
namespace Go.Proofs.Ytgifcmbknkjemaa.Own
open Go Go.RowKit Go.Proofs.YtgifcmbknkjemaaW.PrintWords Go.Proofs.YtgifcmbknkjemaaW.PrintLast Go.Proofs.YtgifcmbknkjemaaW.PrintMore
set_option linter.unusedVariables false
set_option linter.unusedSimpArgs false
set_option maxRecDepth 100000 in
theorem Grow_at (n : Nat) (hn : n ≤ 140737488350000) (w : World) :
    Calls Try.prog 162 #[.slice none 0 0, .int .i64 n] w fun e w' => ∃ v0_ : Value, e = .returned v0_ ∧ Kd.R (Kd.int .u8) 5 w' w.heap.size (fun _ => True) v0_ [] ∧ Below w.heap.size w w' := by
  rcases Nat.eq_zero_or_pos n with h0 | h0
  · subst h0
    go_enter Try.func162, Try.ntmps162
    go_wp2
    go_ret
    exact ⟨_, rfl, Kd.R_nil _ _ _ _ _, Below.refl _ _⟩
  · have q0 : (0 : Int) < (n : Int) := by omega
    have q1 : ¬ (n : Int) < 0 := by omega
    have hc : ∀ (A : Option Addr) (c : Nat) (W : World), n ≤ c → (Instr.slice 27 (.slice A n c) none (some (.int .i64 0)) none).run Try.prog W = .ok (.slice A 0 c) W := fun A c W hcc => by
      obtain ⟨i0, hi0, _, hsz0, _⟩ := info_parts info5
      have h := cut_to (P := Try.prog) 27 5 .i64 Try.underlying27 hi0 A n c 0 (by omega) (by omega) hcc
      simpa using h W
    have HC := Aside0.mk hc
    have HL := Aside0.mk (show (([] : List Int) ++ List.replicate (n : Int).toNat 0).length = n by simp)
    clear hc
    go_enter Try.func162, Try.ntmps162
    go_wp2_with (at_builtin; go_loud (refine Kd.R_append_zeros (Kd.int .u8) (w0 := w) w.heap.size rfl (.tmp 20) (.tmp 21) 27 3 5 (.int .u8 0) 1 rfl Try.underlying27 Try.underlying3 info5 rfl (by decide) (by decide) (.slice none 0 0) [] 0 (n : Int) (fun _ => True) rfl rfl ?aZ (fun _ _ => trivial) (Kd.R_nil _ _ _ _ _) (by omega) (Below.refl _ _) (Nat.le_refl _) ?aL ?_; (case aZ => exact rfl); (case aL => simp; omega); intro v1 w1 ho hb hg hat; clear hg hat; obtain ⟨A, c, hv, hcc, _⟩ := Kd.R_reads ho; rw [HL.out] at hv hcc; rw [hv] at ho ⊢; have HO := Aside0.mk ho; have hc2 := HC.out A c w1 hcc; clear ho hv))
    go_ret
    have h1 := Kd.R_take (m := 0) HO.out (by omega)
    exact ⟨_, rfl, by simpa using h1, hb⟩
end Go.Proofs.Ytgifcmbknkjemaa.Own
end
section
namespace Go.Proofs.Ytgifcmbknkjemaa.QQ
open Go Go.RowKit Go.Proofs.YtgifcmbknkjemaaW.PrintWords Go.Proofs.YtgifcmbknkjemaaW.PrintLast
set_option linter.unusedVariables false
set_option linter.unusedSimpArgs false
def wire_U16.f (l0 : List Int) (a1 : Int) : Option (Int × Bool) := Own.wire_U16.f l0 a1
theorem wire_U16.calls (A0 : Option Addr) (c0 : Nat) (l0 : List Int) (a1 : Int) (r1 : Int) (r2 : Bool) (w : World) (hr0 : Kd.C (Kd.int .u8) w A0 l0.length l0) (hc0 : l0.length ≤ c0) (h : wire_U16.f l0 a1 = some (r1, r2)) :
    Calls Try.prog 49 #[.slice A0 l0.length c0, .int .i64 a1] w fun e w' => e = .returned (.tuple #[.int .i64 r1, .bool r2]) ∧ Below w.heap.size w w' :=
  (Own.wire_U16.calls A0 c0 l0 a1 r1 r2 w hr0 hc0 h).mono fun e w' hh => ⟨hh.1, hh.2.below⟩
def wire_U32.f (l0 : List Int) (a1 : Int) : Option (Int × Bool) := Own.wire_U32.f l0 a1
theorem wire_U32.calls (A0 : Option Addr) (c0 : Nat) (l0 : List Int) (a1 : Int) (r1 : Int) (r2 : Bool) (w : World) (hr0 : Kd.C (Kd.int .u8) w A0 l0.length l0) (hc0 : l0.length ≤ c0) (h : wire_U32.f l0 a1 = some (r1, r2)) :
    Calls Try.prog 50 #[.slice A0 l0.length c0, .int .i64 a1] w fun e w' => e = .returned (.tuple #[.int .u32 r1, .bool r2]) ∧ Below w.heap.size w w' :=
  (Own.wire_U32.calls A0 c0 l0 a1 r1 r2 w hr0 hc0 h).mono fun e w' hh => ⟨hh.1, hh.2.below⟩
def stockaderef01_Part.f (l0 : List Int) (a1 a2 : Int) : Option (List Int × Bool) := Own.stockaderef01_Part.f l0 a1 a2
theorem stockaderef01_Part.calls (A0 : Option Addr) (c0 : Nat) (l0 : List Int) (a1 a2 : Int) (r1 : List Int) (r2 : Bool) (w : World) (hr0 : Kd.C (Kd.int .u8) w A0 l0.length l0) (hc0 : l0.length ≤ c0) (h : stockaderef01_Part.f l0 a1 a2 = some (r1, r2)) :
    Calls Try.prog 111 #[.slice A0 l0.length c0, .int .i64 a1, .int .i64 a2] w fun e w' => ∃ v0_ : Value, e = .returned (.tuple #[v0_, .bool r2]) ∧ Kd.R (Kd.int .u8) 5 w' w.heap.size (fun _ => True) v0_ r1 ∧ Below w.heap.size w w' :=
  Own.stockaderef01_Part.calls A0 c0 l0 a1 a2 r1 r2 w hr0 hc0 h
def stockaderef01_U16.f (l0 : List Int) (a1 : Int) : Option (Int × Bool) := Own.stockaderef01_U16.f l0 a1
theorem stockaderef01_U16.calls (A0 : Option Addr) (c0 : Nat) (l0 : List Int) (a1 : Int) (r1 : Int) (r2 : Bool) (w : World) (hr0 : Kd.C (Kd.int .u8) w A0 l0.length l0) (hc0 : l0.length ≤ c0) (h : stockaderef01_U16.f l0 a1 = some (r1, r2)) :
    Calls Try.prog 63 #[.slice A0 l0.length c0, .int .i64 a1] w fun e w' => e = .returned (.tuple #[.int .i64 r1, .bool r2]) ∧ Below w.heap.size w w' :=
  Own.stockaderef01_U16.calls A0 c0 l0 a1 r1 r2 w hr0 hc0 h
def stockaderef01_U32.f (l0 : List Int) (a1 : Int) : Option (Int × Bool) := Own.stockaderef01_U32.f l0 a1
theorem stockaderef01_U32.calls (A0 : Option Addr) (c0 : Nat) (l0 : List Int) (a1 : Int) (r1 : Int) (r2 : Bool) (w : World) (hr0 : Kd.C (Kd.int .u8) w A0 l0.length l0) (hc0 : l0.length ≤ c0) (h : stockaderef01_U32.f l0 a1 = some (r1, r2)) :
    Calls Try.prog 168 #[.slice A0 l0.length c0, .int .i64 a1] w fun e w' => e = .returned (.tuple #[.int .u32 r1, .bool r2]) ∧ Below w.heap.size w w' :=
  Own.stockaderef01_U32.calls A0 c0 l0 a1 r1 r2 w hr0 hc0 h
def wire_Put16.f (l0 : List Int) (a1 : Int) : Option (List Int) := Own.wire_Put16.f l0 a1
theorem wire_Put16.calls (A0 : Option Addr) (c0 : Nat) (l0 : List Int) (a1 : Int) (r : List Int) (w : World) (hr0 : Kd.C (Kd.int .u8) w A0 l0.length l0) (hc0 : l0.length ≤ c0) (h : wire_Put16.f l0 a1 = some r) :
    Calls Try.prog 44 #[.slice A0 l0.length c0, .int .i64 a1] w fun e w' => ∃ v0_ : Value, e = .returned (v0_) ∧ Kd.R (Kd.int .u8) 5 w' w.heap.size (fun _ => True) v0_ r ∧ Below w.heap.size w w' :=
  Own.wire_Put16.calls A0 c0 l0 a1 r w hr0 hc0 h
def wire_Put32.f (l0 : List Int) (a1 : Int) : Option (List Int) := Own.wire_Put32.f l0 a1
theorem wire_Put32.calls (A0 : Option Addr) (c0 : Nat) (l0 : List Int) (a1 : Int) (r : List Int) (w : World) (hr0 : Kd.C (Kd.int .u8) w A0 l0.length l0) (hc0 : l0.length ≤ c0) (h : wire_Put32.f l0 a1 = some r) :
    Calls Try.prog 45 #[.slice A0 l0.length c0, .int .u32 a1] w fun e w' => ∃ v0_ : Value, e = .returned (v0_) ∧ Kd.R (Kd.int .u8) 5 w' w.heap.size (fun _ => True) v0_ r ∧ Below w.heap.size w w' :=
  Own.wire_Put32.calls A0 c0 l0 a1 r w hr0 hc0 h
def stockaderef01_Same.f (l0 l1 : List Int) : Option Bool := Own.stockaderef01_Same.f l0 l1
theorem stockaderef01_Same.calls (A0 : Option Addr) (c0 : Nat) (l0 : List Int) (A1 : Option Addr) (c1 : Nat) (l1 : List Int) (r : Bool) (w : World) (hr0 : Kd.C (Kd.int .u8) w A0 l0.length l0) (hc0 : l0.length ≤ c0) (hr1 : Kd.C (Kd.int .u8) w A1 l1.length l1) (hc1 : l1.length ≤ c1) (h : stockaderef01_Same.f l0 l1 = some r) :
    Calls Try.prog 46 #[.slice A0 l0.length c0, .slice A1 l1.length c1] w fun e w' => e = .returned (.bool r) ∧ Below w.heap.size w w' :=
  (Own.stockaderef01_Same.calls A0 c0 l0 A1 c1 l1 r w hr0 hc0 hr1 hc1 h).mono fun e w' hh => ⟨hh.1, hh.2.below⟩
def slices_Clone_byte_byte.f (l0 : List Int) : Option (List Int) := Own.slices_Clone_byte_byte.f l0
theorem slices_Clone_byte_byte.calls (A0 : Option Addr) (c0 : Nat) (l0 : List Int) (r : List Int) (w : World) (hr0 : Kd.C (Kd.int .u8) w A0 l0.length l0) (hc0 : l0.length ≤ c0) (h : slices_Clone_byte_byte.f l0 = some r) :
    Calls Try.prog 98 #[.slice A0 l0.length c0] w fun e w' => ∃ v0_ : Value, e = .returned (v0_) ∧ Kd.R (Kd.int .u8) 5 w' w.heap.size (fun _ => True) v0_ r ∧ Below w.heap.size w w' :=
  Own.slices_Clone_byte_byte.calls A0 c0 l0 r w hr0 hc0 h
end Go.Proofs.Ytgifcmbknkjemaa.QQ
end
section
namespace Go.Proofs.Ytgifcmbknkjemaa.Own
open Go Go.RowKit Go.Proofs.YtgifcmbknkjemaaW.PrintWords Go.Proofs.YtgifcmbknkjemaaW.PrintLast Go.Proofs.YtgifcmbknkjemaaW.PrintMore
set_option linter.unusedVariables false
set_option linter.unusedSimpArgs false
def addr_Right.f (a0_0 : Int) (a0_1 : Int) (a0_2 : Int) : Option (Bool) := if (0 ≤ a0_1 ∧ a0_1 < 18446744073709551616) ∧ (0 ≤ a0_2 ∧ a0_2 < 18446744073709551616) then some (rightA (a0_0, a0_1, a0_2)) else none
set_option maxRecDepth 100000 in
theorem addr_Right.calls (a0_0 : Int) (a0_1 : Int) (a0_2 : Int) (r : Bool) (w : World) (h : addr_Right.f a0_0 a0_1 a0_2 = some r) :
    Calls Try.prog 148 #[.agg #[.int .i64 a0_0, .int .u64 a0_1, .int .u64 a0_2]] w fun e w' => e = .returned (.bool r) ∧ Below w.heap.size w w' := by
  unfold addr_Right.f at h
  split at h
  · rename_i hg
    obtain rfl := Option.some.inj h
    exact GA.addr_Right.calls a0_0 a0_1 a0_2 _ w (right_is (a := (a0_0, a0_1, a0_2)) hg)
  · cases h
def addr_Bytes.f (a0_0 : Int) (a0_1 : Int) (a0_2 : Int) : Option (List Int) := if (0 ≤ a0_1 ∧ a0_1 < 18446744073709551616) ∧ (0 ≤ a0_2 ∧ a0_2 < 18446744073709551616) then some (bytesA (a0_0, a0_1, a0_2)) else none
set_option maxRecDepth 100000 in
theorem addr_Bytes.calls (a0_0 : Int) (a0_1 : Int) (a0_2 : Int) (r : List Int) (w : World) (h : addr_Bytes.f a0_0 a0_1 a0_2 = some r) :
    Calls Try.prog 117 #[.agg #[.int .i64 a0_0, .int .u64 a0_1, .int .u64 a0_2]] w fun e w' => ∃ v0_ : Value, e = .returned (v0_) ∧ Kd.R (Kd.int .u8) 5 w' w.heap.size (fun _ => True) v0_ r ∧ Below w.heap.size w w' := by
  unfold addr_Bytes.f at h
  split at h
  · rename_i hg
    obtain rfl := Option.some.inj h
    exact addrBytes_at (a0_0, a0_1, a0_2) hg w
  · cases h
def addr_From.f (l0 : List Int) : Option (Int × Int × Int × Int) := if okB l0 = true then some (fromA l0) else none
set_option maxRecDepth 100000 in
theorem addr_From.calls (A0 : Option Addr) (c0 : Nat) (l0 : List Int) (r1 : Int) (r2 : Int) (r3 : Int) (r4 : Int) (w : World) (hr0 : Kd.C (Kd.int .u8) w A0 l0.length l0) (hc0 : l0.length ≤ c0) (h : addr_From.f l0 = some (r1, r2, r3, r4)) :
    Calls Try.prog 102 #[.slice A0 l0.length c0] w fun e w' => e = .returned (.tuple #[.agg #[.int .i64 r1, .int .u64 r2, .int .u64 r3], .int .i64 r4]) ∧ Below w.heap.size w w' := by
  unfold addr_From.f at h
  split at h
  · rename_i hg
    have h := Option.some.inj h
    exact (From_at hr0 hc0 (okB_iff.1 hg)).mono fun e w' hh => by rw [h] at hh; exact hh
  · cases h
def slices_Grow_byte_byte.f (l0 : List Int) (a1 : Int) : Option (List Int) := if l0 = [] ∧ 0 ≤ a1 ∧ a1 ≤ 140737488350000 then some [] else none
theorem slices_Grow_byte_byte.calls (n0 : Nat) (c0 : Nat) (l0 : List Int) (a1 : Int) (r : List Int) (w : World) (hr0 : Kd.C (Kd.int .u8) w none 0 l0) (hc0 : n0 + c0 ≤ 0) (h : slices_Grow_byte_byte.f l0 a1 = some r) :
    Calls Try.prog 162 #[.slice none n0 c0, .int .i64 a1] w fun e w' => ∃ v0_ : Value, e = .returned (v0_) ∧ Kd.R (Kd.int .u8) 5 w' w.heap.size (fun _ => True) v0_ r ∧ Below w.heap.size w w' := by
  unfold slices_Grow_byte_byte.f at h
  split at h
  · rename_i hg
    obtain rfl := Option.some.inj h
    obtain ⟨rfl, h0, h1⟩ := hg
    obtain rfl : n0 = 0 := by omega
    obtain rfl : c0 = 0 := by omega
    obtain ⟨n, rfl⟩ := Int.eq_ofNat_of_zero_le h0
    exact Grow_at n (by omega) w
  · cases h
end Go.Proofs.Ytgifcmbknkjemaa.Own
end
section
namespace Go.Proofs.Ytgifcmbknkjemaa.QQ
open Go.RowKit Go.Proofs.YtgifcmbknkjemaaW.PrintWords Go.Proofs.YtgifcmbknkjemaaW.PrintLast Go.Proofs.YtgifcmbknkjemaaW.PrintMore Go.Proofs.Ytgifcmbknkjemaa.Own
attribute [local go_sem] max2_int min2_int max_two min_two max_three min_three max_four min_four   -- for this text's walks alone
set_option linter.unusedVariables false
set_option linter.unusedSimpArgs false
def errW : Option Int → Value
  | none => .nilIface
  | some c => .iface 0 (.int .i64 c)
theorem errW_none : errW none = .nilIface := rfl
theorem errW_some (c : Int) : errW (some c) = .iface 0 (.int .i64 c) := rfl
theorem info3 : (Try.prog.info? 3).map (fun i => (i.zero, i.size, i.bytes)) = some (some (.int .i64 0), 1, 8) := by kernel_rfl
theorem info5 : (Try.prog.info? 5).map (fun i => (i.zero, i.size, i.bytes)) = some (some (.int .u8 0), 1, 1) := by kernel_rfl
def rd_L2 (xs : List (List Int)) (i : Int) : (List Int) := xs.getD i.toNat ([] : List Int)
theorem at_L2 {w : World} {A : Option Addr} {n : Nat} {xs : List (List Int)} (h : Kd.C (Kd.slice 5 (Kd.int .u8)) w A n xs) (i : Int) (h0 : 0 ≤ i) (h1 : i < n) : ∃ ad A0 c0, A = some ad ∧ w.cell? (ad.add i.toNat) = some (.slice A0 (rd_L2 xs i).length c0) ∧ (rd_L2 xs i).length ≤ c0 ∧ (Kd.int .u8).C w A0 (rd_L2 xs i).length (rd_L2 xs i) := by
  obtain ⟨ad, c, e, _, hK, hc0⟩ := Kd.C_get h ([] : List Int) i h0 h1
  have hc : ∀ j u, c[j]? = some u → w.cell? (ad.add (i.toNat * 1 + j)) = some u := hc0
  obtain ⟨A0, c0, rfl, l0, g0⟩ := hK
  exact ⟨ad, A0, c0, e, by have hq := hc 0 _ rfl; rwa [Nat.mul_one, Nat.add_zero] at hq, l0, g0⟩
end Go.Proofs.Ytgifcmbknkjemaa.QQ
end
section
namespace Go.Proofs.Ytgifcmbknkjemaa.Own
open Go Go.RowKit Go.Proofs.YtgifcmbknkjemaaW.PrintWords Go.Proofs.YtgifcmbknkjemaaW.PrintLast Go.Proofs.Ytgifcmbknkjemaa.QQ
set_option linter.unusedVariables false
set_option linter.unusedSimpArgs false
def onIp {α : Type} (f : Int → Int → Int → Int → Int → Int → Int → Int → Int → Bool → Int → Int → Bool → List Int → List Int → α) (p : IpV) : α :=
  f p.fam p.src.1 p.src.2.1 p.src.2.2 p.dst.1 p.dst.2.1 p.dst.2.2 p.proto p.hop p.frag p.id p.off p.more p.exts p.data
theorem tmod8 {x : Int} (h : 0 ≤ x) : Int.tmod x 8 = x % 8 := Int.tmod_eq_emod_of_nonneg h
theorem bytes_lit {l : List Int} (h : okB l = true) : Bytes l := okB_iff.1 h
theorem bytes_two (a b : Int) : Bytes [a % 256, b % 256] := fun c hc => by
  simp at hc
  omega
theorem put16_some {l : List Int} (n : Int) (h : l.length ≤ 140737488355000) : QQ.wire_Put16.f l n = some (put16 l n) := by unfold QQ.wire_Put16.f wire_Put16.f; rw [if_pos h]
theorem bytesA_some {a : Int × Int × Int} (ha : okA a) : addr_Bytes.f a.1 a.2.1 a.2.2 = some (bytesA a) := by unfold addr_Bytes.f; rw [if_pos ⟨ha.1, ha.2⟩]
theorem bytesA_le (a : Int × Int × Int) : (bytesA a).length ≤ 16 := by
  unfold bytesA
  split
  · split <;> simp [d4, d8]
  · simp
end Go.Proofs.Ytgifcmbknkjemaa.Own
end
section
namespace Go.Proofs.Ytgifcmbknkjemaa.Own
open Go Go.RowKit Go.Proofs.YtgifcmbknkjemaaW.PrintWords Go.Proofs.YtgifcmbknkjemaaW.PrintLast Go.Proofs.YtgifcmbknkjemaaW.PrintMore
set_option linter.unusedVariables false
set_option linter.unusedSimpArgs false
set_option maxHeartbeats 2000000 in
set_option maxRecDepth 100000 in
theorem SameIp_at {w : World} {p : IpV} {Ae Be Ad Bd : Option Addr} {ce de cd dd : Nat} (h1 : (Kd.int .i64).C w Ae p.exts.length p.exts) (h2 : (Kd.int .i64).C w Be p.exts.length p.exts) (h3 : (Kd.int .u8).C w Ad p.data.length p.data) (h4 : (Kd.int .u8).C w Bd p.data.length p.data) (hby : Bytes p.data) (hl : p.exts.length ≤ 1000000000) (hcd : p.data.length ≤ cd) (hdd : p.data.length ≤ dd) :
    Calls Try.prog 57 #[.agg (ipCells p (.slice Ae p.exts.length ce) (.slice Ad p.data.length cd)), .agg (ipCells p (.slice Be p.exts.length de) (.slice Bd p.data.length dd))] w fun e w' => e = .returned (.bool true) ∧ Below w.heap.size w w' := by
  obtain ⟨fam, src, dst, proto, hop, frag, id, off, more, exts, data⟩ := p
  obtain ⟨s1, s2, s3⟩ := src
  obtain ⟨t1, t2, t3⟩ := dst
  obtain ⟨n, hn⟩ : ∃ n, n = exts.length := ⟨_, rfl⟩
  obtain ⟨m, hm⟩ : ∃ m, m = data.length := ⟨_, rfl⟩
  unfold ipCells
  simp only at h1 h2 h3 h4 hby hl hcd hdd ⊢
  rw [← hn] at h1 h2 hl ⊢
  rw [← hm] at h3 h4 hcd hdd ⊢
  have hw : ∀ W, Below w.heap.size w W → Calls Try.prog 46 #[.slice Ad m cd, .slice Bd m dd] W fun e w' => e = .returned (.bool true) ∧ ∃ k, w' = W.drewN k := fun W hW => by
    have a := Kd.C_below h3 hW
    have b := Kd.C_below h4 hW
    rw [hm] at a b hcd hdd ⊢
    refine (stockaderef01_Same.calls Ad cd data Bd dd data true W a hcd b hdd ?_).mono fun e w' h => ⟨h.1, h.2.out⟩
    unfold stockaderef01_Same.f
    rw [if_pos ⟨okB_iff.2 hby, okB_iff.2 hby⟩]
    simp
  have HW := Aside0.mk hw
  have H1 := Aside0.mk h1
  have H2 := Aside0.mk h2
  clear hw h1 h2 h3 h4 hby hn hm hcd hdd
  have hnm : n ≤ 9223372036854775807 := by omega
  go_enter Try.func57, Try.ntmps57
  go_wp2
  go_loopw [5] (fun i wr => ∃ k : Nat, k ≤ n ∧ i = .int .i64 k ∧ Aside0 (wr.heap[w.heap.size]? = some (.cells (ipCells ⟨fam, (s1, s2, s3), (t1, t2, t3), proto, hop, frag, id, off, more, exts, data⟩ (.slice Ae n ce) (.slice Ad m cd)) 55 (0, 0))) ∧ Aside0 (wr.heap[w.heap.size + 1]? = some (.cells (ipCells ⟨fam, (s1, s2, s3), (t1, t2, t3), proto, hop, frag, id, off, more, exts, data⟩ (.slice Be n de) (.slice Bd m dd)) 55 (0, 0))) ∧ Aside0 (Below w.heap.size w wr)) (fun i _ => n - (intOf i).toNat)
  case atStart => exact ⟨0, Nat.zero_le _, rfl, ⟨blk_alloc (blk_at rfl) _⟩, ⟨blk_at (W := w.alloc _) (by simp)⟩, ⟨below_alloc (below_alloc (Below.refl _ _) _) _⟩⟩
  case round =>
    obtain ⟨k, hk, rfl, HA, HB, HBel⟩ := hrel
    have a13 : wr.cell? ⟨w.heap.size, 13, none⟩ = some (.slice Ae n ce) := blk_cell HA.out 13
    have b13 : wr.cell? ⟨w.heap.size + 1, 13, none⟩ = some (.slice Be n de) := blk_cell HB.out 13
    by_cases hlt : k < n
    · obtain ⟨ae, rfl, ea⟩ := Kd.at_int (Kd.C_below H1.out HBel.out) (k : Int) (by omega) (by omega)
      obtain ⟨be', rfl, eb⟩ := Kd.at_int (Kd.C_below H2.out HBel.out) (k : Int) (by omega) (by omega)
      rw [Int.toNat_natCast] at ea eb
      obtain ⟨v, hv⟩ : ∃ v, v = rd exts (k : Int) := ⟨_, rfl⟩
      rw [← hv] at ea eb
      have q0 : (0 : Int) ≤ (k : Int) := by omega
      have q1 : (k : Int) < (n : Int) := by omega
      have e1 : IntKind.i64.wrap ((k : Int) + 1) = (k : Int) + 1 := wraps_i64 _ (by omega) (by omega)
      clear hv
      go_wp2
      go_quiet (fail)
      go_wp2
      go_roundw
      case rel => exact ⟨k + 1, by omega, by go_num, HA, HB, ⟨pw_below_drewN HBel.out _⟩⟩
      case measure => simp [intOf]; omega
    · have q1 : (n : Int) ≤ (k : Int) := by omega
      have q2 : ¬ (k : Int) < (n : Int) := by omega
      have a0 : wr.cell? ⟨w.heap.size, 0, none⟩ = some (.int .i64 fam) := blk_cell HA.out 0
      have a1 : wr.cell? ⟨w.heap.size, 1, none⟩ = some (.int .i64 s1) := blk_cell HA.out 1
      have a2 : wr.cell? ⟨w.heap.size, 2, none⟩ = some (.int .u64 s2) := blk_cell HA.out 2
      have a3 : wr.cell? ⟨w.heap.size, 3, none⟩ = some (.int .u64 s3) := blk_cell HA.out 3
      have a4 : wr.cell? ⟨w.heap.size, 4, none⟩ = some (.int .i64 t1) := blk_cell HA.out 4
      have a5 : wr.cell? ⟨w.heap.size, 5, none⟩ = some (.int .u64 t2) := blk_cell HA.out 5
      have a6 : wr.cell? ⟨w.heap.size, 6, none⟩ = some (.int .u64 t3) := blk_cell HA.out 6
      have a7 : wr.cell? ⟨w.heap.size, 7, none⟩ = some (.int .i64 proto) := blk_cell HA.out 7
      have a8 : wr.cell? ⟨w.heap.size, 8, none⟩ = some (.int .i64 hop) := blk_cell HA.out 8
      have a9 : wr.cell? ⟨w.heap.size, 9, none⟩ = some (.bool frag) := blk_cell HA.out 9
      have a10 : wr.cell? ⟨w.heap.size, 10, none⟩ = some (.int .u32 id) := blk_cell HA.out 10
      have a11 : wr.cell? ⟨w.heap.size, 11, none⟩ = some (.int .i64 off) := blk_cell HA.out 11
      have a12 : wr.cell? ⟨w.heap.size, 12, none⟩ = some (.bool more) := blk_cell HA.out 12
      have a14 : wr.cell? ⟨w.heap.size, 14, none⟩ = some (.slice Ad m cd) := blk_cell HA.out 14
      have b0 : wr.cell? ⟨w.heap.size + 1, 0, none⟩ = some (.int .i64 fam) := blk_cell HB.out 0
      have b1 : wr.cell? ⟨w.heap.size + 1, 1, none⟩ = some (.int .i64 s1) := blk_cell HB.out 1
      have b2 : wr.cell? ⟨w.heap.size + 1, 2, none⟩ = some (.int .u64 s2) := blk_cell HB.out 2
      have b3 : wr.cell? ⟨w.heap.size + 1, 3, none⟩ = some (.int .u64 s3) := blk_cell HB.out 3
      have b4 : wr.cell? ⟨w.heap.size + 1, 4, none⟩ = some (.int .i64 t1) := blk_cell HB.out 4
      have b5 : wr.cell? ⟨w.heap.size + 1, 5, none⟩ = some (.int .u64 t2) := blk_cell HB.out 5
      have b6 : wr.cell? ⟨w.heap.size + 1, 6, none⟩ = some (.int .u64 t3) := blk_cell HB.out 6
      have b7 : wr.cell? ⟨w.heap.size + 1, 7, none⟩ = some (.int .i64 proto) := blk_cell HB.out 7
      have b8 : wr.cell? ⟨w.heap.size + 1, 8, none⟩ = some (.int .i64 hop) := blk_cell HB.out 8
      have b9 : wr.cell? ⟨w.heap.size + 1, 9, none⟩ = some (.bool frag) := blk_cell HB.out 9
      have b10 : wr.cell? ⟨w.heap.size + 1, 10, none⟩ = some (.int .u32 id) := blk_cell HB.out 10
      have b11 : wr.cell? ⟨w.heap.size + 1, 11, none⟩ = some (.int .i64 off) := blk_cell HB.out 11
      have b12 : wr.cell? ⟨w.heap.size + 1, 12, none⟩ = some (.bool more) := blk_cell HB.out 12
      have b14 : wr.cell? ⟨w.heap.size + 1, 14, none⟩ = some (.slice Bd m dd) := blk_cell HB.out 14
      go_wp2_with (go_at_call 46; refine (HW.out _ HBel.out).mono ?_; rintro e w' ⟨rfl, q, rfl⟩)
      go_ret
      exact ⟨rfl, pw_below_drewN HBel.out _⟩
end Go.Proofs.Ytgifcmbknkjemaa.Own
end
section
namespace Go.Proofs.Ytgifcmbknkjemaa.Own
open Go Go.RowKit Go.Proofs.YtgifcmbknkjemaaW.PrintWords Go.Proofs.YtgifcmbknkjemaaW.PrintLast Go.Proofs.YtgifcmbknkjemaaW.PrintMore
set_option linter.unusedVariables false
def BuildPost (w : World) (r : List Int × Int) (e : Ending) (w' : World) : Prop :=
  ∃ v : Value, e = .returned (.tuple #[v, .int .i64 r.2]) ∧ Kd.R (Kd.int .u8) 5 w' w.heap.size (fun _ => True) v r.1 ∧ Below w.heap.size w w'
theorem Kd.R_form {k : IntKind} {e base : Nat} {w : World} {v : Value} {xs : List Int} {n : Nat} (h : Kd.R (Kd.int k) e w base (fun _ => True) v xs) (hn : xs.length = n) : ∃ A c, v = .slice A n c ∧ n ≤ c ∧ (Kd.int k).C w A n xs := by
  subst hn
  exact Kd.R_reads h
end Go.Proofs.Ytgifcmbknkjemaa.Own
end
section
namespace Go.Proofs.Ytgifcmbknkjemaa.Own
open Go Go.RowKit Go.Proofs.YtgifcmbknkjemaaW.PrintWords Go.Proofs.YtgifcmbknkjemaaW.PrintLast Go.Proofs.YtgifcmbknkjemaaW.PrintMore
set_option linter.unusedVariables false
set_option linter.unusedSimpArgs false
set_option maxHeartbeats 2000000 in
set_option maxRecDepth 100000 in
theorem Bare6_at (w : World) (p : IpV) (Ae : Option Addr) (ne ce : Nat) (vD : Value) (he : (Kd.int .i64).C w Ae ne p.exts) (hle : ne ≤ ce) (h2 : ∃ A n c, vD = .slice A n c) :
    Calls Try.prog 80 #[.agg (ipCells p (.slice Ae ne ce) vD)] w fun e w' => ∃ A n c, e = .returned (.agg (ipCells (bare6 p) (.slice A n c) vD)) ∧ n = (bare6 p).exts.length ∧ n ≤ c ∧ (Kd.int .i64).C w' A n (bare6 p).exts ∧ Below w.heap.size w w' := by
  obtain ⟨Ad, nd, cd, rfl⟩ := h2
  obtain ⟨fam, ⟨s1, s2, s3⟩, ⟨t1, t2, t3⟩, proto, hop, frag, id, off, more, exts, data⟩ := p
  have HE := Aside0.mk he
  have hne := he.1
  simp only at hne
  clear he
  obtain ⟨X, hX⟩ : ∃ X, X = ipCells ⟨fam, (s1, s2, s3), (t1, t2, t3), proto, hop, frag, id, off, more, exts, data⟩ (.slice Ae ne ce) (.slice Ad nd cd) := ⟨_, rfl⟩
  obtain ⟨W1, hW1⟩ : ∃ W1, W1 = (w.alloc (.cells X 55)).alloc (.cells #[.int .i64 0, .int .i64 0, .int .u64 0, .int .u64 0, .int .i64 0, .int .u64 0, .int .u64 0, .int .i64 0, .int .i64 0, .bool false, .int .u32 0, .int .i64 0, .bool false, .slice none 0 0, .slice none 0 0] 55) := ⟨_, rfl⟩
  have BX : Aside0 (W1.heap[w.heap.size]? = some (.cells X 55 (0, 0))) := ⟨by rw [hW1]; exact blk_alloc (blk_at rfl) _⟩
  have BZ : Aside0 (W1.heap[w.heap.size + 1]? = some (.cells #[.int .i64 0, .int .i64 0, .int .u64 0, .int .u64 0, .int .i64 0, .int .u64 0, .int .u64 0, .int .i64 0, .int .i64 0, .bool false, .int .u32 0, .int .i64 0, .bool false, .slice none 0 0, .slice none 0 0] 55 (0, 0))) := ⟨by rw [hW1, ← size_alloc' w (.cells X 55)]; exact blk_at rfl⟩
  have B1 := Aside0.mk (show Below w.heap.size w W1 by rw [hW1]; exact below_alloc (below_alloc (Below.refl _ _) _) _)
  have c9 : W1.cell? ⟨w.heap.size, 9, none⟩ = some (.bool frag) := (blk_cell BX.out 9).trans (by rw [hX]; rfl)
  have c10 : W1.cell? ⟨w.heap.size, 10, none⟩ = some (.int .u32 id) := (blk_cell BX.out 10).trans (by rw [hX]; rfl)
  have c11 : W1.cell? ⟨w.heap.size, 11, none⟩ = some (.int .i64 off) := (blk_cell BX.out 11).trans (by rw [hX]; rfl)
  have c12 : W1.cell? ⟨w.heap.size, 12, none⟩ = some (.bool more) := (blk_cell BX.out 12).trans (by rw [hX]; rfl)
  have c13 : W1.cell? ⟨w.heap.size, 13, none⟩ = some (.slice Ae ne ce) := (blk_cell BX.out 13).trans (by rw [hX]; rfl)
  have f13 : W1.frozen? ⟨w.heap.size, 13, none⟩ = false := blk_frozen BX.out 13
  have f10 : W1.frozen? ⟨w.heap.size, 10, none⟩ = false := blk_frozen BX.out 10
  have f11 : W1.frozen? ⟨w.heap.size, 11, none⟩ = false := blk_frozen BX.out 11
  have f12 : W1.frozen? ⟨w.heap.size, 12, none⟩ = false := blk_frozen BX.out 12
  have HX := Aside0.mk hX
  rw [← hX]
  clear hX
  go_enter Try.func80, Try.ntmps80
  go_upto_region 1 with (fail)
  rw [← hW1]
  clear hW1
  cases hf : frag
  · subst hf
    rw [HX.out] at BX ⊢
    clear HX
    have CX := blk_put (cs' := (ipCells ⟨fam, (s1, s2, s3), (t1, t2, t3), proto, hop, false, 0, off, more, exts, data⟩ (.slice Ae ne ce) (.slice Ad nd cd))) BX.out 10 (.int .u32 0) rfl
    have CX := blk_put (cs' := (ipCells ⟨fam, (s1, s2, s3), (t1, t2, t3), proto, hop, false, 0, 0, more, exts, data⟩ (.slice Ae ne ce) (.slice Ad nd cd))) CX 11 (.int .i64 0) rfl
    have BY := Aside0.mk (blk_put (cs' := (ipCells ⟨fam, (s1, s2, s3), (t1, t2, t3), proto, hop, false, 0, 0, false, exts, data⟩ (.slice Ae ne ce) (.slice Ad nd cd))) CX 12 (.bool false) rfl)
    clear CX
    have nb : ∀ i : Nat, w.heap.size + 1 ≠ ({ block := w.heap.size, off := i } : Addr).block := fun i => by show w.heap.size + 1 ≠ w.heap.size; omega
    have CZ := Aside0.mk (blk_far (blk_far (blk_far BZ.out (nb 10) (.int .u32 0)) (nb 11) (.int .i64 0)) (nb 12) (.bool false))
    have BB : Aside0 (Below w.heap.size w (((W1.setCell ⟨w.heap.size, 10, none⟩ (.int .u32 0)).setCell ⟨w.heap.size, 11, none⟩ (.int .i64 0)).setCell ⟨w.heap.size, 12, none⟩ (.bool false))) := ⟨((B1.out.setCell (Nat.le_refl _) _).setCell (Nat.le_refl _) _).setCell (Nat.le_refl _) _⟩
    clear BX BZ B1
    go_wp2_with (first | (refine wpList_load_row rfl 55 (.tmp 1) rfl w.heap.size rfl 55 (ipCells ⟨fam, (s1, s2, s3), (t1, t2, t3), proto, hop, false, 0, 0, false, exts, data⟩ (.slice Ae ne ce) (.slice Ad nd cd)) (0, 0) _ BY.out Try.underlying55 rfl (by kernel_rfl) ?_) | (refine wpList_store_row rfl 55 (.tmp 2) (.tmp 10) rfl (w.heap.size + 1) (ipCells ⟨fam, (s1, s2, s3), (t1, t2, t3), proto, hop, false, 0, 0, false, exts, data⟩ (.slice Ae ne ce) (.slice Ad nd cd)) rfl rfl 55 _ CZ.out (by kernel_rfl) rfl (ipCells_one _ _ _ _ _ _ _) ?_))
    have DZ := Aside0.mk (setRow_heap _ _ _ (ipCells ⟨fam, (s1, s2, s3), (t1, t2, t3), proto, hop, false, 0, 0, false, exts, data⟩ (.slice Ae ne ce) (.slice Ad nd cd)) _ _ CZ.out)
    refine bodyPost_ret (results_cell_row rfl _ _ (w.heap.size + 1) 55 (ipCells ⟨fam, (s1, s2, s3), (t1, t2, t3), proto, hop, false, 0, 0, false, exts, data⟩ (.slice Ae ne ce) (.slice Ad nd cd)) (0, 0) _ rfl DZ.out Try.underlying55 rfl (by kernel_rfl)) rfl ?_
    exact ⟨Ae, ne, ce, by simp [bare6], hne.symm, hle, Kd.C_below HE.out (below_setRow BB.out (by omega) _), below_setRow BB.out (by omega) _⟩
  · subst hf
    rw [HX.out] at BX ⊢
    clear HX
    have BN : Aside0 ((W1.alloc (.cells #[.int .i64 44] 3)).heap[W1.heap.size]? = some (.cells #[.int .i64 44] 3 (0, 0))) := ⟨blk_at rfl⟩
    have n1 : w.heap.size ≠ W1.heap.size := by have := (Array.getElem?_eq_some_iff.1 BX.out).1; omega
    have n2 : w.heap.size + 1 ≠ w.heap.size := by omega
    have B2 := blk_alloc BX.out (.cells #[.int .i64 44] 3)
    have c13' : (W1.alloc (.cells #[.int .i64 44] 3)).cell? ⟨w.heap.size, 13, none⟩ = some (.slice Ae ne ce) := blk_cell B2 13
    have f13' : (W1.alloc (.cells #[.int .i64 44] 3)).frozen? ⟨w.heap.size, 13, none⟩ = false := blk_frozen B2 13
    have BY := Aside0.mk (blk_put (cs' := (ipCells ⟨fam, (s1, s2, s3), (t1, t2, t3), proto, hop, true, id, off, more, exts, data⟩ (.slice (some ⟨W1.heap.size, 0, none⟩) 1 1) (.slice Ad nd cd))) B2 13 (.slice (some ⟨W1.heap.size, 0, none⟩) 1 1) rfl)
    have CZ := Aside0.mk (blk_far (blk_alloc BZ.out (.cells #[.int .i64 44] 3)) (p := ⟨w.heap.size, 13, none⟩) n2 (.slice (some ⟨W1.heap.size, 0, none⟩) 1 1))
    have CN := Aside0.mk (blk_far BN.out (p := ⟨w.heap.size, 13, none⟩) (fun h => n1 h.symm) (.slice (some ⟨W1.heap.size, 0, none⟩) 1 1))
    have n3 : W1.heap.size ≠ w.heap.size + 1 := by have := (Array.getElem?_eq_some_iff.1 BZ.out).1; omega
    have BB : Aside0 (Below w.heap.size w ((W1.alloc (.cells #[.int .i64 44] 3)).setCell ⟨w.heap.size, 13, none⟩ (.slice (some ⟨W1.heap.size, 0, none⟩) 1 1))) := ⟨(below_alloc B1.out _).setCell (Nat.le_refl _) _⟩
    clear BX BZ B1 B2 BN n1 n2
    go_wp2_with (first | (refine wpList_load_row rfl 55 (.tmp 1) rfl w.heap.size rfl 55 (ipCells ⟨fam, (s1, s2, s3), (t1, t2, t3), proto, hop, true, id, off, more, exts, data⟩ (.slice (some ⟨W1.heap.size, 0, none⟩) 1 1) (.slice Ad nd cd)) (0, 0) _ BY.out Try.underlying55 rfl (by kernel_rfl) ?_) | (refine wpList_store_row rfl 55 (.tmp 2) (.tmp 10) rfl (w.heap.size + 1) (ipCells ⟨fam, (s1, s2, s3), (t1, t2, t3), proto, hop, true, id, off, more, exts, data⟩ (.slice (some ⟨W1.heap.size, 0, none⟩) 1 1) (.slice Ad nd cd)) rfl rfl 55 _ CZ.out (by kernel_rfl) rfl (ipCells_one _ _ _ _ _ _ _) ?_))
    have DZ := Aside0.mk (setRow_heap _ _ _ (ipCells ⟨fam, (s1, s2, s3), (t1, t2, t3), proto, hop, true, id, off, more, exts, data⟩ (.slice (some ⟨W1.heap.size, 0, none⟩) 1 1) (.slice Ad nd cd)) _ _ CZ.out)
    have DN := Aside0.mk ((setRow_other _ (w.heap.size + 1) W1.heap.size (ipCells ⟨fam, (s1, s2, s3), (t1, t2, t3), proto, hop, true, id, off, more, exts, data⟩ (.slice (some ⟨W1.heap.size, 0, none⟩) 1 1) (.slice Ad nd cd)) n3).trans CN.out)
    refine bodyPost_ret (results_cell_row rfl _ _ (w.heap.size + 1) 55 (ipCells ⟨fam, (s1, s2, s3), (t1, t2, t3), proto, hop, true, id, off, more, exts, data⟩ (.slice (some ⟨W1.heap.size, 0, none⟩) 1 1) (.slice Ad nd cd)) (0, 0) _ rfl DZ.out Try.underlying55 rfl (by kernel_rfl)) rfl ?_
    exact ⟨some ⟨W1.heap.size, 0, none⟩, 1, 1, rfl, rfl, Nat.le_refl _, lit_nums (k := .i64) (xs := [44]) DN.out rfl (by omega), below_setRow BB.out (by omega) _⟩
end Go.Proofs.Ytgifcmbknkjemaa.Own
end
section
namespace Go.Proofs.Ytgifcmbknkjemaa.QQ
open Go.RowKit Go.Proofs.YtgifcmbknkjemaaW.PrintWords Go.Proofs.YtgifcmbknkjemaaW.PrintLast Go.Proofs.YtgifcmbknkjemaaW.PrintMore Go.Proofs.Ytgifcmbknkjemaa.Own
attribute [local go_sem] max2_int min2_int max_two min_two max_three min_three max_four min_four   -- for this text's walks alone
set_option linter.unusedVariables false
set_option linter.unusedSimpArgs false
def ip6_may_1.f (a0 : Int) : Option (Bool) := if a0 ≥ 0 then (some (decide (a0 ≤ 255))) else (some false)
set_option maxHeartbeats 8000000 in
set_option maxRecDepth 100000 in
theorem ip6_may_1.calls (a0 : Int) (r : Bool) (w : World) (h : ip6_may_1.f a0 = some r) :
    Calls Try.prog 160 #[.int .i64 a0] w fun e w' => e = .returned (.bool r) ∧ Drawn0 w w' := by
  have H : (if a0 ≥ 0 then (some (decide (a0 ≤ 255))) else (some false)) = some r := h
  clear h
  by_cases c2 : a0 ≥ 0
  · rw [if_pos c2] at H
    have c2b0 : decide (0 ≤ a0) = true := decide_eq_true c2
    clear c2
    obtain rfl := Option.some.inj H
    go_enter Try.func160, Try.ntmps160
    go_wp2
    go_ret
    exact ⟨by first | rfl | (simp; done) | (simp [*]; done), by repeat (first | exact Drawn0.refl _ | apply Drawn0.step)⟩
  · rw [if_neg c2] at H
    have c2b0 : decide (0 ≤ a0) = false := decide_eq_false c2
    clear c2
    obtain rfl := Option.some.inj H
    go_enter Try.func160, Try.ntmps160
    go_wp2
    go_ret
    exact ⟨by first | rfl | (simp; done) | (simp [*]; done), by repeat (first | exact Drawn0.refl _ | apply Drawn0.step)⟩
def slices_Equal_int_int.l0 : Nat → List Int → List Int → Int → Int → Option (Bool)
  | 0, _, _, _, _ => none
  | k + 1, x0, x1, x12, x13 => if x13 < x12 then (if 0 ≤ x13 then (if x13 < (x0.length : Int) then (if x13 < (x1.length : Int) then (if (rd x0 x13) = (rd x1 x13) then (slices_Equal_int_int.l0 k x0 x1 x12 (wrap64 (x13 + 1))) else (some false)) else (none)) else (none)) else (none)) else (some true)
def slices_Equal_int_int.f (k : Nat) (l0 : List Int) (l1 : List Int) : Option (Bool) := if (l0.length : Int) = (l1.length : Int) then (slices_Equal_int_int.l0 k l0 l1 (l0.length : Int) 0) else (some false)
theorem slices_Equal_int_int.mono_l : ∀ k, (∀ y0 y1 y2 y3, LeO (slices_Equal_int_int.l0 k y0 y1 y2 y3) (slices_Equal_int_int.l0 (k + 1) y0 y1 y2 y3))
  | 0 => fun _ _ _ _ r h => by simp [slices_Equal_int_int.l0] at h
  | k + 1 => by
    have ih0 := slices_Equal_int_int.mono_l k
    · intro y0 y1 y2 y3
      unfold slices_Equal_int_int.l0
      repeat' first
      | (with_reducible exact ih0 _ _ _ _)
      | (with_reducible exact LeO.refl _)
      | (with_reducible exact LeO.none _)
      | (with_reducible refine LeO.ite ?_ ?_)
      | (with_reducible refine LeO.bind ?_ (fun _ => ?_))
      | exact ih0 _ _ _ _
      | exact LeO.none _
      | refine LeO.ite ?_ ?_
      | refine LeO.bind ?_ (fun _ => ?_)
theorem slices_Equal_int_int.mono : ∀ a0 a1 k, LeO (slices_Equal_int_int.f k a0 a1) (slices_Equal_int_int.f (k + 1) a0 a1) := by
  intro a0 a1 k
  have ih0 := slices_Equal_int_int.mono_l k
  unfold slices_Equal_int_int.f
  repeat' first
      | (with_reducible exact ih0 _ _ _ _)
      | (with_reducible exact LeO.refl _)
      | (with_reducible exact LeO.none _)
      | (with_reducible refine LeO.ite ?_ ?_)
      | (with_reducible refine LeO.bind ?_ (fun _ => ?_))
      | exact ih0 _ _ _ _
      | exact LeO.none _
      | refine LeO.ite ?_ ?_
      | refine LeO.bind ?_ (fun _ => ?_)
set_option maxHeartbeats 8000000 in
set_option maxRecDepth 100000 in
theorem slices_Equal_int_int.calls (k : Nat) (A0 : Option Addr) (c0 : Nat) (l0 : List Int) (A1 : Option Addr) (c1 : Nat) (l1 : List Int) (r : Bool) (w : World) (hr0 : Kd.C (Kd.int .i64) w A0 l0.length l0) (hc0 : l0.length ≤ c0) (hr1 : Kd.C (Kd.int .i64) w A1 l1.length l1) (hc1 : l1.length ≤ c1) (h : slices_Equal_int_int.f k l0 l1 = some r) :
    Calls Try.prog 161 #[.slice A0 l0.length c0, .slice A1 l1.length c1] w fun e w' => e = .returned (.bool r) ∧ Drawn0 w w' := by
  have HR0 := Aside0.mk hr0
  have HC0 := Aside0.mk hc0
  clear hr0 hc0
  have HR1 := Aside0.mk hr1
  have HC1 := Aside0.mk hc1
  clear hr1 hc1
  have H : (if (l0.length : Int) = (l1.length : Int) then (slices_Equal_int_int.l0 k l0 l1 (l0.length : Int) 0) else (some false)) = some r := h
  clear h
  by_cases c3 : (l0.length : Int) = (l1.length : Int)
  · rw [if_pos c3] at H
    have c3b0 : ((l0.length : Int) == (l1.length : Int)) = true := beq_iff_eq.mpr c3
    have c3b1 : ((l0.length : Int) != (l1.length : Int)) = false := bne_eq_false_iff_eq.mpr c3
    have c3b2 : (l0.length == l1.length) = true := by first | simpa using c3 | (simp at c3 ⊢; omega)
    clear c3
    have H' := Aside0.mk H
    clear H
    go_enter Try.func161, Try.ntmps161
    go_wp2
    repeat (go_quiet (fail); try go_wp2)
    go_loopg [13] k (fun kq v13 w' => ∃ (x13_1 : Int), v13 = .int .i64 x13_1 ∧ Aside0 (slices_Equal_int_int.l0 kq l0 l1 (l0.length : Int) x13_1 = some r) ∧ Aside0 (kq ≤ k) ∧ Drawn0 w w')
    case atStart => exact ⟨(0), (by first | rfl | (simp; done) | (simp [*]; done)), H', ⟨Nat.le_refl _⟩, by repeat (first | exact Drawn0.refl _ | apply Drawn0.step)⟩
    case round =>
      clear H'
      try clear c1
      try clear p2
      try clear c3
      try clear c3b0
      try clear c3b1
      try clear c3b2
      obtain ⟨x13_1, rfl, HA, HK1, ⟨m1, rfl⟩⟩ := hrel
      cases gk with
      | zero => exact absurd HA.out (by simp [slices_Equal_int_int.l0])
      | succ k1 =>
        have H := HA.out
        clear HA
        simp only [slices_Equal_int_int.l0] at H
        by_cases c4 : x13_1 < (l0.length : Int)
        · rw [if_pos c4] at H
          have c4b0 : decide (x13_1 < (l0.length : Int)) = true := decide_eq_true c4
          clear c4
          by_cases c5 : 0 ≤ x13_1
          · rw [if_pos c5] at H
            have c5b0 : decide (0 ≤ x13_1) = true := decide_eq_true c5
            clear c5
            by_cases c6 : x13_1 < (l0.length : Int)
            · rw [if_pos c6] at H
              have c6b0 : decide (x13_1 < (l0.length : Int)) = true := decide_eq_true c6
              clear c6
              by_cases c7 : x13_1 < (l1.length : Int)
              · rw [if_pos c7] at H
                have c7b0 : decide (x13_1 < (l1.length : Int)) = true := decide_eq_true c7
                clear c7
                by_cases c8 : (rd l0 x13_1) = (rd l1 x13_1)
                · rw [if_pos c8] at H
                  have c8b0 : ((rd l0 x13_1) == (rd l1 x13_1)) = true := beq_iff_eq.mpr c8
                  have c8b1 : ((rd l0 x13_1) != (rd l1 x13_1)) = false := bne_eq_false_iff_eq.mpr c8
                  clear c8
                  have H' := Aside0.mk H
                  clear H
                  have p101 : 0 ≤ (x13_1 : Int) := of_decide_eq_true (by first | (with_reducible assumption) | assumption)
                  have q101 : x13_1 < (l0.length : Int) := of_decide_eq_true (by first | (with_reducible assumption) | assumption)
                  obtain ⟨ad101, e101, hx101_0⟩ := Kd.at_int HR0.out x13_1 p101 q101
                  cases e101
                  replace p101 := eq_true p101
                  replace q101 := eq_true q101
                  have p102 : 0 ≤ (x13_1 : Int) := of_decide_eq_true (by first | (with_reducible assumption) | assumption)
                  have q102 : x13_1 < (l1.length : Int) := of_decide_eq_true (by first | (with_reducible assumption) | assumption)
                  obtain ⟨ad102, e102, hx102_0⟩ := Kd.at_int HR1.out x13_1 p102 q102
                  cases e102
                  replace p102 := eq_true p102
                  replace q102 := eq_true q102
                  go_wp2
                  repeat (go_quiet (fail); try go_wp2)
                  go_roundg k1
                  case measure => have := HK1.out; omega
                  case rel => exact ⟨(wrap64 (x13_1 + 1)), (by first | rfl | (simp; done) | (simp [*]; done)), H', ⟨by have := HK1.out; omega⟩, by repeat (first | exact Drawn0.refl _ | apply Drawn0.step)⟩
                · rw [if_neg c8] at H
                  have c8b0 : ((rd l0 x13_1) == (rd l1 x13_1)) = false := beq_eq_false_iff_ne.mpr c8
                  have c8b1 : ((rd l0 x13_1) != (rd l1 x13_1)) = true := bne_iff_ne.mpr c8
                  obtain rfl := Option.some.inj H
                  have p101 : 0 ≤ (x13_1 : Int) := of_decide_eq_true (by first | (with_reducible assumption) | assumption)
                  have q101 : x13_1 < (l0.length : Int) := of_decide_eq_true (by first | (with_reducible assumption) | assumption)
                  obtain ⟨ad101, e101, hx101_0⟩ := Kd.at_int HR0.out x13_1 p101 q101
                  cases e101
                  replace p101 := eq_true p101
                  replace q101 := eq_true q101
                  have p102 : 0 ≤ (x13_1 : Int) := of_decide_eq_true (by first | (with_reducible assumption) | assumption)
                  have q102 : x13_1 < (l1.length : Int) := of_decide_eq_true (by first | (with_reducible assumption) | assumption)
                  obtain ⟨ad102, e102, hx102_0⟩ := Kd.at_int HR1.out x13_1 p102 q102
                  cases e102
                  replace p102 := eq_true p102
                  replace q102 := eq_true q102
                  go_wp2
                  repeat (go_quiet (fail); try go_wp2)
                  go_ret
                  exact ⟨by first | rfl | (simp; done) | (simp [*]; done), by repeat (first | exact Drawn0.refl _ | apply Drawn0.step)⟩
              · rw [if_neg c7] at H
                exact absurd H (by simp)
            · rw [if_neg c6] at H
              exact absurd H (by simp)
          · rw [if_neg c5] at H
            exact absurd H (by simp)
        · rw [if_neg c4] at H
          have c4b0 : decide (x13_1 < (l0.length : Int)) = false := decide_eq_false c4
          clear c4
          obtain rfl := Option.some.inj H
          go_wp2
          repeat (go_quiet (fail); try go_wp2)
          go_ret
          exact ⟨by first | rfl | (simp; done) | (simp [*]; done), by repeat (first | exact Drawn0.refl _ | apply Drawn0.step)⟩
  · rw [if_neg c3] at H
    have c3b0 : ((l0.length : Int) == (l1.length : Int)) = false := beq_eq_false_iff_ne.mpr c3
    have c3b1 : ((l0.length : Int) != (l1.length : Int)) = true := bne_iff_ne.mpr c3
    have c3b2 : (l0.length == l1.length) = false := by first | simpa using c3 | (simp at c3 ⊢; omega)
    obtain rfl := Option.some.inj H
    go_enter Try.func161, Try.ntmps161
    go_wp2
    repeat (go_quiet (fail); try go_wp2)
    go_ret
    exact ⟨by first | rfl | (simp; done) | (simp [*]; done), by repeat (first | exact Drawn0.refl _ | apply Drawn0.step)⟩
end Go.Proofs.Ytgifcmbknkjemaa.QQ
end
