/- What the law Ip6Writes rests on, part 16: contracts of the functions that it calls, and plain lemmas. No condition. -/
import Derived.Test.YtgifcmbknkjemaaZIp6Writes15
section
namespace Go.Proofs.Ytgifcmbknkjemaa.Own
open Go Go.RowKit Go.Proofs.YtgifcmbknkjemaaW.PrintWords Go.Proofs.YtgifcmbknkjemaaW.PrintLast Go.Proofs.YtgifcmbknkjemaaW.PrintMore
set_option linter.unusedVariables false
set_option linter.unusedSimpArgs false
theorem Walk_is {w : World} {next : Int} {A : Option Addr} {n c : Nat} {l : List Int} (hr : (Kd.int .u8).C w A n l) (hc : n ≤ c) (hby : Bytes l) (hn : n ≤ 140737488355000) :
    Calls Try.prog 51 #[.int .i64 next, .slice A n c] w (Walk6Post w (walk6 next l)) := Walk_at hr hc hby hn
theorem SameB_at {A B : Option Addr} {ca cb na nb : Nat} {x y : List Int} {w : World} (ha : (Kd.int .u8).C w A na x) (hb : (Kd.int .u8).C w B nb y) (hx : Bytes x) (hy : Bytes y) (hca : na ≤ ca) (hcb : nb ≤ cb) :
    Calls Try.prog 46 #[.slice A na ca, .slice B nb cb] w fun e w' => e = .returned (.bool (decide (x = y))) ∧ Below w.heap.size w w' := by
  have h1 : x.length = na := ha.1
  have h2 : y.length = nb := hb.1
  subst h1
  subst h2
  refine (stockaderef01_Same.calls A ca x B cb y (decide (x = y)) w ha hca hb hcb ?_).mono fun e w' h => ⟨h.1, h.2.below⟩
  unfold stockaderef01_Same.f
  rw [if_pos ⟨okB_iff.2 hx, okB_iff.2 hy⟩]
theorem size_alloc' (w : World) (o : Obj) : (w.alloc o).heap.size = w.heap.size + 1 := by simp
set_option maxHeartbeats 1000000 in
set_option maxRecDepth 100000 in
theorem Alive4_at (w : World) : Calls Try.prog 54 #[] w fun e w' => e = .returned (.bool true) ∧ Below w.heap.size w w' := by
  have hw : walk6 60 [17, 0, 1, 4, 0, 0, 0, 0, 9] = (17, [60], [9], 0) := by decide +kernel
  have hlit : (Kd.int .u8).C (w.alloc (.cells #[.int .u8 17, .int .u8 0, .int .u8 1, .int .u8 4, .int .u8 0, .int .u8 0, .int .u8 0, .int .u8 0, .int .u8 9] 5)) (some ⟨w.heap.size, 0, none⟩) 9 [17, 0, 1, 4, 0, 0, 0, 0, 9] := by
    refine ⟨rfl, by decide, fun _ => ⟨_, rfl, fun j p hj => ⟨[.int .u8 p], rfl, rfl, fun i u hu => ?_⟩⟩⟩
    have hj9 : j < 9 := by
      have := (List.getElem?_eq_some_iff.1 hj).1
      simpa using this
    obtain rfl : i = 0 := by
      have := (List.getElem?_eq_some_iff.1 hu).1
      simpa using this
    have hu' : u = .int .u8 p := by simpa using hu.symm
    subst hu'
    have h1 : ((⟨w.heap.size, 0, none⟩ : Addr).add (j * (Kd.int .u8).sz + 0)) = ⟨w.heap.size, j, none⟩ := by
      rw [show j * (Kd.int .u8).sz + 0 = j from by show j * 1 + 0 = j; omega]
      exact add_plain _ _
    rw [h1, blk_cell (blk_at rfl) j]
    match j, hj9, hj with
    | 0, _, hj => simp at hj; subst hj; rfl
    | 1, _, hj => simp at hj; subst hj; rfl
    | 2, _, hj => simp at hj; subst hj; rfl
    | 3, _, hj => simp at hj; subst hj; rfl
    | 4, _, hj => simp at hj; subst hj; rfl
    | 5, _, hj => simp at hj; subst hj; rfl
    | 6, _, hj => simp at hj; subst hj; rfl
    | 7, _, hj => simp at hj; subst hj; rfl
    | 8, _, hj => simp at hj; subst hj; rfl
  have hcall := Walk_is (next := 60) (c := 9) hlit (by omega) (fun y hy => by simp at hy; omega) (by omega)
  rw [hw] at hcall
  have HC := Aside0.mk hcall
  clear hlit hcall hw
  go_enter Try.func54, Try.ntmps54
  go_wp2_with (go_at_call 51; refine HC.out.mono ?_; rintro e w1 ⟨vE, vD, rfl, hE, hD, hB⟩; obtain ⟨Ae, ce, rfl, hce, hCE⟩ := Kd.R_reads hE; obtain ⟨Ad, cd, rfl, hcd, hCD⟩ := Kd.R_reads hD; obtain ⟨ae, rfl, e0⟩ := Kd.at_int hCE 0 (by omega) (by simp); obtain ⟨de, rfl, d0⟩ := Kd.at_int hCD 0 (by omega) (by simp); rw [show ((0 : Int)).toNat = 0 from rfl, Addr.add_zero'] at e0 d0; have HB := Aside0.mk hB; clear hE hD hCE hCD hB)
  go_ret
  exact ⟨rfl, below_then (below_alloc (Below.refl _ _) _) (by rw [size_alloc']; omega) HB.out⟩
structure IpV where
  fam : Int
  src : Int × Int × Int
  dst : Int × Int × Int
  proto : Int
  hop : Int
  frag : Bool
  id : Int
  off : Int
  more : Bool
  exts : List Int
  data : List Int
def ipCells (p : IpV) (vE vD : Value) : Array Value :=
  #[.int .i64 p.fam, .int .i64 p.src.1, .int .u64 p.src.2.1, .int .u64 p.src.2.2, .int .i64 p.dst.1, .int .u64 p.dst.2.1, .int .u64 p.dst.2.2, .int .i64 p.proto, .int .i64 p.hop, .bool p.frag, .int .u32 p.id, .int .i64 p.off, .bool p.more, vE, vD]
end Go.Proofs.Ytgifcmbknkjemaa.Own
end
section
namespace Go.Proofs.Ytgifcmbknkjemaa.Own
open Go Go.RowKit Go.Proofs.YtgifcmbknkjemaaW.PrintWords Go.Proofs.YtgifcmbknkjemaaW.PrintLast
set_option linter.unusedVariables false
def rightA (a : Int × Int × Int) : Bool := decide (a.1 = 6) || (decide (a.1 = 4) && decide (a.2.1 = 0) && decide (a.2.2 < 4294967296))
def d4 (x : Int) : List Int := [x / 16777216 % 256, x / 65536 % 256, x / 256 % 256, x % 256]
def d8 (x : Int) : List Int := [x / 72057594037927936 % 256, x / 281474976710656 % 256, x / 1099511627776 % 256, x / 4294967296 % 256, x / 16777216 % 256, x / 65536 % 256, x / 256 % 256, x % 256]
def bytesA (a : Int × Int × Int) : List Int := if rightA a = true then (if a.1 = 4 then d4 a.2.2 else d8 a.2.1 ++ d8 a.2.2) else []
def W64 (x : Int) : Prop := 0 ≤ x ∧ x < 18446744073709551616
def okA (a : Int × Int × Int) : Prop := W64 a.2.1 ∧ W64 a.2.2
theorem bytes_d4 (x : Int) : Bytes (d4 x) := fun c hc => by
  simp [d4] at hc
  omega
theorem bytes_d8 (x : Int) : Bytes (d8 x) := fun c hc => by
  simp [d8] at hc
  omega
theorem bytes_bytesA (a : Int × Int × Int) : Bytes (bytesA a) := by
  unfold bytesA
  split
  · split
    · exact bytes_d4 _
    · exact bytes_append (bytes_d8 _) (bytes_d8 _)
  · intro c hc; cases hc
end Go.Proofs.Ytgifcmbknkjemaa.Own
end
section
namespace Go.Proofs.Ytgifcmbknkjemaa.Own
open Go Go.RowKit Go.Proofs.YtgifcmbknkjemaaW.PrintWords Go.Proofs.YtgifcmbknkjemaaW.PrintLast
set_option linter.unusedVariables false
set_option linter.unusedSimpArgs false
def IpOk (p : IpV) : Prop := 0 ≤ p.id ∧ p.id ≤ 4294967295 ∧ okA p.src ∧ okA p.dst ∧ Bytes p.data
end Go.Proofs.Ytgifcmbknkjemaa.Own
end
section
namespace Go.Proofs.Ytgifcmbknkjemaa.Own
open Go.RowKit Go.ChangeShapes Go.WideShapes Go.Deep Go.Proofs.YtgifcmbknkjemaaW.PrintWords
set_option linter.unusedVariables false
set_option linter.unusedSimpArgs false
def kdA : Kd (Int × Int × Int) := Kd.pair (Kd.int .i64) (Kd.pair (Kd.int .u64) (Kd.int .u64))
def goodA (a : Int × Int × Int) : Prop := (Lit.int .i64 a.1).wf = true ∧ (Lit.int .u64 a.2.1).wf = true ∧ (Lit.int .u64 a.2.2).wf = true
set_option maxRecDepth 100000 in
theorem opens53 : Opens 53 kdA goodA :=
  Opens.struct (d := kdA) Try.underlying53 (by kernel_rfl) (OpensFs.cons rfl (by kernel_rfl) (Opens.int (by kernel_rfl)) (OpensFs.cons rfl (by kernel_rfl) (Opens.int (by kernel_rfl)) (OpensFs.one rfl (by kernel_rfl) (Opens.int (by kernel_rfl)))))
def kdIp0 : Kd (Int × (Int × Int × Int) × (Int × Int × Int) × Int × Int × Bool × Int × Int × Bool × List Int × List Int) :=
  Kd.pair (Kd.int .i64) (Kd.pair kdA (Kd.pair kdA (Kd.pair (Kd.int .i64) (Kd.pair (Kd.int .i64) (Kd.pair Kd.bool (Kd.pair (Kd.int .u32) (Kd.pair (Kd.int .i64) (Kd.pair Kd.bool (Kd.pair (Kd.slice 3 (Kd.int .i64)) (Kd.slice 5 (Kd.int .u8)))))))))))
def ipTup (p : IpV) : Int × (Int × Int × Int) × (Int × Int × Int) × Int × Int × Bool × Int × Int × Bool × List Int × List Int := (p.fam, p.src, p.dst, p.proto, p.hop, p.frag, p.id, p.off, p.more, p.exts, p.data)
def tupIp (t : Int × (Int × Int × Int) × (Int × Int × Int) × Int × Int × Bool × Int × Int × Bool × List Int × List Int) : IpV := ⟨t.1, t.2.1, t.2.2.1, t.2.2.2.1, t.2.2.2.2.1, t.2.2.2.2.2.1, t.2.2.2.2.2.2.1, t.2.2.2.2.2.2.2.1, t.2.2.2.2.2.2.2.2.1, t.2.2.2.2.2.2.2.2.2.1, t.2.2.2.2.2.2.2.2.2.2⟩
def kdIp : Kd IpV := Kd.iso kdIp0 ipTup
structure GoodIp (p : IpV) : Prop where
  ok : IpOk p
  exts : p.exts.length * 8 ≤ 140737488351232
  data : p.data.length ≤ 140737488351232
  off : -9223372036854775808 ≤ p.off ∧ p.off ≤ 9223372036854775807
  fam : -9223372036854775808 ≤ p.fam ∧ p.fam ≤ 9223372036854775807
  proto : -9223372036854775808 ≤ p.proto ∧ p.proto ≤ 9223372036854775807
  hop : -9223372036854775808 ≤ p.hop ∧ p.hop ≤ 9223372036854775807
set_option maxRecDepth 100000 in
theorem opens43 : Opens 43 (Kd.slice 3 (Kd.int .i64)) (fun l => l.length * 8 ≤ 140737488351232 ∧ ∀ a ∈ l, (Lit.int .i64 a).wf = true) :=
  Opens.slice (by kernel_rfl) (Opens.int (by kernel_rfl)) (by kernel_rfl) (by kernel_rfl)
set_option maxRecDepth 100000 in
theorem opens55 : Opens 55 kdIp GoodIp :=
  ((Opens.struct (d := kdIp0) Try.underlying55 (by kernel_rfl) (OpensFs.cons rfl (by kernel_rfl) (Opens.int (k := .i64) (by kernel_rfl)) (OpensFs.cons rfl (by kernel_rfl) opens53 (OpensFs.cons rfl (by kernel_rfl) opens53
    (OpensFs.cons rfl (by kernel_rfl) (Opens.int (k := .i64) (by kernel_rfl)) (OpensFs.cons rfl (by kernel_rfl) (Opens.int (k := .i64) (by kernel_rfl)) (OpensFs.cons rfl (by kernel_rfl) (Opens.bool (by kernel_rfl)) (OpensFs.cons rfl (by kernel_rfl) (Opens.int (k := .u32) (by kernel_rfl))
    (OpensFs.cons rfl (by kernel_rfl) (Opens.int (k := .i64) (by kernel_rfl)) (OpensFs.cons rfl (by kernel_rfl) (Opens.bool (by kernel_rfl)) (OpensFs.cons rfl (by kernel_rfl) opens43 (OpensFs.one rfl (by kernel_rfl) opens27)))))))))))).iso ipTup tupIp (fun _ => rfl)).imp fun p h => by
    obtain ⟨h0, h1, h2, h3, h4, _, h6, h7, _, h9, h10⟩ := h
    have u6 := u32_of_wf h6
    have a1 := u64_of_wf h1.2.1
    have a2 := u64_of_wf h1.2.2
    have b1 := u64_of_wf h2.2.1
    have b2 := u64_of_wf h2.2.2
    exact ⟨⟨u6.1, u6.2, ⟨⟨a1.1, by have := a1.2; exact Int.lt_add_one_of_le this⟩, ⟨a2.1, by have := a2.2; exact Int.lt_add_one_of_le this⟩⟩, ⟨⟨b1.1, by have := b1.2; exact Int.lt_add_one_of_le this⟩, ⟨b2.1, by have := b2.2; exact Int.lt_add_one_of_le this⟩⟩, h10.1⟩, h9.1, h10.2, i64_of_wf h7, i64_of_wf h0, i64_of_wf h3, i64_of_wf h4⟩
theorem kdA_cells {w : World} {a : Int × Int × Int} {cs : List Value} (h : kdA.K w a cs) : cs = [.int .i64 a.1, .int .u64 a.2.1, .int .u64 a.2.2] := by
  obtain ⟨c0, c1, rfl, h0, c2, c3, rfl, h2, h3⟩ := h
  rw [show c0 = _ from h0, show c2 = _ from h2, show c3 = _ from h3]
  rfl
theorem kdIp_cells {w : World} {p : IpV} {cs : List Value} (h : kdIp.K w p cs) : ∃ (Ae Ad : Option Addr) (ce cd : Nat), cs.toArray = ipCells p (.slice Ae p.exts.length ce) (.slice Ad p.data.length cd) ∧ p.exts.length ≤ ce ∧ p.data.length ≤ cd ∧ (Kd.int .i64).C w Ae p.exts.length p.exts ∧ (Kd.int .u8).C w Ad p.data.length p.data := by
  obtain ⟨c0, r0, rfl, h0, c1, r1, rfl, h1, c2, r2, rfl, h2, c3, r3, rfl, h3, c4, r4, rfl, h4, c5, r5, rfl, h5, c6, r6, rfl, h6, c7, r7, rfl, h7, c8, r8, rfl, h8, c9, c10, rfl, ⟨Ae, ce, h9, le, he⟩, ⟨Ad, cd, h10, ld, hd⟩⟩ := h
  refine ⟨Ae, Ad, ce, cd, ?_, le, ld, he, hd⟩
  rw [kdA_cells h1, kdA_cells h2, show c0 = _ from h0, show c3 = _ from h3, show c4 = _ from h4, show c5 = _ from h5, show c6 = _ from h6, show c7 = _ from h7, show c8 = _ from h8, h9, h10]
  rfl
end Go.Proofs.Ytgifcmbknkjemaa.Own
end
section
namespace Go.Proofs.Ytgifcmbknkjemaa.Own
open Go Go.RowKit Go.Proofs.YtgifcmbknkjemaaW.PrintWords Go.Proofs.YtgifcmbknkjemaaW.PrintLast
set_option linter.unusedVariables false
set_option linter.unusedSimpArgs false
def may6 (p : IpV) : Bool :=
  decide (p.fam = 6) && decide (p.src.1 = 6) && decide (p.dst.1 = 6) && decide (0 ≤ p.proto ∧ p.proto ≤ 255) && decide (1 ≤ p.hop ∧ p.hop ≤ 255) && decide (p.data.length ≤ 65000)
    && (if p.frag = true then (decide (p.exts = []) || decide (p.exts = [44])) && decide (0 ≤ p.off) && decide (p.off % 8 = 0) && decide (p.off + p.data.length ≤ 65535) && !(p.more && decide (p.data.length % 8 ≠ 0)) && (p.more || decide (0 < p.off)) else decide (p.exts = []))
def place6 (p : IpV) : Int := if p.more = true then p.off + 1 else p.off
def ext6 (p : IpV) : List Int := if p.frag = true then put32 (put16 [p.proto % 256, 0] (place6 p)) p.id else []
def next6h (p : IpV) : Int := if p.frag = true then 44 else p.proto
def build6 (p : IpV) : List Int × Int :=
  if may6 p = true then (put16 [96, 0, 0, 0] ((ext6 p).length + p.data.length) ++ [next6h p % 256, p.hop % 256] ++ bytesA p.src ++ bytesA p.dst ++ ext6 p ++ p.data, 0) else ([], 1)
structure May6 (p : IpV) : Prop where
  fam : p.fam = 6
  src : p.src.1 = 6
  dst : p.dst.1 = 6
  proto : 0 ≤ p.proto ∧ p.proto ≤ 255
  hop : 1 ≤ p.hop ∧ p.hop ≤ 255
  len : p.data.length ≤ 65000
  nofrag : p.frag = false → p.exts = []
  frag : p.frag = true → 0 ≤ p.off ∧ p.off % 8 = 0 ∧ p.off + p.data.length ≤ 65535 ∧ (p.more = true → p.data.length % 8 = 0) ∧ (p.more = true ∨ 0 < p.off)
theorem may6_has {p : IpV} (h : may6 p = true) : May6 p := by
  simp only [may6, Bool.and_eq_true, decide_eq_true_eq] at h
  obtain ⟨⟨⟨⟨⟨⟨h1, h2⟩, h3⟩, h4⟩, h5⟩, h6⟩, h7⟩ := h
  refine ⟨h1, h2, h3, h4, h5, h6, fun hf => ?_, fun hf => ?_⟩
  · rw [hf] at h7
    simpa using h7
  · rw [hf] at h7
    simp only [if_true, Bool.and_eq_true, decide_eq_true_eq] at h7
    obtain ⟨⟨⟨⟨⟨g1, g2⟩, g3⟩, g4⟩, g5⟩, g6⟩ := h7
    refine ⟨g2, g3, g4, fun hm => ?_, ?_⟩
    · rw [hm] at g5
      simp at g5
      omega
    · simpa using g6
theorem ext6_len (p : IpV) : (ext6 p).length = if p.frag = true then 8 else 0 := by
  unfold ext6
  split <;> rfl
end Go.Proofs.Ytgifcmbknkjemaa.Own
end
section
namespace Go.Proofs.Ytgifcmbknkjemaa.Own
open Go Go.RowKit Go.Proofs.YtgifcmbknkjemaaW.PrintWords Go.Proofs.YtgifcmbknkjemaaW.PrintLast Go.Proofs.YtgifcmbknkjemaaW.PrintMore
set_option linter.unusedVariables false
set_option linter.unusedSimpArgs false
theorem right_is {a : Int × Int × Int} (ha : okA a) : GA.addr_Right.f a.1 a.2.1 a.2.2 = some (rightA a) := by
  obtain ⟨f, x, y⟩ := a
  have h1 := ha.2.1
  have h2 := ha.2.2
  simp only at h1 h2
  unfold GA.addr_Right.f rightA
  simp only
  by_cases h4 : f = 4
  · subst h4
    rw [if_pos rfl]
    by_cases hx : x = 0
    · subst hx
      rw [if_pos rfl]
      by_cases hy : y < 4294967296
      · have : y / 4294967296 = 0 := by omega
        simp [this, hy]
      · have : ¬ y / 4294967296 = 0 := by omega
        simp [this, hy]
    · rw [if_neg hx]
      simp [hx]
  · rw [if_neg h4]
    by_cases h6 : f = 6
    · subst h6; simp
    · simp [h4, h6]
theorem rright_is {a : Int × Int × Int} (ha : okA a) : GA.stockaderef02_Right.f a.1 a.2.1 a.2.2 = some (rightA a) := by
  obtain ⟨f, x, y⟩ := a
  unfold GA.stockaderef02_Right.f rightA
  simp only
  by_cases h6 : f = 6
  · subst h6; simp
  · rw [if_neg h6]
    by_cases h4 : f = 4
    · subst h4
      rw [if_pos rfl]
      by_cases hx : x = 0
      · subst hx
        simp
      · simp [hx]
    · simp [h4, h6]
theorem ab_hi {f x y : Int} {out R : List Int} (i : Nat) (h64 : 64 ≤ i) (hi : i ≤ 120) (ho : out.length ≤ 100) (h : Ev (fun k => GA.addr_Bytes.l0 k (out ++ [x / 2 ^ (i - 64) % 256]) ((i - 8 : Nat) : Int) f x y) R) :
    Ev (fun k => GA.addr_Bytes.l0 k out (i : Int) f x y) R := by
  refine Ev.step (fun k => ?_) h
  have e1 : wrap64 ((i : Int) - 64) = ((i - 64 : Nat) : Int) := by rw [w64 _ (by omega) (by omega)]; omega
  have e2 : wrap64 ((i : Int) - 8) = ((i - 8 : Nat) : Int) := by rw [w64 _ (by omega) (by omega)]; omega
  have e3 : shr .u64 x ((i - 64 : Nat) : Int) = x / 2 ^ (i - 64) := by unfold shr; rw [Int.toNat_natCast, Nat.min_eq_left (by simp [IntKind.bits]; omega)]
  rw [GA.addr_Bytes.l0, if_pos (by omega), if_pos (by omega), e1, if_pos (by omega), if_pos (by omega), e2, e3]
theorem ab_lo {f x y : Int} {out R : List Int} (i : Nat) (h64 : i < 64) (h8 : 8 ≤ i) (ho : out.length ≤ 100) (h : Ev (fun k => GA.addr_Bytes.l0 k (out ++ [y / 2 ^ i % 256]) ((i - 8 : Nat) : Int) f x y) R) :
    Ev (fun k => GA.addr_Bytes.l0 k out (i : Int) f x y) R := by
  refine Ev.step (fun k => ?_) h
  have e2 : wrap64 ((i : Int) - 8) = ((i - 8 : Nat) : Int) := by rw [w64 _ (by omega) (by omega)]; omega
  have e3 : shr .u64 y (i : Int) = y / 2 ^ i := by unfold shr; rw [Int.toNat_natCast, Nat.min_eq_left (by simp [IntKind.bits]; omega)]
  rw [GA.addr_Bytes.l0, if_pos (by omega), if_neg (by omega), if_pos (by omega), if_pos (by omega), e2, e3]
theorem ab_end {f x y : Int} {out : List Int} (ho : out.length ≤ 100) : Ev (fun k => GA.addr_Bytes.l0 k out 0 f x y) (out ++ [y % 256]) := by
  refine Ev.step (fun k => ?_) (Ev.step (f := fun _ => some (out ++ [y % 256])) (g := fun k => GA.addr_Bytes.l0 k (out ++ [y % 256]) (-8) f x y) (fun k => ?_) (Ev.now _))
  · have e2 : wrap64 ((0 : Int) - 8) = -8 := by rw [w64 _ (by omega) (by omega)]; omega
    have e3 : shr .u64 y 0 = y := by unfold shr; simp
    rw [GA.addr_Bytes.l0, if_pos (by omega), if_neg (by omega), if_pos (by omega), if_pos (by omega), e2, e3]
  · rw [GA.addr_Bytes.l0, if_neg (by omega)]
theorem addr_Bytes_some {a : Int × Int × Int} (ha : okA a) : ∃ k, GA.addr_Bytes.f k a.1 a.2.1 a.2.2 = some (bytesA a) := by
  have hr := right_is ha
  obtain ⟨f, x, y⟩ := a
  unfold GA.addr_Bytes.f bytesA
  rw [hr]
  simp only [Option.bind_some]
  cases hq : rightA (f, x, y) with
  | false => exact ⟨0, by simp⟩
  | true =>
    simp only [if_true]
    unfold GA.addr_bits.f
    by_cases h4 : f = 4
    · rw [if_pos h4, if_pos h4]
      simp only [Option.bind_some]
      rw [show wrap64 (32 - 8) = ((24 : Nat) : Int) by (rw [w64 _ (by omega) (by omega)]; rfl)]
      refine (Ev.rounds (g := fun k => GA.addr_Bytes.l0 k [] ((24 : Nat) : Int) f x y) ?_)
      refine ab_lo 24 (by omega) (by omega) (by simp) ?_
      refine ab_lo 16 (by omega) (by omega) (by simp) ?_
      refine ab_lo 8 (by omega) (by omega) (by simp) ?_
      exact ab_end (by simp)
    · rw [if_neg h4, if_neg h4]
      simp only [Option.bind_some]
      rw [show wrap64 (128 - 8) = ((120 : Nat) : Int) by (rw [w64 _ (by omega) (by omega)]; rfl)]
      refine (Ev.rounds (g := fun k => GA.addr_Bytes.l0 k [] ((120 : Nat) : Int) f x y) ?_)
      refine ab_hi 120 (by omega) (by omega) (by simp) ?_
      refine ab_hi 112 (by omega) (by omega) (by simp) ?_
      refine ab_hi 104 (by omega) (by omega) (by simp) ?_
      refine ab_hi 96 (by omega) (by omega) (by simp) ?_
      refine ab_hi 88 (by omega) (by omega) (by simp) ?_
      refine ab_hi 80 (by omega) (by omega) (by simp) ?_
      refine ab_hi 72 (by omega) (by omega) (by simp) ?_
      refine ab_hi 64 (by omega) (by omega) (by simp) ?_
      refine ab_lo 56 (by omega) (by omega) (by simp) ?_
      refine ab_lo 48 (by omega) (by omega) (by simp) ?_
      refine ab_lo 40 (by omega) (by omega) (by simp) ?_
      refine ab_lo 32 (by omega) (by omega) (by simp) ?_
      refine ab_lo 24 (by omega) (by omega) (by simp) ?_
      refine ab_lo 16 (by omega) (by omega) (by simp) ?_
      refine ab_lo 8 (by omega) (by omega) (by simp) ?_
      have he := ab_end (f := f) (x := x) (y := y) (out := [] ++ [x / 2 ^ (120 - 64) % 256] ++ [x / 2 ^ (112 - 64) % 256] ++ [x / 2 ^ (104 - 64) % 256] ++ [x / 2 ^ (96 - 64) % 256] ++ [x / 2 ^ (88 - 64) % 256] ++ [x / 2 ^ (80 - 64) % 256] ++ [x / 2 ^ (72 - 64) % 256] ++ [x / 2 ^ (64 - 64) % 256] ++ [y / 2 ^ 56 % 256] ++ [y / 2 ^ 48 % 256] ++ [y / 2 ^ 40 % 256] ++ [y / 2 ^ 32 % 256] ++ [y / 2 ^ 24 % 256] ++ [y / 2 ^ 16 % 256] ++ [y / 2 ^ 8 % 256]) (by simp)
      have hz : x / 2 ^ (64 - 64) % 256 = x % 256 := by simp
      rw [hz] at he ⊢
      exact he
theorem and1u (x : Int) (h0 : 0 ≤ x) (h1 : x < 18446744073709551616) : Go.bits .and .u64 x 1 = x % 2 :=
  bits_mask .u64 64 (by decide) (fun n h0 h1 => by rw [IntKind.wrap_u64]; omega) 1 (by decide) x h0 h1
theorem div_two_pow {x : Int} (n : Nat) (h0 : 0 ≤ x) (h1 : x < 18446744073709551616) : 0 ≤ x / 2 ^ n ∧ x / 2 ^ n < 18446744073709551616 := by
  have hp : (0 : Int) < 2 ^ n := Int.pow_pos (by decide)
  refine ⟨Int.ediv_nonneg h0 (Int.le_of_lt hp), ?_⟩
  exact Int.lt_of_le_of_lt (Int.ediv_le_self _ h0) h1
theorem bit_is {X : Int} (h : W64 X) (n : Int) (m : Nat) (hn : n = m) (hm : m ≤ 63) : wrap64 (Go.bits .and .u64 (shr .u64 X n) 1) = X / 2 ^ m % 2 := by
  subst hn
  have hs : shr .u64 X (m : Int) = X / 2 ^ m := by
    unfold shr
    rw [Int.toNat_natCast, Nat.min_eq_left (by simp [IntKind.bits]; omega)]
  have hd := div_two_pow m h.1 h.2
  rw [hs, and1u _ hd.1 hd.2]
  exact w64 _ (by omega) (by omega)
theorem bit_next (q : Int) (j : Nat) : (q / 2 % 2 ^ j) * 2 + q % 2 = q % 2 ^ (j + 1) := by
  have hm : (0 : Int) < 2 ^ j := Int.pow_pos (by decide)
  have hp : (2 : Int) ^ (j + 1) = 2 * 2 ^ j := by rw [Int.pow_succ, Int.mul_comm]
  have r0 := Int.emod_nonneg (q / 2) (Int.ne_of_gt hm)
  have r1 := Int.emod_lt_of_pos (q / 2) hm
  have ha := Int.mul_ediv_add_emod (q / 2) (2 ^ j)
  have hq : q = ((q / 2 % 2 ^ j) * 2 + q % 2) + 2 * 2 ^ j * (q / 2 / 2 ^ j) := by
    rw [Int.mul_assoc]
    omega
  have h1 := Int.add_mul_emod_self_left ((q / 2 % 2 ^ j) * 2 + q % 2) (2 * 2 ^ j) (q / 2 / 2 ^ j)
  rw [← hq] at h1
  rw [hp, h1]
  exact (Int.emod_eq_of_lt (by omega) (by omega)).symm
theorem or_bit (v b : Int) (h0 : 0 ≤ v) (h1 : v < 256) (hb : b = 0 ∨ b = 1) : Go.bits .or .i64 (wrap64 (v * 2)) b = v * 2 + b := by
  rw [w64 _ (by omega) (by omega)]
  exact bits_join .i64 63 (by decide) wraps_i64 1 (v * 2) b (by omega) (by omega) (by omega) (by omega) (by omega) (by omega)
theorem ref_byte {fam hi lo X : Int} {out : List Int} {i : Nat} {S : Nat} {r : List Int} (hX : W64 X) (hS : 8 ≤ S) (hi8 : i ≤ 120) (hout : out.length ≤ 100)
    (hbit : ∀ j : Nat, j < 8 → GA.stockaderef02_Bit.f fam hi lo (wrap64 ((i : Int) + j)) = some (X / 2 ^ (S - 1 - j) % 2))
    (h : Ev (fun k => GA.stockaderef02_Bytes.l0 k (out ++ [X / 2 ^ (S - 8) % 256]) ((i + 8 : Nat) : Int) fam hi lo) r) (d : Nat) :
    ∀ j : Nat, j + d = 8 → Ev (fun k => GA.stockaderef02_Bytes.l1 k out i (X / 2 ^ (S - j) % 2 ^ j) j fam hi lo) r := by
  induction d with
  | zero =>
    intro j hj
    obtain rfl : j = 8 := by omega
    refine Ev.step (fun k => ?_) h
    rw [GA.stockaderef02_Bytes.l1]
    rw [if_neg (by omega), if_pos (by omega)]
    have e1 : wrap64 ((i : Int) + 8) = ((i + 8 : Nat) : Int) := by rw [w64 _ (by omega) (by omega)]; omega
    have e2 : X / 2 ^ (S - 8) % 2 ^ 8 % 256 = X / 2 ^ (S - 8) % 256 := by
      have : (2 : Int) ^ 8 = 256 := by decide
      rw [this, Int.emod_emod]
    rw [e1, e2]
  | succ d ih =>
    intro j hj
    have hih := ih (j + 1) (by omega)
    refine Ev.step (fun k => ?_) hih
    rw [GA.stockaderef02_Bytes.l1]
    rw [if_pos (by omega), hbit j (by omega)]
    simp only [Option.bind_some]
    have e1 : wrap64 ((j : Int) + 1) = ((j + 1 : Nat) : Int) := by rw [w64 _ (by omega) (by omega)]; omega
    have hq : X / 2 ^ (S - j) = X / 2 ^ (S - 1 - j) / 2 := by
      rw [Int.ediv_ediv_of_nonneg (Int.le_of_lt (Int.pow_pos (by decide))), ← Int.pow_succ]
      congr 2
      omega
    have hv0 : 0 ≤ X / 2 ^ (S - j) % 2 ^ j := Int.emod_nonneg _ (Int.ne_of_gt (Int.pow_pos (by decide)))
    have hv1 : X / 2 ^ (S - j) % 2 ^ j < 256 := by
      have h1 := Int.emod_lt_of_pos (X / 2 ^ (S - j)) (Int.pow_pos (by decide) : (0 : Int) < 2 ^ j)
      have h2 : (2 : Nat) ^ j ≤ 2 ^ 7 := Nat.pow_le_pow_right (by decide) (by omega)
      have h3 : ((2 ^ j : Nat) : Int) = 2 ^ j := by simp
      omega
    rw [or_bit _ _ hv0 hv1 (by omega), e1, hq, bit_next]
    have : S - (j + 1) = S - 1 - j := by omega
    rw [this]
set_option maxRecDepth 100000 in
theorem ref_bytes4 {hi lo : Int} (hl : W64 lo) (hl4 : lo < 4294967296) : Ev (fun k => GA.stockaderef02_Bytes.l0 k [] 0 4 hi lo) (d4 lo) := by
  have hbit : ∀ (i j : Nat), i + j ≤ 31 → GA.stockaderef02_Bit.f 4 hi lo (wrap64 ((i : Int) + j)) = some (lo / 2 ^ (32 - i - 1 - j) % 2) := fun i j h => by
    rw [w64 _ (by omega) (by omega)]
    unfold GA.stockaderef02_Bit.f
    have e : wrap64 (31 - ((i : Int) + j)) = ((32 - i - 1 - j : Nat) : Int) := by rw [w64 _ (by omega) (by omega)]; omega
    rw [if_pos rfl, e, if_pos (by omega), bit_is hl _ (32 - i - 1 - j) rfl (by omega)]
  have step : ∀ (i : Nat) (out : List Int), i + 8 ≤ 32 → out.length ≤ 100 → Ev (fun k => GA.stockaderef02_Bytes.l0 k (out ++ [lo / 2 ^ (32 - i - 8) % 256]) ((i + 8 : Nat) : Int) 4 hi lo) (d4 lo) → Ev (fun k => GA.stockaderef02_Bytes.l0 k out (i : Int) 4 hi lo) (d4 lo) := fun i out hi8 ho h => by
    have h1 := ref_byte hl (S := 32 - i) (i := i) (by omega) (by omega) ho (fun j hj => hbit i j (by omega)) h 8 0 rfl
    refine Ev.step (fun k => ?_) h1
    rw [GA.stockaderef02_Bytes.l0]
    unfold GA.stockaderef02_Size.f
    rw [if_pos rfl]
    simp only [Option.bind_some]
    rw [if_pos (by omega)]
    simp
  refine step 0 [] (by omega) (by simp) ?_
  refine step 8 _ (by omega) (by simp) ?_
  refine step 16 _ (by omega) (by simp) ?_
  refine step 24 _ (by omega) (by simp) ?_
  refine Ev.step (fun k => ?_) (Ev.now _)
  rw [GA.stockaderef02_Bytes.l0]
  unfold GA.stockaderef02_Size.f
  simp [d4]
set_option maxRecDepth 100000 in
theorem ref_bytes6 {fam hi lo : Int} (hf : fam ≠ 4) (hh : W64 hi) (hl : W64 lo) : Ev (fun k => GA.stockaderef02_Bytes.l0 k [] 0 fam hi lo) (d8 hi ++ d8 lo) := by
  have hbitH : ∀ (i j : Nat), i + j ≤ 63 → GA.stockaderef02_Bit.f fam hi lo (wrap64 ((i : Int) + j)) = some (hi / 2 ^ (64 - i - 1 - j) % 2) := fun i j h => by
    rw [w64 _ (by omega) (by omega)]
    unfold GA.stockaderef02_Bit.f
    have e : wrap64 (63 - ((i : Int) + j)) = ((64 - i - 1 - j : Nat) : Int) := by rw [w64 _ (by omega) (by omega)]; omega
    rw [if_neg hf, if_pos (by omega), e, if_pos (by omega), bit_is hh _ (64 - i - 1 - j) rfl (by omega)]
  have hbitL : ∀ (i j : Nat), 64 ≤ i + j → i + j ≤ 127 → GA.stockaderef02_Bit.f fam hi lo (wrap64 ((i : Int) + j)) = some (lo / 2 ^ (128 - i - 1 - j) % 2) := fun i j h h' => by
    rw [w64 _ (by omega) (by omega)]
    unfold GA.stockaderef02_Bit.f
    have e : wrap64 (127 - ((i : Int) + j)) = ((128 - i - 1 - j : Nat) : Int) := by rw [w64 _ (by omega) (by omega)]; omega
    rw [if_neg hf, if_neg (by omega), e, if_pos (by omega), bit_is hl _ (128 - i - 1 - j) rfl (by omega)]
  have one : ∀ (i : Nat) (out R : List Int), i + 8 ≤ 128 → Ev (fun k => GA.stockaderef02_Bytes.l1 k out (i : Int) 0 0 fam hi lo) R → Ev (fun k => GA.stockaderef02_Bytes.l0 k out (i : Int) fam hi lo) R := fun i out R hi8 h => by
    refine Ev.step (fun k => ?_) h
    rw [GA.stockaderef02_Bytes.l0]
    unfold GA.stockaderef02_Size.f
    rw [if_neg hf]
    simp only [Option.bind_some]
    rw [if_pos (by omega)]
  have stepH : ∀ (i : Nat) (out R : List Int), i + 8 ≤ 64 → out.length ≤ 100 → Ev (fun k => GA.stockaderef02_Bytes.l0 k (out ++ [hi / 2 ^ (64 - i - 8) % 256]) ((i + 8 : Nat) : Int) fam hi lo) R → Ev (fun k => GA.stockaderef02_Bytes.l0 k out (i : Int) fam hi lo) R := fun i out R hi8 ho h => by
    have h1 := ref_byte hh (S := 64 - i) (i := i) (by omega) (by omega) ho (fun j hj => hbitH i j (by omega)) h 8 0 rfl
    refine one i out R (by omega) (Ev.congr (fun k => ?_) h1)
    simp
  have stepL : ∀ (i : Nat) (out R : List Int), 64 ≤ i → i + 8 ≤ 128 → out.length ≤ 100 → Ev (fun k => GA.stockaderef02_Bytes.l0 k (out ++ [lo / 2 ^ (128 - i - 8) % 256]) ((i + 8 : Nat) : Int) fam hi lo) R → Ev (fun k => GA.stockaderef02_Bytes.l0 k out (i : Int) fam hi lo) R := fun i out R h64 hi8 ho h => by
    have h1 := ref_byte hl (S := 128 - i) (i := i) (by omega) (by omega) ho (fun j hj => hbitL i j (by omega) (by omega)) h 8 0 rfl
    refine one i out R (by omega) (Ev.congr (fun k => ?_) h1)
    simp
  refine stepH 0 [] _ (by omega) (by simp) ?_
  refine stepH 8 _ _ (by omega) (by simp) ?_
  refine stepH 16 _ _ (by omega) (by simp) ?_
  refine stepH 24 _ _ (by omega) (by simp) ?_
  refine stepH 32 _ _ (by omega) (by simp) ?_
  refine stepH 40 _ _ (by omega) (by simp) ?_
  refine stepH 48 _ _ (by omega) (by simp) ?_
  refine stepH 56 _ _ (by omega) (by simp) ?_
  refine stepL 64 _ _ (by omega) (by omega) (by simp) ?_
  refine stepL 72 _ _ (by omega) (by omega) (by simp) ?_
  refine stepL 80 _ _ (by omega) (by omega) (by simp) ?_
  refine stepL 88 _ _ (by omega) (by omega) (by simp) ?_
  refine stepL 96 _ _ (by omega) (by omega) (by simp) ?_
  refine stepL 104 _ _ (by omega) (by omega) (by simp) ?_
  refine stepL 112 _ _ (by omega) (by omega) (by simp) ?_
  refine stepL 120 _ _ (by omega) (by omega) (by simp) ?_
  refine Ev.step (fun k => ?_) (Ev.now _)
  rw [GA.stockaderef02_Bytes.l0]
  unfold GA.stockaderef02_Size.f
  rw [if_neg hf]
  simp [d8]
theorem raddr_Bytes_some {a : Int × Int × Int} (ha : okA a) : ∃ k, GA.stockaderef02_Bytes.f k a.1 a.2.1 a.2.2 = some (bytesA a) := by
  have hr := rright_is ha
  obtain ⟨f, x, y⟩ := a
  have hx := ha.1
  have hy := ha.2
  simp only at hx hy
  unfold GA.stockaderef02_Bytes.f bytesA
  rw [hr]
  simp only [Option.bind_some]
  cases hq : rightA (f, x, y) with
  | false => exact ⟨0, by simp⟩
  | true =>
    simp only [if_true]
    by_cases h4 : f = 4
    · subst h4
      have : y < 4294967296 := by
        simp [rightA] at hq
        exact hq.2
      rw [if_pos rfl]
      exact (ref_bytes4 hy this).rounds
    · rw [if_neg h4]
      exact (ref_bytes6 h4 hx hy).rounds
theorem addrBytes_at (a : Int × Int × Int) (ha : okA a) (w : World) :
    Calls Try.prog 117 #[.agg #[.int .i64 a.1, .int .u64 a.2.1, .int .u64 a.2.2]] w fun e w' => ∃ v : Value, e = .returned v ∧ Kd.R (Kd.int .u8) 5 w' w.heap.size (fun _ => True) v (bytesA a) ∧ Below w.heap.size w w' :=
  have ⟨k, hk⟩ := addr_Bytes_some ha
  GA.addr_Bytes.calls k a.1 a.2.1 a.2.2 _ w hk
theorem raddrBytes_at (a : Int × Int × Int) (ha : okA a) (w : World) :
    Calls Try.prog 119 #[.agg #[.int .i64 a.1, .int .u64 a.2.1, .int .u64 a.2.2]] w fun e w' => ∃ v : Value, e = .returned v ∧ Kd.R (Kd.int .u8) 5 w' w.heap.size (fun _ => True) v (bytesA a) ∧ Below w.heap.size w w' := by
  obtain ⟨k, hk⟩ := raddr_Bytes_some ha
  exact GA.stockaderef02_Bytes.calls k a.1 a.2.1 a.2.2 _ w hk
end Go.Proofs.Ytgifcmbknkjemaa.Own
end
