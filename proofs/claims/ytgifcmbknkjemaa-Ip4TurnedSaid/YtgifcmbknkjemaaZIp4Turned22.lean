/- What the law Ip4Turned rests on, part 22: contracts of the functions that it calls, and plain lemmas. No condition. -/
import Derived.Test.YtgifcmbknkjemaaZIp4Turned21
import Derived.Laws.BitsAllLaws
section
namespace Go.Proofs.Ytgifcmbknkjemaa.Own
open Go Go.RowKit Go.Proofs.YtgifcmbknkjemaaW.PrintWords Go.Proofs.YtgifcmbknkjemaaW.PrintLast Go.Proofs.YtgifcmbknkjemaaW.PrintMore
set_option linter.unusedVariables false
set_option linter.unusedSimpArgs false
theorem xor_in4 (x y : Int) : 0 ≤ Go.bits .xor .u8 x y ∧ Go.bits .xor .u8 x y ≤ 255 := by
  show 0 ≤ IntKind.u8.wrap _ ∧ IntKind.u8.wrap _ ≤ 255
  rw [IntKind.wrap_u8]
  omega
theorem xor_moves {x y : Int} (hx : 0 ≤ x ∧ x ≤ 255) (hy : 0 ≤ y ∧ y ≤ 255) (hn : y ≠ 0) : Go.bits .xor .u8 x y ≠ x := by
  obtain ⟨a, rfl⟩ := Int.eq_ofNat_of_zero_le hx.1
  obtain ⟨b, rfl⟩ := Int.eq_ofNat_of_zero_le hy.1
  show Go.bits .xor .u8 ((a : Nat) : Int) ((b : Nat) : Int) ≠ ((a : Nat) : Int)
  rw [u8_xor_nat a b (by omega) (by omega)]
  intro h
  have h' : a ^^^ b = a := by omega
  have : b = 0 := by
    have h2 : a ^^^ (a ^^^ b) = a ^^^ a := by rw [h']
    rw [← Nat.xor_assoc, Nat.xor_self, Nat.zero_xor] at h2
    exact h2
  omega
theorem bytes_rd4 (xs : List Int) (h : Bytes xs) (i : Int) : 0 ≤ rd xs i ∧ rd xs i ≤ 255 := by
  unfold rd
  rw [List.getD_eq_getElem?_getD]
  rcases hh : xs[i.toNat]? with _ | c
  · decide
  · exact h c (List.mem_of_getElem? hh)
theorem bytes_set4 {xs : List Int} (h : Bytes xs) (p : Nat) {v : Int} (hv : 0 ≤ v ∧ v ≤ 255) : Bytes (xs.set p v) := fun c hc => by
  rcases List.mem_or_eq_of_mem_set hc with hc | rfl
  · exact h c hc
  · exact hv
set_option maxRecDepth 100000 in
theorem xor_69 {y : Int} (hy : 16 ≤ y ∧ y ≤ 255) : Go.bits .xor .u8 69 y / 16 ≠ 4 := by
  obtain ⟨b, rfl⟩ := Int.eq_ofNat_of_zero_le (show 0 ≤ y by omega)
  show Go.bits .xor .u8 ((69 : Nat) : Int) ((b : Nat) : Int) / 16 ≠ 4
  rw [u8_xor_nat 69 b (by omega) (by omega)]
  have : ∀ b : Fin 256, 16 ≤ b.val → (69 ^^^ b.val) / 16 ≠ 4 := by decide
  have := this ⟨b, by omega⟩ (by simp; omega)
  simp only at this
  omega
set_option maxHeartbeats 2000000 in
set_option maxRecDepth 100000 in
theorem Ip4Turned_walk (w : World) (cs : List Value) (p : IpV) (hk : kdIp.K w p cs) (hg : GoodIp p) (a1 : Int) (hg1 : -9223372036854775808 ≤ a1 ∧ a1 ≤ 9223372036854775807) (a2 : Int) (hg2 : 0 ≤ a2 ∧ a2 ≤ 255) :
    Calls Try.prog 19 #[.agg cs.toArray, .int .i64 a1, .int .u8 a2] w fun e w' => e = .returned (.bool true) ∧ Below w.heap.size w w' := by
  obtain ⟨Ae, Ad, ce, cd, hcs, le, ld, he, hd⟩ := kdIp_cells hk
  rw [hcs]
  obtain ⟨ne, hne⟩ : ∃ n, n = p.exts.length := ⟨_, rfl⟩
  obtain ⟨nd, hnd⟩ : ∃ n, n = p.data.length := ⟨_, rfl⟩
  rw [← hne] at le he ⊢
  rw [← hnd] at ld hd ⊢
  have HA : Aside0 (∀ W, Below w.heap.size w W → Calls Try.prog 67 #[.agg (ipCells p (.slice Ae ne ce) (.slice Ad nd cd))] W (BuildPost W (build4 p))) := ⟨fun W hW => Build4_at (Kd.C_below he hW) (Kd.C_below hd hW) le ld hg.ok⟩
  have hok := hg.ok
  cases hm : may4 p with
  | false =>
    rw [build4_no hm] at HA
    clear hk hcs hg hne hnd he hd hm hok
    go_enter Try.func19, Try.ntmps19
    go_wp2_with (refine wpList_load_row rfl 55 (.tmp 3) rfl w.heap.size rfl 55 (ipCells p (.slice Ae ne ce) (.slice Ad nd cd)) (0, 0) _ (blk_at rfl) Try.underlying55 rfl (by kernel_rfl) ?_)
    refine (HA.out _ (below_alloc (Below.refl _ _) _)).mono ?_
    rintro e1 w1 ⟨v, rfl, hv, hb1⟩
    obtain ⟨A1, c1, rfl, hc1, hC1⟩ := Kd.R_form hv (show ([] : List Int).length = 0 from rfl)
    have B1 := Aside0.mk (below_then (below_alloc (Below.refl w.heap.size w) (.cells (ipCells p (.slice Ae ne ce) (.slice Ad nd cd)) 55)) (by rw [size_alloc']; omega) hb1)
    clear hv hb1 hC1
    go_wp2_with (fail)
    refine (Alive3_at _).mono ?_
    rintro e5 w5 ⟨rfl, hb5⟩
    have F5 := Aside0.mk (below_then B1.out B1.out.size hb5)
    clear hb5
    go_wp2
    go_ret
    exact ⟨rfl, F5.out⟩
  | true =>
    have hturn : ∀ q : Nat, q < 20 → ∀ v : Int, (0 ≤ v ∧ v ≤ 255) → v ≠ rd (build4 p).1 (q : Int) → (q = 0 → v / 16 ≠ 4) → (parse4 ((build4 p).1.set q v)).2 ≠ 0 := fun q hq v hv hne h0 => turned4 hm hok hq hv hne h0
    have hby : Bytes (build4 p).1 := by rw [build4_is hm]; exact bytes_append (bytes_H20 (may4_has hm) hok) hok.2.2.2.2
    have h69 : rd (build4 p).1 0 = 69 := by
      rw [build4_is hm]
      show rd (H20 p ++ p.data) ((0 : Nat) : Int) = 69
      rw [rd_app (by omega) (by rw [H20_len]; omega)]
      rfl
    have hlen : 20 ≤ (build4 p).1.length ∧ (build4 p).1.length ≤ 65535 := by
      rw [build4_is hm]
      have := (may4_has hm).len
      simp only [List.length_append, H20_len]
      omega
    obtain ⟨B, hB⟩ : ∃ B, build4 p = (B, 0) := ⟨_, build4_is hm⟩
    rw [hB] at HA hturn hby hlen h69
    obtain ⟨n, hn⟩ : ∃ n, B.length = n := ⟨_, rfl⟩
    simp only [hn] at hlen
    simp only at hturn h69 hby
    have HS := Aside0.mk (And.intro hturn (And.intro hby (And.intro hn h69)))
    have hn20 : 20 ≤ n := hlen.1
    have hn6 : n ≤ 65535 := hlen.2
    have y0 : ((n : Int) < 20) = False := by simp; omega
    have hnp : 0 < n := by omega
    clear hk hcs hg hne hnd he hd hm hok hturn hby hlen hB hn h69
    go_enter Try.func19, Try.ntmps19
    go_wp2_with (refine wpList_load_row rfl 55 (.tmp 3) rfl w.heap.size rfl 55 (ipCells p (.slice Ae ne ce) (.slice Ad nd cd)) (0, 0) _ (blk_at rfl) Try.underlying55 rfl (by kernel_rfl) ?_)
    refine (HA.out _ (below_alloc (Below.refl _ _) _)).mono ?_
    rintro e1 w1 ⟨v, rfl, hv, hb1⟩
    obtain ⟨g, c1, rfl, hgb, hgl, hc1, HO⟩ := own_form_n HS.out.2.2.1 hv hnp
    rw [size_alloc'] at hgb
    have B1 := Aside0.mk (below_then (below_alloc (Below.refl w.heap.size w) (.cells (ipCells p (.slice Ae ne ce) (.slice Ad nd cd)) 55)) (by rw [size_alloc']; omega) hb1)
    clear hv hb1 HA
    by_cases ha : a2 = 0
    · subst ha
      go_wp2_with (fail)
      refine (Alive3_at _).mono ?_
      rintro e5 w5 ⟨rfl, hb5⟩
      have F5 := Aside0.mk (below_then B1.out B1.out.size hb5)
      clear hb5
      go_wp2
      go_ret
      exact ⟨rfl, F5.out⟩
    have ya : (a2 == 0) = false := by simpa using ha
    go_upto_region 6 with (fail)
    go_cut [1] (fun v wc => ∃ q : Nat, v = .int .i64 q ∧ q < 20 ∧ w1 = wc)
    case first =>
      go_wp2
      all_goals go_meet
      case rel =>
        obtain ⟨q, e, h1⟩ := place_in4 a1 20 (by omega) (by omega)
        exact ⟨q, by rw [← e]; rfl, h1, rfl⟩
    case rest =>
      obtain ⟨q, rfl, hq, rfl⟩ := hcut
      by_cases hz : q = 0 ∧ a2 < 16
      · obtain ⟨rfl, hz⟩ := hz
        go_wp2_with (fail)
        refine (Alive3_at _).mono ?_
        rintro e5 w5 ⟨rfl, hb5⟩
        have F5 := Aside0.mk (below_then B1.out B1.out.size hb5)
        clear hb5
        go_wp2
        go_ret
        exact ⟨rfl, F5.out⟩
      obtain ⟨hc1', hf1⟩ := own_at HO.out (q : Int) (by omega) (by omega)
      obtain ⟨r, hr⟩ : ∃ r, r = rd B (q : Int) := ⟨_, rfl⟩
      rw [Int.toNat_natCast, ← hr] at hc1'
      rw [Int.toNat_natCast] at hf1
      obtain ⟨v, hv⟩ : ∃ v, v = bits BinOp.xor IntKind.u8 r a2 := ⟨_, rfl⟩
      have hvb : 0 ≤ v ∧ v ≤ 255 := by rw [hv]; exact xor_in4 _ _
      have hvr : v ≠ r := by rw [hv]; exact xor_moves (by rw [hr]; exact bytes_rd4 B HS.out.2.1 _) hg2 ha
      have hv0 : q = 0 → v / 16 ≠ 4 := fun h0 => by
        rw [hv, hr, h0]
        show Go.bits .xor .u8 (rd B 0) a2 / 16 ≠ 4
        rw [HS.out.2.2.2]
        exact xor_69 (by omega)
      have hf := HS.out.1 q hq v hvb (by rw [← hr]; exact hvr) hv0
      have HOS := (own_store HO.out (q : Int) v).1
      rw [Int.toNat_natCast] at HOS
      have hparse := Parse4_at (C_of_own HOS) hc1 (bytes_set4 HS.out.2.1 q hvb) (by omega)
      obtain ⟨pv, f, hpf⟩ : ∃ pv f, parse4 (B.set q v) = (pv, f) := ⟨_, _, rfl⟩
      rw [hpf] at hparse hf
      have y1 : (f != 0) = true := by simpa using hf
      have BS : Aside0 (Below w.heap.size w (w1.setCell ⟨g, q, none⟩ (.int .u8 v))) := ⟨B1.out.setCell (by show w.heap.size ≤ g; omega) _⟩
      have HP := Aside0.mk hparse
      have i3 : (q : Int) < (n : Int) := by omega
      rw [hv] at HP BS
      clear hparse hf hpf y0 hv0 hvr hvb HOS hr hv HO HS B1
      have i1 : (0 : Int) ≤ (q : Int) := by omega
      rcases Nat.eq_zero_or_pos q with rfl | hq0
      all_goals go_wp2_with (fail)
      all_goals refine HP.out.mono ?_
      all_goals rintro e2 w2 ⟨vE, vD, rfl, hE, hD, hb2⟩
      all_goals obtain ⟨Be, de, rfl, hde, hCE⟩ := Kd.R_form hE rfl
      all_goals obtain ⟨Bd, dd, rfl, hdd, hCD⟩ := Kd.R_form hD rfl
      all_goals have B2 := Aside0.mk (below_then BS.out BS.out.size hb2)
      all_goals clear hE hD hb2 hCE hCD HP BS
      all_goals go_wp2_with (refine wpList_store_new rfl 55 (.tmp 9) (.tmp 47) rfl _ (ipCells pv (.slice Be pv.exts.length de) (.slice Bd pv.data.length dd)) rfl rfl (by kernel_rfl) rfl (ipCells_one _ _ _ _ _ _ _) ?_)
      all_goals refine (Alive3_at _).mono ?_
      all_goals rintro e5 w5 ⟨rfl, hb5⟩
      all_goals have F5 := Aside0.mk (below_then (below_alloc B2.out (.cells (ipCells pv (.slice Be pv.exts.length de) (.slice Bd pv.data.length dd)) 55)) (by rw [size_alloc']; have := B2.out.size; omega) hb5)
      all_goals clear hb5
      all_goals go_wp2
      all_goals go_ret
      all_goals exact ⟨rfl, F5.out⟩
end Go.Proofs.Ytgifcmbknkjemaa.Own
end
