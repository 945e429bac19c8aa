/- What the law Ip4Behind rests on, part 8: contracts of the functions that it calls, and plain lemmas. No condition. -/
import Derived.Test.YtgifcmbknkjemaaZIp4Behind7
import Derived.MapKept
section
namespace Go.Proofs.Ytgifcmbknkjemaa.Own
open Go Go.RowKit Go.Proofs.YtgifcmbknkjemaaW.PrintWords Go.Proofs.YtgifcmbknkjemaaW.PrintLast
set_option linter.unusedVariables false
structure S6 where
  next : Int
  rest : List Int
  exts : List Int
  hop : Bool
  frg : Bool
  fr : Option (Int × Int × Bool)
end Go.Proofs.Ytgifcmbknkjemaa.Own
end
section
namespace Go.Proofs.Ytgifcmbknkjemaa.Own
open Go Go.RowKit Go.Proofs.YtgifcmbknkjemaaW.PrintWords Go.Proofs.YtgifcmbknkjemaaW.PrintLast Go.Proofs.YtgifcmbknkjemaaW.PrintMore
set_option linter.unusedVariables false
set_option linter.unusedSimpArgs false
theorem U16_at {A : Option Addr} {c n : Nat} {l : List Int} {w : World} (a : Int) (hr : (Kd.int .u8).C w A n l) (hc : n ≤ c) (hb : Bytes l) (hl : n ≤ 140737488355000) (h0 : 0 ≤ a) (ha : a + 2 ≤ n) :
    Calls Try.prog 49 #[.slice A n c, .int .i64 a] w fun e w' => e = .returned (.tuple #[.int .i64 (u16 l a), .bool true]) ∧ ∃ m, w' = w.drewN m := by
  have hn : l.length = n := hr.1
  subst hn
  refine (wire_U16.calls A c l a (u16 l a) true w hr hc ?_).mono fun e w' h => ⟨h.1, h.2.out⟩
  unfold wire_U16.f
  rw [if_pos (by simp [okS, okB_iff.2 hb]; exact hl), if_pos ⟨h0, ha⟩]
theorem blk_unfrozen {W : World} {b : Nat} {cs : Array Value} {t : TypeId} (h : W.heap[b]? = some (.cells cs t (0, 0))) (i : Nat) : W.frozen? ⟨b, i, none⟩ = false := by simp [World.frozen?, h]
theorem obj_set {w : World} {b t : Nat} {C : Array Value} (h : w.heap[b]? = some (.cells C t (0, 0))) (i : Nat) (v : Value) : (w.setCell ⟨b, i, none⟩ v).heap[b]? = some (.cells (C.setIfInBounds i v) t (0, 0)) := heap_setCell_same w b i C t v h
theorem C_same {k : IntKind} {w w1 : World} {A : Option Addr} {n : Nat} {l : List Int} (h : (Kd.int k).C w A n l) (hh : ∀ ad, A = some ad → w1.heap[ad.block]? = w.heap[ad.block]?) : (Kd.int k).C w1 A n l := by
  refine ⟨h.1, h.2.1, fun hn => ?_⟩
  obtain ⟨ad, e, hc⟩ := h.2.2 hn
  refine ⟨ad, e, fun j p hj => ?_⟩
  obtain ⟨c, h1, h2, h3⟩ := hc j p hj
  refine ⟨c, h1, h2, fun i u hu => ?_⟩
  have h4 := h3 i u hu
  have hb : (ad.add (j * (Kd.int k).sz + i)).block = ad.block := by unfold Addr.add; split <;> rfl
  rw [← h4]
  unfold World.cell?
  rw [hb, hh ad e]
theorem C_drewN {k : IntKind} {w : World} {A : Option Addr} {n : Nat} {l : List Int} (h : (Kd.int k).C w A n l) (m : Nat) : (Kd.int k).C (w.drewN m) A n l := C_same h fun _ _ => rfl
end Go.Proofs.Ytgifcmbknkjemaa.Own
end
