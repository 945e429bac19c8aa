/- Structs as whole rows: stored into the block that was made last. -/
import Derived.Test.YtgifcmbknkjemaaWk51
import Derived.Deep.WholeRow
namespace Go.Proofs.Ytgifcmbknkjemaa.Own
open Go Go.RowKit
theorem wpList_store_new {P : Program} {ops : Array Oper} {rest : List Oper} {o : Oper} {a : Act} {W : World} {Q : Exit → Act → World → Prop} (hgd : o.guard = none) (ty : TypeId) (x y : Operand) (ho : o.op = .store ty x y)
    (c cells : Array Value) (hx : a.eval x = .pointer (some ⟨W.heap.size, 0, none⟩)) (hy : a.eval y = .agg cells) (hi : (P.info? ty).map (·.size) = some cells.size)
    (hold : c.size = cells.size) (h1 : cells.all (·.oneCell') = true)
    (h : wpList P ops Q rest (a.put o.dst undef) (W.alloc (.cells cells ty))) : wpList P ops Q (o :: rest) a (W.alloc (.cells c ty)) := by
  rw [← World.setRow_alloc_new W c cells ty] at h
  exact wpList_store_row hgd ty x y ho W.heap.size cells hx hy ty c (heap_alloc_last W _) hi hold h1 h
end Go.Proofs.Ytgifcmbknkjemaa.Own
