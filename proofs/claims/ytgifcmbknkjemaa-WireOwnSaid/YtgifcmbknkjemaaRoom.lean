/- append(xs[:0:n], ys...) into a row of the call's own that has the room: the cells behind what is written stay. -/
import Derived.Test.YtgifcmbknkjemaaWkChecked
namespace Go.Proofs.Ytgifcmbknkjemaa.Own
open Go Go.RowKit Go.Proofs.YtgifcmbknkjemaaW.PrintWords Go.Proofs.YtgifcmbknkjemaaW.PrintLast Go.Proofs.YtgifcmbknkjemaaW.PrintMore
set_option linter.unusedVariables false
set_option linter.unusedSimpArgs false

def putAt : List Int → Nat → List Int → List Int
  | zs, _, [] => zs
  | zs, o, y :: r => putAt (zs.set o y) (o + 1) r
theorem putAt_eq : ∀ (ys pre rest : List Int), ys.length ≤ rest.length → putAt (pre ++ rest) pre.length ys = pre ++ ys ++ rest.drop ys.length
  | [], pre, rest, _ => by simp [putAt]
  | y :: r, pre, [], h => by simp at h
  | y :: r, pre, z :: rest, h => by
    have h1 := putAt_eq r (pre ++ [y]) rest (by simpa using h)
    simp only [List.length_append, List.length_singleton] at h1
    simp only [putAt]
    rw [List.set_append_right _ _ (Nat.le_refl _), Nat.sub_self, List.set_cons_zero, show pre ++ y :: rest = pre ++ [y] ++ rest by simp, h1]
    simp
theorem own_setCells {base g n cap : Nat} {k : IntKind} : ∀ (ys : List Int) (W w0 : World) (xs : List Int) (o : Nat), W.ownsRow base 5 1 (.slice (some ⟨g, 0, none⟩) n cap) n (nums k xs) → Below base w0 W → base ≤ g →
    (W.setCells g o (nums k ys)).ownsRow base 5 1 (.slice (some ⟨g, 0, none⟩) n cap) n (nums k (putAt xs o ys)) ∧ Below base w0 (W.setCells g o (nums k ys))
  | [], W, w0, xs, o, h, hb, hg => ⟨h, hb⟩
  | y :: r, W, w0, xs, o, h, hb, hg => by
    have h1 := (own_store h (o : Int) y).1
    rw [Int.toNat_natCast] at h1
    exact own_setCells r _ w0 _ (o + 1) h1 (hb.setCell hg _) hg
theorem append_room {W w0 : World} {base g N n c : Nat} {zs xs : List Int} {A : Option Addr} (HO : W.ownsRow base 5 1 (.slice (some ⟨g, 0, none⟩) N N) N (nums .u8 zs)) (hb : Below base w0 W) (hg : base ≤ g) (HC : (Kd.int .u8).C W A n xs) (hroom : n ≤ N) (ty : TypeId) :
    ∃ W1, (Builtin.append_ #[27, 27] ty #[.slice (some ⟨g, 0, none⟩) 0 N, .slice A n c]).run Try.prog W = .ok (.slice (some ⟨g, 0, none⟩) n N) W1 ∧ W1.ownsRow base 5 1 (.slice (some ⟨g, 0, none⟩) N N) N (nums .u8 (putAt zs 0 xs)) ∧ Below base w0 W1 := by
  obtain ⟨i0, hi, hz0, hz1, hz2⟩ := info_parts info5
  have hm : xs.length = n := HC.1
  rcases A with _ | ad
  · have h0 : n = 0 := by
      rcases Nat.eq_zero_or_pos n with h0 | h0
      · exact h0
      · obtain ⟨ad, h, _⟩ := HC.2.2 h0
        cases h
    subst h0
    obtain rfl : xs = [] := List.eq_nil_of_length_eq_zero hm
    refine ⟨W, ?_, HO, hb⟩
    simp [Builtin.append_, run_underlying Try.underlying27, sizeOf, typeInfo, hi, Builtin.lenOf, Builtin.firstCells, storeCells]
  · obtain ⟨ho, hb1⟩ := own_setCells xs W w0 zs 0 HO hb hg
    have hcells : ∀ j u, (nums .u8 xs)[j]? = some u → W.cell? (ad.add j) = some u := by
      intro j u hu
      have hj : j < xs.length := by
        rcases Nat.lt_or_ge j xs.length with h | h
        · exact h
        · simp [nums, List.getElem?_eq_none h] at hu
      obtain ⟨ad', h', h5⟩ := Kd.at_int HC (j : Int) (by omega) (by omega)
      rw [Int.toNat_natCast] at h5
      have h6 : ad = ad' := Option.some.inj h'
      rw [← h6] at h5
      simp [nums, List.getElem?_eq_getElem hj] at hu
      subst hu
      simpa [rd, List.getD_eq_getElem?_getD, List.getElem?_eq_getElem hj] using h5
    have hzl : zs.length = N := by have := HO.1; simp [nums] at this; exact this
    have hat : ∀ j, j < (nums .u8 xs).length → W.cell? ⟨g, 0 + 0 * i0.size + j, none⟩ = some (.int .u8 (rd zs (j : Int))) ∧ W.frozen? ⟨g, 0 + 0 * i0.size + j, none⟩ = false := fun j hj => by
      have h := own_at HO (j : Int) (by omega) (by simp [nums] at hj; omega)
      rw [Int.toNat_natCast] at h
      simpa using h
    have hr := run_append_room_cells (P := Try.prog) (w := W) 27 ty 5 i0 Try.underlying27 hi g 0 0 N ad n c (nums .u8 xs) (by simp [nums, hm, hz1]) hcells (by intro u hu; simp only [nums, List.mem_map] at hu; obtain ⟨q, _, rfl⟩ := hu; rfl) (by omega) (fun j hj => by rw [(hat j hj).1]; rfl) (fun j hj => (hat j hj).2)
    rw [Nat.zero_add] at hr
    refine ⟨_, hr, ?_, ?_⟩
    · simpa using ho
    · simpa using hb1
section
variable {P : Program} {ops : Array Oper} {rest : List Oper} {o : Oper} {a : Act} {Q : Exit → Act → World → Prop}
theorem wp_append_run {W : World} (hgd : o.guard = none) (s x : Operand) (t : TypeId) (ho : o.op = .call { callee := .builtin .append, args := #[s, x], argTypes := #[t, t] }) (vs vx v1 : Value) (W1 : World) (hs : a.eval s = vs) (hx : a.eval x = vx)
    (hr : (Builtin.append_ #[t, t] o.type #[vs, vx]).run P W = .ok v1 W1) (h : wpList P ops Q rest (a.put o.dst v1) W1) : wpList P ops Q (o :: rest) a W := by
  refine wpList_plain hgd fun K hK => ?_
  unfold Oper.wp execOp
  simp only [ho, resolve, invoke, builtin, Sem.run_bind, Sem.run_pure, Result.andThen_ok, List.map_toArray, List.map_cons, List.map_nil, hs, hx, hr]
  exact hK _ _ h
end
end Go.Proofs.Ytgifcmbknkjemaa.Own
