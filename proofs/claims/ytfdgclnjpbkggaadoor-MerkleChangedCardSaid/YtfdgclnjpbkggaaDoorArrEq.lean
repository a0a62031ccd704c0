/- Equality of arrays of integers. -/
import Derived.Test.YtfdgclnjpbkggaaDoorBaseC
import Derived.DeepKeys
namespace Go.Proofs.YtfdgclnjpbkggaaDoor
open Go.RowKit

theorem part_int {P : Program} (w : World) {e : TypeId} {k : IntKind} (he : P.underlying e = some (.int k)) (l : List Int) (i : Nat) (hi : i < l.length) :
    (part e (l.map (Value.int k)).toArray i).run P w = .ok (.int k (nth l i)) w := by
  have hagg : (isAgg e).run P w = .ok false w := by
    unfold isAgg; rw [Sem.run_bind, run_underlying he w]; rfl
  have hc : (l.map (Value.int k)).toArray[i]? = some (.int k (nth l i)) := by simp [nth, hi]
  simp [part, Sem.run_bind, hagg, hc]
theorem eqItems_ints {P : Program} (w : World) (d : Nat) {e : TypeId} {k : IntKind} (he : P.underlying e = some (.int k)) (xs ys : List Int) :
    ∀ is : List Nat, (∀ i ∈ is, i < xs.length ∧ i < ys.length) → (Op.eqItems (d + 1) e 1 (xs.map (Value.int k)).toArray (ys.map (Value.int k)).toArray is).run P w = .ok (is.all fun i => nth xs i == nth ys i) w
  | [], _ => by simp [Op.eqItems]
  | i :: is, h => by
    obtain ⟨h1, h2⟩ := h i (by simp)
    have ih := eqItems_ints w d he xs ys is (fun j hj => h j (by simp [hj]))
    simp only [Op.eqItems, Sem.run_bind, Nat.mul_one, part_int w he xs i h1, part_int w he ys i h2, Result.andThen_ok, run_equalIn_int w d e k k (nth xs i) (nth ys i) he, List.all_cons]
    by_cases hx : (nth xs i == nth ys i) = true
    · simp [hx, ih]
    · simp [hx]
theorem all_nth (xs ys : List Int) (n : Nat) (ha : xs.length = n) (hb : ys.length = n) : ((List.range n).all fun i => nth xs i == nth ys i) = decide (xs = ys) := by
  rw [Bool.eq_iff_iff]
  simp only [List.all_eq_true, List.mem_range, beq_iff_eq, decide_eq_true_eq]
  constructor
  · intro h
    apply List.ext_getElem (ha.trans hb.symm)
    intro i h1 h2
    have := h i (by omega)
    simpa [nth, h1, h2] using this
  · intro h i _; rw [h]
theorem run_eql_ints {P : Program} (w : World) {t e : TypeId} {k : IntKind} {n : Nat} {i : TypeInfo} (hu : P.underlying t = some (.array n e)) (he : P.underlying e = some (.int k)) (hi : P.info? e = some i) (hs : i.size = 1)
    (xs ys : List Int) (ha : xs.length = n) (hb : ys.length = n) :
    (binOp .eql t (.agg (xs.map (Value.int k)).toArray) (.agg (ys.map (Value.int k)).toArray)).run P w = .ok (.bool (decide (xs = ys))) w := by
  have hc : P.cellsOf e = 1 := by simp [Program.cellsOf, hi, hs]
  have h1 : (Op.equalIn (9999 + 1) t (.agg (xs.map (Value.int k)).toArray) (.agg (ys.map (Value.int k)).toArray)).run P w = .ok (decide (xs = ys)) w := by
    rw [run_equalIn_array w 9999 _ _ hu hi, hc, eqItems_ints w 9998 he xs ys (List.range n) (fun j hj => by simp at hj; omega), all_nth xs ys n ha hb]
  have hg : (binOp .eql t (.agg (xs.map (Value.int k)).toArray) (.agg (ys.map (Value.int k)).toArray)).run P w = ((Op.equalIn 10000 t (.agg (xs.map (Value.int k)).toArray) (.agg (ys.map (Value.int k)).toArray)).run P w).andThen fun b w' => .ok (.bool b) w' := run_eql_struct w t _ _
  rw [hg, h1]; rfl

end Go.Proofs.YtfdgclnjpbkggaaDoor
