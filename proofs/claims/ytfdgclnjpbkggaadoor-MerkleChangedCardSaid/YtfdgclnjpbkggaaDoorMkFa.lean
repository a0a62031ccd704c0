/- Chapter 10: digests compared, new variables. -/
import Derived.Test.YtfdgclnjpbkggaaDoorMkE
import Derived.Great.BuildSlice
namespace Go.Proofs.YtfdgclnjpbkggaaDoor
open Go.RowKit Go.Maps
namespace Mk

theorem Tryd.infoByte : (Tryd.prog.info? 5).map (fun i => (i.zero, i.size, i.bytes)) = some (some (.int .u8 0), 1, 1) := by kernel_rfl
/-- Two digests, compared. -/
theorem eqlH (a b : H) (ha : a.length = 32) (hb : b.length = 32) (W : World) : (binOp .eql 27 (.agg (a.map (Value.int .u8)).toArray) (.agg (b.map (Value.int .u8)).toArray)).run Tryd.prog W = .ok (.bool (decide (a = b))) W := by
  obtain ⟨it, hit, -, hit2, -⟩ := info_parts Tryd.infoByte
  exact run_eql_ints W Tryd.underlying27 Tryd.underlying5 hit hit2 a b ha hb
theorem infoH (l : H) (hl : l.length = 32) : (Tryd.prog.info? 27).map (·.size) = some (l.map (Value.int .u8)).toArray.size := by rw [infoHash]; simp [hl]
theorem oneH (l : H) : (l.map (Value.int .u8)).toArray.all (·.oneCell') = true := by simp [Value.oneCell']
theorem sizeH (a b : H) (ha : a.length = 32) (hb : b.length = 32) : (a.map (Value.int .u8)).toArray.size = (b.map (Value.int .u8)).toArray.size := by simp [ha, hb]
theorem z32_len : Dig.Z32.length = 32 := rfl
/-- What a new variable holds behind a store. -/
theorem alloc_store (w : World) (l : H) :
    (w.alloc (.cells (Dig.Z32.map (Value.int .u8)).toArray 27)).heap[w.heap.size]? = some (.cells (Dig.Z32.map (Value.int .u8)).toArray 27 (0, 0)) ∧
    VBlk 27 ((w.alloc (.cells (Dig.Z32.map (Value.int .u8)).toArray 27)).setRow w.heap.size (l.map (Value.int .u8)).toArray) w.heap.size (l.map (Value.int .u8)) ∧
    Below w.heap.size w ((w.alloc (.cells (Dig.Z32.map (Value.int .u8)).toArray 27)).setRow w.heap.size (l.map (Value.int .u8)).toArray) :=
  ⟨heap_alloc_new _ _, VBlk.setRow (VBlk.mk w (Dig.Z32.map (Value.int .u8)) 27) _, below_setRow ((Below.refl _ w).alloc (Nat.le_refl _) _) (Nat.le_refl _) _⟩
theorem refNode_a {a b : H} (w : World) (ha : a.length = 32) (hb : b.length = 32) : Calls Tryd.prog 13 #[.agg (a.map (Value.int .u8)).toArray, .agg (b.map (Value.int .u8)).toArray] w fun e w' => e = .returned (.agg ((nodeP a b).map (Value.int .u8)).toArray) ∧ Below w.heap.size w w' := Dig.refNode_any a b w ha hb

theorem rootTop_a {w : World} {t cnt : Nat} {O : Nat → Prop} {l : List H} (h : IsTree w t O cnt l) (hT : Tab w) (hm : l.length ≤ 1048576) (size : Int) :
    Calls Tryd.prog 11 #[.pointer (some ⟨t, 0, none⟩), .int .i64 size] w fun e w' => e = .returned (.tuple #[.agg ((rootV l size).map (Value.int .u8)).toArray, .int .i64 (rootC l size)]) ∧ Below w.heap.size w w' := rootTop_any h hT hm size

end Mk
end Go.Proofs.YtfdgclnjpbkggaaDoor
