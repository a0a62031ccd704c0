/- The law MerkleOfNothing, walked. -/
import Derived.Test.YtfdgclnjpbkggaaDoorMkF
namespace Go.Proofs.YtfdgclnjpbkggaaDoor
open Go.RowKit Go.Maps
namespace Mk

theorem zeroProof (w : World) : (zeroValue 40).run Tryd.prog w = .ok (.agg #[.slice none 0 0]) w := by kernel_rfl
theorem infoProof : (Tryd.prog.info? 40).map (·.size) = some 1 := by kernel_rfl
theorem builtProof : Tryd.prog.built 40 [] = some #[.slice none 0 0] := by kernel_rfl
theorem new_proof (w : World) : Below w.heap.size w (w.alloc (.cells #[.slice none 0 0] 40)) ∧ VBlk 40 (w.alloc (.cells #[.slice none 0 0] 40)) w.heap.size [.slice none 0 0] :=
  ⟨(Below.refl _ w).alloc (Nat.le_refl _) _, VBlk.mk w _ _⟩

theorem rootTop_nil_a (size : Int) (w : World) : Calls Tryd.prog 11 #[.pointer none, .int .i64 size] w fun e w' => e = .returned (.tuple #[.agg (Dig.Z32.map (Value.int .u8)).toArray, .int .i64 1]) ∧ Below w.heap.size w w' := rootTop_nil size w

set_option maxRecDepth 100000 in
set_option maxHeartbeats 1000000 in
theorem prove_nil (i size : Int) (w : World) : Calls Tryd.prog 15 #[.pointer none, .int .i64 i, .int .i64 size] w fun e w' => e = .returned (.tuple #[.agg #[.slice none 0 0], .int .i64 1]) ∧ Below w.heap.size w w' := by
  have hz := zeroProof
  obtain ⟨hb, hR⟩ := new_proof w
  have HB := Hid2.mk hb
  have HR := Hid2.mk hR
  clear hb hR
  go_enter Tryd.func15, Tryd.ntmps15
  go_wp2_with (first | (refine wpList_build_to rfl 40 #[] rfl #[.slice none 0 0] builtProof ?_) | (refine wpList_store_row rfl 40 (.tmp 6) (.tmp 31) rfl w.heap.size #[.slice none 0 0] rfl rfl 40 #[.slice none 0 0] HR.out infoProof rfl (by simp [Value.oneCell']) ?_))
  refine bodyPost_ret (results_cell_tmp rfl _ _ w.heap.size 40 #[.slice none 0 0] (0, 0) _ _ rfl (setRow_heap _ _ _ _ _ _ HR.out) Tryd.underlying40 rfl infoProof rfl) rfl ⟨rfl, below_setRow HB.out (Nat.le_refl _) _⟩

set_option maxRecDepth 100000 in
set_option maxHeartbeats 1000000 in
theorem consist_nil (i size : Int) (w : World) : Calls Tryd.prog 17 #[.pointer none, .int .i64 i, .int .i64 size] w fun e w' => e = .returned (.tuple #[.agg #[.slice none 0 0], .int .i64 1]) ∧ Below w.heap.size w w' := by
  have hz := zeroProof
  obtain ⟨hb, hR⟩ := new_proof w
  have HB := Hid2.mk hb
  have HR := Hid2.mk hR
  clear hb hR
  go_enter Tryd.func17, Tryd.ntmps17
  go_wp2_with (first | (refine wpList_build_to rfl 40 #[] rfl #[.slice none 0 0] builtProof ?_) | (refine wpList_store_row rfl 40 (.tmp 6) (.tmp 31) rfl w.heap.size #[.slice none 0 0] rfl rfl 40 #[.slice none 0 0] HR.out infoProof rfl (by simp [Value.oneCell']) ?_))
  refine bodyPost_ret (results_cell_tmp rfl _ _ w.heap.size 40 #[.slice none 0 0] (0, 0) _ _ rfl (setRow_heap _ _ _ _ _ _ HR.out) Tryd.underlying40 rfl infoProof rfl) rfl ⟨rfl, below_setRow HB.out (Nat.le_refl _) _⟩

set_option maxRecDepth 100000 in
set_option maxHeartbeats 1000000 in
theorem add_nil (h : H) (w : World) : Calls Tryd.prog 20 #[.pointer none, .agg (h.map (Value.int .u8)).toArray] w fun e w' => e = .returned (.int .i64 (-1)) ∧ Below w.heap.size w w' := by
  have HB := Hid2.mk (show Below w.heap.size w (w.alloc (.cells (h.map (Value.int .u8)).toArray 27)) from (Below.refl _ w).alloc (Nat.le_refl _) _)
  go_enter Tryd.func20, Tryd.ntmps20
  go_wp2_with fail
  go_ret
  exact ⟨rfl, HB.out⟩

set_option maxRecDepth 100000 in
set_option maxHeartbeats 4000000 in
theorem nothing_any (h : H) (n : Int) (w : World) (hl : h.length = 32) (hT : Tab w) :
    Calls Tryd.prog 6 #[.agg (h.map (Value.int .u8)).toArray, .int .i64 n] w fun e w' => e = .returned (.bool true) ∧ Below w.heap.size w w' := by
  have hz := zeroHash
  have hzp := zeroProof
  have hb0 : Below w.heap.size w (w.alloc (.cells (h.map (Value.int .u8)).toArray 27)) := (Below.refl _ w).alloc (Nat.le_refl _) _
  have HH0 := Hid2.mk (VBlk.mk w (h.map (Value.int .u8)) 27)
  have HB0 := Hid2.mk hb0
  have HT := Hid2.mk hT
  have Hl := Hid2.mk hl
  clear hb0 hT hl
  go_enter Tryd.func6, Tryd.ntmps6
  go_wp2_with fail
  generalize World.alloc _ _ = w1 at HH0 HB0 ⊢
  refine (rootTop_nil_a _ _).mono ?_
  rintro e w2 ⟨rfl, hb2⟩
  have HH2 := Hid2.mk (HH0.out.below hb2 HH0.out.lt)
  have HB2 := Hid2.mk (HB0.out.trans (hb2.mono HB0.out.size))
  obtain ⟨q1, q2, q3⟩ := alloc_store w2 Dig.Z32
  have Q1 := Hid2.mk q1
  have Q3 := Hid2.mk q3
  clear hb2 q1 q2 q3 HH0 HB0
  go_wp2_with (refine wpList_store_row rfl 27 (.tmp 6) (.tmp 16) rfl w2.heap.size (Dig.Z32.map (Value.int .u8)).toArray rfl rfl 27 (Dig.Z32.map (Value.int .u8)).toArray Q1.out (infoH Dig.Z32 rfl) rfl (oneH _) ?_)
  generalize (World.setRow _ _ _) = w3 at Q3 ⊢
  have HH3 := Hid2.mk (HH2.out.below Q3.out HH2.out.lt)
  have HB3 := Hid2.mk (HB2.out.trans (Q3.out.mono HB2.out.size))
  clear HH2 HB2 Q1 Q3
  refine (prove_nil _ _ _).mono ?_
  rintro e w4 ⟨rfl, hb4⟩
  have HH4 := Hid2.mk (HH3.out.below hb4 HH3.out.lt)
  have HB4 := Hid2.mk (HB3.out.trans (hb4.mono HB3.out.size))
  clear hb4 HH3 HB3
  go_wp2_with fail
  obtain ⟨hn5, hR5⟩ := new_proof w4
  have HH5 := Hid2.mk (HH4.out.below hn5 HH4.out.lt)
  have HB5 := Hid2.mk (HB4.out.trans (hn5.mono HB4.out.size))
  have HR5 := Hid2.mk hR5
  clear hn5 hR5 HH4 HB4
  generalize World.alloc w4 _ = w5 at HH5 HB5 HR5 ⊢
  refine (consist_nil _ _ _).mono ?_
  rintro e w6 ⟨rfl, hb6⟩
  have HH6 := Hid2.mk (HH5.out.below hb6 HH5.out.lt)
  have HB6 := Hid2.mk (HB5.out.trans (hb6.mono HB5.out.size))
  have HR6 := Hid2.mk (HR5.out.below hb6 HR5.out.lt)
  obtain ⟨hn7, hR7⟩ := new_proof w6
  have HH7 := Hid2.mk (HH6.out.below hn7 HH6.out.lt)
  have HB7 := Hid2.mk (HB6.out.trans (hn7.mono HB6.out.size))
  have HR7 := Hid2.mk (HR6.out.below hn7 HR6.out.lt)
  have HS7 := Hid2.mk hR7
  clear hb6 hn7 hR7 HH5 HB5 HR5 HH6 HB6 HR6
  go_wp2_with (refine wpList_load_row rfl 27 (.tmp 2) rfl w.heap.size rfl 27 (h.map (Value.int .u8)).toArray (0, 0) _ HH7.out Tryd.underlying27 rfl (infoH h Hl.out) ?_)
  generalize World.alloc w6 _ = w7 at HH7 HB7 HR7 HS7 ⊢
  refine (add_nil _ _).mono ?_
  rintro e w8 ⟨rfl, hb8⟩
  have HR8 := HR7.out.below hb8 HR7.out.lt
  have HS8 := HS7.out.below hb8 HS7.out.lt
  have HB8 := Hid2.mk (HB7.out.trans (hb8.mono HB7.out.size))
  have c1 := HR8.cell 0 (by simp)
  have c2 := HS8.cell 0 (by simp)
  simp only [List.getD_cons_zero] at c1 c2
  clear hb8 HH7 HB7 HR7 HS7 HR8 HS8
  go_wp2_with fail
  refine (size_nil _).mono ?_
  rintro e w9 ⟨rfl, rfl⟩
  go_wp2_with fail
  refine (known_any _ (HT.out.below HB8.out (Nat.le_refl _))).mono ?_
  rintro e w9 ⟨rfl, hb9⟩
  have HB9 := Hid2.mk (HB8.out.trans (hb9.mono HB8.out.size))
  clear HB8 hb9 c1 c2
  go_wp2_with fail
  go_ret
  exact ⟨rfl, HB9.out⟩

end Mk
end Go.Proofs.YtfdgclnjpbkggaaDoor
