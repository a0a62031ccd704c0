/- The law CatalogOfNothing, walked. -/
import Derived.Test.YtdaljjicekheiaaCatK
import Derived.Outline
namespace Go.Proofs.Ytdaljjicekheiaa
open Go.RowKit Go.Maps
namespace Cat

set_option maxHeartbeats 1000000 in
theorem table_nil2 (id : Int) (w : World) : Calls Try.prog 15 #[.pointer none, .int .i64 id] w fun e w' => e = .returned (.tuple #[.agg #[.int .i64 0, .string ByteArray.empty, .bool false, .slice none 0 0], .int .i64 7]) ∧ Below w.heap.size w w' := by
  have hz := zeroTable
  have hbel : Below w.heap.size w (w.alloc (.cells #[.int .i64 0, .string ByteArray.empty, .bool false, .slice none 0 0] 45)) := (Below.refl _ w).alloc (Nat.le_refl _) _
  have hR : VBlk 45 (w.alloc (.cells #[.int .i64 0, .string ByteArray.empty, .bool false, .slice none 0 0] 45)) w.heap.size [.int .i64 0, .string ByteArray.empty, .bool false, .slice none 0 0] := VBlk.mk w [.int .i64 0, .string ByteArray.empty, .bool false, .slice none 0 0] _
  have HR := Hid2.mk hR
  have HB := Hid2.mk hbel
  clear hbel hR
  go_enter Try.func15, Try.ntmps15
  go_wp2_with (first | (refine wpList_build_to rfl 45 #[] rfl #[.int .i64 0, .string ByteArray.empty, .bool false, .slice none 0 0] builtTable ?_) | (refine wpList_store_row rfl 45 (.tmp 4) (.tmp 21) rfl w.heap.size #[.int .i64 0, .string ByteArray.empty, .bool false, .slice none 0 0] rfl rfl 45 #[.int .i64 0, .string ByteArray.empty, .bool false, .slice none 0 0] HR.out infoTable rfl (by simp [Value.oneCell']) ?_))
  refine bodyPost_ret (results_cell_tmp rfl _ _ w.heap.size 45 #[.int .i64 0, .string ByteArray.empty, .bool false, .slice none 0 0] (0, 0) _ _ rfl (setRow_heap _ _ _ _ _ _ HR.out) Try.underlying45 rfl infoTable rfl) rfl ⟨rfl, below_setRow HB.out (Nat.le_refl _) _⟩

set_option maxHeartbeats 1000000 in
theorem find_nil2 (s : ByteArray) (w : World) : Calls Try.prog 12 #[.pointer none, .string s] w fun e w' => e = .returned (.tuple #[.agg #[.int .i64 0, .string ByteArray.empty, .bool false, .slice none 0 0], .int .i64 13]) ∧ Below w.heap.size w w' := by
  have hz := zeroTable
  have hbel : Below w.heap.size w (w.alloc (.cells #[.int .i64 0, .string ByteArray.empty, .bool false, .slice none 0 0] 45)) := (Below.refl _ w).alloc (Nat.le_refl _) _
  have hR : VBlk 45 (w.alloc (.cells #[.int .i64 0, .string ByteArray.empty, .bool false, .slice none 0 0] 45)) w.heap.size [.int .i64 0, .string ByteArray.empty, .bool false, .slice none 0 0] := VBlk.mk w [.int .i64 0, .string ByteArray.empty, .bool false, .slice none 0 0] _
  have HR := Hid2.mk hR
  have HB := Hid2.mk hbel
  clear hbel hR
  go_enter Try.func12, Try.ntmps12
  go_wp2_with (first | (refine wpList_build_to rfl 45 #[] rfl #[.int .i64 0, .string ByteArray.empty, .bool false, .slice none 0 0] builtTable ?_) | (refine wpList_store_row rfl 45 (.tmp 4) (.tmp 32) rfl w.heap.size #[.int .i64 0, .string ByteArray.empty, .bool false, .slice none 0 0] rfl rfl 45 #[.int .i64 0, .string ByteArray.empty, .bool false, .slice none 0 0] HR.out infoTable rfl (by simp [Value.oneCell']) ?_))
  refine bodyPost_ret (results_cell_tmp rfl _ _ w.heap.size 45 #[.int .i64 0, .string ByteArray.empty, .bool false, .slice none 0 0] (0, 0) _ _ rfl (setRow_heap _ _ _ _ _ _ HR.out) Try.underlying45 rfl infoTable rfl) rfl ⟨rfl, below_setRow HB.out (Nat.le_refl _) _⟩

theorem infoEntry : (Try.prog.info? 37).map (·.size) = some 46 := by kernel_rfl

set_option maxRecDepth 100000 in
set_option maxHeartbeats 4000000 in
theorem nothing_any (cs : Array Value) (kind tbl : Int) (txt name : ByteArray) (w : World) (hE : Ent cs kind txt tbl) :
    Calls Try.prog 6 #[.agg cs, .string name] w fun e w' => e = .returned (.bool true) ∧ Below w.heap.size w w' := by
  have hz := zeroTable
  have hbel : Below w.heap.size w (w.alloc (.cells cs 37)) := (Below.refl _ w).alloc (Nat.le_refl _) _
  obtain ⟨e0, e1, e2⟩ := ent_cells (w := w) hE
  have hrow := heap_alloc_new w (.cells cs 37)
  have HB := Hid2.mk hbel
  have HE := Hid2.mk hE
  clear hbel hE
  obtain ⟨q, hq⟩ : ∃ q, IntKind.i64.wrap ((txt.size : Int) + name.size) = q := ⟨_, rfl⟩
  by_cases hbig : (1000 : Int) < q
  · clear hrow e0 e2
    go_enter Try.func6, Try.ntmps6
    go_wp2_with fail
    go_ret
    exact ⟨rfl, HB.out⟩
  · go_enter Try.func6, Try.ntmps6
    have Hrow := Hid2.mk hrow
    clear hrow
    go_wp2_with fail
    generalize World.alloc _ _ = w1 at e0 e1 e2 HB Hrow ⊢
    refine (find_nil2 _ _).mono ?_
    rintro e w2 ⟨rfl, hb2⟩
    have hs1 : w.heap.size < w1.heap.size := World.block_lt_of_cell? w1 _ e0
    have hb3 : Below w1.heap.size w1 (w2.alloc (.cells #[.int .i64 0, .string ByteArray.empty, .bool false, .slice none 0 0] 45)) := hb2.alloc hb2.size _
    have e2' : (w2.alloc (.cells #[.int .i64 0, .string ByteArray.empty, .bool false, .slice none 0 0] 45)).cell? ⟨w.heap.size, 2, none⟩ = some (.int .i64 tbl) := by rw [hb3.cell (p := ⟨w.heap.size, 2, none⟩) hs1]; exact e2
    have Hrow3 := Hid2.mk (show (w2.alloc (.cells #[.int .i64 0, .string ByteArray.empty, .bool false, .slice none 0 0] 45)).heap[w.heap.size]? = some (.cells cs 37 (0, 0)) by rw [hb3.block _ hs1]; exact Hrow.out)
    have HB3 := Hid2.mk (HB.out.trans (hb3.mono HB.out.size))
    have HV := Hid2.mk (VBlk.mk w2 [.int .i64 0, .string ByteArray.empty, .bool false, .slice none 0 0] 45)
    have hs2 : w.heap.size < w2.heap.size := Nat.lt_of_lt_of_le hs1 hb2.size
    clear e0 e1 e2 HB Hrow hb2 hb3
    go_wp2_with fail
    generalize World.alloc w2 _ = w3 at e2' Hrow3 HB3 HV ⊢
    generalize w2.heap.size = g1 at HV hs2 ⊢
    refine (table_nil2 _ _).mono ?_
    rintro e w4 ⟨rfl, hb4⟩
    have hg1 : g1 < w3.heap.size := HV.out.lt
    have hb5 : Below w3.heap.size w3 (w4.alloc (.cells #[.int .i64 0, .string ByteArray.empty, .bool false, .slice none 0 0] 45)) := hb4.alloc hb4.size _
    have Hrow5 := Hid2.mk (show (w4.alloc (.cells #[.int .i64 0, .string ByteArray.empty, .bool false, .slice none 0 0] 45)).heap[w.heap.size]? = some (.cells cs 37 (0, 0)) by rw [hb5.block _ (by omega)]; exact Hrow3.out)
    have HB5 := Hid2.mk (HB3.out.trans (hb5.mono HB3.out.size))
    have HV5 := Hid2.mk (HV.out.below hb5 hg1)
    have HW5 := Hid2.mk (VBlk.mk w4 [.int .i64 0, .string ByteArray.empty, .bool false, .slice none 0 0] 45)
    have hg2 : g1 < w4.heap.size := Nat.lt_of_lt_of_le hg1 hb4.size
    have Hsz := Hid2.mk (show (Try.prog.info? 37).map (·.size) = some cs.size by rw [HE.out.hsz]; exact infoEntry)
    clear hb4 hb5 HV Hrow3 HB3 e2'
    go_wp2_with (refine wpList_load_row rfl 37 (.tmp 2) rfl w.heap.size rfl 37 cs (0, 0) _ Hrow5.out Try.underlying37 rfl Hsz.out ?_)
    generalize World.alloc w4 _ = w5 at Hrow5 HB5 HV5 HW5 ⊢
    generalize w4.heap.size = g2 at HW5 hg2 ⊢
    clear Hrow5
    refine (apply_nil _ _).mono ?_
    rintro e w6 ⟨rfl, hb6⟩
    have v1 := HV5.out.below hb6 HV5.out.lt
    have v2 := HW5.out.below hb6 HW5.out.lt
    have HB6 := Hid2.mk (HB5.out.trans (hb6.mono HB5.out.size))
    have V2 := Hid2.mk v2
    have q0 := v1.cell 0 (by simp)
    have q1 := v1.cell 1 (by simp)
    have q2 := v1.cell 2 (by simp)
    have q3 := v1.cell 3 (by simp)
    simp only [List.getD_cons_zero, List.getD_cons_succ] at q0 q1 q2 q3
    clear hb6 v1 v2 HB5 HV5 HW5 HE Hsz
    go_wp2_with fail
    refine (tables_zero _).mono ?_
    rintro e w7 ⟨rfl, hb7⟩
    have v2 := V2.out.below hb7 V2.out.lt
    have HB7 := Hid2.mk (HB6.out.trans (hb7.mono HB6.out.size))
    clear q0 q1 q2 q3 V2 HB6 hb7
    have q0 := v2.cell 0 (by simp)
    have q1 := v2.cell 1 (by simp)
    have q2 := v2.cell 2 (by simp)
    have q3 := v2.cell 3 (by simp)
    simp only [List.getD_cons_zero, List.getD_cons_succ] at q0 q1 q2 q3
    clear v2
    go_wp2_with fail
    refine (tables_zero _).mono ?_
    rintro e w8 ⟨rfl, hb8⟩
    have HB8 := Hid2.mk (HB7.out.trans (hb8.mono HB7.out.size))
    clear q0 q1 q2 q3 HB7 hb8
    go_wp2_with fail
    refine (all_nil _).mono ?_
    rintro e w9 ⟨rfl, rfl⟩
    go_wp2_with fail
    refine (has_nil _ _ _).mono ?_
    rintro e w9 ⟨rfl, rfl⟩
    go_wp2_with fail
    refine (copy_nil _).mono ?_
    rintro e w9 ⟨rfl, rfl⟩
    go_wp2_with fail
    refine (known_any _).mono ?_
    rintro e w9 ⟨rfl, hb9⟩
    have HB9 := Hid2.mk (HB8.out.trans (hb9.mono HB8.out.size))
    clear HB8 hb9
    go_wp2_with fail
    go_ret
    exact ⟨rfl, HB9.out⟩

end Cat
end Go.Proofs.Ytdaljjicekheiaa
