/- digest: digests out of digits, and digits of a digest, in the reference. -/
import Derived.Test.YtokdbdebmlpdaaaFromHex
namespace Go.Proofs.Ytokdbdebmlpdaaa
open Go.RowKit
namespace Dig

theorem info_z32b (l : List Int) (hl : l.length = 32) : (l.map (Value.int .u8)).toArray.size = (Z32.map (Value.int .u8)).toArray.size := by
  rw [List.size_toArray, List.length_map, List.size_toArray, List.length_map, hl]; rfl

set_option maxRecDepth 100000 in
set_option maxHeartbeats 1000000 in
theorem refFromHex_short (s : ByteArray) (w : World) (hs : ¬ s.size = 64) :
    Calls Try.prog 19 #[.string s] w fun e w' => e = .returned (.tuple #[.agg ((resL (strI s)).map (Value.int .u8)).toArray, .int .i64 (resC (strI s))]) ∧ Below w.heap.size w w' := by
  have hz25 := zero25
  obtain ⟨r1, r2⟩ := res_bad (strI s) (fun h => hs (by rw [← strI_length]; exact h.1))
  rw [r1, r2]
  clear r1 r2
  have hd : ((s.size : Int) == 64) = false := by rw [beq_eq_false_iff_ne]; omega
  have hA0 : IBlk .u8 25 ((w.alloc (.cells (Z32.map (Value.int .u8)).toArray 25)).alloc (.cells (Z32.map (Value.int .u8)).toArray 25)) w.heap.size Z32 := IBlk.alloc (VBlk.mk w (Z32.map (Value.int .u8)) 25) _
  have hw1s : (w.alloc (.cells (Z32.map (Value.int .u8)).toArray 25)).heap.size = w.heap.size + 1 := by simp
  have hB0 : IBlk .u8 25 ((w.alloc (.cells (Z32.map (Value.int .u8)).toArray 25)).alloc (.cells (Z32.map (Value.int .u8)).toArray 25)) (w.heap.size + 1) Z32 := by
    have := VBlk.mk (w.alloc (.cells (Z32.map (Value.int .u8)).toArray 25)) (Z32.map (Value.int .u8)) 25
    rw [hw1s] at this; exact this
  have HA0 := Hid2.mk hA0
  have HB0 := Hid2.mk hB0
  have hbel0 : Below w.heap.size w ((w.alloc (.cells (Z32.map (Value.int .u8)).toArray 25)).alloc (.cells (Z32.map (Value.int .u8)).toArray 25)) := ((Below.refl _ w).alloc (Nat.le_refl _) _).alloc (by simp) _
  have Hbel := Hid2.mk hbel0
  have hone : (Z32.map (Value.int .u8)).toArray.all (·.oneCell') = true := by simp [Value.oneCell']
  have Hone := Hid2.mk hone
  clear hA0 hB0 hbel0 hone hw1s
  go_enter Try.func19, Try.ntmps19
  go_wp2_with (first | (refine wpList_load_row rfl 25 (.tmp 4) rfl (w.heap.size + 1) rfl 25 (Z32.map (Value.int .u8)).toArray (0, 0) _ HB0.out Try.underlying25 rfl info_z32 ?_) | (refine wpList_store_row rfl 25 (.tmp 2) (.tmp 11) rfl w.heap.size (Z32.map (Value.int .u8)).toArray rfl rfl 25 (Z32.map (Value.int .u8)).toArray HA0.out info_z32 rfl Hone.out ?_))
  refine bodyPost_ret (results_cell_tmp rfl _ _ w.heap.size 25 (Z32.map (Value.int .u8)).toArray (0, 0) _ _ rfl (setRow_heap _ _ _ _ _ _ HA0.out) Try.underlying25 rfl info_z32 rfl) rfl ⟨rfl, ?_⟩
  exact below_setRow Hbel.out (Nat.le_refl _) _

set_option maxRecDepth 100000 in
set_option maxHeartbeats 2000000 in
theorem refFromHex_long (s : ByteArray) (w : World) (hs : s.size = 64) :
    Calls Try.prog 19 #[.string s] w fun e w' => e = .returned (.tuple #[.agg ((resL (strI s)).map (Value.int .u8)).toArray, .int .i64 (resC (strI s))]) ∧ Below w.heap.size w w' := by
  have hz25 := zero25
  have hd : ((s.size : Int) == 64) = true := by rw [beq_iff_eq]; omega
  have hw1s : (w.alloc (.cells (Z32.map (Value.int .u8)).toArray 25)).heap.size = w.heap.size + 1 := by simp
  have hA0 : IBlk .u8 25 ((w.alloc (.cells (Z32.map (Value.int .u8)).toArray 25)).alloc (.cells (Z32.map (Value.int .u8)).toArray 25)) w.heap.size Z32 := IBlk.alloc (VBlk.mk w (Z32.map (Value.int .u8)) 25) _
  have hB0 : IBlk .u8 25 ((w.alloc (.cells (Z32.map (Value.int .u8)).toArray 25)).alloc (.cells (Z32.map (Value.int .u8)).toArray 25)) (w.heap.size + 1) (fh (strI s) 0) := by
    have := VBlk.mk (w.alloc (.cells (Z32.map (Value.int .u8)).toArray 25)) (Z32.map (Value.int .u8)) 25
    rw [hw1s] at this; exact this
  have hbel0 : Below w.heap.size w ((w.alloc (.cells (Z32.map (Value.int .u8)).toArray 25)).alloc (.cells (Z32.map (Value.int .u8)).toArray 25)) := ((Below.refl _ w).alloc (Nat.le_refl _) _).alloc (by simp) _
  have hone : ∀ l : List Int, (l.map (Value.int .u8)).toArray.all (·.oneCell') = true := by intro l; simp [Value.oneCell']
  have hlr := strI_range s
  rw [hs] at hlr
  have hlen : (strI s).length = 64 := by rw [strI_length]; exact hs
  have hix : ∀ k : Nat, k < 64 → ∀ W, (Instr.index 9 (.string s) (.int .i64 (k : Int))).run Try.prog W = .ok (.int .u8 (nth (strI s) k)) W := by
    intro k hk W
    have hk' : k < s.size := by omega
    rw [run_index_string W 9 s .i64 (k : Int) Try.underlying9, dif_pos (by omega), strI_nth s k hk']
    rfl
  have Hix := Hid2.mk hix
  have Hlen := Hid2.mk hlen
  have Hlr := Hid2.mk hlr
  go_enter Try.func19, Try.ntmps19
  clear hs hlen hix hlr
  have HA0 := Hid2.mk hA0
  have HB0 := Hid2.mk hB0
  have Hbel := Hid2.mk hbel0
  clear hA0 hB0 hbel0 hw1s
  go_wp2_with fail
  generalize (w.alloc _).alloc _ = w1 at HA0 HB0 Hbel ⊢
  go_loopw [5] (fun i wr => ∃ k, k ≤ 64 ∧ i = .int .i64 (k : Nat) ∧ IBlk .u8 25 wr (w.heap.size + 1) (fh (strI s) k) ∧ Keep (fun k => k ≠ w.heap.size + 1) w1 wr ∧ ∀ j, j < k → isDig (nth (strI s) j))
    (fun i _ => 64 - (intOf i).toNat)
  case atStart => exact ⟨0, by omega, rfl, HB0.out, Keep.refl _ _, fun j hj => by omega⟩
  case round =>
    obtain ⟨k, hk, rfl, hbr, hkr, hdr⟩ := hrel
    have Hbr := Hid2.mk hbr
    have Hkr := Hid2.mk hkr
    have Hdr := Hid2.mk hdr
    have hbf : Below w.heap.size w wr := Hbel.out.trans (hkr.mono (fun k (hk : k < w.heap.size) => by omega)).below
    have HA := Hid2.mk (show wr.heap[w.heap.size]? = some (.cells (Z32.map (Value.int .u8)).toArray 25 (0, 0)) from HA0.out.keep hkr (by omega))
    have Hbf := Hid2.mk hbf
    clear hbr hkr hdr hbf
    by_cases h64 : k < 64
    · have hki : (k : Int) < 64 := by omega
      have hc := Hix.out k h64
      obtain ⟨c0, c1⟩ := Hlr.out k h64
      obtain ⟨x, hx⟩ : ∃ x, x = nth (strI s) k := ⟨_, rfl⟩
      rw [← hx] at hc c0 c1
      have Hx := Hid2.mk hx
      have hcy := Hbr.out.cell (k / 2) (by rw [fh_length]; omega)
      have hfy := Hbr.out.free (k / 2)
      obtain ⟨y0, y1⟩ := fh_low (strI s) k h64 Hdr.out
      obtain ⟨y, hy⟩ : ∃ y, y = nth (fh (strI s) k) (k / 2) := ⟨_, rfl⟩
      rw [← hy] at hcy y0 y1
      have Hy := Hid2.mk hy
      clear hx hy
      have hnext : ∀ n, dv x = n → IBlk .u8 25 (wr.setCell ⟨w.heap.size + 1, k / 2, none⟩ (.int .u8 (y * 16 + n))) (w.heap.size + 1) (fh (strI s) (k + 1)) := by
        intro n hn
        have := Hbr.out.set (k / 2) (y * 16 + n)
        rw [fh, ← Hy.out, ← Hx.out, hn]
        exact this
      have hkn : ∀ v, Keep (fun k => k ≠ w.heap.size + 1) w1 (wr.setCell ⟨w.heap.size + 1, k / 2, none⟩ v) := fun v => Hkr.out.setCell (fun h => h rfl) v
      have hdn : isDig x → ∀ j, j < k + 1 → isDig (nth (strI s) j) := by
        intro h j hj
        by_cases e : j < k
        · exact Hdr.out j e
        · have : j = k := by omega
          rw [this, ← Hx.out]; exact h
      have Hnext := Hid2.mk hnext
      have Hkn := Hid2.mk hkn
      have Hdn := Hid2.mk hdn
      clear hnext hkn hdn
      by_cases hdg : 48 ≤ x ∧ x ≤ 57
      · obtain ⟨d0, d1⟩ := hdg
        have hy2 : y * 16 + (x - 48) ≤ 255 := by omega
        have hy3 : 0 ≤ y * 16 + (x - 48) := by omega
        go_wp2_with fail
        first
        | (go_roundw
           case rel => exact ⟨k + 1, by omega, by go_num, Hnext.out _ (by unfold dv; rw [if_pos d1]), Hkn.out _, Hdn.out (.inl ⟨d0, d1⟩)⟩
           case measure => simp [intOf]; omega)
        | (refine ⟨⟨_, _, _, _, _, ⟨k + 1, by omega, rfl, Hnext.out _ (by unfold dv; rw [if_pos d1]), Hkn.out _, Hdn.out (.inl ⟨d0, d1⟩)⟩, rfl, rfl, rfl, rfl, by go_num⟩, ?_⟩
           simp [intOf]; omega)
      · by_cases hdl : 97 ≤ x ∧ x ≤ 102
        · obtain ⟨d0, d1⟩ := hdl
          have d2 : ¬ x ≤ 57 := by omega
          have d3 : ¬ x ≤ 57 := by omega
          go_wp2_with fail
          first
          | (refine ⟨⟨_, _, _, _, _, ⟨k + 1, by omega, rfl, Hnext.out _ (by unfold dv; rw [if_neg (by omega)]), Hkn.out _, Hdn.out (.inr ⟨d0, d1⟩)⟩, rfl, rfl, rfl, rfl, by go_num⟩, ?_⟩
             simp [intOf]; omega)
          | (go_roundw
             case rel => exact ⟨k + 1, by omega, by go_num, Hnext.out _ (by unfold dv; rw [if_neg (by omega)]), Hkn.out _, Hdn.out (.inr ⟨d0, d1⟩)⟩
             case measure => simp [intOf]; omega)
        · obtain ⟨r1, r2⟩ := res_bad (strI s) (fun h => by
            have := h.2 k h64
            rw [← Hx.out] at this
            rcases this with h | h
            · exact hdg h
            · exact hdl h)
          have R1 := Hid2.mk r1
          have R2 := Hid2.mk r2
          clear r1 r2
          have Hone := Hid2.mk (hone Z32)
          clear hone
          by_cases h1 : x < 48
          · go_wp2_with (first | (refine wpList_build_to rfl 25 #[] rfl (Z32.map (Value.int .u8)).toArray built25 ?_) | (refine wpList_store_row rfl 25 (.tmp 2) (.tmp 19) rfl w.heap.size (Z32.map (Value.int .u8)).toArray rfl rfl 25 (Z32.map (Value.int .u8)).toArray HA.out info_z32 rfl Hone.out ?_))
            refine bodyPost_ret (results_cell_tmp rfl _ _ w.heap.size 25 (Z32.map (Value.int .u8)).toArray (0, 0) _ _ rfl (setRow_heap _ _ _ _ _ _ HA.out) Try.underlying25 rfl info_z32 rfl) rfl ⟨by rw [R1.out, R2.out]; rfl, ?_⟩
            exact below_setRow Hbf.out (Nat.le_refl _) _
          · by_cases h2 : x < 97
            · have h3 : ¬ x ≤ 57 := by omega
              go_wp2_with (first | (refine wpList_build_to rfl 25 #[] rfl (Z32.map (Value.int .u8)).toArray built25 ?_) | (refine wpList_store_row rfl 25 (.tmp 2) (.tmp 19) rfl w.heap.size (Z32.map (Value.int .u8)).toArray rfl rfl 25 (Z32.map (Value.int .u8)).toArray HA.out info_z32 rfl Hone.out ?_))
              refine bodyPost_ret (results_cell_tmp rfl _ _ w.heap.size 25 (Z32.map (Value.int .u8)).toArray (0, 0) _ _ rfl (setRow_heap _ _ _ _ _ _ HA.out) Try.underlying25 rfl info_z32 rfl) rfl ⟨by rw [R1.out, R2.out]; rfl, ?_⟩
              exact below_setRow Hbf.out (Nat.le_refl _) _
            · have h3 : ¬ x ≤ 102 := by omega
              go_wp2_with (first | (refine wpList_build_to rfl 25 #[] rfl (Z32.map (Value.int .u8)).toArray built25 ?_) | (refine wpList_store_row rfl 25 (.tmp 2) (.tmp 19) rfl w.heap.size (Z32.map (Value.int .u8)).toArray rfl rfl 25 (Z32.map (Value.int .u8)).toArray HA.out info_z32 rfl Hone.out ?_))
              refine bodyPost_ret (results_cell_tmp rfl _ _ w.heap.size 25 (Z32.map (Value.int .u8)).toArray (0, 0) _ _ rfl (setRow_heap _ _ _ _ _ _ HA.out) Try.underlying25 rfl info_z32 rfl) rfl ⟨by rw [R1.out, R2.out]; rfl, ?_⟩
              exact below_setRow Hbf.out (Nat.le_refl _) _
    · have hd2 : decide ((k : Int) < 64) = false := decide_eq_false (by omega)
      have hk64 : k = 64 := by omega
      have hgood : goodHex (strI s) := ⟨Hlen.out, fun j hj => Hdr.out j (by omega)⟩
      obtain ⟨r1, r2⟩ := res_good _ hgood
      have R1 := Hid2.mk r1
      have R2 := Hid2.mk r2
      have hg : wr.heap[w.heap.size + 1]? = some (.cells ((fh (strI s) 64).map (Value.int .u8)).toArray 25 (0, 0)) := by rw [← hk64]; exact Hbr.out
      have Hg := Hid2.mk hg
      have hi25 := info25 (fh (strI s) 64) (fh_length _ _)
      have Hi25 := Hid2.mk hi25
      have Hi26 := Hid2.mk (info_z32b (fh (strI s) 64) (fh_length _ _))
      have Hone := Hid2.mk (hone (fh (strI s) 64))
      clear r1 r2 hgood hg hi25 hone hk64
      go_wp2_with (first | (refine wpList_load_row rfl 25 (.tmp 4) rfl (w.heap.size + 1) rfl 25 ((fh (strI s) 64).map (Value.int .u8)).toArray (0, 0) _ Hg.out Try.underlying25 rfl Hi25.out ?_) | (refine wpList_store_row rfl 25 (.tmp 2) (.tmp 49) rfl w.heap.size ((fh (strI s) 64).map (Value.int .u8)).toArray rfl rfl 25 (Z32.map (Value.int .u8)).toArray HA.out Hi25.out Hi26.out.symm Hone.out ?_))
      refine bodyPost_ret (results_cell_tmp rfl _ _ w.heap.size 25 ((fh (strI s) 64).map (Value.int .u8)).toArray (0, 0) _ _ rfl (setRow_heap _ _ _ _ _ _ HA.out) Try.underlying25 rfl Hi25.out rfl) rfl ⟨by rw [R1.out, R2.out]; rfl, ?_⟩
      exact below_setRow Hbf.out (Nat.le_refl _) _

theorem refFromHex_any (s : ByteArray) (w : World) :
    Calls Try.prog 19 #[.string s] w fun e w' => e = .returned (.tuple #[.agg ((resL (strI s)).map (Value.int .u8)).toArray, .int .i64 (resC (strI s))]) ∧ Below w.heap.size w w' := by
  by_cases h : s.size = 64
  · exact refFromHex_long s w h
  · exact refFromHex_short s w h

end Dig
end Go.Proofs.Ytokdbdebmlpdaaa
