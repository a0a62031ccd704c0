/- digest: digests out of digits, in the program. -/
import Derived.Test.YtokdbdebmlpdaaaHexPure
import Derived.Test.YtokdbdebmlpdaaaDigMarks
namespace Go.Proofs.Ytokdbdebmlpdaaa
open Go.RowKit
namespace Dig

/-- Two results: a whole block and a slot. -/
theorem results_cell_tmp {P : Program} {fn : Func} {p q : Tmp} {ty : TypeId} (h : fn.results = #[.cell p ty, .tmp q]) (tmps : Array Value) (w : World) (g : Nat) (t : TypeId) (cs : Array Value) (fr : Nat × Nat) (d : TypeDesc) (x : Value)
    (hp : tmps.getD p undef = .pointer (some ⟨g, 0, none⟩)) (hg : w.heap[g]? = some (.cells cs t fr))
    (hu : P.underlying ty = some d) (hd : (match d with | .struct _ | .array _ _ => true | _ => false) = true) (hi : (P.info? ty).map (·.size) = some cs.size) (hx : tmps.getD q undef = x) :
    (results fn tmps).run P w = .ok (.tuple #[.agg cs, x]) w := by
  have hp' : tmps[p]?.getD undef = .pointer (some ⟨g, 0, none⟩) := by simpa using hp
  have hx' : tmps[q]?.getD undef = x := by simpa using hx
  simp [results, h, hp', hx', asAddr, run_loadVar_row w g t ty cs fr d hg hu hd hi]

theorem built25 : Try.prog.built 25 [] = some (Z32.map (Value.int .u8)).toArray := by kernel_rfl

/-- A string's bytes in a row of their own. -/
theorem bytes_row (w : World) (s : ByteArray) (c : Nat) (fr : Nat × Nat) : Row .u8 (w.alloc (.cells (bytesRow s c) 5 fr)) w.heap.size 0 (strI s) := by
  intro j hj
  rw [strI_length] at hj
  have h1 : (w.alloc (.cells (bytesRow s c) 5 fr)).heap[w.heap.size]? = some (.cells (bytesRow s c) 5 fr) := heap_alloc_new _ _
  rw [Nat.zero_add, cell_of_row _ _ _ _ _ _ h1, strI_nth s j hj]
  exact bytesRow_at s c j hj

theorem conv_bytes (w : World) (s : ByteArray) : ∃ c w', (convert 9 22 (.string s)).run Try.prog w = .ok (.slice (some ⟨w.heap.size, 0, none⟩) s.size c) w' ∧
    Row .u8 w' w.heap.size 0 (strI s) ∧ Keep (fun k => k < w.heap.size) w w' ∧ w.heap.size < w'.heap.size := by
  refine ⟨_, _, run_bytes_of_string (P := Try.prog) w 9 22 5 s Try.underlying9 Try.underlying22 Try.underlying5, bytes_row w.drew s _ _, ?_, ?_⟩
  · exact ((Keep.refl _ w).drewN 1).alloc (fun k hk => hk) _
  · show w.heap.size < (w.heap.push _).size
    simp

theorem info_z32 : (Try.prog.info? 25).map (·.size) = some (Z32.map (Value.int .u8)).toArray.size := by kernel_rfl

set_option maxRecDepth 100000 in
set_option maxHeartbeats 1000000 in
theorem fromHex_short (s : ByteArray) (w : World) (hs : ¬ s.size = 64) :
    Calls Try.prog 17 #[.string s] w fun e w' => e = .returned (.tuple #[.agg ((resL (strI s)).map (Value.int .u8)).toArray, .int .i64 (resC (strI s))]) ∧ Below w.heap.size w w' := by
  have hz25 := zero25
  obtain ⟨r1, r2⟩ := res_bad (strI s) (fun h => hs (by rw [← strI_length]; exact h.1))
  rw [r1, r2]
  clear r1 r2
  have hd : ((s.size : Int) == 64) = false := by rw [beq_eq_false_iff_ne]; omega
  have hB0 := VBlk.mk w (Z32.map (Value.int .u8)) 25
  have HB0 := Hid2.mk hB0
  have hbel0 : Below w.heap.size w (w.alloc (.cells (Z32.map (Value.int .u8)).toArray 25)) := (Below.refl _ w).alloc (Nat.le_refl _) _
  have Hbel := Hid2.mk hbel0
  have hone : (Z32.map (Value.int .u8)).toArray.all (·.oneCell') = true := by simp [Value.oneCell']
  have Hone := Hid2.mk hone
  clear hB0 hbel0 hone
  go_enter Try.func17, Try.ntmps17
  go_wp2_with (first | (refine wpList_build_to rfl 25 #[] rfl (Z32.map (Value.int .u8)).toArray built25 ?_) | (refine wpList_store_row rfl 25 (.tmp 2) (.tmp 10) rfl w.heap.size (Z32.map (Value.int .u8)).toArray rfl rfl 25 (Z32.map (Value.int .u8)).toArray HB0.out info_z32 rfl Hone.out ?_))
  refine bodyPost_ret (results_cell_tmp rfl _ _ w.heap.size 25 (Z32.map (Value.int .u8)).toArray (0, 0) _ _ rfl (setRow_heap _ _ _ _ _ _ HB0.out) Try.underlying25 rfl info_z32 rfl) rfl ⟨rfl, ?_⟩
  exact below_setRow Hbel.out (Nat.le_refl _) _


set_option maxRecDepth 100000 in
set_option maxHeartbeats 2000000 in
theorem fromHex_long (s : ByteArray) (w : World) (hs : s.size = 64) :
    Calls Try.prog 17 #[.string s] w fun e w' => e = .returned (.tuple #[.agg ((resL (strI s)).map (Value.int .u8)).toArray, .int .i64 (resC (strI s))]) ∧ Below w.heap.size w w' := by
  have hz25 := zero25
  have hd : ((s.size : Int) == 64) = true := by rw [beq_iff_eq]; omega
  have hI0 : IBlk .u8 25 (w.alloc (.cells (Z32.map (Value.int .u8)).toArray 25)) w.heap.size (fh (strI s) 0) := VBlk.mk w (Z32.map (Value.int .u8)) 25
  have hbel0 : Below w.heap.size w (w.alloc (.cells (Z32.map (Value.int .u8)).toArray 25)) := (Below.refl _ w).alloc (Nat.le_refl _) _
  have hone : ∀ l : List Int, (l.map (Value.int .u8)).toArray.all (·.oneCell') = true := by intro l; simp [Value.oneCell']
  obtain ⟨w0, hw0⟩ : ∃ w0, w0 = w.alloc (.cells (Z32.map (Value.int .u8)).toArray 25) := ⟨_, rfl⟩
  have hs0 : w0.heap.size = w.heap.size + 1 := by rw [hw0]; simp
  obtain ⟨c, w1, hcv, hrow1, hk1, hs1⟩ := conv_bytes w0 s
  rw [hs] at hcv
  rw [← hw0] at hI0 hbel0
  have hI1 : IBlk .u8 25 w1 w.heap.size (fh (strI s) 0) := hI0.keep hk1 (by omega)
  have hbel1 : Below w.heap.size w w1 := hbel0.trans (hk1.mono (fun k hk => by omega)).below
  have HI1 := Hid2.mk hI1
  have Hrow1 := Hid2.mk hrow1
  have Hbel1 := Hid2.mk hbel1
  have hlen : (strI s).length = 64 := by rw [strI_length]; exact hs
  have hlr := strI_range s
  rw [hs] at hlr
  have Hlen := Hid2.mk hlen
  rw [hw0] at hcv
  clear hI0 hbel0 hs hI1 hrow1 hbel1 hk1 hlen hw0
  go_enter Try.func17, Try.ntmps17
  go_wp2_with fail
  go_loopw [14] (fun i wr => ∃ k, k ≤ 64 ∧ i = .int .i64 (k : Nat) ∧ IBlk .u8 25 wr w.heap.size (fh (strI s) k) ∧ Keep (fun k => k ≠ w.heap.size) w1 wr ∧ ∀ j, j < k → isDig (nth (strI s) j))
    (fun i _ => 64 - (intOf i).toNat)
  case atStart => exact ⟨0, by omega, rfl, HI1.out, Keep.refl _ _, fun j hj => by omega⟩
  case round =>
    obtain ⟨k, hk, rfl, hbr, hkr, hdr⟩ := hrel
    have Hbr := Hid2.mk hbr
    have Hkr := Hid2.mk hkr
    have Hdr := Hid2.mk hdr
    have hro : Row .u8 wr w0.heap.size 0 (strI s) := Hrow1.out.keep hkr (by omega)
    have Hro := Hid2.mk hro
    have hbf : Below w.heap.size w wr := Hbel1.out.trans (hkr.mono (fun k (hk : k < w.heap.size) => by omega)).below
    have Hbf := Hid2.mk hbf
    clear hbr hkr hdr hro hbf
    by_cases h64 : k < 64
    · have hki : (k : Int) < 64 := by omega
      have hc := Hro.out.at0 k (by rw [Hlen.out]; exact h64)
      obtain ⟨c0, c1⟩ := hlr k h64
      obtain ⟨x, hx⟩ : ∃ x, x = nth (strI s) k := ⟨_, rfl⟩
      rw [← hx] at hc c0 c1
      have Hx := Hid2.mk hx
      rw [hs0] at hc
      have hcy := Hbr.out.cell (k / 2) (by rw [fh_length]; omega)
      have hfy := Hbr.out.free (k / 2)
      obtain ⟨y0, y1⟩ := fh_low (strI s) k h64 Hdr.out
      obtain ⟨y, hy⟩ : ∃ y, y = nth (fh (strI s) k) (k / 2) := ⟨_, rfl⟩
      rw [← hy] at hcy y0 y1
      have Hy := Hid2.mk hy
      clear hx hy
      have hnext : ∀ n, dv x = n → IBlk .u8 25 (wr.setCell ⟨w.heap.size, k / 2, none⟩ (.int .u8 (y * 16 + n))) w.heap.size (fh (strI s) (k + 1)) := by
        intro n hn
        have := Hbr.out.set (k / 2) (y * 16 + n)
        rw [fh, ← Hy.out, ← Hx.out, hn]
        exact this
      have hkn : ∀ v, Keep (fun k => k ≠ w.heap.size) w1 (wr.setCell ⟨w.heap.size, k / 2, none⟩ v) := fun v => Hkr.out.setCell (fun h => h rfl) v
      have hdn : isDig x → ∀ j, j < k + 1 → isDig (nth (strI s) j) := by
        intro h j hj
        by_cases e : j < k
        · exact Hdr.out j e
        · have : j = k := by omega
          rw [this, ← Hx.out]; exact h
      have Hnext := Hid2.mk hnext
      have Hkn := Hid2.mk hkn
      have Hdn := Hid2.mk hdn
      clear hnext hkn hdn
      by_cases hdg : 48 ≤ x ∧ x ≤ 57
      · obtain ⟨d0, d1⟩ := hdg
        have hor := or_low y (x - 48) y0 y1 (by omega) (by omega)
        go_wp2_with fail
        go_roundw
        case rel => exact ⟨k + 1, by omega, by go_num, Hnext.out _ (by unfold dv; rw [if_pos d1]), Hkn.out _, Hdn.out (.inl ⟨d0, d1⟩)⟩
        case measure => simp [intOf]; omega
      · by_cases hdl : 97 ≤ x ∧ x ≤ 102
        · obtain ⟨d0, d1⟩ := hdl
          have d2 : ¬ x ≤ 57 := by omega
          have hor := or_low y (x - 97 + 10) y0 y1 (by omega) (by omega)
          have d3 : ¬ x ≤ 57 := by omega
          go_wp2_with fail
          refine ⟨⟨_, _, _, _, _, ⟨k + 1, by omega, rfl, Hnext.out _ (by unfold dv; rw [if_neg (by omega)]), Hkn.out _, Hdn.out (.inr ⟨d0, d1⟩)⟩, rfl, rfl, rfl, rfl, by go_num⟩, ?_⟩
          simp [intOf]; omega
        · obtain ⟨r1, r2⟩ := res_bad (strI s) (fun h => by
            have := h.2 k h64
            rw [← Hx.out] at this
            rcases this with h | h
            · exact hdg h
            · exact hdl h)
          have R1 := Hid2.mk r1
          have R2 := Hid2.mk r2
          clear r1 r2
          have hg : wr.heap[w.heap.size]? = some (.cells ((fh (strI s) k).map (Value.int .u8)).toArray 25 (0, 0)) := Hbr.out
          have Hg := Hid2.mk hg
          have hz : (Z32.map (Value.int .u8)).toArray.size = ((fh (strI s) k).map (Value.int .u8)).toArray.size := by
            rw [List.size_toArray, List.length_map, List.size_toArray, List.length_map, fh_length]; rfl
          have Hz := Hid2.mk hz
          have Hone := Hid2.mk (hone Z32)
          clear hg hz hone
          by_cases h1 : x < 48
          · go_wp2_with (first | (refine wpList_build_to rfl 25 #[] rfl (Z32.map (Value.int .u8)).toArray built25 ?_) | (refine wpList_store_row rfl 25 (.tmp 2) (.tmp 19) rfl w.heap.size (Z32.map (Value.int .u8)).toArray rfl rfl 25 ((fh (strI s) k).map (Value.int .u8)).toArray Hg.out info_z32 Hz.out.symm Hone.out ?_))
            refine bodyPost_ret (results_cell_tmp rfl _ _ w.heap.size 25 (Z32.map (Value.int .u8)).toArray (0, 0) _ _ rfl (setRow_heap _ _ _ _ _ _ Hg.out) Try.underlying25 rfl info_z32 rfl) rfl ⟨by rw [R1.out, R2.out]; rfl, ?_⟩
            exact below_setRow Hbf.out (Nat.le_refl _) _
          · by_cases h2 : x < 97
            · have h3 : ¬ x ≤ 57 := by omega
              go_wp2_with (first | (refine wpList_build_to rfl 25 #[] rfl (Z32.map (Value.int .u8)).toArray built25 ?_) | (refine wpList_store_row rfl 25 (.tmp 2) (.tmp 19) rfl w.heap.size (Z32.map (Value.int .u8)).toArray rfl rfl 25 ((fh (strI s) k).map (Value.int .u8)).toArray Hg.out info_z32 Hz.out.symm Hone.out ?_))
              refine bodyPost_ret (results_cell_tmp rfl _ _ w.heap.size 25 (Z32.map (Value.int .u8)).toArray (0, 0) _ _ rfl (setRow_heap _ _ _ _ _ _ Hg.out) Try.underlying25 rfl info_z32 rfl) rfl ⟨by rw [R1.out, R2.out]; rfl, ?_⟩
              exact below_setRow Hbf.out (Nat.le_refl _) _
            · have h3 : ¬ x ≤ 102 := by omega
              go_wp2_with (first | (refine wpList_build_to rfl 25 #[] rfl (Z32.map (Value.int .u8)).toArray built25 ?_) | (refine wpList_store_row rfl 25 (.tmp 2) (.tmp 19) rfl w.heap.size (Z32.map (Value.int .u8)).toArray rfl rfl 25 ((fh (strI s) k).map (Value.int .u8)).toArray Hg.out info_z32 Hz.out.symm Hone.out ?_))
              refine bodyPost_ret (results_cell_tmp rfl _ _ w.heap.size 25 (Z32.map (Value.int .u8)).toArray (0, 0) _ _ rfl (setRow_heap _ _ _ _ _ _ Hg.out) Try.underlying25 rfl info_z32 rfl) rfl ⟨by rw [R1.out, R2.out]; rfl, ?_⟩
              exact below_setRow Hbf.out (Nat.le_refl _) _
    · have hd2 : decide ((k : Int) < 64) = false := decide_eq_false (by omega)
      have hk64 : k = 64 := by omega
      have hgood : goodHex (strI s) := ⟨Hlen.out, fun j hj => Hdr.out j (by omega)⟩
      obtain ⟨r1, r2⟩ := res_good _ hgood
      have R1 := Hid2.mk r1
      have R2 := Hid2.mk r2
      have hg : wr.heap[w.heap.size]? = some (.cells ((fh (strI s) 64).map (Value.int .u8)).toArray 25 (0, 0)) := by rw [← hk64]; exact Hbr.out
      have Hg := Hid2.mk hg
      have hi25 := info25 (fh (strI s) 64) (fh_length _ _)
      have Hi25 := Hid2.mk hi25
      have Hone := Hid2.mk (hone (fh (strI s) 64))
      clear r1 r2 hgood hg hi25 hone hk64
      go_wp2_with (first | (refine wpList_load_row rfl 25 (.tmp 2) rfl w.heap.size rfl 25 ((fh (strI s) 64).map (Value.int .u8)).toArray (0, 0) _ Hg.out Try.underlying25 rfl Hi25.out ?_) | (refine wpList_store_row rfl 25 (.tmp 2) (.tmp 50) rfl w.heap.size ((fh (strI s) 64).map (Value.int .u8)).toArray rfl rfl 25 ((fh (strI s) 64).map (Value.int .u8)).toArray Hg.out Hi25.out rfl Hone.out ?_))
      refine bodyPost_ret (results_cell_tmp rfl _ _ w.heap.size 25 ((fh (strI s) 64).map (Value.int .u8)).toArray (0, 0) _ _ rfl (setRow_heap _ _ _ _ _ _ Hg.out) Try.underlying25 rfl Hi25.out rfl) rfl ⟨by rw [R1.out, R2.out]; rfl, ?_⟩
      exact below_setRow Hbf.out (Nat.le_refl _) _

theorem fromHex_any (s : ByteArray) (w : World) :
    Calls Try.prog 17 #[.string s] w fun e w' => e = .returned (.tuple #[.agg ((resL (strI s)).map (Value.int .u8)).toArray, .int .i64 (resC (strI s))]) ∧ Below w.heap.size w w' := by
  by_cases h : s.size = 64
  · exact fromHex_long s w h
  · exact fromHex_short s w h

end Dig
end Go.Proofs.Ytokdbdebmlpdaaa
