/- The law DigestHexes, walked. -/
import Derived.Test.YtokdbdebmlpdaaaRefHexB
import Derived.Test.YtokdbdebmlpdaaaLawMarksW
namespace Go.Proofs.Ytokdbdebmlpdaaa
open Go.RowKit
namespace Dig

theorem eql_same (l : List Int) (hl : l.length = 32) (W : World) : (binOp .eql 25 (.agg (l.map (Value.int .u8)).toArray) (.agg (l.map (Value.int .u8)).toArray)).run Try.prog W = .ok (.bool true) W := by
  obtain ⟨it, hit, -, hit2, -⟩ := info_parts Try.infoU8
  rw [run_eql_ints W Try.underlying25 Try.underlying5 hit hit2 l l hl hl]
  simp

theorem hexes_big (la : List Int) (s : ByteArray) (w : World) (hb : 2000 < s.size) :
    Calls Try.prog 5 #[.agg (la.map (Value.int .u8)).toArray, .string s] w fun e w' => e = .returned (.bool true) ∧ Below w.heap.size w w' := by
  have hi : (2000 : Int) < s.size := by omega
  have hbel : Below w.heap.size w (w.alloc (.cells (la.map (Value.int .u8)).toArray 25)) := (Below.refl _ w).alloc (Nat.le_refl _) _
  go_enter Try.func5, Try.ntmps5
  go_wp2
  go_ret
  exact ⟨rfl, hbel⟩

/-- What an allocated whole block holds behind a store of all of it. -/
theorem alloc_store (w : World) (l : List Int) (_hl : l.length = 32) :
    (w.alloc (.cells (Z32.map (Value.int .u8)).toArray 25)).heap[w.heap.size]? = some (.cells (Z32.map (Value.int .u8)).toArray 25 (0, 0)) ∧
    IBlk .u8 25 ((w.alloc (.cells (Z32.map (Value.int .u8)).toArray 25)).setRow w.heap.size (l.map (Value.int .u8)).toArray) w.heap.size l ∧
    Below w.heap.size w ((w.alloc (.cells (Z32.map (Value.int .u8)).toArray 25)).setRow w.heap.size (l.map (Value.int .u8)).toArray) :=
  ⟨heap_alloc_new _ _, VBlk.setRow (VBlk.mk w (Z32.map (Value.int .u8)) 25) _, below_setRow ((Below.refl _ w).alloc (Nat.le_refl _) _) (Nat.le_refl _) _⟩

set_option maxRecDepth 100000 in
set_option maxHeartbeats 2000000 in
theorem hexes_small (la : List Int) (s : ByteArray) (w : World) (hb : s.size ≤ 2000) (hl : la.length = 32) (hr : ∀ i, i < 32 → 0 ≤ nth la i ∧ nth la i ≤ 255) :
    Calls Try.prog 5 #[.agg (la.map (Value.int .u8)).toArray, .string s] w fun e w' => e = .returned (.bool true) ∧ Below w.heap.size w w' := by
  have hz25 := zero25
  have hi : ¬ (2000 : Int) < s.size := by omega
  have hA0 : IBlk .u8 25 (w.alloc (.cells (la.map (Value.int .u8)).toArray 25)) w.heap.size la := VBlk.mk w (la.map (Value.int .u8)) 25
  have hbel : Below w.heap.size w (w.alloc (.cells (la.map (Value.int .u8)).toArray 25)) := (Below.refl _ w).alloc (Nat.le_refl _) _
  have HA0 := Hid2.mk hA0
  have Hbel := Hid2.mk hbel
  have Hl := Hid2.mk hl
  have Hr := Hid2.mk hr
  have hone : ∀ l : List Int, (l.map (Value.int .u8)).toArray.all (·.oneCell') = true := by intro l; simp [Value.oneCell']
  clear hA0 hbel hl hr
  go_enter Try.func5, Try.ntmps5
  go_wp2_with (refine wpList_load_row rfl 25 (.tmp 2) rfl w.heap.size rfl 25 (la.map (Value.int .u8)).toArray (0, 0) _ HA0.out Try.underlying25 rfl (info25 la Hl.out) ?_)
  generalize w.alloc _ = w1 at HA0 Hbel ⊢
  refine (hex_any la _ Hl.out Hr.out).mono ?_
  rintro e w2 ⟨rfl, hb2⟩
  have HA2 := Hid2.mk (HA0.out.below hb2 HA0.out.lt)
  have Hb2 := Hid2.mk (Hbel.out.trans (hb2.mono Hbel.out.size))
  have hs2 : w.heap.size < w2.heap.size := HA2.out.lt
  clear hb2 HA0 Hbel
  go_wp2_with fail
  refine (fromHex_any _ _).mono ?_
  rintro e w3 ⟨rfl, hb3⟩
  rw [hexN_str la Hr.out, (back_res la Hl.out Hr.out).1, (back_res la Hl.out Hr.out).2]
  have HA3 := Hid2.mk (HA2.out.below hb3 HA2.out.lt)
  have Hb3 := Hid2.mk (Hb2.out.trans (hb3.mono Hb2.out.size))
  have hs3 : w.heap.size < w3.heap.size := HA3.out.lt
  obtain ⟨q1, q2, q3⟩ := alloc_store w3 la Hl.out
  have Q1 := Hid2.mk q1
  have Q2 := Hid2.mk q2
  have Q3 := Hid2.mk q3
  have Hsz := Hid2.mk (info_z32b la Hl.out)
  have Hone := Hid2.mk (hone la)
  clear hb3 HA2 Hb2 q1 q2 q3 hs2
  go_wp2_with (refine wpList_store_row rfl 25 (.tmp 5) (.tmp 18) rfl w3.heap.size (la.map (Value.int .u8)).toArray rfl rfl 25 (Z32.map (Value.int .u8)).toArray Q1.out (info25 la Hl.out) Hsz.out.symm Hone.out ?_)
  generalize (World.setRow _ _ _) = w4 at Q2 Q3 ⊢
  have HA4 := Hid2.mk (HA3.out.below Q3.out HA3.out.lt)
  have HX4 := Q2
  have Hb4 := Hid2.mk (Hb3.out.trans (Q3.out.mono (Nat.le_of_lt hs3)))
  have hs34 : w3.heap.size < w4.heap.size := Q2.out.lt
  obtain ⟨rs, hrs, hrl⟩ : ∃ rs, Hid2 (rs = resL (strI s)) ∧ Hid2 (rs.length = 32) := ⟨_, Hid2.mk rfl, Hid2.mk (resL_length _)⟩
  obtain ⟨rc, hrc⟩ : ∃ rc, Hid2 (rc = resC (strI s)) := ⟨_, Hid2.mk rfl⟩
  clear HA3 Hb3 Q1 Q2 Q3 Hsz Hone
  refine (fromHex_any _ _).mono ?_
  rintro e w5 ⟨rfl, hb5⟩
  rw [← hrs.out, ← hrc.out]
  have HA5 := Hid2.mk (HA4.out.below hb5 HA4.out.lt)
  have HX5 := Hid2.mk (HX4.out.below hb5 HX4.out.lt)
  have Hb5 := Hid2.mk (Hb4.out.trans (hb5.mono Hb4.out.size))
  have hs35 : w3.heap.size < w5.heap.size := HX5.out.lt
  obtain ⟨q1, q2, q3⟩ := alloc_store w5 rs hrl.out
  have Q1 := Hid2.mk q1
  have Q2 := Hid2.mk q2
  have Q3 := Hid2.mk q3
  have Hsz := Hid2.mk (info_z32b rs hrl.out)
  have Hone := Hid2.mk (hone rs)
  clear hb5 HA4 HX4 Hb4 q1 q2 q3 hs34
  go_wp2_with (refine wpList_store_row rfl 25 (.tmp 7) (.tmp 23) rfl w5.heap.size (rs.map (Value.int .u8)).toArray rfl rfl 25 (Z32.map (Value.int .u8)).toArray Q1.out (info25 rs hrl.out) Hsz.out.symm Hone.out ?_)
  generalize (World.setRow _ _ _) = w6 at Q2 Q3 ⊢
  have HA6 := Hid2.mk (HA5.out.below Q3.out HA5.out.lt)
  have HX6 := Hid2.mk (HX5.out.below Q3.out HX5.out.lt)
  have HY6 := Q2
  have Hb6 := Hid2.mk (Hb5.out.trans (Q3.out.mono (by omega)))
  have hs56 : w5.heap.size < w6.heap.size := Q2.out.lt
  clear HA5 HX5 Hb5 Q1 Q2 Q3
  refine (refFromHex_any _ _).mono ?_
  rintro e w7 ⟨rfl, hb7⟩
  rw [← hrs.out, ← hrc.out]
  have HA7 := Hid2.mk (HA6.out.below hb7 HA6.out.lt)
  have HX7 := Hid2.mk (HX6.out.below hb7 HX6.out.lt)
  have HY7 := Hid2.mk (HY6.out.below hb7 HY6.out.lt)
  have Hb7 := Hid2.mk (Hb6.out.trans (hb7.mono Hb6.out.size))
  have hs57 : w5.heap.size < w7.heap.size := HY7.out.lt
  obtain ⟨q1, q2, q3⟩ := alloc_store w7 rs hrl.out
  have Q1 := Hid2.mk q1
  have Q2 := Hid2.mk q2
  have Q3 := Hid2.mk q3
  clear hb7 HA6 HX6 HY6 Hb6 q1 q2 q3 hs56
  go_wp2_with (refine wpList_store_row rfl 25 (.tmp 9) (.tmp 28) rfl w7.heap.size (rs.map (Value.int .u8)).toArray rfl rfl 25 (Z32.map (Value.int .u8)).toArray Q1.out (info25 rs hrl.out) Hsz.out.symm Hone.out ?_)
  generalize (World.setRow _ _ _) = w8 at Q2 Q3 ⊢
  have HA8 := Hid2.mk (show w8.heap[w.heap.size]? = some (.cells (la.map (Value.int .u8)).toArray 25 (0, 0)) from HA7.out.below Q3.out HA7.out.lt)
  have HX8 := Hid2.mk (show w8.heap[w3.heap.size]? = some (.cells (la.map (Value.int .u8)).toArray 25 (0, 0)) from HX7.out.below Q3.out HX7.out.lt)
  have HY8 := Hid2.mk (show w8.heap[w5.heap.size]? = some (.cells (rs.map (Value.int .u8)).toArray 25 (0, 0)) from HY7.out.below Q3.out HY7.out.lt)
  have HZ8 := Hid2.mk (show w8.heap[w7.heap.size]? = some (.cells (rs.map (Value.int .u8)).toArray 25 (0, 0)) from Q2.out)
  have Hb8 := Hid2.mk (Hb7.out.trans (Q3.out.mono (by omega)))
  have hea := eql_same la Hl.out
  have her := eql_same rs hrl.out
  have hz0 : hexN la 64 = hexN la 64 := rfl
  clear HA7 HX7 HY7 Hb7 Q1 Q2 Q3 hz0 Hsz Hone hone hz25 hi hb
  refine wp_region_quietB (by kernel_rfl) (by kernel_rfl) ?_
  repeat (first | go_big_quiet_skip | (go_big_quiet_want; refine quiet_loadB 25 (.tmp 2) rfl w.heap.size rfl 25 (la.map (Value.int .u8)).toArray (0, 0) _ HA8.out Try.underlying25 rfl (info25 la Hl.out) ?_; go_simp; go_big_quiet_on) | (go_big_quiet_want; refine quiet_loadB 25 (.tmp 5) rfl w3.heap.size rfl 25 (la.map (Value.int .u8)).toArray (0, 0) _ HX8.out Try.underlying25 rfl (info25 la Hl.out) ?_; go_simp; go_big_quiet_on) | (go_big_quiet_want; refine quiet_loadB 25 (.tmp 7) rfl w5.heap.size rfl 25 (rs.map (Value.int .u8)).toArray (0, 0) _ HY8.out Try.underlying25 rfl (info25 rs hrl.out) ?_; go_simp; go_big_quiet_on) | (go_big_quiet_want; refine quiet_loadB 25 (.tmp 9) rfl w7.heap.size rfl 25 (rs.map (Value.int .u8)).toArray (0, 0) _ HZ8.out Try.underlying25 rfl (info25 rs hrl.out) ?_; go_simp; go_big_quiet_on) | (go_big_quiet_want; go_big_quiet_op; first | go_big_quiet_on | (refine ⟨_, fun _ _ => rfl, ?_⟩; go_big_quiet_on) | (apply Exists.intro; refine ⟨fun _ hB => ?_, ?_⟩; (focus (first | (go_at_call 18; exact callB hB (hex_any la _ Hl.out Hr.out)) | (go_at_call 20; exact callB hB (refHex_any la _ Hl.out Hr.out)) | (go_at_call 10; exact callB hB (known_any _)))); go_big_quiet_on)))
  refine wpQuiet_nil ?_
  intro w' hw'
  have hbf : Below w.heap.size w w' := Hb8.out.trans (hw'.mono Hb8.out.size)
  clear hw' Hb8 hea her HA8 HX8 HY8 HZ8
  go_wp2_with fail
  go_ret
  exact ⟨rfl, hbf⟩

theorem hexes_any (la : List Int) (s : ByteArray) (w : World) (hl : la.length = 32) (hr : ∀ x ∈ la, (Lit.int .u8 x).wf = true) :
    Calls Try.prog 5 #[.agg (la.map (Value.int .u8)).toArray, .string s] w fun e w' => e = .returned (.bool true) ∧ Below w.heap.size w w' := by
  by_cases h : 2000 < s.size
  · exact hexes_big la s w h
  · refine hexes_small la s w (by omega) hl fun i hi => ?_
    have hi' : i < la.length := by omega
    have := hr la[i] (List.getElem_mem hi')
    have e : nth la i = la[i] := by simp [nth, List.getD, List.getElem?_eq_getElem hi']
    rw [e]
    simpa [Lit.wf, IntKind.min, IntKind.max, IntKind.bits, IntKind.signed] using this

end Dig
end Go.Proofs.Ytokdbdebmlpdaaa
