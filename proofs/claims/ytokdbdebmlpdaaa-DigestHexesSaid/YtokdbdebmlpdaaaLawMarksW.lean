/- The law DigestMarks, walked. -/
import Derived.Test.YtokdbdebmlpdaaaDigMarks
import Derived.Test.YtokdbdebmlpdaaaArrEq
import Derived.Test.YtokdbdebmlpdaaaQuietB
namespace Go.Proofs.Ytokdbdebmlpdaaa
open Go.RowKit
namespace Dig

theorem eql_sum (x : List Int) (W : World) : (binOp .eql 25 (.agg ((sumL x).map (Value.int .u8)).toArray) (.agg ((sumL x).map (Value.int .u8)).toArray)).run Try.prog W = .ok (.bool true) W := by
  obtain ⟨it, hit, -, hit2, -⟩ := info_parts Try.infoU8
  rw [run_eql_ints W Try.underlying25 Try.underlying5 hit hit2 (sumL x) (sumL x) (sumL_length x) (sumL_length x)]
  simp

theorem marks_big (v : Value) (l la lb : List Int) (w : World) (hv : Sl .u8 w v l) (hb : 2000 < l.length) :
    Calls Try.prog 4 #[v, .agg (la.map (Value.int .u8)).toArray, .agg (lb.map (Value.int .u8)).toArray] w fun e w' => e = .returned (.bool true) ∧ Below w.heap.size w w' := by
  obtain ⟨sp, cap, rfl, -, -, -, -⟩ := hv
  have hi : (2000 : Int) < l.length := by omega
  have hbel : Below w.heap.size w ((w.alloc (.cells (la.map (Value.int .u8)).toArray 25)).alloc (.cells (lb.map (Value.int .u8)).toArray 25)) := ((Below.refl _ w).alloc (Nat.le_refl _) _).alloc (by simp) _
  go_enter Try.func4, Try.ntmps4
  go_wp2
  go_ret
  exact ⟨rfl, hbel⟩

set_option maxRecDepth 100000 in
set_option maxHeartbeats 2000000 in
theorem marks_small (v : Value) (l la lb : List Int) (w : World) (hv : Sl .u8 w v l) (hb : l.length ≤ 2000) (ha : la.length = 32) (hb2 : lb.length = 32) :
    Calls Try.prog 4 #[v, .agg (la.map (Value.int .u8)).toArray, .agg (lb.map (Value.int .u8)).toArray] w fun e w' => e = .returned (.bool true) ∧ Below w.heap.size w w' := by
  have hv2 := hv
  obtain ⟨sp, cap, rfl, -, -, -, -⟩ := hv2
  have hi : ¬ (2000 : Int) < l.length := by omega
  have hi2 : (l.length : Int) ≤ 2000 := by omega
  have Ha := Hid2.mk ha
  have Hb := Hid2.mk hb2
  clear ha hb2
  have hw1s : (w.alloc (.cells (la.map (Value.int .u8)).toArray 25)).heap.size = w.heap.size + 1 := by simp
  have hL : IBlk .u8 25 ((w.alloc (.cells (la.map (Value.int .u8)).toArray 25)).alloc (.cells (lb.map (Value.int .u8)).toArray 25)) w.heap.size la := IBlk.alloc (VBlk.mk w (la.map (Value.int .u8)) 25) _
  have hR : IBlk .u8 25 ((w.alloc (.cells (la.map (Value.int .u8)).toArray 25)).alloc (.cells (lb.map (Value.int .u8)).toArray 25)) (w.heap.size + 1) lb := by
    have := VBlk.mk (w.alloc (.cells (la.map (Value.int .u8)).toArray 25)) (lb.map (Value.int .u8)) 25
    rw [hw1s] at this; exact this
  have hbel : Below w.heap.size w ((w.alloc (.cells (la.map (Value.int .u8)).toArray 25)).alloc (.cells (lb.map (Value.int .u8)).toArray 25)) := ((Below.refl _ w).alloc (Nat.le_refl _) _).alloc (by simp) _
  have hv0 := hv.of_below hbel
  have HL := Hid2.mk hL
  have HR := Hid2.mk hR
  have Hbel := Hid2.mk hbel
  clear hL hR hbel hw1s hv
  go_enter Try.func4, Try.ntmps4
  go_wp2_with fail
  refine (roomy_any _ l _ hv0 (by omega)).mono ?_
  rintro e w1 ⟨⟨g, c, rfl, hc, hc2, hg, hrow⟩, hb1⟩
  have hv1 := hv0.of_below hb1
  have hpre : Row .u8 w1 g 0 l := fun j hj => by rw [hrow j (by simp; omega), nth_left _ _ _ hj]
  have hsl : Sl .u8 w1 (.slice (some ⟨g, 0, none⟩) l.length c) l := Sl.mk (by omega) hc2 hg hpre
  have hci : (l.length : Int) ≤ c := by omega
  have hc0 : ¬ c = 0 := by omega
  have hL1 : w1.heap[w.heap.size]? = some (.cells (la.map (Value.int .u8)).toArray 25 (0, 0)) := HL.out.below hb1 HL.out.lt
  have hR1 : w1.heap[w.heap.size + 1]? = some (.cells (lb.map (Value.int .u8)).toArray 25 (0, 0)) := HR.out.below hb1 HR.out.lt
  have hbw : Below w.heap.size w w1 := Hbel.out.trans (hb1.mono Hbel.out.size)
  have HL1 := Hid2.mk hL1
  have HR1 := Hid2.mk hR1
  have Hrow := Hid2.mk hrow
  have Hsl := Hid2.mk hsl
  have Hv1 := Hid2.mk hv1
  have heq := eql_sum
  clear hv0 hpre hrow hL1 hR1 HL HR Hbel hb1 hsl hv1
  go_wp2_with fail
  refine wp_region_quietB (by kernel_rfl) (by kernel_rfl) ?_
  repeat (first | go_big_quiet_skip | (go_big_quiet_want; refine quiet_loadB 25 (.tmp 4) rfl w.heap.size rfl 25 (la.map (Value.int .u8)).toArray (0, 0) _ HL1.out Try.underlying25 rfl (info25 la Ha.out) ?_; go_simp; go_big_quiet_on) | (go_big_quiet_want; refine quiet_loadB 25 (.tmp 5) rfl (w.heap.size + 1) rfl 25 (lb.map (Value.int .u8)).toArray (0, 0) _ HR1.out Try.underlying25 rfl (info25 lb Hb.out) ?_; go_simp; go_big_quiet_on) | (go_big_quiet_want; go_big_quiet_op; first | go_big_quiet_on | (refine ⟨_, fun _ _ => rfl, ?_⟩; go_big_quiet_on) | (apply Exists.intro; refine ⟨fun _ hB => ?_, ?_⟩; (focus (first | (go_at_call 11; exact callB hB (leaf_any _ _ _ (Hsl.out.of_below hB) (by omega))) | (go_at_call 12; exact callB hB (refLeaf_any _ _ _ (Hv1.out.of_below hB) (by omega))) | (go_at_call 13; exact callB hB (node_any la lb _ Ha.out Hb.out)) | (go_at_call 14; exact callB hB (refNode_any la lb _ Ha.out Hb.out)) | (go_at_call 15; exact callB hB (chain_any la _ l _ Ha.out (Hsl.out.of_below hB) (by omega))) | (go_at_call 16; exact callB hB (refChain_any la _ l _ Ha.out (Hv1.out.of_below hB) (by omega))) | (go_at_call 9; exact callD hB (stands_true g c _ l _ (Hv1.out.of_below hB) hc hc2 (Nat.lt_of_lt_of_le hg hB.size) (Hrow.out.below hB hg))) | (go_at_call 10; exact callB hB (known_any _)))); go_big_quiet_on)))
  refine wpQuiet_nil ?_
  intro w' hw'
  have hbf : Below w.heap.size w w' := hbw.trans (hw'.mono hbw.size)
  clear hw' hbw heq HL1 HR1 Hrow Hsl Hv1
  go_wp2_with fail
  go_ret
  exact ⟨rfl, hbf⟩

theorem marks_any (v : Value) (l la lb : List Int) (w : World) (hv : Sl .u8 w v l) (ha : la.length = 32) (hb2 : lb.length = 32) :
    Calls Try.prog 4 #[v, .agg (la.map (Value.int .u8)).toArray, .agg (lb.map (Value.int .u8)).toArray] w fun e w' => e = .returned (.bool true) ∧ Below w.heap.size w w' := by
  by_cases h : 2000 < l.length
  · exact marks_big v l la lb w hv h
  · exact marks_small v l la lb w hv (by omega) ha hb2

end Dig
end Go.Proofs.Ytokdbdebmlpdaaa
