/- Texts for LawBlkChecks, part 4 of 5. -/
import Derived.Test.YtlamdhekjlnccaaGreatDoorZLawBlkChecks3
import Derived.Shelf.Strconv.Itoa0
import Derived.Shelf.Spec.TrailingZeros
import Derived.Test.YtlamdhekjlnccaaGreatDoorProg
import Derived.Lib.ItoaNum
import Derived.StillTailTactics
import Derived.IntWalk
import Derived.Deep.MidRow
import Derived.Great.BuildSlice
/- The contracts of bits.Len64 and bits.TrailingZeros64 at this program, as the kit's shelf lays them (lay-shelf.mjs, lay-plain.mjs). -/
namespace Go.Proofs
open Go.Shelf
def Tryz.lays129_ren : Go.Shelf.Ren := ⟨fun | 129 => 95 | n => n, fun | 53 => 88 | 3 => 3 | 4 => 4 | 46 => 84 | 5 => 5 | 9 => 9 | n => n, fun | n => n⟩
theorem Tryz.lays129 : Go.Proofs.Lays.n129 Tryz.prog Tryz.lays129_ren := {
  mixed := by kernel_rfl
  f129 := Tryz.func95.trans (congrArg some (by kernel_rfl))
  t3 := Tryz.underlying3
  a3 := Tryz.isAgg3
  z3 := Tryz.sizeOf3
  v3 := Tryz.zeroValue3
  t4 := Tryz.underlying4
  a4 := Tryz.isAgg4
  z4 := Tryz.sizeOf4
  v4 := Tryz.zeroValue4
  t5 := Tryz.underlying5
  a5 := Tryz.isAgg5
  z5 := Tryz.sizeOf5
  v5 := Tryz.zeroValue5
  t9 := Tryz.underlying9
  a9 := Tryz.isAgg9
  z9 := Tryz.sizeOf9
  v9 := Tryz.zeroValue9
  t46 := Tryz.underlying84
  a46 := Tryz.isAgg84
  z46 := Tryz.sizeOf84
  v46 := Tryz.zeroValue84
  t53 := Tryz.underlying88
  a53 := Tryz.isAgg88
  z53 := Tryz.sizeOf88
  v53 := Tryz.zeroValue88 }
/-- bits.Len64. -/
theorem Tryz.bits_Len64 (x : Int) (w : World) (h0 : 0 ≤ x) (h1 : x ≤ 18446744073709551615) :
    Calls Tryz.prog 95 #[.int .u64 x] w fun e w' => e = .returned (.int .i64 (Lib.bitLen x.toNat)) ∧ w' = w := Any.bits_Len64 Tryz.lays129 x w h0 h1
def Tryz.lays7n29_ren : Go.Shelf.Ren := ⟨fun | 29 => 76 | n => n, fun | 22 => 88 | 3 => 3 | 4 => 4 | 25 => 84 | 54 => 132 | 0 => 0 | 5 => 5 | n => n, fun | 1 => 0 | n => n⟩
theorem Tryz.lays7n29 : Go.Proofs.Lays7.n29 Tryz.prog Tryz.lays7n29_ren := {
  mixed := by kernel_rfl
  f29 := Tryz.func76.trans (congrArg some (by kernel_rfl))
  t0 := Tryz.underlying0
  a0 := Tryz.isAgg0
  z0 := Tryz.sizeOf0
  v0 := Tryz.zeroValue0
  i0 := by kernel_rfl
  t3 := Tryz.underlying3
  a3 := Tryz.isAgg3
  z3 := Tryz.sizeOf3
  v3 := Tryz.zeroValue3
  i3 := by kernel_rfl
  t4 := Tryz.underlying4
  a4 := Tryz.isAgg4
  z4 := Tryz.sizeOf4
  v4 := Tryz.zeroValue4
  i4 := by kernel_rfl
  t5 := Tryz.underlying5
  a5 := Tryz.isAgg5
  z5 := Tryz.sizeOf5
  v5 := Tryz.zeroValue5
  i5 := by kernel_rfl
  t22 := Tryz.underlying88
  a22 := Tryz.isAgg88
  z22 := Tryz.sizeOf88
  v22 := Tryz.zeroValue88
  i22 := by kernel_rfl
  t25 := Tryz.underlying84
  a25 := Tryz.isAgg84
  z25 := Tryz.sizeOf84
  v25 := Tryz.zeroValue84
  i25 := by kernel_rfl
  t54 := Tryz.underlying132
  a54 := Tryz.isAgg132
  z54 := Tryz.sizeOf132
  g1 := by kernel_rfl }
/-- bits.TrailingZeros64. -/
theorem Tryz.bits_TrailingZeros64 (x : Nat) (hx : x < 18446744073709551616) (w : World) (hT : x ≠ 0 → TabAt (Tryz.lays7n29_ren.g 1) Lib.deBruijn64tab w) :
    Calls Tryz.prog 76 #[.int .u64 x] w fun e w' => e = .returned (.int .i64 (Lib.ctz 64 x)) ∧ w' = w := Any7.bits_TrailingZeros64 Tryz.lays7n29 x hx w hT
end Go.Proofs

/- digest.Node and the reference's: their contracts. -/
namespace Go.Proofs.YtlamdhekjlnccaaGreatDoor
open Go.RowKit
namespace Dig

set_option maxRecDepth 100000 in
set_option maxHeartbeats 1000000 in
theorem node_any (la lb : List Int) (w : World) (ha : la.length = 32) (hb : lb.length = 32) :
    Calls Tryz.prog 50 #[.agg (la.map (Value.int .u8)).toArray, .agg (lb.map (Value.int .u8)).toArray] w fun e w' => e = .returned (.agg ((sumL (1 :: (la ++ lb))).map (Value.int .u8)).toArray) ∧ Below w.heap.size w w' := by
  have el : [1] ++ la ++ lb = 1 :: (la ++ lb) := by simp
  have El := Hid2.mk el
  clear el
  have hz25 := zero25
  have Ha := Hid2.mk ha
  have Hb := Hid2.mk hb
  clear ha hb
  go_enter Tryz.func50, Tryz.ntmps50
  go_wp2_with fail
  clear hz25
  obtain ⟨hA, hB, hC, hbel, hsz⟩ := three_alloc w (.cells (la.map (Value.int .u8)).toArray 23) (.cells (lb.map (Value.int .u8)).toArray 23) (.cells (Z32.map (Value.int .u8)).toArray 23)
  generalize World.alloc _ _ = w0 at hA hB hC hbel hsz ⊢
  have hL : IBlk .u8 23 w0 w.heap.size la := hA
  have hR : IBlk .u8 23 w0 (w.heap.size + 1) lb := hB
  have hH : IBlk .u8 23 w0 (w.heap.size + 1 + 1) Z32 := hC
  clear hA hB hC
  refine wp_region_any (by kernel_rfl) ?_
  change wpAny _ _ _ _ _ _ _ (World.drew _)
  obtain ⟨w1, hw1⟩ : ∃ w1, w1 = w0.drew := ⟨_, rfl⟩
  have hL1 : IBlk .u8 23 w1 w.heap.size la := by rw [hw1]; exact hL
  have hR1 : IBlk .u8 23 w1 (w.heap.size + 1) lb := by rw [hw1]; exact hR
  have hH1 : IBlk .u8 23 w1 (w.heap.size + 1 + 1) Z32 := by rw [hw1]; exact hH
  have hbel1 : Below w.heap.size w w1 := by rw [hw1]; exact hbel.drew
  have hs1 : w.heap.size + 3 ≤ w1.heap.size := by rw [hw1]; exact Nat.le_of_eq hsz.symm
  rw [← hw1]
  clear hw1 hL hR hH hbel hsz
  refine wpAny_take (i := 1) (v := .slice (some ⟨w.heap.size, 0, none⟩) 32 32) rfl (by kernel_rfl) (by kernel_rfl) (by kernel_rfl) (fun _ _ _ h => h) (Or.inl ⟨by rfl, ?_⟩) ?_
  · intro W; go_simp
  refine wpAny_take (i := 3) (v := .slice (some ⟨w.heap.size + 1, 0, none⟩) 32 32) rfl (by kernel_rfl) (by kernel_rfl) (by kernel_rfl) (fun _ _ _ h => h) (Or.inl ⟨by rfl, ?_⟩) ?_
  · intro W; go_simp
  refine wpAny_ready (rs := [0]) (by kernel_rfl) (by simp) ?_
  refine AllReady.cons rfl (fun K hK => ?_) AllReady.nil
  go_simp
  refine hK _ _ ?_
  clear hK K
  have hbuf := mark_buf w1 1
  have hslL : Sl .u8 (w1.alloc (.cells #[.int .u8 1] 5)) (.slice (some ⟨w.heap.size, 0, none⟩) 32 32) la := blk_sl (hL1.alloc _) Ha.out
  have hR2 := hR1.alloc (.cells #[.int .u8 1] 5)
  have hH2 := hH1.alloc (.cells #[.int .u8 1] 5)
  have hbel2 : Below w.heap.size w (w1.alloc (.cells #[.int .u8 1] 5)) := hbel1.alloc (by omega) _
  have hs2 : (w1.alloc (.cells #[.int .u8 1] 5)).heap.size = w1.heap.size + 1 := by simp
  generalize World.alloc _ _ = w2 at hbuf hslL hR2 hH2 hbel2 hs2 ⊢
  clear hL1 hR1 hH1 hbel1
  refine wpAny_ready (rs := [2]) (by kernel_rfl) (by simp) ?_
  refine AllReady.cons rfl (fun K hK => ?_) AllReady.nil
  refine step_app rfl (.tmp 5) (.tmp 6) 69 rfl elemBytes w1.heap.size _ [1] rfl hbuf _ la rfl hslL 33 (by rw [Ha.out]; rfl) (by unfold maxLen; omega) (by omega) (by omega) ?_
  intro sp3 c3 w3 hb3 hk3
  refine hK _ _ ?_
  clear hK K hbuf hslL
  have hs3 := hk3.size
  have hR3 := hR2.keep hk3 (by omega)
  have hH3 := hH2.keep hk3 (by omega)
  have hbel3 : Below w.heap.size w w3 := hbel2.trans (hk3.mono (fun k (hk : k < w.heap.size) => by omega)).below
  have hslR : Sl .u8 w3 (.slice (some ⟨w.heap.size + 1, 0, none⟩) 32 32) lb := blk_sl hR3 Hb.out
  refine wpAny_ready (rs := [4]) (by kernel_rfl) (by simp) ?_
  refine AllReady.cons rfl (fun K hK => ?_) AllReady.nil
  refine step_app rfl (.tmp 7) (.tmp 8) 69 rfl elemBytes w1.heap.size _ ([1] ++ la) rfl hb3 _ lb rfl hslR 65 (by rw [List.length_append, Ha.out, Hb.out]; rfl) (by unfold maxLen; omega) (by omega) (by omega) ?_
  intro sp4 c4 w4 hb4 hk4
  refine hK _ _ ?_
  clear hK K hb3 hslR
  have hs4 := hk4.size
  have hH4 := hH3.keep hk4 (by omega)
  have hbel4 : Below w.heap.size w w4 := hbel3.trans (hk4.mono (fun k (hk : k < w.heap.size) => by omega)).below
  have hsl4 := hb4.sl
  have hl4 : ([1] ++ la ++ lb).length ≤ 35184372088832 := by rw [List.length_append, List.length_append, Ha.out, Hb.out]; decide
  refine wpAny_ready (rs := [5]) (by kernel_rfl) (by simp) ?_
  refine AllReady.cons rfl (fun K hK => ?_) AllReady.nil
  go_simp
  refine (progSum_s _ _ _ hsl4 hl4).mono ?_
  rintro e w5 ⟨rfl, hb5⟩
  refine hK _ _ ?_
  clear hK K hb4 hsl4 hl4 hk3 hk4 hR2 hR3
  have hH5 := hH4.below hb5 hH4.lt
  have hbel5 : Below w.heap.size w w5 := hbel4.trans (hb5.mono hbel4.size)
  obtain ⟨hh, Hhe, Hhl⟩ := sum_named ([1] ++ la ++ lb)
  rw [← Hhe.out]
  have HgH : Hid2 (w5.heap[w.heap.size + 1 + 1]? = some (.cells (Z32.map (Value.int .u8)).toArray 23 (0, 0))) := Hid2.mk hH5
  clear hH5 hH4 hH3 hH2 hb5
  refine wpAny_ready (rs := [6]) (by kernel_rfl) (by simp) ?_
  refine AllReady.cons rfl (fun K hK => ?_) AllReady.nil
  refine step_store_row rfl 23 (.tmp 4) (.tmp 10) rfl (w.heap.size + 1 + 1) (hh.map (Value.int .u8)).toArray rfl rfl 23 (Z32.map (Value.int .u8)).toArray HgH.out (info25 hh Hhl.out) (size25 hh Hhl.out) (one25 hh) ?_
  refine hK _ _ ?_
  clear hK K
  refine wpAny_done (by kernel_rfl) ?_ _
  go_wp2_with fail
  refine bodyPost_ret (results_cell_row rfl _ _ (w.heap.size + 1 + 1) 23 (hh.map (Value.int .u8)).toArray (0, 0) _ rfl (setRow_heap _ _ _ _ _ _ HgH.out) Tryz.underlying23 rfl (info25 hh Hhl.out)) rfl ⟨by rw [Hhe.out, El.out], ?_⟩
  exact below_setRow hbel5 (by omega) _


set_option maxRecDepth 100000 in
set_option maxHeartbeats 1000000 in
theorem refNode_any (la lb : List Int) (w : World) (ha : la.length = 32) (hb : lb.length = 32) :
    Calls Tryz.prog 27 #[.agg (la.map (Value.int .u8)).toArray, .agg (lb.map (Value.int .u8)).toArray] w fun e w' => e = .returned (.agg ((sumL (1 :: (la ++ lb))).map (Value.int .u8)).toArray) ∧ Below w.heap.size w w' := by
  have el : [1] ++ la ++ lb = 1 :: (la ++ lb) := by simp
  have El := Hid2.mk el
  clear el
  have hz25 := zero25
  have Ha := Hid2.mk ha
  have Hb := Hid2.mk hb
  clear ha hb
  go_enter Tryz.func27, Tryz.ntmps27
  go_wp2_with fail
  clear hz25
  obtain ⟨hA, hB, hC, hbel, hsz⟩ := three_alloc w (.cells (la.map (Value.int .u8)).toArray 23) (.cells (lb.map (Value.int .u8)).toArray 23) (.cells (Z32.map (Value.int .u8)).toArray 23)
  generalize World.alloc _ _ = w0 at hA hB hC hbel hsz ⊢
  have hL : IBlk .u8 23 w0 w.heap.size la := hA
  have hR : IBlk .u8 23 w0 (w.heap.size + 1) lb := hB
  have hH : IBlk .u8 23 w0 (w.heap.size + 1 + 1) Z32 := hC
  clear hA hB hC
  refine wp_region_any (by kernel_rfl) ?_
  change wpAny _ _ _ _ _ _ _ (World.drew _)
  obtain ⟨w1, hw1⟩ : ∃ w1, w1 = w0.drew := ⟨_, rfl⟩
  have hL1 : IBlk .u8 23 w1 w.heap.size la := by rw [hw1]; exact hL
  have hR1 : IBlk .u8 23 w1 (w.heap.size + 1) lb := by rw [hw1]; exact hR
  have hH1 : IBlk .u8 23 w1 (w.heap.size + 1 + 1) Z32 := by rw [hw1]; exact hH
  have hbel1 : Below w.heap.size w w1 := by rw [hw1]; exact hbel.drew
  have hs1 : w.heap.size + 3 ≤ w1.heap.size := by rw [hw1]; exact Nat.le_of_eq hsz.symm
  rw [← hw1]
  clear hw1 hL hR hH hbel hsz
  refine wpAny_take (i := 1) (v := .slice (some ⟨w.heap.size, 0, none⟩) 32 32) rfl (by kernel_rfl) (by kernel_rfl) (by kernel_rfl) (fun _ _ _ h => h) (Or.inl ⟨by rfl, ?_⟩) ?_
  · intro W; go_simp
  refine wpAny_take (i := 3) (v := .slice (some ⟨w.heap.size + 1, 0, none⟩) 32 32) rfl (by kernel_rfl) (by kernel_rfl) (by kernel_rfl) (fun _ _ _ h => h) (Or.inl ⟨by rfl, ?_⟩) ?_
  · intro W; go_simp
  refine wpAny_ready (rs := [0]) (by kernel_rfl) (by simp) ?_
  refine AllReady.cons rfl (fun K hK => ?_) AllReady.nil
  go_simp
  refine hK _ _ ?_
  clear hK K
  have hbuf := mark_buf w1 1
  have hslL : Sl .u8 (w1.alloc (.cells #[.int .u8 1] 5)) (.slice (some ⟨w.heap.size, 0, none⟩) 32 32) la := blk_sl (hL1.alloc _) Ha.out
  have hR2 := hR1.alloc (.cells #[.int .u8 1] 5)
  have hH2 := hH1.alloc (.cells #[.int .u8 1] 5)
  have hbel2 : Below w.heap.size w (w1.alloc (.cells #[.int .u8 1] 5)) := hbel1.alloc (by omega) _
  have hs2 : (w1.alloc (.cells #[.int .u8 1] 5)).heap.size = w1.heap.size + 1 := by simp
  generalize World.alloc _ _ = w2 at hbuf hslL hR2 hH2 hbel2 hs2 ⊢
  clear hL1 hR1 hH1 hbel1
  refine wpAny_ready (rs := [2]) (by kernel_rfl) (by simp) ?_
  refine AllReady.cons rfl (fun K hK => ?_) AllReady.nil
  refine step_app rfl (.tmp 5) (.tmp 6) 69 rfl elemBytes w1.heap.size _ [1] rfl hbuf _ la rfl hslL 33 (by rw [Ha.out]; rfl) (by unfold maxLen; omega) (by omega) (by omega) ?_
  intro sp3 c3 w3 hb3 hk3
  refine hK _ _ ?_
  clear hK K hbuf hslL
  have hs3 := hk3.size
  have hR3 := hR2.keep hk3 (by omega)
  have hH3 := hH2.keep hk3 (by omega)
  have hbel3 : Below w.heap.size w w3 := hbel2.trans (hk3.mono (fun k (hk : k < w.heap.size) => by omega)).below
  have hslR : Sl .u8 w3 (.slice (some ⟨w.heap.size + 1, 0, none⟩) 32 32) lb := blk_sl hR3 Hb.out
  refine wpAny_ready (rs := [4]) (by kernel_rfl) (by simp) ?_
  refine AllReady.cons rfl (fun K hK => ?_) AllReady.nil
  refine step_app rfl (.tmp 7) (.tmp 8) 69 rfl elemBytes w1.heap.size _ ([1] ++ la) rfl hb3 _ lb rfl hslR 65 (by rw [List.length_append, Ha.out, Hb.out]; rfl) (by unfold maxLen; omega) (by omega) (by omega) ?_
  intro sp4 c4 w4 hb4 hk4
  refine hK _ _ ?_
  clear hK K hb3 hslR
  have hs4 := hk4.size
  have hH4 := hH3.keep hk4 (by omega)
  have hbel4 : Below w.heap.size w w4 := hbel3.trans (hk4.mono (fun k (hk : k < w.heap.size) => by omega)).below
  have hsl4 := hb4.sl
  have hl4 : ([1] ++ la ++ lb).length ≤ 35184372088832 := by rw [List.length_append, List.length_append, Ha.out, Hb.out]; decide
  refine wpAny_ready (rs := [5]) (by kernel_rfl) (by simp) ?_
  refine AllReady.cons rfl (fun K hK => ?_) AllReady.nil
  go_simp
  refine (refSum_s _ _ _ hsl4 hl4).mono ?_
  rintro e w5 ⟨rfl, hb5⟩
  refine hK _ _ ?_
  clear hK K hb4 hsl4 hl4 hk3 hk4 hR2 hR3
  have hH5 := hH4.below hb5 hH4.lt
  have hbel5 : Below w.heap.size w w5 := hbel4.trans (hb5.mono hbel4.size)
  obtain ⟨hh, Hhe, Hhl⟩ := sum_named ([1] ++ la ++ lb)
  rw [← Hhe.out]
  have HgH : Hid2 (w5.heap[w.heap.size + 1 + 1]? = some (.cells (Z32.map (Value.int .u8)).toArray 23 (0, 0))) := Hid2.mk hH5
  clear hH5 hH4 hH3 hH2 hb5
  refine wpAny_ready (rs := [6]) (by kernel_rfl) (by simp) ?_
  refine AllReady.cons rfl (fun K hK => ?_) AllReady.nil
  refine step_store_row rfl 23 (.tmp 4) (.tmp 10) rfl (w.heap.size + 1 + 1) (hh.map (Value.int .u8)).toArray rfl rfl 23 (Z32.map (Value.int .u8)).toArray HgH.out (info25 hh Hhl.out) (size25 hh Hhl.out) (one25 hh) ?_
  refine hK _ _ ?_
  clear hK K
  refine wpAny_done (by kernel_rfl) ?_ _
  go_wp2_with fail
  refine bodyPost_ret (results_cell_row rfl _ _ (w.heap.size + 1 + 1) 23 (hh.map (Value.int .u8)).toArray (0, 0) _ rfl (setRow_heap _ _ _ _ _ _ HgH.out) Tryz.underlying23 rfl (info25 hh Hhl.out)) rfl ⟨by rw [Hhe.out, El.out], ?_⟩
  exact below_setRow hbel5 (by omega) _


end Dig
end Go.Proofs.YtlamdhekjlnccaaGreatDoor

/- The tree of digests: what it is in memory; its keys; New, Size, half. -/
namespace Go.Proofs.YtlamdhekjlnccaaGreatDoor
open Go.RowKit Go.Maps
namespace Mk
open Dig (sumL sumL_length)

def nodeP (a b : H) : H := sumL (1 :: (a ++ b))
def noneP : H := sumL []
/-- The root of leaves. -/
def rt (l : List H) : H := root nodeP noneP l
/-- All are digests. -/
def Okh (l : List H) : Prop := ∀ h ∈ l, h.length = 32
theorem okh_getD {l : List H} (h : Okh l) {k : Nat} (hk : k < l.length) : (l.getD k []).length = 32 := by
  have : l.getD k [] = l[k] := by simp [hk]
  rw [this]; exact h _ (List.getElem_mem hk)
theorem okh_app {a b : List H} (h : Okh a) (h' : Okh b) : Okh (a ++ b) := fun x hx => (List.mem_append.1 hx).elim (h x) (h' x)
theorem okh_one {a : H} (h : a.length = 32) : Okh [a] := fun x hx => by simp at hx; rw [hx]; exact h
theorem okh_nil : Okh [] := fun _ hx => (List.not_mem_nil hx).elim
theorem okh_seg {l : List H} (h : Okh l) (f n : Nat) : Okh (seg l f n) := fun _ hx => h _ (List.mem_of_mem_drop (List.mem_of_mem_take hx))
theorem okh_take {l : List H} (h : Okh l) (n : Nat) : Okh (l.take n) := fun _ hx => h _ (List.mem_of_mem_take hx)
theorem okh_drop {l : List H} (h : Okh l) (n : Nat) : Okh (l.drop n) := fun _ hx => h _ (List.mem_of_mem_drop hx)
theorem rt_len {l : List H} (h : Okh l) : (rt l).length = 32 := by
  unfold rt
  rw [root]
  split
  · exact sumL_length _
  · cases l with
    | nil => exact sumL_length _
    | cons a r => exact h a List.mem_cons_self
theorem node_p {a b : H} (w : World) (ha : a.length = 32) (hb : b.length = 32) : Calls Tryz.prog 50 #[hv a, hv b] w fun e w' => e = .returned (hv (nodeP a b)) ∧ Below w.heap.size w w' := Dig.node_any a b w ha hb
theorem refNode_p {a b : H} (w : World) (ha : a.length = 32) (hb : b.length = 32) : Calls Tryz.prog 27 #[hv a, hv b] w fun e w' => e = .returned (hv (nodeP a b)) ∧ Below w.heap.size w w' := Dig.refNode_any a b w ha hb
theorem nodeP_len (a b : H) : (nodeP a b).length = 32 := sumL_length _

/-! ### Keys -/
set_option maxRecDepth 100000 in
theorem laid : laidOutB Tryz.prog = true := by kernel_rfl
set_option maxRecDepth 100000 in
theorem keyRow : (83 : TypeId) < Tryz.prog.types.size := of_decide_eq_true (by kernel_rfl)
set_option maxRecDepth 100000 in
theorem keyWide : (match Tryz.prog.underlying 83 with | some (.array _ _) | some (.struct _) => true | _ => false) = true := by rw [Tryz.underlying83]
set_option maxRecDepth 100000 in
theorem keyed : Keyed Tryz.prog 83 := Keyed.of_law (deep_law_laid laid (m := 2) (by omega) keyRow (by kernel_rfl) keyWide)
/-- A key. -/
def mk (x : Int × Int) : Value := .agg #[.int .i64 x.1, .int .i64 x.2]
def okKey (x : Int × Int) : Prop := (Lit.int .i64 x.1).wf = true ∧ (Lit.int .i64 x.2).wf = true
set_option maxRecDepth 100000 in
theorem keyType : Tryz.prog.keyType 83 = true := by kernel_rfl
set_option maxRecDepth 100000 in
theorem keyCells : Tryz.prog.cellsOf 83 = 2 := by kernel_rfl
set_option maxRecDepth 100000 in
theorem intCells : Tryz.prog.cellsOf 3 = 1 := by kernel_rfl
set_option maxRecDepth 100000 in
theorem deepEnough : Tryz.prog.types.size + 1 = (Tryz.prog.types.size - 1) + 1 + 1 := of_decide_eq_true (by kernel_rfl)
theorem keyOf_pair {P : Program} {k ti : TypeId} (hk : P.underlying k = some (.array 2 ti)) (hi : P.underlying ti = some (.int .i64)) (hkt : P.keyType k = true) (hc : P.cellsOf k = 2) (ci : P.cellsOf ti = 1)
    {d : Nat} (hd : P.types.size + 1 = d + 1 + 1) (x : Int × Int) (h1 : (Lit.int .i64 x.1).wf = true) (h2 : (Lit.int .i64 x.2).wf = true) : keyOf P k (mk x) = some (.string (keyBytes [.int .i64 x.1, .int .i64 x.2])) := by
  have e1 : (mk x).formed P k = true := by
    unfold Value.formed mk
    simp only [hk, hc]
    rfl
  have e3 : ∀ y : Int, (Lit.int .i64 y).wf = true → P.keyLits (d + 1) ti [.int .i64 y] = some [.int .i64 y] := fun y hy => by
    unfold Program.keyLits
    rw [hi]
    exact if_pos ⟨rfl, hy⟩
  have e2 : P.keyLits (d + 1 + 1) k (mk x).cells.toList = some [.int .i64 x.1, .int .i64 x.2] := by
    unfold Program.keyLits
    rw [hk]
    have hr : List.range 2 = [0, 1] := rfl
    simp only [mk, Value.cells, hc, ci, hr, List.length_cons, List.length_nil, List.mapM_cons, List.mapM_nil, Nat.zero_mul, Nat.one_mul, List.drop_zero, List.drop_succ_cons, List.take_succ_cons, List.take_zero, e3 _ h1, e3 _ h2, if_true]
    simp
  unfold keyOf
  simp only [hk, hkt, e1, Bool.and_self, if_true, hd, e2, Option.map_some]
theorem keyOf_mk (x : Int × Int) (h : okKey x) : ∃ kl, keyOf Tryz.prog 83 (mk x) = some kl :=
  ⟨_, keyOf_pair Tryz.underlying83 Tryz.underlying3 keyType keyCells intCells deepEnough x h.1 h.2⟩
theorem mk_inj (x y : Int × Int) (h : mk x = mk y) : x = y := by
  unfold mk at h
  simp at h
  exact Prod.ext h.1 h.2
theorem wf_nat {k : Nat} (h : k < 9223372036854775808) : (Lit.int .i64 (k : Int)).wf = true := by
  simp [Lit.wf, IntKind.min, IntKind.max, IntKind.bits, IntKind.signed]; omega

/-! ### The tree -/
/-- Block t is a tree of the leaves l; O: its blocks; n: how often something was laid into its map, at most. -/
def IsTree (w : World) (t : Nat) (O : Nat → Prop) (n : Nat) (l : List H) : Prop :=
  ∃ mb, VBlk 82 w t [.int .i64 (l.length : Nat), .map (some mb)] ∧ O t ∧ O mb ∧ (∀ b, O b → b < w.heap.size) ∧
    MF Tryz.prog 83 mk w mb n (wholeF nodeP noneP l) ∧ Okh l
theorem IsTree.keep {w w' : World} {t n : Nat} {O : Nat → Prop} {l : List H} (h : IsTree w t O n l) {K : Nat → Prop} (hk : Keep K w w') (hK : ∀ b, O b → K b) : IsTree w' t O n l := by
  obtain ⟨mb, h1, h2, h3, h4, h5, h6⟩ := h
  exact ⟨mb, h1.keep hk (hK t h2), h2, h3, fun b hb => Nat.lt_of_lt_of_le (h4 b hb) hk.size, h5.keep hk (hK mb h3), h6⟩
theorem IsTree.lt {w : World} {t n : Nat} {O : Nat → Prop} {l : List H} (h : IsTree w t O n l) : ∀ b, O b → b < w.heap.size := by
  obtain ⟨mb, h1, h2, h3, h4, -⟩ := h; exact h4
theorem IsTree.ok {w : World} {t n : Nat} {O : Nat → Prop} {l : List H} (h : IsTree w t O n l) : Okh l := by
  obtain ⟨mb, h1, h2, h3, h4, h5, h6⟩ := h; exact h6
theorem IsTree.own {w : World} {t n : Nat} {O : Nat → Prop} {l : List H} (h : IsTree w t O n l) : O t := by
  obtain ⟨mb, h1, h2, -⟩ := h; exact h2
theorem IsTree.below {w w' : World} {t n : Nat} {O : Nat → Prop} {l : List H} (h : IsTree w t O n l) {B : Nat} (hk : Below B w w') (hB : w.heap.size ≤ B) : IsTree w' t O n l :=
  h.keep (Keep.of_below hk) (fun b hb => Nat.lt_of_lt_of_le (h.lt b hb) hB)
theorem IsTree.mono {w : World} {t n n' : Nat} {O : Nat → Prop} {l : List H} (h : IsTree w t O n l) (hn : n ≤ n') : IsTree w t O n' l := by
  obtain ⟨mb, h1, h2, h3, h4, h5, h6⟩ := h; exact ⟨mb, h1, h2, h3, h4, h5.mono hn, h6⟩

/-- The library's table, in its variable. -/
def Tab (w : World) : Prop := TabAt (Tryz.lays7n29_ren.g 1) Lib.deBruijn64tab w
theorem Tab.keep {w w' : World} (h : Tab w) {K : Nat → Prop} (hk : Keep K w w') (hK : K (Tryz.lays7n29_ren.g 1)) : Tab w' := fun j hj => by
  rw [hk.cell (p := ⟨_, j, none⟩) hK]; exact h j hj
theorem Tab.lt {w : World} (h : Tab w) : Tryz.lays7n29_ren.g 1 < w.heap.size := World.block_lt_of_cell? w _ (h 0 (by decide))
theorem Tab.below {w w' : World} (h : Tab w) {B : Nat} (hk : Below B w w') (hB : w.heap.size ≤ B) : Tab w' := h.keep (Keep.of_below hk) (Nat.lt_of_lt_of_le h.lt hB)

theorem zeroHash (w : World) : (zeroValue 23).run Tryz.prog w = .ok (.agg (Dig.Z32.map (Value.int .u8)).toArray) w := by kernel_rfl
theorem infoHash : (Tryz.prog.info? 23).map (·.size) = some 32 := by kernel_rfl

/-- What a look-up answers. -/
theorem look_whole {w : World} {mb n : Nat} {F : Int × Int → Option Value} (h : MF Tryz.prog 83 mk w mb n F) {a b : Int} (ok : okKey (a, b)) {v : Value} (hF : F (a, b) = some v) :
    (Instr.lookup 80 (.map (some mb)) (.agg #[.int .i64 a, .int .i64 b]) false).run Tryz.prog w = .ok v w := by
  obtain ⟨kl, hk⟩ := keyOf_mk (a, b) ok
  have := h.look keyed Tryz.underlying80 (zeroHash w) hk
  unfold mk at this
  rw [this, hF]
  rfl

set_option maxHeartbeats 800000 in
theorem new_any (w : World) : Calls Tryz.prog 22 #[] w fun e w' => ∃ O, e = .returned (.pointer (some ⟨w.heap.size + 1, 0, none⟩)) ∧ IsTree w' (w.heap.size + 1) O 0 [] ∧ Below w.heap.size w w' ∧ ∀ b, O b → w.heap.size ≤ b := by
  have hmm := @run_makeMap Tryz.prog
  go_enter Tryz.func22, Tryz.ntmps22
  go_wp2_with fail
  go_ret
  have hm : MF Tryz.prog 83 mk (w.alloc (.map #[] 0)) w.heap.size 0 (fun _ => none) := MF.made _ _ _ w
  have hs1 : (w.alloc (.map #[] 0)).heap.size = w.heap.size + 1 := by simp
  have hv := VBlk.mk (w.alloc (.map #[] 0)) [.int .i64 0, .map (some w.heap.size)] 82
  rw [hs1] at hv
  refine ⟨fun b => b = w.heap.size ∨ b = w.heap.size + 1, rfl, ⟨w.heap.size, hv, .inr rfl, .inl rfl, fun b hb => ?_, ?_, okh_nil⟩, ((Below.refl _ _).alloc (Nat.le_refl _) _).alloc (by simp) _, fun b hb => by omega⟩
  · simp; omega
  · exact (hm.alloc _).congr fun x => wholeF_nil x


end Mk
end Go.Proofs.YtlamdhekjlnccaaGreatDoor

/- The tree of digests: half, root. -/
namespace Go.Proofs.YtlamdhekjlnccaaGreatDoor
open Go.RowKit Go.Maps
namespace Mk

theorem bitLen_log2 {m : Nat} (h1 : 1 ≤ m) (h2 : m < 2 ^ 64) : Lib.bitLen m = Nat.log2 m + 1 := by
  obtain ⟨a, b, c⟩ := Lib.bitLenAux_bounds 64 m h2 (by omega)
  have e : Lib.bitLen m = Lib.bitLenAux 64 m := rfl
  rw [← e] at a b c
  have : Nat.log2 m = Lib.bitLen m - 1 := (Nat.log2_eq_iff (by omega)).2 ⟨b, by rw [Nat.sub_add_cancel a]; exact c⟩
  omega
theorem ctz_pow (j : Nat) (h : j < 64) : Lib.ctz 64 (2 ^ j) = j := by
  have key : ∀ i : Fin 64, Lib.ctz 64 (2 ^ i.val) = i.val := by decide +kernel
  exact key ⟨j, h⟩
theorem log2_small {n : Nat} (h1 : 2 ≤ n) (h2 : n ≤ 2 ^ 50) : Nat.log2 (n - 1) < 50 := (Nat.log2_lt (by omega)).2 (by omega)

set_option maxHeartbeats 400000 in
theorem half_any (n : Nat) (w : World) (h1 : 2 ≤ n) (h2 : n ≤ 2 ^ 50) : Calls Tryz.prog 77 #[.int .i64 (n : Nat)] w fun e w' => e = .returned (.int .i64 (half n : Nat)) ∧ w = w' := by
  have hL := log2_small h1 h2
  have hb := bitLen_log2 (m := n - 1) (by omega) (by omega)
  have hn : n ≤ 1125899906842624 := h2
  have hh : half n = 2 ^ Nat.log2 (n - 1) := rfl
  have hw : IntKind.u64.wrap ((n : Int) - 1) = (n : Int) - 1 := by rw [IntKind.wrap_u64]; omega
  have et : ((n : Int) - 1).toNat = n - 1 := by omega
  generalize half n = hf at hh ⊢
  generalize Nat.log2 (n - 1) = L at hL hb hh
  have hp : (2 : Nat) ^ L ≤ 2 ^ 49 := Nat.pow_le_pow_right (by decide) (by omega)
  have hp0 : 0 < (2 : Nat) ^ L := Nat.pow_pos (by decide)
  have hp1 : ((2 : Int) ^ L) = (hf : Int) := by rw [hh]; simp
  have hsh : IntKind.i64.wrap ((2 : Int) ^ L) = (hf : Int) := by rw [hp1]; exact IntWalk.i64_in _ (by omega)
  clear h2 hh hp hp0 hp1 et
  go_enter Tryz.func77, Tryz.ntmps77
  go_wp2_with fail
  refine (Tryz.bits_Len64 _ _ (by omega) (by omega)).mono ?_
  rintro e w' ⟨rfl, rfl⟩
  rw [show ((n : Int) - 1).toNat = n - 1 from by omega, hb]
  go_wp2_with fail
  go_ret
  exact ⟨rfl, rfl⟩

theorem bits_and_i64_nat (a b : Nat) (ha : a < 9223372036854775808) (hb : b < 9223372036854775808) :
    bits .and .i64 (a : Int) (b : Int) = ((a &&& b : Nat) : Int) := by
  have hx : a &&& b < 2 ^ 63 := Nat.and_lt_two_pow _ (by omega)
  have h1 : (BitVec.ofInt 64 (a : Int)).toNat = a := by
    rw [BitVec.ofInt_natCast, BitVec.toNat_ofNat]; exact Nat.mod_eq_of_lt (by omega)
  have h2 : (BitVec.ofInt 64 (b : Int)).toNat = b := by
    rw [BitVec.ofInt_natCast, BitVec.toNat_ofNat]; exact Nat.mod_eq_of_lt (by omega)
  show IntKind.i64.wrap ((BitVec.ofInt 64 (a : Int) &&& BitVec.ofInt 64 (b : Int)).toNat : Int) = _
  rw [BitVec.toNat_and, h1, h2]
  exact IntWalk.i64_in _ (by omega)
theorem and_pred_pow {n : Nat} (h : 1 ≤ n) (h2 : n < 2 ^ 62) : (bits BinOp.and IntKind.i64 (n : Int) ((n : Int) - 1) = 0) ↔ ∃ j, n = 2 ^ j := by
  have e : ((n : Int) - 1) = ((n - 1 : Nat) : Int) := by omega
  rw [e, bits_and_i64_nat n (n - 1) (by omega) (by omega)]
  have := @Nat.and_sub_one_eq_zero_iff_isPowerOfTwo n (by omega)
  constructor
  · intro h0
    have h3 : n &&& (n - 1) = 0 := by omega
    exact this.1 h3
  · intro h0
    have h3 := this.2 h0
    omega

set_option maxRecDepth 100000 in
set_option maxHeartbeats 2000000 in
theorem root_any : ∀ (n : Nat) {w : World} {t cnt f : Nat} {O : Nat → Prop} {l : List H}, IsTree w t O cnt l → Tab w → 1 ≤ n → f + n ≤ l.length → Al f n → l.length ≤ 1048576 →
    Calls Tryz.prog 51 #[.pointer (some ⟨t, 0, none⟩), .int .i64 (f : Nat), .int .i64 (n : Nat)] w fun e w' => e = .returned (hv (rt (seg l f n))) ∧ Below w.heap.size w w' := by
  intro n
  induction n using Nat.strongRecOn with
  | ind n ih =>
    intro w t cnt f O l h hT h1 hl ha hm
    have hz := zeroHash
    have hbel : Below w.heap.size w (w.alloc (.cells (Dig.Z32.map (Value.int .u8)).toArray 23)) := (Below.refl _ w).alloc (Nat.le_refl _) _
    have hR : VBlk 23 (w.alloc (.cells (Dig.Z32.map (Value.int .u8)).toArray 23)) w.heap.size (Dig.Z32.map (Value.int .u8)) := VBlk.mk w _ _
    have h0 := h.below hbel (Nat.le_refl _)
    have hT0 := hT.below hbel (Nat.le_refl _)
    have H0 := Hid2.mk h0
    have HT0 := Hid2.mk hT0
    have HR := Hid2.mk hR
    have HB := Hid2.mk hbel
    have hok := h.ok
    have Hrl := Hid2.mk (rt_len (okh_seg hok f n))
    have Hih := Hid2.mk ih
    have Hl := Hid2.mk hl
    have Ha := Hid2.mk ha
    clear h hT h0 hT0 hbel hR ih hl ha
    by_cases hp : ∃ j, n = 2 ^ j
    · obtain ⟨j, hj⟩ := hp
      have hb0 : bits BinOp.and IntKind.i64 (n : Int) ((n : Int) - 1) = 0 := (and_pred_pow h1 (by have := Hl.out; omega)).2 ⟨j, hj⟩
      have hn : n ≤ 1048576 := by have := Hl.out; omega
      have hf : f ≤ 1048576 := by have := Hl.out; omega
      have hj20 : j ≤ 20 := by
        rcases Nat.lt_or_ge 20 j with h | h
        · have := Nat.pow_le_pow_right (n := 2) (by decide) (show 21 ≤ j from h)
          rw [← hj] at this
          omega
        · exact h
      have hd := Ha.out
      rw [hj] at hd
      have hd2 := al_pow hd
      obtain ⟨p, hp⟩ := hd2
      have hw : IntKind.u64.wrap (n : Int) = n := by rw [IntKind.wrap_u64]; omega
      have hct := ctz_pow j (by omega)
      rw [← hj] at hct
      have hpj : 0 < 2 ^ j := Nat.pow_pos (by decide)
      have hpf : f / 2 ^ j = p := by rw [hp, Nat.mul_div_cancel_left _ hpj]
      have hple : p ≤ f := by rw [hp]; exact Nat.le_mul_of_pos_left _ hpj
      have hsh : (f : Int) / 2 ^ j = (p : Int) := by rw [← hpf]; simp
      have hwh := wholeF_at (node := nodeP) (none := noneP) (l := l) (j := j) (p := p) (by have := Hl.out; rw [Nat.add_mul, Nat.one_mul, Nat.mul_comm p, ← hp, ← hj]; exact this)
      rw [Nat.mul_comm p, ← hp, ← hj] at hwh
      obtain ⟨mb, hc, -, -, -, hM, -⟩ := H0.out
      have hlk : ∀ m, (Instr.lookup 80 (.map (some mb)) (.agg #[.int .i64 (j : Int), .int .i64 (p : Int)]) false).run Tryz.prog ((w.alloc (.cells (Dig.Z32.map (Value.int .u8)).toArray 23)).drewN m) = .ok (hv (root nodeP noneP (seg l f n))) ((w.alloc (.cells (Dig.Z32.map (Value.int .u8)).toArray 23)).drewN m) := fun m =>
        look_whole (hM.drewN m) ⟨wf_nat (by omega), wf_nat (by omega)⟩ hwh
      have c1 := hc.cell 1 (by simp)
      simp only [List.getD_cons_zero, List.getD_cons_succ] at c1
      have Hlk := Hid2.mk hlk
      clear hp hpf hd hwh hM hc hlk hpj hple hj
      go_enter Tryz.func51, Tryz.ntmps51
      go_wp2_with fail
      generalize World.alloc _ _ = w1 at H0 HT0 HR HB Hlk c1 ⊢
      refine (Tryz.bits_TrailingZeros64 n (by omega) _ (fun _ => HT0.out)).mono ?_
      rintro e w' ⟨rfl, rfl⟩
      rw [hct]
      go_wp2_with fail

      have hlk1 : (Instr.lookup 80 (.map (some mb)) (.agg #[.int .i64 (j : Int), .int .i64 (p : Int)]) false).run Tryz.prog w'.drew = .ok (hv (root nodeP noneP (seg l f n))) w'.drew := Hlk.out 1
      refine wp_region_still_tail 10 (by kernel_rfl) (by kernel_rfl) ?_
      simp only [List.take_succ_cons, List.take_zero, List.drop_succ_cons, List.drop_zero]
      repeat still_step
      try refine wpStill_nil ?_
      change wpList _ _ _ _ _ w'.drew
      have hlen : (root nodeP noneP (seg l f n)).length = 32 := Hrl.out
      obtain ⟨rr, hrr⟩ : ∃ rr, rr = root nodeP noneP (seg l f n) := ⟨_, rfl⟩
      have Hrr := Hid2.mk (show rt (seg l f n) = rr from hrr.symm)
      rw [← hrr] at hlen ⊢
      clear hrr hlk1 Hlk c1 Hrl hct
      have hi : (Tryz.prog.info? 23).map (·.size) = some (rr.map (Value.int .u8)).toArray.size := by rw [infoHash]; simp [hlen]
      have hone : (rr.map (Value.int .u8)).toArray.all (·.oneCell') = true := by simp [Value.oneCell']
      have HR4 := Hid2.mk (HR.out.drewN 1)
      have HB4 := Hid2.mk (belowN HB.out 1)
      refine wpList_store_row rfl 23 (.tmp 6) (.tmp 26) rfl w.heap.size (rr.map (Value.int .u8)).toArray rfl rfl 23 (Dig.Z32.map (Value.int .u8)).toArray HR4.out hi (by simp [hlen, Dig.Z32]) hone ?_
      go_wp2_with fail
      refine bodyPost_ret (results_cell_row rfl _ _ w.heap.size 23 (rr.map (Value.int .u8)).toArray (0, 0) _ rfl (setRow_heap _ _ _ _ _ _ HR4.out) Tryz.underlying23 rfl hi) rfl ⟨by rw [Hrr.out]; rfl, below_setRow HB4.out (Nat.le_refl _) _⟩
    · have hb0 : ¬ bits BinOp.and IntKind.i64 (n : Int) ((n : Int) - 1) = 0 := fun e => hp ((and_pred_pow h1 (by have := Hl.out; omega)).1 e)
      have h2 : 2 ≤ n := by
        rcases Nat.lt_or_ge n 2 with h | h
        · exact absurd ⟨0, by omega⟩ hp
        · exact h
      have hn : n ≤ 1048576 := by have := Hl.out; omega
      have hf : f ≤ 1048576 := by have := Hl.out; omega
      have hkl := half_lt h2
      have hkp := half_pos n
      clear hp
      go_enter Tryz.func51, Tryz.ntmps51
      go_wp2_with fail
      refine (half_any n _ h2 (by omega)).mono ?_
      rintro e w' ⟨rfl, rfl⟩
      generalize hk : half n = k at hkl hkp ⊢
      go_wp2_with fail
      generalize World.alloc _ _ = w1 at H0 HT0 HR HB ⊢
      refine (Hih.out k hkl H0.out HT0.out hkp (by have := Hl.out; omega) (by rw [← hk]; exact al_left Ha.out h2) hm).mono ?_
      rintro e w2 ⟨rfl, hb2⟩
      have Hb2 := Hid2.mk hb2
      clear hb2
      have hres : rt (seg l f n) = nodeP (rt (seg l f k)) (rt (seg l (f + k) (n - k))) := by
        have := root_seg (node := nodeP) (none := noneP) h2 Hl.out
        rw [hk] at this; exact this
      have hl1 := rt_len (okh_seg hok f k)
      have hl2 := rt_len (okh_seg hok (f + k) (n - k))
      have Hres := Hid2.mk hres
      have Hl1 := Hid2.mk hl1
      have Hl2 := Hid2.mk hl2
      have ha2 : Al (f + k) (n - k) := by rw [← hk]; exact al_right Ha.out h2
      have Ha2 := Hid2.mk ha2
      have H2 := Hid2.mk (H0.out.below Hb2.out (Nat.le_refl _))
      have HT2 := Hid2.mk (HT0.out.below Hb2.out (Nat.le_refl _))
      have HB2 := Hid2.mk (HB.out.trans (Hb2.out.mono HB.out.size))
      have HR2 := Hid2.mk (HR.out.below Hb2.out HR.out.lt)
      have hg : w.heap.size < w1.heap.size := HR.out.lt
      clear hres hl1 hl2 ha2 H0 HT0 HB HR
      generalize rt (seg l f k) = ra at Hres Hl1 ⊢
      go_wp2_with fail
      have e1 : (f : Int) + k = ((f + k : Nat) : Int) := by omega
      have e2 : (n : Int) - k = ((n - k : Nat) : Int) := by omega
      rw [e1, e2]
      refine (Hih.out (n - k) (by omega) H2.out HT2.out (by omega) (by have := Hl.out; omega) Ha2.out hm).mono ?_
      rintro e w3 ⟨rfl, hb3⟩
      generalize rt (seg l (f + k) (n - k)) = rb at Hres Hl2 ⊢
      have HB3 := Hid2.mk (HB2.out.trans (hb3.mono HB2.out.size))
      have HR3 := Hid2.mk (HR2.out.below hb3 HR2.out.lt)
      have hs3 : w2.heap.size ≤ w3.heap.size := hb3.size
      have hs2 : w1.heap.size ≤ w2.heap.size := Hb2.out.size
      clear hb3 H2 HT2 HB2 HR2 Hb2 e1 e2
      go_wp2_with fail
      refine (node_p _ Hl1.out Hl2.out).mono ?_
      rintro e w4 ⟨rfl, hb4⟩
      have HB4 := Hid2.mk (HB3.out.trans (hb4.mono HB3.out.size))
      have HR4 := Hid2.mk (HR3.out.below hb4 HR3.out.lt)
      have hlen := nodeP_len ra rb
      obtain ⟨rr, hrr⟩ : ∃ rr, rr = nodeP ra rb := ⟨_, rfl⟩
      have Hrr := Hid2.mk (show rt (seg l f n) = rr by rw [Hres.out, hrr])
      rw [← hrr] at hlen ⊢
      clear hb4 HB3 HR3 Hres Hrl hrr
      have hi : (Tryz.prog.info? 23).map (·.size) = some (rr.map (Value.int .u8)).toArray.size := by rw [infoHash]; simp [hlen]
      have hone : (rr.map (Value.int .u8)).toArray.all (·.oneCell') = true := by simp [Value.oneCell']
      go_wp2_with (refine wpList_store_row rfl 23 (.tmp 6) (.tmp 41) rfl w.heap.size (rr.map (Value.int .u8)).toArray rfl rfl 23 (Dig.Z32.map (Value.int .u8)).toArray HR4.out hi (by simp [hlen, Dig.Z32]) hone ?_)
      refine bodyPost_ret (results_cell_row rfl _ _ w.heap.size 23 (rr.map (Value.int .u8)).toArray (0, 0) _ rfl (setRow_heap _ _ _ _ _ _ HR4.out) Tryz.underlying23 rfl hi) rfl ⟨by rw [Hrr.out]; rfl, below_setRow HB4.out (Nat.le_refl _) _⟩

end Mk
end Go.Proofs.YtlamdhekjlnccaaGreatDoor

/- The tree of digests: Root. -/
namespace Go.Proofs.YtlamdhekjlnccaaGreatDoor
open Go.RowKit Go.Maps
namespace Mk

theorem builtHash : Tryz.prog.built 23 [] = some (Dig.Z32.map (Value.int .u8)).toArray := by kernel_rfl
def z32 : H := Dig.Z32
/-- What Root answers. -/
def rootV (l : List H) (size : Int) : H := if 0 ≤ size ∧ size ≤ l.length then rt (l.take size.toNat) else z32
def rootC (l : List H) (size : Int) : Int := if 0 ≤ size ∧ size ≤ l.length then 0 else 1
theorem rootV_len {l : List H} (h : Okh l) (size : Int) : (rootV l size).length = 32 := by
  unfold rootV
  split
  · exact rt_len (okh_take h _)
  · rfl

theorem new_hash (w : World) : Below w.heap.size w (w.alloc (.cells (Dig.Z32.map (Value.int .u8)).toArray 23)) ∧ VBlk 23 (w.alloc (.cells (Dig.Z32.map (Value.int .u8)).toArray 23)) w.heap.size (Dig.Z32.map (Value.int .u8)) :=
  ⟨(Below.refl _ w).alloc (Nat.le_refl _) _, VBlk.mk w _ _⟩

set_option maxRecDepth 100000 in
set_option maxHeartbeats 1000000 in
theorem rootTop_nil (size : Int) (w : World) : Calls Tryz.prog 24 #[.pointer none, .int .i64 size] w fun e w' => e = .returned (.tuple #[hv z32, .int .i64 1]) ∧ Below w.heap.size w w' := by
  have hz := zeroHash
  obtain ⟨hb, hR⟩ := new_hash w
  have HB := Hid2.mk hb
  have HR := Hid2.mk hR
  clear hb hR
  have hi : (Tryz.prog.info? 23).map (·.size) = some (Dig.Z32.map (Value.int .u8)).toArray.size := by rw [infoHash]; rfl
  go_enter Tryz.func24, Tryz.ntmps24
  go_wp2_with (first | (refine wpList_build_to rfl 23 #[] rfl (Dig.Z32.map (Value.int .u8)).toArray builtHash ?_) | (refine wpList_store_row rfl 23 (.tmp 4) (.tmp 21) rfl w.heap.size (Dig.Z32.map (Value.int .u8)).toArray rfl rfl 23 (Dig.Z32.map (Value.int .u8)).toArray HR.out hi rfl (by simp [Value.oneCell']) ?_))
  refine bodyPost_ret (results_cell_tmp rfl _ _ w.heap.size 23 (Dig.Z32.map (Value.int .u8)).toArray (0, 0) _ _ rfl (setRow_heap _ _ _ _ _ _ HR.out) Tryz.underlying23 rfl hi rfl) rfl ⟨rfl, below_setRow HB.out (Nat.le_refl _) _⟩

set_option maxRecDepth 100000 in
set_option maxHeartbeats 2000000 in
theorem rootTop_any {w : World} {t cnt : Nat} {O : Nat → Prop} {l : List H} (h : IsTree w t O cnt l) (hT : Tab w) (hm : l.length ≤ 1048576) (size : Int) :
    Calls Tryz.prog 24 #[.pointer (some ⟨t, 0, none⟩), .int .i64 size] w fun e w' => e = .returned (.tuple #[hv (rootV l size), .int .i64 (rootC l size)]) ∧ Below w.heap.size w w' := by
  have hz := zeroHash
  obtain ⟨hb, hR⟩ := new_hash w
  have h0 := h.below hb (Nat.le_refl _)
  have hT0 := hT.below hb (Nat.le_refl _)
  have hok := h.ok
  obtain ⟨mb, hc, -⟩ := h0
  have c0 := hc.cell 0 (by simp)
  simp only [List.getD_cons_zero] at c0
  have H0 := Hid2.mk (h.below hb (Nat.le_refl _))
  have HT0 := Hid2.mk hT0
  have HB := Hid2.mk hb
  have HR := Hid2.mk hR
  clear hb hR hT0 hT h hc
  have hi : (Tryz.prog.info? 23).map (·.size) = some (Dig.Z32.map (Value.int .u8)).toArray.size := by rw [infoHash]; rfl
  by_cases h1 : size < 0
  · have e1 : rootV l size = z32 := by unfold rootV; rw [if_neg (by omega)]
    have e2 : rootC l size = 1 := by unfold rootC; rw [if_neg (by omega)]
    rw [e1, e2]
    clear e1 e2
    go_enter Tryz.func24, Tryz.ntmps24
    go_wp2_with (first | (refine wpList_build_to rfl 23 #[] rfl (Dig.Z32.map (Value.int .u8)).toArray builtHash ?_) | (refine wpList_store_row rfl 23 (.tmp 4) (.tmp 21) rfl w.heap.size (Dig.Z32.map (Value.int .u8)).toArray rfl rfl 23 (Dig.Z32.map (Value.int .u8)).toArray HR.out hi rfl (by simp [Value.oneCell']) ?_))
    refine bodyPost_ret (results_cell_tmp rfl _ _ w.heap.size 23 (Dig.Z32.map (Value.int .u8)).toArray (0, 0) _ _ rfl (setRow_heap _ _ _ _ _ _ HR.out) Tryz.underlying23 rfl hi rfl) rfl ⟨rfl, below_setRow HB.out (Nat.le_refl _) _⟩
  · by_cases h2 : (l.length : Int) < size
    · have e1 : rootV l size = z32 := by unfold rootV; rw [if_neg (by omega)]
      have e2 : rootC l size = 1 := by unfold rootC; rw [if_neg (by omega)]
      rw [e1, e2]
      clear e1 e2
      go_enter Tryz.func24, Tryz.ntmps24
      go_wp2_with (first | (refine wpList_build_to rfl 23 #[] rfl (Dig.Z32.map (Value.int .u8)).toArray builtHash ?_) | (refine wpList_store_row rfl 23 (.tmp 4) (.tmp 21) rfl w.heap.size (Dig.Z32.map (Value.int .u8)).toArray rfl rfl 23 (Dig.Z32.map (Value.int .u8)).toArray HR.out hi rfl (by simp [Value.oneCell']) ?_))
      refine bodyPost_ret (results_cell_tmp rfl _ _ w.heap.size 23 (Dig.Z32.map (Value.int .u8)).toArray (0, 0) _ _ rfl (setRow_heap _ _ _ _ _ _ HR.out) Tryz.underlying23 rfl hi rfl) rfl ⟨rfl, below_setRow HB.out (Nat.le_refl _) _⟩
    · obtain ⟨n, rfl⟩ : ∃ n : Nat, size = n := ⟨size.toNat, by omega⟩
      have e1 : rootV l (n : Int) = rt (l.take n) := by unfold rootV; rw [if_pos (by omega)]; rfl
      have e2 : rootC l (n : Int) = 0 := by unfold rootC; rw [if_pos (by omega)]
      rw [e1, e2]
      have h3 : (n : Int) ≤ l.length := by omega
      have h4 : (0 : Int) ≤ n := by omega
      clear e1 e2 h1 h2
      by_cases hn : n = 0
      · subst hn
        go_enter Tryz.func24, Tryz.ntmps24
        go_wp2_with fail
        generalize World.alloc _ _ = w1 at HR HB ⊢
        refine (Dig.progSum_s _ [] _ (Sl.nil _ _) (by simp)).mono ?_
        rintro e w2 ⟨rfl, hb2⟩
        have HB2 := Hid2.mk (HB.out.trans (hb2.mono HB.out.size))
        have HR2 := Hid2.mk (HR.out.below hb2 HR.out.lt)
        have hlen := Dig.sumL_length []
        have hrr : rt (l.take 0) = Dig.sumL [] := by unfold rt; rw [List.take_zero, root_nil]; rfl
        have Hrr := Hid2.mk hrr
        clear hb2 hrr HB HR
        generalize Dig.sumL [] = rr at hlen Hrr ⊢
        have hi2 : (Tryz.prog.info? 23).map (·.size) = some (rr.map (Value.int .u8)).toArray.size := by rw [infoHash]; simp [hlen]
        have hone : (rr.map (Value.int .u8)).toArray.all (·.oneCell') = true := by simp [Value.oneCell']
        go_wp2_with (refine wpList_store_row rfl 23 (.tmp 4) (.tmp 25) rfl w.heap.size (rr.map (Value.int .u8)).toArray rfl rfl 23 (Dig.Z32.map (Value.int .u8)).toArray HR2.out hi2 (by simp [hlen, Dig.Z32]) hone ?_)
        refine bodyPost_ret (results_cell_tmp rfl _ _ w.heap.size 23 (rr.map (Value.int .u8)).toArray (0, 0) _ _ rfl (setRow_heap _ _ _ _ _ _ HR2.out) Tryz.underlying23 rfl hi2 rfl) rfl ⟨by rw [Hrr.out]; rfl, below_setRow HB2.out (Nat.le_refl _) _⟩
      · have hn2 : ((n : Int) == 0) = false := by simp; omega
        go_enter Tryz.func24, Tryz.ntmps24
        go_wp2_with fail
        generalize World.alloc _ _ = w1 at H0 HT0 HR HB ⊢
        refine (root_any n (f := 0) H0.out HT0.out (by omega) (by omega) (al_zero n) hm).mono ?_
        rintro e w2 ⟨rfl, hb2⟩
        have HB2 := Hid2.mk (HB.out.trans (hb2.mono HB.out.size))
        have HR2 := Hid2.mk (HR.out.below hb2 HR.out.lt)
        have hlen := rt_len (okh_seg hok 0 n)
        have hrr : rt (l.take n) = rt (seg l 0 n) := by unfold seg; rw [List.drop_zero]
        have Hrr := Hid2.mk hrr
        clear hb2 hrr HB HR H0 HT0 c0
        generalize rt (seg l 0 n) = rr at hlen Hrr ⊢
        have hi2 : (Tryz.prog.info? 23).map (·.size) = some (rr.map (Value.int .u8)).toArray.size := by rw [infoHash]; simp [hlen]
        have hone : (rr.map (Value.int .u8)).toArray.all (·.oneCell') = true := by simp [Value.oneCell']
        go_wp2_with (refine wpList_store_row rfl 23 (.tmp 4) (.tmp 28) rfl w.heap.size (rr.map (Value.int .u8)).toArray rfl rfl 23 (Dig.Z32.map (Value.int .u8)).toArray HR2.out hi2 (by simp [hlen, Dig.Z32]) hone ?_)
        refine bodyPost_ret (results_cell_tmp rfl _ _ w.heap.size 23 (rr.map (Value.int .u8)).toArray (0, 0) _ _ rfl (setRow_heap _ _ _ _ _ _ HR2.out) Tryz.underlying23 rfl hi2 rfl) rfl ⟨by rw [Hrr.out]; rfl, below_setRow HB2.out (Nat.le_refl _) _⟩

end Mk
end Go.Proofs.YtlamdhekjlnccaaGreatDoor

/- The tree of digests: Add. -/
namespace Go.Proofs.YtlamdhekjlnccaaGreatDoor
open Go.RowKit Go.Maps

/-- Many cells at once, read in a region that draws its order. -/
theorem wpStill_load_row {P : Program} {ops : Array Oper} {w : World} {Q : Act → Prop} {a : Act} {o : Oper} {rest : List Oper} (hgd : o.guard = none) (ty : TypeId) (x : Operand) (ho : o.op = .load ty x)
    (b off : Nat) (hx : a.eval x = .pointer (some ⟨b, off, none⟩)) (cs : List Value) (d : TypeDesc) (hc : w.rangeAt b off cs) (hu : P.underlying ty = some d) (hd : d.isRow = true) (hi : (P.info? ty).map (·.size) = some cs.length)
    (h : wpStill P ops w Q rest (a.put o.dst (.agg cs.toArray))) : wpStill P ops w Q (o :: rest) a := by
  unfold wpStill
  rw [if_pos (by simp [Region.wanted, hgd])]
  unfold Oper.still execOp
  simp only [ho, hx, Instr.loadAt, Instr.sureAddr, Sem.run_bind, Sem.run_pure, Result.andThen_ok, run_loadVar_mid w b off ty cs d hc hu hd hi]
  exact ⟨rfl, h⟩
theorem range_vblk {T : TypeId} {w : World} {b : Nat} {l : List Value} (h : VBlk T w b l) : w.rangeAt b 0 l := fun j v hv => by
  have hj : j < l.length := by
    rcases Nat.lt_or_ge j l.length with h | h
    · exact h
    · simp [h] at hv
  rw [Nat.zero_add, h.cell j hj]
  simp [hj] at hv ⊢
  exact hv

namespace Mk

theorem odd_bit (p : Nat) (h : p < 1000000000) : bits BinOp.and IntKind.i64 (p : Int) 1 = ((p % 2 : Nat) : Int) := by
  have := bits_and_i64_nat p 1 (by omega) (by omega)
  rw [Nat.and_one_is_mod] at this
  exact this

/-- A store into the tree's map. -/
theorem put_whole {w : World} {mb n : Nat} {F : Int × Int → Option Value} (h : MF Tryz.prog 83 mk w mb n F) (hn : n < 1000000000) {a b : Int} (ok : okKey (a, b)) (v : Value) :
    ∃ w', (Instr.mapUpdate 80 (.map (some mb)) (.agg #[.int .i64 a, .int .i64 b]) v).run Tryz.prog w.drew = .ok () w' ∧ MF Tryz.prog 83 mk w' mb (n + 1) (mfPut F (a, b) v) ∧ Keep (fun x => x ≠ mb) w w' := by
  obtain ⟨kl, hk⟩ := keyOf_mk (a, b) ok
  obtain ⟨w', h1, h2, h3⟩ := MF.put mk_inj (w := w.drew) (h.drewN 1) keyed Tryz.underlying80 (by unfold maxLen; omega) v hk
  exact ⟨w', h1, h2, ((Keep.refl _ w).drewN 1).trans h3⟩

/-- What Add's loop keeps. -/
def AddRel (w : World) (t mb g cnt : Nat) (O : Nat → Prop) (l : List H) (h : H) (lv pl : Value) (wr : World) : Prop :=
  ∃ j p : Nat, lv = .int .i64 (j : Nat) ∧ pl = .int .i64 (p : Nat) ∧ (p + 1) * 2 ^ j = l.length + 1 ∧ VBlk 82 wr t [.int .i64 (l.length + 1 : Nat), .map (some mb)] ∧
    MF Tryz.prog 83 mk wr mb (cnt + 1 + j) (stepF nodeP noneP l h j) ∧ VBlk 23 wr g ((rt (seg (l ++ [h]) (p * 2 ^ j) (2 ^ j))).map (Value.int .u8)) ∧ Keep (fun b => b < w.heap.size ∧ ¬ O b) w wr

set_option maxRecDepth 100000 in
set_option maxHeartbeats 4000000 in
theorem add_any {w : World} {t cnt : Nat} {O : Nat → Prop} {l : List H} {h : H} (hI : IsTree w t O cnt l) (hh : h.length = 32) (hm : l.length ≤ 1000000) (hcnt : cnt ≤ 900000000) :
    Calls Tryz.prog 23 #[.pointer (some ⟨t, 0, none⟩), .agg (h.map (Value.int .u8)).toArray] w fun e w' => e = .returned (.int .i64 (l.length : Nat)) ∧ IsTree w' t O (cnt + 22) (l ++ [h]) ∧ Keep (fun b => b < w.heap.size ∧ ¬ O b) w w' := by
  have hb : Below w.heap.size w (w.alloc (.cells (h.map (Value.int .u8)).toArray 23)) := (Below.refl _ w).alloc (Nat.le_refl _) _
  have hR : VBlk 23 (w.alloc (.cells (h.map (Value.int .u8)).toArray 23)) w.heap.size (h.map (Value.int .u8)) := VBlk.mk w _ _
  have h0 := hI.below hb (Nat.le_refl _)
  have hok := hI.ok
  have HI := Hid2.mk hI
  obtain ⟨mb, hc, hOt, hOm, hO, hM, -⟩ := h0
  have c0 := hc.cell 0 (by simp)
  have c1 := hc.cell 1 (by simp)
  simp only [List.getD_cons_zero, List.getD_cons_succ] at c0 c1
  have f0 := hc.free 0
  have htm : mb ≠ t := by
    obtain ⟨D, ⟨es, clock, h1, -⟩, -⟩ := hM
    intro e; subst e; unfold VBlk at hc; rw [h1] at hc; cases hc
  have hgt : w.heap.size ≠ t := by have := hI.lt t hI.own; omega
  have hgm : w.heap.size ≠ mb := by have := hI.lt mb hOm; omega
  have hOt' : O t := hOt
  have Hc := Hid2.mk hc
  have HM := Hid2.mk hM
  have HB := Hid2.mk hb
  have HR := Hid2.mk hR
  have hlw : decide ((1048576 : Int) ≤ (l.length : Int)) = false := decide_eq_false (by omega)
  have qm : ∀ (w : World) r, (binOp .eql 80 (.map (some r)) (.map none)).run Tryz.prog w = .ok (.bool false) w := fun w r => run_eql_map_nil w _ _ _ (some r) Tryz.underlying80
  have hw1 : IntKind.i64.wrap ((l.length : Int) + 1) = (l.length : Int) + 1 := IntWalk.i64_in _ (by omega)
  have Hm := Hid2.mk hm
  have Hh := Hid2.mk hh
  clear hc hM hb hR hI hm hh
  go_enter Tryz.func23, Tryz.ntmps23
  go_wp2_with fail
  -- the world behind the count
  have Hc2 := Hid2.mk (Hc.out.set 0 (.int .i64 ((l.length : Int) + 1)))
  have HM2 := Hid2.mk (HM.out.other ⟨t, 0, none⟩ (.int .i64 ((l.length : Int) + 1)) htm)
  have HR2 := Hid2.mk (HR.out.other ⟨t, 0, none⟩ (.int .i64 ((l.length : Int) + 1)) hgt)
  have HK2 := Hid2.mk (show Keep (fun b => b < w.heap.size ∧ ¬ O b) w ((w.alloc (.cells (h.map (Value.int .u8)).toArray 23)).setCell ⟨t, 0, none⟩ (.int .i64 ((l.length : Int) + 1))) from ((Keep.of_below HB.out).mono fun b hb => hb.1).setCell (fun hb => hb.2 hOt) _)
  generalize World.setCell _ _ _ = w2 at Hc2 HM2 HR2 HK2 ⊢
  clear Hc HM HR HB c0 c1 f0 hlw
  obtain ⟨w3, hrun, hm3, hk3⟩ := put_whole HM2.out (by omega) (a := 0) (b := (l.length : Int)) ⟨(by decide : (Lit.int .i64 0).wf = true), wf_nat (by have := Hm.out; omega)⟩ (hv h)
  have Hrun := Hid2.mk hrun
  have HM3 := Hid2.mk hm3
  have Hk3 := Hid2.mk hk3
  clear hrun hm3 hk3
  have d1 := Hc2.out.cell 1 (by simp)
  simp only [List.set_cons_zero, List.getD_cons_zero, List.getD_cons_succ] at d1
  have hiH : (Tryz.prog.info? 23).map (·.size) = some (h.map (Value.int .u8)).length := by rw [infoHash, List.length_map, Hh.out]
  have HiH := Hid2.mk hiH
  clear hiH
  refine wp_region_still_tail 7 (by kernel_rfl) (by kernel_rfl) ?_
  simp only [List.take_succ_cons, List.take_zero, List.drop_succ_cons, List.drop_zero]
  repeat (first | still_step | (refine wpStill_load_row rfl 23 (.tmp 3) rfl w.heap.size 0 rfl (h.map (Value.int .u8)) _ (range_vblk (HR2.out.drewN 1)) Tryz.underlying23 rfl HiH.out ?_))
  try refine wpStill_nil ?_
  change wpList _ _ _ _ _ w2.drew
  have hrun := Hrun.out
  unfold hv at hrun
  go_wp2_with fail
  clear hrun Hrun d1
  have hr0 : AddRel w t mb w.heap.size cnt O l h (.int .i64 0) (.int .i64 (l.length : Nat)) w3 := by
    refine ⟨0, l.length, rfl, rfl, by simp, ?_, ?_, ?_, HK2.out.trans (Hk3.out.mono fun b hb e => hb.2 (e ▸ hOm))⟩
    · exact (Hc2.out.keep Hk3.out (Ne.symm htm))
    · exact HM3.out.congr fun x => (stepF_zero x).symm
    · have e : rt (seg (l ++ [h]) (l.length * 2 ^ 0) (2 ^ 0)) = h := by
        have e1 : l.length * 2 ^ 0 = l.length := by simp
        have e2 : 2 ^ 0 = 1 := rfl
        rw [e1, e2]
        unfold rt
        rw [root_seg1 (by simp)]
        simp
      rw [e]
      exact HR2.out.keep Hk3.out hgm
  have Hr0 := Hid2.mk hr0
  clear hr0 HM3 Hk3 Hc2 HM2 HR2 HK2
  go_loopw [6, 7] (fun lv pl wr => AddRel w t mb w.heap.size cnt O l h lv pl wr) (fun _ pl _ => (intOf pl).toNat)
  case atStart => exact Hr0.out
  case round =>
    obtain ⟨j, p, rfl, rfl, hp, hc, hM, hR, hK⟩ := hrel
    have hpj : 0 < 2 ^ j := Nat.pow_pos (by decide)
    have hp1 : p + 1 ≤ l.length + 1 := by rw [← hp]; exact Nat.le_mul_of_pos_right _ hpj
    have hj1 : 2 ^ j ≤ l.length + 1 := by rw [← hp]; exact Nat.le_mul_of_pos_left _ (by omega)
    have hml := Hm.out
    have hj20 : j ≤ 20 := by
      rcases Nat.lt_or_ge 20 j with h | h
      · have := Nat.pow_le_pow_right (n := 2) (by decide) (show 21 ≤ j from h)
        omega
      · exact h
    have hob := odd_bit p (by omega)
    have hsz := hK.size
    have Hp := Hid2.mk hp
    have Hc := Hid2.mk hc
    have HM := Hid2.mk hM
    have HR := Hid2.mk hR
    have HK := Hid2.mk hK
    have d1 := hc.cell 1 (by simp)
    simp only [List.getD_cons_zero, List.getD_cons_succ] at d1
    have hpb : p ≤ 1000000 := by omega
    clear hp hc hM hR hK hpj hj1 hp1 hml
    rcases Nat.mod_two_eq_zero_or_one p with hmod | hmod
    · rw [hmod] at hob
      have hob2 : bits BinOp.and IntKind.i64 (p : Int) 1 = 0 := hob
      clear hob d1
      go_wp2_with fail
      go_ret
      refine ⟨rfl, ⟨mb, ?_, hOt', hOm, fun b hb => Nat.lt_of_lt_of_le (HI.out.lt b hb) HK.out.size, (HM.out.congr fun x => (stepF_done (p := p / 2) ?_ x).symm).mono (by omega), okh_app hok (okh_one Hh.out)⟩, HK.out⟩
      · have := Hc.out
        simpa using this
      · rw [← Hp.out]; congr 1; omega
    · rw [hmod] at hob
      have hob2 : bits BinOp.and IntKind.i64 (p : Int) 1 = 1 := hob
      obtain ⟨q, rfl⟩ : ∃ q, p = 2 * q + 1 := ⟨p / 2, by omega⟩
      have hL : (2 * q + 1) * 2 ^ j ≤ (l ++ [h]).length := by
        rw [List.length_append]
        have := Hp.out
        have h2 : (2 * q + 1 + 1) * 2 ^ j = (2 * q + 1) * 2 ^ j + 2 ^ j := by rw [Nat.add_mul (2 * q + 1) 1, Nat.one_mul]
        simp only [List.length_cons, List.length_nil]
        generalize (2 * q + 1 + 1) * 2 ^ j = C at this h2
        generalize (2 * q + 1) * 2 ^ j = B at h2 ⊢
        generalize 2 ^ j = D at h2
        omega
      have hF : stepF nodeP noneP l h j ((j : Int), ((2 * q + 1 : Nat) : Int) - 1) = some (hv (rt (seg (l ++ [h]) (2 * q * 2 ^ j) (2 ^ j)))) := by
        have e : ((2 * q + 1 : Nat) : Int) - 1 = ((2 * q : Nat) : Int) := by omega
        rw [e]
        unfold stepF
        rw [if_pos (by simp)]
        exact wholeF_at hL
      have hnode : rt (seg (l ++ [h]) (q * 2 ^ (j + 1)) (2 ^ (j + 1))) = nodeP (rt (seg (l ++ [h]) (2 * q * 2 ^ j) (2 ^ j))) (rt (seg (l ++ [h]) ((2 * q + 1) * 2 ^ j) (2 ^ j))) := by
        have e1 : q * 2 ^ (j + 1) = 2 * q * 2 ^ j := by rw [Nat.pow_succ, Nat.mul_comm (2 ^ j) 2, ← Nat.mul_assoc, Nat.mul_comm q 2]
        have e2 : 2 * q * 2 ^ j + 2 ^ j = (2 * q + 1) * 2 ^ j := by rw [Nat.add_mul (2 * q) 1, Nat.one_mul]
        have e3 : 2 * q * 2 ^ j + 2 ^ (j + 1) ≤ (l ++ [h]).length := by
          have := Hp.out
          have h2 : (2 * q + 1 + 1) * 2 ^ j = (2 * q + 1) * 2 ^ j + 2 ^ j := by rw [Nat.add_mul (2 * q + 1) 1, Nat.one_mul]
          rw [List.length_append, Nat.pow_succ]
          simp only [List.length_cons, List.length_nil]
          generalize (2 * q + 1 + 1) * 2 ^ j = C at this h2
          generalize (2 * q + 1) * 2 ^ j = B at e2 h2
          generalize 2 * q * 2 ^ j = A at e2 ⊢
          omega
        rw [e1]
        unfold rt
        rw [root_double e3, e2]
      have hkk : okKey ((j : Int), ((2 * q + 1 : Nat) : Int) - 1) := ⟨wf_nat (by omega), by
        have e : ((2 * q + 1 : Nat) : Int) - 1 = ((2 * q : Nat) : Int) := by omega
        show (Lit.int .i64 (((2 * q + 1 : Nat) : Int) - 1)).wf = true
        rw [e]; exact wf_nat (by omega)⟩
      have hokL : Okh (l ++ [h]) := okh_app hok (okh_one Hh.out)
      have hla := rt_len (okh_seg hokL (2 * q * 2 ^ j) (2 ^ j))
      have hlb := rt_len (okh_seg hokL ((2 * q + 1) * 2 ^ j) (2 ^ j))
      have Hnode := Hid2.mk hnode
      have hR' := HR.out
      generalize rt (seg (l ++ [h]) (2 * q * 2 ^ j) (2 ^ j)) = ra at hla hF Hnode
      generalize rt (seg (l ++ [h]) ((2 * q + 1) * 2 ^ j) (2 ^ j)) = rb at hlb hR' Hnode
      have HR' := Hid2.mk hR'
      have hlk := look_whole (HM.out.drewN 1) hkk hF
      have Hlk : Hid2 ((Instr.lookup 80 (.map (some mb)) (.agg #[.int .i64 (j : Int), .int .i64 (((2 * q + 1 : Nat) : Int) - 1)]) false).run Tryz.prog wr.drew = .ok (hv ra) wr.drew) := Hid2.mk hlk
      have Hla := Hid2.mk hla
      have Hlb := Hid2.mk hlb
      have hs2 : ((2 * q + 1 : Nat) : Int) / 2 = (q : Int) := by omega
      have hib : (Tryz.prog.info? 23).map (·.size) = some (rb.map (Value.int .u8)).length := by rw [infoHash, List.length_map, hlb]
      have Hib := Hid2.mk hib
      have Hs2 := Hid2.mk hs2
      have Hqb := Hid2.mk hpb
      clear hob hR' hF hnode hkk hla hlb hlk hL HR hib hmod hs2 hpb
      generalize hpp : 2 * q + 1 = p at hob2 Hlk Hs2 Hp Hqb ⊢
      have hpb : p ≤ 1000000 := Hqb.out
      have hp0 : 1 ≤ p := by omega
      have Hpp := Hid2.mk hpp
      have hwp : IntKind.i64.wrap ((p : Int) - 1) = (p : Int) - 1 := IntWalk.i64_in _ (by omega)
      have hwj : IntKind.i64.wrap ((j : Int) + 1) = (j : Int) + 1 := IntWalk.i64_in _ (by omega)
      clear hpp
      go_wp2_with fail
      have hlk := Hlk.out
      refine wp_region_still_tail 10 (by kernel_rfl) (by kernel_rfl) ?_
      simp only [List.take_succ_cons, List.take_zero, List.drop_succ_cons, List.drop_zero]
      repeat (first | still_step | (refine wpStill_load_row rfl 23 (.tmp 3) rfl w.heap.size 0 rfl (rb.map (Value.int .u8)) _ (range_vblk (HR'.out.drewN 1)) Tryz.underlying23 rfl Hib.out ?_))
      try refine wpStill_nil ?_
      change wpList _ _ _ _ _ wr.drew
      clear hlk Hlk
      have hlen := nodeP_len ra rb
      go_wp2_with fail
      refine (Dig.node_any _ _ _ Hla.out Hlb.out).mono ?_
      rintro e w4 ⟨rfl, hb4⟩
      obtain ⟨rr, hrr⟩ : ∃ rr, rr = nodeP ra rb := ⟨_, rfl⟩
      have hrr2 : Dig.sumL (1 :: (ra ++ rb)) = rr := hrr.symm
      rw [hrr2]
      rw [← hrr] at hlen
      have Hrr := Hid2.mk (show rt (seg (l ++ [h]) (q * 2 ^ (j + 1)) (2 ^ (j + 1))) = rr by rw [Hnode.out, hrr])
      have hb4' : Below wr.heap.size wr w4 := (belowN (Below.refl wr.heap.size wr) 1).trans hb4
      have Hc4 := Hid2.mk (Hc.out.below hb4' (Hc.out.lt))
      have HM4 := Hid2.mk (HM.out.below hb4' (HM.out.lt))
      have HR4 := Hid2.mk (HR'.out.below hb4' (HR'.out.lt))
      have HK4 := Hid2.mk (HK.out.trans ((Keep.of_below hb4').mono fun b hb => (Nat.lt_of_lt_of_le hb.1 hsz : b < wr.heap.size)))
      clear hb4 hb4' hrr hrr2 Hnode d1
      have hi : (Tryz.prog.info? 23).map (·.size) = some (rr.map (Value.int .u8)).toArray.size := by rw [infoHash]; simp [hlen]
      have hone : (rr.map (Value.int .u8)).toArray.all (·.oneCell') = true := by simp [Value.oneCell']
      have hrb := Hlb.out
      go_wp2_with (refine wpList_store_row rfl 23 (.tmp 3) (.tmp 62) rfl w.heap.size (rr.map (Value.int .u8)).toArray rfl rfl 23 (rb.map (Value.int .u8)).toArray HR4.out hi (by simp [hlen, hrb]) hone ?_)
      have Hc5 := Hid2.mk (Hc4.out.setRow_other (g := w.heap.size) (rr.map (Value.int .u8)).toArray (Ne.symm hgt))
      have HM5 := Hid2.mk (HM4.out.setRow_other (g := w.heap.size) (rr.map (Value.int .u8)).toArray (Ne.symm hgm))
      have HR5 := Hid2.mk (HR4.out.setRow (rr.map (Value.int .u8)))
      have HK5 := Hid2.mk (HK4.out.trans (show Keep (fun b => b < w.heap.size ∧ ¬ O b) w4 (w4.setRow w.heap.size (rr.map (Value.int .u8)).toArray) from ⟨rfl, rfl, rfl, by simp, fun k hk => Go.setRow_other w4 w.heap.size k _ (by omega)⟩))
      generalize World.setRow w4 _ _ = w5 at Hc5 HM5 HR5 HK5 ⊢
      obtain ⟨w6, hrun, hm6, hk6⟩ := put_whole HM5.out (by omega) (a := (j : Int) + 1) (b := (q : Int)) ⟨(by have := wf_nat (k := j + 1) (by omega); exact this), wf_nat (by have := Hpp.out; omega)⟩ (hv rr)
      have Hrun := Hid2.mk hrun
      have HM6 := Hid2.mk hm6
      have Hk6 := Hid2.mk hk6
      have hir : (Tryz.prog.info? 23).map (·.size) = some (rr.map (Value.int .u8)).length := by rw [infoHash, List.length_map, hlen]
      have Hir := Hid2.mk hir
      have d1 := Hc5.out.cell 1 (by simp)
      simp only [List.getD_cons_zero, List.getD_cons_succ] at d1
      have hs2 := Hs2.out
      clear hrun hm6 hk6 hir hi hone hrb hlen Hc4 HM4 HR4 HK4
      refine wp_region_still_tail 10 (by kernel_rfl) (by kernel_rfl) ?_
      simp only [List.take_succ_cons, List.take_zero, List.drop_succ_cons, List.drop_zero]
      repeat (first | still_step | (refine wpStill_load_row rfl 23 (.tmp 3) rfl w.heap.size 0 rfl (rr.map (Value.int .u8)) _ (range_vblk (HR5.out.drewN 1)) Tryz.underlying23 rfl Hir.out ?_))
      try refine wpStill_nil ?_
      change wpList _ _ _ _ _ w5.drew
      have hrun := Hrun.out
      unfold hv at hrun
      go_wp2_with fail
      clear hrun Hrun
      go_roundw
      case rel =>
        refine ⟨j + 1, q, by go_num, rfl, ?_, Hc5.out.keep Hk6.out (Ne.symm htm), ?_, ?_, HK5.out.trans (Hk6.out.mono fun b hb e => hb.2 (e ▸ hOm))⟩
        · have := Hp.out
          rw [← Hpp.out] at this
          rw [← this, Nat.pow_succ, Nat.mul_comm (2 ^ j) 2, ← Nat.mul_assoc]
          congr 1; omega
        · refine HM6.out.congr fun x => ?_
          have e := stepF_succ (node := nodeP) (none := noneP) (l := l) (h := h) (j := j) (p := q) (by rw [Hpp.out]; exact Hp.out) x
          have e2 : root nodeP noneP (seg (l ++ [h]) (q * 2 ^ (j + 1)) (2 ^ (j + 1))) = rr := Hrr.out
          rw [e2] at e
          exact e.symm
        · rw [Hrr.out]; exact HR5.out.keep Hk6.out hgm
      case measure => simp [intOf]; omega

end Mk
end Go.Proofs.YtlamdhekjlnccaaGreatDoor

/- Blocks (chapter 11): EntryHash, Head, Join, Hash. -/
namespace Go.Proofs.YtlamdhekjlnccaaGreatDoor
open Go.RowKit
namespace K
/-- An entry's digest. -/
def leafH (e : En) : List Int := Dig.sumL (0 :: layE e)
theorem leafH_len (e : En) : (leafH e).length = 32 := Dig.sumL_length _
/-- What EntryHash tells. -/
noncomputable def entV (e : En) : List Int := if chkE e ≠ 0 then Dig.Z32 else leafH e
theorem entV_len (e : En) : (entV e).length = 32 := by unfold entV; split; rfl; exact leafH_len e
def headH (b : Bk) : List Int := Dig.sumL (headL b)
def rootH (b : Bk) : List Int := Mk.rt (b.ents.map leafH)
def joinP (x y : List Int) : List Int := Dig.sumL (1 :: (x ++ y))
/-- A block's digest. -/
def hashH (b : Bk) : List Int := joinP (headH b) (chainP (rootH b) (uvB b.ents.length))
/-- What Hash tells. -/
noncomputable def hashBV (b : Bk) : List Int := if chkB b ≠ 0 then Dig.Z32 else hashH b
theorem hashH_len (b : Bk) : (hashH b).length = 32 := by unfold hashH joinP; exact Dig.sumL_length _
theorem hashBV_len (b : Bk) : (hashBV b).length = 32 := by
  unfold hashBV
  split
  · rfl
  · exact hashH_len b
theorem okh_leaves (es : List En) : Mk.Okh (es.map leafH) := fun x hx => by
  obtain ⟨e, -, rfl⟩ := List.mem_map.1 hx
  exact leafH_len e
theorem entryHash_any {f : Nat} {w : World} {e : En} {cs : List Value} (h : IsE f w e cs) (hlen : chk 16 e.data = 0 → (encV 16 e.data).length ≤ 70368744177664) :
    Calls Tryz.prog 13 #[.agg cs.toArray] w fun r w' => r = .returned (.tuple #[.agg (hashC (entV e)).toArray, .int .i64 (chkE e)]) ∧ Below w.heap.size w w' := by
  have h46 := h.len
  refine enter (args := [.agg cs.toArray]) Tryz.func13 rfl Tryz.ntmps13 rfl ?_
  refine kgo ?_
  refine WL.box rfl rfl rfl rfl rfl fun g w1 hf => ?_
  have hf' : Fresh w g w1 45 cs := hf
  clear hf
  refine WL.alloc (z := .agg (hashC Dig.Z32).toArray) rfl rfl rfl rfl (Dig.zero25) fun c w2 hf2 => ?_
  have hf2' : Fresh w1 c w2 23 (hashC Dig.Z32) := hf2
  clear hf2
  have he1 := hf'.eq
  have he2 := hf2'.eq
  have hz1 := hf'.size
  have hz2 := hf2'.size
  have hw2 : Below w.heap.size w w2 := hf'.below.trans (hf2'.below.mono hf'.below.size)
  have A2 := hf'.blk.below hf2'.below hf'.blk.lt
  have C2 := hf2'.blk
  clear hf' hf2'
  refine kgo ?_
  refine WL.loadMid rfl rfl rfl rfl rfl rfl (VBlk.rangeAt A2) h46 ?_
  refine WL.call rfl rfl rfl rfl rfl Tryz.func32 rfl (by kernel_rfl) (checkEntry_any (IsE.below hw2 h) hlen) ?_
  rintro _ w3 ⟨rfl, hk3⟩
  refine ⟨_, rfl, ?_⟩
  have hw3 := hw2.trans (hk3.mono hw2.size)
  have A3 := A2.below hk3 A2.lt
  have C3 := C2.below hk3 C2.lt
  by_cases hc : chkE e = 0
  rotate_left
  · have hv : entV e = Dig.Z32 := by unfold entV; rw [if_pos hc]
    refine kgo ?_
    refine WL.build (hashC Dig.Z32) rfl rfl rfl rfl rfl (by kernel_rfl) ?_
    refine kgo ?_
    refine WL.storeRow rfl rfl rfl rfl rfl rfl C3 (by rfl) (by rfl) (Ones.int _ _) ?_
    refine kgo ?_
    exact WQ.retCT rfl rfl rfl rfl (by rfl) (C3.setRow _) ⟨by rw [hv], Keep.below (Keep.setRow (Keep.of_below hw3) (fun hk => by omega) _)⟩
  · have hv : entV e = leafH e := by unfold entV; rw [if_neg (by simpa using hc)]
    obtain ⟨hform, -⟩ := chkE_ok hc
    obtain ⟨hkd, -, -, -, htx, -⟩ := formE_rng hform
    have hh : e.hash.length = 32 := by obtain ⟨_, -, -, -, -, hl, -⟩ := h; exact hl
    have hle := layE_len e hh
    refine kgo ?_
    refine WL.loadMid rfl rfl rfl rfl rfl rfl (VBlk.rangeAt A3) h46 ?_
    refine WL.call rfl rfl rfl rfl rfl Tryz.func42 rfl (by kernel_rfl) (layEntry_any h hkd (Bu.nil w3) (by simp only [List.length_nil]; omega)) ?_
    rintro _ w4 ⟨b4, rfl, hb4, hg4⟩
    refine ⟨_, rfl, ?_⟩
    rw [List.nil_append] at hb4
    have hk4 : Below w3.heap.size w3 w4 := hg4.old (Nat.le_refl _) (fun g h => by cases h)
    refine WL.call rfl rfl rfl rfl rfl Tryz.func41 rfl (by kernel_rfl) (leaf_any hb4.sl (by omega)) ?_
    rintro _ w5 ⟨rfl, hk5⟩
    refine ⟨_, rfl, ?_⟩
    have hk35 : Below w3.heap.size w3 w5 := hk4.trans (hk5.mono hk4.size)
    have C5 := C3.below hk35 C3.lt
    have hlen2 : (hashC (leafH e)).length = 32 := by rw [List.length_map]; exact leafH_len e
    refine WL.storeRow rfl rfl rfl rfl rfl rfl C5 hlen2 (by rfl) (Ones.int _ _) ?_
    refine kgo ?_
    exact WQ.retCT rfl rfl rfl rfl hlen2 (C5.setRow _) ⟨by rw [hv, hc], Keep.below (Keep.setRow (Keep.of_below (hw3.trans (hk35.mono hw3.size))) (fun hk => by omega) _)⟩
theorem headTop_any {f : Nat} {w : World} {b : Bk} {cs : List Value} (h : IsB f w b cs) :
    Calls Tryz.prog 11 #[.agg cs.toArray] w fun r w' => r = .returned (.agg (hashC (headH b)).toArray) ∧ Below w.heap.size w w' := by
  have h36 := h.len
  have hpl : b.prev.length = 32 := by obtain ⟨_, -, -, hp, -⟩ := h; exact hp
  refine enter (args := [.agg cs.toArray]) Tryz.func11 rfl Tryz.ntmps11 rfl ?_
  refine kgo ?_
  refine WL.box rfl rfl rfl rfl rfl fun g w1 hf => ?_
  have hf' : Fresh w g w1 26 cs := hf
  clear hf
  refine WL.alloc (z := .agg (hashC Dig.Z32).toArray) rfl rfl rfl rfl (Dig.zero25) fun c w2 hf2 => ?_
  have hf2' : Fresh w1 c w2 23 (hashC Dig.Z32) := hf2
  clear hf2
  have he1 := hf'.eq
  have he2 := hf2'.eq
  have hz1 := hf'.size
  have hz2 := hf2'.size
  have hw2 : Below w.heap.size w w2 := hf'.below.trans (hf2'.below.mono hf'.below.size)
  have A2 := hf'.blk.below hf2'.below hf'.blk.lt
  have C2 := hf2'.blk
  clear hf' hf2'
  refine kgo ?_
  refine WL.loadMid rfl rfl rfl rfl rfl rfl (VBlk.rangeAt A2) h36 ?_
  refine WL.call rfl rfl rfl rfl rfl Tryz.func38 rfl (by kernel_rfl) (head_any (IsB.below hw2 h)) ?_
  rintro _ w3 ⟨b3, rfl, hb3, hk3, -⟩
  refine ⟨_, rfl, ?_⟩
  have hhl : (headL b).length ≤ 70 := by
    have h1 := uvB_len b.index.toNat
    have h2 := uvB_len b.time.toNat
    have h3 := uvB_len b.txn.toNat
    unfold headL; simp only [List.length_append]; omega
  refine WL.call rfl rfl rfl rfl rfl Tryz.func37 rfl (by kernel_rfl) (Dig.progSum_s b3 _ w3 hb3.sl (by omega)) ?_
  rintro _ w4 ⟨rfl, hk4⟩
  refine ⟨_, rfl, ?_⟩
  have hk24 : Below w2.heap.size w2 w4 := hk3.trans (hk4.mono hk3.size)
  have C4 := C2.below hk24 C2.lt
  have hlen : (hashC (Dig.sumL (headL b))).length = 32 := by rw [List.length_map]; exact Dig.sumL_length _
  refine WL.storeRow rfl rfl rfl rfl rfl rfl C4 hlen (by rfl) (Ones.int _ _) ?_
  refine kgo ?_
  exact WQ.retC rfl rfl rfl hlen (C4.setRow _) ⟨rfl, Keep.below (Keep.setRow (Keep.of_below (hw2.trans (hk24.mono hw2.size))) (fun hk => by omega) _)⟩
theorem join_any {w : World} {x y : List Int} (hx : x.length = 32) (hy : y.length = 32) :
    Calls Tryz.prog 25 #[.agg (hashC x).toArray, .agg (hashC y).toArray] w fun r w' => r = .returned (.agg (hashC (joinP x y)).toArray) ∧ Below w.heap.size w w' := by
  have hx' : (hashC x).length = 32 := by rw [List.length_map]; exact hx
  have hy' : (hashC y).length = 32 := by rw [List.length_map]; exact hy
  refine enter (args := [.agg (hashC x).toArray, .agg (hashC y).toArray]) Tryz.func25 rfl Tryz.ntmps25 rfl ?_
  refine kgo ?_
  refine WL.box rfl rfl rfl rfl rfl fun g1 w1 hf1 => ?_
  have hf1' : Fresh w g1 w1 23 (hashC x) := hf1
  clear hf1
  refine WL.box rfl rfl rfl rfl rfl fun g2 w2 hf2 => ?_
  have hf2' : Fresh w1 g2 w2 23 (hashC y) := hf2
  clear hf2
  refine WL.alloc (z := .agg (hashC Dig.Z32).toArray) rfl rfl rfl rfl (Dig.zero25) fun c w3 hf3 => ?_
  have hf3' : Fresh w2 c w3 23 (hashC Dig.Z32) := hf3
  clear hf3
  have he1 := hf1'.eq
  have he2 := hf2'.eq
  have he3 := hf3'.eq
  have hz1 := hf1'.size
  have hz2 := hf2'.size
  have hz3 := hf3'.size
  have hw2 : Below w.heap.size w w2 := hf1'.below.trans (hf2'.below.mono hf1'.below.size)
  have hw3 : Below w.heap.size w w3 := hw2.trans (hf3'.below.mono hw2.size)
  have A := (hf1'.blk.below hf2'.below hf1'.blk.lt).below hf3'.below (by omega)
  have B := hf2'.blk.below hf3'.below hf2'.blk.lt
  have C := hf3'.blk
  clear hf1' hf2' hf3'
  refine kgo ?_
  refine WL.loadMid rfl rfl rfl rfl rfl rfl (VBlk.rangeAt A) hx' ?_
  refine WL.loadMid rfl rfl rfl rfl rfl rfl (VBlk.rangeAt B) hy' ?_
  refine WL.call rfl rfl rfl rfl rfl Tryz.func50 rfl (by kernel_rfl) (Dig.node_any x y w3 hx hy) ?_
  rintro _ w4 ⟨rfl, hk4⟩
  refine ⟨_, rfl, ?_⟩
  have C4 := C.below hk4 C.lt
  have hlen : (hashC (joinP x y)).length = 32 := by rw [List.length_map]; exact Dig.sumL_length _
  refine WL.storeRow rfl rfl rfl rfl rfl rfl C4 hlen (by rfl) (Ones.int _ _) ?_
  refine kgo ?_
  exact WQ.retC rfl rfl rfl hlen (C4.setRow _) ⟨rfl, Keep.below (Keep.setRow (Keep.of_below (hw3.trans (hk4.mono hw3.size))) (fun hk => by omega) _)⟩
set_option maxHeartbeats 4000000 in
theorem hash11_any {f : Nat} {w : World} {b : Bk} {cs : List Value} (h : IsB f w b cs) (hT : Mk.Tab w) (hlen : ∀ e ∈ b.ents, chk 16 e.data = 0 → (encV 16 e.data).length ≤ 70368744177664) :
    Calls Tryz.prog 7 #[.agg cs.toArray] w fun r w' => r = .returned (.tuple #[.agg (hashC (hashBV b)).toArray, .int .i64 (chkB b)]) ∧ Below w.heap.size w w' := by
  have hall := h
  have hcl := h.len
  obtain ⟨se, rfl, hents, hpl, hpb, hr⟩ := h
  obtain ⟨sp, cap, rfl⟩ := hents.slice
  refine enter (args := [.agg (bkC b (.slice sp b.ents.length cap)).toArray]) Tryz.func7 rfl Tryz.ntmps7 rfl ?_
  refine kgo ?_
  refine WL.box rfl rfl rfl rfl rfl fun g w1 hf => ?_
  have hf' : Fresh w g w1 26 (bkC b (.slice sp b.ents.length cap)) := hf
  clear hf
  refine WL.alloc (z := .agg (hashC Dig.Z32).toArray) rfl rfl rfl rfl (Dig.zero25) fun rg w2 hf2 => ?_
  have hf2' : Fresh w1 rg w2 23 (hashC Dig.Z32) := hf2
  clear hf2
  have he1 := hf'.eq
  have he2 := hf2'.eq
  have hz1 := hf'.size
  have hz2 := hf2'.size
  have hw2 : Below w.heap.size w w2 := hf'.below.trans (hf2'.below.mono hf'.below.size)
  have B2 : BkAt 26 g w2 b (.slice sp b.ents.length cap) := ⟨hf'.blk.below hf2'.below hf'.blk.lt, hpl⟩
  have R2 := hf2'.blk
  clear hf' hf2'
  refine kgo ?_
  refine WL.loadMid rfl rfl rfl rfl rfl rfl (VBlk.rangeAt B2.blk) hcl ?_
  refine WL.call rfl rfl rfl rfl rfl Tryz.func9 rfl (by kernel_rfl) (check11_any (IsB.below hw2 hall) hlen) ?_
  rintro _ w3 ⟨rfl, hk3⟩
  refine ⟨_, rfl, ?_⟩
  have hw3 := hw2.trans (hk3.mono hw2.size)
  have B3 := B2.below hk3
  have R3 := R2.below hk3 R2.lt
  by_cases hc : chkB b = 0
  rotate_left
  · have hv : hashBV b = Dig.Z32 := by unfold hashBV; rw [if_pos hc]
    refine kgo ?_
    refine WL.build (hashC Dig.Z32) rfl rfl rfl rfl rfl (by kernel_rfl) ?_
    refine kgo ?_
    refine WL.storeRow rfl rfl rfl rfl rfl rfl R3 (by rfl) (by rfl) (Ones.int _ _) ?_
    refine kgo ?_
    exact WQ.retCT rfl rfl rfl rfl (by rfl) (R3.setRow _) ⟨by rw [hv], Keep.below (Keep.setRow (Keep.of_below hw3) (fun hk => by omega) _)⟩
  have hv : hashBV b = hashH b := by unfold hashBV; rw [if_neg (by simpa using hc)]
  obtain ⟨⟨-, -, -, hl1, hl2⟩, hck, -⟩ := chkB_ok hc
  refine kgo ?_
  refine WL.call rfl rfl rfl rfl rfl Tryz.func22 rfl (by kernel_rfl) (Mk.new_any w3) ?_
  rintro _ w4 ⟨O4, rfl, hI4, hk4, hO4⟩
  refine ⟨_, rfl, ?_⟩
  generalize w3.heap.size + 1 = tb at hI4 ⊢
  have B4 := B3.below hk4
  refine kgo ?_
  refine WL.load rfl rfl rfl rfl rfl rfl B4.ents ?_
  refine kgo ?_
  refine WC.loop (fun i : Nat => [(1, .pointer (some ⟨g, 0, none⟩)), (2, .pointer (some ⟨rg, 0, none⟩)), (5, .pointer (some ⟨tb, 0, none⟩)), (20, .slice sp b.ents.length cap), (21, .int .i64 b.ents.length), (22, .int .i64 i)])
    (fun i wr => i ≤ b.ents.length ∧ Below w3.heap.size w3 wr ∧ ∃ O, Mk.IsTree wr tb O (22 * i) ((b.ents.take i).map leafH) ∧ ∀ x, O x → w3.heap.size ≤ x) (fun i => b.ents.length - i) 0
    ⟨rfl, rfl, rfl, rfl, rfl, rfl, trivial⟩ ⟨Nat.zero_le _, hk4, O4, by simpa using hI4, hO4⟩ ?_
  rintro i wr ⟨hi, hbr, O, hI, hO⟩
  have hwr : Below w.heap.size w wr := hw3.trans (hbr.mono hw3.size)
  have hzr := hbr.size
  by_cases hik : i < b.ents.length
  · obtain ⟨kb, ko, cap', cs, hse, hkb, hc46, hce, hcr⟩ := hents.at hik
    injection hse with hse1 _ hse2
    subst hse1; subst hse2
    have hmem : b.ents.getD i noE ∈ b.ents := by simp [hik]
    have hce0 := hck _ hmem
    have hlen1 := hlen _ hmem
    have hts := take_snoc b.ents noE hik
    generalize b.ents.getD i noE = e at hce hce0 hlen1 hts
    refine kgo ?_
    refine WL.idx i (ko + i * 46) rfl rfl rfl rfl rfl rfl rfl rfl hik rfl ?_
    refine WL.loadMid rfl rfl rfl rfl rfl rfl (fun j u hu => (hwr.cell (p := ⟨kb, ko + i * 46 + j, none⟩) hkb).trans (hcr j u hu)) hc46 ?_
    refine WL.alloc (z := .agg (enC noE zCells).toArray) rfl rfl rfl rfl (fun _ => by kernel_rfl) fun c w5 hf5 => ?_
    have hf5' : Fresh wr c w5 45 (enC noE zCells) := hf5
    clear hf5
    refine kgo ?_
    refine WL.storeRow rfl rfl rfl rfl rfl rfl hf5'.blk hc46 (by rfl) hce.one ?_
    have hk6 : Below wr.heap.size wr (w5.setRow c cs.toArray) := below_setRow hf5'.below (by rw [hf5'.eq]; exact Nat.le_refl _) _
    have C6 : VBlk 45 (w5.setRow c cs.toArray) c cs := hf5'.blk.setRow _
    generalize w5.setRow c cs.toArray = w6 at hk6 C6
    clear hf5'
    have hw6 := hwr.trans (hk6.mono hwr.size)
    refine kgo ?_
    refine WL.loadMid rfl rfl rfl rfl rfl rfl (VBlk.rangeAt C6) hc46 ?_
    refine WL.call rfl rfl rfl rfl rfl Tryz.func13 rfl (by kernel_rfl) (entryHash_any (IsE.below hw6 hce) hlen1) ?_
    rintro _ w7 ⟨rfl, hk7⟩
    refine ⟨_, rfl, ?_⟩
    have hve : entV e = leafH e := by unfold entV; rw [if_neg (by simpa using hce0)]
    rw [hve]
    have hlh : (hashC (leafH e)).length = 32 := by rw [List.length_map]; exact leafH_len e
    refine kgo ?_
    refine WL.alloc (z := .agg (hashC Dig.Z32).toArray) rfl rfl rfl rfl (Dig.zero25) fun hb w8 hf8 => ?_
    have hf8' : Fresh w7 hb w8 23 (hashC Dig.Z32) := hf8
    clear hf8
    refine WL.storeRow rfl rfl rfl rfl rfl rfl hf8'.blk hlh (by rfl) (Ones.int _ _) ?_
    have hk9 : Below w7.heap.size w7 (w8.setRow hb (hashC (leafH e)).toArray) := below_setRow hf8'.below (by rw [hf8'.eq]; exact Nat.le_refl _) _
    have H9 : VBlk 23 (w8.setRow hb (hashC (leafH e)).toArray) hb (hashC (leafH e)) := hf8'.blk.setRow _
    generalize w8.setRow hb (hashC (leafH e)).toArray = w9 at hk9 H9
    clear hf8'
    have hkr9 : Below wr.heap.size wr w9 := (hk6.trans (hk7.mono hk6.size)).trans (hk9.mono (Nat.le_trans hk6.size hk7.size))
    have hI9 := hI.below hkr9 (Nat.le_refl _)
    refine kgo ?_
    refine WL.loadMid rfl rfl rfl rfl rfl rfl (VBlk.rangeAt H9) hlh ?_
    refine WL.call rfl rfl rfl rfl rfl Tryz.func23 rfl (by kernel_rfl) (Mk.add_any hI9 (leafH_len e) (by rw [List.length_map, List.length_take]; omega) (by omega)) ?_
    rintro _ w10 ⟨rfl, hI10, hk10⟩
    refine ⟨_, rfl, ?_⟩
    have hk39 : Below w3.heap.size w3 w9 := hbr.trans (hkr9.mono hzr)
    have hk310 : Below w3.heap.size w3 w10 := hk39.trans (Keep.below (Keep.mono hk10 fun x (hx : x < w3.heap.size) => ⟨Nat.lt_of_lt_of_le hx hk39.size, fun h => by have := hO x h; omega⟩))
    refine kgo ?_
    refine WQ.again (i + 1) ⟨rfl, rfl, rfl, rfl, rfl, rfl, trivial⟩ ⟨hik, hk310, O, ?_, hO⟩ (by show b.ents.length - (i + 1) < b.ents.length - i; omega)
    rw [hts, List.map_append, Nat.mul_succ]
    exact hI10
  · obtain rfl : i = b.ents.length := by omega
    rw [List.take_length] at hI
    have Br := B3.below hbr
    have Rr := R3.below hbr R3.lt
    have hTr := hT.below hwr (Nat.le_refl _)
    refine kgo ?_
    refine WL.load rfl rfl rfl rfl rfl rfl Br.ents ?_
    refine kgo ?_
    refine WL.call rfl rfl rfl rfl rfl Tryz.func24 rfl (by kernel_rfl) (Mk.rootTop_any hI hTr (by rw [List.length_map]; omega) (b.ents.length : Int)) ?_
    rintro _ w11 ⟨rfl, hk11⟩
    refine ⟨_, rfl, ?_⟩
    have hrv : Mk.rootV (b.ents.map leafH) (b.ents.length : Int) = rootH b := by
      unfold Mk.rootV rootH
      rw [if_pos (by rw [List.length_map]; omega), Int.toNat_natCast, List.take_of_length_le (by rw [List.length_map]; omega)]
    have hrl : (rootH b).length = 32 := Mk.rt_len (okh_leaves b.ents)
    rw [hrv]
    have hrl' : (hashC (rootH b)).length = 32 := by rw [List.length_map]; exact hrl
    generalize hRR : rootH b = R at hrl hrl'
    generalize Mk.rootC _ _ = rc
    show WL _ _ _ _ ((_, .tuple #[.agg (hashC R).toArray, .int .i64 rc]) :: _) _
    refine kgo ?_
    refine WL.alloc (z := .agg (hashC Dig.Z32).toArray) rfl rfl rfl rfl (Dig.zero25) fun cb w12 hf12 => ?_
    have hf12' : Fresh w11 cb w12 23 (hashC Dig.Z32) := hf12
    clear hf12
    refine WL.storeRow rfl rfl rfl rfl rfl rfl hf12'.blk hrl' (by rfl) (Ones.int _ _) ?_
    have hk13 : Below w11.heap.size w11 (w12.setRow cb (hashC R).toArray) := below_setRow hf12'.below (by rw [hf12'.eq]; exact Nat.le_refl _) _
    have H13 : VBlk 23 (w12.setRow cb (hashC R).toArray) cb (hashC R) := hf12'.blk.setRow _
    generalize w12.setRow cb (hashC R).toArray = w13 at hk13 H13
    clear hf12'
    have hkr13 : Below wr.heap.size wr w13 := hk11.trans (hk13.mono hk11.size)
    have B13 := Br.below hkr13
    have R13 := Rr.below hkr13 Rr.lt
    have hw13 : Below w.heap.size w w13 := hwr.trans (hkr13.mono hwr.size)
    refine kgo ?_
    refine WC.drawn 6 (fun wx => BkAt 26 g wx b (.slice sp b.ents.length cap) ∧ VBlk 23 wx cb (hashC R)) fun w14 hd14 => ?_
    have hk14 : Below w13.heap.size w13 w14 := hd14.below _
    have hS : BkAt 26 g w14 b (.slice sp b.ents.length cap) ∧ VBlk 23 w14 cb (hashC R) := ⟨B13.below hk14, H13.below hk14 H13.lt⟩
    have hw14 : Below w.heap.size w w14 := hw13.trans (hk14.mono hw13.size)
    refine WD.loadMid 0 [1, 6, 7, 8, 9] rfl (by kernel_rfl) rfl rfl (fun _ _ _ _ _ h => h) rfl rfl rfl rfl (fun wx hx => VBlk.rangeAt hx.1.blk) hcl hS ?_
    refine WD.loadMid 2 [6, 7, 8, 9] rfl (by kernel_rfl) rfl rfl (fun _ _ _ _ _ h => h) rfl rfl rfl rfl (fun wx hx => VBlk.rangeAt hx.2) hrl' hS ?_
    (((first | refine WD.free 3 rfl (by kernel_rfl) rfl rfl (fun _ _ _ _ _ h => h) rfl rfl (.inr hS) ?_ | refine WD.skip 3 rfl (by kernel_rfl) rfl rfl (fun _ _ _ _ _ h => h) rfl (.inr hS) ?_); try (first | ((with_reducible refine WD.topT ?_ ?_); omega) | ((with_reducible refine WD.topF ?_ ?_); omega) | ((with_reducible refine WD.top64 ?_ ?_); omega))))
    refine WD.load 4 [5, 6, 7, 8, 9] rfl (by kernel_rfl) rfl rfl (fun _ _ _ _ _ h => h) rfl rfl rfl rfl (fun wx hx => hx.1.ents) hS ?_
    (((first | refine WD.free 5 rfl (by kernel_rfl) rfl rfl (fun _ _ _ _ _ h => h) rfl rfl (.inr hS) ?_ | refine WD.skip 5 rfl (by kernel_rfl) rfl rfl (fun _ _ _ _ _ h => h) rfl (.inr hS) ?_); try (first | ((with_reducible refine WD.topT ?_ ?_); omega) | ((with_reducible refine WD.topF ?_ ?_); omega) | ((with_reducible refine WD.top64 ?_ ?_); omega))))
    refine WD.one 1 (by kernel_rfl) rfl ?_
    refine WL.call rfl rfl rfl rfl rfl Tryz.func11 rfl (by kernel_rfl) (headTop_any (IsB.below hw14 hall)) ?_
    rintro _ w15 ⟨rfl, hk15⟩
    refine ⟨_, rfl, ?_⟩
    refine WL.nil (WQ.dk (.inr ⟨hS.1.below hk15, hS.2.below hk15 hS.2.lt⟩) ?_)
    refine WD.one 6 (by kernel_rfl) rfl ?_
    refine WL.call rfl rfl rfl rfl rfl Tryz.func26 rfl (by kernel_rfl) (pentriesOf_any hrl (n := b.ents.length) (by omega)) ?_
    rintro _ w16 ⟨rfl, hk16⟩
    refine ⟨_, rfl, ?_⟩
    refine WL.nil (WQ.dk (.inl rfl) ?_)
    refine WD.one 7 (by kernel_rfl) rfl ?_
    refine WL.call rfl rfl rfl rfl rfl Tryz.func25 rfl (by kernel_rfl) (join_any (x := headH b) (Dig.sumL_length _) (chainP_len _ _)) ?_
    rintro _ w17 ⟨rfl, hk17⟩
    refine ⟨_, rfl, ?_⟩
    refine WL.nil (WQ.dk (.inl rfl) ?_)
    have hk1317 : Below w13.heap.size w13 w17 := ((hk14.trans (hk15.mono hk14.size)).trans (hk16.mono (Nat.le_trans hk14.size hk15.size))).trans (hk17.mono (Nat.le_trans hk14.size (Nat.le_trans hk15.size hk16.size)))
    have R17 := R13.below hk1317 R13.lt
    have hw17 : Below w.heap.size w w17 := hw13.trans (hk1317.mono hw13.size)
    have hJ : joinP (headH b) (chainP R (uvB b.ents.length)) = hashBV b := by rw [hv]; unfold hashH; rw [hRR]
    rw [hJ]
    have hbl : (hashC (hashBV b)).length = 32 := by rw [List.length_map]; exact hashBV_len b
    refine WD.one 8 (by kernel_rfl) rfl ?_
    refine WL.storeRow rfl rfl rfl rfl rfl rfl R17 hbl (by rfl) (Ones.int _ _) ?_
    refine WL.nil (WQ.dk (.inl rfl) ?_)
    refine WD.one 9 (by kernel_rfl) rfl ?_
    refine WL.pure rfl rfl rfl rfl ?_
    refine WL.nil (WQ.dk (.inl rfl) ?_)
    refine WD.done (by kernel_rfl) ?_
    refine kgo ?_
    exact WQ.retCT rfl rfl rfl rfl hbl (R17.setRow _) ⟨by rw [hc], Keep.below (Keep.setRow (Keep.of_below hw17) (fun hk => by omega) _)⟩
end K
end Go.Proofs.YtlamdhekjlnccaaGreatDoor

/- Rows of digests. -/
namespace Go.Proofs.YtlamdhekjlnccaaGreatDoor
open Go.RowKit Go.Maps

theorem wpList_load_arr {P : Program} {ops : Array Oper} {rest : List Oper} {op : Oper} {a : Act} {w : World} {Q : Exit → Act → World → Prop} (hgd : op.guard = none) (ty : TypeId) (x : Operand) (ho : op.op = .load ty x)
    (b o : Nat) (hx : a.eval x = .pointer (some ⟨b, o, none⟩)) (cs : List Value) (d : TypeDesc) (hc : w.rangeAt b o cs)
    (hu : P.underlying ty = some d) (hd : d.isRow = true) (hi : (P.info? ty).map (·.size) = some cs.length)
    (h : wpList P ops Q rest (a.put op.dst (.agg cs.toArray)) w) : wpList P ops Q (op :: rest) a w :=
  wpList_load_mid hgd ty x ho b o hx cs d hc hu hd hi h

namespace Mk

/-- The cells of digests, one behind another. -/
def cellsH (hs : List H) : List Value := hs.flatMap fun h => h.map (Value.int .u8)
theorem cellsH_app (a b : List H) : cellsH (a ++ b) = cellsH a ++ cellsH b := by simp [cellsH]
theorem cellsH_len {hs : List H} (h : Okh hs) : (cellsH hs).length = hs.length * 32 := by
  induction hs with
  | nil => rfl
  | cons a r ih =>
    have h1 := h a List.mem_cons_self
    have h2 := ih (fun x hx => h x (List.mem_cons_of_mem _ hx))
    have e : cellsH (a :: r) = a.map (Value.int .u8) ++ cellsH r := rfl
    rw [e, List.length_append, List.length_map, h1, h2, List.length_cons, Nat.add_mul]; omega
theorem cellsH_at {hs : List H} (h : Okh hs) : ∀ (k j : Nat), k < hs.length → j < 32 → (cellsH hs)[k * 32 + j]? = ((hs.getD k []).map (Value.int .u8))[j]? := by
  induction hs with
  | nil => intro k j hk; simp at hk
  | cons a r ih =>
    intro k j hk hj
    have h1 := h a List.mem_cons_self
    have e : cellsH (a :: r) = a.map (Value.int .u8) ++ cellsH r := rfl
    have hl : (a.map (Value.int .u8)).length = 32 := by rw [List.length_map, h1]
    rw [e]
    cases k with
    | zero => rw [Nat.zero_mul, Nat.zero_add, List.getElem?_append_left (by omega)]; rfl
    | succ k =>
      rw [List.getElem?_append_right (by omega), hl]
      have e2 : (k + 1) * 32 + j - 32 = k * 32 + j := by omega
      rw [e2, ih (fun x hx => h x (List.mem_cons_of_mem _ hx)) k j (by simpa using hk) hj]
      rfl
theorem ones_cellsH (hs : List H) : Ones (cellsH hs) := fun u hu => by
  unfold cellsH at hu
  obtain ⟨h, -, hu⟩ := List.mem_flatMap.1 hu
  obtain ⟨_, _, rfl⟩ := List.mem_map.1 hu
  rfl

/-- The slice v reads as the digests hs, out of blocks of O. -/
def HS (w : World) (O : Nat → Prop) (v : Value) (hs : List H) : Prop := Okh hs ∧ SlV w O 32 v hs.length (cellsH hs)
theorem HS.at {w : World} {O : Nat → Prop} {v : Value} {hs : List H} (h : HS w O v hs) (k : Nat) (hk : k < hs.length) :
    ∃ b o cap, v = .slice (some ⟨b, o, none⟩) hs.length cap ∧ hs.length ≤ cap ∧ cap ≤ 9223372036854775807 ∧ b < w.heap.size ∧ O b ∧ (hs.getD k []).length = 32 ∧ w.rangeAt b (o + k * 32) ((hs.getD k []).map (Value.int .u8)) := by
  obtain ⟨hok, hl, h1, sp, cap, rfl, h2, h3, h4, h5⟩ := h
  obtain ⟨b, o, rfl, hb, hO, hr⟩ := h5 (by omega)
  have h32 := okh_getD hok hk
  refine ⟨b, o, cap, rfl, h2, h3, hb, hO, h32, fun j u hu => ?_⟩
  have hj : j < 32 := by
    rcases Nat.lt_or_ge j 32 with h | h
    · exact h
    · rw [List.getElem?_eq_none (by rw [List.length_map, h32]; exact h)] at hu; cases hu
  have hkj : k * 32 + j < (cellsH hs).length := by rw [cellsH_len hok]; omega
  have := hr (k * 32 + j) hkj
  rw [Nat.add_assoc, this]
  rw [← cellsH_at hok k j hk hj] at hu
  simp [hu]
theorem HS.form {w : World} {O : Nat → Prop} {v : Value} {hs : List H} (h : HS w O v hs) : ∃ sp cap, v = .slice sp hs.length cap ∧ hs.length ≤ cap ∧ cap ≤ 9223372036854775807 := by
  obtain ⟨hok, hl, h1, sp, cap, rfl, h2, h3, -⟩ := h
  exact ⟨sp, cap, rfl, h2, h3⟩
theorem HS.keep {w w' : World} {O : Nat → Prop} {v : Value} {hs : List H} (h : HS w O v hs) {K : Nat → Prop} (hk : Keep K w w') (hK : ∀ b, O b → b < w.heap.size → K b) : HS w' O v hs := ⟨h.1, h.2.keep hk hK⟩
theorem HS.below {w w' : World} {O : Nat → Prop} {v : Value} {hs : List H} (h : HS w O v hs) {B : Nat} (hk : Below B w w') (hB : w.heap.size ≤ B) : HS w' O v hs := ⟨h.1, h.2.below hk hB⟩
theorem HS.mono {w : World} {O O' : Nat → Prop} {v : Value} {hs : List H} (h : HS w O v hs) (hO : ∀ b, O b → O' b) : HS w O' v hs := ⟨h.1, h.2.mono hO⟩

/-- A tree that the call has made. -/
def TRel (w : World) (t : Nat) (l : List H) (m : Nat) (wr : World) : Prop := ∃ O, IsTree wr t O m l ∧ Below w.heap.size w wr ∧ (∀ b, O b → w.heap.size ≤ b) ∧ w.heap.size ≤ wr.heap.size
theorem TRel.add {w : World} {t m : Nat} {l : List H} {h : H} {wr : World} (hr : TRel w t l m wr) (hh : h.length = 32) (hm : l.length ≤ 1000000) (hc : m ≤ 900000000) :
    Calls Tryz.prog 23 #[.pointer (some ⟨t, 0, none⟩), .agg (h.map (Value.int .u8)).toArray] wr fun e w' => e = .returned (.int .i64 (l.length : Nat)) ∧ TRel w t (l ++ [h]) (m + 22) w' := by
  obtain ⟨O, h1, h2, h3, h4⟩ := hr
  refine (add_any h1 hh hm hc).mono ?_
  rintro e w' ⟨rfl, h5, h6⟩
  exact ⟨rfl, O, h5, h2.trans (h6.mono fun b (hb : b < w.heap.size) => ⟨by omega, fun h => by have := h3 b h; omega⟩).below, h3, Nat.le_trans h4 h6.size⟩
theorem TRel.bel {w : World} {t m : Nat} {l : List H} {wr : World} (hr : TRel w t l m wr) : Below w.heap.size w wr := by obtain ⟨O, h1, h2, h3, h4⟩ := hr; exact h2
theorem TRel.size {w : World} {t m : Nat} {l : List H} {wr : World} (hr : TRel w t l m wr) : w.heap.size ≤ wr.heap.size := by obtain ⟨O, h1, h2, h3, h4⟩ := hr; exact h4
theorem TRel.below {w : World} {t m : Nat} {l : List H} {wr w' : World} (hr : TRel w t l m wr) (hb : Below wr.heap.size wr w') : TRel w t l m w' := by
  obtain ⟨O, h1, h2, h3, h4⟩ := hr
  exact ⟨O, h1.below hb (Nat.le_refl _), h2.trans (hb.mono h4), h3, Nat.le_trans h4 hb.size⟩

theorem take_snoc (hs : List H) (k : Nat) (hk : k < hs.length) : hs.take k ++ [hs.getD k []] = hs.take (k + 1) := by
  rw [List.take_succ_eq_append_getElem hk]
  simp [hk]
end Mk
end Go.Proofs.YtlamdhekjlnccaaGreatDoor

/- Chapter 10: digests compared, new variables. -/
namespace Go.Proofs.YtlamdhekjlnccaaGreatDoor
open Go.RowKit Go.Maps
namespace Mk

theorem Tryz.infoByte : (Tryz.prog.info? 5).map (fun i => (i.zero, i.size, i.bytes)) = some (some (.int .u8 0), 1, 1) := by kernel_rfl
/-- Two digests, compared. -/
theorem eqlH (a b : H) (ha : a.length = 32) (hb : b.length = 32) (W : World) : (binOp .eql 23 (.agg (a.map (Value.int .u8)).toArray) (.agg (b.map (Value.int .u8)).toArray)).run Tryz.prog W = .ok (.bool (decide (a = b))) W := by
  obtain ⟨it, hit, -, hit2, -⟩ := info_parts Tryz.infoByte
  exact run_eql_ints W Tryz.underlying23 Tryz.underlying5 hit hit2 a b ha hb
theorem infoH (l : H) (hl : l.length = 32) : (Tryz.prog.info? 23).map (·.size) = some (l.map (Value.int .u8)).toArray.size := by rw [infoHash]; simp [hl]
theorem oneH (l : H) : (l.map (Value.int .u8)).toArray.all (·.oneCell') = true := by simp [Value.oneCell']
theorem sizeH (a b : H) (ha : a.length = 32) (hb : b.length = 32) : (a.map (Value.int .u8)).toArray.size = (b.map (Value.int .u8)).toArray.size := by simp [ha, hb]
theorem z32_len : Dig.Z32.length = 32 := rfl
/-- What a new variable holds behind a store. -/
theorem alloc_store (w : World) (l : H) :
    (w.alloc (.cells (Dig.Z32.map (Value.int .u8)).toArray 23)).heap[w.heap.size]? = some (.cells (Dig.Z32.map (Value.int .u8)).toArray 23 (0, 0)) ∧
    VBlk 23 ((w.alloc (.cells (Dig.Z32.map (Value.int .u8)).toArray 23)).setRow w.heap.size (l.map (Value.int .u8)).toArray) w.heap.size (l.map (Value.int .u8)) ∧
    Below w.heap.size w ((w.alloc (.cells (Dig.Z32.map (Value.int .u8)).toArray 23)).setRow w.heap.size (l.map (Value.int .u8)).toArray) :=
  ⟨heap_alloc_new _ _, VBlk.setRow (VBlk.mk w (Dig.Z32.map (Value.int .u8)) 23) _, below_setRow ((Below.refl _ w).alloc (Nat.le_refl _) _) (Nat.le_refl _) _⟩
theorem refNode_a {a b : H} (w : World) (ha : a.length = 32) (hb : b.length = 32) : Calls Tryz.prog 27 #[.agg (a.map (Value.int .u8)).toArray, .agg (b.map (Value.int .u8)).toArray] w fun e w' => e = .returned (.agg ((nodeP a b).map (Value.int .u8)).toArray) ∧ Below w.heap.size w w' := Dig.refNode_any a b w ha hb

theorem rootTop_a {w : World} {t cnt : Nat} {O : Nat → Prop} {l : List H} (h : IsTree w t O cnt l) (hT : Tab w) (hm : l.length ≤ 1048576) (size : Int) :
    Calls Tryz.prog 24 #[.pointer (some ⟨t, 0, none⟩), .int .i64 size] w fun e w' => e = .returned (.tuple #[.agg ((rootV l size).map (Value.int .u8)).toArray, .int .i64 (rootC l size)]) ∧ Below w.heap.size w w' := rootTop_any h hT hm size

end Mk
end Go.Proofs.YtlamdhekjlnccaaGreatDoor

/- The reference's half, Root. -/
namespace Go.Proofs.YtlamdhekjlnccaaGreatDoor
open Go.RowKit Go.Maps
namespace Mk
theorem HS.take {w : World} {O : Nat → Prop} {sp : Option Addr} {n cap : Nat} {hs : List H} (h : HS w O (.slice sp n cap) hs) {k : Nat} (hk : k ≤ hs.length) : HS w O (.slice sp k cap) (hs.take k) := by
  obtain ⟨hok, hl, h1, sp', cap', e, h2, h3, h4, h5⟩ := h
  obtain ⟨rfl, rfl, rfl⟩ : sp = sp' ∧ n = hs.length ∧ cap = cap' := by simpa using e
  have hlt : (hs.take k).length = k := by rw [List.length_take]; omega
  have ht : cellsH hs = cellsH (hs.take k) ++ cellsH (hs.drop k) := by rw [← cellsH_app, List.take_append_drop]
  refine ⟨okh_take hok k, cellsH_len (okh_take hok k), ones_cellsH _, sp, cap, by rw [hlt], by rw [hlt]; omega, h3, h4, fun h0 => ?_⟩
  rw [hlt] at h0
  obtain ⟨b, o, e1, hb, hO, hr⟩ := h5 (by omega)
  refine ⟨b, o, e1, hb, hO, fun j hj => ?_⟩
  have hj2 : j < (cellsH hs).length := by rw [ht, List.length_append]; omega
  rw [hr j hj2, ht]
  simp [List.getElem?_append_left hj, hj]

set_option maxHeartbeats 1000000 in
theorem refHalf_any (n : Nat) (w : World) (h1 : 2 ≤ n) (h2 : n ≤ 1000000) : Calls Tryz.prog 56 #[.int .i64 (n : Nat)] w fun e w' => e = .returned (.int .i64 (half n : Nat)) ∧ w = w' := by
  go_enter Tryz.func56, Tryz.ntmps56
  go_wp2_with fail
  go_loopw [3] (fun i wr => ∃ k j : Nat, i = .int .i64 (k : Nat) ∧ Hid2 (k = 2 ^ j) ∧ 1 ≤ k ∧ k < n ∧ wr = w) (fun i _ => n - (intOf i).toNat)
  case atStart => exact ⟨1, 0, rfl, Hid2.mk rfl, by omega, by omega, rfl⟩
  case round =>
    obtain ⟨k, j, rfl, Hk, hk1, hkn, rfl⟩ := hrel
    by_cases hl : k < n - k
    · have g1 : (k : Int) < n - k := by omega
      have hkk : Hid2 (2 * k = 2 ^ (j + 1)) := Hid2.mk (by rw [Hk.out, Nat.pow_succ, Nat.mul_comm])
      go_wp2_with fail
      go_roundw
      case rel => exact ⟨2 * k, j + 1, by go_num, hkk, by omega, by omega, trivial⟩
      case measure => simp [intOf]; omega
    · have g1 : (n : Int) - k ≤ k := by omega
      have Hh := Hid2.mk (show half n = k by
        have := half_eq (n := n) (j := j) (by rw [← Hk.out]; exact hkn) (by rw [Nat.pow_succ, ← Hk.out]; omega)
        rw [this, Hk.out])
      go_wp2_with fail
      go_ret
      rw [Hh.out]
      exact ⟨rfl, rfl⟩

/-- What is behind a beginning of a row of digests. -/
theorem HS.drop {w : World} {O : Nat → Prop} {b o n cap : Nat} {hs : List H} (h : HS w O (.slice (some ⟨b, o, none⟩) n cap) hs) {k : Nat} (hk : k ≤ hs.length) : HS w O (.slice (some ⟨b, o + k * 32, none⟩) (n - k) (cap - k)) (hs.drop k) := by
  obtain ⟨hok, hl, h1, sp', cap', e, h2, h3, h4, h5⟩ := h
  obtain ⟨rfl, rfl, rfl⟩ : some ⟨b, o, none⟩ = sp' ∧ n = hs.length ∧ cap = cap' := by simpa using e
  have hlt : (hs.drop k).length = hs.length - k := List.length_drop
  refine ⟨okh_drop hok k, cellsH_len (okh_drop hok k), ones_cellsH _, some ⟨b, o + k * 32, none⟩, cap - k, by rw [hlt], by rw [hlt]; omega, by omega, (fun h => by cases h), fun h0 => ?_⟩
  rw [hlt] at h0
  obtain ⟨b', o', e1, hb, hO, hr⟩ := h5 (by omega)
  obtain ⟨rfl, rfl⟩ : b = b' ∧ o = o' := by simpa using e1
  have ht : cellsH hs = cellsH (hs.take k) ++ cellsH (hs.drop k) := by rw [← cellsH_app, List.take_append_drop]
  have hlen : (cellsH (hs.take k)).length = k * 32 := by rw [cellsH_len (okh_take hok k), List.length_take, Nat.min_eq_left hk]
  refine ⟨b, _, rfl, hb, hO, fun j hj => ?_⟩
  have hj2 : k * 32 + j < (cellsH hs).length := by rw [ht, List.length_append]; omega
  rw [Nat.add_assoc, hr (k * 32 + j) hj2, ht, ← hlen]
  rw [List.getD_eq_getElem?_getD, List.getD_eq_getElem?_getD, List.getElem?_append_right (by omega), Nat.add_sub_cancel_left]

theorem rt_nil : rt [] = Dig.sumL [] := by unfold rt; rw [root_nil]; rfl
theorem rt_one (a : H) : rt [a] = a := by unfold rt; rw [root_one]
theorem rt_two {l : List H} (h : 2 ≤ l.length) : rt l = nodeP (rt (l.take (half l.length))) (rt (l.drop (half l.length))) := by unfold rt; rw [root_two h]

set_option maxRecDepth 100000 in
set_option maxHeartbeats 4000000 in
theorem refRoot_any : ∀ (n : Nat) {w : World} {O : Nat → Prop} {v : Value} {l : List H}, l.length = n → HS w O v l → n ≤ 1000000 →
    Calls Tryz.prog 29 #[v] w fun e w' => e = .returned (.agg ((rt l).map (Value.int .u8)).toArray) ∧ Below w.heap.size w w' := by
  intro n
  induction n using Nat.strongRecOn with
  | ind n ih =>
    intro w O v l hln h hn
    have hz := zeroHash
    obtain ⟨hb, hR⟩ := new_hash w
    have H0 := Hid2.mk (h.below hb (Nat.le_refl _))
    have hok := h.1
    have HB := Hid2.mk hb
    have HR := Hid2.mk hR
    have Hih := Hid2.mk ih
    obtain ⟨sp, cap, rfl, hc, hc'⟩ := h.form
    rw [hln] at hc H0 ⊢
    clear hb hR ih h
    have Hln := Hid2.mk hln
    clear hln
    by_cases h0 : n = 0
    · subst h0
      have hl0 : l = [] := List.eq_nil_of_length_eq_zero Hln.out
      subst hl0
      have hlen := Dig.sumL_length []
      have Hrr := Hid2.mk rt_nil
      go_enter Tryz.func29, Tryz.ntmps29
      go_wp2_with fail
      generalize World.alloc _ _ = w1 at HR HB ⊢
      refine (Dig.refSum_s _ [] _ (Sl.nil _ _) (by simp)).mono ?_
      rintro e w2 ⟨rfl, hb2⟩
      have HB2 := Hid2.mk (HB.out.trans (hb2.mono HB.out.size))
      have HR2 := Hid2.mk (HR.out.below hb2 HR.out.lt)
      clear hb2 HB HR H0
      generalize Dig.sumL [] = rr at hlen Hrr ⊢
      go_wp2_with (refine wpList_store_row rfl 23 (.tmp 2) (.tmp 8) rfl w.heap.size (rr.map (Value.int .u8)).toArray rfl rfl 23 (Dig.Z32.map (Value.int .u8)).toArray HR2.out (infoH rr hlen) (sizeH _ _ z32_len hlen) (oneH _) ?_)
      refine bodyPost_ret (results_cell_row rfl _ _ w.heap.size 23 (rr.map (Value.int .u8)).toArray (0, 0) _ rfl (setRow_heap _ _ _ _ _ _ HR2.out) Tryz.underlying23 rfl (infoH rr hlen)) rfl ⟨by rw [Hrr.out], below_setRow HB2.out (Nat.le_refl _) _⟩
    · by_cases h1 : n = 1
      · subst h1
        obtain ⟨a, rfl⟩ : ∃ a, l = [a] := List.length_eq_one_iff.1 Hln.out
        have Hrr := Hid2.mk (rt_one a)
        obtain ⟨b, o, cap', hv, -, -, hb, -, h32, hrow⟩ := H0.out.at 0 (by simp)
        obtain ⟨rfl, rfl⟩ : sp = some ⟨b, o, none⟩ ∧ cap = cap' := by simpa using hv
        have e0 : [a].getD 0 [] = a := rfl
        have e1 : o + 0 * 32 = o := by omega
        rw [e0] at h32 hrow
        rw [e1] at hrow
        have Hrow := Hid2.mk hrow
        have Hi := Hid2.mk (show (Tryz.prog.info? 23).map (·.size) = some (a.map (Value.int .u8)).length by rw [infoHash, List.length_map, h32])
        clear hv hrow e0 e1
        go_enter Tryz.func29, Tryz.ntmps29
        go_wp2_with (first | (refine wpList_load_mid rfl 23 (.tmp 12) rfl b o rfl (a.map (Value.int .u8)) _ Hrow.out Tryz.underlying23 rfl Hi.out ?_) | (refine wpList_store_row rfl 23 (.tmp 2) (.tmp 13) rfl w.heap.size (a.map (Value.int .u8)).toArray rfl rfl 23 (Dig.Z32.map (Value.int .u8)).toArray HR.out (infoH a h32) (sizeH _ _ z32_len h32) (oneH _) ?_))
        refine bodyPost_ret (results_cell_row rfl _ _ w.heap.size 23 (a.map (Value.int .u8)).toArray (0, 0) _ rfl (setRow_heap _ _ _ _ _ _ HR.out) Tryz.underlying23 rfl (infoH a h32)) rfl ⟨by rw [Hrr.out], below_setRow HB.out (Nat.le_refl _) _⟩
      · have h2 : 2 ≤ n := by omega
        have g0 : ((n : Int) == 0) = false := by simp; omega
        have g1 : ((n : Int) == 1) = false := by simp; omega
        have hkl := half_lt h2
        have hkp := half_pos n
        have Hrt := Hid2.mk (show rt l = nodeP (rt (l.take (half n))) (rt (l.drop (half n))) by have := rt_two (l := l) (by rw [Hln.out]; exact h2); rw [Hln.out] at this; exact this)
        obtain ⟨b, o, cap', hv, -, -, hb, -, -, -⟩ := H0.out.at 0 (by rw [Hln.out]; omega)
        rw [Hln.out] at hv
        obtain ⟨rfl, rfl⟩ : sp = some ⟨b, o, none⟩ ∧ cap = cap' := by simpa using hv
        have Ht0 := Hid2.mk (H0.out.take (k := half n) (by rw [Hln.out]; omega))
        have Hd0 := Hid2.mk (H0.out.drop (k := half n) (by rw [Hln.out]; omega))
        have la := rt_len (okh_take hok (half n))
        have lb := rt_len (okh_drop hok (half n))
        have llt : (l.take (half n)).length = half n := by rw [List.length_take, Hln.out]; omega
        have lld : (l.drop (half n)).length = n - half n := by rw [List.length_drop, Hln.out]
        clear hv h0 h1
        go_enter Tryz.func29, Tryz.ntmps29
        go_wp2_with fail
        refine (refHalf_any n _ h2 hn).mono ?_
        rintro e w' ⟨rfl, rfl⟩
        generalize half n = k at hkl hkp Hrt Ht0 Hd0 la lb llt lld ⊢
        generalize l.take k = A at Hrt Ht0 la llt
        generalize l.drop k = B at Hrt Hd0 lb lld
        have hkc : (k : Int) ≤ cap := by omega
        have hck : ¬ cap = k := by omega
        have hkn : (k : Int) ≤ n := by omega
        have hLlt := Hid2.mk llt
        have hLld := Hid2.mk lld
        clear llt lld
        go_wp2_with fail
        generalize World.alloc _ _ = w1 at H0 HB HR Ht0 Hd0 ⊢
        have hS : True := trivial
        refine wp_region_till 8 (fun _ => True) (by kernel_rfl) ?_
        refine till_free (i := 0) rfl (by kernel_rfl) (by kernel_rfl) (by kernel_rfl) rfl (fun _ _ _ h => h) (.inr hS) (by rfl) (fun _ => by first | (go_simp; done) | (go_simp; with_reducible rfl)) ?_  -- move (tmp 0)
        refine till_free (i := 1) rfl (by kernel_rfl) (by kernel_rfl) (by kernel_rfl) rfl (fun _ _ _ h => h) (.inr hS) (by rfl) (fun _ => by first | (go_simp; done) | (go_simp; with_reducible rfl)) ?_  -- move (tmp 3)
        refine till_free (i := 2) rfl (by kernel_rfl) (by kernel_rfl) (by kernel_rfl) rfl (fun _ _ _ h => h) (.inr hS) (by rfl) (fun _ => by first | (go_simp; done) | (go_simp; with_reducible rfl)) ?_  -- slice 22 (tmp 17) none (some (tmp 18)) none
        refine till_free (i := 4) rfl (by kernel_rfl) (by kernel_rfl) (by kernel_rfl) rfl (fun _ _ _ h => h) (.inr hS) (by rfl) (fun _ => by first | (go_simp; done) | (go_simp; with_reducible rfl)) ?_  -- move (tmp 0)
        refine till_free (i := 5) rfl (by kernel_rfl) (by kernel_rfl) (by kernel_rfl) rfl (fun _ _ _ h => h) (.inr hS) (by rfl) (fun _ => by first | (go_simp; done) | (go_simp; with_reducible rfl)) ?_  -- move (tmp 3)
        refine till_free (i := 6) rfl (by kernel_rfl) (by kernel_rfl) (by kernel_rfl) rfl (fun _ _ _ h => h) (.inr hS) (by rfl) (fun _ => by first | (go_simp; done) | (go_simp; with_reducible rfl)) ?_  -- slice 22 (tmp 21) (some (tmp 22)) none none
        have hd1 : Below w1.heap.size w1 w1.drew := belowN (Below.refl w1.heap.size w1) 1
        have Ht1 := Hid2.mk (Ht0.out.below hd1 (Nat.le_refl _))
        have Hd1 := Hid2.mk (Hd0.out.below hd1 (Nat.le_refl _))
        have HBd := Hid2.mk (belowN HB.out 1)
        have HRd := Hid2.mk (HR.out.drewN 1)
        refine till_one (i := 3) (by kernel_rfl) rfl ?_; intro K hK
        go_simp
        refine (Hih.out k hkl hLlt.out Ht1.out (by omega)).mono ?_
        rintro e w2 ⟨rfl, hb2⟩
        have Hd2 := Hid2.mk (Hd1.out.below hb2 (Nat.le_refl _))
        have HB2 := Hid2.mk (HBd.out.trans (hb2.mono HBd.out.size))
        have HR2 := Hid2.mk (HRd.out.below hb2 HRd.out.lt)
        refine hK _ _ (.inr trivial) ?_
        clear hK K hb2 hd1
        refine till_one (i := 7) (by kernel_rfl) rfl ?_; intro K hK
        go_simp
        refine (Hih.out (n - k) (by omega) hLld.out Hd2.out (by omega)).mono ?_
        rintro e w3 ⟨rfl, hb3⟩
        have HB3 := Hid2.mk (HB2.out.trans (hb3.mono HB2.out.size))
        have HR3 := Hid2.mk (HR2.out.below hb3 HR2.out.lt)
        refine hK _ _ (.inr trivial) ?_
        clear hK K hb3
        generalize rt A = ra at Hrt la ⊢
        generalize rt B = rb at Hrt lb ⊢
        have hlen := nodeP_len ra rb
        refine till_one (i := 8) (by kernel_rfl) rfl ?_; intro K hK
        go_simp
        refine (refNode_a _ la lb).mono ?_
        rintro e w4 ⟨rfl, hb4⟩
        obtain ⟨rr, hrr⟩ : ∃ rr, rr = nodeP ra rb := ⟨_, rfl⟩
        have Hrr := Hid2.mk (show rt l = rr by rw [Hrt.out, hrr])
        rw [← hrr] at hlen ⊢
        have HB4 := Hid2.mk (HB3.out.trans (hb4.mono HB3.out.size))
        have HR4 := Hid2.mk (HR3.out.below hb4 HR3.out.lt)
        refine hK _ _ (.inl rfl) ?_
        clear hK K hb4 hrr Hrt
        refine till_one (i := 9) (by kernel_rfl) rfl ?_; intro K hK
        refine Dig.step_store_row rfl 23 (.tmp 2) (.tmp 25) rfl w.heap.size (rr.map (Value.int .u8)).toArray rfl rfl 23 (Dig.Z32.map (Value.int .u8)).toArray HR4.out (infoH rr hlen) (sizeH _ _ z32_len hlen) (oneH _) ?_
        refine hK _ _ (.inl rfl) ?_
        clear hK K
        refine till_done (by kernel_rfl) ?_ _
        go_wp2_with fail
        refine bodyPost_ret (results_cell_row rfl _ _ w.heap.size 23 (rr.map (Value.int .u8)).toArray (0, 0) _ rfl (setRow_heap _ _ _ _ _ _ HR4.out) Tryz.underlying23 rfl (infoH rr hlen)) rfl ⟨by rw [Hrr.out], below_setRow HB4.out (Nat.le_refl _) _⟩

end Mk
end Go.Proofs.YtlamdhekjlnccaaGreatDoor

/- The document's Leaf (chapter 2). -/
namespace Go.Proofs.YtlamdhekjlnccaaGreatDoor
open Go.RowKit
namespace K
theorem rleaf_any {w : World} {v : Value} {l : List Int} (hv : Sl .u8 w v l) (hn : l.length ≤ 17592186044416) :
    Calls Tryz.prog 43 #[v] w fun e w' => e = .returned (.agg (hashC (Dig.sumL (0 :: l))).toArray) ∧ Below w.heap.size w w' := by
  refine enter (args := [v]) Tryz.func43 rfl Tryz.ntmps43 rfl ?_
  refine kgo ?_
  refine WL.alloc (z := .agg (hashC Dig.Z32).toArray) rfl rfl rfl rfl (Dig.zero25) fun g w1 hf => ?_
  have hf' : Fresh w g w1 23 (hashC Dig.Z32) := hf
  clear hf
  have hz := hf'.size
  have he := hf'.eq
  refine kgo ?_
  refine WL.lit rfl rfl rfl rfl rfl rfl rfl fun b2 w2 hb2 hk2 hg2 => ?_
  have hw2 : Below w.heap.size w w2 := hf'.below.trans (hk2.mono (by omega))
  refine kgo ?_
  refine WL.app rfl rfl rfl rfl rfl hb2 rfl (hv.of_below hw2) (by simp only [List.length_cons, List.length_nil]; omega) fun b3 w3 hb3 hg3 => ?_
  have hk3 : Below w1.heap.size w1 w3 := hk2.trans (hg3.old hk2.size hg2)
  refine WL.call rfl rfl rfl rfl rfl Tryz.func39 rfl (by kernel_rfl) (Dig.refSum_s b3 _ w3 hb3.sl (by rw [List.length_append]; simp only [List.length_cons, List.length_nil]; omega)) ?_
  rintro _ w4 ⟨rfl, hk4⟩
  refine ⟨_, rfl, ?_⟩
  have hk4' : Below w1.heap.size w1 w4 := hk3.trans (hk4.mono hk3.size)
  have B4 := hf'.blk.below hk4' hf'.blk.lt
  have hlen : (hashC (Dig.sumL (0 :: l))).length = 32 := by rw [List.length_map]; exact Dig.sumL_length _
  refine WL.storeRow rfl rfl rfl rfl rfl rfl B4 hlen (by rfl) (Ones.int _ _) ?_
  refine kgo ?_
  exact WQ.retC rfl rfl rfl hlen (B4.setRow _) ⟨rfl, below_setRow (hf'.below.trans (hk4'.mono (by omega))) (by omega) _⟩
end K
end Go.Proofs.YtlamdhekjlnccaaGreatDoor

/- Blocks (chapter 11): the document's Leaves. -/
namespace Go.Proofs.YtlamdhekjlnccaaGreatDoor
open Go.RowKit
namespace K
theorem elemH : ElemV Tryz.prog 65 23 32 32 := ElemV.mk' (z := .agg (hashC Dig.Z32).toArray) Tryz.underlying65 (by kernel_rfl) rfl (by omega)
set_option maxHeartbeats 4000000 in
theorem rleaves_any {f : Nat} {w : World} {b : Bk} {cs : List Value} (h : IsB f w b cs) (hck : ∀ e ∈ b.ents, chkE e = 0) (hle : b.ents.length ≤ 200) :
    Calls Tryz.prog 30 #[.agg cs.toArray] w fun r w' => Below w.heap.size w w' ∧ ∃ v, r = .returned v ∧ Mk.HS w' (fun x => w.heap.size ≤ x) v (b.ents.map leafH) := by
  have hcl := h.len
  obtain ⟨se, rfl, hents, hpl, hpb, hr⟩ := h
  obtain ⟨sp, cap, rfl⟩ := hents.slice
  refine enter (args := [.agg (bkC b (.slice sp b.ents.length cap)).toArray]) Tryz.func30 rfl Tryz.ntmps30 rfl ?_
  refine kgo ?_
  refine WL.box rfl rfl rfl rfl rfl fun g w1 hf => ?_
  have hf' : Fresh w g w1 26 (bkC b (.slice sp b.ents.length cap)) := hf
  clear hf
  have hg := hf'.eq
  have hz1 := hf'.size
  have hw1 : Below w.heap.size w w1 := hf'.below
  have B1 : BkAt 26 g w1 b (.slice sp b.ents.length cap) := ⟨hf'.blk, hpl⟩
  clear hf'
  refine kgo ?_
  refine WC.loop (fun i : Nat × Value => [(1, .pointer (some ⟨g, 0, none⟩)), (3, i.2), (4, .int .i64 i.1)])
    (fun i wr => i.1 ≤ b.ents.length ∧ Below w1.heap.size w1 wr ∧ OwnV 23 32 wr (fun x => w1.heap.size ≤ x) i.2 i.1 (Mk.cellsH ((b.ents.take i.1).map leafH))) (fun i => b.ents.length - i.1) (0, .slice none 0 0)
    ⟨rfl, rfl, rfl, trivial⟩ ⟨Nat.zero_le _, Below.refl _ _, OwnV.nil _ _ _ _⟩ ?_
  rintro ⟨i, vk⟩ wr ⟨hi, hbr, hown⟩
  simp only at hi hbr hown ⊢
  have Br := B1.below hbr
  have hwr : Below w.heap.size w wr := hw1.trans (hbr.mono hw1.size)
  have hzr := hbr.size
  refine kgo ?_
  refine WL.load rfl rfl rfl rfl rfl rfl Br.ents ?_
  by_cases hik : i < b.ents.length
  · obtain ⟨kb, ko, cap', cs, hse, hkb, hc46, hce, hcr⟩ := hents.at hik
    injection hse with hse1 _ hse2
    subst hse1; subst hse2
    have hmem : b.ents.getD i noE ∈ b.ents := by simp [hik]
    have hce0 := hck _ hmem
    have hts := take_snoc b.ents noE hik
    generalize b.ents.getD i noE = e at hce hce0 hts
    obtain ⟨hform, -⟩ := chkE_ok hce0
    obtain ⟨-, -, -, -, htx, -⟩ := formE_rng hform
    have hh : e.hash.length = 32 := by obtain ⟨_, -, -, -, -, hl, -⟩ := hce; exact hl
    have hle := layE_len e hh
    refine kgo ?_
    refine WL.load rfl rfl rfl rfl rfl rfl Br.ents ?_
    refine kgo ?_
    refine WL.idx i (ko + i * 46) rfl rfl rfl rfl rfl rfl rfl rfl hik rfl ?_
    refine WL.loadMid rfl rfl rfl rfl rfl rfl (fun j u hu => (hwr.cell (p := ⟨kb, ko + i * 46 + j, none⟩) hkb).trans (hcr j u hu)) hc46 ?_
    refine WL.call rfl rfl rfl rfl rfl Tryz.func44 rfl (by kernel_rfl) (rBytes_any (IsE.below hwr hce) hform) ?_
    rintro _ w7 ⟨b7, rfl, hb7, hk7, ho7⟩
    refine ⟨_, rfl, ?_⟩
    refine WL.call rfl rfl rfl rfl rfl Tryz.func43 rfl (by kernel_rfl) (rleaf_any hb7.sl (by omega)) ?_
    rintro _ w8 ⟨rfl, hk8⟩
    refine ⟨_, rfl, ?_⟩
    have hlh : (hashC (leafH e)).length = 32 := by rw [List.length_map]; exact leafH_len e
    refine WL.lit1 (cs := hashC (leafH e)) rfl rfl rfl rfl rfl rfl rfl hlh ⟨by omega, by omega⟩ (by kernel_rfl) fun g9 w9 hf9 => ?_
    have hk79 : Below wr.heap.size wr w9 := (hk7.trans (hk8.mono hk7.size)).trans (hf9.below.mono (Nat.le_trans hk7.size hk8.size))
    have hown9 := hown.keep (Keep.of_below hk79) fun x hx => hown.lt hx
    have hsl := SlV.fresh1 hf9 (Ones.int _ _)
    rw [hlh] at hsl
    refine WL.appV rfl rfl rfl rfl elemH rfl hown9 rfl hsl (by omega) (by omega) fun v10 w10 ho10 hg10 => ?_
    have hbel10 : Below w1.heap.size w1 w10 := (hbr.trans (hk79.mono hzr)).trans (hg10.old (by have := hk79.size; omega) fun g hg => hown9.own hg)
    refine kgo ?_
    refine WQ.again (i + 1, v10) ⟨rfl, rfl, rfl, trivial⟩ ⟨hik, hbel10, ?_⟩ (by show b.ents.length - (i + 1) < b.ents.length - i; omega)
    show OwnV _ _ _ _ _ (i + 1) (Mk.cellsH ((b.ents.take (i + 1)).map leafH))
    have e1 : Mk.cellsH ((b.ents.take (i + 1)).map leafH) = Mk.cellsH ((b.ents.take i).map leafH) ++ hashC (leafH e) := by
      rw [hts, List.map_append, Mk.cellsH_app]
      simp [Mk.cellsH]
    rw [e1]
    exact ho10.mono fun x hx => by have := hk79.size; omega
  · obtain rfl : i = b.ents.length := by omega
    rw [List.take_length] at hown
    refine kgo ?_
    refine WQ.ret1 rfl rfl ⟨hwr, vk, rfl, okh_leaves b.ents, ?_⟩
    rw [List.length_map]
    exact hown.slV.mono fun x hx => by omega
end K
end Go.Proofs.YtlamdhekjlnccaaGreatDoor

/- The document's blocks (chapter 11): in, empty, bare, plain. -/
namespace Go.Proofs.YtlamdhekjlnccaaGreatDoor
open Go.RowKit
namespace K
theorem rin_any (n lo hi : Int) (w : World) : Calls Tryz.prog 34 #[.int .i64 n, .int .i64 lo, .int .i64 hi] w fun e w' => e = .returned (.bool (decide (lo ≤ n ∧ n ≤ hi))) ∧ w' = w := by
  refine enter (args := [.int .i64 n, .int .i64 lo, .int .i64 hi]) Tryz.func34 rfl Tryz.ntmps34 rfl ?_
  by_cases h1 : lo ≤ n
  · by_cases h2 : n ≤ hi
    · refine kgo ?_
      exact WQ.ret1 rfl rfl ⟨by rw [decide_eq_true ⟨h1, h2⟩], rfl⟩
    · refine kgo ?_
      exact WQ.ret1 rfl rfl ⟨by rw [decide_eq_false fun h => h2 h.2], rfl⟩
  · refine kgo ?_
    exact WQ.ret1 rfl rfl ⟨by rw [decide_eq_false fun h => h1 h.1], rfl⟩
theorem zV_isV (f : Nat) (w : World) : IsV (f + 1) w zV zCells := (zV_is (fun _ => True) f w).isV
theorem rempty_any {f : Nat} {w : World} {v : V} {cs : List Value} (h : IsV f w v cs) : Calls Tryz.prog 83 #[.agg cs.toArray] w (BoolIs (v = zV) w) := by
  have hcs := h.len
  refine enter (args := [.agg cs.toArray]) Tryz.func83 rfl Tryz.ntmps83 rfl ?_
  refine kgo ?_
  refine WL.box rfl rfl rfl rfl rfl fun g w1 hf => ?_
  have hf' : Fresh w g w1 41 cs := hf
  clear hf
  refine kgo ?_
  refine WL.loadMid rfl rfl rfl rfl rfl rfl (VBlk.rangeAt hf'.blk) hcs ?_
  refine WL.build zCells rfl rfl rfl rfl rfl (by kernel_rfl) ?_
  refine WL.call rfl rfl rfl rfl rfl Tryz.func75 rfl (by kernel_rfl) (equal_any f (h.below hf'.below) (zV_isV 0 w1)) ?_
  rintro _ w2 ⟨⟨b, rfl, hb⟩, hk2⟩
  refine ⟨_, rfl, ?_⟩
  refine kgo ?_
  exact WQ.ret1 rfl rfl ⟨⟨b, rfl, hb⟩, hf'.below.trans (hk2.mono hf'.below.size)⟩
theorem rbare_any {w : World} {e : En} {dc : List Value} (hd : dc.length = 6) (hh : e.hash.length = 32) :
    Calls Tryz.prog 84 #[.agg (enC e dc).toArray] w fun r w' => r = .returned (.agg (enC { e with data := zV } zCells).toArray) ∧ Below w.heap.size w w' := by
  refine enter (args := [.agg (enC e dc).toArray]) Tryz.func84 rfl Tryz.ntmps84 rfl ?_
  refine kgo ?_
  refine WL.box rfl rfl rfl rfl rfl fun g w1 hf => ?_
  have hf' : Fresh w g w1 45 (enC e dc) := hf
  clear hf
  refine WL.alloc (z := .agg (enC noE zCells).toArray) rfl rfl rfl rfl (fun _ => by kernel_rfl) fun c w2 hf2 => ?_
  have hf2' : Fresh w1 c w2 45 (enC noE zCells) := hf2
  clear hf2
  have he1 := hf'.eq
  have he2 := hf2'.eq
  have hz1 := hf'.size
  have hw2 : Below w.heap.size w w2 := hf'.below.trans (hf2'.below.mono hf'.below.size)
  have A : EnAt 45 g w2 e dc := ⟨hf'.blk.below hf2'.below hf'.blk.lt, hd, hh⟩
  have C := hf2'.blk
  clear hf' hf2'
  refine kgo ?_
  refine WL.build zCells rfl rfl rfl rfl rfl (by kernel_rfl) ?_
  refine kgo ?_
  refine WL.storeMid rfl rfl rfl rfl rfl rfl A.blk rfl (by rw [A.len]; omega) (zV_is (fun _ => True) 0 w2).one ?_
  have A3 := A.setData (m := zCells) (off := 0 + 5) zV rfl rfl
  have hw3 : Below w.heap.size w (w2.setRow g ((enC e dc).take (0 + 5) ++ zCells ++ (enC e dc).drop (0 + 5 + 6)).toArray) := Keep.below (Keep.setRow (Keep.of_below hw2) (fun hk => by omega) _)
  have C3 : VBlk 45 (w2.setRow g ((enC e dc).take (0 + 5) ++ zCells ++ (enC e dc).drop (0 + 5 + 6)).toArray) c (enC noE zCells) := C.setRow_other _ (by omega)
  generalize w2.setRow g ((enC e dc).take (0 + 5) ++ zCells ++ (enC e dc).drop (0 + 5 + 6)).toArray = w3 at A3 hw3 C3
  have h1' : Ones (enC { e with data := zV } zCells) := by
    intro u hu
    unfold enC at hu
    simp only [List.mem_cons, List.mem_append, List.not_mem_nil, or_false] at hu
    rcases hu with rfl | rfl | rfl | rfl | rfl | hu | hu | rfl | rfl | rfl
    all_goals first | rfl | exact (zV_is (fun _ => True) 0 w2).one u hu | exact Ones.int _ _ u hu
  refine kgo ?_
  refine WL.loadMid rfl rfl rfl rfl rfl rfl (VBlk.rangeAt A3.blk) A3.len ?_
  refine WL.storeRow rfl rfl rfl rfl rfl rfl C3 A3.len (by rfl) h1' ?_
  refine kgo ?_
  exact WQ.retC rfl rfl rfl A3.len (C3.setRow _) ⟨rfl, Keep.below (Keep.setRow (Keep.of_below hw3) (fun hk => by omega) _)⟩
/-- Has e nothing but the fields of x? -/
def plainP (e x : En) : Prop := e.kind = x.kind ∧ e.text = x.text ∧ e.table = x.table ∧ e.doc = x.doc ∧ e.ver = x.ver ∧ e.hash = x.hash ∧ e.gone = x.gone ∧ (e.ab = x.ab ∧ e.ae = x.ae) ∧ e.data = zV
set_option maxHeartbeats 4000000 in
theorem rplain_any {f f2 : Nat} {w : World} {e1 e2 : En} {c1 c2 : List Value} (h1 : IsE f w e1 c1) (h2 : IsE f2 w e2 c2) :
    Calls Tryz.prog 82 #[.agg c1.toArray, .agg c2.toArray] w (BoolIs (plainP e1 e2) w) := by
  obtain ⟨d1, rfl, hv1, hd1, -, hh1, -⟩ := h1
  obtain ⟨d2, rfl, hv2, hd2, -, hh2, -⟩ := h2
  refine enter (args := [.agg (enC e1 d1).toArray, .agg (enC e2 d2).toArray]) Tryz.func82 rfl Tryz.ntmps82 rfl ?_
  refine kgo ?_
  refine WL.box rfl rfl rfl rfl rfl fun g1 w1 hf1 => ?_
  have hf1' : Fresh w g1 w1 45 (enC e1 d1) := hf1
  clear hf1
  refine WL.box rfl rfl rfl rfl rfl fun g2 w2 hf2 => ?_
  have hf2' : Fresh w1 g2 w2 45 (enC e2 d2) := hf2
  clear hf2
  have hw : Below w.heap.size w w2 := hf1'.below.trans (hf2'.below.mono hf1'.below.size)
  have A1 : EnAt _ g1 w2 e1 d1 := ⟨hf1'.blk.below hf2'.below hf1'.blk.lt, hd1, hh1⟩
  have A2 : EnAt _ g2 w2 e2 d2 := ⟨hf2'.blk, hd2, hh2⟩
  clear hf1' hf2'
  have no : ¬ plainP e1 e2 → BoolIs (plainP e1 e2) w (.returned (.bool false)) w2 := fun h => BoolIs.no h hw
  refine kgo ?_
  refine WL.load rfl rfl rfl rfl rfl rfl A1.kind ?_
  refine kgo ?_
  refine WL.load rfl rfl rfl rfl rfl rfl A2.kind ?_
  by_cases q1 : e1.kind = e2.kind
  rotate_left
  · refine kgo ?_
    exact WQ.ret1 rfl rfl (no fun e => q1 e.1)
  refine kgo ?_
  refine WL.load rfl rfl rfl rfl rfl rfl A1.text ?_
  refine kgo ?_
  refine WL.load rfl rfl rfl rfl rfl rfl A2.text ?_
  by_cases q2 : e1.text = e2.text
  rotate_left
  · refine WL.on rfl rfl ?_
    refine WL.pureAs (.bool false) rfl rfl rfl rfl (by simp [bytes_ne q2]) ?_
    refine kgo ?_
    exact WQ.ret1 rfl rfl (no fun e => q2 e.2.1)
  refine WL.on rfl rfl ?_
  refine WL.pureAs (.bool true) rfl rfl rfl rfl (by simp [q2]) ?_
  refine kgo ?_
  refine WL.load rfl rfl rfl rfl rfl rfl A1.table ?_
  refine kgo ?_
  refine WL.load rfl rfl rfl rfl rfl rfl A2.table ?_
  by_cases q3 : e1.table = e2.table
  rotate_left
  · refine kgo ?_
    exact WQ.ret1 rfl rfl (no fun e => q3 e.2.2.1)
  refine kgo ?_
  refine WL.load rfl rfl rfl rfl rfl rfl A1.doc ?_
  refine kgo ?_
  refine WL.load rfl rfl rfl rfl rfl rfl A2.doc ?_
  by_cases q4 : e1.doc = e2.doc
  rotate_left
  · refine kgo ?_
    exact WQ.ret1 rfl rfl (no fun e => q4 e.2.2.2.1)
  refine kgo ?_
  refine WL.load rfl rfl rfl rfl rfl rfl A1.ver ?_
  refine kgo ?_
  refine WL.load rfl rfl rfl rfl rfl rfl A2.ver ?_
  by_cases q5 : e1.ver = e2.ver
  rotate_left
  · refine kgo ?_
    exact WQ.ret1 rfl rfl (no fun e => q5 e.2.2.2.2.1)
  refine kgo ?_
  refine WL.loadMid rfl rfl rfl rfl rfl rfl A1.hash (by simp [hh1]) ?_
  refine kgo ?_
  refine WL.loadMid rfl rfl rfl rfl rfl rfl A2.hash (by simp [hh2]) ?_
  refine WL.on rfl rfl ?_
  refine WL.eqlH rfl rfl rfl rfl rfl rfl hh1 hh2 ?_
  by_cases q6 : e1.hash = e2.hash
  rotate_left
  · refine WL.as 43 (.bool false) rfl (congrArg Value.bool (decide_eq_false q6)) ?_
    refine kgo ?_
    exact WQ.ret1 rfl rfl (no fun e => q6 e.2.2.2.2.2.1)
  refine WL.as 43 (.bool true) rfl (congrArg Value.bool (decide_eq_true q6)) ?_
  refine kgo ?_
  refine WL.load rfl rfl rfl rfl rfl rfl A1.gone ?_
  refine kgo ?_
  refine WL.load rfl rfl rfl rfl rfl rfl A2.gone ?_
  by_cases q7 : e1.gone = e2.gone
  rotate_left
  · cases b1 : e1.gone <;> cases b2 : e2.gone
    · exact absurd (b1.trans b2.symm) q7
    · refine kgo ?_
      exact WQ.ret1 rfl rfl (no fun e => q7 e.2.2.2.2.2.2.1)
    · refine kgo ?_
      exact WQ.ret1 rfl rfl (no fun e => q7 e.2.2.2.2.2.2.1)
    · exact absurd (b1.trans b2.symm) q7
  refine WL.on rfl rfl ?_
  refine WL.pureAs (.bool true) rfl rfl rfl rfl (by simp [q7]) ?_
  refine kgo ?_
  refine WL.loadMid rfl rfl rfl rfl rfl rfl A1.at' rfl ?_
  refine kgo ?_
  refine WL.loadMid rfl rfl rfl rfl rfl rfl A2.at' rfl ?_
  refine WL.on rfl rfl ?_
  refine WL.eqlA rfl rfl rfl rfl rfl rfl ?_
  by_cases q8 : e1.ab = e2.ab ∧ e1.ae = e2.ae
  rotate_left
  · refine WL.as 57 (.bool false) rfl (congrArg Value.bool (decide_eq_false q8)) ?_
    refine kgo ?_
    exact WQ.ret1 rfl rfl (no fun e => q8 e.2.2.2.2.2.2.2.1)
  refine WL.as 57 (.bool true) rfl (congrArg Value.bool (decide_eq_true q8)) ?_
  refine kgo ?_
  refine WL.loadMid rfl rfl rfl rfl rfl rfl A1.data hd1 ?_
  refine WL.on rfl rfl ?_
  refine WL.call rfl rfl rfl rfl rfl Tryz.func83 rfl (by kernel_rfl) (rempty_any (hv1.below hw)) ?_
  rintro _ w3 ⟨⟨b, rfl, hb⟩, hk3⟩
  refine ⟨_, rfl, ?_⟩
  refine kgo ?_
  exact WQ.ret1 rfl rfl (BoolIs.of (hw.trans (hk3.mono hw.size)) hb ⟨fun h => h.2.2.2.2.2.2.2.2, fun h => ⟨q1, q2, q3, q4, q5, q6, q7, q8, h⟩⟩)
end K
end Go.Proofs.YtlamdhekjlnccaaGreatDoor

/- The document's blocks (chapter 11): Form. -/
namespace Go.Proofs.YtlamdhekjlnccaaGreatDoor
open Go.RowKit
namespace K
theorem plain1 (e : En) : plainP e ⟨e.kind, e.text, 0, 0, 0, zV, Dig.Z32, false, 0, 0⟩ ↔ nilE { e with text := noT } := by
  unfold plainP nilE
  constructor
  · rintro ⟨a1, a2, a3, a4, a5, a6, a7, ⟨a8, a9⟩, a10⟩
    refine ⟨?_, ?_, ?_, ?_, ?_, ?_, ?_, ?_, ?_⟩ <;> first | rfl | assumption | exact (congrArg ByteArray.size a2)
  · rintro ⟨b1, b2, b3, b4, b5, b6, b7, b8, b9⟩
    refine ⟨?_, ?_, ?_, ?_, ?_, ?_, ?_, ⟨?_, ?_⟩, ?_⟩ <;> first | rfl | assumption | exact noT_of b1
theorem plain2 (e : En) : plainP { e with data := zV } ⟨e.kind, noT, e.table, e.doc, e.ver, zV, e.hash, e.gone, 0, 0⟩ ↔ nilE { e with data := zV, hash := Dig.Z32, gone := false, table := 0, doc := 0, ver := 0 } := by
  unfold plainP nilE
  constructor
  · rintro ⟨a1, a2, a3, a4, a5, a6, a7, ⟨a8, a9⟩, a10⟩
    refine ⟨?_, ?_, ?_, ?_, ?_, ?_, ?_, ?_, ?_⟩ <;> first | rfl | assumption | exact (congrArg ByteArray.size a2)
  · rintro ⟨b1, b2, b3, b4, b5, b6, b7, b8, b9⟩
    refine ⟨?_, ?_, ?_, ?_, ?_, ?_, ?_, ⟨?_, ?_⟩, ?_⟩ <;> first | rfl | assumption | exact noT_of b1
theorem plain3 (e : En) : plainP e ⟨e.kind, noT, e.table, e.doc, e.ver, zV, Dig.Z32, false, 0, 0⟩ ↔ nilE { e with table := 0, doc := 0, ver := 0 } := by
  unfold plainP nilE
  constructor
  · rintro ⟨a1, a2, a3, a4, a5, a6, a7, ⟨a8, a9⟩, a10⟩
    refine ⟨?_, ?_, ?_, ?_, ?_, ?_, ?_, ?_, ?_⟩ <;> first | rfl | assumption | exact (congrArg ByteArray.size a2)
  · rintro ⟨b1, b2, b3, b4, b5, b6, b7, b8, b9⟩
    refine ⟨?_, ?_, ?_, ?_, ?_, ?_, ?_, ⟨?_, ?_⟩, ?_⟩ <;> first | rfl | assumption | exact noT_of b1
theorem plain4 (e : En) : plainP e ⟨e.kind, noT, 0, 0, 0, zV, Dig.Z32, false, e.ab, e.ae⟩ ↔ nilE { e with ab := 0, ae := 0 } := by
  unfold plainP nilE
  constructor
  · rintro ⟨a1, a2, a3, a4, a5, a6, a7, ⟨a8, a9⟩, a10⟩
    refine ⟨?_, ?_, ?_, ?_, ?_, ?_, ?_, ?_, ?_⟩ <;> first | rfl | assumption | exact (congrArg ByteArray.size a2)
  · rintro ⟨b1, b2, b3, b4, b5, b6, b7, b8, b9⟩
    refine ⟨?_, ?_, ?_, ?_, ?_, ?_, ?_, ⟨?_, ?_⟩, ?_⟩ <;> first | rfl | assumption | exact noT_of b1
theorem plain5 (e : En) : plainP e ⟨e.kind, e.text, e.table, 0, 0, zV, Dig.Z32, false, 0, 0⟩ ↔ nilE { e with table := 0, text := noT } := by
  unfold plainP nilE
  constructor
  · rintro ⟨a1, a2, a3, a4, a5, a6, a7, ⟨a8, a9⟩, a10⟩
    refine ⟨?_, ?_, ?_, ?_, ?_, ?_, ?_, ?_, ?_⟩ <;> first | rfl | assumption | exact (congrArg ByteArray.size a2)
  · rintro ⟨b1, b2, b3, b4, b5, b6, b7, b8, b9⟩
    refine ⟨?_, ?_, ?_, ?_, ?_, ?_, ?_, ⟨?_, ?_⟩, ?_⟩ <;> first | rfl | assumption | exact noT_of b1
theorem plain6 (e : En) : plainP e ⟨e.kind, noT, e.table, 0, 0, zV, Dig.Z32, false, 0, 0⟩ ↔ nilE { e with table := 0 } := by
  unfold plainP nilE
  constructor
  · rintro ⟨a1, a2, a3, a4, a5, a6, a7, ⟨a8, a9⟩, a10⟩
    refine ⟨?_, ?_, ?_, ?_, ?_, ?_, ?_, ?_, ?_⟩ <;> first | rfl | assumption | exact (congrArg ByteArray.size a2)
  · rintro ⟨b1, b2, b3, b4, b5, b6, b7, b8, b9⟩
    refine ⟨?_, ?_, ?_, ?_, ?_, ?_, ?_, ⟨?_, ?_⟩, ?_⟩ <;> first | rfl | assumption | exact noT_of b1
theorem hash_nth {h : List Int} (hh : h.length = 32) : h = (List.range 32).map (nth h) := by
  apply List.ext_getElem (by simp [hh])
  intro i h1 h2
  simp [nth, h1]
theorem built2q (k ta d v : Int) (q : Nat → Int) (g : Bool) : Tryz.prog.built 45 [(0, .int .i64 k), (2, .int .i64 ta), (3, .int .i64 d), (4, .int .i64 v), (6, .agg (hashC ((List.range 32).map q)).toArray), (7, .bool g)] = some (enC ⟨k, noT, ta, d, v, zV, (List.range 32).map q, g, 0, 0⟩ zCells).toArray := by kernel_rfl
theorem built2 (k ta d v : Int) {h : List Int} (hh : h.length = 32) (g : Bool) : Tryz.prog.built 45 [(0, .int .i64 k), (2, .int .i64 ta), (3, .int .i64 d), (4, .int .i64 v), (6, .agg (hashC h).toArray), (7, .bool g)] = some (enC ⟨k, noT, ta, d, v, zV, h, g, 0, 0⟩ zCells).toArray := by
  have := built2q k ta d v (nth h) g
  rw [← hash_nth hh] at this
  exact this
theorem isE_z {w : World} {e : En} (h : e.data = zV) (hl : e.hash.length = 32) (hb : Byt e.hash) (ht : e.text.size ≤ 140737488355328) (r : R64 e.kind ∧ R64 e.table ∧ R64 e.doc ∧ R64 e.ver ∧ R64 e.ab ∧ R64 e.ae) : IsE 1 w e (enC e zCells) :=
  ⟨zCells, rfl, by rw [h]; exact zV_isV 0 w, rfl, (zV_is (fun _ => True) 0 w).one, hl, hb, ht, r⟩
theorem r64_0 : R64 0 := by show -9223372036854775808 ≤ (0 : Int) ∧ (0 : Int) ≤ 9223372036854775807; omega
set_option maxRecDepth 100000 in
set_option maxHeartbeats 8000000 in
theorem rform_any {f : Nat} {w : World} {e : En} {cs : List Value} (h : IsE f w e cs) : Calls Tryz.prog 61 #[.agg cs.toArray] w (BoolIs (formE e) w) := by
  obtain ⟨dc, rfl, hv, hdl, hone, hh, hby, htx, hk, hta, hdo, hve, hab, hae⟩ := h
  have hall : EnP (IsV f w) e (enC e dc) := ⟨dc, rfl, hv, hdl, hone, hh, hby, htx, hk, hta, hdo, hve, hab, hae⟩
  have hzl : Dig.Z32.length = 32 := rfl
  have hzb : Byt Dig.Z32 := z32_byt
  have hnt : noT.size ≤ 140737488355328 := by decide
  refine enter (args := [.agg (enC e dc).toArray]) Tryz.func61 rfl Tryz.ntmps61 rfl ?_
  refine kgo ?_
  refine WL.box rfl rfl rfl rfl rfl fun g w1 hf => ?_
  have hf' : Fresh w g w1 45 (enC e dc) := hf
  clear hf
  have B1 : EnAt 45 g w1 e dc := ⟨hf'.blk, hdl, hh⟩
  have hw1 := hf'.below
  clear hf'
  refine kgo ?_
  refine WL.load rfl rfl rfl rfl rfl rfl B1.text ?_
  refine kgo ?_
  refine WL.call rfl rfl rfl rfl rfl Tryz.func34 rfl (by kernel_rfl) (rin_any _ _ _ _) ?_
  rintro _ w1 ⟨rfl, rfl⟩
  refine ⟨_, rfl, ?_⟩
  refine kgo ?_
  refine WL.load rfl rfl rfl rfl rfl rfl B1.table ?_
  refine WL.call rfl rfl rfl rfl rfl Tryz.func34 rfl (by kernel_rfl) (rin_any _ _ _ _) ?_
  rintro _ w1 ⟨rfl, rfl⟩
  refine ⟨_, rfl, ?_⟩
  refine kgo ?_
  refine WL.load rfl rfl rfl rfl rfl rfl B1.doc ?_
  refine WL.call rfl rfl rfl rfl rfl Tryz.func34 rfl (by kernel_rfl) (rin_any _ _ _ _) ?_
  rintro _ w1 ⟨rfl, rfl⟩
  refine ⟨_, rfl, ?_⟩
  refine kgo ?_
  refine WL.load rfl rfl rfl rfl rfl rfl B1.kind ?_
  by_cases k1 : e.kind = 1
  · have hform : formE e ↔ (1 ≤ e.text.size ∧ e.text.size ≤ 4096) ∧ nilE { e with text := noT } := by unfold formE; rw [if_pos k1]; exact ⟨fun h => ⟨⟨h.1, h.2.1⟩, h.2.2⟩, fun h => ⟨h.1.1, h.1.2, h.2⟩⟩
    refine kgo ?_
    refine WL.load rfl rfl rfl rfl rfl rfl B1.text ?_
    refine kgo ?_
    refine WL.call rfl rfl rfl rfl rfl Tryz.func34 rfl (by kernel_rfl) (rin_any _ _ _ _) ?_
    rintro _ w1 ⟨rfl, rfl⟩
    refine ⟨_, rfl, ?_⟩
    by_cases ht : (1 : Int) ≤ (e.text.size : Int) ∧ (e.text.size : Int) ≤ 4096
    rotate_left
    · refine kgo ?_
      exact WQ.ret1 rfl rfl (BoolIs.no (fun h => ht (by have := (hform.1 h).1; omega)) hw1)
    refine kgo ?_
    refine WL.loadMid rfl rfl rfl rfl rfl rfl (VBlk.rangeAt B1.blk) B1.len ?_
    refine kgo ?_
    refine WL.load rfl rfl rfl rfl rfl rfl B1.kind ?_
    refine kgo ?_
    refine WL.load rfl rfl rfl rfl rfl rfl B1.text ?_
    refine WL.on rfl rfl ?_
    refine WL.build (enC ⟨e.kind, e.text, 0, 0, 0, zV, Dig.Z32, false, 0, 0⟩ zCells) rfl rfl rfl rfl rfl (by kernel_rfl) ?_
    refine WL.on rfl rfl ?_
    refine WL.call rfl rfl rfl rfl rfl Tryz.func82 rfl (by kernel_rfl) (rplain_any (IsE.below hw1 hall) (isE_z (e := ⟨e.kind, e.text, 0, 0, 0, zV, Dig.Z32, false, 0, 0⟩) rfl hzl hzb (by first | exact htx | exact hnt) ⟨hk, by first | exact hta | exact r64_0, by first | exact hdo | exact r64_0, by first | exact hve | exact r64_0, by first | exact hab | exact r64_0, by first | exact hae | exact r64_0⟩)) ?_
    rintro _ w5 ⟨⟨b, rfl, hb⟩, hk5⟩
    refine ⟨_, rfl, ?_⟩
    refine kgo ?_
    exact WQ.ret1 rfl rfl (BoolIs.of (hw1.trans (hk5.mono hw1.size)) (hb.trans (plain1 e)) (hform.trans ⟨fun h => h.2, fun h => ⟨by omega, h⟩⟩))
  by_cases k2 : e.kind = 2
  · have hform : formE e ↔ (1 ≤ e.table ∧ e.table ≤ 64) ∧ (1 ≤ e.doc ∧ e.doc ≤ 65536) ∧ (0 ≤ e.ver ∧ e.ver ≤ 2147483648) ∧ nilE { e with data := zV, hash := Dig.Z32, gone := false, table := 0, doc := 0, ver := 0 } ∧ (e.gone = true → e.data = zV) := by unfold formE; rw [if_neg k1, if_pos k2]
    refine kgo ?_
    refine WL.mid (fun b : Bool => [(1, .pointer (some ⟨g, 0, none⟩)), (4, .bool (decide (1 ≤ e.table ∧ e.table ≤ 64))), (5, .bool (decide (1 ≤ e.doc ∧ e.doc ≤ 65536))), (42, .bool b)]) (fun b wx => (b = true ↔ e.gone = true ∧ ¬ e.data = zV) ∧ EnAt 45 g wx e dc ∧ Below w.heap.size w wx) rfl ?_ ?_
    · refine WL.load rfl rfl rfl rfl rfl rfl B1.gone ?_
      cases hgo : e.gone with
      | false =>
        refine kgo ?_
        exact WQ.meet false ⟨rfl, rfl, rfl, rfl, trivial⟩ ⟨by simp, B1, hw1⟩
      | true =>
        refine kgo ?_
        refine WL.loadMid rfl rfl rfl rfl rfl rfl B1.data hdl ?_
        refine WL.on rfl rfl ?_
        refine WL.call rfl rfl rfl rfl rfl Tryz.func83 rfl (by kernel_rfl) (rempty_any (hv.below hw1)) ?_
        rintro _ w2 ⟨⟨b, rfl, hb⟩, hk2⟩
        refine ⟨_, rfl, ?_⟩
        cases b with
        | true =>
          refine kgo ?_
          exact WQ.meet false ⟨rfl, rfl, rfl, rfl, trivial⟩ ⟨by simp [hb.1 rfl], B1.below hk2, hw1.trans (hk2.mono hw1.size)⟩
        | false =>
          refine kgo ?_
          exact WQ.meet true ⟨rfl, rfl, rfl, rfl, trivial⟩ ⟨by simp; exact fun h => (by have := hb.2 h; cases this), B1.below hk2, hw1.trans (hk2.mono hw1.size)⟩
    rintro b w2 ⟨hb0, B2, hw2⟩
    cases b with
    | true =>
      refine kgo ?_
      exact WQ.ret1 rfl rfl (BoolIs.no (fun h => (hb0.1 rfl).2 ((hform.1 h).2.2.2.2 (hb0.1 rfl).1)) hw2)
    | false =>
      have hgd : e.gone = true → e.data = zV := fun h => Classical.byContradiction fun h2 => by have := hb0.2 ⟨h, h2⟩; cases this
      refine kgo ?_
      refine WC.drawn 25 (fun wx => EnAt 45 g wx e dc) fun w3 hd => ?_
      have hS : EnAt 45 g w3 e dc := B2.below (hd.below _)
      have hw3 : Below w.heap.size w w3 := hw2.trans ((hd.below w2.heap.size).mono hw2.size)
      by_cases c1 : 1 ≤ e.table ∧ e.table ≤ 64
      rotate_left
      · (((first | refine WD.free 0 rfl (by kernel_rfl) rfl rfl (fun _ _ _ _ _ h => h) rfl rfl (.inr hS) ?_ | refine WD.skip 0 rfl (by kernel_rfl) rfl rfl (fun _ _ _ _ _ h => h) rfl (.inr hS) ?_); try (first | ((with_reducible refine WD.topT ?_ ?_); omega) | ((with_reducible refine WD.topF ?_ ?_); omega) | ((with_reducible refine WD.top64 ?_ ?_); omega))); ((first | refine WD.free 1 rfl (by kernel_rfl) rfl rfl (fun _ _ _ _ _ h => h) rfl rfl (.inr hS) ?_ | refine WD.skip 1 rfl (by kernel_rfl) rfl rfl (fun _ _ _ _ _ h => h) rfl (.inr hS) ?_); try (first | ((with_reducible refine WD.topT ?_ ?_); omega) | ((with_reducible refine WD.topF ?_ ?_); omega) | ((with_reducible refine WD.top64 ?_ ?_); omega))); ((first | refine WD.free 2 rfl (by kernel_rfl) rfl rfl (fun _ _ _ _ _ h => h) rfl rfl (.inr hS) ?_ | refine WD.skip 2 rfl (by kernel_rfl) rfl rfl (fun _ _ _ _ _ h => h) rfl (.inr hS) ?_); try (first | ((with_reducible refine WD.topT ?_ ?_); omega) | ((with_reducible refine WD.topF ?_ ?_); omega) | ((with_reducible refine WD.top64 ?_ ?_); omega))); ((first | refine WD.free 3 rfl (by kernel_rfl) rfl rfl (fun _ _ _ _ _ h => h) rfl rfl (.inr hS) ?_ | refine WD.skip 3 rfl (by kernel_rfl) rfl rfl (fun _ _ _ _ _ h => h) rfl (.inr hS) ?_); try (first | ((with_reducible refine WD.topT ?_ ?_); omega) | ((with_reducible refine WD.topF ?_ ?_); omega) | ((with_reducible refine WD.top64 ?_ ?_); omega))); ((first | refine WD.free 4 rfl (by kernel_rfl) rfl rfl (fun _ _ _ _ _ h => h) rfl rfl (.inr hS) ?_ | refine WD.skip 4 rfl (by kernel_rfl) rfl rfl (fun _ _ _ _ _ h => h) rfl (.inr hS) ?_); try (first | ((with_reducible refine WD.topT ?_ ?_); omega) | ((with_reducible refine WD.topF ?_ ?_); omega) | ((with_reducible refine WD.top64 ?_ ?_); omega))); ((first | refine WD.free 5 rfl (by kernel_rfl) rfl rfl (fun _ _ _ _ _ h => h) rfl rfl (.inr hS) ?_ | refine WD.skip 5 rfl (by kernel_rfl) rfl rfl (fun _ _ _ _ _ h => h) rfl (.inr hS) ?_); try (first | ((with_reducible refine WD.topT ?_ ?_); omega) | ((with_reducible refine WD.topF ?_ ?_); omega) | ((with_reducible refine WD.top64 ?_ ?_); omega))); ((first | refine WD.free 6 rfl (by kernel_rfl) rfl rfl (fun _ _ _ _ _ h => h) rfl rfl (.inr hS) ?_ | refine WD.skip 6 rfl (by kernel_rfl) rfl rfl (fun _ _ _ _ _ h => h) rfl (.inr hS) ?_); try (first | ((with_reducible refine WD.topT ?_ ?_); omega) | ((with_reducible refine WD.topF ?_ ?_); omega) | ((with_reducible refine WD.top64 ?_ ?_); omega))); ((first | refine WD.free 7 rfl (by kernel_rfl) rfl rfl (fun _ _ _ _ _ h => h) rfl rfl (.inr hS) ?_ | refine WD.skip 7 rfl (by kernel_rfl) rfl rfl (fun _ _ _ _ _ h => h) rfl (.inr hS) ?_); try (first | ((with_reducible refine WD.topT ?_ ?_); omega) | ((with_reducible refine WD.topF ?_ ?_); omega) | ((with_reducible refine WD.top64 ?_ ?_); omega))); ((first | refine WD.free 8 rfl (by kernel_rfl) rfl rfl (fun _ _ _ _ _ h => h) rfl rfl (.inr hS) ?_ | refine WD.skip 8 rfl (by kernel_rfl) rfl rfl (fun _ _ _ _ _ h => h) rfl (.inr hS) ?_); try (first | ((with_reducible refine WD.topT ?_ ?_); omega) | ((with_reducible refine WD.topF ?_ ?_); omega) | ((with_reducible refine WD.top64 ?_ ?_); omega))); ((first | refine WD.free 9 rfl (by kernel_rfl) rfl rfl (fun _ _ _ _ _ h => h) rfl rfl (.inr hS) ?_ | refine WD.skip 9 rfl (by kernel_rfl) rfl rfl (fun _ _ _ _ _ h => h) rfl (.inr hS) ?_); try (first | ((with_reducible refine WD.topT ?_ ?_); omega) | ((with_reducible refine WD.topF ?_ ?_); omega) | ((with_reducible refine WD.top64 ?_ ?_); omega))); ((first | refine WD.free 10 rfl (by kernel_rfl) rfl rfl (fun _ _ _ _ _ h => h) rfl rfl (.inr hS) ?_ | refine WD.skip 10 rfl (by kernel_rfl) rfl rfl (fun _ _ _ _ _ h => h) rfl (.inr hS) ?_); try (first | ((with_reducible refine WD.topT ?_ ?_); omega) | ((with_reducible refine WD.topF ?_ ?_); omega) | ((with_reducible refine WD.top64 ?_ ?_); omega))); ((first | refine WD.free 11 rfl (by kernel_rfl) rfl rfl (fun _ _ _ _ _ h => h) rfl rfl (.inr hS) ?_ | refine WD.skip 11 rfl (by kernel_rfl) rfl rfl (fun _ _ _ _ _ h => h) rfl (.inr hS) ?_); try (first | ((with_reducible refine WD.topT ?_ ?_); omega) | ((with_reducible refine WD.topF ?_ ?_); omega) | ((with_reducible refine WD.top64 ?_ ?_); omega))); ((first | refine WD.free 12 rfl (by kernel_rfl) rfl rfl (fun _ _ _ _ _ h => h) rfl rfl (.inr hS) ?_ | refine WD.skip 12 rfl (by kernel_rfl) rfl rfl (fun _ _ _ _ _ h => h) rfl (.inr hS) ?_); try (first | ((with_reducible refine WD.topT ?_ ?_); omega) | ((with_reducible refine WD.topF ?_ ?_); omega) | ((with_reducible refine WD.top64 ?_ ?_); omega))); ((first | refine WD.free 13 rfl (by kernel_rfl) rfl rfl (fun _ _ _ _ _ h => h) rfl rfl (.inr hS) ?_ | refine WD.skip 13 rfl (by kernel_rfl) rfl rfl (fun _ _ _ _ _ h => h) rfl (.inr hS) ?_); try (first | ((with_reducible refine WD.topT ?_ ?_); omega) | ((with_reducible refine WD.topF ?_ ?_); omega) | ((with_reducible refine WD.top64 ?_ ?_); omega))); ((first | refine WD.free 14 rfl (by kernel_rfl) rfl rfl (fun _ _ _ _ _ h => h) rfl rfl (.inr hS) ?_ | refine WD.skip 14 rfl (by kernel_rfl) rfl rfl (fun _ _ _ _ _ h => h) rfl (.inr hS) ?_); try (first | ((with_reducible refine WD.topT ?_ ?_); omega) | ((with_reducible refine WD.topF ?_ ?_); omega) | ((with_reducible refine WD.top64 ?_ ?_); omega))); ((first | refine WD.free 15 rfl (by kernel_rfl) rfl rfl (fun _ _ _ _ _ h => h) rfl rfl (.inr hS) ?_ | refine WD.skip 15 rfl (by kernel_rfl) rfl rfl (fun _ _ _ _ _ h => h) rfl (.inr hS) ?_); try (first | ((with_reducible refine WD.topT ?_ ?_); omega) | ((with_reducible refine WD.topF ?_ ?_); omega) | ((with_reducible refine WD.top64 ?_ ?_); omega))); ((first | refine WD.free 16 rfl (by kernel_rfl) rfl rfl (fun _ _ _ _ _ h => h) rfl rfl (.inr hS) ?_ | refine WD.skip 16 rfl (by kernel_rfl) rfl rfl (fun _ _ _ _ _ h => h) rfl (.inr hS) ?_); try (first | ((with_reducible refine WD.topT ?_ ?_); omega) | ((with_reducible refine WD.topF ?_ ?_); omega) | ((with_reducible refine WD.top64 ?_ ?_); omega))); ((first | refine WD.free 17 rfl (by kernel_rfl) rfl rfl (fun _ _ _ _ _ h => h) rfl rfl (.inr hS) ?_ | refine WD.skip 17 rfl (by kernel_rfl) rfl rfl (fun _ _ _ _ _ h => h) rfl (.inr hS) ?_); try (first | ((with_reducible refine WD.topT ?_ ?_); omega) | ((with_reducible refine WD.topF ?_ ?_); omega) | ((with_reducible refine WD.top64 ?_ ?_); omega))); ((first | refine WD.free 18 rfl (by kernel_rfl) rfl rfl (fun _ _ _ _ _ h => h) rfl rfl (.inr hS) ?_ | refine WD.skip 18 rfl (by kernel_rfl) rfl rfl (fun _ _ _ _ _ h => h) rfl (.inr hS) ?_); try (first | ((with_reducible refine WD.topT ?_ ?_); omega) | ((with_reducible refine WD.topF ?_ ?_); omega) | ((with_reducible refine WD.top64 ?_ ?_); omega))); ((first | refine WD.free 19 rfl (by kernel_rfl) rfl rfl (fun _ _ _ _ _ h => h) rfl rfl (.inr hS) ?_ | refine WD.skip 19 rfl (by kernel_rfl) rfl rfl (fun _ _ _ _ _ h => h) rfl (.inr hS) ?_); try (first | ((with_reducible refine WD.topT ?_ ?_); omega) | ((with_reducible refine WD.topF ?_ ?_); omega) | ((with_reducible refine WD.top64 ?_ ?_); omega))); ((first | refine WD.free 20 rfl (by kernel_rfl) rfl rfl (fun _ _ _ _ _ h => h) rfl rfl (.inr hS) ?_ | refine WD.skip 20 rfl (by kernel_rfl) rfl rfl (fun _ _ _ _ _ h => h) rfl (.inr hS) ?_); try (first | ((with_reducible refine WD.topT ?_ ?_); omega) | ((with_reducible refine WD.topF ?_ ?_); omega) | ((with_reducible refine WD.top64 ?_ ?_); omega))); ((first | refine WD.free 21 rfl (by kernel_rfl) rfl rfl (fun _ _ _ _ _ h => h) rfl rfl (.inr hS) ?_ | refine WD.skip 21 rfl (by kernel_rfl) rfl rfl (fun _ _ _ _ _ h => h) rfl (.inr hS) ?_); try (first | ((with_reducible refine WD.topT ?_ ?_); omega) | ((with_reducible refine WD.topF ?_ ?_); omega) | ((with_reducible refine WD.top64 ?_ ?_); omega))); ((first | refine WD.free 22 rfl (by kernel_rfl) rfl rfl (fun _ _ _ _ _ h => h) rfl rfl (.inr hS) ?_ | refine WD.skip 22 rfl (by kernel_rfl) rfl rfl (fun _ _ _ _ _ h => h) rfl (.inr hS) ?_); try (first | ((with_reducible refine WD.topT ?_ ?_); omega) | ((with_reducible refine WD.topF ?_ ?_); omega) | ((with_reducible refine WD.top64 ?_ ?_); omega))); ((first | refine WD.free 23 rfl (by kernel_rfl) rfl rfl (fun _ _ _ _ _ h => h) rfl rfl (.inr hS) ?_ | refine WD.skip 23 rfl (by kernel_rfl) rfl rfl (fun _ _ _ _ _ h => h) rfl (.inr hS) ?_); try (first | ((with_reducible refine WD.topT ?_ ?_); omega) | ((with_reducible refine WD.topF ?_ ?_); omega) | ((with_reducible refine WD.top64 ?_ ?_); omega))); ((first | refine WD.free 24 rfl (by kernel_rfl) rfl rfl (fun _ _ _ _ _ h => h) rfl rfl (.inr hS) ?_ | refine WD.skip 24 rfl (by kernel_rfl) rfl rfl (fun _ _ _ _ _ h => h) rfl (.inr hS) ?_); try (first | ((with_reducible refine WD.topT ?_ ?_); omega) | ((with_reducible refine WD.topF ?_ ?_); omega) | ((with_reducible refine WD.top64 ?_ ?_); omega))))
        refine WD.one 25 (by kernel_rfl) rfl ?_
        refine WL.off rfl rfl rfl ?_
        refine WL.nil (WQ.dk (.inl rfl) ?_)
        (((first | refine WD.free 26 rfl (by kernel_rfl) rfl rfl (fun _ _ _ _ _ h => h) rfl rfl (.inl rfl) ?_ | refine WD.skip 26 rfl (by kernel_rfl) rfl rfl (fun _ _ _ _ _ h => h) rfl (.inl rfl) ?_); try (first | ((with_reducible refine WD.topT ?_ ?_); omega) | ((with_reducible refine WD.topF ?_ ?_); omega) | ((with_reducible refine WD.top64 ?_ ?_); omega))))
        refine WD.one 27 (by kernel_rfl) rfl ?_
        refine WL.pure rfl rfl rfl rfl ?_
        refine WL.nil (WQ.dk (.inl rfl) ?_)
        refine WD.done (by kernel_rfl) ?_
        refine kgo ?_
        exact WQ.ret1 rfl rfl (BoolIs.no (fun h => c1 (hform.1 h).1) hw3)
      by_cases c2 : 1 ≤ e.doc ∧ e.doc ≤ 65536
      rotate_left
      · (((first | refine WD.free 0 rfl (by kernel_rfl) rfl rfl (fun _ _ _ _ _ h => h) rfl rfl (.inr hS) ?_ | refine WD.skip 0 rfl (by kernel_rfl) rfl rfl (fun _ _ _ _ _ h => h) rfl (.inr hS) ?_); try (first | ((with_reducible refine WD.topT ?_ ?_); omega) | ((with_reducible refine WD.topF ?_ ?_); omega) | ((with_reducible refine WD.top64 ?_ ?_); omega))); ((first | refine WD.free 1 rfl (by kernel_rfl) rfl rfl (fun _ _ _ _ _ h => h) rfl rfl (.inr hS) ?_ | refine WD.skip 1 rfl (by kernel_rfl) rfl rfl (fun _ _ _ _ _ h => h) rfl (.inr hS) ?_); try (first | ((with_reducible refine WD.topT ?_ ?_); omega) | ((with_reducible refine WD.topF ?_ ?_); omega) | ((with_reducible refine WD.top64 ?_ ?_); omega))); ((first | refine WD.free 2 rfl (by kernel_rfl) rfl rfl (fun _ _ _ _ _ h => h) rfl rfl (.inr hS) ?_ | refine WD.skip 2 rfl (by kernel_rfl) rfl rfl (fun _ _ _ _ _ h => h) rfl (.inr hS) ?_); try (first | ((with_reducible refine WD.topT ?_ ?_); omega) | ((with_reducible refine WD.topF ?_ ?_); omega) | ((with_reducible refine WD.top64 ?_ ?_); omega))); ((first | refine WD.free 3 rfl (by kernel_rfl) rfl rfl (fun _ _ _ _ _ h => h) rfl rfl (.inr hS) ?_ | refine WD.skip 3 rfl (by kernel_rfl) rfl rfl (fun _ _ _ _ _ h => h) rfl (.inr hS) ?_); try (first | ((with_reducible refine WD.topT ?_ ?_); omega) | ((with_reducible refine WD.topF ?_ ?_); omega) | ((with_reducible refine WD.top64 ?_ ?_); omega))); ((first | refine WD.free 4 rfl (by kernel_rfl) rfl rfl (fun _ _ _ _ _ h => h) rfl rfl (.inr hS) ?_ | refine WD.skip 4 rfl (by kernel_rfl) rfl rfl (fun _ _ _ _ _ h => h) rfl (.inr hS) ?_); try (first | ((with_reducible refine WD.topT ?_ ?_); omega) | ((with_reducible refine WD.topF ?_ ?_); omega) | ((with_reducible refine WD.top64 ?_ ?_); omega))); ((first | refine WD.free 5 rfl (by kernel_rfl) rfl rfl (fun _ _ _ _ _ h => h) rfl rfl (.inr hS) ?_ | refine WD.skip 5 rfl (by kernel_rfl) rfl rfl (fun _ _ _ _ _ h => h) rfl (.inr hS) ?_); try (first | ((with_reducible refine WD.topT ?_ ?_); omega) | ((with_reducible refine WD.topF ?_ ?_); omega) | ((with_reducible refine WD.top64 ?_ ?_); omega))); ((first | refine WD.free 6 rfl (by kernel_rfl) rfl rfl (fun _ _ _ _ _ h => h) rfl rfl (.inr hS) ?_ | refine WD.skip 6 rfl (by kernel_rfl) rfl rfl (fun _ _ _ _ _ h => h) rfl (.inr hS) ?_); try (first | ((with_reducible refine WD.topT ?_ ?_); omega) | ((with_reducible refine WD.topF ?_ ?_); omega) | ((with_reducible refine WD.top64 ?_ ?_); omega))); ((first | refine WD.free 7 rfl (by kernel_rfl) rfl rfl (fun _ _ _ _ _ h => h) rfl rfl (.inr hS) ?_ | refine WD.skip 7 rfl (by kernel_rfl) rfl rfl (fun _ _ _ _ _ h => h) rfl (.inr hS) ?_); try (first | ((with_reducible refine WD.topT ?_ ?_); omega) | ((with_reducible refine WD.topF ?_ ?_); omega) | ((with_reducible refine WD.top64 ?_ ?_); omega))); ((first | refine WD.free 8 rfl (by kernel_rfl) rfl rfl (fun _ _ _ _ _ h => h) rfl rfl (.inr hS) ?_ | refine WD.skip 8 rfl (by kernel_rfl) rfl rfl (fun _ _ _ _ _ h => h) rfl (.inr hS) ?_); try (first | ((with_reducible refine WD.topT ?_ ?_); omega) | ((with_reducible refine WD.topF ?_ ?_); omega) | ((with_reducible refine WD.top64 ?_ ?_); omega))); ((first | refine WD.free 9 rfl (by kernel_rfl) rfl rfl (fun _ _ _ _ _ h => h) rfl rfl (.inr hS) ?_ | refine WD.skip 9 rfl (by kernel_rfl) rfl rfl (fun _ _ _ _ _ h => h) rfl (.inr hS) ?_); try (first | ((with_reducible refine WD.topT ?_ ?_); omega) | ((with_reducible refine WD.topF ?_ ?_); omega) | ((with_reducible refine WD.top64 ?_ ?_); omega))); ((first | refine WD.free 10 rfl (by kernel_rfl) rfl rfl (fun _ _ _ _ _ h => h) rfl rfl (.inr hS) ?_ | refine WD.skip 10 rfl (by kernel_rfl) rfl rfl (fun _ _ _ _ _ h => h) rfl (.inr hS) ?_); try (first | ((with_reducible refine WD.topT ?_ ?_); omega) | ((with_reducible refine WD.topF ?_ ?_); omega) | ((with_reducible refine WD.top64 ?_ ?_); omega))); ((first | refine WD.free 11 rfl (by kernel_rfl) rfl rfl (fun _ _ _ _ _ h => h) rfl rfl (.inr hS) ?_ | refine WD.skip 11 rfl (by kernel_rfl) rfl rfl (fun _ _ _ _ _ h => h) rfl (.inr hS) ?_); try (first | ((with_reducible refine WD.topT ?_ ?_); omega) | ((with_reducible refine WD.topF ?_ ?_); omega) | ((with_reducible refine WD.top64 ?_ ?_); omega))); ((first | refine WD.free 12 rfl (by kernel_rfl) rfl rfl (fun _ _ _ _ _ h => h) rfl rfl (.inr hS) ?_ | refine WD.skip 12 rfl (by kernel_rfl) rfl rfl (fun _ _ _ _ _ h => h) rfl (.inr hS) ?_); try (first | ((with_reducible refine WD.topT ?_ ?_); omega) | ((with_reducible refine WD.topF ?_ ?_); omega) | ((with_reducible refine WD.top64 ?_ ?_); omega))); ((first | refine WD.free 13 rfl (by kernel_rfl) rfl rfl (fun _ _ _ _ _ h => h) rfl rfl (.inr hS) ?_ | refine WD.skip 13 rfl (by kernel_rfl) rfl rfl (fun _ _ _ _ _ h => h) rfl (.inr hS) ?_); try (first | ((with_reducible refine WD.topT ?_ ?_); omega) | ((with_reducible refine WD.topF ?_ ?_); omega) | ((with_reducible refine WD.top64 ?_ ?_); omega))); ((first | refine WD.free 14 rfl (by kernel_rfl) rfl rfl (fun _ _ _ _ _ h => h) rfl rfl (.inr hS) ?_ | refine WD.skip 14 rfl (by kernel_rfl) rfl rfl (fun _ _ _ _ _ h => h) rfl (.inr hS) ?_); try (first | ((with_reducible refine WD.topT ?_ ?_); omega) | ((with_reducible refine WD.topF ?_ ?_); omega) | ((with_reducible refine WD.top64 ?_ ?_); omega))); ((first | refine WD.free 15 rfl (by kernel_rfl) rfl rfl (fun _ _ _ _ _ h => h) rfl rfl (.inr hS) ?_ | refine WD.skip 15 rfl (by kernel_rfl) rfl rfl (fun _ _ _ _ _ h => h) rfl (.inr hS) ?_); try (first | ((with_reducible refine WD.topT ?_ ?_); omega) | ((with_reducible refine WD.topF ?_ ?_); omega) | ((with_reducible refine WD.top64 ?_ ?_); omega))); ((first | refine WD.free 16 rfl (by kernel_rfl) rfl rfl (fun _ _ _ _ _ h => h) rfl rfl (.inr hS) ?_ | refine WD.skip 16 rfl (by kernel_rfl) rfl rfl (fun _ _ _ _ _ h => h) rfl (.inr hS) ?_); try (first | ((with_reducible refine WD.topT ?_ ?_); omega) | ((with_reducible refine WD.topF ?_ ?_); omega) | ((with_reducible refine WD.top64 ?_ ?_); omega))); ((first | refine WD.free 17 rfl (by kernel_rfl) rfl rfl (fun _ _ _ _ _ h => h) rfl rfl (.inr hS) ?_ | refine WD.skip 17 rfl (by kernel_rfl) rfl rfl (fun _ _ _ _ _ h => h) rfl (.inr hS) ?_); try (first | ((with_reducible refine WD.topT ?_ ?_); omega) | ((with_reducible refine WD.topF ?_ ?_); omega) | ((with_reducible refine WD.top64 ?_ ?_); omega))); ((first | refine WD.free 18 rfl (by kernel_rfl) rfl rfl (fun _ _ _ _ _ h => h) rfl rfl (.inr hS) ?_ | refine WD.skip 18 rfl (by kernel_rfl) rfl rfl (fun _ _ _ _ _ h => h) rfl (.inr hS) ?_); try (first | ((with_reducible refine WD.topT ?_ ?_); omega) | ((with_reducible refine WD.topF ?_ ?_); omega) | ((with_reducible refine WD.top64 ?_ ?_); omega))); ((first | refine WD.free 19 rfl (by kernel_rfl) rfl rfl (fun _ _ _ _ _ h => h) rfl rfl (.inr hS) ?_ | refine WD.skip 19 rfl (by kernel_rfl) rfl rfl (fun _ _ _ _ _ h => h) rfl (.inr hS) ?_); try (first | ((with_reducible refine WD.topT ?_ ?_); omega) | ((with_reducible refine WD.topF ?_ ?_); omega) | ((with_reducible refine WD.top64 ?_ ?_); omega))); ((first | refine WD.free 20 rfl (by kernel_rfl) rfl rfl (fun _ _ _ _ _ h => h) rfl rfl (.inr hS) ?_ | refine WD.skip 20 rfl (by kernel_rfl) rfl rfl (fun _ _ _ _ _ h => h) rfl (.inr hS) ?_); try (first | ((with_reducible refine WD.topT ?_ ?_); omega) | ((with_reducible refine WD.topF ?_ ?_); omega) | ((with_reducible refine WD.top64 ?_ ?_); omega))); ((first | refine WD.free 21 rfl (by kernel_rfl) rfl rfl (fun _ _ _ _ _ h => h) rfl rfl (.inr hS) ?_ | refine WD.skip 21 rfl (by kernel_rfl) rfl rfl (fun _ _ _ _ _ h => h) rfl (.inr hS) ?_); try (first | ((with_reducible refine WD.topT ?_ ?_); omega) | ((with_reducible refine WD.topF ?_ ?_); omega) | ((with_reducible refine WD.top64 ?_ ?_); omega))); ((first | refine WD.free 22 rfl (by kernel_rfl) rfl rfl (fun _ _ _ _ _ h => h) rfl rfl (.inr hS) ?_ | refine WD.skip 22 rfl (by kernel_rfl) rfl rfl (fun _ _ _ _ _ h => h) rfl (.inr hS) ?_); try (first | ((with_reducible refine WD.topT ?_ ?_); omega) | ((with_reducible refine WD.topF ?_ ?_); omega) | ((with_reducible refine WD.top64 ?_ ?_); omega))); ((first | refine WD.free 23 rfl (by kernel_rfl) rfl rfl (fun _ _ _ _ _ h => h) rfl rfl (.inr hS) ?_ | refine WD.skip 23 rfl (by kernel_rfl) rfl rfl (fun _ _ _ _ _ h => h) rfl (.inr hS) ?_); try (first | ((with_reducible refine WD.topT ?_ ?_); omega) | ((with_reducible refine WD.topF ?_ ?_); omega) | ((with_reducible refine WD.top64 ?_ ?_); omega))); ((first | refine WD.free 24 rfl (by kernel_rfl) rfl rfl (fun _ _ _ _ _ h => h) rfl rfl (.inr hS) ?_ | refine WD.skip 24 rfl (by kernel_rfl) rfl rfl (fun _ _ _ _ _ h => h) rfl (.inr hS) ?_); try (first | ((with_reducible refine WD.topT ?_ ?_); omega) | ((with_reducible refine WD.topF ?_ ?_); omega) | ((with_reducible refine WD.top64 ?_ ?_); omega))))
        refine WD.one 25 (by kernel_rfl) rfl ?_
        refine WL.off rfl rfl rfl ?_
        refine WL.nil (WQ.dk (.inl rfl) ?_)
        (((first | refine WD.free 26 rfl (by kernel_rfl) rfl rfl (fun _ _ _ _ _ h => h) rfl rfl (.inl rfl) ?_ | refine WD.skip 26 rfl (by kernel_rfl) rfl rfl (fun _ _ _ _ _ h => h) rfl (.inl rfl) ?_); try (first | ((with_reducible refine WD.topT ?_ ?_); omega) | ((with_reducible refine WD.topF ?_ ?_); omega) | ((with_reducible refine WD.top64 ?_ ?_); omega))))
        refine WD.one 27 (by kernel_rfl) rfl ?_
        refine WL.pure rfl rfl rfl rfl ?_
        refine WL.nil (WQ.dk (.inl rfl) ?_)
        refine WD.done (by kernel_rfl) ?_
        refine kgo ?_
        exact WQ.ret1 rfl rfl (BoolIs.no (fun h => c2 (hform.1 h).2.1) hw3)
      (((first | refine WD.free 0 rfl (by kernel_rfl) rfl rfl (fun _ _ _ _ _ h => h) rfl rfl (.inr hS) ?_ | refine WD.skip 0 rfl (by kernel_rfl) rfl rfl (fun _ _ _ _ _ h => h) rfl (.inr hS) ?_); try (first | ((with_reducible refine WD.topT ?_ ?_); omega) | ((with_reducible refine WD.topF ?_ ?_); omega) | ((with_reducible refine WD.top64 ?_ ?_); omega))); ((first | refine WD.free 1 rfl (by kernel_rfl) rfl rfl (fun _ _ _ _ _ h => h) rfl rfl (.inr hS) ?_ | refine WD.skip 1 rfl (by kernel_rfl) rfl rfl (fun _ _ _ _ _ h => h) rfl (.inr hS) ?_); try (first | ((with_reducible refine WD.topT ?_ ?_); omega) | ((with_reducible refine WD.topF ?_ ?_); omega) | ((with_reducible refine WD.top64 ?_ ?_); omega))); ((first | refine WD.free 2 rfl (by kernel_rfl) rfl rfl (fun _ _ _ _ _ h => h) rfl rfl (.inr hS) ?_ | refine WD.skip 2 rfl (by kernel_rfl) rfl rfl (fun _ _ _ _ _ h => h) rfl (.inr hS) ?_); try (first | ((with_reducible refine WD.topT ?_ ?_); omega) | ((with_reducible refine WD.topF ?_ ?_); omega) | ((with_reducible refine WD.top64 ?_ ?_); omega))); ((first | refine WD.free 3 rfl (by kernel_rfl) rfl rfl (fun _ _ _ _ _ h => h) rfl rfl (.inr hS) ?_ | refine WD.skip 3 rfl (by kernel_rfl) rfl rfl (fun _ _ _ _ _ h => h) rfl (.inr hS) ?_); try (first | ((with_reducible refine WD.topT ?_ ?_); omega) | ((with_reducible refine WD.topF ?_ ?_); omega) | ((with_reducible refine WD.top64 ?_ ?_); omega))); ((first | refine WD.free 4 rfl (by kernel_rfl) rfl rfl (fun _ _ _ _ _ h => h) rfl rfl (.inr hS) ?_ | refine WD.skip 4 rfl (by kernel_rfl) rfl rfl (fun _ _ _ _ _ h => h) rfl (.inr hS) ?_); try (first | ((with_reducible refine WD.topT ?_ ?_); omega) | ((with_reducible refine WD.topF ?_ ?_); omega) | ((with_reducible refine WD.top64 ?_ ?_); omega))); ((first | refine WD.free 5 rfl (by kernel_rfl) rfl rfl (fun _ _ _ _ _ h => h) rfl rfl (.inr hS) ?_ | refine WD.skip 5 rfl (by kernel_rfl) rfl rfl (fun _ _ _ _ _ h => h) rfl (.inr hS) ?_); try (first | ((with_reducible refine WD.topT ?_ ?_); omega) | ((with_reducible refine WD.topF ?_ ?_); omega) | ((with_reducible refine WD.top64 ?_ ?_); omega))))
      refine WD.load 6 [7, 8, 9, 10, 11, 12, 13, 14, 15, 16, 17, 18, 19, 20, 21, 22, 23, 24, 25, 26, 27] rfl (by kernel_rfl) rfl rfl (fun _ _ _ _ _ h => h) rfl rfl rfl rfl (fun wx hx => hx.ver) hS ?_
      refine WD.one 7 (by kernel_rfl) rfl ?_
      refine WL.on rfl rfl ?_
      refine WL.call rfl rfl rfl rfl rfl Tryz.func34 rfl (by kernel_rfl) (rin_any _ _ _ _) ?_
      rintro _ w3 ⟨rfl, rfl⟩
      refine ⟨_, rfl, ?_⟩
      refine WL.nil (WQ.dk (.inr hS) ?_)
      by_cases c3 : 0 ≤ e.ver ∧ e.ver ≤ 2147483648
      rotate_left
      · (((first | refine WD.free 8 rfl (by kernel_rfl) rfl rfl (fun _ _ _ _ _ h => h) rfl rfl (.inr hS) ?_ | refine WD.skip 8 rfl (by kernel_rfl) rfl rfl (fun _ _ _ _ _ h => h) rfl (.inr hS) ?_); try (first | ((with_reducible refine WD.topT ?_ ?_); omega) | ((with_reducible refine WD.topF ?_ ?_); omega) | ((with_reducible refine WD.top64 ?_ ?_); omega))); ((first | refine WD.free 9 rfl (by kernel_rfl) rfl rfl (fun _ _ _ _ _ h => h) rfl rfl (.inr hS) ?_ | refine WD.skip 9 rfl (by kernel_rfl) rfl rfl (fun _ _ _ _ _ h => h) rfl (.inr hS) ?_); try (first | ((with_reducible refine WD.topT ?_ ?_); omega) | ((with_reducible refine WD.topF ?_ ?_); omega) | ((with_reducible refine WD.top64 ?_ ?_); omega))); ((first | refine WD.free 10 rfl (by kernel_rfl) rfl rfl (fun _ _ _ _ _ h => h) rfl rfl (.inr hS) ?_ | refine WD.skip 10 rfl (by kernel_rfl) rfl rfl (fun _ _ _ _ _ h => h) rfl (.inr hS) ?_); try (first | ((with_reducible refine WD.topT ?_ ?_); omega) | ((with_reducible refine WD.topF ?_ ?_); omega) | ((with_reducible refine WD.top64 ?_ ?_); omega))); ((first | refine WD.free 11 rfl (by kernel_rfl) rfl rfl (fun _ _ _ _ _ h => h) rfl rfl (.inr hS) ?_ | refine WD.skip 11 rfl (by kernel_rfl) rfl rfl (fun _ _ _ _ _ h => h) rfl (.inr hS) ?_); try (first | ((with_reducible refine WD.topT ?_ ?_); omega) | ((with_reducible refine WD.topF ?_ ?_); omega) | ((with_reducible refine WD.top64 ?_ ?_); omega))); ((first | refine WD.free 12 rfl (by kernel_rfl) rfl rfl (fun _ _ _ _ _ h => h) rfl rfl (.inr hS) ?_ | refine WD.skip 12 rfl (by kernel_rfl) rfl rfl (fun _ _ _ _ _ h => h) rfl (.inr hS) ?_); try (first | ((with_reducible refine WD.topT ?_ ?_); omega) | ((with_reducible refine WD.topF ?_ ?_); omega) | ((with_reducible refine WD.top64 ?_ ?_); omega))); ((first | refine WD.free 13 rfl (by kernel_rfl) rfl rfl (fun _ _ _ _ _ h => h) rfl rfl (.inr hS) ?_ | refine WD.skip 13 rfl (by kernel_rfl) rfl rfl (fun _ _ _ _ _ h => h) rfl (.inr hS) ?_); try (first | ((with_reducible refine WD.topT ?_ ?_); omega) | ((with_reducible refine WD.topF ?_ ?_); omega) | ((with_reducible refine WD.top64 ?_ ?_); omega))); ((first | refine WD.free 14 rfl (by kernel_rfl) rfl rfl (fun _ _ _ _ _ h => h) rfl rfl (.inr hS) ?_ | refine WD.skip 14 rfl (by kernel_rfl) rfl rfl (fun _ _ _ _ _ h => h) rfl (.inr hS) ?_); try (first | ((with_reducible refine WD.topT ?_ ?_); omega) | ((with_reducible refine WD.topF ?_ ?_); omega) | ((with_reducible refine WD.top64 ?_ ?_); omega))); ((first | refine WD.free 15 rfl (by kernel_rfl) rfl rfl (fun _ _ _ _ _ h => h) rfl rfl (.inr hS) ?_ | refine WD.skip 15 rfl (by kernel_rfl) rfl rfl (fun _ _ _ _ _ h => h) rfl (.inr hS) ?_); try (first | ((with_reducible refine WD.topT ?_ ?_); omega) | ((with_reducible refine WD.topF ?_ ?_); omega) | ((with_reducible refine WD.top64 ?_ ?_); omega))); ((first | refine WD.free 16 rfl (by kernel_rfl) rfl rfl (fun _ _ _ _ _ h => h) rfl rfl (.inr hS) ?_ | refine WD.skip 16 rfl (by kernel_rfl) rfl rfl (fun _ _ _ _ _ h => h) rfl (.inr hS) ?_); try (first | ((with_reducible refine WD.topT ?_ ?_); omega) | ((with_reducible refine WD.topF ?_ ?_); omega) | ((with_reducible refine WD.top64 ?_ ?_); omega))); ((first | refine WD.free 17 rfl (by kernel_rfl) rfl rfl (fun _ _ _ _ _ h => h) rfl rfl (.inr hS) ?_ | refine WD.skip 17 rfl (by kernel_rfl) rfl rfl (fun _ _ _ _ _ h => h) rfl (.inr hS) ?_); try (first | ((with_reducible refine WD.topT ?_ ?_); omega) | ((with_reducible refine WD.topF ?_ ?_); omega) | ((with_reducible refine WD.top64 ?_ ?_); omega))); ((first | refine WD.free 18 rfl (by kernel_rfl) rfl rfl (fun _ _ _ _ _ h => h) rfl rfl (.inr hS) ?_ | refine WD.skip 18 rfl (by kernel_rfl) rfl rfl (fun _ _ _ _ _ h => h) rfl (.inr hS) ?_); try (first | ((with_reducible refine WD.topT ?_ ?_); omega) | ((with_reducible refine WD.topF ?_ ?_); omega) | ((with_reducible refine WD.top64 ?_ ?_); omega))); ((first | refine WD.free 19 rfl (by kernel_rfl) rfl rfl (fun _ _ _ _ _ h => h) rfl rfl (.inr hS) ?_ | refine WD.skip 19 rfl (by kernel_rfl) rfl rfl (fun _ _ _ _ _ h => h) rfl (.inr hS) ?_); try (first | ((with_reducible refine WD.topT ?_ ?_); omega) | ((with_reducible refine WD.topF ?_ ?_); omega) | ((with_reducible refine WD.top64 ?_ ?_); omega))); ((first | refine WD.free 20 rfl (by kernel_rfl) rfl rfl (fun _ _ _ _ _ h => h) rfl rfl (.inr hS) ?_ | refine WD.skip 20 rfl (by kernel_rfl) rfl rfl (fun _ _ _ _ _ h => h) rfl (.inr hS) ?_); try (first | ((with_reducible refine WD.topT ?_ ?_); omega) | ((with_reducible refine WD.topF ?_ ?_); omega) | ((with_reducible refine WD.top64 ?_ ?_); omega))); ((first | refine WD.free 21 rfl (by kernel_rfl) rfl rfl (fun _ _ _ _ _ h => h) rfl rfl (.inr hS) ?_ | refine WD.skip 21 rfl (by kernel_rfl) rfl rfl (fun _ _ _ _ _ h => h) rfl (.inr hS) ?_); try (first | ((with_reducible refine WD.topT ?_ ?_); omega) | ((with_reducible refine WD.topF ?_ ?_); omega) | ((with_reducible refine WD.top64 ?_ ?_); omega))); ((first | refine WD.free 22 rfl (by kernel_rfl) rfl rfl (fun _ _ _ _ _ h => h) rfl rfl (.inr hS) ?_ | refine WD.skip 22 rfl (by kernel_rfl) rfl rfl (fun _ _ _ _ _ h => h) rfl (.inr hS) ?_); try (first | ((with_reducible refine WD.topT ?_ ?_); omega) | ((with_reducible refine WD.topF ?_ ?_); omega) | ((with_reducible refine WD.top64 ?_ ?_); omega))); ((first | refine WD.free 23 rfl (by kernel_rfl) rfl rfl (fun _ _ _ _ _ h => h) rfl rfl (.inr hS) ?_ | refine WD.skip 23 rfl (by kernel_rfl) rfl rfl (fun _ _ _ _ _ h => h) rfl (.inr hS) ?_); try (first | ((with_reducible refine WD.topT ?_ ?_); omega) | ((with_reducible refine WD.topF ?_ ?_); omega) | ((with_reducible refine WD.top64 ?_ ?_); omega))); ((first | refine WD.free 24 rfl (by kernel_rfl) rfl rfl (fun _ _ _ _ _ h => h) rfl rfl (.inr hS) ?_ | refine WD.skip 24 rfl (by kernel_rfl) rfl rfl (fun _ _ _ _ _ h => h) rfl (.inr hS) ?_); try (first | ((with_reducible refine WD.topT ?_ ?_); omega) | ((with_reducible refine WD.topF ?_ ?_); omega) | ((with_reducible refine WD.top64 ?_ ?_); omega))))
        refine WD.one 25 (by kernel_rfl) rfl ?_
        refine WL.off rfl rfl rfl ?_
        refine WL.nil (WQ.dk (.inl rfl) ?_)
        (((first | refine WD.free 26 rfl (by kernel_rfl) rfl rfl (fun _ _ _ _ _ h => h) rfl rfl (.inl rfl) ?_ | refine WD.skip 26 rfl (by kernel_rfl) rfl rfl (fun _ _ _ _ _ h => h) rfl (.inl rfl) ?_); try (first | ((with_reducible refine WD.topT ?_ ?_); omega) | ((with_reducible refine WD.topF ?_ ?_); omega) | ((with_reducible refine WD.top64 ?_ ?_); omega))))
        refine WD.one 27 (by kernel_rfl) rfl ?_
        refine WL.pure rfl rfl rfl rfl ?_
        refine WL.nil (WQ.dk (.inl rfl) ?_)
        refine WD.done (by kernel_rfl) ?_
        refine kgo ?_
        exact WQ.ret1 rfl rfl (BoolIs.no (fun h => c3 (hform.1 h).2.2.1) hw3)
      (((first | refine WD.free 8 rfl (by kernel_rfl) rfl rfl (fun _ _ _ _ _ h => h) rfl rfl (.inr hS) ?_ | refine WD.skip 8 rfl (by kernel_rfl) rfl rfl (fun _ _ _ _ _ h => h) rfl (.inr hS) ?_); try (first | ((with_reducible refine WD.topT ?_ ?_); omega) | ((with_reducible refine WD.topF ?_ ?_); omega) | ((with_reducible refine WD.top64 ?_ ?_); omega))); ((first | refine WD.free 9 rfl (by kernel_rfl) rfl rfl (fun _ _ _ _ _ h => h) rfl rfl (.inr hS) ?_ | refine WD.skip 9 rfl (by kernel_rfl) rfl rfl (fun _ _ _ _ _ h => h) rfl (.inr hS) ?_); try (first | ((with_reducible refine WD.topT ?_ ?_); omega) | ((with_reducible refine WD.topF ?_ ?_); omega) | ((with_reducible refine WD.top64 ?_ ?_); omega))))
      refine WD.loadMid 10 [11, 25, 26, 27] rfl (by kernel_rfl) rfl rfl (fun _ _ _ _ _ h => h) rfl rfl rfl rfl (fun wx hx => VBlk.rangeAt hx.blk) B2.len hS ?_
      (((first | refine WD.free 12 rfl (by kernel_rfl) rfl rfl (fun _ _ _ _ _ h => h) rfl rfl (.inr hS) ?_ | refine WD.skip 12 rfl (by kernel_rfl) rfl rfl (fun _ _ _ _ _ h => h) rfl (.inr hS) ?_); try (first | ((with_reducible refine WD.topT ?_ ?_); omega) | ((with_reducible refine WD.topF ?_ ?_); omega) | ((with_reducible refine WD.top64 ?_ ?_); omega))))
      refine WD.load 13 [24, 25, 26, 27] rfl (by kernel_rfl) rfl rfl (fun _ _ _ _ _ h => h) rfl rfl rfl rfl (fun wx hx => hx.kind) hS ?_
      (((first | refine WD.free 14 rfl (by kernel_rfl) rfl rfl (fun _ _ _ _ _ h => h) rfl rfl (.inr hS) ?_ | refine WD.skip 14 rfl (by kernel_rfl) rfl rfl (fun _ _ _ _ _ h => h) rfl (.inr hS) ?_); try (first | ((with_reducible refine WD.topT ?_ ?_); omega) | ((with_reducible refine WD.topF ?_ ?_); omega) | ((with_reducible refine WD.top64 ?_ ?_); omega))))
      refine WD.load 15 [24, 25, 26, 27] rfl (by kernel_rfl) rfl rfl (fun _ _ _ _ _ h => h) rfl rfl rfl rfl (fun wx hx => hx.table) hS ?_
      (((first | refine WD.free 16 rfl (by kernel_rfl) rfl rfl (fun _ _ _ _ _ h => h) rfl rfl (.inr hS) ?_ | refine WD.skip 16 rfl (by kernel_rfl) rfl rfl (fun _ _ _ _ _ h => h) rfl (.inr hS) ?_); try (first | ((with_reducible refine WD.topT ?_ ?_); omega) | ((with_reducible refine WD.topF ?_ ?_); omega) | ((with_reducible refine WD.top64 ?_ ?_); omega))))
      refine WD.load 17 [24, 25, 26, 27] rfl (by kernel_rfl) rfl rfl (fun _ _ _ _ _ h => h) rfl rfl rfl rfl (fun wx hx => hx.doc) hS ?_
      (((first | refine WD.free 18 rfl (by kernel_rfl) rfl rfl (fun _ _ _ _ _ h => h) rfl rfl (.inr hS) ?_ | refine WD.skip 18 rfl (by kernel_rfl) rfl rfl (fun _ _ _ _ _ h => h) rfl (.inr hS) ?_); try (first | ((with_reducible refine WD.topT ?_ ?_); omega) | ((with_reducible refine WD.topF ?_ ?_); omega) | ((with_reducible refine WD.top64 ?_ ?_); omega))))
      refine WD.load 19 [24, 25, 26, 27] rfl (by kernel_rfl) rfl rfl (fun _ _ _ _ _ h => h) rfl rfl rfl rfl (fun wx hx => hx.ver) hS ?_
      (((first | refine WD.free 20 rfl (by kernel_rfl) rfl rfl (fun _ _ _ _ _ h => h) rfl rfl (.inr hS) ?_ | refine WD.skip 20 rfl (by kernel_rfl) rfl rfl (fun _ _ _ _ _ h => h) rfl (.inr hS) ?_); try (first | ((with_reducible refine WD.topT ?_ ?_); omega) | ((with_reducible refine WD.topF ?_ ?_); omega) | ((with_reducible refine WD.top64 ?_ ?_); omega))))
      refine WD.loadMid 21 [24, 25, 26, 27] rfl (by kernel_rfl) rfl rfl (fun _ _ _ _ _ h => h) rfl rfl rfl rfl (fun wx hx => hx.hash) (by rw [List.length_map]; exact hh) hS ?_
      (((first | refine WD.free 22 rfl (by kernel_rfl) rfl rfl (fun _ _ _ _ _ h => h) rfl rfl (.inr hS) ?_ | refine WD.skip 22 rfl (by kernel_rfl) rfl rfl (fun _ _ _ _ _ h => h) rfl (.inr hS) ?_); try (first | ((with_reducible refine WD.topT ?_ ?_); omega) | ((with_reducible refine WD.topF ?_ ?_); omega) | ((with_reducible refine WD.top64 ?_ ?_); omega))))
      refine WD.load 23 [24, 25, 26, 27] rfl (by kernel_rfl) rfl rfl (fun _ _ _ _ _ h => h) rfl rfl rfl rfl (fun wx hx => hx.gone) hS ?_
      refine WD.build (enC ⟨e.kind, noT, e.table, e.doc, e.ver, zV, e.hash, e.gone, 0, 0⟩ zCells) 24 rfl (by kernel_rfl) rfl rfl (fun _ _ _ _ _ h => h) rfl rfl rfl (built2 _ _ _ _ hh _) (.inr hS) ?_
      refine WD.one 11 (by kernel_rfl) rfl ?_
      refine WL.on rfl rfl ?_
      refine WL.call rfl rfl rfl rfl rfl Tryz.func84 rfl (by kernel_rfl) (rbare_any hdl hh) ?_
      rintro _ w4 ⟨rfl, hk4⟩
      refine ⟨_, rfl, ?_⟩
      have hw4 : Below w.heap.size w w4 := hw3.trans (hk4.mono hw3.size)
      refine WL.nil (WQ.dk (.inr (hS.below hk4)) ?_)
      refine WD.one 25 (by kernel_rfl) rfl ?_
      refine WL.on rfl rfl ?_
      refine WL.call rfl rfl rfl rfl rfl Tryz.func82 rfl (by kernel_rfl) (rplain_any (isE_z (e := { e with data := zV }) rfl hh hby htx ⟨hk, hta, hdo, hve, hab, hae⟩) (isE_z (e := ⟨e.kind, noT, e.table, e.doc, e.ver, zV, e.hash, e.gone, 0, 0⟩) rfl hh hby hnt ⟨hk, hta, hdo, hve, r64_0, r64_0⟩)) ?_
      rintro _ w5 ⟨⟨b, rfl, hb⟩, hk5⟩
      refine ⟨_, rfl, ?_⟩
      refine WL.nil (WQ.dk (.inl rfl) ?_)
      (((first | refine WD.free 26 rfl (by kernel_rfl) rfl rfl (fun _ _ _ _ _ h => h) rfl rfl (.inl rfl) ?_ | refine WD.skip 26 rfl (by kernel_rfl) rfl rfl (fun _ _ _ _ _ h => h) rfl (.inl rfl) ?_); try (first | ((with_reducible refine WD.topT ?_ ?_); omega) | ((with_reducible refine WD.topF ?_ ?_); omega) | ((with_reducible refine WD.top64 ?_ ?_); omega))))
      refine WD.one 27 (by kernel_rfl) rfl ?_
      refine WL.pure rfl rfl rfl rfl ?_
      refine WL.nil (WQ.dk (.inl rfl) ?_)
      refine WD.done (by kernel_rfl) ?_
      refine kgo ?_
      exact WQ.ret1 rfl rfl (BoolIs.of (hw4.trans (hk5.mono hw4.size)) (hb.trans (plain2 e)) (hform.trans ⟨fun h => h.2.2.2.1, fun h => ⟨c1, c2, c3, h, hgd⟩⟩))
  by_cases k3 : e.kind = 3
  · have hform : formE e ↔ (1 ≤ e.table ∧ e.table ≤ 64) ∧ (1 ≤ e.doc ∧ e.doc ≤ 65536) ∧ (1 ≤ e.ver ∧ e.ver ≤ 2147483648) ∧ nilE { e with table := 0, doc := 0, ver := 0 } := by unfold formE; rw [if_neg k1, if_neg k2, if_pos k3]
    by_cases c1 : 1 ≤ e.table ∧ e.table ≤ 64
    rotate_left
    · refine kgo ?_
      exact WQ.ret1 rfl rfl (BoolIs.no (fun h => c1 (hform.1 h).1) hw1)
    by_cases c2 : 1 ≤ e.doc ∧ e.doc ≤ 65536
    rotate_left
    · refine kgo ?_
      exact WQ.ret1 rfl rfl (BoolIs.no (fun h => c2 (hform.1 h).2.1) hw1)
    refine kgo ?_
    refine WL.load rfl rfl rfl rfl rfl rfl B1.ver ?_
    refine WL.on rfl rfl ?_
    refine WL.call rfl rfl rfl rfl rfl Tryz.func34 rfl (by kernel_rfl) (rin_any _ _ _ _) ?_
    rintro _ w1 ⟨rfl, rfl⟩
    refine ⟨_, rfl, ?_⟩
    by_cases c3 : 1 ≤ e.ver ∧ e.ver ≤ 2147483648
    rotate_left
    · refine kgo ?_
      exact WQ.ret1 rfl rfl (BoolIs.no (fun h => c3 (hform.1 h).2.2.1) hw1)
    refine kgo ?_
    refine WL.loadMid rfl rfl rfl rfl rfl rfl (VBlk.rangeAt B1.blk) B1.len ?_
    refine kgo ?_
    refine WL.load rfl rfl rfl rfl rfl rfl B1.kind ?_
    refine kgo ?_
    refine WL.load rfl rfl rfl rfl rfl rfl B1.table ?_
    refine kgo ?_
    refine WL.load rfl rfl rfl rfl rfl rfl B1.doc ?_
    refine kgo ?_
    refine WL.load rfl rfl rfl rfl rfl rfl B1.ver ?_
    refine WL.on rfl rfl ?_
    refine WL.build (enC ⟨e.kind, noT, e.table, e.doc, e.ver, zV, Dig.Z32, false, 0, 0⟩ zCells) rfl rfl rfl rfl rfl (by kernel_rfl) ?_
    refine WL.on rfl rfl ?_
    refine WL.call rfl rfl rfl rfl rfl Tryz.func82 rfl (by kernel_rfl) (rplain_any (IsE.below hw1 hall) (isE_z (e := ⟨e.kind, noT, e.table, e.doc, e.ver, zV, Dig.Z32, false, 0, 0⟩) rfl hzl hzb (by first | exact htx | exact hnt) ⟨hk, by first | exact hta | exact r64_0, by first | exact hdo | exact r64_0, by first | exact hve | exact r64_0, by first | exact hab | exact r64_0, by first | exact hae | exact r64_0⟩)) ?_
    rintro _ w5 ⟨⟨b, rfl, hb⟩, hk5⟩
    refine ⟨_, rfl, ?_⟩
    refine kgo ?_
    exact WQ.ret1 rfl rfl (BoolIs.of (hw1.trans (hk5.mono hw1.size)) (hb.trans (plain3 e)) (hform.trans ⟨fun h => h.2.2.2, fun h => ⟨c1, c2, c3, h⟩⟩))
  by_cases k4 : e.kind = 4
  · have hform : formE e ↔ (0 ≤ e.ab ∧ e.ab ≤ 2147483648) ∧ (0 ≤ e.ae ∧ e.ae ≤ 2147483648) ∧ nilE { e with ab := 0, ae := 0 } := by unfold formE; rw [if_neg k1, if_neg k2, if_neg k3, if_pos k4]
    refine kgo ?_
    refine WL.load rfl rfl rfl rfl rfl rfl B1.ab ?_
    refine WL.call rfl rfl rfl rfl rfl Tryz.func34 rfl (by kernel_rfl) (rin_any _ _ _ _) ?_
    rintro _ w1 ⟨rfl, rfl⟩
    refine ⟨_, rfl, ?_⟩
    by_cases c1 : 0 ≤ e.ab ∧ e.ab ≤ 2147483648
    rotate_left
    · refine kgo ?_
      exact WQ.ret1 rfl rfl (BoolIs.no (fun h => c1 (hform.1 h).1) hw1)
    refine kgo ?_
    refine WL.load rfl rfl rfl rfl rfl rfl B1.ae ?_
    refine WL.on rfl rfl ?_
    refine WL.call rfl rfl rfl rfl rfl Tryz.func34 rfl (by kernel_rfl) (rin_any _ _ _ _) ?_
    rintro _ w1 ⟨rfl, rfl⟩
    refine ⟨_, rfl, ?_⟩
    by_cases c2 : 0 ≤ e.ae ∧ e.ae ≤ 2147483648
    rotate_left
    · refine kgo ?_
      exact WQ.ret1 rfl rfl (BoolIs.no (fun h => c2 (hform.1 h).2.1) hw1)
    refine kgo ?_
    refine WL.loadMid rfl rfl rfl rfl rfl rfl (VBlk.rangeAt B1.blk) B1.len ?_
    refine kgo ?_
    refine WL.load rfl rfl rfl rfl rfl rfl B1.kind ?_
    refine kgo ?_
    refine WL.loadMid rfl rfl rfl rfl rfl rfl B1.at' rfl ?_
    refine WL.on rfl rfl ?_
    refine WL.build (enC ⟨e.kind, noT, 0, 0, 0, zV, Dig.Z32, false, e.ab, e.ae⟩ zCells) rfl rfl rfl rfl rfl (by kernel_rfl) ?_
    refine WL.on rfl rfl ?_
    refine WL.call rfl rfl rfl rfl rfl Tryz.func82 rfl (by kernel_rfl) (rplain_any (IsE.below hw1 hall) (isE_z (e := ⟨e.kind, noT, 0, 0, 0, zV, Dig.Z32, false, e.ab, e.ae⟩) rfl hzl hzb (by first | exact htx | exact hnt) ⟨hk, by first | exact hta | exact r64_0, by first | exact hdo | exact r64_0, by first | exact hve | exact r64_0, by first | exact hab | exact r64_0, by first | exact hae | exact r64_0⟩)) ?_
    rintro _ w5 ⟨⟨b, rfl, hb⟩, hk5⟩
    refine ⟨_, rfl, ?_⟩
    refine kgo ?_
    exact WQ.ret1 rfl rfl (BoolIs.of (hw1.trans (hk5.mono hw1.size)) (hb.trans (plain4 e)) (hform.trans ⟨fun h => h.2.2, fun h => ⟨c1, c2, h⟩⟩))
  by_cases k57 : e.kind = 5 ∨ e.kind = 7
  · have hform : formE e ↔ (1 ≤ e.table ∧ e.table ≤ 64) ∧ 1 ≤ e.text.size ∧ e.text.size ≤ 40 ∧ nilE { e with table := 0, text := noT } := by unfold formE; rw [if_neg k1, if_neg k2, if_neg k3, if_neg k4, if_pos k57]
    rcases k57 with k5 | k7
    all_goals
      by_cases c1 : 1 ≤ e.table ∧ e.table ≤ 64
      rotate_left
      · refine kgo ?_
        exact WQ.ret1 rfl rfl (BoolIs.no (fun h => c1 (hform.1 h).1) hw1)
      by_cases c2 : (1 : Int) ≤ (e.text.size : Int) ∧ (e.text.size : Int) ≤ 40
      rotate_left
      · refine kgo ?_
        exact WQ.ret1 rfl rfl (BoolIs.no (fun h => c2 (by have := (hform.1 h).2; omega)) hw1)
      refine kgo ?_
      refine WL.loadMid rfl rfl rfl rfl rfl rfl (VBlk.rangeAt B1.blk) B1.len ?_
      refine kgo ?_
      refine WL.load rfl rfl rfl rfl rfl rfl B1.kind ?_
      refine kgo ?_
      refine WL.load rfl rfl rfl rfl rfl rfl B1.table ?_
      refine kgo ?_
      refine WL.load rfl rfl rfl rfl rfl rfl B1.text ?_
      refine WL.on rfl rfl ?_
      refine WL.build (enC ⟨e.kind, e.text, e.table, 0, 0, zV, Dig.Z32, false, 0, 0⟩ zCells) rfl rfl rfl rfl rfl (by kernel_rfl) ?_
      refine WL.on rfl rfl ?_
      refine WL.call rfl rfl rfl rfl rfl Tryz.func82 rfl (by kernel_rfl) (rplain_any (IsE.below hw1 hall) (isE_z (e := ⟨e.kind, e.text, e.table, 0, 0, zV, Dig.Z32, false, 0, 0⟩) rfl hzl hzb (by first | exact htx | exact hnt) ⟨hk, by first | exact hta | exact r64_0, by first | exact hdo | exact r64_0, by first | exact hve | exact r64_0, by first | exact hab | exact r64_0, by first | exact hae | exact r64_0⟩)) ?_
      rintro _ w5 ⟨⟨b, rfl, hb⟩, hk5⟩
      refine ⟨_, rfl, ?_⟩
      refine kgo ?_
      exact WQ.ret1 rfl rfl (BoolIs.of (hw1.trans (hk5.mono hw1.size)) (hb.trans (plain5 e)) (hform.trans ⟨fun h => h.2.2.2, fun h => ⟨c1, by omega, by omega, h⟩⟩))
  by_cases k6 : e.kind = 6
  · have hform : formE e ↔ (1 ≤ e.table ∧ e.table ≤ 64) ∧ nilE { e with table := 0 } := by unfold formE; rw [if_neg k1, if_neg k2, if_neg k3, if_neg k4, if_neg k57, if_pos k6]
    by_cases c1 : 1 ≤ e.table ∧ e.table ≤ 64
    rotate_left
    · refine kgo ?_
      exact WQ.ret1 rfl rfl (BoolIs.no (fun h => c1 (hform.1 h).1) hw1)
    refine kgo ?_
    refine WL.loadMid rfl rfl rfl rfl rfl rfl (VBlk.rangeAt B1.blk) B1.len ?_
    refine kgo ?_
    refine WL.load rfl rfl rfl rfl rfl rfl B1.kind ?_
    refine kgo ?_
    refine WL.load rfl rfl rfl rfl rfl rfl B1.table ?_
    refine WL.on rfl rfl ?_
    refine WL.build (enC ⟨e.kind, noT, e.table, 0, 0, zV, Dig.Z32, false, 0, 0⟩ zCells) rfl rfl rfl rfl rfl (by kernel_rfl) ?_
    refine WL.on rfl rfl ?_
    refine WL.call rfl rfl rfl rfl rfl Tryz.func82 rfl (by kernel_rfl) (rplain_any (IsE.below hw1 hall) (isE_z (e := ⟨e.kind, noT, e.table, 0, 0, zV, Dig.Z32, false, 0, 0⟩) rfl hzl hzb (by first | exact htx | exact hnt) ⟨hk, by first | exact hta | exact r64_0, by first | exact hdo | exact r64_0, by first | exact hve | exact r64_0, by first | exact hab | exact r64_0, by first | exact hae | exact r64_0⟩)) ?_
    rintro _ w5 ⟨⟨b, rfl, hb⟩, hk5⟩
    refine ⟨_, rfl, ?_⟩
    refine kgo ?_
    exact WQ.ret1 rfl rfl (BoolIs.of (hw1.trans (hk5.mono hw1.size)) (hb.trans (plain6 e)) (hform.trans ⟨fun h => h.2, fun h => ⟨c1, h⟩⟩))
  have hform : ¬ formE e := by unfold formE; rw [if_neg k1, if_neg k2, if_neg k3, if_neg k4, if_neg k57, if_neg k6]; exact id
  refine kgo ?_
  exact WQ.ret1 rfl rfl (BoolIs.no hform hw1)
end K
end Go.Proofs.YtlamdhekjlnccaaGreatDoor

/- The document's Uvarint, Zig, text (chapters 1, 7). -/
namespace Go.Proofs.YtlamdhekjlnccaaGreatDoor
open Go.RowKit
namespace K

theorem rzig_any (v : Int) (h : -9223372036854775808 ≤ v ∧ v ≤ 9223372036854775807) (w : World) : Calls Tryz.prog 100 #[.int .i64 v] w fun e w' => e = .returned (.int .u64 (zig v : Nat)) ∧ w' = w := by
  refine enter (args := [.int .i64 v]) Tryz.func100 rfl Tryz.ntmps100 rfl ?_
  refine kgo ?_
  by_cases hv : 0 ≤ v
  · refine WC.condT rfl hv ?_
    have e : IntKind.u64.wrap (2 * IntKind.u64.wrap v) = (zig v : Nat) := by unfold zig; rw [if_pos hv, IntKind.wrap_u64, IntKind.wrap_u64]; omega
    refine kgo ?_
    exact WQ.ret1 rfl rfl ⟨congrArg (fun z => Ending.returned (Value.int .u64 z)) e, rfl⟩
  · refine WC.condF rfl hv ?_
    have e : IntKind.u64.wrap (IntKind.u64.wrap (2 * IntKind.u64.wrap (IntKind.i64.wrap (0 - (v + 1)))) + 1) = (zig v : Nat) := by unfold zig; rw [if_neg hv]; simp only [IntKind.wrap_u64, IntKind.wrap_i64]; omega
    repeat (first | refine WC.seq ?_ | refine WC.block ?_ | refine WC.region ?_ | refine WL.nil ?_ | refine WC.skip ?_ | refine WC.exit ?_ | refine WC.ret ?_ | refine WQ.then rfl ?_ | refine WQ.thenExit ?_ | refine WQ.thenRet ?_ | refine WQ.blk ?_ | refine WQ.blkRet ?_ | refine WQ.blkHere rfl ?_ | refine WQ.blkOther rfl ?_)
    refine WL.pure rfl rfl rfl rfl ?_
    refine WL.pureAs (.int .i64 (v + 1)) rfl rfl rfl rfl (congrArg (Value.int .i64) (IntWalk.i64_in _ (by omega))) ?_
    refine WL.pure rfl rfl rfl rfl ?_
    refine WL.pure rfl rfl rfl rfl ?_
    refine WL.pure rfl rfl rfl rfl ?_
    refine WL.pure rfl rfl rfl rfl ?_
    refine WL.pure rfl rfl rfl rfl ?_
    repeat (first | refine WC.seq ?_ | refine WC.block ?_ | refine WC.region ?_ | refine WL.nil ?_ | refine WC.skip ?_ | refine WC.exit ?_ | refine WC.ret ?_ | refine WQ.then rfl ?_ | refine WQ.thenExit ?_ | refine WQ.thenRet ?_ | refine WQ.blk ?_ | refine WQ.blkRet ?_ | refine WQ.blkHere rfl ?_ | refine WQ.blkOther rfl ?_)
    exact WQ.ret1 rfl rfl ⟨congrArg (fun z => Ending.returned (Value.int .u64 z)) e, rfl⟩
theorem rtext_any {w : World} {b : Value} {l : List Int} {s : ByteArray} (hb : Bu w b l) (hm : l.length + 10 + s.size ≤ 70368744178000) :
    Calls Tryz.prog 101 #[b, .string s] w fun e w' => ∃ b', e = .returned b' ∧ Bu w' b' (l ++ (uvB s.size ++ byI s)) ∧ Grow w b w' b' := by
  refine enter (args := [b, .string s]) Tryz.func101 rfl Tryz.ntmps101 rfl ?_
  have e8 : IntKind.u64.wrap (s.size : Int) = ((s.size : Nat) : Int) := by rw [IntKind.wrap_u64]; omega
  have hul : (uvB s.size).length ≤ 10 := uvF_len 10 _
  refine kgo ?_
  refine WL.call rfl rfl rfl rfl rfl Tryz.func55 rfl (by kernel_rfl) (by rw [e8]; exact ruvarint_any s.size (by omega) w) ?_
  rintro _ w2 ⟨b2, rfl, hb2, hk2, -⟩
  refine ⟨_, rfl, ?_⟩
  refine WL.app rfl rfl rfl rfl rfl (hb.below hk2) rfl hb2.sl (by omega) fun b3 w3 hb3 hg3 => ?_
  refine kgo ?_
  refine WL.appS rfl rfl rfl rfl rfl hb3 rfl (by rw [List.length_append]; omega) fun b4 w4 hb4 hg4 => ?_
  refine kgo ?_
  exact WQ.ret1 rfl rfl ⟨b4, rfl, by rw [← List.append_assoc]; exact hb4, (((Grow.refl w b).below hk2).trans hg3).trans hg4⟩
end K
end Go.Proofs.YtlamdhekjlnccaaGreatDoor

/- The document's bytes of a value (chapter 7). -/
namespace Go.Proofs.YtlamdhekjlnccaaGreatDoor
open Go.RowKit
namespace K

set_option maxHeartbeats 16000000 in
theorem rbytes_any (m : Nat) (ih : ∀ {f : Nat} {w0 w : World} {v : V} {cs : List Value} {b : Value} {l : List Int}, IsV f w0 v cs → chk m v = 0 → Bu w b l → Apart w0 w b → l.length + (encV m v).length ≤ 70368744177664 →
      Calls Tryz.prog 87 #[b, .agg cs.toArray] w fun e w' => ∃ b', e = .returned b' ∧ Bu w' b' (l ++ encV m v) ∧ Grow w b w' b') {f : Nat} {w0 w : World} {v : V} {cs : List Value} {b : Value} {l : List Int}
    (hv : IsV f w0 v cs) (hc : chk (m + 1) v = 0) (hb : Bu w b l) (ha : Apart w0 w b) (hm : l.length + (encV (m + 1) v).length ≤ 70368744177664) :
    Calls Tryz.prog 87 #[b, .agg cs.toArray] w fun e w' => ∃ b', e = .returned b' ∧ Bu w' b' (l ++ encV (m + 1) v) ∧ Grow w b w' b' := by
  obtain ⟨hk, f2, f3, f4, f5, fk, ft, f9⟩ := shp_form (chk_shp hc)
  cases f with
  | zero => exact hv.elim
  | succ f =>
  obtain ⟨sn, sk, rfl, wk, wn, ws, -, hnames, hkids⟩ := hv
  have hkey := encV_two (m := m) (v := v)
  rw [hkey] at hm
  have hn : -9223372036854775808 ≤ v.n ∧ v.n ≤ 9223372036854775807 := by simp [Lit.wf, IntKind.min, IntKind.max, IntKind.bits, IntKind.signed] at wn; omega
  have hzl := zig_lt hn
  refine enter (args := [b, .agg (six v sn sk).toArray]) Tryz.func87 rfl Tryz.ntmps87 rfl ?_
  refine kgo ?_
  refine WL.box rfl rfl rfl rfl rfl fun g w1 hf => ?_
  have hf' : Fresh w g w1 41 (six v sn sk) := hf
  clear hf
  have hb1 : Bu w1 b l := hb.below hf'.below
  have hg1 : Grow w b w1 b := (Grow.refl w b).below hf'.below
  have ha1 : Apart w0 w1 b := ha.grow hg1
  have hR : ∀ {wk vk}, Grow w1 b wk vk → VBlk 41 wk g (six v sn sk) := fun h => hf'.stand hb h
  have fin : ∀ {b' w' x}, Bu w' b' (l ++ v.k :: x) → Grow w1 b w' b' → (v.k :: x = encV (m + 1) v) → ∃ b'', Ending.returned b' = .returned b'' ∧ Bu w' b'' (l ++ encV (m + 1) v) ∧ Grow w b w' b'' :=
    fun {b' w' x} h1 h2 h3 => ⟨b', rfl, by rw [← h3]; exact h1, hg1.trans h2⟩
  have e8 : IntKind.u8.wrap v.k = v.k := by rw [IntKind.wrap_u8]; omega
  have hl1 : l.length + 1 ≤ 70368744177664 := by simp at hm; omega
  have g0 := Grow.refl w1 b
  refine kgo ?_
  refine WL.load rfl rfl rfl rfl rfl rfl ((hR g0).cell 0 (by simp)) ?_
  refine kgo ?_
  refine WL.push rfl rfl rfl rfl rfl rfl rfl rfl rfl rfl rfl (fun _ => rfl) rfl hb1 (by simp; omega) fun b2 w2 hb2 g2 => ?_
  rw [e8] at hb2
  refine kgo ?_
  refine WL.load rfl rfl rfl rfl rfl rfl ((hR g2).cell 0 (by simp)) ?_
  have hl2 : (l ++ [v.k]).length = l.length + 1 := by simp
  have hL0 : ∀ x, l ++ v.k :: x = (l ++ [v.k]) ++ x := fun x => by simp
  generalize hL : l ++ [v.k] = L at hb2 hl2 hL0
  have hl3 : L.length + (encV (m + 1) v).length ≤ 70368744177664 + 1 := by rw [hkey]; simp at hm ⊢; omega
  by_cases k1 : v.k = 1
  · refine kgo ?_
    refine WQ.ret1 rfl rfl (fin (x := []) (by rw [hL0, List.append_nil]; exact hb2) g2 ?_)
    rw [hkey]; simp [k1]
  by_cases k2 : v.k = 2
  · have hx := f2 k2
    have e8 : IntKind.u8.wrap v.n = v.n := by rw [IntKind.wrap_u8]; omega
    have hkx : encV (m + 1) v = v.k :: [v.n] := by rw [hkey, if_pos k2]
    rw [hkx] at hl3
    simp at hl3
    refine kgo ?_
    refine WL.load rfl rfl rfl rfl rfl rfl ((hR g2).cell 1 (by simp)) ?_
    refine kgo ?_
    refine WL.push rfl rfl rfl rfl rfl rfl rfl rfl rfl rfl rfl (fun _ => rfl) rfl hb2 (by simp; omega) fun b3 w5 hb3 g3 => ?_
    refine kgo ?_
    refine WQ.ret1 rfl rfl (fin (x := [v.n]) ?_ (g2.trans g3) hkx.symm)
    rw [hL0, ← e8]; exact hb3
  by_cases k34 : v.k = 3 ∨ v.k = 4
  · have hu := uvF_len 10 (zig v.n)
    have hu : (uvB (zig v.n)).length ≤ 10 := hu
    rcases k34 with k3 | k4
    · have hkx : encV (m + 1) v = v.k :: uvB (zig v.n) := by rw [hkey, if_neg k2, if_pos k3]
      rw [hkx] at hl3
      simp at hl3
      refine kgo ?_
      refine WL.load rfl rfl rfl rfl rfl rfl ((hR g2).cell 1 (by simp)) ?_
      refine kgo ?_
      refine WL.call rfl rfl rfl rfl rfl Tryz.func100 rfl (by kernel_rfl) (rzig_any v.n hn w2) ?_
      rintro e w2 ⟨rfl, rfl⟩
      refine ⟨_, rfl, ?_⟩
      refine WL.call rfl rfl rfl rfl rfl Tryz.func55 rfl (by kernel_rfl) (ruvarint_any (zig v.n) hzl _) ?_
      rintro _ w3 ⟨b3, rfl, hb3, hk3, -⟩
      refine ⟨_, rfl, ?_⟩
      refine WL.app rfl rfl rfl rfl rfl (hb2.below hk3) rfl hb3.sl (by omega) fun b4 w4 hb4 hg4 => ?_
      refine kgo ?_
      exact WQ.ret1 rfl rfl (fin (by rw [hL0]; exact hb4) ((g2.below hk3).trans hg4) hkx.symm)
    · have hx := f4 k4
      have e8 : IntKind.u8.wrap v.s = v.s := by rw [IntKind.wrap_u8]; omega
      have k3 : ¬ v.k = 3 := by omega
      have hkx : encV (m + 1) v = v.k :: (uvB (zig v.n) ++ [v.s]) := by rw [hkey, if_neg k2, if_neg k3, if_pos k4]
      rw [hkx] at hl3
      simp at hl3
      refine kgo ?_
      refine WL.load rfl rfl rfl rfl rfl rfl ((hR g2).cell 1 (by simp)) ?_
      refine kgo ?_
      refine WL.call rfl rfl rfl rfl rfl Tryz.func100 rfl (by kernel_rfl) (rzig_any v.n hn w2) ?_
      rintro e w2 ⟨rfl, rfl⟩
      refine ⟨_, rfl, ?_⟩
      refine WL.call rfl rfl rfl rfl rfl Tryz.func55 rfl (by kernel_rfl) (ruvarint_any (zig v.n) hzl _) ?_
      rintro _ w3 ⟨b3, rfl, hb3, hk3, -⟩
      refine ⟨_, rfl, ?_⟩
      refine WL.app rfl rfl rfl rfl rfl (hb2.below hk3) rfl hb3.sl (by omega) fun b4 w4 hb4 hg4 => ?_
      have g4 := (g2.below hk3).trans hg4
      refine kgo ?_
      refine WL.load rfl rfl rfl rfl rfl rfl ((hR g4).cell 2 (by simp)) ?_
      refine kgo ?_
      refine WL.push rfl rfl rfl rfl rfl rfl rfl rfl rfl rfl rfl (fun _ => rfl) rfl hb4 (by simp; omega) fun b5 w7 hb5 g5 => ?_
      refine kgo ?_
      refine WQ.ret1 rfl rfl (fin (x := uvB (zig v.n) ++ [v.s]) ?_ (g4.trans g5) hkx.symm)
      rw [hL0, ← List.append_assoc, ← e8]; exact hb5
  have k3 : ¬ v.k = 3 := by omega
  have k4 : ¬ v.k = 4 := by omega
  by_cases k5 : v.k = 5
  · have hx := f5 k5
    have e8 : IntKind.u64.wrap v.n = (v.n.toNat : Int) := by rw [IntKind.wrap_u64]; omega
    have hkx : encV (m + 1) v = v.k :: uvB v.n.toNat := by rw [hkey, if_neg k2, if_neg k3, if_neg k4, if_pos k5]
    have hu : (uvB v.n.toNat).length ≤ 10 := uvF_len 10 _
    rw [hkx] at hl3
    simp at hl3
    refine kgo ?_
    refine WL.load rfl rfl rfl rfl rfl rfl ((hR g2).cell 1 (by simp)) ?_
    refine kgo ?_
    refine WL.call rfl rfl rfl rfl rfl Tryz.func55 rfl (by kernel_rfl) (by rw [e8]; exact ruvarint_any v.n.toNat (by omega) _) ?_
    rintro _ w3 ⟨b3, rfl, hb3, hk3, -⟩
    refine ⟨_, rfl, ?_⟩
    refine WL.app rfl rfl rfl rfl rfl (hb2.below hk3) rfl hb3.sl (by omega) fun b4 w4 hb4 hg4 => ?_
    refine kgo ?_
    exact WQ.ret1 rfl rfl (fin (by rw [hL0]; exact hb4) ((g2.below hk3).trans hg4) hkx.symm)
  by_cases k67 : v.k = 6 ∨ v.k = 7
  · have hkx : encV (m + 1) v = v.k :: (uvB v.t.size ++ byI v.t) := by rw [hkey, if_neg k2, if_neg k3, if_neg k4, if_neg k5, if_pos k67]
    have hbl := byI_len v.t
    rw [hkx] at hl3
    simp only [List.length_cons, List.length_append] at hl3
    rcases k67 with k6 | k7
    all_goals
      refine kgo ?_
      refine WL.load rfl rfl rfl rfl rfl rfl ((hR g2).cell 3 (by simp)) ?_
      refine WL.call rfl rfl rfl rfl rfl Tryz.func101 rfl (by kernel_rfl) (rtext_any hb2 (by omega)) ?_
      rintro _ w3 ⟨b3, rfl, hb3, g3⟩
      refine ⟨_, rfl, ?_⟩
      refine kgo ?_
      exact WQ.ret1 rfl rfl (fin (by rw [hL0]; exact hb3) (g2.trans g3) hkx.symm)
  have k89 : v.k = 8 ∨ v.k = 9 := by omega
  obtain ⟨sp, cap, rfl, hcap1, hcap2, hrow⟩ := hkids
  have hkx : encV (m + 1) v = v.k :: (uvB v.kids.length ++ (List.range v.kids.length).flatMap (pieceE (encV m) (decide (v.k = 9)) v.names v.kids)) := by rw [hkey, if_neg k2, if_neg k3, if_neg k4, if_neg k5, if_neg k67, if_pos k89]
  rw [hkx] at hl3
  simp only [List.length_cons, List.length_append] at hl3
  have hkid : ∀ j, j < v.kids.length → chk m (v.kids.getD j noV) = 0 := fun j hj => chk_kid hc hj
  have round : ∀ i, i + 1 ≤ v.kids.length → ((List.range i).flatMap (pieceE (encV m) (decide (v.k = 9)) v.names v.kids)).length + (pieceE (encV m) (decide (v.k = 9)) v.names v.kids i).length ≤ ((List.range v.kids.length).flatMap (pieceE (encV m) (decide (v.k = 9)) v.names v.kids)).length := fun i hi => by
    have := range_len_le (pieceE (encV m) (decide (v.k = 9)) v.names v.kids) hi
    rw [range_piece, List.length_append] at this
    exact this
  have eK : IntKind.u64.wrap (v.kids.length : Int) = ((v.kids.length : Nat) : Int) := by rw [IntKind.wrap_u64]; omega
  have huk : (uvB v.kids.length).length ≤ 10 := uvF_len 10 _
  have hL1 : ∀ x, l ++ v.k :: (uvB v.kids.length ++ x) = (L ++ uvB v.kids.length) ++ x := fun x => by rw [hL0, List.append_assoc]
  rcases k89 with k8 | k9
  · rw [show decide (v.k = 9) = false from decide_eq_false (by omega)] at hkx hl3 round
    refine kgo ?_
    refine WL.load rfl rfl rfl rfl rfl rfl ((hR g2).cell 5 (by simp)) ?_
    refine kgo ?_
    refine WL.call rfl rfl rfl rfl rfl Tryz.func55 rfl (by kernel_rfl) (by rw [eK]; exact ruvarint_any v.kids.length (by omega) _) ?_
    rintro _ w3 ⟨b3, rfl, hb3, hk3, -⟩
    refine ⟨_, rfl, ?_⟩
    refine WL.app rfl rfl rfl rfl rfl (hb2.below hk3) rfl hb3.sl (by omega) fun b4 w4 hb4 hg4 => ?_
    have g4 := (g2.below hk3).trans hg4
    have hLl : (L ++ uvB v.kids.length).length = L.length + (uvB v.kids.length).length := List.length_append
    generalize L ++ uvB v.kids.length = M at hb4 hL1 hLl
    refine kgo ?_
    refine WC.loop (fun i : Nat × Value => [(0, i.2), (3, .pointer (some ⟨g, 0, none⟩)), (5, .int .i64 i.1)])
      (fun i w' => i.1 ≤ v.kids.length ∧ Bu w' i.2 (M ++ (List.range i.1).flatMap (pieceE (encV m) false v.names v.kids)) ∧ Grow w1 b w' i.2) (fun i => v.kids.length - i.1) (0, b4)
      ⟨rfl, rfl, rfl, trivial⟩ ⟨Nat.zero_le _, by simpa using hb4, g4⟩ ?_
    rintro ⟨i, br⟩ wr ⟨hi, hbr, hgr⟩
    simp only at hi hbr hgr ⊢
    refine kgo ?_
    refine WL.load rfl rfl rfl rfl rfl rfl ((hR hgr).cell 5 (by simp)) ?_
    by_cases hik : i < v.kids.length
    · obtain ⟨kb, ko, rfl, hkb, hcells⟩ := hrow (by omega)
      obtain ⟨c, hc6, hci, hcr⟩ := hcells i hik
      have hro := round i hik
      refine kgo ?_
      refine WL.load rfl rfl rfl rfl rfl rfl ((hR hgr).cell 0 (by simp)) ?_
      have hpc : pieceE (encV m) false v.names v.kids i = encV m (v.kids.getD i noV) := rfl
      rw [hpc] at hro
      refine kgo ?_
      refine WL.load rfl rfl rfl rfl rfl rfl ((hR hgr).cell 5 (by simp)) ?_
      refine kgo ?_
      refine WL.idx i (ko + i * 6) rfl rfl rfl rfl rfl rfl rfl rfl hik rfl ?_
      have har2 := ha1.grow hgr
      refine WL.loadMid rfl rfl rfl rfl rfl rfl (fun j u hu => (har2.below.cell (p := ⟨kb, ko + i * 6 + j, none⟩) hkb).trans (hcr j u hu)) hc6 ?_
      refine WL.call rfl rfl rfl rfl rfl Tryz.func87 rfl (by kernel_rfl) (ih (w0 := w0) hci (hkid i hik) hbr har2 (by rw [List.length_append]; omega)) ?_
      rintro _ w6 ⟨b6, rfl, hb6, hg6⟩
      refine ⟨_, rfl, ?_⟩
      refine kgo ?_
      refine WQ.again (i + 1, b6) ⟨rfl, rfl, rfl, trivial⟩ ⟨hik, ?_, hgr.trans hg6⟩ (by show v.kids.length - (i + 1) < v.kids.length - i; omega)
      show Bu w6 b6 (M ++ (List.range (i + 1)).flatMap _)
      rw [range_piece, hpc]
      simpa [List.append_assoc] using hb6
    · obtain rfl : i = v.kids.length := by omega
      refine kgo ?_
      exact WQ.ret1 rfl rfl (fin (by rw [hL1]; exact hbr) hgr hkx.symm)
  · rw [show decide (v.k = 9) = true from decide_eq_true k9] at hkx hl3 round
    obtain ⟨np, nc, rfl, nl, nc2, nsz, nr⟩ := hnames
    have hnk := (f9 k9).1
    refine kgo ?_
    refine WL.load rfl rfl rfl rfl rfl rfl ((hR g2).cell 5 (by simp)) ?_
    refine kgo ?_
    refine WL.call rfl rfl rfl rfl rfl Tryz.func55 rfl (by kernel_rfl) (by rw [eK]; exact ruvarint_any v.kids.length (by omega) _) ?_
    rintro _ w3 ⟨b3, rfl, hb3, hk3, -⟩
    refine ⟨_, rfl, ?_⟩
    refine WL.app rfl rfl rfl rfl rfl (hb2.below hk3) rfl hb3.sl (by omega) fun b4 w4 hb4 hg4 => ?_
    have g4 := (g2.below hk3).trans hg4
    have hLl : (L ++ uvB v.kids.length).length = L.length + (uvB v.kids.length).length := List.length_append
    generalize L ++ uvB v.kids.length = M at hb4 hL1 hLl
    refine kgo ?_
    refine WC.loop (fun i : Nat × Value => [(0, i.2), (3, .pointer (some ⟨g, 0, none⟩)), (5, .int .i64 i.1)])
      (fun i w' => i.1 ≤ v.kids.length ∧ Bu w' i.2 (M ++ (List.range i.1).flatMap (pieceE (encV m) true v.names v.kids)) ∧ Grow w1 b w' i.2) (fun i => v.kids.length - i.1) (0, b4)
      ⟨rfl, rfl, rfl, trivial⟩ ⟨Nat.zero_le _, by simpa using hb4, g4⟩ ?_
    rintro ⟨i, br⟩ wr ⟨hi, hbr, hgr⟩
    simp only at hi hbr hgr ⊢
    refine kgo ?_
    refine WL.load rfl rfl rfl rfl rfl rfl ((hR hgr).cell 5 (by simp)) ?_
    by_cases hik : i < v.kids.length
    · obtain ⟨kb, ko, rfl, hkb, hcells⟩ := hrow (by omega)
      obtain ⟨c, hc6, hci, hcr⟩ := hcells i hik
      have hro := round i hik
      refine kgo ?_
      refine WL.load rfl rfl rfl rfl rfl rfl ((hR hgr).cell 0 (by simp)) ?_
      obtain ⟨nb, no, rfl, hnb, hnr⟩ := nr (by omega)
      have hnc := hnr i (by omega)
      have hpc : pieceE (encV m) true v.names v.kids i = (uvB (v.names.getD i noT).size ++ byI (v.names.getD i noT)) ++ encV m (v.kids.getD i noV) := rfl
      rw [hpc] at hro
      have hbl := byI_len (v.names.getD i noT)
      have hul : (uvB (v.names.getD i noT).size).length ≤ 10 := uvF_len 10 _
      have hns : (v.names.getD i noT).size ≤ 40 := (f9 k9).2 _ (by simp [show i < v.names.length by omega])
      simp only [List.length_append] at hro
      have har := ha1.grow hgr
      refine kgo ?_
      refine WL.load rfl rfl rfl rfl rfl rfl ((hR hgr).cell 4 (by simp)) ?_
      refine kgo ?_
      refine WL.idx i (no + i) rfl rfl rfl rfl rfl rfl rfl rfl (by omega) (by omega) ?_
      refine WL.load rfl rfl rfl rfl rfl rfl ((har.below.cell (p := ⟨nb, no + i, none⟩) hnb).trans hnc) ?_
      refine WL.call rfl rfl rfl rfl rfl Tryz.func101 rfl (by kernel_rfl) (rtext_any hbr (by rw [List.length_append]; omega)) ?_
      rintro _ w5 ⟨b5, rfl, hb5, hg5⟩
      refine ⟨_, rfl, ?_⟩
      have g5 := hgr.trans hg5
      refine kgo ?_
      refine WL.load rfl rfl rfl rfl rfl rfl ((hR g5).cell 5 (by simp)) ?_
      refine kgo ?_
      refine WL.idx i (ko + i * 6) rfl rfl rfl rfl rfl rfl rfl rfl hik rfl ?_
      have har2 := ha1.grow g5
      refine WL.loadMid rfl rfl rfl rfl rfl rfl (fun j u hu => (har2.below.cell (p := ⟨kb, ko + i * 6 + j, none⟩) hkb).trans (hcr j u hu)) hc6 ?_
      refine WL.call rfl rfl rfl rfl rfl Tryz.func87 rfl (by kernel_rfl) (ih (w0 := w0) hci (hkid i hik) hb5 har2 (by rw [List.length_append, List.length_append, List.length_append]; omega)) ?_
      rintro _ w6 ⟨b6, rfl, hb6, hg6⟩
      refine ⟨_, rfl, ?_⟩
      refine kgo ?_
      refine WQ.again (i + 1, b6) ⟨rfl, rfl, rfl, trivial⟩ ⟨hik, ?_, g5.trans hg6⟩ (by show v.kids.length - (i + 1) < v.kids.length - i; omega)
      show Bu w6 b6 (M ++ (List.range (i + 1)).flatMap _)
      rw [range_piece, hpc]
      simpa [List.append_assoc] using hb6
    · obtain rfl : i = v.kids.length := by omega
      refine kgo ?_
      exact WQ.ret1 rfl rfl (fin (by rw [hL1]; exact hbr) hgr hkx.symm)
/-- A value's bytes, laid behind an own row. -/
theorem rbytes_all : ∀ (m : Nat) {f : Nat} {w0 w : World} {v : V} {cs : List Value} {b : Value} {l : List Int}, IsV f w0 v cs → chk m v = 0 → Bu w b l → Apart w0 w b → l.length + (encV m v).length ≤ 70368744177664 →
      Calls Tryz.prog 87 #[b, .agg cs.toArray] w fun e w' => ∃ b', e = .returned b' ∧ Bu w' b' (l ++ encV m v) ∧ Grow w b w' b'
  | 0, _, _, _, _, _, _, _, _, h, _, _, _ => by cases h
  | m + 1, _, _, _, _, _, _, _, hv, hc, hb, ha, hm => rbytes_any m (rbytes_all m) hv hc hb ha hm
end K
end Go.Proofs.YtlamdhekjlnccaaGreatDoor

/- Values: the document's check (scrivenerref5.check, Check). -/
namespace Go.Proofs.YtlamdhekjlnccaaGreatDoor
open Go.RowKit
namespace K
open Vl (formC formB_eq okN fields_iff)

theorem chk_bad {m : Nat} {v : V} {x : Int} (h : shp v = x) (h0 : ¬ x = 0) : chk (m + 1) v = x := by
  unfold chk
  rw [if_neg (by rw [h]; exact h0)]
  exact h
theorem shp_form3 {v : V} (h : formB v = false) : shp v = 3 := by unfold shp; rw [if_pos h]
theorem text_ne (v : V) : (!(v.t.toList == (ByteArray.mk #[]).toList)) = !noTextB v := by
  have h0 : (ByteArray.mk #[]).toList = [] := by decide +kernel
  have hl : v.t.toList.length = v.t.size := by rw [ByteArray.toList_eq]; rfl
  rw [h0]
  unfold noTextB
  cases h : v.t.toList with
  | nil => rw [h] at hl; simp at hl; simp [← hl]
  | cons a r => rw [h] at hl; simp at hl; simp [← hl]
theorem ret_i64 {x y : Int} (h : x = y) : Ending.returned (.int .i64 x) = .returned (.int .i64 y) := by rw [h]


set_option maxRecDepth 100000 in
set_option maxHeartbeats 16000000 in
theorem rchk_k1 {f : Nat} {w : World} {v : V} {cs : List Value} {m : Nat} {d : Int} (hv : IsV (f + 1) w v cs) (q : v.k = 1) (_hd1 : d ≤ 16) (_hd0 : 0 ≤ d) :
    Calls Tryz.prog 99 #[.agg cs.toArray, .int .i64 d] w fun e w' => e = .returned (.int .i64 (chk (m + 1) v)) ∧ Below w.heap.size w w' := by
  obtain ⟨sn, sk, rfl, -, hn64, -, htz, ⟨np, nc, rfl, nl, nc2, nsz, nr⟩, ⟨sp, cap, rfl, hcap1, hcap2, hrow⟩⟩ := hv
  have hn : -9223372036854775808 ≤ v.n ∧ v.n ≤ 9223372036854775807 := by simp [Lit.wf, IntKind.min, IntKind.max, IntKind.bits, IntKind.signed] at hn64; omega
  clear hn64
  refine enter (args := [.agg (six v (.slice np v.names.length nc) (.slice sp v.kids.length cap)).toArray, .int .i64 d]) Tryz.func99 rfl Tryz.ntmps99 rfl ?_
  refine kgo ?_
  refine WL.box rfl rfl rfl rfl rfl fun g w1 hf => ?_
  have hR : VBlk 41 w1 g (six v (.slice np v.names.length nc) (.slice sp v.kids.length cap)) := hf.blk
  have hbel : Below w.heap.size w w1 := hf.below
  have c0 : w1.cell? ⟨g, 0, none⟩ = some (.int .i64 v.k) := hR.cell 0 (by simp)
  have c1 : w1.cell? ⟨g, 1, none⟩ = some (.int .i64 v.n) := hR.cell 1 (by simp)
  have c2 : w1.cell? ⟨g, 2, none⟩ = some (.int .i64 v.s) := hR.cell 2 (by simp)
  have c3 : w1.cell? ⟨g, 3, none⟩ = some (.string v.t) := hR.cell 3 (by simp)
  have c4 : w1.cell? ⟨g, 4, none⟩ = some (.slice np v.names.length nc) := hR.cell 4 (by simp)
  have c5 : w1.cell? ⟨g, 5, none⟩ = some (.slice sp v.kids.length cap) := hR.cell 5 (by simp)
  clear hf
  have hfc := formB_eq v
  have hB : bareB v = (decide (v.n = 0) && decide (v.s = 0)) := rfl
  have hP : plainB v = (decide (v.names.length = 0) && decide (v.kids.length = 0)) := rfl
  have hE := text_ne v
  have bad3 : formB v = false → Ending.returned (.int .i64 3) = .returned (.int .i64 (chk (m + 1) v)) ∧ Below w.heap.size w w1 := fun h => ⟨ret_i64 (chk_bad (shp_form3 h) (by decide)).symm, hbel⟩
  repeat (first | ((with_reducible refine WL.topT ?_ ?_); omega) | ((with_reducible refine WL.topF ?_ ?_); omega) | ((with_reducible refine WL.top64 ?_ ?_); omega) | refine WC.seq ?_ | refine WC.region ?_ | refine WL.nil ?_ | refine WC.skip ?_ | refine WC.exit ?_ | refine WC.ret ?_ | refine WQ.then rfl ?_ | refine WQ.thenExit ?_ | refine WQ.thenRet ?_ | refine WQ.blk ?_ | refine WQ.blkRet ?_ | refine WQ.blkHere rfl ?_ | refine WQ.blkOther rfl ?_ | refine WL.pure rfl rfl rfl rfl ?_ | refine WL.on rfl rfl ?_ | refine WL.off rfl rfl rfl ?_ | refine WL.load rfl rfl rfl rfl rfl rfl (by assumption) ?_ | refine WC.condTrue rfl ?_ | refine WC.condFalse rfl ?_)
  refine WL.as 5 (.bool (!noTextB v)) rfl (congrArg Value.bool hE) ?_
  refine WL.mid (fun _ : Unit => [(1, .int .i64 d), (2, .pointer (some ⟨g, 0, none⟩)), (5, .bool (!noTextB v)), (6, .bool (!plainB v))]) (fun _ w' => w1 = w') rfl ?_ ?_
  · by_cases hK : v.kids.length = 0
    · have hK0 : ¬ (0 : Int) < v.kids.length := by omega
      refine WL.as 19 (.bool false) rfl (congrArg Value.bool (decide_eq_false hK0)) ?_
      by_cases hN : v.names.length = 0
      · refine kgl ?_
        exact WQ.meet () ⟨rfl, rfl, rfl, congrArg (fun b => some (Value.bool b)) (by rw [hP]; simp [hN, hK]), trivial⟩ rfl
      · refine kgl ?_
        exact WQ.meet () ⟨rfl, rfl, rfl, congrArg (fun b => some (Value.bool b)) (by rw [hP]; simp [hN]), trivial⟩ rfl
    · have hK0 : (0 : Int) < v.kids.length := by omega
      refine WL.as 19 (.bool true) rfl (congrArg Value.bool (decide_eq_true hK0)) ?_
      refine kgl ?_
      exact WQ.meet () ⟨rfl, rfl, rfl, congrArg (fun b => some (Value.bool b)) (by rw [hP]; simp [hK]), trivial⟩ rfl
  rintro _ _ rfl
  have shp5 : formB v = true → (16384 < v.t.size ∨ 200 < v.kids.length) → shp v = 5 := fun h1 h2 => by unfold shp; rw [if_neg (by rw [h1]; exact Bool.noConfusion), if_pos h2]
  have shp0 : formB v = true → v.t.size ≤ 16384 → v.kids.length ≤ 200 → (v.k = 9 → fieldsB v = true) → shp v = 0 := fun h1 h2 h3 h4 => by
    unfold shp
    rw [if_neg (by rw [h1]; exact Bool.noConfusion), if_neg (by omega), if_neg (fun h => by have := h4 h.1; rw [this] at h; exact Bool.noConfusion h.2)]
  have hEt : noTextB v = true → v.t.size = 0 := fun h => of_decide_eq_true h
  have hPk : plainB v = true → v.kids.length = 0 := fun h => by rw [hP] at h; rw [Bool.and_eq_true] at h; exact of_decide_eq_true h.2
  have chk0 : shp v = 0 → v.kids.length = 0 → chk (m + 1) v = 0 := fun h1 h2 => by
    unfold chk
    rw [if_pos h1, List.eq_nil_of_length_eq_zero h2]
    rfl
  clear hE hP

  by_cases a1 : v.n = 0
  · skip
    by_cases a2 : v.s = 0
    · skip
      cases hE1 : noTextB v with
      | false =>
        rw [hE1] at hfc
        refine kgl ?_
        exact WQ.ret1 rfl rfl (bad3 (by rw [hfc]; simp [formC, *]))
      | true =>
        rw [hE1] at hfc
        cases hP1 : plainB v with
        | false =>
          rw [hP1] at hfc
          refine kgl ?_
          exact WQ.ret1 rfl rfl (bad3 (by rw [hfc]; simp [formC, *]))
        | true =>
          rw [hP1] at hfc
          have h0 : shp v = 0 := shp0 (by rw [hfc]; simp [formC, *]) (by have := hEt hE1; omega) (by have := hPk hP1; omega) (fun h => by omega)
          have hk0 : v.kids.length = 0 := hPk hP1
          refine kgl ?_
          refine WC.loop (fun _ : Unit => [(1, .int .i64 d), (2, .pointer (some ⟨g, 0, none⟩)), (8, .int .i64 0)]) (fun _ w' => w1 = w') (fun _ => 0) () ⟨rfl, rfl, rfl, trivial⟩ rfl ?_
          rintro _ _ rfl
          refine kgl ?_
          exact WQ.ret1 rfl rfl ⟨ret_i64 (chk0 h0 hk0).symm, hbel⟩
    · skip
      refine kgl ?_
      exact WQ.ret1 rfl rfl (bad3 (by rw [hfc]; simp [formC, *]))
  · skip
    refine kgl ?_
    exact WQ.ret1 rfl rfl (bad3 (by rw [hfc]; simp [formC, *]))

set_option maxRecDepth 100000 in
set_option maxHeartbeats 16000000 in
theorem rchk_k2 {f : Nat} {w : World} {v : V} {cs : List Value} {m : Nat} {d : Int} (hv : IsV (f + 1) w v cs) (q : v.k = 2) (_hd1 : d ≤ 16) (_hd0 : 0 ≤ d) :
    Calls Tryz.prog 99 #[.agg cs.toArray, .int .i64 d] w fun e w' => e = .returned (.int .i64 (chk (m + 1) v)) ∧ Below w.heap.size w w' := by
  obtain ⟨sn, sk, rfl, -, hn64, -, htz, ⟨np, nc, rfl, nl, nc2, nsz, nr⟩, ⟨sp, cap, rfl, hcap1, hcap2, hrow⟩⟩ := hv
  have hn : -9223372036854775808 ≤ v.n ∧ v.n ≤ 9223372036854775807 := by simp [Lit.wf, IntKind.min, IntKind.max, IntKind.bits, IntKind.signed] at hn64; omega
  clear hn64
  refine enter (args := [.agg (six v (.slice np v.names.length nc) (.slice sp v.kids.length cap)).toArray, .int .i64 d]) Tryz.func99 rfl Tryz.ntmps99 rfl ?_
  refine kgo ?_
  refine WL.box rfl rfl rfl rfl rfl fun g w1 hf => ?_
  have hR : VBlk 41 w1 g (six v (.slice np v.names.length nc) (.slice sp v.kids.length cap)) := hf.blk
  have hbel : Below w.heap.size w w1 := hf.below
  have c0 : w1.cell? ⟨g, 0, none⟩ = some (.int .i64 v.k) := hR.cell 0 (by simp)
  have c1 : w1.cell? ⟨g, 1, none⟩ = some (.int .i64 v.n) := hR.cell 1 (by simp)
  have c2 : w1.cell? ⟨g, 2, none⟩ = some (.int .i64 v.s) := hR.cell 2 (by simp)
  have c3 : w1.cell? ⟨g, 3, none⟩ = some (.string v.t) := hR.cell 3 (by simp)
  have c4 : w1.cell? ⟨g, 4, none⟩ = some (.slice np v.names.length nc) := hR.cell 4 (by simp)
  have c5 : w1.cell? ⟨g, 5, none⟩ = some (.slice sp v.kids.length cap) := hR.cell 5 (by simp)
  clear hf
  have hfc := formB_eq v
  have hB : bareB v = (decide (v.n = 0) && decide (v.s = 0)) := rfl
  have hP : plainB v = (decide (v.names.length = 0) && decide (v.kids.length = 0)) := rfl
  have hE := text_ne v
  have bad3 : formB v = false → Ending.returned (.int .i64 3) = .returned (.int .i64 (chk (m + 1) v)) ∧ Below w.heap.size w w1 := fun h => ⟨ret_i64 (chk_bad (shp_form3 h) (by decide)).symm, hbel⟩
  repeat (first | ((with_reducible refine WL.topT ?_ ?_); omega) | ((with_reducible refine WL.topF ?_ ?_); omega) | ((with_reducible refine WL.top64 ?_ ?_); omega) | refine WC.seq ?_ | refine WC.region ?_ | refine WL.nil ?_ | refine WC.skip ?_ | refine WC.exit ?_ | refine WC.ret ?_ | refine WQ.then rfl ?_ | refine WQ.thenExit ?_ | refine WQ.thenRet ?_ | refine WQ.blk ?_ | refine WQ.blkRet ?_ | refine WQ.blkHere rfl ?_ | refine WQ.blkOther rfl ?_ | refine WL.pure rfl rfl rfl rfl ?_ | refine WL.on rfl rfl ?_ | refine WL.off rfl rfl rfl ?_ | refine WL.load rfl rfl rfl rfl rfl rfl (by assumption) ?_ | refine WC.condTrue rfl ?_ | refine WC.condFalse rfl ?_)
  refine WL.as 5 (.bool (!noTextB v)) rfl (congrArg Value.bool hE) ?_
  refine WL.mid (fun _ : Unit => [(1, .int .i64 d), (2, .pointer (some ⟨g, 0, none⟩)), (5, .bool (!noTextB v)), (6, .bool (!plainB v))]) (fun _ w' => w1 = w') rfl ?_ ?_
  · by_cases hK : v.kids.length = 0
    · have hK0 : ¬ (0 : Int) < v.kids.length := by omega
      refine WL.as 19 (.bool false) rfl (congrArg Value.bool (decide_eq_false hK0)) ?_
      by_cases hN : v.names.length = 0
      · refine kgl ?_
        exact WQ.meet () ⟨rfl, rfl, rfl, congrArg (fun b => some (Value.bool b)) (by rw [hP]; simp [hN, hK]), trivial⟩ rfl
      · refine kgl ?_
        exact WQ.meet () ⟨rfl, rfl, rfl, congrArg (fun b => some (Value.bool b)) (by rw [hP]; simp [hN]), trivial⟩ rfl
    · have hK0 : (0 : Int) < v.kids.length := by omega
      refine WL.as 19 (.bool true) rfl (congrArg Value.bool (decide_eq_true hK0)) ?_
      refine kgl ?_
      exact WQ.meet () ⟨rfl, rfl, rfl, congrArg (fun b => some (Value.bool b)) (by rw [hP]; simp [hK]), trivial⟩ rfl
  rintro _ _ rfl
  have shp5 : formB v = true → (16384 < v.t.size ∨ 200 < v.kids.length) → shp v = 5 := fun h1 h2 => by unfold shp; rw [if_neg (by rw [h1]; exact Bool.noConfusion), if_pos h2]
  have shp0 : formB v = true → v.t.size ≤ 16384 → v.kids.length ≤ 200 → (v.k = 9 → fieldsB v = true) → shp v = 0 := fun h1 h2 h3 h4 => by
    unfold shp
    rw [if_neg (by rw [h1]; exact Bool.noConfusion), if_neg (by omega), if_neg (fun h => by have := h4 h.1; rw [this] at h; exact Bool.noConfusion h.2)]
  have hEt : noTextB v = true → v.t.size = 0 := fun h => of_decide_eq_true h
  have hPk : plainB v = true → v.kids.length = 0 := fun h => by rw [hP] at h; rw [Bool.and_eq_true] at h; exact of_decide_eq_true h.2
  have chk0 : shp v = 0 → v.kids.length = 0 → chk (m + 1) v = 0 := fun h1 h2 => by
    unfold chk
    rw [if_pos h1, List.eq_nil_of_length_eq_zero h2]
    rfl
  clear hE hP

  by_cases a1 : 0 ≤ v.n
  · skip
    by_cases a2 : v.n ≤ 1
    · skip
      have x2 : v.n / 2 = 0 := by omega
      by_cases a4 : v.s = 0
      · skip
        cases hE1 : noTextB v with
        | false =>
          rw [hE1] at hfc
          refine kgl ?_
          exact WQ.ret1 rfl rfl (bad3 (by rw [hfc]; simp [formC, *]))
        | true =>
          rw [hE1] at hfc
          cases hP1 : plainB v with
          | false =>
            rw [hP1] at hfc
            refine kgl ?_
            exact WQ.ret1 rfl rfl (bad3 (by rw [hfc]; simp [formC, *]))
          | true =>
            rw [hP1] at hfc
            have h0 : shp v = 0 := shp0 (by rw [hfc]; simp [formC, *]) (by have := hEt hE1; omega) (by have := hPk hP1; omega) (fun h => by omega)
            have hk0 : v.kids.length = 0 := hPk hP1
            refine kgl ?_
            refine WC.loop (fun _ : Unit => [(1, .int .i64 d), (2, .pointer (some ⟨g, 0, none⟩)), (8, .int .i64 0)]) (fun _ w' => w1 = w') (fun _ => 0) () ⟨rfl, rfl, rfl, trivial⟩ rfl ?_
            rintro _ _ rfl
            refine kgl ?_
            exact WQ.ret1 rfl rfl ⟨ret_i64 (chk0 h0 hk0).symm, hbel⟩
      · skip
        refine kgl ?_
        exact WQ.ret1 rfl rfl (bad3 (by rw [hfc]; simp [formC, *]))
    · skip
      have x2 : ¬ v.n / 2 = 0 := by omega
      refine kgl ?_
      exact WQ.ret1 rfl rfl (bad3 (by rw [hfc]; simp [formC, *]))
  · skip
    have x2 : ¬ v.n / 2 = 0 := by omega
    refine kgl ?_
    exact WQ.ret1 rfl rfl (bad3 (by rw [hfc]; simp [formC, *]))

set_option maxRecDepth 100000 in
set_option maxHeartbeats 16000000 in
theorem rchk_k3 {f : Nat} {w : World} {v : V} {cs : List Value} {m : Nat} {d : Int} (hv : IsV (f + 1) w v cs) (q : v.k = 3) (_hd1 : d ≤ 16) (_hd0 : 0 ≤ d) :
    Calls Tryz.prog 99 #[.agg cs.toArray, .int .i64 d] w fun e w' => e = .returned (.int .i64 (chk (m + 1) v)) ∧ Below w.heap.size w w' := by
  obtain ⟨sn, sk, rfl, -, hn64, -, htz, ⟨np, nc, rfl, nl, nc2, nsz, nr⟩, ⟨sp, cap, rfl, hcap1, hcap2, hrow⟩⟩ := hv
  have hn : -9223372036854775808 ≤ v.n ∧ v.n ≤ 9223372036854775807 := by simp [Lit.wf, IntKind.min, IntKind.max, IntKind.bits, IntKind.signed] at hn64; omega
  clear hn64
  refine enter (args := [.agg (six v (.slice np v.names.length nc) (.slice sp v.kids.length cap)).toArray, .int .i64 d]) Tryz.func99 rfl Tryz.ntmps99 rfl ?_
  refine kgo ?_
  refine WL.box rfl rfl rfl rfl rfl fun g w1 hf => ?_
  have hR : VBlk 41 w1 g (six v (.slice np v.names.length nc) (.slice sp v.kids.length cap)) := hf.blk
  have hbel : Below w.heap.size w w1 := hf.below
  have c0 : w1.cell? ⟨g, 0, none⟩ = some (.int .i64 v.k) := hR.cell 0 (by simp)
  have c1 : w1.cell? ⟨g, 1, none⟩ = some (.int .i64 v.n) := hR.cell 1 (by simp)
  have c2 : w1.cell? ⟨g, 2, none⟩ = some (.int .i64 v.s) := hR.cell 2 (by simp)
  have c3 : w1.cell? ⟨g, 3, none⟩ = some (.string v.t) := hR.cell 3 (by simp)
  have c4 : w1.cell? ⟨g, 4, none⟩ = some (.slice np v.names.length nc) := hR.cell 4 (by simp)
  have c5 : w1.cell? ⟨g, 5, none⟩ = some (.slice sp v.kids.length cap) := hR.cell 5 (by simp)
  clear hf
  have hfc := formB_eq v
  have hB : bareB v = (decide (v.n = 0) && decide (v.s = 0)) := rfl
  have hP : plainB v = (decide (v.names.length = 0) && decide (v.kids.length = 0)) := rfl
  have hE := text_ne v
  have bad3 : formB v = false → Ending.returned (.int .i64 3) = .returned (.int .i64 (chk (m + 1) v)) ∧ Below w.heap.size w w1 := fun h => ⟨ret_i64 (chk_bad (shp_form3 h) (by decide)).symm, hbel⟩
  repeat (first | ((with_reducible refine WL.topT ?_ ?_); omega) | ((with_reducible refine WL.topF ?_ ?_); omega) | ((with_reducible refine WL.top64 ?_ ?_); omega) | refine WC.seq ?_ | refine WC.region ?_ | refine WL.nil ?_ | refine WC.skip ?_ | refine WC.exit ?_ | refine WC.ret ?_ | refine WQ.then rfl ?_ | refine WQ.thenExit ?_ | refine WQ.thenRet ?_ | refine WQ.blk ?_ | refine WQ.blkRet ?_ | refine WQ.blkHere rfl ?_ | refine WQ.blkOther rfl ?_ | refine WL.pure rfl rfl rfl rfl ?_ | refine WL.on rfl rfl ?_ | refine WL.off rfl rfl rfl ?_ | refine WL.load rfl rfl rfl rfl rfl rfl (by assumption) ?_ | refine WC.condTrue rfl ?_ | refine WC.condFalse rfl ?_)
  refine WL.as 5 (.bool (!noTextB v)) rfl (congrArg Value.bool hE) ?_
  refine WL.mid (fun _ : Unit => [(1, .int .i64 d), (2, .pointer (some ⟨g, 0, none⟩)), (5, .bool (!noTextB v)), (6, .bool (!plainB v))]) (fun _ w' => w1 = w') rfl ?_ ?_
  · by_cases hK : v.kids.length = 0
    · have hK0 : ¬ (0 : Int) < v.kids.length := by omega
      refine WL.as 19 (.bool false) rfl (congrArg Value.bool (decide_eq_false hK0)) ?_
      by_cases hN : v.names.length = 0
      · refine kgl ?_
        exact WQ.meet () ⟨rfl, rfl, rfl, congrArg (fun b => some (Value.bool b)) (by rw [hP]; simp [hN, hK]), trivial⟩ rfl
      · refine kgl ?_
        exact WQ.meet () ⟨rfl, rfl, rfl, congrArg (fun b => some (Value.bool b)) (by rw [hP]; simp [hN]), trivial⟩ rfl
    · have hK0 : (0 : Int) < v.kids.length := by omega
      refine WL.as 19 (.bool true) rfl (congrArg Value.bool (decide_eq_true hK0)) ?_
      refine kgl ?_
      exact WQ.meet () ⟨rfl, rfl, rfl, congrArg (fun b => some (Value.bool b)) (by rw [hP]; simp [hK]), trivial⟩ rfl
  rintro _ _ rfl
  have shp5 : formB v = true → (16384 < v.t.size ∨ 200 < v.kids.length) → shp v = 5 := fun h1 h2 => by unfold shp; rw [if_neg (by rw [h1]; exact Bool.noConfusion), if_pos h2]
  have shp0 : formB v = true → v.t.size ≤ 16384 → v.kids.length ≤ 200 → (v.k = 9 → fieldsB v = true) → shp v = 0 := fun h1 h2 h3 h4 => by
    unfold shp
    rw [if_neg (by rw [h1]; exact Bool.noConfusion), if_neg (by omega), if_neg (fun h => by have := h4 h.1; rw [this] at h; exact Bool.noConfusion h.2)]
  have hEt : noTextB v = true → v.t.size = 0 := fun h => of_decide_eq_true h
  have hPk : plainB v = true → v.kids.length = 0 := fun h => by rw [hP] at h; rw [Bool.and_eq_true] at h; exact of_decide_eq_true h.2
  have chk0 : shp v = 0 → v.kids.length = 0 → chk (m + 1) v = 0 := fun h1 h2 => by
    unfold chk
    rw [if_pos h1, List.eq_nil_of_length_eq_zero h2]
    rfl
  clear hE hP

  by_cases a1 : v.s = 0
  · skip
    cases hE1 : noTextB v with
    | false =>
      rw [hE1] at hfc
      refine kgl ?_
      exact WQ.ret1 rfl rfl (bad3 (by rw [hfc]; simp [formC, *]))
    | true =>
      rw [hE1] at hfc
      cases hP1 : plainB v with
      | false =>
        rw [hP1] at hfc
        refine kgl ?_
        exact WQ.ret1 rfl rfl (bad3 (by rw [hfc]; simp [formC, *]))
      | true =>
        rw [hP1] at hfc
        have h0 : shp v = 0 := shp0 (by rw [hfc]; simp [formC, *]) (by have := hEt hE1; omega) (by have := hPk hP1; omega) (fun h => by omega)
        have hk0 : v.kids.length = 0 := hPk hP1
        refine kgl ?_
        refine WC.loop (fun _ : Unit => [(1, .int .i64 d), (2, .pointer (some ⟨g, 0, none⟩)), (8, .int .i64 0)]) (fun _ w' => w1 = w') (fun _ => 0) () ⟨rfl, rfl, rfl, trivial⟩ rfl ?_
        rintro _ _ rfl
        refine kgl ?_
        exact WQ.ret1 rfl rfl ⟨ret_i64 (chk0 h0 hk0).symm, hbel⟩
  · skip
    refine kgl ?_
    exact WQ.ret1 rfl rfl (bad3 (by rw [hfc]; simp [formC, *]))

set_option maxRecDepth 100000 in
set_option maxHeartbeats 16000000 in
theorem rchk_k4 {f : Nat} {w : World} {v : V} {cs : List Value} {m : Nat} {d : Int} (hv : IsV (f + 1) w v cs) (q : v.k = 4) (_hd1 : d ≤ 16) (_hd0 : 0 ≤ d) :
    Calls Tryz.prog 99 #[.agg cs.toArray, .int .i64 d] w fun e w' => e = .returned (.int .i64 (chk (m + 1) v)) ∧ Below w.heap.size w w' := by
  obtain ⟨sn, sk, rfl, -, hn64, -, htz, ⟨np, nc, rfl, nl, nc2, nsz, nr⟩, ⟨sp, cap, rfl, hcap1, hcap2, hrow⟩⟩ := hv
  have hn : -9223372036854775808 ≤ v.n ∧ v.n ≤ 9223372036854775807 := by simp [Lit.wf, IntKind.min, IntKind.max, IntKind.bits, IntKind.signed] at hn64; omega
  clear hn64
  refine enter (args := [.agg (six v (.slice np v.names.length nc) (.slice sp v.kids.length cap)).toArray, .int .i64 d]) Tryz.func99 rfl Tryz.ntmps99 rfl ?_
  refine kgo ?_
  refine WL.box rfl rfl rfl rfl rfl fun g w1 hf => ?_
  have hR : VBlk 41 w1 g (six v (.slice np v.names.length nc) (.slice sp v.kids.length cap)) := hf.blk
  have hbel : Below w.heap.size w w1 := hf.below
  have c0 : w1.cell? ⟨g, 0, none⟩ = some (.int .i64 v.k) := hR.cell 0 (by simp)
  have c1 : w1.cell? ⟨g, 1, none⟩ = some (.int .i64 v.n) := hR.cell 1 (by simp)
  have c2 : w1.cell? ⟨g, 2, none⟩ = some (.int .i64 v.s) := hR.cell 2 (by simp)
  have c3 : w1.cell? ⟨g, 3, none⟩ = some (.string v.t) := hR.cell 3 (by simp)
  have c4 : w1.cell? ⟨g, 4, none⟩ = some (.slice np v.names.length nc) := hR.cell 4 (by simp)
  have c5 : w1.cell? ⟨g, 5, none⟩ = some (.slice sp v.kids.length cap) := hR.cell 5 (by simp)
  clear hf
  have hfc := formB_eq v
  have hB : bareB v = (decide (v.n = 0) && decide (v.s = 0)) := rfl
  have hP : plainB v = (decide (v.names.length = 0) && decide (v.kids.length = 0)) := rfl
  have hE := text_ne v
  have bad3 : formB v = false → Ending.returned (.int .i64 3) = .returned (.int .i64 (chk (m + 1) v)) ∧ Below w.heap.size w w1 := fun h => ⟨ret_i64 (chk_bad (shp_form3 h) (by decide)).symm, hbel⟩
  repeat (first | ((with_reducible refine WL.topT ?_ ?_); omega) | ((with_reducible refine WL.topF ?_ ?_); omega) | ((with_reducible refine WL.top64 ?_ ?_); omega) | refine WC.seq ?_ | refine WC.region ?_ | refine WL.nil ?_ | refine WC.skip ?_ | refine WC.exit ?_ | refine WC.ret ?_ | refine WQ.then rfl ?_ | refine WQ.thenExit ?_ | refine WQ.thenRet ?_ | refine WQ.blk ?_ | refine WQ.blkRet ?_ | refine WQ.blkHere rfl ?_ | refine WQ.blkOther rfl ?_ | refine WL.pure rfl rfl rfl rfl ?_ | refine WL.on rfl rfl ?_ | refine WL.off rfl rfl rfl ?_ | refine WL.load rfl rfl rfl rfl rfl rfl (by assumption) ?_ | refine WC.condTrue rfl ?_ | refine WC.condFalse rfl ?_)
  refine WL.as 5 (.bool (!noTextB v)) rfl (congrArg Value.bool hE) ?_
  refine WL.mid (fun _ : Unit => [(1, .int .i64 d), (2, .pointer (some ⟨g, 0, none⟩)), (5, .bool (!noTextB v)), (6, .bool (!plainB v))]) (fun _ w' => w1 = w') rfl ?_ ?_
  · by_cases hK : v.kids.length = 0
    · have hK0 : ¬ (0 : Int) < v.kids.length := by omega
      refine WL.as 19 (.bool false) rfl (congrArg Value.bool (decide_eq_false hK0)) ?_
      by_cases hN : v.names.length = 0
      · refine kgl ?_
        exact WQ.meet () ⟨rfl, rfl, rfl, congrArg (fun b => some (Value.bool b)) (by rw [hP]; simp [hN, hK]), trivial⟩ rfl
      · refine kgl ?_
        exact WQ.meet () ⟨rfl, rfl, rfl, congrArg (fun b => some (Value.bool b)) (by rw [hP]; simp [hN]), trivial⟩ rfl
    · have hK0 : (0 : Int) < v.kids.length := by omega
      refine WL.as 19 (.bool true) rfl (congrArg Value.bool (decide_eq_true hK0)) ?_
      refine kgl ?_
      exact WQ.meet () ⟨rfl, rfl, rfl, congrArg (fun b => some (Value.bool b)) (by rw [hP]; simp [hK]), trivial⟩ rfl
  rintro _ _ rfl
  have shp5 : formB v = true → (16384 < v.t.size ∨ 200 < v.kids.length) → shp v = 5 := fun h1 h2 => by unfold shp; rw [if_neg (by rw [h1]; exact Bool.noConfusion), if_pos h2]
  have shp0 : formB v = true → v.t.size ≤ 16384 → v.kids.length ≤ 200 → (v.k = 9 → fieldsB v = true) → shp v = 0 := fun h1 h2 h3 h4 => by
    unfold shp
    rw [if_neg (by rw [h1]; exact Bool.noConfusion), if_neg (by omega), if_neg (fun h => by have := h4 h.1; rw [this] at h; exact Bool.noConfusion h.2)]
  have hEt : noTextB v = true → v.t.size = 0 := fun h => of_decide_eq_true h
  have hPk : plainB v = true → v.kids.length = 0 := fun h => by rw [hP] at h; rw [Bool.and_eq_true] at h; exact of_decide_eq_true h.2
  have chk0 : shp v = 0 → v.kids.length = 0 → chk (m + 1) v = 0 := fun h1 h2 => by
    unfold chk
    rw [if_pos h1, List.eq_nil_of_length_eq_zero h2]
    rfl
  clear hE hP

  by_cases a1 : 1 ≤ v.s
  · skip
    by_cases a2 : v.s ≤ 18
    · skip
      by_cases a3 : ¬ v.n.tmod 10 = 0
      · skip
        cases hE1 : noTextB v with
        | false =>
          rw [hE1] at hfc
          refine kgl ?_
          exact WQ.ret1 rfl rfl (bad3 (by rw [hfc]; simp [formC, *]))
        | true =>
          rw [hE1] at hfc
          cases hP1 : plainB v with
          | false =>
            rw [hP1] at hfc
            refine kgl ?_
            exact WQ.ret1 rfl rfl (bad3 (by rw [hfc]; simp [formC, *]))
          | true =>
            rw [hP1] at hfc
            have h0 : shp v = 0 := shp0 (by rw [hfc]; simp [formC, *]) (by have := hEt hE1; omega) (by have := hPk hP1; omega) (fun h => by omega)
            have hk0 : v.kids.length = 0 := hPk hP1
            refine kgl ?_
            refine WC.loop (fun _ : Unit => [(1, .int .i64 d), (2, .pointer (some ⟨g, 0, none⟩)), (8, .int .i64 0)]) (fun _ w' => w1 = w') (fun _ => 0) () ⟨rfl, rfl, rfl, trivial⟩ rfl ?_
            rintro _ _ rfl
            refine kgl ?_
            exact WQ.ret1 rfl rfl ⟨ret_i64 (chk0 h0 hk0).symm, hbel⟩
      · skip
        refine kgl ?_
        exact WQ.ret1 rfl rfl (bad3 (by rw [hfc]; simp [formC, *]))
    · skip
      refine kgl ?_
      exact WQ.ret1 rfl rfl (bad3 (by rw [hfc]; simp [formC, *]))
  · skip
    refine kgl ?_
    exact WQ.ret1 rfl rfl (bad3 (by rw [hfc]; simp [formC, *]))

set_option maxRecDepth 100000 in
set_option maxHeartbeats 16000000 in
theorem rchk_k5 {f : Nat} {w : World} {v : V} {cs : List Value} {m : Nat} {d : Int} (hv : IsV (f + 1) w v cs) (q : v.k = 5) (_hd1 : d ≤ 16) (_hd0 : 0 ≤ d) :
    Calls Tryz.prog 99 #[.agg cs.toArray, .int .i64 d] w fun e w' => e = .returned (.int .i64 (chk (m + 1) v)) ∧ Below w.heap.size w w' := by
  obtain ⟨sn, sk, rfl, -, hn64, -, htz, ⟨np, nc, rfl, nl, nc2, nsz, nr⟩, ⟨sp, cap, rfl, hcap1, hcap2, hrow⟩⟩ := hv
  have hn : -9223372036854775808 ≤ v.n ∧ v.n ≤ 9223372036854775807 := by simp [Lit.wf, IntKind.min, IntKind.max, IntKind.bits, IntKind.signed] at hn64; omega
  clear hn64
  refine enter (args := [.agg (six v (.slice np v.names.length nc) (.slice sp v.kids.length cap)).toArray, .int .i64 d]) Tryz.func99 rfl Tryz.ntmps99 rfl ?_
  refine kgo ?_
  refine WL.box rfl rfl rfl rfl rfl fun g w1 hf => ?_
  have hR : VBlk 41 w1 g (six v (.slice np v.names.length nc) (.slice sp v.kids.length cap)) := hf.blk
  have hbel : Below w.heap.size w w1 := hf.below
  have c0 : w1.cell? ⟨g, 0, none⟩ = some (.int .i64 v.k) := hR.cell 0 (by simp)
  have c1 : w1.cell? ⟨g, 1, none⟩ = some (.int .i64 v.n) := hR.cell 1 (by simp)
  have c2 : w1.cell? ⟨g, 2, none⟩ = some (.int .i64 v.s) := hR.cell 2 (by simp)
  have c3 : w1.cell? ⟨g, 3, none⟩ = some (.string v.t) := hR.cell 3 (by simp)
  have c4 : w1.cell? ⟨g, 4, none⟩ = some (.slice np v.names.length nc) := hR.cell 4 (by simp)
  have c5 : w1.cell? ⟨g, 5, none⟩ = some (.slice sp v.kids.length cap) := hR.cell 5 (by simp)
  clear hf
  have hfc := formB_eq v
  have hB : bareB v = (decide (v.n = 0) && decide (v.s = 0)) := rfl
  have hP : plainB v = (decide (v.names.length = 0) && decide (v.kids.length = 0)) := rfl
  have hE := text_ne v
  have bad3 : formB v = false → Ending.returned (.int .i64 3) = .returned (.int .i64 (chk (m + 1) v)) ∧ Below w.heap.size w w1 := fun h => ⟨ret_i64 (chk_bad (shp_form3 h) (by decide)).symm, hbel⟩
  repeat (first | ((with_reducible refine WL.topT ?_ ?_); omega) | ((with_reducible refine WL.topF ?_ ?_); omega) | ((with_reducible refine WL.top64 ?_ ?_); omega) | refine WC.seq ?_ | refine WC.region ?_ | refine WL.nil ?_ | refine WC.skip ?_ | refine WC.exit ?_ | refine WC.ret ?_ | refine WQ.then rfl ?_ | refine WQ.thenExit ?_ | refine WQ.thenRet ?_ | refine WQ.blk ?_ | refine WQ.blkRet ?_ | refine WQ.blkHere rfl ?_ | refine WQ.blkOther rfl ?_ | refine WL.pure rfl rfl rfl rfl ?_ | refine WL.on rfl rfl ?_ | refine WL.off rfl rfl rfl ?_ | refine WL.load rfl rfl rfl rfl rfl rfl (by assumption) ?_ | refine WC.condTrue rfl ?_ | refine WC.condFalse rfl ?_)
  refine WL.as 5 (.bool (!noTextB v)) rfl (congrArg Value.bool hE) ?_
  refine WL.mid (fun _ : Unit => [(1, .int .i64 d), (2, .pointer (some ⟨g, 0, none⟩)), (5, .bool (!noTextB v)), (6, .bool (!plainB v))]) (fun _ w' => w1 = w') rfl ?_ ?_
  · by_cases hK : v.kids.length = 0
    · have hK0 : ¬ (0 : Int) < v.kids.length := by omega
      refine WL.as 19 (.bool false) rfl (congrArg Value.bool (decide_eq_false hK0)) ?_
      by_cases hN : v.names.length = 0
      · refine kgl ?_
        exact WQ.meet () ⟨rfl, rfl, rfl, congrArg (fun b => some (Value.bool b)) (by rw [hP]; simp [hN, hK]), trivial⟩ rfl
      · refine kgl ?_
        exact WQ.meet () ⟨rfl, rfl, rfl, congrArg (fun b => some (Value.bool b)) (by rw [hP]; simp [hN]), trivial⟩ rfl
    · have hK0 : (0 : Int) < v.kids.length := by omega
      refine WL.as 19 (.bool true) rfl (congrArg Value.bool (decide_eq_true hK0)) ?_
      refine kgl ?_
      exact WQ.meet () ⟨rfl, rfl, rfl, congrArg (fun b => some (Value.bool b)) (by rw [hP]; simp [hK]), trivial⟩ rfl
  rintro _ _ rfl
  have shp5 : formB v = true → (16384 < v.t.size ∨ 200 < v.kids.length) → shp v = 5 := fun h1 h2 => by unfold shp; rw [if_neg (by rw [h1]; exact Bool.noConfusion), if_pos h2]
  have shp0 : formB v = true → v.t.size ≤ 16384 → v.kids.length ≤ 200 → (v.k = 9 → fieldsB v = true) → shp v = 0 := fun h1 h2 h3 h4 => by
    unfold shp
    rw [if_neg (by rw [h1]; exact Bool.noConfusion), if_neg (by omega), if_neg (fun h => by have := h4 h.1; rw [this] at h; exact Bool.noConfusion h.2)]
  have hEt : noTextB v = true → v.t.size = 0 := fun h => of_decide_eq_true h
  have hPk : plainB v = true → v.kids.length = 0 := fun h => by rw [hP] at h; rw [Bool.and_eq_true] at h; exact of_decide_eq_true h.2
  have chk0 : shp v = 0 → v.kids.length = 0 → chk (m + 1) v = 0 := fun h1 h2 => by
    unfold chk
    rw [if_pos h1, List.eq_nil_of_length_eq_zero h2]
    rfl
  clear hE hP

  by_cases a1 : 0 ≤ v.n
  · skip
    by_cases a2 : v.n ≤ 9007199254740992
    · skip
      by_cases a3 : v.s = 0
      · skip
        cases hE1 : noTextB v with
        | false =>
          rw [hE1] at hfc
          refine kgl ?_
          exact WQ.ret1 rfl rfl (bad3 (by rw [hfc]; simp [formC, *]))
        | true =>
          rw [hE1] at hfc
          cases hP1 : plainB v with
          | false =>
            rw [hP1] at hfc
            refine kgl ?_
            exact WQ.ret1 rfl rfl (bad3 (by rw [hfc]; simp [formC, *]))
          | true =>
            rw [hP1] at hfc
            have h0 : shp v = 0 := shp0 (by rw [hfc]; simp [formC, *]) (by have := hEt hE1; omega) (by have := hPk hP1; omega) (fun h => by omega)
            have hk0 : v.kids.length = 0 := hPk hP1
            refine kgl ?_
            refine WC.loop (fun _ : Unit => [(1, .int .i64 d), (2, .pointer (some ⟨g, 0, none⟩)), (8, .int .i64 0)]) (fun _ w' => w1 = w') (fun _ => 0) () ⟨rfl, rfl, rfl, trivial⟩ rfl ?_
            rintro _ _ rfl
            refine kgl ?_
            exact WQ.ret1 rfl rfl ⟨ret_i64 (chk0 h0 hk0).symm, hbel⟩
      · skip
        refine kgl ?_
        exact WQ.ret1 rfl rfl (bad3 (by rw [hfc]; simp [formC, *]))
    · skip
      refine kgl ?_
      exact WQ.ret1 rfl rfl (bad3 (by rw [hfc]; simp [formC, *]))
  · skip
    refine kgl ?_
    exact WQ.ret1 rfl rfl (bad3 (by rw [hfc]; simp [formC, *]))

set_option maxRecDepth 100000 in
set_option maxHeartbeats 16000000 in
theorem rchk_k67 {f : Nat} {w : World} {v : V} {cs : List Value} {m : Nat} {d : Int} (hv : IsV (f + 1) w v cs) (q : v.k = 6 ∨ v.k = 7) (_hd1 : d ≤ 16) (_hd0 : 0 ≤ d) :
    Calls Tryz.prog 99 #[.agg cs.toArray, .int .i64 d] w fun e w' => e = .returned (.int .i64 (chk (m + 1) v)) ∧ Below w.heap.size w w' := by
  obtain ⟨sn, sk, rfl, -, hn64, -, htz, ⟨np, nc, rfl, nl, nc2, nsz, nr⟩, ⟨sp, cap, rfl, hcap1, hcap2, hrow⟩⟩ := hv
  have hn : -9223372036854775808 ≤ v.n ∧ v.n ≤ 9223372036854775807 := by simp [Lit.wf, IntKind.min, IntKind.max, IntKind.bits, IntKind.signed] at hn64; omega
  clear hn64
  refine enter (args := [.agg (six v (.slice np v.names.length nc) (.slice sp v.kids.length cap)).toArray, .int .i64 d]) Tryz.func99 rfl Tryz.ntmps99 rfl ?_
  refine kgo ?_
  refine WL.box rfl rfl rfl rfl rfl fun g w1 hf => ?_
  have hR : VBlk 41 w1 g (six v (.slice np v.names.length nc) (.slice sp v.kids.length cap)) := hf.blk
  have hbel : Below w.heap.size w w1 := hf.below
  have c0 : w1.cell? ⟨g, 0, none⟩ = some (.int .i64 v.k) := hR.cell 0 (by simp)
  have c1 : w1.cell? ⟨g, 1, none⟩ = some (.int .i64 v.n) := hR.cell 1 (by simp)
  have c2 : w1.cell? ⟨g, 2, none⟩ = some (.int .i64 v.s) := hR.cell 2 (by simp)
  have c3 : w1.cell? ⟨g, 3, none⟩ = some (.string v.t) := hR.cell 3 (by simp)
  have c4 : w1.cell? ⟨g, 4, none⟩ = some (.slice np v.names.length nc) := hR.cell 4 (by simp)
  have c5 : w1.cell? ⟨g, 5, none⟩ = some (.slice sp v.kids.length cap) := hR.cell 5 (by simp)
  clear hf
  have hfc := formB_eq v
  have hB : bareB v = (decide (v.n = 0) && decide (v.s = 0)) := rfl
  have hP : plainB v = (decide (v.names.length = 0) && decide (v.kids.length = 0)) := rfl
  have hE := text_ne v
  have bad3 : formB v = false → Ending.returned (.int .i64 3) = .returned (.int .i64 (chk (m + 1) v)) ∧ Below w.heap.size w w1 := fun h => ⟨ret_i64 (chk_bad (shp_form3 h) (by decide)).symm, hbel⟩
  repeat (first | ((with_reducible refine WL.topT ?_ ?_); omega) | ((with_reducible refine WL.topF ?_ ?_); omega) | ((with_reducible refine WL.top64 ?_ ?_); omega) | refine WC.seq ?_ | refine WC.region ?_ | refine WL.nil ?_ | refine WC.skip ?_ | refine WC.exit ?_ | refine WC.ret ?_ | refine WQ.then rfl ?_ | refine WQ.thenExit ?_ | refine WQ.thenRet ?_ | refine WQ.blk ?_ | refine WQ.blkRet ?_ | refine WQ.blkHere rfl ?_ | refine WQ.blkOther rfl ?_ | refine WL.pure rfl rfl rfl rfl ?_ | refine WL.on rfl rfl ?_ | refine WL.off rfl rfl rfl ?_ | refine WL.load rfl rfl rfl rfl rfl rfl (by assumption) ?_ | refine WC.condTrue rfl ?_ | refine WC.condFalse rfl ?_)
  refine WL.as 5 (.bool (!noTextB v)) rfl (congrArg Value.bool hE) ?_
  refine WL.mid (fun _ : Unit => [(1, .int .i64 d), (2, .pointer (some ⟨g, 0, none⟩)), (5, .bool (!noTextB v)), (6, .bool (!plainB v))]) (fun _ w' => w1 = w') rfl ?_ ?_
  · by_cases hK : v.kids.length = 0
    · have hK0 : ¬ (0 : Int) < v.kids.length := by omega
      refine WL.as 19 (.bool false) rfl (congrArg Value.bool (decide_eq_false hK0)) ?_
      by_cases hN : v.names.length = 0
      · refine kgl ?_
        exact WQ.meet () ⟨rfl, rfl, rfl, congrArg (fun b => some (Value.bool b)) (by rw [hP]; simp [hN, hK]), trivial⟩ rfl
      · refine kgl ?_
        exact WQ.meet () ⟨rfl, rfl, rfl, congrArg (fun b => some (Value.bool b)) (by rw [hP]; simp [hN]), trivial⟩ rfl
    · have hK0 : (0 : Int) < v.kids.length := by omega
      refine WL.as 19 (.bool true) rfl (congrArg Value.bool (decide_eq_true hK0)) ?_
      refine kgl ?_
      exact WQ.meet () ⟨rfl, rfl, rfl, congrArg (fun b => some (Value.bool b)) (by rw [hP]; simp [hK]), trivial⟩ rfl
  rintro _ _ rfl
  have shp5 : formB v = true → (16384 < v.t.size ∨ 200 < v.kids.length) → shp v = 5 := fun h1 h2 => by unfold shp; rw [if_neg (by rw [h1]; exact Bool.noConfusion), if_pos h2]
  have shp0 : formB v = true → v.t.size ≤ 16384 → v.kids.length ≤ 200 → (v.k = 9 → fieldsB v = true) → shp v = 0 := fun h1 h2 h3 h4 => by
    unfold shp
    rw [if_neg (by rw [h1]; exact Bool.noConfusion), if_neg (by omega), if_neg (fun h => by have := h4 h.1; rw [this] at h; exact Bool.noConfusion h.2)]
  have hEt : noTextB v = true → v.t.size = 0 := fun h => of_decide_eq_true h
  have hPk : plainB v = true → v.kids.length = 0 := fun h => by rw [hP] at h; rw [Bool.and_eq_true] at h; exact of_decide_eq_true h.2
  have chk0 : shp v = 0 → v.kids.length = 0 → chk (m + 1) v = 0 := fun h1 h2 => by
    unfold chk
    rw [if_pos h1, List.eq_nil_of_length_eq_zero h2]
    rfl
  clear hE hP

  clear nr nsz hrow
  have q9 : ¬ v.k = 9 := by omega
  rcases q with q | q
  · skip
    by_cases a1 : v.n = 0
    · skip
      by_cases a2 : v.s = 0
      · skip
        cases hP1 : plainB v with
        | false =>
          rw [hP1] at hfc
          refine kgl ?_
          exact WQ.ret1 rfl rfl (bad3 (by rw [hfc]; simp [formC, *]))
        | true =>
          rw [hP1] at hfc
          by_cases a3 : 16384 < v.t.size
          · refine kgl ?_
            exact WQ.ret1 rfl rfl ⟨ret_i64 (chk_bad (shp5 (by rw [hfc]; simp [formC, *]) (.inl a3)) (by decide)).symm, hbel⟩
          · skip
            have h0 : shp v = 0 := shp0 (by rw [hfc]; simp [formC, *]) (by omega) (by have := hPk hP1; omega) (fun h => by omega)
            have hk0 : v.kids.length = 0 := hPk hP1
            refine kgl ?_
            refine WC.loop (fun _ : Unit => [(1, .int .i64 d), (2, .pointer (some ⟨g, 0, none⟩)), (8, .int .i64 0)]) (fun _ w' => w1 = w') (fun _ => 0) () ⟨rfl, rfl, rfl, trivial⟩ rfl ?_
            rintro _ _ rfl
            refine kgl ?_
            exact WQ.ret1 rfl rfl ⟨ret_i64 (chk0 h0 hk0).symm, hbel⟩
      · skip
        refine kgl ?_
        exact WQ.ret1 rfl rfl (bad3 (by rw [hfc]; simp [formC, *]))
    · skip
      refine kgl ?_
      exact WQ.ret1 rfl rfl (bad3 (by rw [hfc]; simp [formC, *]))
  · skip
    by_cases a1 : v.n = 0
    · skip
      by_cases a2 : v.s = 0
      · skip
        cases hP1 : plainB v with
        | false =>
          rw [hP1] at hfc
          refine kgl ?_
          exact WQ.ret1 rfl rfl (bad3 (by rw [hfc]; simp [formC, *]))
        | true =>
          rw [hP1] at hfc
          by_cases a3 : 16384 < v.t.size
          · refine kgl ?_
            exact WQ.ret1 rfl rfl ⟨ret_i64 (chk_bad (shp5 (by rw [hfc]; simp [formC, *]) (.inl a3)) (by decide)).symm, hbel⟩
          · skip
            have h0 : shp v = 0 := shp0 (by rw [hfc]; simp [formC, *]) (by omega) (by have := hPk hP1; omega) (fun h => by omega)
            have hk0 : v.kids.length = 0 := hPk hP1
            refine kgl ?_
            refine WC.loop (fun _ : Unit => [(1, .int .i64 d), (2, .pointer (some ⟨g, 0, none⟩)), (8, .int .i64 0)]) (fun _ w' => w1 = w') (fun _ => 0) () ⟨rfl, rfl, rfl, trivial⟩ rfl ?_
            rintro _ _ rfl
            refine kgl ?_
            exact WQ.ret1 rfl rfl ⟨ret_i64 (chk0 h0 hk0).symm, hbel⟩
      · skip
        refine kgl ?_
        exact WQ.ret1 rfl rfl (bad3 (by rw [hfc]; simp [formC, *]))
    · skip
      refine kgl ?_
      exact WQ.ret1 rfl rfl (bad3 (by rw [hfc]; simp [formC, *]))

set_option maxRecDepth 100000 in
set_option maxHeartbeats 16000000 in
theorem rchk_kx {f : Nat} {w : World} {v : V} {cs : List Value} {m : Nat} {d : Int} (hv : IsV (f + 1) w v cs) (q : ¬ (1 ≤ v.k ∧ v.k ≤ 9)) (_hd1 : d ≤ 16) (_hd0 : 0 ≤ d) :
    Calls Tryz.prog 99 #[.agg cs.toArray, .int .i64 d] w fun e w' => e = .returned (.int .i64 (chk (m + 1) v)) ∧ Below w.heap.size w w' := by
  obtain ⟨sn, sk, rfl, -, hn64, -, htz, ⟨np, nc, rfl, nl, nc2, nsz, nr⟩, ⟨sp, cap, rfl, hcap1, hcap2, hrow⟩⟩ := hv
  have hn : -9223372036854775808 ≤ v.n ∧ v.n ≤ 9223372036854775807 := by simp [Lit.wf, IntKind.min, IntKind.max, IntKind.bits, IntKind.signed] at hn64; omega
  clear hn64
  refine enter (args := [.agg (six v (.slice np v.names.length nc) (.slice sp v.kids.length cap)).toArray, .int .i64 d]) Tryz.func99 rfl Tryz.ntmps99 rfl ?_
  refine kgo ?_
  refine WL.box rfl rfl rfl rfl rfl fun g w1 hf => ?_
  have hR : VBlk 41 w1 g (six v (.slice np v.names.length nc) (.slice sp v.kids.length cap)) := hf.blk
  have hbel : Below w.heap.size w w1 := hf.below
  have c0 : w1.cell? ⟨g, 0, none⟩ = some (.int .i64 v.k) := hR.cell 0 (by simp)
  have c1 : w1.cell? ⟨g, 1, none⟩ = some (.int .i64 v.n) := hR.cell 1 (by simp)
  have c2 : w1.cell? ⟨g, 2, none⟩ = some (.int .i64 v.s) := hR.cell 2 (by simp)
  have c3 : w1.cell? ⟨g, 3, none⟩ = some (.string v.t) := hR.cell 3 (by simp)
  have c4 : w1.cell? ⟨g, 4, none⟩ = some (.slice np v.names.length nc) := hR.cell 4 (by simp)
  have c5 : w1.cell? ⟨g, 5, none⟩ = some (.slice sp v.kids.length cap) := hR.cell 5 (by simp)
  clear hf
  have hfc := formB_eq v
  have hB : bareB v = (decide (v.n = 0) && decide (v.s = 0)) := rfl
  have hP : plainB v = (decide (v.names.length = 0) && decide (v.kids.length = 0)) := rfl
  have hE := text_ne v
  have bad3 : formB v = false → Ending.returned (.int .i64 3) = .returned (.int .i64 (chk (m + 1) v)) ∧ Below w.heap.size w w1 := fun h => ⟨ret_i64 (chk_bad (shp_form3 h) (by decide)).symm, hbel⟩
  repeat (first | ((with_reducible refine WL.topT ?_ ?_); omega) | ((with_reducible refine WL.topF ?_ ?_); omega) | ((with_reducible refine WL.top64 ?_ ?_); omega) | refine WC.seq ?_ | refine WC.region ?_ | refine WL.nil ?_ | refine WC.skip ?_ | refine WC.exit ?_ | refine WC.ret ?_ | refine WQ.then rfl ?_ | refine WQ.thenExit ?_ | refine WQ.thenRet ?_ | refine WQ.blk ?_ | refine WQ.blkRet ?_ | refine WQ.blkHere rfl ?_ | refine WQ.blkOther rfl ?_ | refine WL.pure rfl rfl rfl rfl ?_ | refine WL.on rfl rfl ?_ | refine WL.off rfl rfl rfl ?_ | refine WL.load rfl rfl rfl rfl rfl rfl (by assumption) ?_ | refine WC.condTrue rfl ?_ | refine WC.condFalse rfl ?_)
  refine WL.as 5 (.bool (!noTextB v)) rfl (congrArg Value.bool hE) ?_
  refine WL.mid (fun _ : Unit => [(1, .int .i64 d), (2, .pointer (some ⟨g, 0, none⟩)), (5, .bool (!noTextB v)), (6, .bool (!plainB v))]) (fun _ w' => w1 = w') rfl ?_ ?_
  · by_cases hK : v.kids.length = 0
    · have hK0 : ¬ (0 : Int) < v.kids.length := by omega
      refine WL.as 19 (.bool false) rfl (congrArg Value.bool (decide_eq_false hK0)) ?_
      by_cases hN : v.names.length = 0
      · refine kgl ?_
        exact WQ.meet () ⟨rfl, rfl, rfl, congrArg (fun b => some (Value.bool b)) (by rw [hP]; simp [hN, hK]), trivial⟩ rfl
      · refine kgl ?_
        exact WQ.meet () ⟨rfl, rfl, rfl, congrArg (fun b => some (Value.bool b)) (by rw [hP]; simp [hN]), trivial⟩ rfl
    · have hK0 : (0 : Int) < v.kids.length := by omega
      refine WL.as 19 (.bool true) rfl (congrArg Value.bool (decide_eq_true hK0)) ?_
      refine kgl ?_
      exact WQ.meet () ⟨rfl, rfl, rfl, congrArg (fun b => some (Value.bool b)) (by rw [hP]; simp [hK]), trivial⟩ rfl
  rintro _ _ rfl
  have shp5 : formB v = true → (16384 < v.t.size ∨ 200 < v.kids.length) → shp v = 5 := fun h1 h2 => by unfold shp; rw [if_neg (by rw [h1]; exact Bool.noConfusion), if_pos h2]
  have shp0 : formB v = true → v.t.size ≤ 16384 → v.kids.length ≤ 200 → (v.k = 9 → fieldsB v = true) → shp v = 0 := fun h1 h2 h3 h4 => by
    unfold shp
    rw [if_neg (by rw [h1]; exact Bool.noConfusion), if_neg (by omega), if_neg (fun h => by have := h4 h.1; rw [this] at h; exact Bool.noConfusion h.2)]
  have hEt : noTextB v = true → v.t.size = 0 := fun h => of_decide_eq_true h
  have hPk : plainB v = true → v.kids.length = 0 := fun h => by rw [hP] at h; rw [Bool.and_eq_true] at h; exact of_decide_eq_true h.2
  have chk0 : shp v = 0 → v.kids.length = 0 → chk (m + 1) v = 0 := fun h1 h2 => by
    unfold chk
    rw [if_pos h1, List.eq_nil_of_length_eq_zero h2]
    rfl
  clear hE hP

  clear nr nsz hrow
  have hff : formB v = false := by
    rw [hfc]; unfold formC
    rw [if_neg (show ¬ v.k = 1 by omega), if_neg (show ¬ v.k = 2 by omega), if_neg (show ¬ v.k = 3 by omega), if_neg (show ¬ v.k = 4 by omega), if_neg (show ¬ v.k = 5 by omega), if_neg (show ¬ (v.k = 6 ∨ v.k = 7) by omega), if_neg (show ¬ v.k = 8 by omega), if_neg (show ¬ v.k = 9 by omega)]
  refine kgl ?_
  exact WQ.ret1 rfl rfl (bad3 hff)
end K
end Go.Proofs.YtlamdhekjlnccaaGreatDoor
