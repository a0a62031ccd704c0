/- digest.Node and the reference's: their contracts. -/
import Derived.Test.YtfdgclnjpbkggaaDoorDigPure
import Derived.Test.YtfdgclnjpbkggaaDoorStepApp
namespace Go.Proofs.YtfdgclnjpbkggaaDoor
open Go.RowKit
namespace Dig

theorem refSum_s (v : Value) (l : List Int) (w : World) (hv : Sl .u8 w v l) (hn : l.length ≤ 35184372088832) :
    Calls Tryd.prog 29 #[v] w fun e w' => e = .returned (.agg ((sumL l).map (Value.int .u8)).toArray) ∧ Below w.heap.size w w' := by
  rw [← refL_eq]; exact refSum_any v l w hv hn
theorem progSum_s (v : Value) (l : List Int) (w : World) (hv : Sl .u8 w v l) (hn : l.length ≤ 35184372088832) :
    Calls Tryd.prog 27 #[v] w fun e w' => e = .returned (.agg ((sumL l).map (Value.int .u8)).toArray) ∧ Below w.heap.size w w' :=
  sum_any v l w hv (by omega)
/-- A mark ahead, in a new block. -/
theorem mark_buf (W : World) (m : Int) : Buf .u8 5 (W.alloc (.cells #[.int .u8 m] 5)) W.heap.size (.slice (some ⟨W.heap.size, 0, none⟩) 1 1) [m] :=
  Buf.mk (k := .u8) (e := 5) (w := W) [m] [] (Nat.le_refl _) (by unfold maxLen; simp)
theorem blk_sl {W : World} {b : Nat} {l : List Int} (h : IBlk .u8 27 W b l) (hl : l.length = 32) : Sl .u8 W (.slice (some ⟨b, 0, none⟩) 32 32) l := by
  have := Sl.mk (k := .u8) (w := W) (b := b) (o := 0) (cap := 32) (l := l) (by omega) (by omega) h.lt h.row
  rw [hl] at this; exact this
theorem info25 (l : List Int) (hl : l.length = 32) : (Tryd.prog.info? 27).map (·.size) = some (l.map (Value.int .u8)).toArray.size := by
  rw [List.size_toArray, List.length_map, hl]; kernel_rfl
theorem size25 (l : List Int) (hl : l.length = 32) : (Z32.map (Value.int .u8)).toArray.size = (l.map (Value.int .u8)).toArray.size := by
  rw [List.size_toArray, List.length_map, List.size_toArray, List.length_map, hl]; rfl
theorem one25 (l : List Int) : (l.map (Value.int .u8)).toArray.all (·.oneCell') = true := by simp [Value.oneCell']
theorem sum_named (l : List Int) : ∃ hh : List Int, Hid2 (hh = sumL l) ∧ Hid2 (hh.length = 32) := ⟨sumL l, Hid2.mk rfl, Hid2.mk (sumL_length l)⟩
theorem step_store_row {P : Program} {ops : Array Oper} {o : Oper} {a : Act} {w : World} {K : Act → World → Prop} {Q : Exit → Act → World → Prop} {F : Prop} (hgd : o.guard = none) (ty : TypeId) (x y : Operand) (ho : o.op = .store ty x y)
    (g : Nat) (cells : Array Value) (hx : a.eval x = .pointer (some ⟨g, 0, none⟩)) (hy : a.eval y = .agg cells)
    (t : TypeId) (old : Array Value) (hg : w.heap[g]? = some (.cells old t (0, 0))) (hi : (P.info? ty).map (·.size) = some cells.size)
    (hold : old.size = cells.size) (h1 : cells.all (·.oneCell') = true)
    (h : K (a.put o.dst undef) (w.setRow g cells)) : if Region.wanted o (yielded ops a.tmps) = true then Oper.wp P o a w K Q else F := by
  rw [if_pos (by simp [Region.wanted, hgd])]
  exact wp_store_row ty x y ho g cells hx hy t old hg hi hold h1 h

set_option maxRecDepth 100000 in
set_option maxHeartbeats 1000000 in
theorem node_any (la lb : List Int) (w : World) (ha : la.length = 32) (hb : lb.length = 32) :
    Calls Tryd.prog 35 #[.agg (la.map (Value.int .u8)).toArray, .agg (lb.map (Value.int .u8)).toArray] w fun e w' => e = .returned (.agg ((sumL (1 :: (la ++ lb))).map (Value.int .u8)).toArray) ∧ Below w.heap.size w w' := by
  have el : [1] ++ la ++ lb = 1 :: (la ++ lb) := by simp
  have El := Hid2.mk el
  clear el
  have hz25 := zero25
  have Ha := Hid2.mk ha
  have Hb := Hid2.mk hb
  clear ha hb
  go_enter Tryd.func35, Tryd.ntmps35
  go_wp2_with fail
  clear hz25
  obtain ⟨hA, hB, hC, hbel, hsz⟩ := three_alloc w (.cells (la.map (Value.int .u8)).toArray 27) (.cells (lb.map (Value.int .u8)).toArray 27) (.cells (Z32.map (Value.int .u8)).toArray 27)
  generalize World.alloc _ _ = w0 at hA hB hC hbel hsz ⊢
  have hL : IBlk .u8 27 w0 w.heap.size la := hA
  have hR : IBlk .u8 27 w0 (w.heap.size + 1) lb := hB
  have hH : IBlk .u8 27 w0 (w.heap.size + 1 + 1) Z32 := hC
  clear hA hB hC
  refine wp_region_any (by kernel_rfl) ?_
  change wpAny _ _ _ _ _ _ _ (World.drew _)
  obtain ⟨w1, hw1⟩ : ∃ w1, w1 = w0.drew := ⟨_, rfl⟩
  have hL1 : IBlk .u8 27 w1 w.heap.size la := by rw [hw1]; exact hL
  have hR1 : IBlk .u8 27 w1 (w.heap.size + 1) lb := by rw [hw1]; exact hR
  have hH1 : IBlk .u8 27 w1 (w.heap.size + 1 + 1) Z32 := by rw [hw1]; exact hH
  have hbel1 : Below w.heap.size w w1 := by rw [hw1]; exact hbel.drew
  have hs1 : w.heap.size + 3 ≤ w1.heap.size := by rw [hw1]; exact Nat.le_of_eq hsz.symm
  rw [← hw1]
  clear hw1 hL hR hH hbel hsz
  refine wpAny_take (i := 1) (v := .slice (some ⟨w.heap.size, 0, none⟩) 32 32) rfl (by kernel_rfl) (by kernel_rfl) (by kernel_rfl) (fun _ _ _ h => h) (Or.inl ⟨by rfl, ?_⟩) ?_
  · intro W; go_simp
  refine wpAny_take (i := 3) (v := .slice (some ⟨w.heap.size + 1, 0, none⟩) 32 32) rfl (by kernel_rfl) (by kernel_rfl) (by kernel_rfl) (fun _ _ _ h => h) (Or.inl ⟨by rfl, ?_⟩) ?_
  · intro W; go_simp
  refine wpAny_ready (rs := [0]) (by kernel_rfl) (by simp) ?_
  refine AllReady.cons rfl (fun K hK => ?_) AllReady.nil
  go_simp
  refine hK _ _ ?_
  clear hK K
  have hbuf := mark_buf w1 1
  have hslL : Sl .u8 (w1.alloc (.cells #[.int .u8 1] 5)) (.slice (some ⟨w.heap.size, 0, none⟩) 32 32) la := blk_sl (hL1.alloc _) Ha.out
  have hR2 := hR1.alloc (.cells #[.int .u8 1] 5)
  have hH2 := hH1.alloc (.cells #[.int .u8 1] 5)
  have hbel2 : Below w.heap.size w (w1.alloc (.cells #[.int .u8 1] 5)) := hbel1.alloc (by omega) _
  have hs2 : (w1.alloc (.cells #[.int .u8 1] 5)).heap.size = w1.heap.size + 1 := by simp
  generalize World.alloc _ _ = w2 at hbuf hslL hR2 hH2 hbel2 hs2 ⊢
  clear hL1 hR1 hH1 hbel1
  refine wpAny_ready (rs := [2]) (by kernel_rfl) (by simp) ?_
  refine AllReady.cons rfl (fun K hK => ?_) AllReady.nil
  refine step_app rfl (.tmp 5) (.tmp 6) 60 rfl elemBytes w1.heap.size _ [1] rfl hbuf _ la rfl hslL 33 (by rw [Ha.out]; rfl) (by unfold maxLen; omega) (by omega) (by omega) ?_
  intro sp3 c3 w3 hb3 hk3
  refine hK _ _ ?_
  clear hK K hbuf hslL
  have hs3 := hk3.size
  have hR3 := hR2.keep hk3 (by omega)
  have hH3 := hH2.keep hk3 (by omega)
  have hbel3 : Below w.heap.size w w3 := hbel2.trans (hk3.mono (fun k (hk : k < w.heap.size) => by omega)).below
  have hslR : Sl .u8 w3 (.slice (some ⟨w.heap.size + 1, 0, none⟩) 32 32) lb := blk_sl hR3 Hb.out
  refine wpAny_ready (rs := [4]) (by kernel_rfl) (by simp) ?_
  refine AllReady.cons rfl (fun K hK => ?_) AllReady.nil
  refine step_app rfl (.tmp 7) (.tmp 8) 60 rfl elemBytes w1.heap.size _ ([1] ++ la) rfl hb3 _ lb rfl hslR 65 (by rw [List.length_append, Ha.out, Hb.out]; rfl) (by unfold maxLen; omega) (by omega) (by omega) ?_
  intro sp4 c4 w4 hb4 hk4
  refine hK _ _ ?_
  clear hK K hb3 hslR
  have hs4 := hk4.size
  have hH4 := hH3.keep hk4 (by omega)
  have hbel4 : Below w.heap.size w w4 := hbel3.trans (hk4.mono (fun k (hk : k < w.heap.size) => by omega)).below
  have hsl4 := hb4.sl
  have hl4 : ([1] ++ la ++ lb).length ≤ 35184372088832 := by rw [List.length_append, List.length_append, Ha.out, Hb.out]; decide
  refine wpAny_ready (rs := [5]) (by kernel_rfl) (by simp) ?_
  refine AllReady.cons rfl (fun K hK => ?_) AllReady.nil
  go_simp
  refine (progSum_s _ _ _ hsl4 hl4).mono ?_
  rintro e w5 ⟨rfl, hb5⟩
  refine hK _ _ ?_
  clear hK K hb4 hsl4 hl4 hk3 hk4 hR2 hR3
  have hH5 := hH4.below hb5 hH4.lt
  have hbel5 : Below w.heap.size w w5 := hbel4.trans (hb5.mono hbel4.size)
  obtain ⟨hh, Hhe, Hhl⟩ := sum_named ([1] ++ la ++ lb)
  rw [← Hhe.out]
  have HgH : Hid2 (w5.heap[w.heap.size + 1 + 1]? = some (.cells (Z32.map (Value.int .u8)).toArray 27 (0, 0))) := Hid2.mk hH5
  clear hH5 hH4 hH3 hH2 hb5
  refine wpAny_ready (rs := [6]) (by kernel_rfl) (by simp) ?_
  refine AllReady.cons rfl (fun K hK => ?_) AllReady.nil
  refine step_store_row rfl 27 (.tmp 4) (.tmp 10) rfl (w.heap.size + 1 + 1) (hh.map (Value.int .u8)).toArray rfl rfl 27 (Z32.map (Value.int .u8)).toArray HgH.out (info25 hh Hhl.out) (size25 hh Hhl.out) (one25 hh) ?_
  refine hK _ _ ?_
  clear hK K
  refine wpAny_done (by kernel_rfl) ?_ _
  go_wp2_with fail
  refine bodyPost_ret (results_cell_row rfl _ _ (w.heap.size + 1 + 1) 27 (hh.map (Value.int .u8)).toArray (0, 0) _ rfl (setRow_heap _ _ _ _ _ _ HgH.out) Tryd.underlying27 rfl (info25 hh Hhl.out)) rfl ⟨by rw [Hhe.out, El.out], ?_⟩
  exact below_setRow hbel5 (by omega) _


set_option maxRecDepth 100000 in
set_option maxHeartbeats 1000000 in
theorem refNode_any (la lb : List Int) (w : World) (ha : la.length = 32) (hb : lb.length = 32) :
    Calls Tryd.prog 13 #[.agg (la.map (Value.int .u8)).toArray, .agg (lb.map (Value.int .u8)).toArray] w fun e w' => e = .returned (.agg ((sumL (1 :: (la ++ lb))).map (Value.int .u8)).toArray) ∧ Below w.heap.size w w' := by
  have el : [1] ++ la ++ lb = 1 :: (la ++ lb) := by simp
  have El := Hid2.mk el
  clear el
  have hz25 := zero25
  have Ha := Hid2.mk ha
  have Hb := Hid2.mk hb
  clear ha hb
  go_enter Tryd.func13, Tryd.ntmps13
  go_wp2_with fail
  clear hz25
  obtain ⟨hA, hB, hC, hbel, hsz⟩ := three_alloc w (.cells (la.map (Value.int .u8)).toArray 27) (.cells (lb.map (Value.int .u8)).toArray 27) (.cells (Z32.map (Value.int .u8)).toArray 27)
  generalize World.alloc _ _ = w0 at hA hB hC hbel hsz ⊢
  have hL : IBlk .u8 27 w0 w.heap.size la := hA
  have hR : IBlk .u8 27 w0 (w.heap.size + 1) lb := hB
  have hH : IBlk .u8 27 w0 (w.heap.size + 1 + 1) Z32 := hC
  clear hA hB hC
  refine wp_region_any (by kernel_rfl) ?_
  change wpAny _ _ _ _ _ _ _ (World.drew _)
  obtain ⟨w1, hw1⟩ : ∃ w1, w1 = w0.drew := ⟨_, rfl⟩
  have hL1 : IBlk .u8 27 w1 w.heap.size la := by rw [hw1]; exact hL
  have hR1 : IBlk .u8 27 w1 (w.heap.size + 1) lb := by rw [hw1]; exact hR
  have hH1 : IBlk .u8 27 w1 (w.heap.size + 1 + 1) Z32 := by rw [hw1]; exact hH
  have hbel1 : Below w.heap.size w w1 := by rw [hw1]; exact hbel.drew
  have hs1 : w.heap.size + 3 ≤ w1.heap.size := by rw [hw1]; exact Nat.le_of_eq hsz.symm
  rw [← hw1]
  clear hw1 hL hR hH hbel hsz
  refine wpAny_take (i := 1) (v := .slice (some ⟨w.heap.size, 0, none⟩) 32 32) rfl (by kernel_rfl) (by kernel_rfl) (by kernel_rfl) (fun _ _ _ h => h) (Or.inl ⟨by rfl, ?_⟩) ?_
  · intro W; go_simp
  refine wpAny_take (i := 3) (v := .slice (some ⟨w.heap.size + 1, 0, none⟩) 32 32) rfl (by kernel_rfl) (by kernel_rfl) (by kernel_rfl) (fun _ _ _ h => h) (Or.inl ⟨by rfl, ?_⟩) ?_
  · intro W; go_simp
  refine wpAny_ready (rs := [0]) (by kernel_rfl) (by simp) ?_
  refine AllReady.cons rfl (fun K hK => ?_) AllReady.nil
  go_simp
  refine hK _ _ ?_
  clear hK K
  have hbuf := mark_buf w1 1
  have hslL : Sl .u8 (w1.alloc (.cells #[.int .u8 1] 5)) (.slice (some ⟨w.heap.size, 0, none⟩) 32 32) la := blk_sl (hL1.alloc _) Ha.out
  have hR2 := hR1.alloc (.cells #[.int .u8 1] 5)
  have hH2 := hH1.alloc (.cells #[.int .u8 1] 5)
  have hbel2 : Below w.heap.size w (w1.alloc (.cells #[.int .u8 1] 5)) := hbel1.alloc (by omega) _
  have hs2 : (w1.alloc (.cells #[.int .u8 1] 5)).heap.size = w1.heap.size + 1 := by simp
  generalize World.alloc _ _ = w2 at hbuf hslL hR2 hH2 hbel2 hs2 ⊢
  clear hL1 hR1 hH1 hbel1
  refine wpAny_ready (rs := [2]) (by kernel_rfl) (by simp) ?_
  refine AllReady.cons rfl (fun K hK => ?_) AllReady.nil
  refine step_app rfl (.tmp 5) (.tmp 6) 60 rfl elemBytes w1.heap.size _ [1] rfl hbuf _ la rfl hslL 33 (by rw [Ha.out]; rfl) (by unfold maxLen; omega) (by omega) (by omega) ?_
  intro sp3 c3 w3 hb3 hk3
  refine hK _ _ ?_
  clear hK K hbuf hslL
  have hs3 := hk3.size
  have hR3 := hR2.keep hk3 (by omega)
  have hH3 := hH2.keep hk3 (by omega)
  have hbel3 : Below w.heap.size w w3 := hbel2.trans (hk3.mono (fun k (hk : k < w.heap.size) => by omega)).below
  have hslR : Sl .u8 w3 (.slice (some ⟨w.heap.size + 1, 0, none⟩) 32 32) lb := blk_sl hR3 Hb.out
  refine wpAny_ready (rs := [4]) (by kernel_rfl) (by simp) ?_
  refine AllReady.cons rfl (fun K hK => ?_) AllReady.nil
  refine step_app rfl (.tmp 7) (.tmp 8) 60 rfl elemBytes w1.heap.size _ ([1] ++ la) rfl hb3 _ lb rfl hslR 65 (by rw [List.length_append, Ha.out, Hb.out]; rfl) (by unfold maxLen; omega) (by omega) (by omega) ?_
  intro sp4 c4 w4 hb4 hk4
  refine hK _ _ ?_
  clear hK K hb3 hslR
  have hs4 := hk4.size
  have hH4 := hH3.keep hk4 (by omega)
  have hbel4 : Below w.heap.size w w4 := hbel3.trans (hk4.mono (fun k (hk : k < w.heap.size) => by omega)).below
  have hsl4 := hb4.sl
  have hl4 : ([1] ++ la ++ lb).length ≤ 35184372088832 := by rw [List.length_append, List.length_append, Ha.out, Hb.out]; decide
  refine wpAny_ready (rs := [5]) (by kernel_rfl) (by simp) ?_
  refine AllReady.cons rfl (fun K hK => ?_) AllReady.nil
  go_simp
  refine (refSum_s _ _ _ hsl4 hl4).mono ?_
  rintro e w5 ⟨rfl, hb5⟩
  refine hK _ _ ?_
  clear hK K hb4 hsl4 hl4 hk3 hk4 hR2 hR3
  have hH5 := hH4.below hb5 hH4.lt
  have hbel5 : Below w.heap.size w w5 := hbel4.trans (hb5.mono hbel4.size)
  obtain ⟨hh, Hhe, Hhl⟩ := sum_named ([1] ++ la ++ lb)
  rw [← Hhe.out]
  have HgH : Hid2 (w5.heap[w.heap.size + 1 + 1]? = some (.cells (Z32.map (Value.int .u8)).toArray 27 (0, 0))) := Hid2.mk hH5
  clear hH5 hH4 hH3 hH2 hb5
  refine wpAny_ready (rs := [6]) (by kernel_rfl) (by simp) ?_
  refine AllReady.cons rfl (fun K hK => ?_) AllReady.nil
  refine step_store_row rfl 27 (.tmp 4) (.tmp 10) rfl (w.heap.size + 1 + 1) (hh.map (Value.int .u8)).toArray rfl rfl 27 (Z32.map (Value.int .u8)).toArray HgH.out (info25 hh Hhl.out) (size25 hh Hhl.out) (one25 hh) ?_
  refine hK _ _ ?_
  clear hK K
  refine wpAny_done (by kernel_rfl) ?_ _
  go_wp2_with fail
  refine bodyPost_ret (results_cell_row rfl _ _ (w.heap.size + 1 + 1) 27 (hh.map (Value.int .u8)).toArray (0, 0) _ rfl (setRow_heap _ _ _ _ _ _ HgH.out) Tryd.underlying27 rfl (info25 hh Hhl.out)) rfl ⟨by rw [Hhe.out, El.out], ?_⟩
  exact below_setRow hbel5 (by omega) _


end Dig
end Go.Proofs.YtfdgclnjpbkggaaDoor
