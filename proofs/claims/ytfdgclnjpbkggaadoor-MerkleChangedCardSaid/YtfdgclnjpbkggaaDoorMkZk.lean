/- The reference's both, left (printed by gen_refboth.py). -/
import Derived.Test.YtfdgclnjpbkggaaDoorMkZj
namespace Go.Proofs.YtfdgclnjpbkggaaDoor
open Go.RowKit Go.Maps
namespace Mk

set_option maxRecDepth 100000 in
set_option maxHeartbeats 8000000 in
theorem refBoth_left {m n : Nat} (ih : UpsIH n) {whole : Bool} {w : World} {O : Nat → Prop} {v : Value} {q : List H} {x a : H} (hlen : a.length = 32) (hne : ¬ m = n) (h1 : 1 ≤ m) (hmn : m ≤ n) (hn : n ≤ 1099511627776) (hs : HS w O v (q ++ [x])) (hik : m ≤ half n) :
    Calls Tryd.prog 39 #[.int .i64 (m : Nat), .int .i64 (n : Nat), .bool whole, v, .agg (a.map (Value.int .u8)).toArray] w (U2Post w (upsP m n whole (q ++ [x]) a)) := by
  have hz := zeroHash
  obtain ⟨hb, hA, hX, hY⟩ := three_new w a
  have HA := Hid2.mk hA
  have HX := Hid2.mk hX
  have HY := Hid2.mk hY
  have HB := Hid2.mk hb
  have h2 : 2 ≤ n := by omega
  have Hih := Hid2.mk ih
  have hs1 := hs.below hb (Nat.le_refl _)
  unfold tN at HA HX HY HB hs1 hb
  clear hA hX hY ih hs
  have hn2 : ((m : Int) == n) = false := beq_eq_false_iff_ne.2 (by omega)
  have hkl := half_lt h2
  have hkp := half_pos n
  obtain ⟨b, o, cap, rfl, hc, hc', hblt, -, hxl, hrow⟩ := hs1.at q.length (by simp)
  have ex : (q ++ [x]).getD q.length [] = x := by simp
  rw [ex] at hxl hrow
  have el : (q ++ [x]).length = q.length + 1 := by simp
  rw [el] at hc hs1 ⊢
  have hq1 := hs1.take (k := q.length) (by omega)
  have eq1 : (q ++ [x]).take q.length = q := by simp
  rw [eq1] at hq1
  have g0 : ((q.length : Int) + 1 == 0) = false := beq_eq_false_iff_ne.2 (by omega)
  have g00 : (((q.length + 1 : Nat) : Int) == 0) = false := beq_eq_false_iff_ne.2 (by omega)
  have gq : (q.length : Int) ≤ cap := by omega
  have gq2 : (q.length : Int) < ((q.length + 1 : Nat) : Int) := by omega
  have gq3 : (q.length : Int) < (q.length : Int) + 1 := by omega
  obtain ⟨q1, q2, q3⟩ := alloc_store (((w.alloc (.cells (a.map (Value.int .u8)).toArray 27)).alloc (.cells (Dig.Z32.map (Value.int .u8)).toArray 27)).alloc (.cells (Dig.Z32.map (Value.int .u8)).toArray 27)) x
  have es : (((w.alloc (.cells (a.map (Value.int .u8)).toArray 27)).alloc (.cells (Dig.Z32.map (Value.int .u8)).toArray 27)).alloc (.cells (Dig.Z32.map (Value.int .u8)).toArray 27)).heap.size = w.heap.size + 1 + 1 + 1 := by simp
  have HQ3 := Hid2.mk (hq1.below q3 (Nat.le_refl _))
  have HA3 := Hid2.mk (HA.out.below q3 HA.out.lt)
  have HX3 := Hid2.mk (HX.out.below q3 HX.out.lt)
  have HY3 := Hid2.mk (HY.out.below q3 HY.out.lt)
  have HB3 := Hid2.mk (hb.trans (q3.mono hb.size))
  rw [es] at q1 q2 HQ3 HA3 HX3 HY3 HB3
  have Q1 := Hid2.mk q1
  have HQX3 := Hid2.mk q2
  have Hrow := Hid2.mk hrow
  clear q1 q2 q3 es hrow hq1 hs1 hb ex el eq1 HA HX HY HB
  have Hp := Hid2.mk (ups_left (whole := whole) (a := a) (q := q) (x := x) hne h2 hik)
  clear hne
  go_enter Tryd.func39, Tryd.ntmps39
  go_wp2_with (first
    | (refine wpList_load_mid rfl 27 (.tmp 51) rfl b (o + q.length * 32) rfl (x.map (Value.int .u8)) _ Hrow.out Tryd.underlying27 rfl (infoL x hxl) ?_)
    | (refine wpList_store_row rfl 27 (.tmp 13) (.tmp 52) rfl (w.heap.size + 1 + 1 + 1) (x.map (Value.int .u8)).toArray rfl rfl 27 (Dig.Z32.map (Value.int .u8)).toArray Q1.out (infoH x hxl) (sizeH _ _ z32_len hxl) (oneH _) ?_
       generalize World.setRow _ _ _ = w3 at HQX3 HA3 HX3 HY3 HB3 HQ3 ⊢))
  refine (refHalf_big n _ h2 hn).mono ?_
  rintro e w' ⟨rfl, rfl⟩
  generalize hk : half n = k at hkl hkp hik Hp ⊢
  clear hk
  have hik2 : (m : Int) ≤ k := by omega
  go_wp2_with (first | (refine wpList_load_row rfl 27 (.tmp 9) rfl w.heap.size rfl 27 (a.map (Value.int .u8)).toArray (0, 0) _ HA3.out Tryd.underlying27 rfl (infoH a hlen) ?_))
  refine (Hih.out k hkl hlen h1 (by omega) (by omega) HQ3.out).mono ?_
  rintro e w4 ⟨rfl, hl1, hl2, hb4⟩
  generalize upsP m k whole q a = c at Hp hl1 hl2 ⊢
  obtain ⟨⟨p1, p2⟩, ok⟩ := c
  simp only at Hp hl1 hl2
  have HX4 := Hid2.mk (HX3.out.below hb4 HX3.out.lt)
  have HY4 := Hid2.mk (HY3.out.below hb4 HY3.out.lt)
  have HQX4 := Hid2.mk (HQX3.out.below hb4 HQX3.out.lt)
  have HB4 := Hid2.mk (HB3.out.trans (hb4.mono HB3.out.size))
  obtain ⟨q0, q1, q2⟩ := two_new w4 Dig.Z32
  have qm := q2.setRow_other (g := w4.heap.size) (p1.map (Value.int .u8)).toArray (by omega)
  have Q2 := Hid2.mk q1
  have Qm := Hid2.mk qm
  have QA := Hid2.mk ((q1.setRow (p1.map (Value.int .u8))).setRow_other (g := w4.heap.size + 1) (p2.map (Value.int .u8)).toArray (by omega))
  have QB := Hid2.mk (qm.setRow (p2.map (Value.int .u8)))
  have q3 := below_setRow (below_setRow q0 (Nat.le_refl _) (p1.map (Value.int .u8)).toArray) (show w4.heap.size ≤ w4.heap.size + 1 by omega) (p2.map (Value.int .u8)).toArray
  have HX5 := Hid2.mk (HX4.out.below q3 HX4.out.lt)
  have HY5 := Hid2.mk (HY4.out.below q3 HY4.out.lt)
  have HQX5 := Hid2.mk (HQX4.out.below q3 HQX4.out.lt)
  have HB5 := Hid2.mk (HB4.out.trans (q3.mono HB4.out.size))
  have hlt4 : w.heap.size + 1 + 1 + 1 < w4.heap.size := HQX4.out.lt
  clear q0 q1 q2 q3 qm hb4 HA3 HX3 HY3 HB3 HQX3 HX4 HY4 HB4 HQX4 HQ3 Hih
  go_wp2_with (first
    | (refine wpList_store_row rfl 27 (.tmp 16) (.tmp 70) rfl w4.heap.size (p1.map (Value.int .u8)).toArray rfl rfl 27 (Dig.Z32.map (Value.int .u8)).toArray Q2.out (infoH p1 hl1) (sizeH _ _ z32_len hl1) (oneH _) ?_)
    | (refine wpList_store_row rfl 27 (.tmp 17) (.tmp 71) rfl (w4.heap.size + 1) (p2.map (Value.int .u8)).toArray rfl rfl 27 (Dig.Z32.map (Value.int .u8)).toArray Qm.out (infoH p2 hl2) (sizeH _ _ z32_len hl2) (oneH _) ?_
       generalize World.setRow (World.setRow _ _ _) _ _ = w5 at QA QB HX5 HY5 HQX5 HB5 ⊢))
  clear Q2 Qm
  refine wp_region_till 5 (fun W => VBlk 27 W w4.heap.size (p1.map (Value.int .u8)) ∧ VBlk 27 W (w4.heap.size + 1) (p2.map (Value.int .u8)) ∧ VBlk 27 W (w.heap.size + 1 + 1 + 1) (x.map (Value.int .u8))) (by kernel_rfl) ?_
  have hd1 : Below w5.heap.size w5 w5.drew := belowN (Below.refl w5.heap.size w5) 1
  have hS : VBlk 27 w5.drew w4.heap.size (p1.map (Value.int .u8)) ∧ VBlk 27 w5.drew (w4.heap.size + 1) (p2.map (Value.int .u8)) ∧ VBlk 27 w5.drew (w.heap.size + 1 + 1 + 1) (x.map (Value.int .u8)) := ⟨QA.out.drewN 1, QB.out.drewN 1, HQX5.out.drewN 1⟩
  have HX6 := Hid2.mk (HX5.out.below hd1 HX5.out.lt)
  have HY6 := Hid2.mk (HY5.out.below hd1 HY5.out.lt)
  have HB6 := Hid2.mk (HB5.out.trans (hd1.mono HB5.out.size))
  have QS6 := Hid2.mk hS
  clear QA QB HX5 HY5 HQX5 HB5
  refine till_read (i := 0) (v := .agg (p1.map (Value.int .u8)).toArray) [5] rfl (by kernel_rfl) (by kernel_rfl) (by kernel_rfl) (by kernel_rfl) (by kernel_rfl) (fun _ _ _ h => h) (by rfl) (fun W hW => exec_load_blk 27 (.tmp 16) rfl w4.heap.size rfl _ _ (range_vblk hW.1) Tryd.underlying27 rfl (infoL p1 hl1)) hS ?_
  refine till_read (i := 1) (v := .agg (p2.map (Value.int .u8)).toArray) [3, 5] rfl (by kernel_rfl) (by kernel_rfl) (by kernel_rfl) (by kernel_rfl) (by kernel_rfl) (fun _ _ _ h => h) (by rfl) (fun W hW => exec_load_blk 27 (.tmp 17) rfl (w4.heap.size + 1) rfl _ _ (range_vblk hW.2.1) Tryd.underlying27 rfl (infoL p2 hl2)) hS ?_
  refine till_read (i := 2) (v := .agg (x.map (Value.int .u8)).toArray) [3, 5] rfl (by kernel_rfl) (by kernel_rfl) (by kernel_rfl) (by kernel_rfl) (by kernel_rfl) (fun _ _ _ h => h) (by rfl) (fun W hW => exec_load_blk 27 (.tmp 13) rfl (w.heap.size + 1 + 1 + 1) rfl _ _ (range_vblk hW.2.2) Tryd.underlying27 rfl (infoL x hxl)) hS ?_
  refine till_free (i := 4) rfl (by kernel_rfl) (by kernel_rfl) (by kernel_rfl) rfl (fun _ _ _ h => h) (.inr hS) (by rfl) (fun _ => by first | (go_simp; done) | (go_simp; with_reducible rfl)) ?_
  clear hS
  have hlenN := nodeP_len p2 x
  try conv => { arg 9; simp [go_sem] }
  refine till_call (i := 3) (by kernel_rfl) rfl (by rfl) (by go_simp; exact ⟨rfl, rfl⟩) ?_
  refine (refNode_a _ hl2 hxl).mono ?_
  rintro e w7 ⟨rfl, hb7⟩
  have HX7 := Hid2.mk (HX6.out.below hb7 HX6.out.lt)
  have HY7 := Hid2.mk (HY6.out.below hb7 HY6.out.lt)
  have HB7 := Hid2.mk (HB6.out.trans (hb7.mono HB6.out.size))
  have QS7 := Hid2.mk (show VBlk 27 w7 w4.heap.size (p1.map (Value.int .u8)) ∧ VBlk 27 w7 (w4.heap.size + 1) (p2.map (Value.int .u8)) ∧ VBlk 27 w7 (w.heap.size + 1 + 1 + 1) (x.map (Value.int .u8)) from ⟨QS6.out.1.below hb7 QS6.out.1.lt, QS6.out.2.1.below hb7 QS6.out.2.1.lt, QS6.out.2.2.below hb7 QS6.out.2.2.lt⟩)
  refine ⟨_, rfl, .inr QS7.out, ?_⟩
  clear hb7 HX6 HY6 HB6 QS6
  generalize nodeP p2 x = rr at Hp hlenN ⊢
  have HX8 := HX7.out
  have HY8 := HY7.out
  try conv => { arg 9; simp [go_sem] }
  refine till_store (i := 5) (by kernel_rfl) rfl rfl 27 (.tmp 10) (.tmp 73) rfl (w.heap.size + 1) (p1.map (Value.int .u8)).toArray (by go_simp) (by go_simp) 27 (Dig.Z32.map (Value.int .u8)).toArray HX8 (infoH p1 hl1) (sizeH _ _ z32_len hl1) (oneH _) (.inl rfl) ?_
  have HYn := HY8.setRow_other (g := w.heap.size + 1) (p1.map (Value.int .u8)).toArray (by omega)
  try conv => { arg 9; simp [go_sem] }
  refine till_store (i := 6) (by kernel_rfl) rfl rfl 27 (.tmp 11) (.tmp 76) rfl (w.heap.size + 1 + 1) (rr.map (Value.int .u8)).toArray (by go_simp) (by go_simp) 27 (Dig.Z32.map (Value.int .u8)).toArray HYn (infoH rr hlenN) (sizeH _ _ z32_len hlenN) (oneH _) (.inl rfl) ?_
  refine till_free (i := 7) rfl (by kernel_rfl) (by kernel_rfl) (by kernel_rfl) rfl (fun _ _ _ h => h) (.inl rfl) (by rfl) (fun _ => by first | (go_simp; done) | (go_simp; with_reducible rfl)) ?_
  refine till_done (by kernel_rfl) ?_ _
  have HXf := (HX8.setRow (p1.map (Value.int .u8))).setRow_other (g := w.heap.size + 1 + 1) (rr.map (Value.int .u8)).toArray (by omega)
  have HYf := HYn.setRow (rr.map (Value.int .u8))
  have HBf := Hid2.mk (below_setRow (below_setRow HB7.out (show w.heap.size ≤ w.heap.size + 1 by omega) (p1.map (Value.int .u8)).toArray) (show w.heap.size ≤ w.heap.size + 1 + 1 by omega) (rr.map (Value.int .u8)).toArray)
  clear HYn HX8 HY8
  go_wp2_with fail
  refine bodyPost_ret (results_cells_tmp rfl _ _ (w.heap.size + 1) (w.heap.size + 1 + 1) 27 (p1.map (Value.int .u8)).toArray (rr.map (Value.int .u8)).toArray (0, 0) _ (.bool ok) rfl rfl HXf HYf Tryd.underlying27 rfl (infoH p1 hl1) (infoH rr hlenN) rfl) rfl ?_
  unfold U2Post
  rw [Hp.out]
  exact ⟨rfl, hl1, hlenN, HBf.out⟩

end Mk
end Go.Proofs.YtfdgclnjpbkggaaDoor
