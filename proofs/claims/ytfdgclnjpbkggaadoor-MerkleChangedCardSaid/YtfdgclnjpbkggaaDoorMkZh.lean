/- The reference's Up, right (printed by gen_up.py). -/
import Derived.Test.YtfdgclnjpbkggaaDoorMkZf
namespace Go.Proofs.YtfdgclnjpbkggaaDoor
open Go.RowKit Go.Maps
namespace Mk

set_option maxRecDepth 100000 in
set_option maxHeartbeats 8000000 in
theorem refUp_right {n : Nat} (ih : UpIH n) {w : World} {O : Nat → Prop} {v : Value} {q : List H} {x h : H} {i : Nat} (hlen : h.length = 32) (h2 : 2 ≤ n) (hn : n ≤ 1099511627776) (hi : i < n) (hs : HS w O v (q ++ [x])) (hik : ¬ i < half n) :
    Calls Tryd.prog 37 #[.agg (h.map (Value.int .u8)).toArray, .int .i64 (i : Nat), .int .i64 (n : Nat), v] w (UpPost w (upP h i n (q ++ [x]))) := by
  have hz := zeroHash
  obtain ⟨hb, hL, hR⟩ := two_new w h
  have Hih := Hid2.mk ih
  have HL := Hid2.mk hL
  have HR := Hid2.mk hR
  have HB := Hid2.mk hb
  have hs1 := hs.below hb (Nat.le_refl _)
  clear hL hR ih hs
  have hn2 : ((n : Int) == 1) = false := beq_eq_false_iff_ne.2 (by omega)
  have hkl := half_lt h2
  have hkp := half_pos n
  obtain ⟨b, o, cap, rfl, hc, hc', hblt, -, hxl, hrow⟩ := hs1.at q.length (by simp)
  have ex : (q ++ [x]).getD q.length [] = x := by simp
  rw [ex] at hxl hrow
  have el : (q ++ [x]).length = q.length + 1 := by simp
  rw [el] at hc hs1 ⊢
  have hq1 := hs1.take (k := q.length) (by omega)
  have eq1 : (q ++ [x]).take q.length = q := by simp
  rw [eq1] at hq1
  have g0 : ((q.length : Int) + 1 == 0) = false := beq_eq_false_iff_ne.2 (by omega)
  have g00 : (((q.length + 1 : Nat) : Int) == 0) = false := beq_eq_false_iff_ne.2 (by omega)
  have gq : (q.length : Int) ≤ cap := by omega
  have gq2 : (q.length : Int) < ((q.length + 1 : Nat) : Int) := by omega
  have gq3 : (q.length : Int) < (q.length : Int) + 1 := by omega
  obtain ⟨q1, q2, q3⟩ := alloc_store ((w.alloc (.cells (h.map (Value.int .u8)).toArray 27)).alloc (.cells (Dig.Z32.map (Value.int .u8)).toArray 27)) x
  have es : ((w.alloc (.cells (h.map (Value.int .u8)).toArray 27)).alloc (.cells (Dig.Z32.map (Value.int .u8)).toArray 27)).heap.size = w.heap.size + 1 + 1 := by simp
  have HQ3 := Hid2.mk (hq1.below q3 (Nat.le_refl _))
  have HL3 := Hid2.mk (HL.out.below q3 HL.out.lt)
  have HR3 := Hid2.mk (HR.out.below q3 HR.out.lt)
  have HB3 := Hid2.mk (hb.trans (q3.mono hb.size))
  rw [es] at q1 q2 HQ3 HL3 HR3 HB3
  have Q1 := Hid2.mk q1
  have QX := Hid2.mk q2
  have Hrow := Hid2.mk hrow
  clear q1 q2 q3 es hrow hq1 hs1 hb ex el eq1 HL HR HB
  have Hp := Hid2.mk (up_right (h := h) (q := q) (x := x) h2 hik)
  go_enter Tryd.func37, Tryd.ntmps37
  go_wp2_with (first
    | (refine wpList_load_mid rfl 27 (.tmp 30) rfl b (o + q.length * 32) rfl (x.map (Value.int .u8)) _ Hrow.out Tryd.underlying27 rfl (infoL x hxl) ?_)
    | (refine wpList_store_row rfl 27 (.tmp 10) (.tmp 31) rfl (w.heap.size + 1 + 1) (x.map (Value.int .u8)).toArray rfl rfl 27 (Dig.Z32.map (Value.int .u8)).toArray Q1.out (infoH x hxl) (sizeH _ _ z32_len hxl) (oneH _) ?_
       generalize World.setRow _ _ _ = w3 at QX HL3 HR3 HB3 HQ3 ⊢))
  refine (refHalf_big n _ h2 hn).mono ?_
  rintro e w' ⟨rfl, rfl⟩
  generalize hk : half n = k at hkl hkp hik Hp ⊢
  clear hk
  have hik2 : (k : Int) ≤ i := by omega
  have hii : (i : Int) < n := by omega
  have hwi : IntKind.i64.wrap ((i : Int) - k) = ((i - k : Nat) : Int) := by
    have e : (i : Int) - k = ((i - k : Nat) : Int) := by omega
    rw [e]; exact IntWalk.i64_in _ (by omega)
  have hwn : IntKind.i64.wrap ((n : Int) - k) = ((n - k : Nat) : Int) := by
    have e : (n : Int) - k = ((n - k : Nat) : Int) := by omega
    rw [e]; exact IntWalk.i64_in _ (by omega)
  go_wp2_with fail
  refine wp_region_till 12 (fun W => VBlk 27 W w.heap.size (h.map (Value.int .u8))) (by kernel_rfl) ?_
  have hd1 : Below w3.heap.size w3 w3.drew := belowN (Below.refl w3.heap.size w3) 1
  have hS : VBlk 27 w3.drew w.heap.size (h.map (Value.int .u8)) := HL3.out.drewN 1
  have HQ4 := Hid2.mk (HQ3.out.below hd1 (Nat.le_refl _))
  have QX4 := Hid2.mk (show VBlk 27 w3.drew (w.heap.size + 1 + 1) (x.map (Value.int .u8)) from QX.out.drewN 1)
  have HR4 := Hid2.mk (show VBlk 27 w3.drew (w.heap.size + 1) (Dig.Z32.map (Value.int .u8)) from HR3.out.drewN 1)
  have HB4 := Hid2.mk (HB3.out.trans (hd1.mono HB3.out.size))
  have hs4 : w.heap.size ≤ w3.drew.heap.size := HB4.out.size
  generalize w3.drew = w4 at hS HQ4 QX4 HR4 HB4 hs4 ⊢
  clear hd1 QX HL3 HR3 HB3 HQ3
  have hwq : IntKind.i64.wrap (q.length : Int) = (q.length : Int) := IntWalk.i64_in _ (by omega)
  refine till_read (i := 0) (v := .agg (h.map (Value.int .u8)).toArray) [12] rfl (by kernel_rfl) (by kernel_rfl) (by kernel_rfl) (by kernel_rfl) (by kernel_rfl) (fun _ _ _ h => h) (by rfl) (fun W hW => exec_load_blk 27 (.tmp 4) rfl w.heap.size rfl _ _ (range_vblk hW) Tryd.underlying27 rfl (infoL h hlen)) hS ?_
  refine till_free (i := 1) rfl (by kernel_rfl) (by kernel_rfl) (by kernel_rfl) rfl (fun _ _ _ h => h) (.inr hS) (by rfl) (fun _ => by first | (go_simp; done) | (go_simp; with_reducible rfl)) ?_
  refine till_free (i := 2) rfl (by kernel_rfl) (by kernel_rfl) (by kernel_rfl) rfl (fun _ _ _ h => h) (.inr hS) (by rfl) (fun _ => by first | (go_simp; done) | (go_simp; with_reducible rfl)) ?_
  refine till_free (i := 3) rfl (by kernel_rfl) (by kernel_rfl) (by kernel_rfl) rfl (fun _ _ _ h => h) (.inr hS) (by rfl) (fun _ => by first | (go_simp; done) | (go_simp; with_reducible rfl)) ?_
  refine till_free (i := 4) rfl (by kernel_rfl) (by kernel_rfl) (by kernel_rfl) rfl (fun _ _ _ h => h) (.inr hS) (by rfl) (fun _ => by first | (go_simp; done) | (go_simp; with_reducible rfl)) ?_
  refine till_free (i := 5) rfl (by kernel_rfl) (by kernel_rfl) (by kernel_rfl) rfl (fun _ _ _ h => h) (.inr hS) (by rfl) (fun _ => by first | (go_simp; done) | (go_simp; with_reducible rfl)) ?_
  refine till_free (i := 6) rfl (by kernel_rfl) (by kernel_rfl) (by kernel_rfl) rfl (fun _ _ _ h => h) (.inr hS) (by rfl) (fun _ => by first | (go_simp; done) | (go_simp; with_reducible rfl)) ?_
  refine till_free (i := 7) rfl (by kernel_rfl) (by kernel_rfl) (by kernel_rfl) rfl (fun _ _ _ h => h) (.inr hS) (by rfl) (fun _ => by first | (go_simp; done) | (go_simp; with_reducible rfl)) ?_
  refine till_free (i := 8) rfl (by kernel_rfl) (by kernel_rfl) (by kernel_rfl) rfl (fun _ _ _ h => h) (.inr hS) (by rfl) (fun _ => by first | (go_simp; done) | (go_simp; with_reducible rfl)) ?_
  refine till_free (i := 9) rfl (by kernel_rfl) (by kernel_rfl) (by kernel_rfl) rfl (fun _ _ _ h => h) (.inr hS) (by rfl) (fun _ => by first | (go_simp; done) | (go_simp; with_reducible rfl)) ?_
  refine till_free (i := 10) rfl (by kernel_rfl) (by kernel_rfl) (by kernel_rfl) rfl (fun _ _ _ h => h) (.inr hS) (by rfl) (fun _ => by first | (go_simp; done) | (go_simp; with_reducible rfl)) ?_
  refine till_free (i := 11) rfl (by kernel_rfl) (by kernel_rfl) (by kernel_rfl) rfl (fun _ _ _ h => h) (.inr hS) (by rfl) (fun _ => by first | (go_simp; done) | (go_simp; with_reducible rfl)) ?_
  have hlt2 : w.heap.size + 1 + 1 < w4.heap.size := QX4.out.lt
  refine till_two (i := 12) (j := 16) (by kernel_rfl) rfl rfl ?_ ?_
  · intro K hK
    go_simp
    refine (Hih.out (n - k) (by omega) hlen (by omega) (by omega) (by omega) HQ4.out).mono ?_
    rintro e w5 ⟨rfl, hrl, hb5⟩
    generalize upP h (i - k) (n - k) q = c at Hp hrl ⊢
    obtain ⟨r, okr⟩ := c
    simp only at Hp hrl
    have QX5 := Hid2.mk (QX4.out.below hb5 QX4.out.lt)
    have HR5 := Hid2.mk (HR4.out.below hb5 HR4.out.lt)
    have HB5 := Hid2.mk (HB4.out.trans (hb5.mono hs4))
    refine hK _ _ (.inl rfl) ?_
    have hgs : w.heap.size + 1 + 1 < w5.heap.size := QX5.out.lt
    clear hK K hb5 QX4 HR4 HQ4 HB4 hS Hih
    refine till_free (i := 13) rfl (by kernel_rfl) (by kernel_rfl) (by kernel_rfl) rfl (fun _ _ _ h => h) (.inl rfl) (by rfl) (fun _ => by first | (go_simp; done) | (go_simp; with_reducible rfl)) ?_
    refine till_free (i := 14) rfl (by kernel_rfl) (by kernel_rfl) (by kernel_rfl) rfl (fun _ _ _ h => h) (.inl rfl) (by rfl) (fun _ => by first | (go_simp; done) | (go_simp; with_reducible rfl)) ?_
    refine till_free (i := 15) rfl (by kernel_rfl) (by kernel_rfl) (by kernel_rfl) rfl (fun _ _ _ h => h) (.inl rfl) (by rfl) (fun _ => by first | (go_simp; done) | (go_simp; with_reducible rfl)) ?_
    refine till_one (i := 16) (by kernel_rfl) rfl ?_; intro K hK
    go_simp
    have hba := Below.alloc (Below.refl w5.heap.size w5) (Nat.le_refl _) (.cells (Dig.Z32.map (Value.int .u8)).toArray 27)
    have QZ6 := Hid2.mk (VBlk.mk w5 (Dig.Z32.map (Value.int .u8)) 27)
    have QX6 := Hid2.mk (QX5.out.below hba QX5.out.lt)
    have HR6 := Hid2.mk (HR5.out.below hba HR5.out.lt)
    have HB6 := Hid2.mk (HB5.out.trans (hba.mono HB5.out.size))
    refine hK _ _ (.inl rfl) ?_
    clear hK K QX5 HR5 HB5 hba
    obtain ⟨gz, hgz⟩ : ∃ gz, w5.heap.size = gz := ⟨_, rfl⟩
    rw [hgz] at QZ6 hgs ⊢
    generalize World.alloc _ _ = w6 at QZ6 QX6 HR6 HB6 ⊢
    refine till_one (i := 17) (by kernel_rfl) rfl ?_; intro K hK
    refine Dig.step_store_row rfl 27 (.tmp 14) (.tmp 67) rfl gz (r.map (Value.int .u8)).toArray rfl rfl 27 (Dig.Z32.map (Value.int .u8)).toArray QZ6.out (infoH r hrl) (sizeH _ _ z32_len hrl) (oneH _) ?_
    refine hK _ _ (.inl rfl) ?_
    clear hK K
    have QZ7 := Hid2.mk (QZ6.out.setRow (r.map (Value.int .u8)))
    have QX7 := Hid2.mk (QX6.out.setRow_other (g := gz) (r.map (Value.int .u8)).toArray (by omega))
    have HR7 := Hid2.mk (HR6.out.setRow_other (g := gz) (r.map (Value.int .u8)).toArray (by omega))
    have HB7 := Hid2.mk (below_setRow HB6.out (show w.heap.size ≤ gz by omega) (r.map (Value.int .u8)).toArray)
    generalize World.setRow _ _ _ = w7 at QZ7 QX7 HR7 HB7 ⊢
    clear QZ6 QX6 HR6 HB6
    refine till_free (i := 18) rfl (by kernel_rfl) (by kernel_rfl) (by kernel_rfl) rfl (fun _ _ _ h => h) (.inl rfl) (by rfl) (fun _ => by first | (go_simp; done) | (go_simp; with_reducible rfl)) ?_
    refine till_done (by kernel_rfl) ?_ _
    go_wp2_with (first
      | (refine wpList_load_row rfl 27 (.tmp 14) rfl gz rfl 27 (r.map (Value.int .u8)).toArray (0, 0) _ QZ7.out Tryd.underlying27 rfl (infoH r hrl) ?_)
      | (refine wpList_load_row rfl 27 (.tmp 10) rfl (w.heap.size + 1 + 1) rfl 27 (x.map (Value.int .u8)).toArray (0, 0) _ QX7.out Tryd.underlying27 rfl (infoH x hxl) ?_))
    have hlenN := nodeP_len x r
    refine (refNode_a _ hxl hrl).mono ?_
    rintro e w8 ⟨rfl, hb8⟩
    generalize nodeP x r = rr at Hp hlenN ⊢
    have HR8 := Hid2.mk (HR7.out.below hb8 HR7.out.lt)
    have HB8 := Hid2.mk (HB7.out.trans (hb8.mono HB7.out.size))
    clear hb8 QZ7 QX7 HR7 HB7
    go_wp2_with (first
      | (refine wpList_store_row rfl 27 (.tmp 8) (.tmp 71) rfl (w.heap.size + 1) (rr.map (Value.int .u8)).toArray rfl rfl 27 (Dig.Z32.map (Value.int .u8)).toArray HR8.out (infoH rr hlenN) (sizeH _ _ z32_len hlenN) (oneH _) ?_))
    refine bodyPost_ret (results_cell_tmp rfl _ _ (w.heap.size + 1) 27 (rr.map (Value.int .u8)).toArray (0, 0) _ (.bool okr) rfl (setRow_heap _ _ _ _ _ _ HR8.out) Tryd.underlying27 rfl (infoH rr hlenN) rfl) rfl ?_
    unfold UpPost
    rw [Hp.out]
    exact ⟨rfl, hlenN, below_setRow HB8.out (by omega) _⟩
  · intro K hK
    go_simp
    have hba := Below.alloc (Below.refl w4.heap.size w4) (Nat.le_refl _) (.cells (Dig.Z32.map (Value.int .u8)).toArray 27)
    have QZ := Hid2.mk (VBlk.mk w4 (Dig.Z32.map (Value.int .u8)) 27)
    have QX5 := Hid2.mk (QX4.out.below hba QX4.out.lt)
    have HR5 := Hid2.mk (HR4.out.below hba HR4.out.lt)
    have HQ5 := Hid2.mk (HQ4.out.below hba (Nat.le_refl _))
    have HB5 := Hid2.mk (HB4.out.trans (hba.mono hs4))
    have hS5 := hS.below hba hS.lt
    refine hK _ _ (.inr hS5) ?_
    clear hK K QX4 HR4 HQ4 HB4 hba
    obtain ⟨gz, hgz⟩ : ∃ gz, w4.heap.size = gz := ⟨_, rfl⟩
    rw [hgz] at QZ ⊢
    generalize World.alloc _ _ = w5 at QZ QX5 HR5 HQ5 HB5 hS5 ⊢
    refine till_one (i := 12) (by kernel_rfl) rfl ?_; intro K hK
    go_simp
    refine (Hih.out (n - k) (by omega) hlen (by omega) (by omega) (by omega) HQ5.out).mono ?_
    rintro e w6 ⟨rfl, hrl, hb6⟩
    generalize upP h (i - k) (n - k) q = c at Hp hrl ⊢
    obtain ⟨r, okr⟩ := c
    simp only at Hp hrl
    have QZ6 := Hid2.mk (QZ.out.below hb6 QZ.out.lt)
    have QX6 := Hid2.mk (QX5.out.below hb6 QX5.out.lt)
    have HR6 := Hid2.mk (HR5.out.below hb6 HR5.out.lt)
    have HB6 := Hid2.mk (HB5.out.trans (hb6.mono HB5.out.size))
    have hgs : w.heap.size + 1 + 1 < gz := by rw [← hgz]; exact hlt2
    refine hK _ _ (.inl rfl) ?_
    clear hK K hb6 QZ QX5 HR5 HQ5 HB5 hS5 hS Hih
    refine till_free (i := 13) rfl (by kernel_rfl) (by kernel_rfl) (by kernel_rfl) rfl (fun _ _ _ h => h) (.inl rfl) (by rfl) (fun _ => by first | (go_simp; done) | (go_simp; with_reducible rfl)) ?_
    refine till_free (i := 14) rfl (by kernel_rfl) (by kernel_rfl) (by kernel_rfl) rfl (fun _ _ _ h => h) (.inl rfl) (by rfl) (fun _ => by first | (go_simp; done) | (go_simp; with_reducible rfl)) ?_
    refine till_free (i := 15) rfl (by kernel_rfl) (by kernel_rfl) (by kernel_rfl) rfl (fun _ _ _ h => h) (.inl rfl) (by rfl) (fun _ => by first | (go_simp; done) | (go_simp; with_reducible rfl)) ?_
    refine till_one (i := 17) (by kernel_rfl) rfl ?_; intro K hK
    refine Dig.step_store_row rfl 27 (.tmp 14) (.tmp 67) rfl gz (r.map (Value.int .u8)).toArray rfl rfl 27 (Dig.Z32.map (Value.int .u8)).toArray QZ6.out (infoH r hrl) (sizeH _ _ z32_len hrl) (oneH _) ?_
    refine hK _ _ (.inl rfl) ?_
    clear hK K
    have QZ7 := Hid2.mk (QZ6.out.setRow (r.map (Value.int .u8)))
    have QX7 := Hid2.mk (QX6.out.setRow_other (g := gz) (r.map (Value.int .u8)).toArray (by omega))
    have HR7 := Hid2.mk (HR6.out.setRow_other (g := gz) (r.map (Value.int .u8)).toArray (by omega))
    have HB7 := Hid2.mk (below_setRow HB6.out (show w.heap.size ≤ gz by omega) (r.map (Value.int .u8)).toArray)
    generalize World.setRow _ _ _ = w7 at QZ7 QX7 HR7 HB7 ⊢
    clear QZ6 QX6 HR6 HB6
    refine till_free (i := 18) rfl (by kernel_rfl) (by kernel_rfl) (by kernel_rfl) rfl (fun _ _ _ h => h) (.inl rfl) (by rfl) (fun _ => by first | (go_simp; done) | (go_simp; with_reducible rfl)) ?_
    refine till_done (by kernel_rfl) ?_ _
    go_wp2_with (first
      | (refine wpList_load_row rfl 27 (.tmp 14) rfl gz rfl 27 (r.map (Value.int .u8)).toArray (0, 0) _ QZ7.out Tryd.underlying27 rfl (infoH r hrl) ?_)
      | (refine wpList_load_row rfl 27 (.tmp 10) rfl (w.heap.size + 1 + 1) rfl 27 (x.map (Value.int .u8)).toArray (0, 0) _ QX7.out Tryd.underlying27 rfl (infoH x hxl) ?_))
    have hlenN := nodeP_len x r
    refine (refNode_a _ hxl hrl).mono ?_
    rintro e w8 ⟨rfl, hb8⟩
    generalize nodeP x r = rr at Hp hlenN ⊢
    have HR8 := Hid2.mk (HR7.out.below hb8 HR7.out.lt)
    have HB8 := Hid2.mk (HB7.out.trans (hb8.mono HB7.out.size))
    clear hb8 QZ7 QX7 HR7 HB7
    go_wp2_with (first
      | (refine wpList_store_row rfl 27 (.tmp 8) (.tmp 71) rfl (w.heap.size + 1) (rr.map (Value.int .u8)).toArray rfl rfl 27 (Dig.Z32.map (Value.int .u8)).toArray HR8.out (infoH rr hlenN) (sizeH _ _ z32_len hlenN) (oneH _) ?_))
    refine bodyPost_ret (results_cell_tmp rfl _ _ (w.heap.size + 1) 27 (rr.map (Value.int .u8)).toArray (0, 0) _ (.bool okr) rfl (setRow_heap _ _ _ _ _ _ HR8.out) Tryd.underlying27 rfl (infoH rr hlenN) rfl) rfl ?_
    unfold UpPost
    rw [Hp.out]
    exact ⟨rfl, hlenN, below_setRow HB8.out (by omega) _⟩

end Mk
end Go.Proofs.YtfdgclnjpbkggaaDoor
