/- A taker makes both roots (printed by gen_both.py). -/
import Derived.Test.YtfdgclnjpbkggaaDoorMkZc
namespace Go.Proofs.YtfdgclnjpbkggaaDoor
open Go.RowKit Go.Maps
namespace Mk

set_option maxRecDepth 100000 in
set_option maxHeartbeats 4000000 in
theorem both_part (n : Nat) {w : World} {g : Nat} {O : Nat → Prop} {a : H} {s : Tkr} (hOlt : ∀ b, O b → b < w.heap.size) (hlen : a.length = 32) (h : Tk w g O s) :
    Calls Tryd.prog 38 #[.pointer (some ⟨g, 0, none⟩), .int .i64 (n : Nat), .int .i64 (n : Nat), .bool false, .agg (a.map (Value.int .u8)).toArray] w (Tk2Post w g O (bothP n n false a s)) := by
  have hz := zeroHash
  have hlt := h.lt
  obtain ⟨hb, hA, hX, hY⟩ := three_new w a
  have H1 := Hid2.mk (h.below hb (Nat.le_refl _))
  have HA := Hid2.mk hA
  have HX := Hid2.mk hX
  have HY := Hid2.mk hY
  have HK := Hid2.mk ((Keep.of_below hb).mono (K' := fun b => b < w.heap.size ∧ b ≠ g) (fun b hb => hb.1))
  have HOlt := Hid2.mk hOlt
  unfold tN at H1 HA HX HY HK
  clear hb hA hX hY h hOlt
  have Hp := Hid2.mk (both_next n a s)
  go_enter Tryd.func38, Tryd.ntmps38
  go_wp2_with fail
  generalize World.alloc (World.alloc (World.alloc _ _) _) _ = w1 at H1 HA HX HY HK ⊢
  refine (next_any H1.out).mono ?_
  rintro e w2 ⟨rfl, htk2, hk2⟩
  have hnl := next_len H1.out.ok
  generalize nextP s = c at Hp htk2 hnl ⊢
  obtain ⟨x, s2⟩ := c
  simp only at Hp htk2 hnl
  have HA2 := Hid2.mk (HA.out.keep hk2 ⟨HA.out.lt, by omega⟩)
  have HX2 := Hid2.mk (HX.out.keep hk2 ⟨HX.out.lt, by omega⟩)
  have HY2 := Hid2.mk (HY.out.keep hk2 ⟨HY.out.lt, by omega⟩)
  have HK2 := Hid2.mk (HK.out.trans (hk2.mono (fun b hb => ⟨Nat.lt_of_lt_of_le hb.1 HK.out.size, hb.2⟩)))
  have hks := keep_setRow w2 w.heap.size (x.map (Value.int .u8)).toArray
  have HA3 := Hid2.mk (HA2.out.setRow (x.map (Value.int .u8)))
  have HX3 := Hid2.mk (HX2.out.setRow_other (g := w.heap.size) (x.map (Value.int .u8)).toArray (by omega))
  have HY3 := Hid2.mk (HY2.out.setRow_other (g := w.heap.size) (x.map (Value.int .u8)).toArray (by omega))
  have H3 := Hid2.mk (htk2.keep hks (by show g ≠ _; omega) (fun b hb _ => by have := HOlt.out b hb; show b ≠ _; omega))
  have HK3 := Hid2.mk (HK2.out.trans (hks.mono (fun b hb => by have := hb.1; show b ≠ _; omega)))
  clear hk2 htk2 hks HX2 HY2 HK2 HA HX HY HK H1
  go_wp2_with (first
    | (refine wpList_store_row rfl 27 (.tmp 9) (.tmp 20) rfl w.heap.size (x.map (Value.int .u8)).toArray rfl rfl 27 (a.map (Value.int .u8)).toArray HA2.out (infoH x hnl) (sizeH _ _ hlen hnl) (oneH _) ?_
       generalize World.setRow _ _ _ = w3 at HA3 HX3 HY3 H3 HK3 ⊢))
  have hS : VBlk 27 w3.drew w.heap.size (x.map (Value.int .u8)) := HA3.out.drewN 1
  have hd1 : Below w3.heap.size w3 w3.drew := belowN (Below.refl w3.heap.size w3) 1
  refine wp_region_till 3 (fun W => VBlk 27 W w.heap.size (x.map (Value.int .u8))) (by kernel_rfl) ?_
  refine till_read (i := 0) (v := .agg (x.map (Value.int .u8)).toArray) [2, 3] rfl (by kernel_rfl) (by kernel_rfl) (by kernel_rfl) (by kernel_rfl) (by kernel_rfl) (fun _ _ _ h => h) (by rfl) (fun W hW => exec_load_blk 27 (.tmp 9) rfl w.heap.size rfl _ _ (range_vblk hW) Tryd.underlying27 rfl (infoL x hnl)) hS ?_
  refine till_read (i := 1) (v := .agg (x.map (Value.int .u8)).toArray) [3] rfl (by kernel_rfl) (by kernel_rfl) (by kernel_rfl) (by kernel_rfl) (by kernel_rfl) (fun _ _ _ h => h) (by rfl) (fun W hW => exec_load_blk 27 (.tmp 9) rfl w.heap.size rfl _ _ (range_vblk hW) Tryd.underlying27 rfl (infoL x hnl)) hS ?_
  have HX4 := HX3.out.drewN 1
  have HY4 := HY3.out.drewN 1
  refine till_one (i := 2) (by kernel_rfl) rfl ?_; intro K hK
  refine Dig.step_store_row rfl 27 (.tmp 10) (.tmp 21) rfl (w.heap.size + 1) (x.map (Value.int .u8)).toArray rfl rfl 27 (Dig.Z32.map (Value.int .u8)).toArray HX4 (infoH x hnl) (sizeH _ _ z32_len hnl) (oneH _) ?_
  refine hK _ _ (.inr (hS.setRow_other _ (by omega))) ?_
  clear hK K
  have HYn := HY4.setRow_other (g := w.heap.size + 1) (x.map (Value.int .u8)).toArray (by omega)
  refine till_one (i := 3) (by kernel_rfl) rfl ?_; intro K hK
  refine Dig.step_store_row rfl 27 (.tmp 11) (.tmp 22) rfl (w.heap.size + 1 + 1) (x.map (Value.int .u8)).toArray rfl rfl 27 (Dig.Z32.map (Value.int .u8)).toArray HYn (infoH x hnl) (sizeH _ _ z32_len hnl) (oneH _) ?_
  refine hK _ _ (.inl rfl) ?_
  clear hK K
  refine till_done (by kernel_rfl) ?_ _
  have HXf := (HX4.setRow (x.map (Value.int .u8))).setRow_other (g := w.heap.size + 1 + 1) (x.map (Value.int .u8)).toArray (by omega)
  have HYf := HYn.setRow (x.map (Value.int .u8))
  have hk1 := (keep_setRow w3.drew (w.heap.size + 1) (x.map (Value.int .u8)).toArray).mono (K' := fun b => b < w.heap.size + 1) (fun b hb => by show b ≠ _; omega)
  have hk2 := hk1.trans ((keep_setRow _ (w.heap.size + 1 + 1) (x.map (Value.int .u8)).toArray).mono (K' := fun b => b < w.heap.size + 1) (fun b hb => by show b ≠ _; omega))
  have Hfin := Hid2.mk ((H3.out.below hd1 (Nat.le_refl _)).keep hk2 (by omega) (fun b hb _ => by have := HOlt.out b hb; omega))
  have HKf := Hid2.mk ((HK3.out.trans ((Keep.of_below hd1).mono (fun b hb => Nat.lt_of_lt_of_le hb.1 HK3.out.size))).trans (hk2.mono (fun b hb => by have := hb.1; omega)))
  go_wp2_with fail
  refine bodyPost_ret (results_cells rfl _ _ (w.heap.size + 1) (w.heap.size + 1 + 1) 27 (x.map (Value.int .u8)).toArray (x.map (Value.int .u8)).toArray (0, 0) _ rfl rfl HXf HYf Tryd.underlying27 rfl (infoH x hnl) (infoH x hnl)) rfl ?_
  unfold Tk2Post
  rw [Hp.out]
  exact ⟨rfl, hnl, hnl, Hfin.out, HKf.out⟩

set_option maxRecDepth 100000 in
set_option maxHeartbeats 8000000 in
theorem both_any : ∀ (n : Nat) {w : World} {g : Nat} {O : Nat → Prop} {m : Nat} {whole : Bool} {a : H} {s : Tkr}, a.length = 32 → 1 ≤ m → m ≤ n → n ≤ 1099511627776 → Tk w g O s →
    Calls Tryd.prog 38 #[.pointer (some ⟨g, 0, none⟩), .int .i64 (m : Nat), .int .i64 (n : Nat), .bool whole, .agg (a.map (Value.int .u8)).toArray] w (Tk2Post w g O (bothP m n whole a s)) := by
  intro n
  induction n using Nat.strongRecOn with
  | ind n ih =>
    intro w g O1 m whole a s hlen h1 hmn hn h
    have hoff := h.off
    obtain ⟨O, hOe⟩ : ∃ O : Nat → Prop, O = fun b => O1 b ∧ b < w.heap.size := ⟨_, rfl⟩
    have htight : Tk w g O s := by rw [hOe]; exact h.tight
    have hOlt : ∀ b, O b → b < w.heap.size := by rw [hOe]; exact fun b hb => hb.2
    have HO1 := Hid2.mk (show ∀ b, O b → O1 b by rw [hOe]; exact fun b hb => hb.1)
    suffices main : Calls Tryd.prog 38 #[.pointer (some ⟨g, 0, none⟩), .int .i64 (m : Nat), .int .i64 (n : Nat), .bool whole, .agg (a.map (Value.int .u8)).toArray] w (Tk2Post w g O (bothP m n whole a s)) from main.mono fun e w' hp => by obtain ⟨a1, a2, a3, b, c⟩ := hp; exact ⟨a1, a2, a3, b.widen HO1.out hoff, c⟩
    clear hOe h HO1 hoff
    have h := htight
    clear htight
    by_cases hne : m = n
    · subst hne
      cases whole with
      | true => exact both_whole m hOlt hlen h
      | false => exact both_part m hOlt hlen h
    · have h2 : 2 ≤ n := by omega
      have hn2 : ((m : Int) == n) = false := beq_eq_false_iff_ne.2 (by omega)
      have hkl := half_lt h2
      have hkp := half_pos n
      have Hih := Hid2.mk ih
      clear ih
      have hz := zeroHash
      have hlt := h.lt
      obtain ⟨hb, hA, hX, hY⟩ := three_new w a
      have H1 := Hid2.mk (h.below hb (Nat.le_refl _))
      have HA := Hid2.mk hA
      have HX := Hid2.mk hX
      have HY := Hid2.mk hY
      have HK := Hid2.mk ((Keep.of_below hb).mono (K' := fun b => b < w.heap.size ∧ b ≠ g) (fun b hb => hb.1))
      have HOlt := Hid2.mk hOlt
      unfold tN at H1 HA HX HY HK
      clear hb hA hX hY h hOlt
      by_cases hik : m ≤ half n
      · have Hp := Hid2.mk (both_left (whole := whole) (a := a) (s := s) hne h2 hik)
        clear hne
        go_enter Tryd.func38, Tryd.ntmps38
        go_wp2_with fail
        generalize World.alloc (World.alloc (World.alloc _ _) _) _ = w1 at H1 HA HX HY HK ⊢
        refine (half_any n _ h2 (by omega)).mono ?_
        rintro e w' ⟨rfl, rfl⟩
        generalize hk : half n = k at hkl hkp hik Hp ⊢
        clear hk
        have hik2 : (m : Int) ≤ k := by omega
        go_wp2_with (first | (refine wpList_load_row rfl 27 (.tmp 9) rfl w.heap.size rfl 27 (a.map (Value.int .u8)).toArray (0, 0) _ HA.out Tryd.underlying27 rfl (infoH a hlen) ?_))
        refine (Hih.out k hkl hlen h1 (by omega) (by omega) H1.out).mono ?_
        rintro e w2 ⟨rfl, hl1, hl2, htk2, hk2⟩
        generalize bothP m k whole a s = c at Hp hl1 hl2 htk2 ⊢
        obtain ⟨⟨p1, p2⟩, s2⟩ := c
        simp only at Hp hl1 hl2 htk2
        have HX2 := Hid2.mk (HX.out.keep hk2 ⟨HX.out.lt, by omega⟩)
        have HY2 := Hid2.mk (HY.out.keep hk2 ⟨HY.out.lt, by omega⟩)
        have HK2 := Hid2.mk (HK.out.trans (hk2.mono (fun b hb => ⟨Nat.lt_of_lt_of_le hb.1 HK.out.size, hb.2⟩)))
        have hY3 := HY2.out.setRow_other (g := w.heap.size + 1) (p1.map (Value.int .u8)).toArray (by omega)
        have HX3 := Hid2.mk ((HX2.out.setRow (p1.map (Value.int .u8))).setRow_other (g := w.heap.size + 1 + 1) (p2.map (Value.int .u8)).toArray (by omega))
        have HY3 := Hid2.mk (hY3.setRow (p2.map (Value.int .u8)))
        have HYm := Hid2.mk hY3
        have hks := ((keep_setRow w2 (w.heap.size + 1) (p1.map (Value.int .u8)).toArray).mono (K' := fun b => b < w.heap.size + 1) (fun b hb => by show b ≠ _; omega)).trans ((keep_setRow _ (w.heap.size + 1 + 1) (p2.map (Value.int .u8)).toArray).mono (K' := fun b => b < w.heap.size + 1) (fun b hb => by show b ≠ _; omega))
        have H3 := Hid2.mk (htk2.keep hks (by omega) (fun b hb _ => by have := HOlt.out b hb; omega))
        have HK3 := Hid2.mk (HK2.out.trans (hks.mono (fun b hb => by have := hb.1; omega)))
        clear hk2 htk2 hks hY3 HK2 HX HY HK HA H1 Hih HY2
        go_wp2_with (first
          | (refine wpList_store_row rfl 27 (.tmp 10) (.tmp 35) rfl (w.heap.size + 1) (p1.map (Value.int .u8)).toArray rfl rfl 27 (Dig.Z32.map (Value.int .u8)).toArray HX2.out (infoH p1 hl1) (sizeH _ _ z32_len hl1) (oneH _) ?_)
          | (refine wpList_store_row rfl 27 (.tmp 11) (.tmp 36) rfl (w.heap.size + 1 + 1) (p2.map (Value.int .u8)).toArray rfl rfl 27 (Dig.Z32.map (Value.int .u8)).toArray HYm.out (infoH p2 hl2) (sizeH _ _ z32_len hl2) (oneH _) ?_
             generalize World.setRow (World.setRow _ _ _) _ _ = w3 at HX3 HY3 H3 HK3 ⊢))
        clear HX2 HYm
        have hd1 : Below w3.heap.size w3 w3.drew := belowN (Below.refl w3.heap.size w3) 1
        have hS : VBlk 27 w3.drew (w.heap.size + 1) (p1.map (Value.int .u8)) ∧ VBlk 27 w3.drew (w.heap.size + 1 + 1) (p2.map (Value.int .u8)) := ⟨HX3.out.drewN 1, HY3.out.drewN 1⟩
        have HX4 := Hid2.mk (HX3.out.below hd1 HX3.out.lt)
        have HY4 := Hid2.mk (HY3.out.below hd1 HY3.out.lt)
        have HK4 := Hid2.mk (HK3.out.trans ((Keep.of_below hd1).mono (fun b hb => Nat.lt_of_lt_of_le hb.1 HK3.out.size)))
        have H4 := Hid2.mk (H3.out.below hd1 (Nat.le_refl _))
        refine wp_region_till 5 (fun W => VBlk 27 W (w.heap.size + 1) (p1.map (Value.int .u8)) ∧ VBlk 27 W (w.heap.size + 1 + 1) (p2.map (Value.int .u8))) (by kernel_rfl) ?_
        refine till_read (i := 0) (v := .agg (p1.map (Value.int .u8)).toArray) [5] rfl (by kernel_rfl) (by kernel_rfl) (by kernel_rfl) (by kernel_rfl) (by kernel_rfl) (fun _ _ _ h => h) (by rfl) (fun W hW => exec_load_blk 27 (.tmp 10) rfl (w.heap.size + 1) rfl _ _ (range_vblk hW.1) Tryd.underlying27 rfl (infoL p1 hl1)) hS ?_
        refine till_read (i := 1) (v := .agg (p2.map (Value.int .u8)).toArray) [4, 5] rfl (by kernel_rfl) (by kernel_rfl) (by kernel_rfl) (by kernel_rfl) (by kernel_rfl) (fun _ _ _ h => h) (by rfl) (fun W hW => exec_load_blk 27 (.tmp 11) rfl (w.heap.size + 1 + 1) rfl _ _ (range_vblk hW.2) Tryd.underlying27 rfl (infoL p2 hl2)) hS ?_
        refine till_free (i := 2) rfl (by kernel_rfl) (by kernel_rfl) (by kernel_rfl) rfl (fun _ _ _ h => h) (.inr hS) (by rfl) (fun _ => by first | (go_simp; done) | (go_simp; with_reducible rfl)) ?_
        refine till_one (i := 3) (by kernel_rfl) rfl ?_; intro K hK
        go_simp
        refine (next_any H4.out).mono ?_
        rintro e w5 ⟨rfl, htk5, hk5⟩
        have hnl := next_len H4.out.ok
        generalize nextP s2 = c at Hp htk5 hnl ⊢
        obtain ⟨x, s5⟩ := c
        simp only at Hp htk5 hnl
        have H5 := Hid2.mk htk5
        have HX5 := Hid2.mk (HX4.out.keep hk5 ⟨HX4.out.lt, by omega⟩)
        have HY5 := Hid2.mk (HY4.out.keep hk5 ⟨HY4.out.lt, by omega⟩)
        have HK5 := Hid2.mk (HK4.out.trans (hk5.mono (fun b hb => ⟨Nat.lt_of_lt_of_le hb.1 HK4.out.size, hb.2⟩)))
        refine hK _ _ (.inr ⟨HX5.out, HY5.out⟩) ?_
        clear hK K hk5 htk5 H3 HX3 HY3 HK3 H4 HX4 HY4 HK4
        have hlenN := nodeP_len p2 x
        refine till_one (i := 4) (by kernel_rfl) rfl ?_; intro K hK
        go_simp
        refine (node_a _ hl2 hnl).mono ?_
        rintro e w6 ⟨rfl, hb6⟩
        generalize nodeP p2 x = rr at Hp hlenN ⊢
        have HX6 := Hid2.mk (HX5.out.below hb6 HX5.out.lt)
        have HY6 := Hid2.mk (HY5.out.below hb6 HY5.out.lt)
        have HK6 := Hid2.mk (HK5.out.trans ((Keep.of_below hb6).mono (fun b hb => Nat.lt_of_lt_of_le hb.1 HK5.out.size)))
        have H6 := Hid2.mk (H5.out.below hb6 (Nat.le_refl _))
        refine hK _ _ (.inr ⟨HX6.out, HY6.out⟩) ?_
        clear hK K hb6 H5 HX5 HY5 HK5
        have HX7 := HX6.out
        have HY7 := HY6.out
        refine till_one (i := 5) (by kernel_rfl) rfl ?_; intro K hK
        refine Dig.step_store_row rfl 27 (.tmp 10) (.tmp 37) rfl (w.heap.size + 1) (p1.map (Value.int .u8)).toArray rfl rfl 27 (p1.map (Value.int .u8)).toArray HX7 (infoH p1 hl1) (sizeH _ _ hl1 hl1) (oneH _) ?_
        refine hK _ _ (.inl rfl) ?_
        clear hK K
        have HYn := HY7.setRow_other (g := w.heap.size + 1) (p1.map (Value.int .u8)).toArray (by omega)
        refine till_one (i := 6) (by kernel_rfl) rfl ?_; intro K hK
        refine Dig.step_store_row rfl 27 (.tmp 11) (.tmp 41) rfl (w.heap.size + 1 + 1) (rr.map (Value.int .u8)).toArray rfl rfl 27 (p2.map (Value.int .u8)).toArray HYn (infoH rr hlenN) (sizeH _ _ hl2 hlenN) (oneH _) ?_
        refine hK _ _ (.inl rfl) ?_
        clear hK K
        refine till_done (by kernel_rfl) ?_ _
        have HXf := (HX7.setRow (p1.map (Value.int .u8))).setRow_other (g := w.heap.size + 1 + 1) (rr.map (Value.int .u8)).toArray (by omega)
        have HYf := HYn.setRow (rr.map (Value.int .u8))
        have hk1 := (keep_setRow w6 (w.heap.size + 1) (p1.map (Value.int .u8)).toArray).mono (K' := fun b => b < w.heap.size + 1) (fun b hb => by show b ≠ _; omega)
        have hk2 := hk1.trans ((keep_setRow _ (w.heap.size + 1 + 1) (rr.map (Value.int .u8)).toArray).mono (K' := fun b => b < w.heap.size + 1) (fun b hb => by show b ≠ _; omega))
        have Hfin := Hid2.mk (H6.out.keep hk2 (by omega) (fun b hb _ => by have := HOlt.out b hb; omega))
        have HKf := Hid2.mk (HK6.out.trans (hk2.mono (fun b hb => by have := hb.1; omega)))
        go_wp2_with fail
        refine bodyPost_ret (results_cells rfl _ _ (w.heap.size + 1) (w.heap.size + 1 + 1) 27 (p1.map (Value.int .u8)).toArray (rr.map (Value.int .u8)).toArray (0, 0) _ rfl rfl HXf HYf Tryd.underlying27 rfl (infoH p1 hl1) (infoH rr hlenN)) rfl ?_
        unfold Tk2Post
        rw [Hp.out]
        exact ⟨rfl, hl1, hlenN, Hfin.out, HKf.out⟩
      · have Hp := Hid2.mk (both_right (whole := whole) (a := a) (s := s) hne h2 hik)
        clear hne
        go_enter Tryd.func38, Tryd.ntmps38
        go_wp2_with fail
        generalize World.alloc (World.alloc (World.alloc _ _) _) _ = w1 at H1 HA HX HY HK ⊢
        refine (half_any n _ h2 (by omega)).mono ?_
        rintro e w' ⟨rfl, rfl⟩
        generalize hk : half n = k at hkl hkp hik Hp ⊢
        clear hk
        have hik2 : (k : Int) < m := by omega
        have hii : (m : Int) ≤ n := by omega
        go_wp2_with (first | (refine wpList_load_row rfl 27 (.tmp 9) rfl w.heap.size rfl 27 (a.map (Value.int .u8)).toArray (0, 0) _ HA.out Tryd.underlying27 rfl (infoH a hlen) ?_))
        have e2 : (n : Int) - k = ((n - k : Nat) : Int) := by omega
        have e3 : (m : Int) - k = ((m - k : Nat) : Int) := by omega
        rw [e2, e3]
        refine (Hih.out (n - k) (by omega) hlen (by omega) (by omega) (by omega) H1.out).mono ?_
        rintro e w2 ⟨rfl, hl1, hl2, htk2, hk2⟩
        clear e2 e3
        generalize bothP (m - k) (n - k) false a s = c at Hp hl1 hl2 htk2 ⊢
        obtain ⟨⟨p1, p2⟩, s2⟩ := c
        simp only at Hp hl1 hl2 htk2
        have HX2 := Hid2.mk (HX.out.keep hk2 ⟨HX.out.lt, by omega⟩)
        have HY2 := Hid2.mk (HY.out.keep hk2 ⟨HY.out.lt, by omega⟩)
        have HK2 := Hid2.mk (HK.out.trans (hk2.mono (fun b hb => ⟨Nat.lt_of_lt_of_le hb.1 HK.out.size, hb.2⟩)))
        have hY3 := HY2.out.setRow_other (g := w.heap.size + 1) (p1.map (Value.int .u8)).toArray (by omega)
        have HX3 := Hid2.mk ((HX2.out.setRow (p1.map (Value.int .u8))).setRow_other (g := w.heap.size + 1 + 1) (p2.map (Value.int .u8)).toArray (by omega))
        have HY3 := Hid2.mk (hY3.setRow (p2.map (Value.int .u8)))
        have HYm := Hid2.mk hY3
        have hks := ((keep_setRow w2 (w.heap.size + 1) (p1.map (Value.int .u8)).toArray).mono (K' := fun b => b < w.heap.size + 1) (fun b hb => by show b ≠ _; omega)).trans ((keep_setRow _ (w.heap.size + 1 + 1) (p2.map (Value.int .u8)).toArray).mono (K' := fun b => b < w.heap.size + 1) (fun b hb => by show b ≠ _; omega))
        have H3 := Hid2.mk (htk2.keep hks (by omega) (fun b hb _ => by have := HOlt.out b hb; omega))
        have HK3 := Hid2.mk (HK2.out.trans (hks.mono (fun b hb => by have := hb.1; omega)))
        clear hk2 htk2 hks hY3 HK2 HX HY HK HA H1 Hih HY2
        go_wp2_with (first
          | (refine wpList_store_row rfl 27 (.tmp 10) (.tmp 52) rfl (w.heap.size + 1) (p1.map (Value.int .u8)).toArray rfl rfl 27 (Dig.Z32.map (Value.int .u8)).toArray HX2.out (infoH p1 hl1) (sizeH _ _ z32_len hl1) (oneH _) ?_)
          | (refine wpList_store_row rfl 27 (.tmp 11) (.tmp 53) rfl (w.heap.size + 1 + 1) (p2.map (Value.int .u8)).toArray rfl rfl 27 (Dig.Z32.map (Value.int .u8)).toArray HYm.out (infoH p2 hl2) (sizeH _ _ z32_len hl2) (oneH _) ?_
             generalize World.setRow (World.setRow _ _ _) _ _ = w3 at HX3 HY3 H3 HK3 ⊢))
        clear HX2 HYm
        refine (next_any H3.out).mono ?_
        rintro e w4 ⟨rfl, htk4, hk4⟩
        have hnl := next_len H3.out.ok
        generalize nextP s2 = c at Hp htk4 hnl ⊢
        obtain ⟨x, s4⟩ := c
        simp only at Hp htk4 hnl
        have H4 := Hid2.mk htk4
        have HX4 := Hid2.mk (HX3.out.keep hk4 ⟨HX3.out.lt, by omega⟩)
        have HY4 := Hid2.mk (HY3.out.keep hk4 ⟨HY3.out.lt, by omega⟩)
        have HK4 := Hid2.mk (HK3.out.trans (hk4.mono (fun b hb => ⟨Nat.lt_of_lt_of_le hb.1 HK3.out.size, hb.2⟩)))
        obtain ⟨q1, q2, q3⟩ := alloc_store w4 x
        have Q1 := Hid2.mk q1
        have Q2 := Hid2.mk q2
        have HX5 := Hid2.mk (HX4.out.below q3 HX4.out.lt)
        have HY5 := Hid2.mk (HY4.out.below q3 HY4.out.lt)
        have HK5 := Hid2.mk (HK4.out.trans ((Keep.of_below q3).mono (fun b hb => Nat.lt_of_lt_of_le hb.1 HK4.out.size)))
        have H5 := Hid2.mk (H4.out.below q3 (Nat.le_refl _))
        have HQ := Hid2.mk (show w.heap.size + 1 + 1 < w4.heap.size from HY4.out.lt)
        clear q1 q2 q3 htk4 hk4 H3 HX3 HY3 HK3 H4 HX4 HY4 HK4
        go_wp2_with (first
          | (refine wpList_store_row rfl 27 (.tmp 13) (.tmp 55) rfl w4.heap.size (x.map (Value.int .u8)).toArray rfl rfl 27 (Dig.Z32.map (Value.int .u8)).toArray Q1.out (infoH x hnl) (sizeH _ _ z32_len hnl) (oneH _) ?_
             generalize World.setRow _ _ _ = w5 at Q2 HX5 HY5 HK5 H5 ⊢))
        have hd1 : Below w5.heap.size w5 w5.drew := belowN (Below.refl w5.heap.size w5) 1
        have HX6 := Hid2.mk (HX5.out.below hd1 HX5.out.lt)
        have HY6 := Hid2.mk (HY5.out.below hd1 HY5.out.lt)
        have HK6 := Hid2.mk (HK5.out.trans ((Keep.of_below hd1).mono (fun b hb => Nat.lt_of_lt_of_le hb.1 HK5.out.size)))
        have H6 := Hid2.mk (H5.out.below hd1 (Nat.le_refl _))
        have Q6 := Hid2.mk (Q2.out.drewN 1)
        have hS : VBlk 27 w5.drew w4.heap.size (x.map (Value.int .u8)) ∧ VBlk 27 w5.drew (w.heap.size + 1) (p1.map (Value.int .u8)) ∧ VBlk 27 w5.drew (w.heap.size + 1 + 1) (p2.map (Value.int .u8)) := ⟨Q2.out.drewN 1, HX5.out.drewN 1, HY5.out.drewN 1⟩
        refine wp_region_till 6 (fun W => VBlk 27 W w4.heap.size (x.map (Value.int .u8)) ∧ VBlk 27 W (w.heap.size + 1) (p1.map (Value.int .u8)) ∧ VBlk 27 W (w.heap.size + 1 + 1) (p2.map (Value.int .u8))) (by kernel_rfl) ?_
        refine till_read (i := 0) (v := .agg (x.map (Value.int .u8)).toArray) [2, 6] rfl (by kernel_rfl) (by kernel_rfl) (by kernel_rfl) (by kernel_rfl) (by kernel_rfl) (fun _ _ _ h => h) (by rfl) (fun W hW => exec_load_blk 27 (.tmp 13) rfl w4.heap.size rfl _ _ (range_vblk hW.1) Tryd.underlying27 rfl (infoL x hnl)) hS ?_
        refine till_read (i := 1) (v := .agg (p1.map (Value.int .u8)).toArray) [2, 6] rfl (by kernel_rfl) (by kernel_rfl) (by kernel_rfl) (by kernel_rfl) (by kernel_rfl) (fun _ _ _ h => h) (by rfl) (fun W hW => exec_load_blk 27 (.tmp 10) rfl (w.heap.size + 1) rfl _ _ (range_vblk hW.2.1) Tryd.underlying27 rfl (infoL p1 hl1)) hS ?_
        refine till_read (i := 3) (v := .agg (x.map (Value.int .u8)).toArray) [5, 6] rfl (by kernel_rfl) (by kernel_rfl) (by kernel_rfl) (by kernel_rfl) (by kernel_rfl) (fun _ _ _ h => h) (by rfl) (fun W hW => exec_load_blk 27 (.tmp 13) rfl w4.heap.size rfl _ _ (range_vblk hW.1) Tryd.underlying27 rfl (infoL x hnl)) hS ?_
        refine till_read (i := 4) (v := .agg (p2.map (Value.int .u8)).toArray) [5, 6] rfl (by kernel_rfl) (by kernel_rfl) (by kernel_rfl) (by kernel_rfl) (by kernel_rfl) (fun _ _ _ h => h) (by rfl) (fun W hW => exec_load_blk 27 (.tmp 11) rfl (w.heap.size + 1 + 1) rfl _ _ (range_vblk hW.2.2) Tryd.underlying27 rfl (infoL p2 hl2)) hS ?_
        clear Q2 H5 HX5 HY5 HK5
        have hlenA := nodeP_len x p1
        have hlenB := nodeP_len x p2
        refine till_one (i := 2) (by kernel_rfl) rfl ?_; intro K hK
        go_simp
        refine (node_a _ hnl hl1).mono ?_
        rintro e w7 ⟨rfl, hb7⟩
        have HX7 := Hid2.mk (HX6.out.below hb7 HX6.out.lt)
        have HY7 := Hid2.mk (HY6.out.below hb7 HY6.out.lt)
        have HK7 := Hid2.mk (HK6.out.trans ((Keep.of_below hb7).mono (fun b hb => Nat.lt_of_lt_of_le hb.1 HK6.out.size)))
        have H7 := Hid2.mk (H6.out.below hb7 (Nat.le_refl _))
        have Q7 := Hid2.mk (Q6.out.below hb7 Q6.out.lt)
        refine hK _ _ (.inr ⟨Q7.out, HX7.out, HY7.out⟩) ?_
        clear hK K hb7 H6 HX6 HY6 HK6 Q6
        refine till_one (i := 5) (by kernel_rfl) rfl ?_; intro K hK
        go_simp
        refine (node_a _ hnl hl2).mono ?_
        rintro e w8 ⟨rfl, hb8⟩
        have HX8 := Hid2.mk (HX7.out.below hb8 HX7.out.lt)
        have HY8 := Hid2.mk (HY7.out.below hb8 HY7.out.lt)
        have HK8 := Hid2.mk (HK7.out.trans ((Keep.of_below hb8).mono (fun b hb => Nat.lt_of_lt_of_le hb.1 HK7.out.size)))
        have H8 := Hid2.mk (H7.out.below hb8 (Nat.le_refl _))
        have Q8 := Hid2.mk (Q7.out.below hb8 Q7.out.lt)
        refine hK _ _ (.inr ⟨Q8.out, HX8.out, HY8.out⟩) ?_
        clear hK K hb8 H7 HX7 HY7 HK7 Q7
        generalize nodeP x p1 = ra at Hp hlenA ⊢
        generalize nodeP x p2 = rb at Hp hlenB ⊢
        have HX9 := HX8.out
        have HY9 := HY8.out
        refine till_one (i := 6) (by kernel_rfl) rfl ?_; intro K hK
        refine Dig.step_store_row rfl 27 (.tmp 10) (.tmp 58) rfl (w.heap.size + 1) (ra.map (Value.int .u8)).toArray rfl rfl 27 (p1.map (Value.int .u8)).toArray HX9 (infoH ra hlenA) (sizeH _ _ hl1 hlenA) (oneH _) ?_
        refine hK _ _ (.inl rfl) ?_
        clear hK K
        have HYn := HY9.setRow_other (g := w.heap.size + 1) (ra.map (Value.int .u8)).toArray (by omega)
        refine till_one (i := 7) (by kernel_rfl) rfl ?_; intro K hK
        refine Dig.step_store_row rfl 27 (.tmp 11) (.tmp 61) rfl (w.heap.size + 1 + 1) (rb.map (Value.int .u8)).toArray rfl rfl 27 (p2.map (Value.int .u8)).toArray HYn (infoH rb hlenB) (sizeH _ _ hl2 hlenB) (oneH _) ?_
        refine hK _ _ (.inl rfl) ?_
        clear hK K
        refine till_done (by kernel_rfl) ?_ _
        have HXf := (HX9.setRow (ra.map (Value.int .u8))).setRow_other (g := w.heap.size + 1 + 1) (rb.map (Value.int .u8)).toArray (by omega)
        have HYf := HYn.setRow (rb.map (Value.int .u8))
        have hk1 := (keep_setRow w8 (w.heap.size + 1) (ra.map (Value.int .u8)).toArray).mono (K' := fun b => b < w.heap.size + 1) (fun b hb => by show b ≠ _; omega)
        have hk2 := hk1.trans ((keep_setRow _ (w.heap.size + 1 + 1) (rb.map (Value.int .u8)).toArray).mono (K' := fun b => b < w.heap.size + 1) (fun b hb => by show b ≠ _; omega))
        have Hfin := Hid2.mk (H8.out.keep hk2 (by omega) (fun b hb _ => by have := HOlt.out b hb; omega))
        have HKf := Hid2.mk (HK8.out.trans (hk2.mono (fun b hb => by have := hb.1; omega)))
        go_wp2_with fail
        refine bodyPost_ret (results_cells rfl _ _ (w.heap.size + 1) (w.heap.size + 1 + 1) 27 (ra.map (Value.int .u8)).toArray (rb.map (Value.int .u8)).toArray (0, 0) _ rfl rfl HXf HYf Tryd.underlying27 rfl (infoH ra hlenA) (infoH rb hlenB)) rfl ?_
        unfold Tk2Post
        rw [Hp.out]
        exact ⟨rfl, hlenA, hlenB, Hfin.out, HKf.out⟩

end Mk
end Go.Proofs.YtfdgclnjpbkggaaDoor
