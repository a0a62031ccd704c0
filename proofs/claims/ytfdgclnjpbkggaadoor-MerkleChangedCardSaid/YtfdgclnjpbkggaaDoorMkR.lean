/- The reference's half, Root. -/
import Derived.Test.YtfdgclnjpbkggaaDoorMkQ
import Derived.Test.YtfdgclnjpbkggaaDoorMkH
import Derived.Test.YtfdgclnjpbkggaaDoorReg
namespace Go.Proofs.YtfdgclnjpbkggaaDoor
open Go.RowKit Go.Maps
namespace Mk

set_option maxHeartbeats 1000000 in
theorem refHalf_any (n : Nat) (w : World) (h1 : 2 ≤ n) (h2 : n ≤ 1000000) : Calls Tryd.prog 46 #[.int .i64 (n : Nat)] w fun e w' => e = .returned (.int .i64 (half n : Nat)) ∧ w = w' := by
  go_enter Tryd.func46, Tryd.ntmps46
  go_wp2_with fail
  go_loopw [3] (fun i wr => ∃ k j : Nat, i = .int .i64 (k : Nat) ∧ Hid2 (k = 2 ^ j) ∧ 1 ≤ k ∧ k < n ∧ wr = w) (fun i _ => n - (intOf i).toNat)
  case atStart => exact ⟨1, 0, rfl, Hid2.mk rfl, by omega, by omega, rfl⟩
  case round =>
    obtain ⟨k, j, rfl, Hk, hk1, hkn, rfl⟩ := hrel
    by_cases hl : k < n - k
    · have g1 : (k : Int) < n - k := by omega
      have hkk : Hid2 (2 * k = 2 ^ (j + 1)) := Hid2.mk (by rw [Hk.out, Nat.pow_succ, Nat.mul_comm])
      go_wp2_with fail
      go_roundw
      case rel => exact ⟨2 * k, j + 1, by go_num, hkk, by omega, by omega, trivial⟩
      case measure => simp [intOf]; omega
    · have g1 : (n : Int) - k ≤ k := by omega
      have Hh := Hid2.mk (show half n = k by
        have := half_eq (n := n) (j := j) (by rw [← Hk.out]; exact hkn) (by rw [Nat.pow_succ, ← Hk.out]; omega)
        rw [this, Hk.out])
      go_wp2_with fail
      go_ret
      rw [Hh.out]
      exact ⟨rfl, rfl⟩

/-- What is behind a beginning of a row of digests. -/
theorem HS.drop {w : World} {O : Nat → Prop} {b o n cap : Nat} {hs : List H} (h : HS w O (.slice (some ⟨b, o, none⟩) n cap) hs) {k : Nat} (hk : k ≤ hs.length) : HS w O (.slice (some ⟨b, o + k * 32, none⟩) (n - k) (cap - k)) (hs.drop k) := by
  obtain ⟨hok, hl, h1, sp', cap', e, h2, h3, h4, h5⟩ := h
  obtain ⟨rfl, rfl, rfl⟩ : some ⟨b, o, none⟩ = sp' ∧ n = hs.length ∧ cap = cap' := by simpa using e
  have hlt : (hs.drop k).length = hs.length - k := List.length_drop
  refine ⟨okh_drop hok k, cellsH_len (okh_drop hok k), ones_cellsH _, some ⟨b, o + k * 32, none⟩, cap - k, by rw [hlt], by rw [hlt]; omega, by omega, (fun h => by cases h), fun h0 => ?_⟩
  rw [hlt] at h0
  obtain ⟨b', o', e1, hb, hO, hr⟩ := h5 (by omega)
  obtain ⟨rfl, rfl⟩ : b = b' ∧ o = o' := by simpa using e1
  have ht : cellsH hs = cellsH (hs.take k) ++ cellsH (hs.drop k) := by rw [← cellsH_app, List.take_append_drop]
  have hlen : (cellsH (hs.take k)).length = k * 32 := by rw [cellsH_len (okh_take hok k), List.length_take, Nat.min_eq_left hk]
  refine ⟨b, _, rfl, hb, hO, fun j hj => ?_⟩
  have hj2 : k * 32 + j < (cellsH hs).length := by rw [ht, List.length_append]; omega
  rw [Nat.add_assoc, hr (k * 32 + j) hj2, ht, ← hlen]
  rw [List.getD_eq_getElem?_getD, List.getD_eq_getElem?_getD, List.getElem?_append_right (by omega), Nat.add_sub_cancel_left]

theorem rt_nil : rt [] = Dig.sumL [] := by unfold rt; rw [root_nil]; rfl
theorem rt_one (a : H) : rt [a] = a := by unfold rt; rw [root_one]
theorem rt_two {l : List H} (h : 2 ≤ l.length) : rt l = nodeP (rt (l.take (half l.length))) (rt (l.drop (half l.length))) := by unfold rt; rw [root_two h]

set_option maxRecDepth 100000 in
set_option maxHeartbeats 4000000 in
theorem refRoot_any : ∀ (n : Nat) {w : World} {O : Nat → Prop} {v : Value} {l : List H}, l.length = n → HS w O v l → n ≤ 1000000 →
    Calls Tryd.prog 30 #[v] w fun e w' => e = .returned (.agg ((rt l).map (Value.int .u8)).toArray) ∧ Below w.heap.size w w' := by
  intro n
  induction n using Nat.strongRecOn with
  | ind n ih =>
    intro w O v l hln h hn
    have hz := zeroHash
    obtain ⟨hb, hR⟩ := new_hash w
    have H0 := Hid2.mk (h.below hb (Nat.le_refl _))
    have hok := h.1
    have HB := Hid2.mk hb
    have HR := Hid2.mk hR
    have Hih := Hid2.mk ih
    obtain ⟨sp, cap, rfl, hc, hc'⟩ := h.form
    rw [hln] at hc H0 ⊢
    clear hb hR ih h
    have Hln := Hid2.mk hln
    clear hln
    by_cases h0 : n = 0
    · subst h0
      have hl0 : l = [] := List.eq_nil_of_length_eq_zero Hln.out
      subst hl0
      have hlen := Dig.sumL_length []
      have Hrr := Hid2.mk rt_nil
      go_enter Tryd.func30, Tryd.ntmps30
      go_wp2_with fail
      generalize World.alloc _ _ = w1 at HR HB ⊢
      refine (Dig.refSum_s _ [] _ (Sl.nil _ _) (by simp)).mono ?_
      rintro e w2 ⟨rfl, hb2⟩
      have HB2 := Hid2.mk (HB.out.trans (hb2.mono HB.out.size))
      have HR2 := Hid2.mk (HR.out.below hb2 HR.out.lt)
      clear hb2 HB HR H0
      generalize Dig.sumL [] = rr at hlen Hrr ⊢
      go_wp2_with (refine wpList_store_row rfl 27 (.tmp 2) (.tmp 8) rfl w.heap.size (rr.map (Value.int .u8)).toArray rfl rfl 27 (Dig.Z32.map (Value.int .u8)).toArray HR2.out (infoH rr hlen) (sizeH _ _ z32_len hlen) (oneH _) ?_)
      refine bodyPost_ret (results_cell_row rfl _ _ w.heap.size 27 (rr.map (Value.int .u8)).toArray (0, 0) _ rfl (setRow_heap _ _ _ _ _ _ HR2.out) Tryd.underlying27 rfl (infoH rr hlen)) rfl ⟨by rw [Hrr.out], below_setRow HB2.out (Nat.le_refl _) _⟩
    · by_cases h1 : n = 1
      · subst h1
        obtain ⟨a, rfl⟩ : ∃ a, l = [a] := List.length_eq_one_iff.1 Hln.out
        have Hrr := Hid2.mk (rt_one a)
        obtain ⟨b, o, cap', hv, -, -, hb, -, h32, hrow⟩ := H0.out.at 0 (by simp)
        obtain ⟨rfl, rfl⟩ : sp = some ⟨b, o, none⟩ ∧ cap = cap' := by simpa using hv
        have e0 : [a].getD 0 [] = a := rfl
        have e1 : o + 0 * 32 = o := by omega
        rw [e0] at h32 hrow
        rw [e1] at hrow
        have Hrow := Hid2.mk hrow
        have Hi := Hid2.mk (show (Tryd.prog.info? 27).map (·.size) = some (a.map (Value.int .u8)).length by rw [infoHash, List.length_map, h32])
        clear hv hrow e0 e1
        go_enter Tryd.func30, Tryd.ntmps30
        go_wp2_with (first | (refine wpList_load_mid rfl 27 (.tmp 12) rfl b o rfl (a.map (Value.int .u8)) _ Hrow.out Tryd.underlying27 rfl Hi.out ?_) | (refine wpList_store_row rfl 27 (.tmp 2) (.tmp 13) rfl w.heap.size (a.map (Value.int .u8)).toArray rfl rfl 27 (Dig.Z32.map (Value.int .u8)).toArray HR.out (infoH a h32) (sizeH _ _ z32_len h32) (oneH _) ?_))
        refine bodyPost_ret (results_cell_row rfl _ _ w.heap.size 27 (a.map (Value.int .u8)).toArray (0, 0) _ rfl (setRow_heap _ _ _ _ _ _ HR.out) Tryd.underlying27 rfl (infoH a h32)) rfl ⟨by rw [Hrr.out], below_setRow HB.out (Nat.le_refl _) _⟩
      · have h2 : 2 ≤ n := by omega
        have g0 : ((n : Int) == 0) = false := by simp; omega
        have g1 : ((n : Int) == 1) = false := by simp; omega
        have hkl := half_lt h2
        have hkp := half_pos n
        have Hrt := Hid2.mk (show rt l = nodeP (rt (l.take (half n))) (rt (l.drop (half n))) by have := rt_two (l := l) (by rw [Hln.out]; exact h2); rw [Hln.out] at this; exact this)
        obtain ⟨b, o, cap', hv, -, -, hb, -, -, -⟩ := H0.out.at 0 (by rw [Hln.out]; omega)
        rw [Hln.out] at hv
        obtain ⟨rfl, rfl⟩ : sp = some ⟨b, o, none⟩ ∧ cap = cap' := by simpa using hv
        have Ht0 := Hid2.mk (H0.out.take (k := half n) (by rw [Hln.out]; omega))
        have Hd0 := Hid2.mk (H0.out.drop (k := half n) (by rw [Hln.out]; omega))
        have la := rt_len (okh_take hok (half n))
        have lb := rt_len (okh_drop hok (half n))
        have llt : (l.take (half n)).length = half n := by rw [List.length_take, Hln.out]; omega
        have lld : (l.drop (half n)).length = n - half n := by rw [List.length_drop, Hln.out]
        clear hv h0 h1
        go_enter Tryd.func30, Tryd.ntmps30
        go_wp2_with fail
        refine (refHalf_any n _ h2 hn).mono ?_
        rintro e w' ⟨rfl, rfl⟩
        generalize half n = k at hkl hkp Hrt Ht0 Hd0 la lb llt lld ⊢
        generalize l.take k = A at Hrt Ht0 la llt
        generalize l.drop k = B at Hrt Hd0 lb lld
        have hkc : (k : Int) ≤ cap := by omega
        have hck : ¬ cap = k := by omega
        have hkn : (k : Int) ≤ n := by omega
        have hLlt := Hid2.mk llt
        have hLld := Hid2.mk lld
        clear llt lld
        go_wp2_with fail
        generalize World.alloc _ _ = w1 at H0 HB HR Ht0 Hd0 ⊢
        have hS : True := trivial
        refine wp_region_till 8 (fun _ => True) (by kernel_rfl) ?_
        refine till_free (i := 0) rfl (by kernel_rfl) (by kernel_rfl) (by kernel_rfl) rfl (fun _ _ _ h => h) (.inr hS) (by rfl) (fun _ => by first | (go_simp; done) | (go_simp; with_reducible rfl)) ?_  -- move (tmp 0)
        refine till_free (i := 1) rfl (by kernel_rfl) (by kernel_rfl) (by kernel_rfl) rfl (fun _ _ _ h => h) (.inr hS) (by rfl) (fun _ => by first | (go_simp; done) | (go_simp; with_reducible rfl)) ?_  -- move (tmp 3)
        refine till_free (i := 2) rfl (by kernel_rfl) (by kernel_rfl) (by kernel_rfl) rfl (fun _ _ _ h => h) (.inr hS) (by rfl) (fun _ => by first | (go_simp; done) | (go_simp; with_reducible rfl)) ?_  -- slice 22 (tmp 17) none (some (tmp 18)) none
        refine till_free (i := 4) rfl (by kernel_rfl) (by kernel_rfl) (by kernel_rfl) rfl (fun _ _ _ h => h) (.inr hS) (by rfl) (fun _ => by first | (go_simp; done) | (go_simp; with_reducible rfl)) ?_  -- move (tmp 0)
        refine till_free (i := 5) rfl (by kernel_rfl) (by kernel_rfl) (by kernel_rfl) rfl (fun _ _ _ h => h) (.inr hS) (by rfl) (fun _ => by first | (go_simp; done) | (go_simp; with_reducible rfl)) ?_  -- move (tmp 3)
        refine till_free (i := 6) rfl (by kernel_rfl) (by kernel_rfl) (by kernel_rfl) rfl (fun _ _ _ h => h) (.inr hS) (by rfl) (fun _ => by first | (go_simp; done) | (go_simp; with_reducible rfl)) ?_  -- slice 22 (tmp 21) (some (tmp 22)) none none
        have hd1 : Below w1.heap.size w1 w1.drew := belowN (Below.refl w1.heap.size w1) 1
        have Ht1 := Hid2.mk (Ht0.out.below hd1 (Nat.le_refl _))
        have Hd1 := Hid2.mk (Hd0.out.below hd1 (Nat.le_refl _))
        have HBd := Hid2.mk (belowN HB.out 1)
        have HRd := Hid2.mk (HR.out.drewN 1)
        refine till_one (i := 3) (by kernel_rfl) rfl ?_; intro K hK
        go_simp
        refine (Hih.out k hkl hLlt.out Ht1.out (by omega)).mono ?_
        rintro e w2 ⟨rfl, hb2⟩
        have Hd2 := Hid2.mk (Hd1.out.below hb2 (Nat.le_refl _))
        have HB2 := Hid2.mk (HBd.out.trans (hb2.mono HBd.out.size))
        have HR2 := Hid2.mk (HRd.out.below hb2 HRd.out.lt)
        refine hK _ _ (.inr trivial) ?_
        clear hK K hb2 hd1
        refine till_one (i := 7) (by kernel_rfl) rfl ?_; intro K hK
        go_simp
        refine (Hih.out (n - k) (by omega) hLld.out Hd2.out (by omega)).mono ?_
        rintro e w3 ⟨rfl, hb3⟩
        have HB3 := Hid2.mk (HB2.out.trans (hb3.mono HB2.out.size))
        have HR3 := Hid2.mk (HR2.out.below hb3 HR2.out.lt)
        refine hK _ _ (.inr trivial) ?_
        clear hK K hb3
        generalize rt A = ra at Hrt la ⊢
        generalize rt B = rb at Hrt lb ⊢
        have hlen := nodeP_len ra rb
        refine till_one (i := 8) (by kernel_rfl) rfl ?_; intro K hK
        go_simp
        refine (refNode_a _ la lb).mono ?_
        rintro e w4 ⟨rfl, hb4⟩
        obtain ⟨rr, hrr⟩ : ∃ rr, rr = nodeP ra rb := ⟨_, rfl⟩
        have Hrr := Hid2.mk (show rt l = rr by rw [Hrt.out, hrr])
        rw [← hrr] at hlen ⊢
        have HB4 := Hid2.mk (HB3.out.trans (hb4.mono HB3.out.size))
        have HR4 := Hid2.mk (HR3.out.below hb4 HR3.out.lt)
        refine hK _ _ (.inl rfl) ?_
        clear hK K hb4 hrr Hrt
        refine till_one (i := 9) (by kernel_rfl) rfl ?_; intro K hK
        refine Dig.step_store_row rfl 27 (.tmp 2) (.tmp 25) rfl w.heap.size (rr.map (Value.int .u8)).toArray rfl rfl 27 (Dig.Z32.map (Value.int .u8)).toArray HR4.out (infoH rr hlen) (sizeH _ _ z32_len hlen) (oneH _) ?_
        refine hK _ _ (.inl rfl) ?_
        clear hK K
        refine till_done (by kernel_rfl) ?_ _
        go_wp2_with fail
        refine bodyPost_ret (results_cell_row rfl _ _ w.heap.size 27 (rr.map (Value.int .u8)).toArray (0, 0) _ rfl (setRow_heap _ _ _ _ _ _ HR4.out) Tryd.underlying27 rfl (infoH rr hlen)) rfl ⟨by rw [Hrr.out], below_setRow HB4.out (Nat.le_refl _) _⟩

end Mk
end Go.Proofs.YtfdgclnjpbkggaaDoor
