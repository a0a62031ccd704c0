/- The law MerkleChanged, walked (under way; its head was printed out of XMkZp's). -/
import Derived.Test.YtfdgclnjpbkggaaDoorMkZn
import Derived.Test.YtfdgclnjpbkggaaDoorMkU
import Derived.Test.YtfdgclnjpbkggaaDoorMkW
import Derived.Test.YtfdgclnjpbkggaaDoorMkF
namespace Go.Proofs.YtfdgclnjpbkggaaDoor
open Go.RowKit Go.Maps BigFrame
namespace Mk

theorem okh_provT {l : List H} (h : Okh l) (i size : Int) : Okh (provL l i size) := by
  unfold provL; split
  · exact okh_path _ rfl (okh_take h _)
  · exact okh_nil
theorem okh_consT {l : List H} (h : Okh l) (m size : Int) : Okh (consL l m size) := by
  unfold consL; split
  · exact okh_sub _ rfl (okh_take h _)
  · exact okh_nil
/-- What is left of a number behind a mask. -/
theorem bits_and_mask (x : Int) (m : Nat) (hm : m < 4611686018427387904) : ∃ r : Nat, r ≤ m ∧ bits .and .i64 x (m : Int) = (r : Int) := by
  refine ⟨(BitVec.ofInt 64 x).toNat &&& m, Nat.and_le_right, ?_⟩
  have h2 : (BitVec.ofInt 64 (m : Int)).toNat = m := by
    rw [BitVec.ofInt_natCast, BitVec.toNat_ofNat]; exact Nat.mod_eq_of_lt (by omega)
  have h3 : (BitVec.ofInt 64 x).toNat &&& m ≤ m := Nat.and_le_right
  show IntKind.i64.wrap ((BitVec.ofInt 64 x &&& BitVec.ofInt 64 (m : Int)).toNat : Int) = _
  rw [BitVec.toNat_and, h2]
  exact IntWalk.i64_in _ (by omega)
theorem cellsH_set : ∀ {hs : List H} (_ : Okh hs) (k j : Nat) (x : Int), k < hs.length → j < 32 → (cellsH hs).set (k * 32 + j) (.int .u8 x) = cellsH (hs.set k ((hs.getD k []).set j x)) := by
  intro hs
  induction hs with
  | nil => intro _ k j x hk; simp at hk
  | cons a r ih =>
    intro h k j x hk hj
    have h1 := h a List.mem_cons_self
    have hl : (a.map (Value.int .u8)).length = 32 := by rw [List.length_map, h1]
    have e : cellsH (a :: r) = a.map (Value.int .u8) ++ cellsH r := rfl
    rw [e]
    cases k with
    | zero =>
      rw [Nat.zero_mul, Nat.zero_add, List.set_append_left _ _ (by omega)]
      show _ = (a.set j x).map (Value.int .u8) ++ cellsH r
      rw [List.map_set]
    | succ k =>
      rw [List.set_append_right _ _ (by omega), hl]
      have e2 : (k + 1) * 32 + j - 32 = k * 32 + j := by omega
      rw [e2, ih (fun y hy => h y (List.mem_cons_of_mem _ hy)) k j x (by simpa using hk) hj]
      rfl
theorem cell_of {hs : List H} (h : Okh hs) {k j : Nat} (hk : k < hs.length) (hj : j < 32) : (cellsH hs).getD (k * 32 + j) undef = .int .u8 ((hs.getD k []).getD j 0) := by
  have h1 := cellsH_at h k j hk hj
  have h2 := okh_getD h hk
  generalize hs.getD k [] = y at h1 h2 ⊢
  have hy : j < y.length := by omega
  rw [List.getD_eq_getElem?_getD, h1, List.getElem?_map, List.getElem?_eq_getElem hy, List.getD_eq_getElem?_getD, List.getElem?_eq_getElem hy]
  rfl
theorem okh_set {hs : List H} (h : Okh hs) (k j : Nat) (x : Int) (hk : k < hs.length) : Okh (hs.set k ((hs.getD k []).set j x)) := fun y hy => by
  rcases List.mem_or_eq_of_mem_set hy with h1 | rfl
  · exact h y h1
  · rw [List.length_set]; exact okh_getD h hk

set_option maxRecDepth 100000 in
set_option maxHeartbeats 8000000 in
theorem changed_any {v0 : Value} {O0 : Nat → Prop} {l : List H} (i size old at_ by_ : Int) (w : World) (h0 : HS w O0 v0 l) (hT : Tab w) :
    Calls Tryd.prog 9 #[v0, .int .i64 i, .int .i64 size,   .int .i64 old, .int .i64 at_, .int .u8 by_] w fun e w' => e = .returned (.bool true) ∧ Below w.heap.size w w' := by
  have hz := zeroHash
  have hzp := zeroProof
  have H0 := Hid2.mk h0
  have HT := Hid2.mk hT
  obtain ⟨sp0, cap0, rfl, hc0, hc0'⟩ := h0.form
  clear h0 hT
  by_cases hg : l.length ≤ 80 ∧ 1 ≤ size ∧ size ≤ l.length ∧ 0 ≤ i ∧ i < size ∧ 1 ≤ old ∧ old ≤ size
  · obtain ⟨g0, g1, g2, g3, g4, g5, g6⟩ := hg
    have hokP : okP l i size := ⟨g1, g2, g3, g4⟩
    have hokS : okS l old size := ⟨g1, g2, g5, g6⟩
    have hrc : rootC l size = 0 := by unfold rootC; rw [if_pos ⟨by omega, g2⟩]
    have hro : rootC l old = 0 := by unfold rootC; rw [if_pos ⟨by omega, by omega⟩]
    have hpc : provC l i size = 0 := by unfold provC; rw [if_pos hokP]
    have hcc : consC l old size = 0 := by unfold consC; rw [if_pos hokS]
    have hrl := rootV_len H0.out.1 size
    have hol := rootV_len H0.out.1 old
    have OP := Hid2.mk (okh_provT H0.out.1 i size)
    have OC := Hid2.mk (okh_consT H0.out.1 old size)
    have Hrc := Hid2.mk hrc
    have Hro := Hid2.mk hro
    have Hpc := Hid2.mk hpc
    have Hcc := Hid2.mk hcc
    clear hokP hokS hrc hro hpc hcc
    have g0' : (l.length : Int) ≤ 80 := by omega
    obtain ⟨a, rfl⟩ := Int.eq_ofNat_of_zero_le g3
    have hal : a < l.length := by omega
    have hali : (a : Int) < l.length := by omega
    go_enter Tryd.func9, Tryd.ntmps9
    go_wp2_with fail
    refine (made_any H0.out (by omega)).mono ?_
    rintro e w1 ⟨t, rfl, ht⟩
    have Ht1 := Hid2.mk ht
    have HS1 := Hid2.mk (H0.out.below ht.bel (Nat.le_refl _))
    obtain ⟨O2, h2, -⟩ := Ht1.out
    go_wp2_with fail
    refine (rootTop_a h2 (HT.out.below Ht1.out.bel (Nat.le_refl _)) (by omega) _).mono ?_
    rintro e w3 ⟨rfl, hb3⟩
    rw [Hrc.out]
    generalize rootV l size = rr at hrl ⊢
    have Ht3 := Hid2.mk (Ht1.out.below hb3)
    have HS3 := Hid2.mk (HS1.out.below hb3 (Nat.le_refl _))
    obtain ⟨q1, q2, q3⟩ := alloc_store w3 rr
    have Q1 := Hid2.mk q1
    have QA := Hid2.mk q2
    have Ht4 := Hid2.mk (Ht3.out.below q3)
    have HS4 := Hid2.mk (HS3.out.below q3 (Nat.le_refl _))
    clear hb3 q1 q2 q3 h2 Ht1 HS1 Ht3 HS3
    go_wp2_with (refine wpList_store_row rfl 27 (.tmp 15) (.tmp 66) rfl w3.heap.size (rr.map (Value.int .u8)).toArray rfl rfl 27 (Dig.Z32.map (Value.int .u8)).toArray Q1.out (infoH rr hrl) (sizeH _ _ z32_len hrl) (oneH _) ?_)
    generalize World.setRow _ _ _ = w4 at QA Ht4 HS4 ⊢
    clear Q1
    obtain ⟨O4, h4, -⟩ := Ht4.out
    refine (rootTop_a h4 (HT.out.below Ht4.out.bel (Nat.le_refl _)) (by omega) _).mono ?_
    rintro e w5 ⟨rfl, hb5⟩
    rw [Hro.out]
    generalize rootV l old = ro at hol ⊢
    have Ht5 := Hid2.mk (Ht4.out.below hb5)
    have HS5 := Hid2.mk (HS4.out.below hb5 (Nat.le_refl _))
    have QA5 := Hid2.mk (QA.out.below hb5 QA.out.lt)
    obtain ⟨q1, q2, q3⟩ := alloc_store w5 ro
    have Q1 := Hid2.mk q1
    have QB := Hid2.mk q2
    have Ht6 := Hid2.mk (Ht5.out.below q3)
    have HS6 := Hid2.mk (HS5.out.below q3 (Nat.le_refl _))
    have QA6 := Hid2.mk (QA5.out.below q3 QA5.out.lt)
    clear hb5 q1 q2 q3 h4 Ht4 HS4 Ht5 HS5 QA QA5
    go_wp2_with (refine wpList_store_row rfl 27 (.tmp 17) (.tmp 72) rfl w5.heap.size (ro.map (Value.int .u8)).toArray rfl rfl 27 (Dig.Z32.map (Value.int .u8)).toArray Q1.out (infoH ro hol) (sizeH _ _ z32_len hol) (oneH _) ?_)
    generalize World.setRow _ _ _ = w6 at QB Ht6 HS6 QA6 ⊢
    clear Q1
    obtain ⟨O6, h6, -⟩ := Ht6.out
    refine (prove_any h6 (HT.out.below Ht6.out.bel (Nat.le_refl _)) (by omega) _ _).mono ?_
    rw [Hpc.out]
    rintro e w7 ⟨spP, cP, rfl, hownP, hb7⟩
    generalize provL l a size = P at OP hownP ⊢
    have hb7' : Below w6.heap.size w6 (w7.alloc (.cells #[.slice spP P.length cP] 40)) := hb7.alloc hb7.size _
    have Ht7 := Hid2.mk (Ht6.out.below hb7')
    have HS7 := Hid2.mk (HS6.out.below hb7' (Nat.le_refl _))
    have QA7 := Hid2.mk (QA6.out.below hb7' QA6.out.lt)
    have QB7 := Hid2.mk (QB.out.below hb7' QB.out.lt)
    have OWP := Hid2.mk (hownP.alloc (.cells #[.slice spP P.length cP] 40))
    have QP := Hid2.mk (VBlk.mk w7 [.slice spP P.length cP] 40)
    have HO1 := Hid2.mk (show w3.heap.size < w6.heap.size ∧ w5.heap.size < w6.heap.size ∧ w.heap.size ≤ w6.heap.size from ⟨QA6.out.lt, QB.out.lt, Ht6.out.size⟩)
    have HW67 := Hid2.mk hb7.size
    have HOP := Hid2.mk (show ∀ g, (Value.slice spP P.length cP).ownBlock = some g → w6.heap.size ≤ g ∧ g < w7.heap.size from fun g hg => ⟨hownP.own hg, hownP.lt hg⟩)
    clear hb7 hb7' hownP h6 Ht6 HS6 QA6 QB
    go_wp2_with fail
    generalize World.alloc w7 _ = w8 at Ht7 HS7 QA7 QB7 OWP QP ⊢
    obtain ⟨O8, h8, -⟩ := Ht7.out
    refine (consist_any h8 (HT.out.below Ht7.out.bel (Nat.le_refl _)) (by omega) _ _).mono ?_
    rw [Hcc.out]
    rintro e w9 ⟨spC, cC, rfl, hownC, hb9⟩
    generalize consL l old size = C at OC hownC ⊢
    have hb9' : Below w8.heap.size w8 (w9.alloc (.cells #[.slice spC C.length cC] 40)) := hb9.alloc hb9.size _
    have Ht9 := Hid2.mk (Ht7.out.below hb9')
    have HS9 := Hid2.mk (HS7.out.below hb9' (Nat.le_refl _))
    have QA9 := Hid2.mk (QA7.out.below hb9' QA7.out.lt)
    have QB9 := Hid2.mk (QB7.out.below hb9' QB7.out.lt)
    have QP9 := Hid2.mk (QP.out.below hb9' QP.out.lt)
    have OWP9 := Hid2.mk (OWP.out.keep (Keep.of_below hb9') (fun g hg => OWP.out.lt hg))
    have OWC9 := Hid2.mk (hownC.alloc (.cells #[.slice spC C.length cC] 40))
    have QC9 := Hid2.mk (VBlk.mk w9 [.slice spC C.length cC] 40)
    have HOC := Hid2.mk (show w7.heap.size < w8.heap.size ∧ w8.heap.size ≤ w9.heap.size ∧ w6.heap.size ≤ w7.heap.size ∧ ∀ g, (Value.slice spC C.length cC).ownBlock = some g → w8.heap.size ≤ g ∧ g < w9.heap.size from ⟨QP.out.lt, hb9.size, HW67.out, fun g hg => ⟨hownC.own hg, hownC.lt hg⟩⟩)
    clear hb9 hb9' hownC h8 Ht7 HS7 QA7 QB7 QP OWP
    obtain ⟨r1, hr1, e1⟩ := bits_and_mask at_ 1023 (by omega)
    obtain ⟨j, hj, ej⟩ := bits_and_mask (at_ / 1024) 31 (by omega)
    have e1' : bits .and .i64 at_ 1023 = (r1 : Int) := e1
    have ej' : bits .and .i64 (at_ / 1024) 31 = (j : Int) := ej
    have hji : (j : Int) < 32 := by omega
    have HB9 := Hid2.mk Ht9.out.bel
    have p0 := QP9.out.cell 0 (by simp)
    have c0 := QC9.out.cell 0 (by simp)
    simp only [List.getD_cons_zero] at p0 c0
    clear e1 ej
    by_cases hP : P.length = 0
    · have hP0 : P = [] := List.eq_nil_of_length_eq_zero hP
      subst hP0
      simp only [List.length_nil] at p0 c0 QA9 QB9 QP9 QC9 OWP9 OWC9 HB9
      by_cases hC : C.length = 0
      · have hC0 : C = [] := List.eq_nil_of_length_eq_zero hC
        subst hC0
        simp only [List.length_nil] at p0 c0 QA9 QB9 QP9 QC9 OWP9 OWC9 HB9
        go_wp2_with fail
        generalize World.alloc w9 _ = w10 at QA9 QB9 QP9 QC9 OWP9 OWC9 HB9 p0 c0 ⊢
        have HTf := Hid2.mk (HT.out.below HB9.out (Nat.le_refl _))
        have HSf := H0.out.below HB9.out (Nat.le_refl _)
        have HPf := Hid2.mk (OwnV.hs OWP9.out OP.out rfl)
        have HCf := Hid2.mk (OwnV.hs OWC9.out OC.out rfl)
        obtain ⟨b, o, cap', hv0, -, -, hblt, -, hxl, hrow⟩ := HSf.at a hal
        obtain ⟨rfl, rfl⟩ : sp0 = some ⟨b, o, none⟩ ∧ cap0 = cap' := by simpa using hv0
        generalize l.getD a [] = x at hxl hrow
        have Hrow := Hid2.mk hrow
        obtain ⟨vp, hvp⟩ : ∃ y, verP x a size [] rr = y := ⟨_, rfl⟩
        obtain ⟨vc, hvc⟩ : ∃ y, vconP old size [] ro rr = y := ⟨_, rfl⟩
        have Hvp := Hid2.mk hvp
        have Hvc := Hid2.mk hvc
        clear hvp hvc hrow HSf hv0
        refine wp_region_quietB (by kernel_rfl) (by kernel_rfl) ?_
        repeat (first | go_big_quiet_skip | (go_big_quiet_want; refine quiet_midB 27 (.tmp 134) rfl b (o + a * 32) rfl (x.map (Value.int .u8)) _ Hrow.out hblt Tryd.underlying27 rfl (infoL x hxl) ?_; go_simp; go_big_quiet_on) | (go_big_quiet_want; refine quiet_midB 27 (.tmp 143) rfl b (o + a * 32) rfl (x.map (Value.int .u8)) _ Hrow.out hblt Tryd.underlying27 rfl (infoL x hxl) ?_; go_simp; go_big_quiet_on) | (go_big_quiet_want; refine quiet_loadB 27 (.tmp 15) rfl w3.heap.size rfl 27 (rr.map (Value.int .u8)).toArray (0, 0) _ QA9.out Tryd.underlying27 rfl (infoH rr hrl) ?_; go_simp; go_big_quiet_on) | (go_big_quiet_want; refine quiet_loadB 27 (.tmp 17) rfl w5.heap.size rfl 27 (ro.map (Value.int .u8)).toArray (0, 0) _ QB9.out Tryd.underlying27 rfl (infoH ro hol) ?_; go_simp; go_big_quiet_on) | (go_big_quiet_want; refine quiet_loadB 40 (.tmp 19) rfl w7.heap.size rfl 40 #[.slice spP 0 cP] (0, 0) _ QP9.out Tryd.underlying40 rfl infoProof ?_; go_simp; go_big_quiet_on) | (go_big_quiet_want; refine quiet_loadB 40 (.tmp 21) rfl w9.heap.size rfl 40 #[.slice spC 0 cC] (0, 0) _ QC9.out Tryd.underlying40 rfl infoProof ?_; go_simp; go_big_quiet_on) | (go_big_quiet_want; go_big_quiet_op; first | go_big_quiet_on | (refine ⟨_, fun _ _ => rfl, ?_⟩; go_big_quiet_on) | (apply Exists.intro; refine ⟨fun _ hB => ?_, ?_⟩; (focus (first | (go_at_call 22; exact callB hB ((verify_any (HPf.out.below hB (Nat.le_refl _)) hxl hrl a size).mono (fun e w' h => by rw [Hvp.out] at h; exact h))) | (go_at_call 23; exact callB hB ((refVerify_any (HPf.out.below hB (Nat.le_refl _)) hxl hrl a size).mono (fun e w' h => by rw [Hvp.out] at h; exact h))) | (go_at_call 24; exact callB hB ((vcon_any (HCf.out.below hB (Nat.le_refl _)) hol hrl old size).mono (fun e w' h => by rw [Hvc.out] at h; exact h))) | (go_at_call 25; exact callB hB ((refVcon_any (HCf.out.below hB (Nat.le_refl _)) hol hrl old size).mono (fun e w' h => by rw [Hvc.out] at h; exact h))) | (go_at_call 12; exact callB hB (known_any _ (HTf.out.below hB (Nat.le_refl _)))))); go_big_quiet_on)))
        refine wpQuiet_nil ?_
        intro w' hw'
        have hbf : Below w.heap.size w w' := HB9.out.trans (hw'.mono HB9.out.size)
        clear hw'
        go_wp2_with fail
        go_ret
        exact ⟨rfl, hbf⟩
      · have gc : (0 : Int) < C.length := by omega
        go_wp2_with fail
        generalize World.alloc w9 _ = w10 at QA9 QB9 QP9 QC9 OWP9 OWC9 HB9 p0 c0 ⊢
        obtain ⟨gC, hown, hsp⟩ : ∃ g, (Value.slice spC C.length cC).ownBlock = some g ∧ spC = some ⟨g, 0, none⟩ := by
          rcases OWC9.out.form with ⟨-, e2, -⟩ | ⟨g', cap', cur, e1, -⟩
          · omega
          · obtain ⟨e2, e3⟩ : spC = some ⟨g', 0, none⟩ ∧ cC = cap' := by simpa using e1
            exact ⟨g', by rw [e2]; rfl, e2⟩
        subst hsp
        obtain ⟨k, hk, ek⟩ : ∃ k, k < C.length ∧ (r1 : Int).tmod (C.length : Int) = (k : Nat) := ⟨r1 % C.length, Nat.mod_lt _ (by omega), by rw [Int.ofNat_tmod]⟩
        have hki : (k : Int) < C.length := by omega
        have hkj : k * 32 + j < (cellsH C).length := by rw [cellsH_len OC.out]; omega
        have hcell := OWC9.out.at (k * 32 + j) hkj
        have hval := cell_of OC.out hk (show j < 32 by omega)
        rw [hval] at hcell
        have hfree := OWC9.out.free (k * 32 + j)
        have HX := Hid2.mk (cellsH_set OC.out k j (bits .xor .u8 ((C.getD k []).getD j 0) by_) hk (by omega))
        have OX := Hid2.mk (okh_set OC.out k j (bits .xor .u8 ((C.getD k []).getD j 0) by_) hk)
        have Hst := Hid2.mk (((OwnV.stored OWC9.out (k * 32 + j) (u := .int .u8 (bits .xor .u8 ((C.getD k []).getD j 0) by_)) rfl)).of_block (w' := (w10.setCell ⟨gC, k * 32 + j, none⟩ (.int .u8 (bits .xor .u8 ((C.getD k []).getD j 0) by_))).drew) (fun _ _ => rfl))
        have Hks := Hid2.mk (show Keep (fun b => b ≠ gC) w10 (w10.setCell ⟨gC, k * 32 + j, none⟩ (.int .u8 (bits .xor .u8 ((C.getD k []).getD j 0) by_))).drew from ((Keep.refl _ w10).setCell (fun h => h rfl) _).drewN 1)
        have Hown := Hid2.mk hown
        generalize (C.getD k []).getD j 0 = cc at hcell HX OX Hst Hks
        clear hval hkj hown
        refine wp_region_still_tail 18 (by kernel_rfl) (by kernel_rfl) ?_
        simp only [List.take_succ_cons, List.take_zero, List.drop_succ_cons, List.drop_zero]
        repeat still_step
        try refine wpStill_nil ?_
        change wpList _ _ _ _ _ w10.drew
        have OWCn := Hid2.mk (show OwnV 27 32 (w10.setCell ⟨gC, k * 32 + j, none⟩ (.int .u8 (bits .xor .u8 cc by_))).drew _ (.slice (some ⟨gC, 0, none⟩) C.length cC) C.length (cellsH (C.set k ((C.getD k []).set j (bits .xor .u8 cc by_)))) by rw [← HX.out]; exact Hst.out)
        have OWP11 := Hid2.mk (OWP9.out.keep Hks.out (fun g hg => by have h2 := HOC.out.2.2.2 _ Hown.out; have h3 := HOP.out g hg; have h4 := HOC.out.1; show g ≠ gC; omega))
        have QA11 := Hid2.mk (QA9.out.keep Hks.out (by have h1 := HO1.out; have h3 := HOC.out; have h2 := HOC.out.2.2.2 _ Hown.out; show w3.heap.size ≠ gC; omega))
        have QB11 := Hid2.mk (QB9.out.keep Hks.out (by have h1 := HO1.out; have h3 := HOC.out; have h2 := HOC.out.2.2.2 _ Hown.out; show w5.heap.size ≠ gC; omega))
        have QP11 := Hid2.mk (QP9.out.keep Hks.out (by have h1 := HO1.out; have h3 := HOC.out; have h2 := HOC.out.2.2.2 _ Hown.out; show w7.heap.size ≠ gC; omega))
        have QC11 := Hid2.mk (QC9.out.keep Hks.out (by have h1 := HO1.out; have h3 := HOC.out; have h2 := HOC.out.2.2.2 _ Hown.out; show w9.heap.size ≠ gC; omega))
        have HB11 := Hid2.mk (HB9.out.trans ((Hks.out.mono (K' := fun b => b < w.heap.size) (fun b (hb : b < w.heap.size) => by have h1 := HO1.out; have h3 := HOC.out; have h2 := HOC.out.2.2.2 _ Hown.out; show b ≠ gC; omega)).below))
        have hlen2 : (C.set k ((C.getD k []).set j (bits .xor .u8 cc by_))).length = C.length := List.length_set
        have c11 := QC11.out.cell 0 (by simp)
        simp only [List.getD_cons_zero] at c11
        generalize hX : C.set k ((C.getD k []).set j (bits .xor .u8 cc by_)) = C2 at OWCn OX hlen2
        have hneC : w9.heap.size ≠ gC := by have h1 := HO1.out; have h3 := HOC.out; have h2 := HOC.out.2.2.2 _ Hown.out; omega
        have hneC' : gC ≠ w9.heap.size := Ne.symm hneC
        go_wp2_with fail
        generalize (World.setCell _ _ _).drew = w11 at OWCn OWP11 QA11 QB11 QP11 QC11 HB11 c11 ⊢
        clear hX Hst Hks HX hcell hfree ek hk hki
        have OWC11 := OWCn

        have HTf := Hid2.mk (HT.out.below HB11.out (Nat.le_refl _))
        have HSf := H0.out.below HB11.out (Nat.le_refl _)
        have HPf := Hid2.mk (OwnV.hs OWP11.out OP.out rfl)
        have HCf := Hid2.mk (OwnV.hs OWC11.out OX.out hlen2.symm)
        obtain ⟨b, o, cap', hv0, -, -, hblt, -, hxl, hrow⟩ := HSf.at a hal
        obtain ⟨rfl, rfl⟩ : sp0 = some ⟨b, o, none⟩ ∧ cap0 = cap' := by simpa using hv0
        generalize l.getD a [] = x at hxl hrow
        have Hrow := Hid2.mk hrow
        obtain ⟨vp, hvp⟩ : ∃ y, verP x a size [] rr = y := ⟨_, rfl⟩
        obtain ⟨vc, hvc⟩ : ∃ y, vconP old size C2 ro rr = y := ⟨_, rfl⟩
        have Hvp := Hid2.mk hvp
        have Hvc := Hid2.mk hvc
        clear hvp hvc hrow HSf hv0
        refine wp_region_quietB (by kernel_rfl) (by kernel_rfl) ?_
        repeat (first | go_big_quiet_skip | (go_big_quiet_want; refine quiet_midB 27 (.tmp 134) rfl b (o + a * 32) rfl (x.map (Value.int .u8)) _ Hrow.out hblt Tryd.underlying27 rfl (infoL x hxl) ?_; go_simp; go_big_quiet_on) | (go_big_quiet_want; refine quiet_midB 27 (.tmp 143) rfl b (o + a * 32) rfl (x.map (Value.int .u8)) _ Hrow.out hblt Tryd.underlying27 rfl (infoL x hxl) ?_; go_simp; go_big_quiet_on) | (go_big_quiet_want; refine quiet_loadB 27 (.tmp 15) rfl w3.heap.size rfl 27 (rr.map (Value.int .u8)).toArray (0, 0) _ QA11.out Tryd.underlying27 rfl (infoH rr hrl) ?_; go_simp; go_big_quiet_on) | (go_big_quiet_want; refine quiet_loadB 27 (.tmp 17) rfl w5.heap.size rfl 27 (ro.map (Value.int .u8)).toArray (0, 0) _ QB11.out Tryd.underlying27 rfl (infoH ro hol) ?_; go_simp; go_big_quiet_on) | (go_big_quiet_want; refine quiet_loadB 40 (.tmp 19) rfl w7.heap.size rfl 40 #[.slice spP 0 cP] (0, 0) _ QP11.out Tryd.underlying40 rfl infoProof ?_; go_simp; go_big_quiet_on) | (go_big_quiet_want; refine quiet_loadB 40 (.tmp 21) rfl w9.heap.size rfl 40 #[.slice (some ⟨gC, 0, none⟩) C.length cC] (0, 0) _ QC11.out Tryd.underlying40 rfl infoProof ?_; go_simp; go_big_quiet_on) | (go_big_quiet_want; go_big_quiet_op; first | go_big_quiet_on | (refine ⟨_, fun _ _ => rfl, ?_⟩; go_big_quiet_on) | (apply Exists.intro; refine ⟨fun _ hB => ?_, ?_⟩; (focus (first | (go_at_call 22; exact callB hB ((verify_any (HPf.out.below hB (Nat.le_refl _)) hxl hrl a size).mono (fun e w' h => by rw [Hvp.out] at h; exact h))) | (go_at_call 23; exact callB hB ((refVerify_any (HPf.out.below hB (Nat.le_refl _)) hxl hrl a size).mono (fun e w' h => by rw [Hvp.out] at h; exact h))) | (go_at_call 24; exact callB hB ((vcon_any (HCf.out.below hB (Nat.le_refl _)) hol hrl old size).mono (fun e w' h => by rw [Hvc.out] at h; exact h))) | (go_at_call 25; exact callB hB ((refVcon_any (HCf.out.below hB (Nat.le_refl _)) hol hrl old size).mono (fun e w' h => by rw [Hvc.out] at h; exact h))) | (go_at_call 12; exact callB hB (known_any _ (HTf.out.below hB (Nat.le_refl _)))))); go_big_quiet_on)))
        refine wpQuiet_nil ?_
        intro w' hw'
        have hbf : Below w.heap.size w w' := HB11.out.trans (hw'.mono HB11.out.size)
        clear hw'
        go_wp2_with fail
        go_ret
        exact ⟨rfl, hbf⟩
    · have gp : (0 : Int) < P.length := by omega
      go_wp2_with fail
      generalize World.alloc w9 _ = w10 at QA9 QB9 QP9 QC9 OWP9 OWC9 HB9 p0 c0 ⊢
      obtain ⟨gP, hown, hsp⟩ : ∃ g, (Value.slice spP P.length cP).ownBlock = some g ∧ spP = some ⟨g, 0, none⟩ := by
        rcases OWP9.out.form with ⟨-, e2, -⟩ | ⟨g', cap', cur, e1, -⟩
        · omega
        · obtain ⟨e2, e3⟩ : spP = some ⟨g', 0, none⟩ ∧ cP = cap' := by simpa using e1
          exact ⟨g', by rw [e2]; rfl, e2⟩
      subst hsp
      obtain ⟨k, hk, ek⟩ : ∃ k, k < P.length ∧ (r1 : Int).tmod (P.length : Int) = (k : Nat) := ⟨r1 % P.length, Nat.mod_lt _ (by omega), by rw [Int.ofNat_tmod]⟩
      have hki : (k : Int) < P.length := by omega
      have hkj : k * 32 + j < (cellsH P).length := by rw [cellsH_len OP.out]; omega
      have hcell := OWP9.out.at (k * 32 + j) hkj
      have hval := cell_of OP.out hk (show j < 32 by omega)
      rw [hval] at hcell
      have hfree := OWP9.out.free (k * 32 + j)
      have HX := Hid2.mk (cellsH_set OP.out k j (bits .xor .u8 ((P.getD k []).getD j 0) by_) hk (by omega))
      have OX := Hid2.mk (okh_set OP.out k j (bits .xor .u8 ((P.getD k []).getD j 0) by_) hk)
      have Hst := Hid2.mk (((OwnV.stored OWP9.out (k * 32 + j) (u := .int .u8 (bits .xor .u8 ((P.getD k []).getD j 0) by_)) rfl)).of_block (w' := (w10.setCell ⟨gP, k * 32 + j, none⟩ (.int .u8 (bits .xor .u8 ((P.getD k []).getD j 0) by_))).drew) (fun _ _ => rfl))
      have Hks := Hid2.mk (show Keep (fun b => b ≠ gP) w10 (w10.setCell ⟨gP, k * 32 + j, none⟩ (.int .u8 (bits .xor .u8 ((P.getD k []).getD j 0) by_))).drew from ((Keep.refl _ w10).setCell (fun h => h rfl) _).drewN 1)
      have Hown := Hid2.mk hown
      generalize (P.getD k []).getD j 0 = cc at hcell HX OX Hst Hks
      clear hval hkj hown
      refine wp_region_still_tail 18 (by kernel_rfl) (by kernel_rfl) ?_
      simp only [List.take_succ_cons, List.take_zero, List.drop_succ_cons, List.drop_zero]
      repeat still_step
      try refine wpStill_nil ?_
      change wpList _ _ _ _ _ w10.drew
      have OWPn := Hid2.mk (show OwnV 27 32 (w10.setCell ⟨gP, k * 32 + j, none⟩ (.int .u8 (bits .xor .u8 cc by_))).drew _ (.slice (some ⟨gP, 0, none⟩) P.length cP) P.length (cellsH (P.set k ((P.getD k []).set j (bits .xor .u8 cc by_)))) by rw [← HX.out]; exact Hst.out)
      have OWC11 := Hid2.mk (OWC9.out.keep Hks.out (fun g hg => by have h2 := HOP.out _ Hown.out; have h3 := HOC.out.2.2.2 g hg; have h4 := HOC.out.1; show g ≠ gP; omega))
      have QA11 := Hid2.mk (QA9.out.keep Hks.out (by have h1 := HO1.out; have h2 := HOP.out _ Hown.out; have h3 := HOC.out; show w3.heap.size ≠ gP; omega))
      have QB11 := Hid2.mk (QB9.out.keep Hks.out (by have h1 := HO1.out; have h2 := HOP.out _ Hown.out; have h3 := HOC.out; show w5.heap.size ≠ gP; omega))
      have QP11 := Hid2.mk (QP9.out.keep Hks.out (by have h1 := HO1.out; have h2 := HOP.out _ Hown.out; have h3 := HOC.out; show w7.heap.size ≠ gP; omega))
      have QC11 := Hid2.mk (QC9.out.keep Hks.out (by have h1 := HO1.out; have h2 := HOP.out _ Hown.out; have h3 := HOC.out; show w9.heap.size ≠ gP; omega))
      have HB11 := Hid2.mk (HB9.out.trans ((Hks.out.mono (K' := fun b => b < w.heap.size) (fun b (hb : b < w.heap.size) => by have h1 := HO1.out; have h2 := HOP.out _ Hown.out; have h3 := HOC.out; show b ≠ gP; omega)).below))
      have hlen2 : (P.set k ((P.getD k []).set j (bits .xor .u8 cc by_))).length = P.length := List.length_set
      have c11 := QC11.out.cell 0 (by simp)
      simp only [List.getD_cons_zero] at c11
      generalize hX : P.set k ((P.getD k []).set j (bits .xor .u8 cc by_)) = P2 at OWPn OX hlen2
      have hneP : w9.heap.size ≠ gP := by have h1 := HO1.out; have h2 := HOP.out _ Hown.out; have h3 := HOC.out; omega
      have hneP' : gP ≠ w9.heap.size := Ne.symm hneP
      by_cases hC : C.length = 0
      · have hC0 : C = [] := List.eq_nil_of_length_eq_zero hC
        subst hC0
        simp only [List.length_nil] at c11 QC11 OWC11
        go_wp2_with fail
        generalize (World.setCell _ _ _).drew = w11 at OWPn OWC11 QA11 QB11 QP11 QC11 HB11 c11 ⊢
        clear hX Hst Hks HX hcell hfree ek hk hki
        have OWP11 := OWPn
        have OX1 := OX
        have hl2p := hlen2
        clear OX hlen2 p0

        have HTf := Hid2.mk (HT.out.below HB11.out (Nat.le_refl _))
        have HSf := H0.out.below HB11.out (Nat.le_refl _)
        have HPf := Hid2.mk (OwnV.hs OWP11.out OX1.out hl2p.symm)
        have HCf := Hid2.mk (OwnV.hs OWC11.out OC.out rfl)
        obtain ⟨b, o, cap', hv0, -, -, hblt, -, hxl, hrow⟩ := HSf.at a hal
        obtain ⟨rfl, rfl⟩ : sp0 = some ⟨b, o, none⟩ ∧ cap0 = cap' := by simpa using hv0
        generalize l.getD a [] = x at hxl hrow
        have Hrow := Hid2.mk hrow
        obtain ⟨vp, hvp⟩ : ∃ y, verP x a size P2 rr = y := ⟨_, rfl⟩
        obtain ⟨vc, hvc⟩ : ∃ y, vconP old size [] ro rr = y := ⟨_, rfl⟩
        have Hvp := Hid2.mk hvp
        have Hvc := Hid2.mk hvc
        clear hvp hvc hrow HSf hv0
        refine wp_region_quietB (by kernel_rfl) (by kernel_rfl) ?_
        repeat (first | go_big_quiet_skip | (go_big_quiet_want; refine quiet_midB 27 (.tmp 134) rfl b (o + a * 32) rfl (x.map (Value.int .u8)) _ Hrow.out hblt Tryd.underlying27 rfl (infoL x hxl) ?_; go_simp; go_big_quiet_on) | (go_big_quiet_want; refine quiet_midB 27 (.tmp 143) rfl b (o + a * 32) rfl (x.map (Value.int .u8)) _ Hrow.out hblt Tryd.underlying27 rfl (infoL x hxl) ?_; go_simp; go_big_quiet_on) | (go_big_quiet_want; refine quiet_loadB 27 (.tmp 15) rfl w3.heap.size rfl 27 (rr.map (Value.int .u8)).toArray (0, 0) _ QA11.out Tryd.underlying27 rfl (infoH rr hrl) ?_; go_simp; go_big_quiet_on) | (go_big_quiet_want; refine quiet_loadB 27 (.tmp 17) rfl w5.heap.size rfl 27 (ro.map (Value.int .u8)).toArray (0, 0) _ QB11.out Tryd.underlying27 rfl (infoH ro hol) ?_; go_simp; go_big_quiet_on) | (go_big_quiet_want; refine quiet_loadB 40 (.tmp 19) rfl w7.heap.size rfl 40 #[.slice (some ⟨gP, 0, none⟩) P.length cP] (0, 0) _ QP11.out Tryd.underlying40 rfl infoProof ?_; go_simp; go_big_quiet_on) | (go_big_quiet_want; refine quiet_loadB 40 (.tmp 21) rfl w9.heap.size rfl 40 #[.slice spC 0 cC] (0, 0) _ QC11.out Tryd.underlying40 rfl infoProof ?_; go_simp; go_big_quiet_on) | (go_big_quiet_want; go_big_quiet_op; first | go_big_quiet_on | (refine ⟨_, fun _ _ => rfl, ?_⟩; go_big_quiet_on) | (apply Exists.intro; refine ⟨fun _ hB => ?_, ?_⟩; (focus (first | (go_at_call 22; exact callB hB ((verify_any (HPf.out.below hB (Nat.le_refl _)) hxl hrl a size).mono (fun e w' h => by rw [Hvp.out] at h; exact h))) | (go_at_call 23; exact callB hB ((refVerify_any (HPf.out.below hB (Nat.le_refl _)) hxl hrl a size).mono (fun e w' h => by rw [Hvp.out] at h; exact h))) | (go_at_call 24; exact callB hB ((vcon_any (HCf.out.below hB (Nat.le_refl _)) hol hrl old size).mono (fun e w' h => by rw [Hvc.out] at h; exact h))) | (go_at_call 25; exact callB hB ((refVcon_any (HCf.out.below hB (Nat.le_refl _)) hol hrl old size).mono (fun e w' h => by rw [Hvc.out] at h; exact h))) | (go_at_call 12; exact callB hB (known_any _ (HTf.out.below hB (Nat.le_refl _)))))); go_big_quiet_on)))
        refine wpQuiet_nil ?_
        intro w' hw'
        have hbf : Below w.heap.size w w' := HB11.out.trans (hw'.mono HB11.out.size)
        clear hw'
        go_wp2_with fail
        go_ret
        exact ⟨rfl, hbf⟩
      · have gc : (0 : Int) < C.length := by omega
        go_wp2_with fail
        generalize (World.setCell _ _ _).drew = w11 at OWPn OWC11 QA11 QB11 QP11 QC11 HB11 c11 ⊢
        clear hX Hst Hks HX hcell hfree ek hk hki
        have OWP11 := OWPn
        have OX1 := OX
        have hl2p := hlen2
        clear OX hlen2 p0

        obtain ⟨gC, hown, hsp⟩ : ∃ g, (Value.slice spC C.length cC).ownBlock = some g ∧ spC = some ⟨g, 0, none⟩ := by
          rcases OWC11.out.form with ⟨-, e2, -⟩ | ⟨g', cap', cur, e1, -⟩
          · omega
          · obtain ⟨e2, e3⟩ : spC = some ⟨g', 0, none⟩ ∧ cC = cap' := by simpa using e1
            exact ⟨g', by rw [e2]; rfl, e2⟩
        subst hsp
        obtain ⟨k, hk, ek⟩ : ∃ k, k < C.length ∧ (r1 : Int).tmod (C.length : Int) = (k : Nat) := ⟨r1 % C.length, Nat.mod_lt _ (by omega), by rw [Int.ofNat_tmod]⟩
        have hki : (k : Int) < C.length := by omega
        have hkj : k * 32 + j < (cellsH C).length := by rw [cellsH_len OC.out]; omega
        have hcell := OWC11.out.at (k * 32 + j) hkj
        have hval := cell_of OC.out hk (show j < 32 by omega)
        rw [hval] at hcell
        have hfree := OWC11.out.free (k * 32 + j)
        have HX := Hid2.mk (cellsH_set OC.out k j (bits .xor .u8 ((C.getD k []).getD j 0) by_) hk (by omega))
        have OX := Hid2.mk (okh_set OC.out k j (bits .xor .u8 ((C.getD k []).getD j 0) by_) hk)
        have Hst := Hid2.mk (((OwnV.stored OWC11.out (k * 32 + j) (u := .int .u8 (bits .xor .u8 ((C.getD k []).getD j 0) by_)) rfl)).of_block (w' := (w11.setCell ⟨gC, k * 32 + j, none⟩ (.int .u8 (bits .xor .u8 ((C.getD k []).getD j 0) by_))).drew) (fun _ _ => rfl))
        have Hks := Hid2.mk (show Keep (fun b => b ≠ gC) w11 (w11.setCell ⟨gC, k * 32 + j, none⟩ (.int .u8 (bits .xor .u8 ((C.getD k []).getD j 0) by_))).drew from ((Keep.refl _ w11).setCell (fun h => h rfl) _).drewN 1)
        have HownC := Hid2.mk hown
        generalize (C.getD k []).getD j 0 = cc at hcell HX OX Hst Hks
        clear hval hkj hown
        refine wp_region_still_tail 18 (by kernel_rfl) (by kernel_rfl) ?_
        simp only [List.take_succ_cons, List.take_zero, List.drop_succ_cons, List.drop_zero]
        repeat still_step
        try refine wpStill_nil ?_
        change wpList _ _ _ _ _ w11.drew
        have OWCn := Hid2.mk (show OwnV 27 32 (w11.setCell ⟨gC, k * 32 + j, none⟩ (.int .u8 (bits .xor .u8 cc by_))).drew _ (.slice (some ⟨gC, 0, none⟩) C.length cC) C.length (cellsH (C.set k ((C.getD k []).set j (bits .xor .u8 cc by_)))) by rw [← HX.out]; exact Hst.out)
        have OWP12 := Hid2.mk (OWP11.out.keep Hks.out (fun g hg => by have h2 := HOC.out.2.2.2 _ HownC.out; have h3 := HOP.out g hg; have h4 := HOC.out.1; show g ≠ gC; omega))
        have QA12 := Hid2.mk (QA11.out.keep Hks.out (by have h1 := HO1.out; have h3 := HOC.out; have h2 := HOC.out.2.2.2 _ HownC.out; show w3.heap.size ≠ gC; omega))
        have QB12 := Hid2.mk (QB11.out.keep Hks.out (by have h1 := HO1.out; have h3 := HOC.out; have h2 := HOC.out.2.2.2 _ HownC.out; show w5.heap.size ≠ gC; omega))
        have QP12 := Hid2.mk (QP11.out.keep Hks.out (by have h1 := HO1.out; have h3 := HOC.out; have h2 := HOC.out.2.2.2 _ HownC.out; show w7.heap.size ≠ gC; omega))
        have QC12 := Hid2.mk (QC11.out.keep Hks.out (by have h1 := HO1.out; have h3 := HOC.out; have h2 := HOC.out.2.2.2 _ HownC.out; show w9.heap.size ≠ gC; omega))
        have HB12 := Hid2.mk (HB11.out.trans ((Hks.out.mono (K' := fun b => b < w.heap.size) (fun b (hb : b < w.heap.size) => by have h1 := HO1.out; have h3 := HOC.out; have h2 := HOC.out.2.2.2 _ HownC.out; show b ≠ gC; omega)).below))
        have hlen2 : (C.set k ((C.getD k []).set j (bits .xor .u8 cc by_))).length = C.length := List.length_set
        have c12 := QC12.out.cell 0 (by simp)
        simp only [List.getD_cons_zero] at c12
        generalize hX : C.set k ((C.getD k []).set j (bits .xor .u8 cc by_)) = C2 at OWCn OX hlen2
        have hneC : w9.heap.size ≠ gC := by have h1 := HO1.out; have h3 := HOC.out; have h2 := HOC.out.2.2.2 _ HownC.out; omega
        have hneC' : gC ≠ w9.heap.size := Ne.symm hneC
        go_wp2_with fail
        generalize (World.setCell _ _ _).drew = w12 at OWCn OWP12 QA12 QB12 QP12 QC12 HB12 c12 ⊢
        clear hX Hst Hks HX hcell hfree ek hk hki
        have OWC12 := OWCn

        have HTf := Hid2.mk (HT.out.below HB12.out (Nat.le_refl _))
        have HSf := H0.out.below HB12.out (Nat.le_refl _)
        have HPf := Hid2.mk (OwnV.hs OWP12.out OX1.out hl2p.symm)
        have HCf := Hid2.mk (OwnV.hs OWC12.out OX.out hlen2.symm)
        obtain ⟨b, o, cap', hv0, -, -, hblt, -, hxl, hrow⟩ := HSf.at a hal
        obtain ⟨rfl, rfl⟩ : sp0 = some ⟨b, o, none⟩ ∧ cap0 = cap' := by simpa using hv0
        generalize l.getD a [] = x at hxl hrow
        have Hrow := Hid2.mk hrow
        obtain ⟨vp, hvp⟩ : ∃ y, verP x a size P2 rr = y := ⟨_, rfl⟩
        obtain ⟨vc, hvc⟩ : ∃ y, vconP old size C2 ro rr = y := ⟨_, rfl⟩
        have Hvp := Hid2.mk hvp
        have Hvc := Hid2.mk hvc
        clear hvp hvc hrow HSf hv0
        refine wp_region_quietB (by kernel_rfl) (by kernel_rfl) ?_
        repeat (first | go_big_quiet_skip | (go_big_quiet_want; refine quiet_midB 27 (.tmp 134) rfl b (o + a * 32) rfl (x.map (Value.int .u8)) _ Hrow.out hblt Tryd.underlying27 rfl (infoL x hxl) ?_; go_simp; go_big_quiet_on) | (go_big_quiet_want; refine quiet_midB 27 (.tmp 143) rfl b (o + a * 32) rfl (x.map (Value.int .u8)) _ Hrow.out hblt Tryd.underlying27 rfl (infoL x hxl) ?_; go_simp; go_big_quiet_on) | (go_big_quiet_want; refine quiet_loadB 27 (.tmp 15) rfl w3.heap.size rfl 27 (rr.map (Value.int .u8)).toArray (0, 0) _ QA12.out Tryd.underlying27 rfl (infoH rr hrl) ?_; go_simp; go_big_quiet_on) | (go_big_quiet_want; refine quiet_loadB 27 (.tmp 17) rfl w5.heap.size rfl 27 (ro.map (Value.int .u8)).toArray (0, 0) _ QB12.out Tryd.underlying27 rfl (infoH ro hol) ?_; go_simp; go_big_quiet_on) | (go_big_quiet_want; refine quiet_loadB 40 (.tmp 19) rfl w7.heap.size rfl 40 #[.slice (some ⟨gP, 0, none⟩) P.length cP] (0, 0) _ QP12.out Tryd.underlying40 rfl infoProof ?_; go_simp; go_big_quiet_on) | (go_big_quiet_want; refine quiet_loadB 40 (.tmp 21) rfl w9.heap.size rfl 40 #[.slice (some ⟨gC, 0, none⟩) C.length cC] (0, 0) _ QC12.out Tryd.underlying40 rfl infoProof ?_; go_simp; go_big_quiet_on) | (go_big_quiet_want; go_big_quiet_op; first | go_big_quiet_on | (refine ⟨_, fun _ _ => rfl, ?_⟩; go_big_quiet_on) | (apply Exists.intro; refine ⟨fun _ hB => ?_, ?_⟩; (focus (first | (go_at_call 22; exact callB hB ((verify_any (HPf.out.below hB (Nat.le_refl _)) hxl hrl a size).mono (fun e w' h => by rw [Hvp.out] at h; exact h))) | (go_at_call 23; exact callB hB ((refVerify_any (HPf.out.below hB (Nat.le_refl _)) hxl hrl a size).mono (fun e w' h => by rw [Hvp.out] at h; exact h))) | (go_at_call 24; exact callB hB ((vcon_any (HCf.out.below hB (Nat.le_refl _)) hol hrl old size).mono (fun e w' h => by rw [Hvc.out] at h; exact h))) | (go_at_call 25; exact callB hB ((refVcon_any (HCf.out.below hB (Nat.le_refl _)) hol hrl old size).mono (fun e w' h => by rw [Hvc.out] at h; exact h))) | (go_at_call 12; exact callB hB (known_any _ (HTf.out.below hB (Nat.le_refl _)))))); go_big_quiet_on)))
        refine wpQuiet_nil ?_
        intro w' hw'
        have hbf : Below w.heap.size w w' := HB12.out.trans (hw'.mono HB12.out.size)
        clear hw'
        go_wp2_with fail
        go_ret
        exact ⟨rfl, hbf⟩
  · rcases (show (80 : Int) < l.length ∨ ((l.length : Int) ≤ 80 ∧ size < 1) ∨ ((l.length : Int) ≤ 80 ∧ 1 ≤ size ∧ (l.length : Int) < size) ∨ ((l.length : Int) ≤ 80 ∧ 1 ≤ size ∧ size ≤ l.length ∧ i < 0) ∨ ((l.length : Int) ≤ 80 ∧ 1 ≤ size ∧ size ≤ l.length ∧ 0 ≤ i ∧ size ≤ i) ∨ ((l.length : Int) ≤ 80 ∧ 1 ≤ size ∧ size ≤ l.length ∧ 0 ≤ i ∧ i < size ∧ old < 1) ∨ ((l.length : Int) ≤ 80 ∧ 1 ≤ size ∧ size ≤ l.length ∧ 0 ≤ i ∧ i < size ∧ 1 ≤ old ∧ size < old) by omega)
      with h1 | ⟨h1, h2⟩ | ⟨h1, h2, h3⟩ | ⟨h1, h2, h3, h4⟩ | ⟨h1, h2, h3, h4, h5⟩ | ⟨h1, h2, h3, h4, h5, h6⟩ | ⟨h1, h2, h3, h4, h5, h6, h7⟩ <;>
    ( clear hg
      go_enter Tryd.func9, Tryd.ntmps9
      go_wp2_with fail
      refine (known_any _ HT.out).mono ?_
      rintro e w' ⟨rfl, hb⟩
      have Hb := Hid2.mk hb
      clear hb
      go_wp2_with fail
      go_ret
      exact ⟨rfl, Hb.out⟩ )

end Mk
end Go.Proofs.YtfdgclnjpbkggaaDoor
