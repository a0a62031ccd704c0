/- The law MerkleTrue, walked (printed by gen_true.py). -/
import Derived.Test.YtfdgclnjpbkggaaDoorMkZe
import Derived.Test.YtfdgclnjpbkggaaDoorMkY2
import Derived.Test.YtfdgclnjpbkggaaDoorMkU
import Derived.Test.YtfdgclnjpbkggaaDoorMkW
import Derived.Test.YtfdgclnjpbkggaaDoorMkF
namespace Go.Proofs.YtfdgclnjpbkggaaDoor
open Go.RowKit Go.Maps BigFrame
namespace Mk

theorem okh_provT {l : List H} (h : Okh l) (i size : Int) : Okh (provL l i size) := by
  unfold provL; split
  · exact okh_path _ rfl (okh_take h _)
  · exact okh_nil
theorem okh_consT {l : List H} (h : Okh l) (m size : Int) : Okh (consL l m size) := by
  unfold consL; split
  · exact okh_sub _ rfl (okh_take h _)
  · exact okh_nil
theorem ver_true {l : List H} {i size : Int} (hok : okP l i size) (hlen : l.length ≤ 1000) : verP (l.getD i.toNat []) i size (provL l i size) (rootV l size) = true := by
  have h := hok
  unfold okP at h
  obtain ⟨h1, h2, h3, h4⟩ := h
  obtain ⟨a, rfl⟩ := Int.eq_ofNat_of_zero_le h3
  obtain ⟨n, rfl⟩ := Int.eq_ofNat_of_zero_le (show 0 ≤ size by omega)
  unfold provL rootV
  rw [if_pos hok, if_pos ⟨by omega, h2⟩]
  by_cases hb : (n : Int) ≤ 1099511627776
  · unfold verP
    rw [if_pos ⟨h3, h4, hb⟩, ver_eq, Int.toNat_natCast, Int.toNat_natCast]
    have e := up_path (node := nodeP) (none := noneP) (z := z32) n (l.take n) a (by rw [List.length_take]; omega) (by omega)
    rw [getD_take (by omega)] at e
    unfold verR pathP rt
    rw [e]
    simp
  · exact absurd hb (by omega)
theorem vcon_true {l : List H} {m size : Int} (hok : okS l m size) (hlen : l.length ≤ 1000) : vconP m size (consL l m size) (rootV l m) (rootV l size) = true := by
  have h := hok
  unfold okS at h
  obtain ⟨h1, h2, h3, h4⟩ := h
  obtain ⟨a, rfl⟩ := Int.eq_ofNat_of_zero_le (show 0 ≤ m by omega)
  obtain ⟨n, rfl⟩ := Int.eq_ofNat_of_zero_le (show 0 ≤ size by omega)
  unfold consL rootV
  rw [if_pos hok, if_pos (show (0 : Int) ≤ ((a : Nat) : Int) ∧ ((a : Nat) : Int) ≤ l.length from ⟨by omega, by omega⟩), if_pos (show (0 : Int) ≤ ((n : Nat) : Int) ∧ ((n : Nat) : Int) ≤ l.length from ⟨by omega, by omega⟩)]
  by_cases hb : (n : Int) ≤ 1099511627776
  · unfold vconP
    rw [if_pos ⟨h3, h4, hb⟩, vcon_eq, Int.toNat_natCast, Int.toNat_natCast]
    have et : (l.take n).take a = l.take a := by rw [List.take_take, Nat.min_eq_left (by omega)]
    have e := ups_sub (node := nodeP) (none := noneP) (z := z32) n (l.take n) a true (rt (l.take a)) (by rw [List.length_take]; omega) (by omega) (by omega) (fun _ => by rw [et]; rfl)
    rw [et] at e
    unfold vconR subP
    rw [e]
    unfold rt
    simp
  · exact absurd hb (by omega)

set_option maxRecDepth 100000 in
set_option maxHeartbeats 8000000 in
theorem true_any {v0 : Value} {O0 : Nat → Prop} {l : List H} (i size old : Int) (w : World) (h0 : HS w O0 v0 l) (hT : Tab w) :
    Calls Tryd.prog 8 #[v0, .int .i64 i, .int .i64 size, .int .i64 old] w fun e w' => e = .returned (.bool true) ∧ Below w.heap.size w w' := by
  have hz := zeroHash
  have hzp := zeroProof
  have H0 := Hid2.mk h0
  have HT := Hid2.mk hT
  obtain ⟨sp0, cap0, rfl, hc0, hc0'⟩ := h0.form
  clear h0 hT
  by_cases hg : l.length ≤ 80 ∧ 1 ≤ size ∧ size ≤ l.length ∧ 0 ≤ i ∧ i < size ∧ 1 ≤ old ∧ old ≤ size
  · obtain ⟨g0, g1, g2, g3, g4, g5, g6⟩ := hg
    have hokP : okP l i size := ⟨g1, g2, g3, g4⟩
    have hokS : okS l old size := ⟨g1, g2, g5, g6⟩
    have hrc : rootC l size = 0 := by unfold rootC; rw [if_pos ⟨by omega, g2⟩]
    have hro : rootC l old = 0 := by unfold rootC; rw [if_pos ⟨by omega, by omega⟩]
    have hpc : provC l i size = 0 := by unfold provC; rw [if_pos hokP]
    have hcc : consC l old size = 0 := by unfold consC; rw [if_pos hokS]
    have hv := ver_true hokP (by omega)
    have hc := vcon_true hokS (by omega)
    have hrl := rootV_len H0.out.1 size
    have hol := rootV_len H0.out.1 old
    have OP := Hid2.mk (okh_provT H0.out.1 i size)
    have OC := Hid2.mk (okh_consT H0.out.1 old size)
    have Hrc := Hid2.mk hrc
    have Hro := Hid2.mk hro
    have Hpc := Hid2.mk hpc
    have Hcc := Hid2.mk hcc
    clear hokP hokS hrc hro hpc hcc
    have g0' : (l.length : Int) ≤ 80 := by omega
    obtain ⟨a, rfl⟩ := Int.eq_ofNat_of_zero_le g3
    rw [Int.toNat_natCast] at hv
    have hal : a < l.length := by omega
    have hali : (a : Int) < l.length := by omega
    go_enter Tryd.func8, Tryd.ntmps8
    go_wp2_with fail
    refine (made_any H0.out (by omega)).mono ?_
    rintro e w1 ⟨t, rfl, ht⟩
    have Ht1 := Hid2.mk ht
    have HS1 := Hid2.mk (H0.out.below ht.bel (Nat.le_refl _))
    obtain ⟨O2, h2, -⟩ := Ht1.out
    go_wp2_with fail
    refine (rootTop_a h2 (HT.out.below Ht1.out.bel (Nat.le_refl _)) (by omega) _).mono ?_
    rintro e w3 ⟨rfl, hb3⟩
    rw [Hrc.out]
    generalize rootV l size = rr at hv hc hrl ⊢
    have Ht3 := Hid2.mk (Ht1.out.below hb3)
    have HS3 := Hid2.mk (HS1.out.below hb3 (Nat.le_refl _))
    obtain ⟨q1, q2, q3⟩ := alloc_store w3 rr
    have Q1 := Hid2.mk q1
    have QA := Hid2.mk q2
    have Ht4 := Hid2.mk (Ht3.out.below q3)
    have HS4 := Hid2.mk (HS3.out.below q3 (Nat.le_refl _))
    clear hb3 q1 q2 q3 h2 Ht1 HS1 Ht3 HS3
    go_wp2_with (refine wpList_store_row rfl 27 (.tmp 11) (.tmp 62) rfl w3.heap.size (rr.map (Value.int .u8)).toArray rfl rfl 27 (Dig.Z32.map (Value.int .u8)).toArray Q1.out (infoH rr hrl) (sizeH _ _ z32_len hrl) (oneH _) ?_)
    generalize World.setRow _ _ _ = w4 at QA Ht4 HS4 ⊢
    clear Q1
    obtain ⟨O4, h4, -⟩ := Ht4.out
    refine (rootTop_a h4 (HT.out.below Ht4.out.bel (Nat.le_refl _)) (by omega) _).mono ?_
    rintro e w5 ⟨rfl, hb5⟩
    rw [Hro.out]
    generalize rootV l old = ro at hc hol ⊢
    have Ht5 := Hid2.mk (Ht4.out.below hb5)
    have HS5 := Hid2.mk (HS4.out.below hb5 (Nat.le_refl _))
    have QA5 := Hid2.mk (QA.out.below hb5 QA.out.lt)
    obtain ⟨q1, q2, q3⟩ := alloc_store w5 ro
    have Q1 := Hid2.mk q1
    have QB := Hid2.mk q2
    have Ht6 := Hid2.mk (Ht5.out.below q3)
    have HS6 := Hid2.mk (HS5.out.below q3 (Nat.le_refl _))
    have QA6 := Hid2.mk (QA5.out.below q3 QA5.out.lt)
    clear hb5 q1 q2 q3 h4 Ht4 HS4 Ht5 HS5 QA QA5
    go_wp2_with (refine wpList_store_row rfl 27 (.tmp 13) (.tmp 68) rfl w5.heap.size (ro.map (Value.int .u8)).toArray rfl rfl 27 (Dig.Z32.map (Value.int .u8)).toArray Q1.out (infoH ro hol) (sizeH _ _ z32_len hol) (oneH _) ?_)
    generalize World.setRow _ _ _ = w6 at QB Ht6 HS6 QA6 ⊢
    clear Q1
    obtain ⟨O6, h6, -⟩ := Ht6.out
    refine (prove_any h6 (HT.out.below Ht6.out.bel (Nat.le_refl _)) (by omega) _ _).mono ?_
    rw [Hpc.out]
    rintro e w7 ⟨spP, cP, rfl, hownP, hb7⟩
    generalize provL l a size = P at hv OP hownP ⊢
    have hb7' : Below w6.heap.size w6 (w7.alloc (.cells #[.slice spP P.length cP] 40)) := hb7.alloc hb7.size _
    have Ht7 := Hid2.mk (Ht6.out.below hb7')
    have HS7 := Hid2.mk (HS6.out.below hb7' (Nat.le_refl _))
    have QA7 := Hid2.mk (QA6.out.below hb7' QA6.out.lt)
    have QB7 := Hid2.mk (QB.out.below hb7' QB.out.lt)
    have OWP := Hid2.mk (hownP.alloc (.cells #[.slice spP P.length cP] 40))
    have QP := Hid2.mk (VBlk.mk w7 [.slice spP P.length cP] 40)
    clear hb7 hb7' hownP h6 Ht6 HS6 QA6 QB
    go_wp2_with fail
    generalize World.alloc w7 _ = w8 at Ht7 HS7 QA7 QB7 OWP QP ⊢
    obtain ⟨O8, h8, -⟩ := Ht7.out
    refine (consist_any h8 (HT.out.below Ht7.out.bel (Nat.le_refl _)) (by omega) _ _).mono ?_
    rw [Hcc.out]
    rintro e w9 ⟨spC, cC, rfl, hownC, hb9⟩
    generalize consL l old size = C at hc OC hownC ⊢
    have hb9' : Below w8.heap.size w8 (w9.alloc (.cells #[.slice spC C.length cC] 40)) := hb9.alloc hb9.size _
    have Ht9 := Hid2.mk (Ht7.out.below hb9')
    have HS9 := Hid2.mk (HS7.out.below hb9' (Nat.le_refl _))
    have QA9 := Hid2.mk (QA7.out.below hb9' QA7.out.lt)
    have QB9 := Hid2.mk (QB7.out.below hb9' QB7.out.lt)
    have QP9 := Hid2.mk (QP.out.below hb9' QP.out.lt)
    have OWP9 := Hid2.mk (OWP.out.keep (Keep.of_below hb9') (fun g hg => OWP.out.lt hg))
    have OWC9 := Hid2.mk (hownC.alloc (.cells #[.slice spC C.length cC] 40))
    have QC9 := Hid2.mk (VBlk.mk w9 [.slice spC C.length cC] 40)
    clear hb9 hb9' hownC h8 Ht7 HS7 QA7 QB7 QP OWP
    go_wp2_with fail
    generalize World.alloc w9 _ = w10 at Ht9 HS9 QA9 QB9 QP9 QC9 OWP9 OWC9 ⊢
    have HT9 := Hid2.mk (HT.out.below Ht9.out.bel (Nat.le_refl _))
    have HP9 := Hid2.mk (OwnV.hs OWP9.out OP.out rfl)
    have HC9 := Hid2.mk (OwnV.hs OWC9.out OC.out rfl)
    obtain ⟨b, o, cap', hv0, -, -, hblt, -, hxl, hrow⟩ := HS9.out.at a hal
    obtain ⟨rfl, rfl⟩ : sp0 = some ⟨b, o, none⟩ ∧ cap0 = cap' := by simpa using hv0
    generalize l.getD a [] = x at hv hxl hrow
    have Hrow := Hid2.mk hrow
    have Hv := Hid2.mk hv
    have Hc := Hid2.mk hc
    have Hsz := Hid2.mk (show w.heap.size ≤ w10.heap.size from Ht9.out.size)
    have HBf := Hid2.mk Ht9.out.bel
    clear hv hc hrow hv0 H0 HT Ht9 HS9
    refine wp_region_quietB (by kernel_rfl) (by kernel_rfl) ?_
    repeat (first | go_big_quiet_skip | (go_big_quiet_want; refine quiet_midB 27 (.tmp 101) rfl b (o + a * 32) rfl (x.map (Value.int .u8)) _ Hrow.out hblt Tryd.underlying27 rfl (infoL x hxl) ?_; go_simp; go_big_quiet_on) | (go_big_quiet_want; refine quiet_loadB 27 (.tmp 11) rfl w3.heap.size rfl 27 (rr.map (Value.int .u8)).toArray (0, 0) _ QA9.out Tryd.underlying27 rfl (infoH rr hrl) ?_; go_simp; go_big_quiet_on) | (go_big_quiet_want; refine quiet_loadB 27 (.tmp 13) rfl w5.heap.size rfl 27 (ro.map (Value.int .u8)).toArray (0, 0) _ QB9.out Tryd.underlying27 rfl (infoH ro hol) ?_; go_simp; go_big_quiet_on) | (go_big_quiet_want; refine quiet_loadB 40 (.tmp 15) rfl w7.heap.size rfl 40 #[.slice spP P.length cP] (0, 0) _ QP9.out Tryd.underlying40 rfl infoProof ?_; go_simp; go_big_quiet_on) | (go_big_quiet_want; refine quiet_loadB 40 (.tmp 17) rfl w9.heap.size rfl 40 #[.slice spC C.length cC] (0, 0) _ QC9.out Tryd.underlying40 rfl infoProof ?_; go_simp; go_big_quiet_on) | (go_big_quiet_want; go_big_quiet_op; first | go_big_quiet_on | (refine ⟨_, fun _ _ => rfl, ?_⟩; go_big_quiet_on) | (apply Exists.intro; refine ⟨fun _ hB => ?_, ?_⟩; (focus (first | (go_at_call 22; exact callB hB ((verify_any (HP9.out.below hB (Nat.le_refl _)) hxl hrl a size).mono (fun e w' h => by rw [Hv.out] at h; exact h))) | (go_at_call 24; exact callB hB ((vcon_any (HC9.out.below hB (Nat.le_refl _)) hol hrl old size).mono (fun e w' h => by rw [Hc.out] at h; exact h))) | (go_at_call 12; exact callB hB (known_any _ (HT9.out.below hB (Nat.le_refl _)))))); go_big_quiet_on)))
    refine wpQuiet_nil ?_
    intro w' hw'
    have hbf : Below w.heap.size w w' := HBf.out.trans (hw'.mono Hsz.out)
    clear hw'
    go_wp2_with fail
    go_ret
    exact ⟨rfl, hbf⟩
  · rcases (show (80 : Int) < l.length ∨ ((l.length : Int) ≤ 80 ∧ size < 1) ∨ ((l.length : Int) ≤ 80 ∧ 1 ≤ size ∧ (l.length : Int) < size) ∨ ((l.length : Int) ≤ 80 ∧ 1 ≤ size ∧ size ≤ l.length ∧ i < 0) ∨ ((l.length : Int) ≤ 80 ∧ 1 ≤ size ∧ size ≤ l.length ∧ 0 ≤ i ∧ size ≤ i) ∨ ((l.length : Int) ≤ 80 ∧ 1 ≤ size ∧ size ≤ l.length ∧ 0 ≤ i ∧ i < size ∧ old < 1) ∨ ((l.length : Int) ≤ 80 ∧ 1 ≤ size ∧ size ≤ l.length ∧ 0 ≤ i ∧ i < size ∧ 1 ≤ old ∧ size < old) by omega)
      with h1 | ⟨h1, h2⟩ | ⟨h1, h2, h3⟩ | ⟨h1, h2, h3, h4⟩ | ⟨h1, h2, h3, h4, h5⟩ | ⟨h1, h2, h3, h4, h5, h6⟩ | ⟨h1, h2, h3, h4, h5, h6, h7⟩ <;>
    ( clear hg
      go_enter Tryd.func8, Tryd.ntmps8
      go_wp2_with fail
      refine (known_any _ HT.out).mono ?_
      rintro e w' ⟨rfl, hb⟩
      have Hb := Hid2.mk hb
      clear hb
      go_wp2_with fail
      go_ret
      exact ⟨rfl, Hb.out⟩ )

end Mk
end Go.Proofs.YtfdgclnjpbkggaaDoor
