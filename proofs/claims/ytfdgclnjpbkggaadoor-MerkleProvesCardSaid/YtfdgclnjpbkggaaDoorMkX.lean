/- The law MerkleProves, walked (under way). -/
import Derived.Test.YtfdgclnjpbkggaaDoorMkV
import Derived.Test.YtfdgclnjpbkggaaDoorMkX0
import Derived.Test.YtfdgclnjpbkggaaDoorMkF
namespace Go.Proofs.YtfdgclnjpbkggaaDoor
open Go.RowKit Go.Maps
namespace Mk

theorem keep_setRow (w : World) (g : Nat) (cs : Array Value) : Keep (fun b => b ≠ g) w (w.setRow g cs) := ⟨rfl, rfl, rfl, by simp, fun k hk => setRow_other w g k cs hk⟩
theorem okh_provL {l : List H} (h : Okh l) (i size : Int) : Okh (provL l i size) := by
  unfold provL; split
  · exact okh_path _ rfl (okh_take h _)
  · exact okh_nil
theorem okh_consL {l : List H} (h : Okh l) (m size : Int) : Okh (consL l m size) := by
  unfold consL; split
  · exact okh_sub _ rfl (okh_take h _)
  · exact okh_nil

set_option maxRecDepth 100000 in
set_option maxHeartbeats 8000000 in
theorem proves_any {v0 : Value} {O0 : Nat → Prop} {l : List H} (i size old : Int) (w : World) (h0 : HS w O0 v0 l) (hl : l.length ≤ 140737488355328) (hT : Tab w) :
    Calls Tryd.prog 5 #[v0, .int .i64 i, .int .i64 size, .int .i64 old] w fun e w' => e = .returned (.bool true) ∧ Below w.heap.size w w' := by
  have hz := zeroHash
  have hzp := zeroProof
  have H0 := Hid2.mk h0
  have HT := Hid2.mk hT
  obtain ⟨sp0, cap0, rfl, hc0, hc0'⟩ := h0.form
  clear h0 hT
  by_cases hbig : (80 : Int) < l.length
  · go_enter Tryd.func5, Tryd.ntmps5
    go_wp2_with fail
    go_ret
    exact ⟨rfl, Below.refl _ _⟩
  · have hsm : l.length ≤ 80 := by omega
    clear hl
    go_enter Tryd.func5, Tryd.ntmps5
    go_wp2_with fail
    refine (made_any H0.out (by omega)).mono ?_
    rintro e w1 ⟨t, rfl, ht⟩
    have hb1 : Below w1.heap.size w1 (w1.alloc (.cells #[.slice sp0 l.length cap0] 36)) := (Below.refl _ _).alloc (Nat.le_refl _) _
    have Ht1 := Hid2.mk (ht.below hb1)
    have HR1 := Hid2.mk (show RT (w1.alloc (.cells #[.slice sp0 l.length cap0] 36)) w1.heap.size O0 (.slice sp0 l.length cap0) l from ⟨VBlk.mk w1 [.slice sp0 l.length cap0] _, (H0.out.below ht.bel (Nat.le_refl _)).below hb1 (Nat.le_refl _)⟩)
    have hs1 : w.heap.size ≤ w1.heap.size := ht.size
    clear ht hb1
    go_wp2_with fail
    generalize World.alloc w1 _ = w2 at Ht1 HR1 ⊢
    generalize w1.heap.size = g at HR1 hs1 ⊢
    obtain ⟨O2, h2, -⟩ := Ht1.out
    have hrl := rootV_len H0.out.1 size
    obtain ⟨rr, hrr⟩ : ∃ rr, rootV l size = rr := ⟨_, rfl⟩
    obtain ⟨rc, hrc⟩ : ∃ rc, rootC l size = rc := ⟨_, rfl⟩
    obtain ⟨P, hP⟩ : ∃ P, provL l i size = P := ⟨_, rfl⟩
    obtain ⟨pc, hpc⟩ : ∃ pc, provC l i size = pc := ⟨_, rfl⟩
    obtain ⟨C, hC⟩ : ∃ C, consL l old size = C := ⟨_, rfl⟩
    obtain ⟨cc, hcc⟩ : ∃ cc, consC l old size = cc := ⟨_, rfl⟩
    rw [hrr] at hrl
    have OP := Hid2.mk (show Okh P by rw [← hP]; exact okh_provL H0.out.1 i size)
    have OC := Hid2.mk (show Okh C by rw [← hC]; exact okh_consL H0.out.1 old size)
    have Hrr := Hid2.mk hrr
    have Hrc := Hid2.mk hrc
    have HP := Hid2.mk hP
    have Hpc := Hid2.mk hpc
    have HC := Hid2.mk hC
    have Hcc := Hid2.mk hcc
    have Hrl := Hid2.mk hrl
    clear hrr hrc hP hpc hC hcc hrl
    refine (rootTop_a h2 (HT.out.below Ht1.out.bel (Nat.le_refl _)) (by omega) _).mono ?_
    rintro e w3 ⟨rfl, hb3⟩
    rw [Hrr.out, Hrc.out]
    have Ht3 := Hid2.mk (Ht1.out.below hb3)
    have HR3 := Hid2.mk (HR1.out.below hb3 (Nat.le_refl _))
    obtain ⟨q1, q2, q3⟩ := alloc_store w3 rr
    have Q1 := Hid2.mk q1
    have QA := Hid2.mk q2
    have Q3 := Hid2.mk q3
    clear hb3 q1 q2 q3 h2 Ht1 HR1
    go_wp2_with (refine wpList_store_row rfl 27 (.tmp 12) (.tmp 42) rfl w3.heap.size (rr.map (Value.int .u8)).toArray rfl rfl 27 (Dig.Z32.map (Value.int .u8)).toArray Q1.out (infoH rr Hrl.out) (sizeH _ _ z32_len Hrl.out) (oneH _) ?_)
    generalize (World.setRow _ _ _) = w4 at QA Q3 ⊢
    have Ht4 := Hid2.mk (Ht3.out.below Q3.out)
    have HR4 := Hid2.mk (HR3.out.below Q3.out (Nat.le_refl _))
    clear Ht3 HR3 Q1 Q3
    refine (refTop_any HR4.out (by omega) _).mono ?_
    rintro e w5 ⟨rfl, hb5⟩
    rw [Hrr.out, Hrc.out]
    have Ht5 := Hid2.mk (Ht4.out.below hb5)
    have HR5 := Hid2.mk (HR4.out.below hb5 (Nat.le_refl _))
    have QA5 := Hid2.mk (QA.out.below hb5 QA.out.lt)
    obtain ⟨q1, q2, q3⟩ := alloc_store w5 rr
    have Q1 := Hid2.mk q1
    have QB := Hid2.mk q2
    have Q3 := Hid2.mk q3
    clear hb5 q1 q2 q3 Ht4 HR4 QA
    go_wp2_with (refine wpList_store_row rfl 27 (.tmp 14) (.tmp 48) rfl w5.heap.size (rr.map (Value.int .u8)).toArray rfl rfl 27 (Dig.Z32.map (Value.int .u8)).toArray Q1.out (infoH rr Hrl.out) (sizeH _ _ z32_len Hrl.out) (oneH _) ?_)
    generalize (World.setRow _ _ _) = w6 at QB Q3 ⊢
    have Ht6 := Hid2.mk (Ht5.out.below Q3.out)
    have HR6 := Hid2.mk (HR5.out.below Q3.out (Nat.le_refl _))
    have QA6 := Hid2.mk (QA5.out.below Q3.out QA5.out.lt)
    clear Ht5 HR5 Q1 Q3 QA5
    obtain ⟨O6, h6, -⟩ := Ht6.out
    have hO6 : ∀ b, O6 b → b < w6.heap.size := h6.lt
    have HO6 := Hid2.mk hO6
    have HS6 := Hid2.mk Ht6.out.size
    have IT6 := Hid2.mk h6
    clear hO6
    refine (prove_any h6 (HT.out.below Ht6.out.bel (Nat.le_refl _)) (by omega) _ _).mono ?_
    rw [HP.out, Hpc.out]
    rintro e w7 ⟨spP, cP, rfl, hownP, hb7⟩
    have hb7' : Below w6.heap.size w6 (w7.alloc (.cells #[.slice spP P.length cP] 40)) := hb7.alloc hb7.size _
    have Ht7 := Hid2.mk (Ht6.out.below hb7')
    have IT7 := Hid2.mk (IT6.out.below hb7' (Nat.le_refl _))
    have HR7 := Hid2.mk (HR6.out.below hb7' (Nat.le_refl _))
    have QA7 := Hid2.mk (QA6.out.below hb7' QA6.out.lt)
    have QB7 := Hid2.mk (QB.out.below hb7' QB.out.lt)
    have OWP := Hid2.mk (hownP.alloc (.cells #[.slice spP P.length cP] 40))
    have QP := Hid2.mk (VBlk.mk w7 [.slice spP P.length cP] 40)
    have HS7 := Hid2.mk (show w.heap.size ≤ w7.heap.size by have := HS6.out; have := hb7.size; omega)
    have HPlt := Hid2.mk (show ∀ g, (Value.slice spP P.length cP).ownBlock = some g → w6.heap.size ≤ g ∧ g < w7.heap.size from fun g hg => ⟨hownP.own hg, hownP.lt hg⟩)
    clear hb7 hb7' hownP h6 Ht6 IT6 HR6 QA6 QB
    go_wp2_with fail
    generalize World.alloc w7 _ = w8 at Ht7 IT7 HR7 QA7 QB7 OWP QP ⊢
    refine (refProve_any HR7.out (by omega) _ _).mono ?_
    rw [HP.out, Hpc.out]
    rintro e w9 ⟨spQ, cQ, rfl, hownQ, hb9⟩
    have hb9' : Below w8.heap.size w8 (w9.alloc (.cells #[.slice spQ P.length cQ] 40)) := hb9.alloc hb9.size _
    have Ht9 := Hid2.mk (Ht7.out.below hb9')
    have IT9 := Hid2.mk (IT7.out.below hb9' (Nat.le_refl _))
    have HR9 := Hid2.mk (HR7.out.below hb9' (Nat.le_refl _))
    have QA9 := Hid2.mk (QA7.out.below hb9' QA7.out.lt)
    have QB9 := Hid2.mk (QB7.out.below hb9' QB7.out.lt)
    have QP9 := Hid2.mk (QP.out.below hb9' QP.out.lt)
    have OWP9 := Hid2.mk (OWP.out.keep (Keep.of_below hb9') (fun g hg => OWP.out.lt hg))
    have OWQ9 := Hid2.mk (hownQ.alloc (.cells #[.slice spQ P.length cQ] 40))
    have QQ9 := Hid2.mk (VBlk.mk w9 [.slice spQ P.length cQ] 40)
    have HPQ := Hid2.mk (show (w7.heap.size < w9.heap.size ∧ ∀ g, (Value.slice spQ P.length cQ).ownBlock = some g → w7.heap.size < g) ∧ ∀ g, (Value.slice spP P.length cP).ownBlock = some g → (Value.slice spQ P.length cQ).ownBlock ≠ some g from ⟨⟨by have := QP.out.lt; have := hb9.size; omega, fun g hg => by have := QP.out.lt; have := hownQ.own hg; omega⟩, fun g hg hg2 => by have h1 := OWP.out.lt hg; have h2 := hownQ.own hg2; omega⟩)
    clear hb9 hb9' hownQ Ht7 IT7 HR7 QA7 QB7 QP OWP
    go_wp2_with fail
    generalize World.alloc w9 _ = w10 at Ht9 IT9 HR9 QA9 QB9 QP9 OWP9 OWQ9 QQ9 ⊢
    obtain ⟨O10, h10, -⟩ := Ht9.out
    refine (consist_any h10 (HT.out.below Ht9.out.bel (Nat.le_refl _)) (by omega) _ _).mono ?_
    rw [HC.out, Hcc.out]
    rintro e w11 ⟨spC, cC, rfl, hownC, hb11⟩
    have hb11' : Below w10.heap.size w10 (w11.alloc (.cells #[.slice spC C.length cC] 40)) := hb11.alloc hb11.size _
    have Ht11 := Hid2.mk (Ht9.out.below hb11')
    have IT11 := Hid2.mk (IT9.out.below hb11' (Nat.le_refl _))
    have HR11 := Hid2.mk (HR9.out.below hb11' (Nat.le_refl _))
    have QA11 := Hid2.mk (QA9.out.below hb11' QA9.out.lt)
    have QB11 := Hid2.mk (QB9.out.below hb11' QB9.out.lt)
    have QP11 := Hid2.mk (QP9.out.below hb11' QP9.out.lt)
    have QQ11 := Hid2.mk (QQ9.out.below hb11' QQ9.out.lt)
    have OWP11 := Hid2.mk (OWP9.out.keep (Keep.of_below hb11') (fun g hg => OWP9.out.lt hg))
    have OWQ11 := Hid2.mk (OWQ9.out.keep (Keep.of_below hb11') (fun g hg => OWQ9.out.lt hg))
    have OWC11 := Hid2.mk (hownC.alloc (.cells #[.slice spC C.length cC] 40))
    have QC11 := Hid2.mk (VBlk.mk w11 [.slice spC C.length cC] 40)
    clear hb11 hb11' hownC h10 Ht9 IT9 HR9 QA9 QB9 QP9 OWP9 OWQ9 QQ9
    go_wp2_with fail
    generalize World.alloc w11 _ = w12 at Ht11 IT11 HR11 QA11 QB11 QP11 QQ11 OWP11 OWQ11 OWC11 QC11 ⊢
    refine (refConsist_any HR11.out (by omega) _ _).mono ?_
    rw [HC.out, Hcc.out]
    rintro e w13 ⟨spD, cD, rfl, hownD, hb13⟩
    have hb13' : Below w12.heap.size w12 (w13.alloc (.cells #[.slice spD C.length cD] 40)) := hb13.alloc hb13.size _
    have Ht13 := Hid2.mk (Ht11.out.below hb13')
    have IT13 := Hid2.mk (IT11.out.below hb13' (Nat.le_refl _))
    have QA13 := Hid2.mk (QA11.out.below hb13' QA11.out.lt)
    have QB13 := Hid2.mk (QB11.out.below hb13' QB11.out.lt)
    have QP13 := Hid2.mk (QP11.out.below hb13' QP11.out.lt)
    have QQ13 := Hid2.mk (QQ11.out.below hb13' QQ11.out.lt)
    have QC13 := Hid2.mk (QC11.out.below hb13' QC11.out.lt)
    have OWP13 := Hid2.mk (OWP11.out.keep (Keep.of_below hb13') (fun g hg => OWP11.out.lt hg))
    have OWQ13 := Hid2.mk (OWQ11.out.keep (Keep.of_below hb13') (fun g hg => OWQ11.out.lt hg))
    have OWC13 := Hid2.mk (OWC11.out.keep (Keep.of_below hb13') (fun g hg => OWC11.out.lt hg))
    have OWD13 := Hid2.mk (hownD.alloc (.cells #[.slice spD C.length cD] 40))
    have QD13 := Hid2.mk (VBlk.mk w13 [.slice spD C.length cD] 40)
    have p0 := QP13.out.cell 0 (by simp)
    have q0 := QQ13.out.cell 0 (by simp)
    simp only [List.getD_cons_zero] at p0 q0
    have hne : ∀ W, (binOp .neq 27 (.agg (rr.map (Value.int .u8)).toArray) (.agg (rr.map (Value.int .u8)).toArray)).run Tryd.prog W = .ok (.bool false) W := fun W => by rw [neqH rr rr Hrl.out Hrl.out W]; simp
    have hnc : ((rc : Int) != rc) = false := by simp
    have hnp : ((pc : Int) != pc) = false := by simp
    have hncc : ((cc : Int) != cc) = false := by simp
    clear hb13 hb13' hownD Ht11 IT11 HR11 QA11 QB11 QP11 QQ11 QC11 OWP11 OWQ11 OWC11
    go_wp2_with (first
      | (refine wpList_load_row rfl 27 (.tmp 12) rfl w3.heap.size rfl 27 (rr.map (Value.int .u8)).toArray (0, 0) _ QA13.out Tryd.underlying27 rfl (infoH rr Hrl.out) ?_)
      | (refine wpList_load_row rfl 27 (.tmp 14) rfl w5.heap.size rfl 27 (rr.map (Value.int .u8)).toArray (0, 0) _ QB13.out Tryd.underlying27 rfl (infoH rr Hrl.out) ?_))
    generalize World.alloc w13 _ = w14 at Ht13 IT13 QA13 QB13 QP13 QQ13 QC13 OWP13 OWQ13 OWC13 OWD13 QD13 ⊢
    clear p0 q0 QA13 QB13 hne
    refine (hashes_same (OwnV.hs OWP13.out OP.out rfl) (OwnV.hs OWQ13.out OP.out rfl)).mono ?_
    rintro e w15 ⟨rfl, hb15⟩
    have Ht15 := Hid2.mk (Ht13.out.below hb15)
    have IT15 := Hid2.mk (IT13.out.below hb15 (Nat.le_refl _))
    have QP15 := Hid2.mk (QP13.out.below hb15 QP13.out.lt)
    have QQ15 := Hid2.mk (QQ13.out.below hb15 QQ13.out.lt)
    have QC15 := QC13.out.below hb15 QC13.out.lt
    have QD15 := QD13.out.below hb15 QD13.out.lt
    have OWP15 := Hid2.mk (OWP13.out.keep (Keep.of_below hb15) (fun g hg => OWP13.out.lt hg))
    have OWQ15 := Hid2.mk (OWQ13.out.keep (Keep.of_below hb15) (fun g hg => OWQ13.out.lt hg))
    have OWC15 := Hid2.mk (OWC13.out.keep (Keep.of_below hb15) (fun g hg => OWC13.out.lt hg))
    have OWD15 := Hid2.mk (OWD13.out.keep (Keep.of_below hb15) (fun g hg => OWD13.out.lt hg))
    have u0 := QC15.cell 0 (by simp)
    have d0 := QD15.cell 0 (by simp)
    simp only [List.getD_cons_zero] at u0 d0
    clear hb15 Ht13 IT13 QP13 QQ13 QC13 QD13 QC15 QD15 OWP13 OWQ13 OWC13 OWD13
    go_wp2_with fail
    refine (hashes_same (OwnV.hs OWC15.out OC.out rfl) (OwnV.hs OWD15.out OC.out rfl)).mono ?_
    rintro e w16 ⟨rfl, hb16⟩
    have Ht16 := Hid2.mk (Ht15.out.below hb16)
    have IT16 := Hid2.mk (IT15.out.below hb16 (Nat.le_refl _))
    have QP16 := Hid2.mk (QP15.out.below hb16 QP15.out.lt)
    have QQ16 := Hid2.mk (QQ15.out.below hb16 QQ15.out.lt)
    have OWP16 := Hid2.mk (OWP15.out.keep (Keep.of_below hb16) (fun g hg => OWP15.out.lt hg))
    have OWQ16 := Hid2.mk (OWQ15.out.keep (Keep.of_below hb16) (fun g hg => OWQ15.out.lt hg))
    clear hb16 u0 d0 Ht15 IT15 QP15 QQ15 OWP15 OWQ15 OWC15 OWD15
    go_wp2_with fail
    have hpb : ∀ g, (Value.slice spP P.length cP).ownBlock = some g → ∃ l', P.length * 32 ≤ l'.length ∧ VBlk 27 w16 g l' := fun g hg => by
      rcases OWP16.out.form with ⟨e1, -⟩ | ⟨g', cap', cur, e1, -, -, hgb, h4, -, h6, -⟩
      · rw [e1] at hg; cases hg
      · rw [e1] at hg; cases hg
        exact ⟨cur.toList, by rw [show cur.toList.length = cur.size from Array.length_toList, h6]; exact Nat.mul_le_mul_right 32 h4, hgb⟩
    have Hpb := Hid2.mk hpb
    clear hpb
    go_loopw [24] (fun x wr => ∃ k : Nat, k ≤ P.length ∧ x = .int .i64 (k : Nat) ∧ Keep (fun b => b < w16.heap.size ∧ (Value.slice spP P.length cP).ownBlock ≠ some b) w16 wr ∧ ∀ g, (Value.slice spP P.length cP).ownBlock = some g → ∃ l', P.length * 32 ≤ l'.length ∧ VBlk 27 wr g l') (fun x _ => P.length - (intOf x).toNat)
    case atStart => exact ⟨0, by omega, rfl, Keep.refl _ _, Hpb.out⟩
    case round =>
      obtain ⟨k, hk, rfl, hkr, hbr⟩ := hrel
      have QPr := QP16.out.keep hkr ⟨QP16.out.lt, fun e => by have := (HPlt.out _ e).2; omega⟩
      have p0 := QPr.cell 0 (by simp)
      simp only [List.getD_cons_zero] at p0
      have Hkr := Hid2.mk hkr
      have Hbr := Hid2.mk hbr
      have HQPr := Hid2.mk QPr
      clear hkr hbr QPr
      have hPl : P.length ≤ 9223372036854775807 := by obtain ⟨_, _, _, h1, h2⟩ := OWP16.out.slice; omega
      by_cases hkl : k < P.length
      · have g1 : (k : Int) < P.length := by omega
        obtain ⟨g, hown, hsp⟩ : ∃ g, (Value.slice spP P.length cP).ownBlock = some g ∧ spP = some ⟨g, 0, none⟩ := by
          rcases OWP16.out.form with ⟨-, e2, -⟩ | ⟨g', cap', cur, e1, -⟩
          · omega
          · obtain ⟨e2, e3⟩ : spP = some ⟨g', 0, none⟩ ∧ cP = cap' := by simpa using e1
            exact ⟨g', by rw [e2]; rfl, e2⟩
        obtain ⟨o, hsp2, Ho⟩ : ∃ o, spP = some ⟨g, o, none⟩ ∧ Hid2 (o = 0) := ⟨0, hsp, Hid2.mk rfl⟩
        have p1 : wr.cell? ⟨w7.heap.size, 0, none⟩ = some (.slice (some ⟨g, o, none⟩) P.length cP) := by rw [p0, hsp2]
        obtain ⟨l', hl1, hl2⟩ := Hbr.out g hown
        have Hth := Hid2.mk (there_vblk hl2 (o := o + k * 32) (n := 32) (by rw [Ho.out]; omega))
        have HN1 := Hid2.mk (keep_setCells (b := g) (K := fun b => b < w16.heap.size ∧ (Value.slice spP P.length cP).ownBlock ≠ some b) (fun h => h.2 hown) (Dig.Z32.map (Value.int .u8)).toArray.toList (o + k * 32) w16 wr Hkr.out)
        have HN2 := Hid2.mk (vblk_setCells (Dig.Z32.map (Value.int .u8)).toArray.toList (o + k * 32) wr l' hl2)
        have Hown := Hid2.mk hown
        have Hl1 := Hid2.mk hl1
        clear p0 hsp hsp2 hl1 hl2 hown
        go_wp2_with (first | (refine wpList_build_to rfl 27 #[] rfl (Dig.Z32.map (Value.int .u8)).toArray builtHash ?_) | (refine wpList_store_mid rfl 27 (.tmp 123) (.tmp 122) rfl g (o + k * 32) (Dig.Z32.map (Value.int .u8)).toArray rfl rfl Hth.out (infoH _ z32_len) (oneH _) ?_; generalize World.setCells _ _ _ _ = wr2 at HN1 HN2 ⊢))
        go_roundw
        case rel =>
          refine ⟨k + 1, by omega, by go_num, HN1.out, fun g2 hg2 => ?_⟩
          have e2 : g = g2 := Option.some.inj (Hown.out.symm.trans hg2)
          subst e2
          obtain ⟨l2, h1, h2⟩ := HN2.out
          exact ⟨l2, by rw [h1]; exact Hl1.out, h2⟩
        case measure => simp [intOf]; omega
      · have g1 : (P.length : Int) ≤ k := by omega
        have ITr := Hid2.mk (IT16.out.keep Hkr.out (fun b hb => ⟨IT16.out.lt b hb, fun e => by have := (HPlt.out _ e).1; have := HO6.out b hb; omega⟩))
        have HBr := Hid2.mk (Ht16.out.bel.trans (Hkr.out.mono (K' := fun b => b < w.heap.size) (fun b hb => ⟨Nat.lt_of_lt_of_le hb Ht16.out.size, fun e => by have := (HPlt.out _ e).1; have := HS6.out; omega⟩)).below)
        have OWQr := Hid2.mk (OWQ16.out.keep Hkr.out (fun b hb => ⟨OWQ16.out.lt hb, fun e => HPQ.out.2 b e hb⟩))
        have QQr := Hid2.mk (QQ16.out.keep Hkr.out ⟨QQ16.out.lt, fun e => by have := (HPlt.out _ e).2; have := HPQ.out.1.1; omega⟩)
        clear Hbr Hkr OWP16 OWQ16 QQ16 QP16 IT16
        go_wp2_with fail
        refine (prove_any ITr.out (HT.out.below HBr.out (Nat.le_refl _)) (by omega) _ _).mono ?_
        rw [HP.out, Hpc.out]
        rintro e w17 ⟨spR, cR, rfl, hownR, hb17⟩
        have HB17 := Hid2.mk (HBr.out.trans (hb17.mono HBr.out.size))
        have QP17 := Hid2.mk (HQPr.out.below hb17 HQPr.out.lt)
        have QQ17 := Hid2.mk (QQr.out.below hb17 QQr.out.lt)
        have OWQ17 := Hid2.mk (OWQr.out.keep (Keep.of_below hb17) (fun g hg => OWQr.out.lt hg))
        have HRlt := Hid2.mk (show ∀ g, (Value.slice spR P.length cR).ownBlock = some g → g ≠ w7.heap.size from fun g hg => by have := hownR.own hg; have := HQPr.out.lt; omega)
        have OWR17 := Hid2.mk hownR
        have Hs7 := Hid2.mk (show w.heap.size ≤ w7.heap.size from HS7.out)
        clear hb17 hownR HBr HQPr QQr OWQr ITr p0
        have p2 := (QP17.out.setRow [.slice spR P.length cR]).cell 0 (by simp)
        have q2 := (QQ17.out.setRow_other #[.slice spR P.length cR] (show w9.heap.size ≠ w7.heap.size by have := HPQ.out.1.1; omega)).cell 0 (by simp)
        have HB18 := Hid2.mk (below_setRow HB17.out Hs7.out #[.slice spR P.length cR])
        have OWQ18 := Hid2.mk (OWQ17.out.keep (keep_setRow w17 w7.heap.size #[.slice spR P.length cR]) (fun g hg => by have := HPQ.out.1.2 g hg; show g ≠ _; omega))
        have OWR18 := Hid2.mk (OWR17.out.keep (keep_setRow w17 w7.heap.size #[.slice spR P.length cR]) (fun g hg => HRlt.out g hg))
        simp only [List.getD_cons_zero] at p2 q2
        go_wp2_with (refine wpList_store_row rfl 40 (.tmp 16) (.tmp 129) rfl w7.heap.size #[.slice spR P.length cR] rfl rfl 40 #[.slice spP P.length cP] QP17.out infoProof rfl (by simp [Value.oneCell']) ?_; generalize World.setRow _ _ _ = w18 at p2 q2 HB18 OWQ18 OWR18 ⊢)
        refine (hashes_same (OwnV.hs OWR18.out OP.out rfl) (OwnV.hs OWQ18.out OP.out rfl)).mono ?_
        rintro e w19 ⟨rfl, hb19⟩
        have HB19 := Hid2.mk (HB18.out.trans (hb19.mono HB18.out.size))
        clear hb19 p2 q2
        go_wp2_with fail
        refine (known_any _ (HT.out.below HB19.out (Nat.le_refl _))).mono ?_
        rintro e w20 ⟨rfl, hb20⟩
        have HB20 := Hid2.mk (HB19.out.trans (hb20.mono HB19.out.size))
        clear hb20
        go_wp2_with fail
        go_ret
        exact ⟨rfl, HB20.out⟩

end Mk
end Go.Proofs.YtfdgclnjpbkggaaDoor
