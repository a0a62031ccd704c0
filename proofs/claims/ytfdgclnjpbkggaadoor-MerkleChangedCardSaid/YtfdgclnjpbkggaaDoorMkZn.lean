/- The reference's Verify and VerifyConsist (printed by gen_refver.py). -/
import Derived.Test.YtfdgclnjpbkggaaDoorMkZi
import Derived.Test.YtfdgclnjpbkggaaDoorMkZm
namespace Go.Proofs.YtfdgclnjpbkggaaDoor
open Go.RowKit Go.Maps
namespace Mk

set_option maxRecDepth 100000 in
set_option maxHeartbeats 4000000 in
theorem refVerify_any {w : World} {O : Nat → Prop} {v : Value} {p : List H} {leaf root : H} (hs : HS w O v p) (hlen : leaf.length = 32) (hroot : root.length = 32) (i size : Int) :
    Calls Tryd.prog 23 #[.agg (leaf.map (Value.int .u8)).toArray, .int .i64 i, .int .i64 size, .agg #[v], .agg (root.map (Value.int .u8)).toArray] w fun e w' => e = .returned (.bool (verP leaf i size p root)) ∧ Below w.heap.size w w' := by
  have hz := zeroHash
  by_cases hg : 0 ≤ i ∧ i < size ∧ size ≤ 1099511627776
  · obtain ⟨h0, h1, h2⟩ := hg
    have hv : verP leaf i size p root = verT nodeP z32 leaf i.toNat size.toNat p root := by unfold verP; rw [if_pos ⟨h0, h1, h2⟩]
    rw [hv, ver_eq]
    clear hv
    obtain ⟨a, rfl⟩ := Int.eq_ofNat_of_zero_le h0
    obtain ⟨n, rfl⟩ := Int.eq_ofNat_of_zero_le (show 0 ≤ size by omega)
    rw [Int.toNat_natCast, Int.toNat_natCast]
    have g3 : decide ((1099511627776 : Int) < n) = false := decide_eq_false (by omega)
    have hn : n ≤ 1099511627776 := by omega
    have han : a < n := by omega
    clear h2 h0
    obtain ⟨sp, cap, rfl, hc, hc'⟩ := hs.form
    have c0 := (vA1 w leaf root (.slice sp p.length cap)).cell 0 (by simp)
    simp only [List.getD_cons_zero] at c0
    have HB := Hid2.mk (vA_below w leaf root (.slice sp p.length cap))
    have HL := Hid2.mk (vA0 w leaf root (.slice sp p.length cap))
    have HR := Hid2.mk (vA2 w leaf root (.slice sp p.length cap))
    have HS0 := Hid2.mk (hs.below (vA_below w leaf root (.slice sp p.length cap)) (Nat.le_refl _))
    unfold vA at HB HL HR HS0 c0
    clear hs
    go_enter Tryd.func23, Tryd.ntmps23
    go_wp2_with (first | (refine wpList_load_row rfl 27 (.tmp 5) rfl w.heap.size rfl 27 (leaf.map (Value.int .u8)).toArray (0, 0) _ HL.out Tryd.underlying27 rfl (infoH leaf hlen) ?_))
    generalize World.alloc (World.alloc (World.alloc _ _) _) _ = w4 at HB HL HR HS0 c0 ⊢
    refine (refUp_any n hlen (by omega) hn han HS0.out).mono ?_
    rintro e w5 ⟨rfl, hcl, hk⟩
    have hver : verR nodeP z32 leaf a n p root = ((upP leaf a n p).2 && ((upP leaf a n p).1 == root)) := rfl
    have Hver := Hid2.mk hver
    clear hver
    generalize upP leaf a n p = c at Hver hcl ⊢
    obtain ⟨r, ok5⟩ := c
    simp only at Hver hcl
    have HR5 := Hid2.mk (HR.out.below hk HR.out.lt)
    have HB5 := Hid2.mk (HB.out.trans (hk.mono HB.out.size))
    obtain ⟨q1, q2, q3⟩ := alloc_store w5 r
    have Q1 := Hid2.mk q1
    have Q2 := Hid2.mk q2
    have HR6 := Hid2.mk (HR5.out.below q3 HR5.out.lt)
    have HB6 := Hid2.mk (HB5.out.trans (q3.mono HB5.out.size))
    have heq := fun W => eqlH r root hcl hroot W
    clear q1 q2 q3 hk HB HL HR HR5 HB5 c0 HS0
    have hfin : Hid2 (∀ b, verR nodeP z32 leaf a n p root = b → (Ending.returned (Value.bool b)) = .returned (.bool (verR nodeP z32 leaf a n p root))) := Hid2.mk (fun b hb => by rw [hb])
    cases ok5 with
    | false =>
      go_wp2_with (first
        | (refine wpList_store_row rfl 27 (.tmp 11) (.tmp 31) rfl w5.heap.size (r.map (Value.int .u8)).toArray rfl rfl 27 (Dig.Z32.map (Value.int .u8)).toArray Q1.out (infoH r hcl) (sizeH _ _ z32_len hcl) (oneH _) ?_; generalize World.setRow _ _ _ = w6 at Q2 HR6 HB6 ⊢))
      go_ret
      exact ⟨hfin.out _ (by rw [Hver.out]; rfl), HB6.out⟩
    | true =>
      go_wp2_with (first
        | (refine wpList_store_row rfl 27 (.tmp 11) (.tmp 31) rfl w5.heap.size (r.map (Value.int .u8)).toArray rfl rfl 27 (Dig.Z32.map (Value.int .u8)).toArray Q1.out (infoH r hcl) (sizeH _ _ z32_len hcl) (oneH _) ?_; generalize World.setRow _ _ _ = w6 at Q2 HR6 HB6 ⊢)
        | (refine wpList_load_on (by rfl) 27 (.tmp 11) rfl w5.heap.size rfl 27 (r.map (Value.int .u8)).toArray (0, 0) _ Q2.out Tryd.underlying27 rfl (infoH r hcl) ?_)
        | (refine wpList_load_on (by rfl) 27 (.tmp 9) rfl (w.heap.size + 1 + 1) rfl 27 (root.map (Value.int .u8)).toArray (0, 0) _ HR6.out Tryd.underlying27 rfl (infoH root hroot) ?_))
      go_ret
      exact ⟨hfin.out _ (by rw [Hver.out]; simp [Bool.beq_eq_decide_eq]), HB6.out⟩
  · have hv : verP leaf i size p root = false := by unfold verP; rw [if_neg hg]
    rw [hv]
    obtain ⟨sp, cap, rfl, hc, hc'⟩ := hs.form
    have HB := Hid2.mk (vA_below w leaf root (.slice sp p.length cap))
    unfold vA at HB
    clear hv hs
    rcases (show i < 0 ∨ (0 ≤ i ∧ size ≤ i) ∨ (0 ≤ i ∧ i < size ∧ 1099511627776 < size) by omega) with h1 | ⟨h1, h2⟩ | ⟨h1, h2, h3⟩
    · clear hg
      go_enter Tryd.func23, Tryd.ntmps23
      go_wp2_with fail
      go_ret
      exact ⟨rfl, HB.out⟩
    · clear hg
      go_enter Tryd.func23, Tryd.ntmps23
      go_wp2_with fail
      go_ret
      exact ⟨rfl, HB.out⟩
    · have h4 : decide ((1099511627776 : Int) < size) = true := decide_eq_true h3
      clear hg h3
      go_enter Tryd.func23, Tryd.ntmps23
      go_wp2_with fail
      go_ret
      exact ⟨rfl, HB.out⟩

set_option maxRecDepth 100000 in
set_option maxHeartbeats 4000000 in
theorem refVcon_any {w : World} {O : Nat → Prop} {v : Value} {p : List H} {a b : H} (hs : HS w O v p) (hla : a.length = 32) (hlb : b.length = 32) (old size : Int) :
    Calls Tryd.prog 25 #[.int .i64 old, .int .i64 size, .agg #[v], .agg (a.map (Value.int .u8)).toArray, .agg (b.map (Value.int .u8)).toArray] w fun e w' => e = .returned (.bool (vconP old size p a b)) ∧ Below w.heap.size w w' := by
  have hz := zeroHash
  by_cases hg : 1 ≤ old ∧ old ≤ size ∧ size ≤ 1099511627776
  · obtain ⟨h0, h1, h2⟩ := hg
    have hv : vconP old size p a b = vconT nodeP z32 old.toNat size.toNat p a b := by unfold vconP; rw [if_pos ⟨h0, h1, h2⟩]
    rw [hv, vcon_eq]
    clear hv
    obtain ⟨m, rfl⟩ := Int.eq_ofNat_of_zero_le (show 0 ≤ old by omega)
    obtain ⟨n, rfl⟩ := Int.eq_ofNat_of_zero_le (show 0 ≤ size by omega)
    rw [Int.toNat_natCast, Int.toNat_natCast]
    have g3 : decide ((1099511627776 : Int) < n) = false := decide_eq_false (by omega)
    have hn : n ≤ 1099511627776 := by omega
    have hmn : m ≤ n := by omega
    have hm1 : 1 ≤ m := by omega
    clear h2
    obtain ⟨sp, cap, rfl, hc, hc'⟩ := hs.form
    have c0 := (cA0 w a b (.slice sp p.length cap)).cell 0 (by simp)
    simp only [List.getD_cons_zero] at c0
    have HB := Hid2.mk (cA_below w a b (.slice sp p.length cap))
    have HA := Hid2.mk (cA1 w a b (.slice sp p.length cap))
    have HR := Hid2.mk (cA2 w a b (.slice sp p.length cap))
    have HS0 := Hid2.mk (hs.below (cA_below w a b (.slice sp p.length cap)) (Nat.le_refl _))
    unfold cA at HB HA HR HS0 c0
    clear hs
    go_enter Tryd.func25, Tryd.ntmps25
    go_wp2_with (first | (refine wpList_load_row rfl 27 (.tmp 8) rfl (w.heap.size + 1) rfl 27 (a.map (Value.int .u8)).toArray (0, 0) _ HA.out Tryd.underlying27 rfl (infoH a hla) ?_))
    generalize World.alloc (World.alloc (World.alloc _ _) _) _ = w4 at HB HA HR HS0 c0 ⊢
    refine (refBoth_any n hla hm1 hmn hn HS0.out).mono ?_
    rintro e w5 ⟨rfl, hr1, hr2, hk⟩
    have hver : vconR nodeP z32 m n p a b = ((upsP m n true p a).2 && ((upsP m n true p a).1.1 == a) && ((upsP m n true p a).1.2 == b)) := rfl
    have Hver := Hid2.mk hver
    clear hver
    generalize upsP m n true p a = c at Hver hr1 hr2 ⊢
    obtain ⟨⟨r1, r2⟩, ok5⟩ := c
    simp only at Hver hr1 hr2
    have HA5 := Hid2.mk (HA.out.below hk HA.out.lt)
    have HR5 := Hid2.mk (HR.out.below hk HR.out.lt)
    have HB5 := Hid2.mk (HB.out.trans (hk.mono HB.out.size))
    obtain ⟨q0, q1, q2⟩ := two_new w5 Dig.Z32
    have qm := q2.setRow_other (g := w5.heap.size) (r1.map (Value.int .u8)).toArray (by omega)
    have Q1 := Hid2.mk q1
    have Qm := Hid2.mk qm
    have QX := Hid2.mk ((q1.setRow (r1.map (Value.int .u8))).setRow_other (g := w5.heap.size + 1) (r2.map (Value.int .u8)).toArray (by omega))
    have QY := Hid2.mk (qm.setRow (r2.map (Value.int .u8)))
    have q3 := below_setRow (below_setRow q0 (Nat.le_refl _) (r1.map (Value.int .u8)).toArray) (show w5.heap.size ≤ w5.heap.size + 1 by omega) (r2.map (Value.int .u8)).toArray
    have HA6 := Hid2.mk (HA5.out.below q3 HA5.out.lt)
    have HR6 := Hid2.mk (HR5.out.below q3 HR5.out.lt)
    have HB6 := Hid2.mk (HB5.out.trans (q3.mono HB5.out.size))
    clear q0 q1 q2 q3 qm hk HB HA HR HR5 HB5 HA5 c0 HS0
    have hfin : Hid2 (∀ x, vconR nodeP z32 m n p a b = x → (Ending.returned (Value.bool x)) = .returned (.bool (vconR nodeP z32 m n p a b))) := Hid2.mk (fun x hx => by rw [hx])
    cases ok5 with
    | false =>
      go_wp2_with (first
        | (refine wpList_store_row rfl 27 (.tmp 11) (.tmp 32) rfl w5.heap.size (r1.map (Value.int .u8)).toArray rfl rfl 27 (Dig.Z32.map (Value.int .u8)).toArray Q1.out (infoH r1 hr1) (sizeH _ _ z32_len hr1) (oneH _) ?_)
          | (refine wpList_store_row rfl 27 (.tmp 12) (.tmp 33) rfl (w5.heap.size + 1) (r2.map (Value.int .u8)).toArray rfl rfl 27 (Dig.Z32.map (Value.int .u8)).toArray Qm.out (infoH r2 hr2) (sizeH _ _ z32_len hr2) (oneH _) ?_; generalize World.setRow (World.setRow _ _ _) _ _ = w6 at QX QY HA6 HR6 HB6 ⊢))
      go_ret
      exact ⟨hfin.out _ (by rw [Hver.out]; rfl), HB6.out⟩
    | true =>
      by_cases hra : r1 = a
      · have heq1 : ∀ W, (binOp .eql 27 (.agg (r1.map (Value.int .u8)).toArray) (.agg (a.map (Value.int .u8)).toArray)).run Tryd.prog W = .ok (.bool true) W := fun W => by rw [eqlH r1 a hr1 hla W, decide_eq_true hra]
        have heq2 := fun W => eqlH r2 b hr2 hlb W
        have Hra := Hid2.mk hra
        clear hra
        go_wp2_with (first
          | (refine wpList_store_row rfl 27 (.tmp 11) (.tmp 32) rfl w5.heap.size (r1.map (Value.int .u8)).toArray rfl rfl 27 (Dig.Z32.map (Value.int .u8)).toArray Q1.out (infoH r1 hr1) (sizeH _ _ z32_len hr1) (oneH _) ?_)
          | (refine wpList_store_row rfl 27 (.tmp 12) (.tmp 33) rfl (w5.heap.size + 1) (r2.map (Value.int .u8)).toArray rfl rfl 27 (Dig.Z32.map (Value.int .u8)).toArray Qm.out (infoH r2 hr2) (sizeH _ _ z32_len hr2) (oneH _) ?_; generalize World.setRow (World.setRow _ _ _) _ _ = w6 at QX QY HA6 HR6 HB6 ⊢)
          | (refine wpList_load_on (by rfl) 27 (.tmp 11) rfl w5.heap.size rfl 27 (r1.map (Value.int .u8)).toArray (0, 0) _ QX.out Tryd.underlying27 rfl (infoH r1 hr1) ?_)
          | (refine wpList_load_on (by rfl) 27 (.tmp 8) rfl (w.heap.size + 1) rfl 27 (a.map (Value.int .u8)).toArray (0, 0) _ HA6.out Tryd.underlying27 rfl (infoH a hla) ?_)
          | (refine wpList_load_on (by rfl) 27 (.tmp 12) rfl (w5.heap.size + 1) rfl 27 (r2.map (Value.int .u8)).toArray (0, 0) _ QY.out Tryd.underlying27 rfl (infoH r2 hr2) ?_)
          | (refine wpList_load_on (by rfl) 27 (.tmp 9) rfl (w.heap.size + 1 + 1) rfl 27 (b.map (Value.int .u8)).toArray (0, 0) _ HR6.out Tryd.underlying27 rfl (infoH b hlb) ?_))
        go_ret
        exact ⟨hfin.out _ (by rw [Hver.out, Hra.out]; simp [Bool.beq_eq_decide_eq]), HB6.out⟩
      · have heq1 : ∀ W, (binOp .eql 27 (.agg (r1.map (Value.int .u8)).toArray) (.agg (a.map (Value.int .u8)).toArray)).run Tryd.prog W = .ok (.bool false) W := fun W => by rw [eqlH r1 a hr1 hla W, decide_eq_false hra]
        have Hra := Hid2.mk hra
        clear hra
        go_wp2_with (first
          | (refine wpList_store_row rfl 27 (.tmp 11) (.tmp 32) rfl w5.heap.size (r1.map (Value.int .u8)).toArray rfl rfl 27 (Dig.Z32.map (Value.int .u8)).toArray Q1.out (infoH r1 hr1) (sizeH _ _ z32_len hr1) (oneH _) ?_)
          | (refine wpList_store_row rfl 27 (.tmp 12) (.tmp 33) rfl (w5.heap.size + 1) (r2.map (Value.int .u8)).toArray rfl rfl 27 (Dig.Z32.map (Value.int .u8)).toArray Qm.out (infoH r2 hr2) (sizeH _ _ z32_len hr2) (oneH _) ?_; generalize World.setRow (World.setRow _ _ _) _ _ = w6 at QX QY HA6 HR6 HB6 ⊢)
          | (refine wpList_load_on (by rfl) 27 (.tmp 11) rfl w5.heap.size rfl 27 (r1.map (Value.int .u8)).toArray (0, 0) _ QX.out Tryd.underlying27 rfl (infoH r1 hr1) ?_)
          | (refine wpList_load_on (by rfl) 27 (.tmp 8) rfl (w.heap.size + 1) rfl 27 (a.map (Value.int .u8)).toArray (0, 0) _ HA6.out Tryd.underlying27 rfl (infoH a hla) ?_)
          | (refine wpList_load_on (by rfl) 27 (.tmp 12) rfl (w5.heap.size + 1) rfl 27 (r2.map (Value.int .u8)).toArray (0, 0) _ QY.out Tryd.underlying27 rfl (infoH r2 hr2) ?_)
          | (refine wpList_load_on (by rfl) 27 (.tmp 9) rfl (w.heap.size + 1 + 1) rfl 27 (b.map (Value.int .u8)).toArray (0, 0) _ HR6.out Tryd.underlying27 rfl (infoH b hlb) ?_))
        go_ret
        exact ⟨hfin.out _ (by rw [Hver.out]; simp [Bool.beq_eq_decide_eq, Hra.out]), HB6.out⟩
  · have hv : vconP old size p a b = false := by unfold vconP; rw [if_neg hg]
    rw [hv]
    obtain ⟨sp, cap, rfl, hc, hc'⟩ := hs.form
    have HB := Hid2.mk (cA_below w a b (.slice sp p.length cap))
    unfold cA at HB
    clear hv hs
    rcases (show old < 1 ∨ (1 ≤ old ∧ size < old) ∨ (1 ≤ old ∧ old ≤ size ∧ 1099511627776 < size) by omega) with h1 | ⟨h1, h2⟩ | ⟨h1, h2, h3⟩
    · clear hg
      go_enter Tryd.func25, Tryd.ntmps25
      go_wp2_with fail
      go_ret
      exact ⟨rfl, HB.out⟩
    · clear hg
      go_enter Tryd.func25, Tryd.ntmps25
      go_wp2_with fail
      go_ret
      exact ⟨rfl, HB.out⟩
    · have h4 : decide ((1099511627776 : Int) < size) = true := decide_eq_true h3
      clear hg h3
      go_enter Tryd.func25, Tryd.ntmps25
      go_wp2_with fail
      go_ret
      exact ⟨rfl, HB.out⟩

end Mk
end Go.Proofs.YtfdgclnjpbkggaaDoor
