/- VerifyConsist. -/
import Derived.Test.YtfdgclnjpbkggaaDoorMkZd
namespace Go.Proofs.YtfdgclnjpbkggaaDoor
open Go.RowKit Go.Maps
namespace Mk

/-- What VerifyConsist answers. -/
def vconP (old size : Int) (p : List H) (a b : H) : Bool := if 1 ≤ old ∧ old ≤ size ∧ size ≤ 1099511627776 then vconT nodeP z32 old.toNat size.toNat p a b else false

def cA (w : World) (a b : H) (v : Value) : World := ((w.alloc (.cells #[v] 40)).alloc (.cells (a.map (Value.int .u8)).toArray 27)).alloc (.cells (b.map (Value.int .u8)).toArray 27)
def cB (w : World) (a b : H) (v : Value) : World := (cA w a b v).alloc (.cells #[v, .bool true] 69)
theorem cA_size (w : World) (a b : H) (v : Value) : (cA w a b v).heap.size = w.heap.size + 1 + 1 + 1 := by simp [cA]
theorem cA_below (w : World) (a b : H) (v : Value) : Below w.heap.size w (cA w a b v) := (((Below.refl _ w).alloc (Nat.le_refl _) _).alloc (by simp) _).alloc (by simp; omega) _
theorem cB_below (w : World) (a b : H) (v : Value) : Below w.heap.size w (cB w a b v) := (cA_below w a b v).alloc (by rw [cA_size]; omega) _
theorem cA0 (w : World) (a b : H) (v : Value) : VBlk 40 (cA w a b v) w.heap.size [v] := ((VBlk.mk w [v] 40).alloc _).alloc _
theorem cA1 (w : World) (a b : H) (v : Value) : VBlk 27 (cA w a b v) (w.heap.size + 1) (a.map (Value.int .u8)) := by
  have := VBlk.mk (w.alloc (.cells #[v] 40)) (a.map (Value.int .u8)) 27
  rw [show (w.alloc (.cells #[v] 40)).heap.size = w.heap.size + 1 from by simp] at this
  exact this.alloc _
theorem cA2 (w : World) (a b : H) (v : Value) : VBlk 27 (cA w a b v) (w.heap.size + 1 + 1) (b.map (Value.int .u8)) := by
  have := VBlk.mk ((w.alloc (.cells #[v] 40)).alloc (.cells (a.map (Value.int .u8)).toArray 27)) (b.map (Value.int .u8)) 27
  rw [show ((w.alloc (.cells #[v] 40)).alloc (.cells (a.map (Value.int .u8)).toArray 27)).heap.size = w.heap.size + 1 + 1 from by simp] at this
  exact this
theorem cB3 (w : World) (a b : H) (v : Value) : VBlk 69 (cB w a b v) (w.heap.size + 1 + 1 + 1) [v, .bool true] := by
  have := VBlk.mk (cA w a b v) [v, .bool true] 69
  rw [cA_size] at this
  exact this

set_option maxRecDepth 100000 in
set_option maxHeartbeats 4000000 in
theorem vcon_any {w : World} {O : Nat → Prop} {v : Value} {p : List H} {a b : H} (hs : HS w O v p) (hla : a.length = 32) (hlb : b.length = 32) (old size : Int) :
    Calls Tryd.prog 24 #[.int .i64 old, .int .i64 size, .agg #[v], .agg (a.map (Value.int .u8)).toArray, .agg (b.map (Value.int .u8)).toArray] w fun e w' => e = .returned (.bool (vconP old size p a b)) ∧ Below w.heap.size w w' := by
  have hz := zeroHash
  by_cases hg : 1 ≤ old ∧ old ≤ size ∧ size ≤ 1099511627776
  · obtain ⟨h0, h1, h2⟩ := hg
    have hv : vconP old size p a b = vconT nodeP z32 old.toNat size.toNat p a b := by unfold vconP; rw [if_pos ⟨h0, h1, h2⟩]
    rw [hv]
    clear hv
    obtain ⟨m, rfl⟩ := Int.eq_ofNat_of_zero_le (show 0 ≤ old by omega)
    obtain ⟨n, rfl⟩ := Int.eq_ofNat_of_zero_le (show 0 ≤ size by omega)
    rw [Int.toNat_natCast, Int.toNat_natCast]
    have g3 : decide ((1099511627776 : Int) < n) = false := decide_eq_false (by omega)
    have hn : n ≤ 1099511627776 := by omega
    have hmn : m ≤ n := by omega
    have hm1 : 1 ≤ m := by omega
    clear h2
    obtain ⟨sp, cap, rfl, hc, hc'⟩ := hs.form
    have hs0 := hs.tight
    have c0 := (cA0 w a b (.slice sp p.length cap)).cell 0 (by simp)
    simp only [List.getD_cons_zero] at c0
    unfold cA at c0
    have HB := Hid2.mk (cB_below w a b (.slice sp p.length cap))
    have HA := Hid2.mk ((cA1 w a b (.slice sp p.length cap)).alloc (.cells #[.slice sp p.length cap, .bool true] 69))
    have HR := Hid2.mk ((cA2 w a b (.slice sp p.length cap)).alloc (.cells #[.slice sp p.length cap, .bool true] 69))
    have HT := Hid2.mk (show Tk (cB w a b (.slice sp p.length cap)) (w.heap.size + 1 + 1 + 1) (fun b => b < w.heap.size) (p, true) from ⟨_, cB3 w a b _, hs0.below (cB_below w a b _) (Nat.le_refl _), by omega⟩)
    clear hs hs0
    unfold cB cA at HB HA HR HT
    go_enter Tryd.func24, Tryd.ntmps24
    go_wp2_with (first | (refine wpList_load_row rfl 27 (.tmp 8) rfl (w.heap.size + 1) rfl 27 (a.map (Value.int .u8)).toArray (0, 0) _ HA.out Tryd.underlying27 rfl (infoH a hla) ?_))
    generalize World.alloc (World.alloc (World.alloc (World.alloc _ _) _) _) _ = w4 at HB HA HR HT ⊢
    refine (both_any n hla hm1 hmn hn HT.out).mono ?_
    rintro e w5 ⟨rfl, hr1, hr2, htk, hk⟩
    have hver : vconT nodeP z32 m n p a b = ((bothP m n true a (p, true)).2.2 && ((bothP m n true a (p, true)).2.1.length == 0) && ((bothP m n true a (p, true)).1.1 == a) && ((bothP m n true a (p, true)).1.2 == b)) := rfl
    have Hver := Hid2.mk hver
    clear hver
    generalize bothP m n true a (p, true) = c at Hver hr1 hr2 htk ⊢
    obtain ⟨⟨r1, r2⟩, l5, ok5⟩ := c
    simp only at Hver hr1 hr2 htk
    obtain ⟨v5, hv5, hs5, -⟩ := htk
    simp only at hv5 hs5
    obtain ⟨sp5, cap5, rfl, hc5, hc5'⟩ := hs5.form
    have HA5 := Hid2.mk (HA.out.keep hk ⟨HA.out.lt, by omega⟩)
    have HR5 := Hid2.mk (HR.out.keep hk ⟨HR.out.lt, by omega⟩)
    have HB5 := Hid2.mk (HB.out.trans (hk.mono (K' := fun b => b < w.heap.size) (fun b hb => ⟨Nat.lt_of_lt_of_le hb HB.out.size, by have : b < w.heap.size := hb; omega⟩)).below)
    obtain ⟨q0, q1, q2⟩ := two_new w5 Dig.Z32
    have qm := q2.setRow_other (g := w5.heap.size) (r1.map (Value.int .u8)).toArray (by omega)
    have Q1 := Hid2.mk q1
    have Qm := Hid2.mk qm
    have QX := Hid2.mk ((q1.setRow (r1.map (Value.int .u8))).setRow_other (g := w5.heap.size + 1) (r2.map (Value.int .u8)).toArray (by omega))
    have QY := Hid2.mk (qm.setRow (r2.map (Value.int .u8)))
    have q3 := below_setRow (below_setRow q0 (Nat.le_refl _) (r1.map (Value.int .u8)).toArray) (show w5.heap.size ≤ w5.heap.size + 1 by omega) (r2.map (Value.int .u8)).toArray
    have ht6 := hv5.below q3 hv5.lt
    have d0 := ht6.cell 0 (by simp)
    have d1 := ht6.cell 1 (by simp)
    simp only [List.getD_cons_zero, List.getD_cons_succ] at d0 d1
    have HA6 := Hid2.mk (HA5.out.below q3 HA5.out.lt)
    have HR6 := Hid2.mk (HR5.out.below q3 HR5.out.lt)
    have HB6 := Hid2.mk (HB5.out.trans (q3.mono HB5.out.size))
    clear q0 q1 q2 q3 qm hk ht6 hv5 hs5 HB HA HR HT HR5 HB5 HA5 c0
    have hfin : Hid2 (∀ x, vconT nodeP z32 m n p a b = x → (Ending.returned (Value.bool x)) = .returned (.bool (vconT nodeP z32 m n p a b))) := Hid2.mk (fun x hx => by rw [hx])
    cases ok5 with
    | false =>
      go_wp2_with (first
        | (refine wpList_store_row rfl 27 (.tmp 12) (.tmp 35) rfl w5.heap.size (r1.map (Value.int .u8)).toArray rfl rfl 27 (Dig.Z32.map (Value.int .u8)).toArray Q1.out (infoH r1 hr1) (sizeH _ _ z32_len hr1) (oneH _) ?_)
            | (refine wpList_store_row rfl 27 (.tmp 13) (.tmp 36) rfl (w5.heap.size + 1) (r2.map (Value.int .u8)).toArray rfl rfl 27 (Dig.Z32.map (Value.int .u8)).toArray Qm.out (infoH r2 hr2) (sizeH _ _ z32_len hr2) (oneH _) ?_
               generalize World.setRow (World.setRow _ _ _) _ _ = w6 at QX QY d0 d1 HA6 HR6 HB6 ⊢))
      go_ret
      exact ⟨hfin.out _ (by rw [Hver.out]; rfl), HB6.out⟩
    | true =>
      by_cases hl0 : l5.length = 0
      · have g5 : ((l5.length : Int) == 0) = true := by simp [hl0]
        by_cases hra : r1 = a
        · have heq1 : ∀ W, (binOp .eql 27 (.agg (r1.map (Value.int .u8)).toArray) (.agg (a.map (Value.int .u8)).toArray)).run Tryd.prog W = .ok (.bool true) W := fun W => by rw [eqlH r1 a hr1 hla W, decide_eq_true hra]
          have heq2 := fun W => eqlH r2 b hr2 hlb W
          have Hra := Hid2.mk hra
          clear hra
          go_wp2_with (first
            | (refine wpList_store_row rfl 27 (.tmp 12) (.tmp 35) rfl w5.heap.size (r1.map (Value.int .u8)).toArray rfl rfl 27 (Dig.Z32.map (Value.int .u8)).toArray Q1.out (infoH r1 hr1) (sizeH _ _ z32_len hr1) (oneH _) ?_)
            | (refine wpList_store_row rfl 27 (.tmp 13) (.tmp 36) rfl (w5.heap.size + 1) (r2.map (Value.int .u8)).toArray rfl rfl 27 (Dig.Z32.map (Value.int .u8)).toArray Qm.out (infoH r2 hr2) (sizeH _ _ z32_len hr2) (oneH _) ?_
               generalize World.setRow (World.setRow _ _ _) _ _ = w6 at QX QY d0 d1 HA6 HR6 HB6 ⊢)
            | (refine wpList_load_on (by rfl) 27 (.tmp 12) rfl w5.heap.size rfl 27 (r1.map (Value.int .u8)).toArray (0, 0) _ QX.out Tryd.underlying27 rfl (infoH r1 hr1) ?_)
            | (refine wpList_load_on (by rfl) 27 (.tmp 8) rfl (w.heap.size + 1) rfl 27 (a.map (Value.int .u8)).toArray (0, 0) _ HA6.out Tryd.underlying27 rfl (infoH a hla) ?_)
            | (refine wpList_load_on (by rfl) 27 (.tmp 13) rfl (w5.heap.size + 1) rfl 27 (r2.map (Value.int .u8)).toArray (0, 0) _ QY.out Tryd.underlying27 rfl (infoH r2 hr2) ?_)
            | (refine wpList_load_on (by rfl) 27 (.tmp 9) rfl (w.heap.size + 1 + 1) rfl 27 (b.map (Value.int .u8)).toArray (0, 0) _ HR6.out Tryd.underlying27 rfl (infoH b hlb) ?_))
          go_ret
          exact ⟨hfin.out _ (by rw [Hver.out, hl0, Hra.out]; simp [Bool.beq_eq_decide_eq]), HB6.out⟩
        · have heq1 : ∀ W, (binOp .eql 27 (.agg (r1.map (Value.int .u8)).toArray) (.agg (a.map (Value.int .u8)).toArray)).run Tryd.prog W = .ok (.bool false) W := fun W => by rw [eqlH r1 a hr1 hla W, decide_eq_false hra]
          have Hra := Hid2.mk hra
          clear hra
          go_wp2_with (first
            | (refine wpList_store_row rfl 27 (.tmp 12) (.tmp 35) rfl w5.heap.size (r1.map (Value.int .u8)).toArray rfl rfl 27 (Dig.Z32.map (Value.int .u8)).toArray Q1.out (infoH r1 hr1) (sizeH _ _ z32_len hr1) (oneH _) ?_)
            | (refine wpList_store_row rfl 27 (.tmp 13) (.tmp 36) rfl (w5.heap.size + 1) (r2.map (Value.int .u8)).toArray rfl rfl 27 (Dig.Z32.map (Value.int .u8)).toArray Qm.out (infoH r2 hr2) (sizeH _ _ z32_len hr2) (oneH _) ?_
               generalize World.setRow (World.setRow _ _ _) _ _ = w6 at QX QY d0 d1 HA6 HR6 HB6 ⊢)
            | (refine wpList_load_on (by rfl) 27 (.tmp 12) rfl w5.heap.size rfl 27 (r1.map (Value.int .u8)).toArray (0, 0) _ QX.out Tryd.underlying27 rfl (infoH r1 hr1) ?_)
            | (refine wpList_load_on (by rfl) 27 (.tmp 8) rfl (w.heap.size + 1) rfl 27 (a.map (Value.int .u8)).toArray (0, 0) _ HA6.out Tryd.underlying27 rfl (infoH a hla) ?_)
            | (refine wpList_load_on (by rfl) 27 (.tmp 13) rfl (w5.heap.size + 1) rfl 27 (r2.map (Value.int .u8)).toArray (0, 0) _ QY.out Tryd.underlying27 rfl (infoH r2 hr2) ?_)
            | (refine wpList_load_on (by rfl) 27 (.tmp 9) rfl (w.heap.size + 1 + 1) rfl 27 (b.map (Value.int .u8)).toArray (0, 0) _ HR6.out Tryd.underlying27 rfl (infoH b hlb) ?_))
          go_ret
          exact ⟨hfin.out _ (by rw [Hver.out, hl0]; simp [Bool.beq_eq_decide_eq, Hra.out]), HB6.out⟩
      · have g5 : ((l5.length : Int) == 0) = false := beq_eq_false_iff_ne.2 (by omega)
        go_wp2_with (first
          | (refine wpList_store_row rfl 27 (.tmp 12) (.tmp 35) rfl w5.heap.size (r1.map (Value.int .u8)).toArray rfl rfl 27 (Dig.Z32.map (Value.int .u8)).toArray Q1.out (infoH r1 hr1) (sizeH _ _ z32_len hr1) (oneH _) ?_)
            | (refine wpList_store_row rfl 27 (.tmp 13) (.tmp 36) rfl (w5.heap.size + 1) (r2.map (Value.int .u8)).toArray rfl rfl 27 (Dig.Z32.map (Value.int .u8)).toArray Qm.out (infoH r2 hr2) (sizeH _ _ z32_len hr2) (oneH _) ?_
               generalize World.setRow (World.setRow _ _ _) _ _ = w6 at QX QY d0 d1 HA6 HR6 HB6 ⊢))
        go_ret
        exact ⟨hfin.out _ (by rw [Hver.out]; simp [hl0]), HB6.out⟩
  · have hv : vconP old size p a b = false := by unfold vconP; rw [if_neg hg]
    rw [hv]
    obtain ⟨sp, cap, rfl, hc, hc'⟩ := hs.form
    have HB := Hid2.mk (cA_below w a b (.slice sp p.length cap))
    unfold cA at HB
    clear hv hs
    rcases (show old < 1 ∨ (1 ≤ old ∧ size < old) ∨ (1 ≤ old ∧ old ≤ size ∧ 1099511627776 < size) by omega) with h1 | ⟨h1, h2⟩ | ⟨h1, h2, h3⟩
    · clear hg
      go_enter Tryd.func24, Tryd.ntmps24
      go_wp2_with fail
      go_ret
      exact ⟨rfl, HB.out⟩
    · clear hg
      go_enter Tryd.func24, Tryd.ntmps24
      go_wp2_with fail
      go_ret
      exact ⟨rfl, HB.out⟩
    · have h4 : decide ((1099511627776 : Int) < size) = true := decide_eq_true h3
      clear hg h3
      go_enter Tryd.func24, Tryd.ntmps24
      go_wp2_with fail
      go_ret
      exact ⟨rfl, HB.out⟩

end Mk
end Go.Proofs.YtfdgclnjpbkggaaDoor
