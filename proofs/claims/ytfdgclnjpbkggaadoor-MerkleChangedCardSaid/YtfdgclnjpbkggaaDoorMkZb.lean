/- Verify. -/
import Derived.Test.YtfdgclnjpbkggaaDoorMkZa
namespace Go.Proofs.YtfdgclnjpbkggaaDoor
open Go.RowKit Go.Maps
namespace Mk

/-- What Verify answers. -/
def verP (leaf : H) (i size : Int) (p : List H) (root : H) : Bool := if 0 ≤ i ∧ i < size ∧ size ≤ 1099511627776 then verT nodeP z32 leaf i.toNat size.toNat p root else false

theorem HS.tight {w : World} {O : Nat → Prop} {v : Value} {l : List H} (h : HS w O v l) : HS w (fun b => b < w.heap.size) v l := by
  obtain ⟨hok, a1, a2, sp, cap, a3, a4, a5, a6, a7⟩ := h
  refine ⟨hok, a1, a2, sp, cap, a3, a4, a5, a6, fun hn => ?_⟩
  obtain ⟨b, o, e, hb, hO, hr⟩ := a7 hn
  exact ⟨b, o, e, hb, hb, hr⟩

def vA (w : World) (leaf root : H) (v : Value) : World := ((w.alloc (.cells (leaf.map (Value.int .u8)).toArray 27)).alloc (.cells #[v] 40)).alloc (.cells (root.map (Value.int .u8)).toArray 27)
def vB (w : World) (leaf root : H) (v : Value) : World := (vA w leaf root v).alloc (.cells #[v, .bool true] 69)
theorem vA_size (w : World) (leaf root : H) (v : Value) : (vA w leaf root v).heap.size = w.heap.size + 1 + 1 + 1 := by simp [vA]
theorem vA_below (w : World) (leaf root : H) (v : Value) : Below w.heap.size w (vA w leaf root v) := (((Below.refl _ w).alloc (Nat.le_refl _) _).alloc (by simp) _).alloc (by simp; omega) _
theorem vB_below (w : World) (leaf root : H) (v : Value) : Below w.heap.size w (vB w leaf root v) := (vA_below w leaf root v).alloc (by rw [vA_size]; omega) _
theorem vA0 (w : World) (leaf root : H) (v : Value) : VBlk 27 (vA w leaf root v) w.heap.size (leaf.map (Value.int .u8)) := ((VBlk.mk w _ _).alloc _).alloc _
theorem vA1 (w : World) (leaf root : H) (v : Value) : VBlk 40 (vA w leaf root v) (w.heap.size + 1) [v] := by
  have := VBlk.mk (w.alloc (.cells (leaf.map (Value.int .u8)).toArray 27)) [v] 40
  rw [show (w.alloc (.cells (leaf.map (Value.int .u8)).toArray 27)).heap.size = w.heap.size + 1 from by simp] at this
  exact this.alloc _
theorem vA2 (w : World) (leaf root : H) (v : Value) : VBlk 27 (vA w leaf root v) (w.heap.size + 1 + 1) (root.map (Value.int .u8)) := by
  have := VBlk.mk ((w.alloc (.cells (leaf.map (Value.int .u8)).toArray 27)).alloc (.cells #[v] 40)) (root.map (Value.int .u8)) 27
  rw [show ((w.alloc (.cells (leaf.map (Value.int .u8)).toArray 27)).alloc (.cells #[v] 40)).heap.size = w.heap.size + 1 + 1 from by simp] at this
  exact this
theorem vB3 (w : World) (leaf root : H) (v : Value) : VBlk 69 (vB w leaf root v) (w.heap.size + 1 + 1 + 1) [v, .bool true] := by
  have := VBlk.mk (vA w leaf root v) [v, .bool true] 69
  rw [vA_size] at this
  exact this

set_option maxRecDepth 100000 in
set_option maxHeartbeats 4000000 in
theorem verify_any {w : World} {O : Nat → Prop} {v : Value} {p : List H} {leaf root : H} (hs : HS w O v p) (hlen : leaf.length = 32) (hroot : root.length = 32) (i size : Int) :
    Calls Tryd.prog 22 #[.agg (leaf.map (Value.int .u8)).toArray, .int .i64 i, .int .i64 size, .agg #[v], .agg (root.map (Value.int .u8)).toArray] w fun e w' => e = .returned (.bool (verP leaf i size p root)) ∧ Below w.heap.size w w' := by
  have hz := zeroHash
  by_cases hg : 0 ≤ i ∧ i < size ∧ size ≤ 1099511627776
  · obtain ⟨h0, h1, h2⟩ := hg
    have hv : verP leaf i size p root = verT nodeP z32 leaf i.toNat size.toNat p root := by unfold verP; rw [if_pos ⟨h0, h1, h2⟩]
    rw [hv]
    clear hv
    obtain ⟨a, rfl⟩ := Int.eq_ofNat_of_zero_le h0
    obtain ⟨n, rfl⟩ := Int.eq_ofNat_of_zero_le (show 0 ≤ size by omega)
    rw [Int.toNat_natCast, Int.toNat_natCast]
    have g3 : decide ((1099511627776 : Int) < n) = false := decide_eq_false (by omega)
    have hn : n ≤ 1099511627776 := by omega
    have han : a < n := by omega
    clear h2 h0
    obtain ⟨sp, cap, rfl, hc, hc'⟩ := hs.form
    have hs0 := hs.tight
    have c0 := (vA1 w leaf root (.slice sp p.length cap)).cell 0 (by simp)
    simp only [List.getD_cons_zero] at c0
    unfold vA at c0
    have HB := Hid2.mk (vB_below w leaf root (.slice sp p.length cap))
    have HL := Hid2.mk ((vA0 w leaf root (.slice sp p.length cap)).alloc (.cells #[.slice sp p.length cap, .bool true] 69))
    have HR := Hid2.mk ((vA2 w leaf root (.slice sp p.length cap)).alloc (.cells #[.slice sp p.length cap, .bool true] 69))
    have HT := Hid2.mk (show Tk (vB w leaf root (.slice sp p.length cap)) (w.heap.size + 1 + 1 + 1) (fun b => b < w.heap.size) (p, true) from ⟨_, vB3 w leaf root _, hs0.below (vB_below w leaf root _) (Nat.le_refl _), by omega⟩)
    have Hlen := Hid2.mk hlen
    have Hroot := Hid2.mk hroot
    clear hs hs0
    unfold vB vA at HB HL HR HT
    go_enter Tryd.func22, Tryd.ntmps22
    go_wp2_with (first | (refine wpList_load_row rfl 27 (.tmp 5) rfl w.heap.size rfl 27 (leaf.map (Value.int .u8)).toArray (0, 0) _ HL.out Tryd.underlying27 rfl (infoH leaf hlen) ?_))
    generalize World.alloc (World.alloc (World.alloc (World.alloc _ _) _) _) _ = w4 at HB HL HR HT ⊢
    refine (climb_any n hlen (by omega) hn han HT.out).mono ?_
    rintro e w5 ⟨rfl, htk, hk⟩
    have hcl : (climbP leaf a n (p, true)).1.length = 32 := climb_len hlen
    have hver : verT nodeP z32 leaf a n p root = ((climbP leaf a n (p, true)).2.2 && ((climbP leaf a n (p, true)).2.1.length == 0) && ((climbP leaf a n (p, true)).1 == root)) := rfl
    have Hver := Hid2.mk hver
    clear hver
    generalize climbP leaf a n (p, true) = c at Hver hcl htk ⊢
    obtain ⟨r, l5, ok5⟩ := c
    simp only at Hver hcl htk
    obtain ⟨v5, hv5, hs5, -⟩ := htk
    simp only at hv5 hs5
    obtain ⟨sp5, cap5, rfl, hc5, hc5'⟩ := hs5.form
    have HR5 := Hid2.mk (HR.out.keep hk ⟨HR.out.lt, by omega⟩)
    have HB5 := Hid2.mk (HB.out.trans (hk.mono (K' := fun b => b < w.heap.size) (fun b hb => ⟨Nat.lt_of_lt_of_le hb HB.out.size, by have : b < w.heap.size := hb; omega⟩)).below)
    obtain ⟨q1, q2, q3⟩ := alloc_store w5 r
    have Q1 := Hid2.mk q1
    have Q2 := Hid2.mk q2
    have ht6 := hv5.below q3 hv5.lt
    have d0 := ht6.cell 0 (by simp)
    have d1 := ht6.cell 1 (by simp)
    simp only [List.getD_cons_zero, List.getD_cons_succ] at d0 d1
    have HR6 := Hid2.mk (HR5.out.below q3 HR5.out.lt)
    have HB6 := Hid2.mk (HB5.out.trans (q3.mono HB5.out.size))
    have heq := fun W => eqlH r root hcl hroot W
    clear q1 q2 q3 hk ht6 hv5 hs5 HB HL HR HT HR5 HB5 c0
    have hfin : Hid2 (∀ b, verT nodeP z32 leaf a n p root = b → (Ending.returned (Value.bool b)) = .returned (.bool (verT nodeP z32 leaf a n p root))) := Hid2.mk (fun b hb => by rw [hb])
    cases ok5 with
    | false =>
      go_wp2_with (first
        | (refine wpList_store_row rfl 27 (.tmp 12) (.tmp 32) rfl w5.heap.size (r.map (Value.int .u8)).toArray rfl rfl 27 (Dig.Z32.map (Value.int .u8)).toArray Q1.out (infoH r hcl) (sizeH _ _ z32_len hcl) (oneH _) ?_
           generalize World.setRow _ _ _ = w6 at Q2 d0 d1 HR6 HB6 ⊢))
      go_ret
      exact ⟨hfin.out _ (by rw [Hver.out]; rfl), HB6.out⟩
    | true =>
      by_cases hl0 : l5.length = 0
      · have g5 : ((l5.length : Int) == 0) = true := by simp [hl0]
        go_wp2_with (first
          | (refine wpList_store_row rfl 27 (.tmp 12) (.tmp 32) rfl w5.heap.size (r.map (Value.int .u8)).toArray rfl rfl 27 (Dig.Z32.map (Value.int .u8)).toArray Q1.out (infoH r hcl) (sizeH _ _ z32_len hcl) (oneH _) ?_
             generalize World.setRow _ _ _ = w6 at Q2 d0 d1 HR6 HB6 ⊢)
          | (refine wpList_load_on (by rfl) 27 (.tmp 12) rfl w5.heap.size rfl 27 (r.map (Value.int .u8)).toArray (0, 0) _ Q2.out Tryd.underlying27 rfl (infoH r hcl) ?_)
          | (refine wpList_load_on (by rfl) 27 (.tmp 9) rfl (w.heap.size + 1 + 1) rfl 27 (root.map (Value.int .u8)).toArray (0, 0) _ HR6.out Tryd.underlying27 rfl (infoH root hroot) ?_))
        go_ret
        exact ⟨hfin.out _ (by rw [Hver.out, hl0]; simp [Bool.beq_eq_decide_eq]), HB6.out⟩
      · have g5 : ((l5.length : Int) == 0) = false := beq_eq_false_iff_ne.2 (by omega)
        go_wp2_with (first
          | (refine wpList_store_row rfl 27 (.tmp 12) (.tmp 32) rfl w5.heap.size (r.map (Value.int .u8)).toArray rfl rfl 27 (Dig.Z32.map (Value.int .u8)).toArray Q1.out (infoH r hcl) (sizeH _ _ z32_len hcl) (oneH _) ?_
             generalize World.setRow _ _ _ = w6 at Q2 d0 d1 HR6 HB6 ⊢))
        go_ret
        exact ⟨hfin.out _ (by rw [Hver.out]; simp [hl0]), HB6.out⟩
  · have hv : verP leaf i size p root = false := by unfold verP; rw [if_neg hg]
    rw [hv]
    obtain ⟨sp, cap, rfl, hc, hc'⟩ := hs.form
    have HB := Hid2.mk (vA_below w leaf root (.slice sp p.length cap))
    unfold vA at HB
    clear hv hs
    rcases (show i < 0 ∨ (0 ≤ i ∧ size ≤ i) ∨ (0 ≤ i ∧ i < size ∧ 1099511627776 < size) by omega) with h1 | ⟨h1, h2⟩ | ⟨h1, h2, h3⟩
    · clear hg
      go_enter Tryd.func22, Tryd.ntmps22
      go_wp2_with fail
      go_ret
      exact ⟨rfl, HB.out⟩
    · clear hg
      go_enter Tryd.func22, Tryd.ntmps22
      go_wp2_with fail
      go_ret
      exact ⟨rfl, HB.out⟩
    · have h4 : decide ((1099511627776 : Int) < size) = true := decide_eq_true h3
      clear hg h3
      go_enter Tryd.func22, Tryd.ntmps22
      go_wp2_with fail
      go_ret
      exact ⟨rfl, HB.out⟩

end Mk
end Go.Proofs.YtfdgclnjpbkggaaDoor
