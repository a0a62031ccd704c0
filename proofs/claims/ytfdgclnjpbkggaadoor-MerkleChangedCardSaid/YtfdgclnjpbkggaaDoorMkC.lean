/- The tree of digests: Root. -/
import Derived.Test.YtfdgclnjpbkggaaDoorMkB
namespace Go.Proofs.YtfdgclnjpbkggaaDoor
open Go.RowKit Go.Maps
namespace Mk

theorem builtHash : Tryd.prog.built 27 [] = some (Dig.Z32.map (Value.int .u8)).toArray := by kernel_rfl
def z32 : H := Dig.Z32
/-- What Root answers. -/
def rootV (l : List H) (size : Int) : H := if 0 ≤ size ∧ size ≤ l.length then rt (l.take size.toNat) else z32
def rootC (l : List H) (size : Int) : Int := if 0 ≤ size ∧ size ≤ l.length then 0 else 1
theorem rootV_len {l : List H} (h : Okh l) (size : Int) : (rootV l size).length = 32 := by
  unfold rootV
  split
  · exact rt_len (okh_take h _)
  · rfl

theorem new_hash (w : World) : Below w.heap.size w (w.alloc (.cells (Dig.Z32.map (Value.int .u8)).toArray 27)) ∧ VBlk 27 (w.alloc (.cells (Dig.Z32.map (Value.int .u8)).toArray 27)) w.heap.size (Dig.Z32.map (Value.int .u8)) :=
  ⟨(Below.refl _ w).alloc (Nat.le_refl _) _, VBlk.mk w _ _⟩

set_option maxRecDepth 100000 in
set_option maxHeartbeats 1000000 in
theorem rootTop_nil (size : Int) (w : World) : Calls Tryd.prog 11 #[.pointer none, .int .i64 size] w fun e w' => e = .returned (.tuple #[hv z32, .int .i64 1]) ∧ Below w.heap.size w w' := by
  have hz := zeroHash
  obtain ⟨hb, hR⟩ := new_hash w
  have HB := Hid2.mk hb
  have HR := Hid2.mk hR
  clear hb hR
  have hi : (Tryd.prog.info? 27).map (·.size) = some (Dig.Z32.map (Value.int .u8)).toArray.size := by rw [infoHash]; rfl
  go_enter Tryd.func11, Tryd.ntmps11
  go_wp2_with (first | (refine wpList_build_to rfl 27 #[] rfl (Dig.Z32.map (Value.int .u8)).toArray builtHash ?_) | (refine wpList_store_row rfl 27 (.tmp 4) (.tmp 21) rfl w.heap.size (Dig.Z32.map (Value.int .u8)).toArray rfl rfl 27 (Dig.Z32.map (Value.int .u8)).toArray HR.out hi rfl (by simp [Value.oneCell']) ?_))
  refine bodyPost_ret (results_cell_tmp rfl _ _ w.heap.size 27 (Dig.Z32.map (Value.int .u8)).toArray (0, 0) _ _ rfl (setRow_heap _ _ _ _ _ _ HR.out) Tryd.underlying27 rfl hi rfl) rfl ⟨rfl, below_setRow HB.out (Nat.le_refl _) _⟩

set_option maxRecDepth 100000 in
set_option maxHeartbeats 2000000 in
theorem rootTop_any {w : World} {t cnt : Nat} {O : Nat → Prop} {l : List H} (h : IsTree w t O cnt l) (hT : Tab w) (hm : l.length ≤ 1048576) (size : Int) :
    Calls Tryd.prog 11 #[.pointer (some ⟨t, 0, none⟩), .int .i64 size] w fun e w' => e = .returned (.tuple #[hv (rootV l size), .int .i64 (rootC l size)]) ∧ Below w.heap.size w w' := by
  have hz := zeroHash
  obtain ⟨hb, hR⟩ := new_hash w
  have h0 := h.below hb (Nat.le_refl _)
  have hT0 := hT.below hb (Nat.le_refl _)
  have hok := h.ok
  obtain ⟨mb, hc, -⟩ := h0
  have c0 := hc.cell 0 (by simp)
  simp only [List.getD_cons_zero] at c0
  have H0 := Hid2.mk (h.below hb (Nat.le_refl _))
  have HT0 := Hid2.mk hT0
  have HB := Hid2.mk hb
  have HR := Hid2.mk hR
  clear hb hR hT0 hT h hc
  have hi : (Tryd.prog.info? 27).map (·.size) = some (Dig.Z32.map (Value.int .u8)).toArray.size := by rw [infoHash]; rfl
  by_cases h1 : size < 0
  · have e1 : rootV l size = z32 := by unfold rootV; rw [if_neg (by omega)]
    have e2 : rootC l size = 1 := by unfold rootC; rw [if_neg (by omega)]
    rw [e1, e2]
    clear e1 e2
    go_enter Tryd.func11, Tryd.ntmps11
    go_wp2_with (first | (refine wpList_build_to rfl 27 #[] rfl (Dig.Z32.map (Value.int .u8)).toArray builtHash ?_) | (refine wpList_store_row rfl 27 (.tmp 4) (.tmp 21) rfl w.heap.size (Dig.Z32.map (Value.int .u8)).toArray rfl rfl 27 (Dig.Z32.map (Value.int .u8)).toArray HR.out hi rfl (by simp [Value.oneCell']) ?_))
    refine bodyPost_ret (results_cell_tmp rfl _ _ w.heap.size 27 (Dig.Z32.map (Value.int .u8)).toArray (0, 0) _ _ rfl (setRow_heap _ _ _ _ _ _ HR.out) Tryd.underlying27 rfl hi rfl) rfl ⟨rfl, below_setRow HB.out (Nat.le_refl _) _⟩
  · by_cases h2 : (l.length : Int) < size
    · have e1 : rootV l size = z32 := by unfold rootV; rw [if_neg (by omega)]
      have e2 : rootC l size = 1 := by unfold rootC; rw [if_neg (by omega)]
      rw [e1, e2]
      clear e1 e2
      go_enter Tryd.func11, Tryd.ntmps11
      go_wp2_with (first | (refine wpList_build_to rfl 27 #[] rfl (Dig.Z32.map (Value.int .u8)).toArray builtHash ?_) | (refine wpList_store_row rfl 27 (.tmp 4) (.tmp 21) rfl w.heap.size (Dig.Z32.map (Value.int .u8)).toArray rfl rfl 27 (Dig.Z32.map (Value.int .u8)).toArray HR.out hi rfl (by simp [Value.oneCell']) ?_))
      refine bodyPost_ret (results_cell_tmp rfl _ _ w.heap.size 27 (Dig.Z32.map (Value.int .u8)).toArray (0, 0) _ _ rfl (setRow_heap _ _ _ _ _ _ HR.out) Tryd.underlying27 rfl hi rfl) rfl ⟨rfl, below_setRow HB.out (Nat.le_refl _) _⟩
    · obtain ⟨n, rfl⟩ : ∃ n : Nat, size = n := ⟨size.toNat, by omega⟩
      have e1 : rootV l (n : Int) = rt (l.take n) := by unfold rootV; rw [if_pos (by omega)]; rfl
      have e2 : rootC l (n : Int) = 0 := by unfold rootC; rw [if_pos (by omega)]
      rw [e1, e2]
      have h3 : (n : Int) ≤ l.length := by omega
      have h4 : (0 : Int) ≤ n := by omega
      clear e1 e2 h1 h2
      by_cases hn : n = 0
      · subst hn
        go_enter Tryd.func11, Tryd.ntmps11
        go_wp2_with fail
        generalize World.alloc _ _ = w1 at HR HB ⊢
        refine (Dig.progSum_s _ [] _ (Sl.nil _ _) (by simp)).mono ?_
        rintro e w2 ⟨rfl, hb2⟩
        have HB2 := Hid2.mk (HB.out.trans (hb2.mono HB.out.size))
        have HR2 := Hid2.mk (HR.out.below hb2 HR.out.lt)
        have hlen := Dig.sumL_length []
        have hrr : rt (l.take 0) = Dig.sumL [] := by unfold rt; rw [List.take_zero, root_nil]; rfl
        have Hrr := Hid2.mk hrr
        clear hb2 hrr HB HR
        generalize Dig.sumL [] = rr at hlen Hrr ⊢
        have hi2 : (Tryd.prog.info? 27).map (·.size) = some (rr.map (Value.int .u8)).toArray.size := by rw [infoHash]; simp [hlen]
        have hone : (rr.map (Value.int .u8)).toArray.all (·.oneCell') = true := by simp [Value.oneCell']
        go_wp2_with (refine wpList_store_row rfl 27 (.tmp 4) (.tmp 25) rfl w.heap.size (rr.map (Value.int .u8)).toArray rfl rfl 27 (Dig.Z32.map (Value.int .u8)).toArray HR2.out hi2 (by simp [hlen, Dig.Z32]) hone ?_)
        refine bodyPost_ret (results_cell_tmp rfl _ _ w.heap.size 27 (rr.map (Value.int .u8)).toArray (0, 0) _ _ rfl (setRow_heap _ _ _ _ _ _ HR2.out) Tryd.underlying27 rfl hi2 rfl) rfl ⟨by rw [Hrr.out]; rfl, below_setRow HB2.out (Nat.le_refl _) _⟩
      · have hn2 : ((n : Int) == 0) = false := by simp; omega
        go_enter Tryd.func11, Tryd.ntmps11
        go_wp2_with fail
        generalize World.alloc _ _ = w1 at H0 HT0 HR HB ⊢
        refine (root_any n (f := 0) H0.out HT0.out (by omega) (by omega) (al_zero n) hm).mono ?_
        rintro e w2 ⟨rfl, hb2⟩
        have HB2 := Hid2.mk (HB.out.trans (hb2.mono HB.out.size))
        have HR2 := Hid2.mk (HR.out.below hb2 HR.out.lt)
        have hlen := rt_len (okh_seg hok 0 n)
        have hrr : rt (l.take n) = rt (seg l 0 n) := by unfold seg; rw [List.drop_zero]
        have Hrr := Hid2.mk hrr
        clear hb2 hrr HB HR H0 HT0 c0
        generalize rt (seg l 0 n) = rr at hlen Hrr ⊢
        have hi2 : (Tryd.prog.info? 27).map (·.size) = some (rr.map (Value.int .u8)).toArray.size := by rw [infoHash]; simp [hlen]
        have hone : (rr.map (Value.int .u8)).toArray.all (·.oneCell') = true := by simp [Value.oneCell']
        go_wp2_with (refine wpList_store_row rfl 27 (.tmp 4) (.tmp 28) rfl w.heap.size (rr.map (Value.int .u8)).toArray rfl rfl 27 (Dig.Z32.map (Value.int .u8)).toArray HR2.out hi2 (by simp [hlen, Dig.Z32]) hone ?_)
        refine bodyPost_ret (results_cell_tmp rfl _ _ w.heap.size 27 (rr.map (Value.int .u8)).toArray (0, 0) _ _ rfl (setRow_heap _ _ _ _ _ _ HR2.out) Tryd.underlying27 rfl hi2 rfl) rfl ⟨by rw [Hrr.out]; rfl, below_setRow HB2.out (Nat.le_refl _) _⟩

end Mk
end Go.Proofs.YtfdgclnjpbkggaaDoor
