/- A taker makes both roots. -/
import Derived.Test.YtfdgclnjpbkggaaDoorMkZb
namespace Go.Proofs.YtfdgclnjpbkggaaDoor
open Go.RowKit Go.Maps

/-- Two results, each in a block. -/
theorem results_cells {P : Program} {fn : Func} {p q : Tmp} {ty : TypeId} (h : fn.results = #[.cell p ty, .cell q ty]) (tmps : Array Value) (w : World) (g1 g2 : Nat) (t : TypeId) (cs1 cs2 : Array Value) (fr : Nat × Nat) (d : TypeDesc)
    (hp : tmps.getD p undef = .pointer (some ⟨g1, 0, none⟩)) (hq : tmps.getD q undef = .pointer (some ⟨g2, 0, none⟩)) (hg1 : w.heap[g1]? = some (.cells cs1 t fr)) (hg2 : w.heap[g2]? = some (.cells cs2 t fr))
    (hu : P.underlying ty = some d) (hd : (match d with | .struct _ | .array _ _ => true | _ => false) = true) (hi1 : (P.info? ty).map (·.size) = some cs1.size) (hi2 : (P.info? ty).map (·.size) = some cs2.size) :
    (results fn tmps).run P w = .ok (.tuple #[.agg cs1, .agg cs2]) w := by
  have hp' : tmps[p]?.getD undef = .pointer (some ⟨g1, 0, none⟩) := by simpa using hp
  have hq' : tmps[q]?.getD undef = .pointer (some ⟨g2, 0, none⟩) := by simpa using hq
  have r1 := run_loadVar_row w g1 t ty cs1 fr d hg1 hu hd hi1
  have r2 := run_loadVar_row w g2 t ty cs2 fr d hg2 hu hd hi2
  simp [results, h, hp', hq', asAddr]
  rw [r1]
  simp
  rw [r2]
  simp
/-- Two results, each in a block, and one in a slot. -/
theorem results_cells_tmp {P : Program} {fn : Func} {p q s : Tmp} {ty : TypeId} (h : fn.results = #[.cell p ty, .cell q ty, .tmp s]) (tmps : Array Value) (w : World) (g1 g2 : Nat) (t : TypeId) (cs1 cs2 : Array Value) (fr : Nat × Nat) (d : TypeDesc) (x : Value)
    (hp : tmps.getD p undef = .pointer (some ⟨g1, 0, none⟩)) (hq : tmps.getD q undef = .pointer (some ⟨g2, 0, none⟩)) (hg1 : w.heap[g1]? = some (.cells cs1 t fr)) (hg2 : w.heap[g2]? = some (.cells cs2 t fr))
    (hu : P.underlying ty = some d) (hd : (match d with | .struct _ | .array _ _ => true | _ => false) = true) (hi1 : (P.info? ty).map (·.size) = some cs1.size) (hi2 : (P.info? ty).map (·.size) = some cs2.size)
    (hs : tmps.getD s undef = x) :
    (results fn tmps).run P w = .ok (.tuple #[.agg cs1, .agg cs2, x]) w := by
  have hp' : tmps[p]?.getD undef = .pointer (some ⟨g1, 0, none⟩) := by simpa using hp
  have hq' : tmps[q]?.getD undef = .pointer (some ⟨g2, 0, none⟩) := by simpa using hq
  have hs' : tmps[s]?.getD undef = x := by simpa using hs
  have r1 := run_loadVar_row w g1 t ty cs1 fr d hg1 hu hd hi1
  have r2 := run_loadVar_row w g2 t ty cs2 fr d hg2 hu hd hi2
  simp [results, h, hp', hq', hs', asAddr]
  rw [r1]
  simp
  rw [r2]
  simp

namespace Mk

def bothP (m n : Nat) (whole : Bool) (a : H) (s : Tkr) : (H × H) × Tkr := both nodeP z32 m n whole a s
theorem both_all (n : Nat) (a : H) (s : Tkr) : bothP n n true a s = ((a, a), s) := by unfold bothP; rw [both, if_pos rfl, if_pos rfl]
theorem both_next (n : Nat) (a : H) (s : Tkr) : bothP n n false a s = (((nextP s).1, (nextP s).1), (nextP s).2) := by unfold bothP nextP; rw [both, if_pos rfl, if_neg (by decide)]
theorem both_left {m n : Nat} {whole : Bool} {a : H} {s : Tkr} (hne : ¬ m = n) (h2 : 2 ≤ n) (hm : m ≤ half n) :
    bothP m n whole a s = (((bothP m (half n) whole a s).1.1, nodeP (bothP m (half n) whole a s).1.2 (nextP (bothP m (half n) whole a s).2).1), (nextP (bothP m (half n) whole a s).2).2) := by
  unfold bothP nextP; rw [both, if_neg hne, dif_pos h2, if_pos hm]
theorem both_right {m n : Nat} {whole : Bool} {a : H} {s : Tkr} (hne : ¬ m = n) (h2 : 2 ≤ n) (hm : ¬ m ≤ half n) :
    bothP m n whole a s = ((nodeP (nextP (bothP (m - half n) (n - half n) false a s).2).1 (bothP (m - half n) (n - half n) false a s).1.1, nodeP (nextP (bothP (m - half n) (n - half n) false a s).2).1 (bothP (m - half n) (n - half n) false a s).1.2), (nextP (bothP (m - half n) (n - half n) false a s).2).2) := by
  unfold bothP nextP; rw [both, if_neg hne, dif_pos h2, if_neg hm]

/-- What both promises. -/
def Tk2Post (w : World) (g : Nat) (O : Nat → Prop) (c : (H × H) × Tkr) (e : Ending) (w' : World) : Prop :=
  e = .returned (.tuple #[.agg (c.1.1.map (Value.int .u8)).toArray, .agg (c.1.2.map (Value.int .u8)).toArray]) ∧ c.1.1.length = 32 ∧ c.1.2.length = 32 ∧ Tk w' g O c.2 ∧ Keep (fun b => b < w.heap.size ∧ b ≠ g) w w'

/-- Three blocks. -/
def tN (w : World) (l : H) : World := ((w.alloc (.cells (l.map (Value.int .u8)).toArray 27)).alloc (.cells (Dig.Z32.map (Value.int .u8)).toArray 27)).alloc (.cells (Dig.Z32.map (Value.int .u8)).toArray 27)
theorem three_new (w : World) (l : H) :
    Below w.heap.size w (tN w l) ∧ VBlk 27 (tN w l) w.heap.size (l.map (Value.int .u8)) ∧ VBlk 27 (tN w l) (w.heap.size + 1) (Dig.Z32.map (Value.int .u8)) ∧ VBlk 27 (tN w l) (w.heap.size + 1 + 1) (Dig.Z32.map (Value.int .u8)) := by
  obtain ⟨h1, h2, h3⟩ := two_new w l
  refine ⟨h1.alloc (by simp; omega) _, h2.alloc _, h3.alloc _, ?_⟩
  have := VBlk.mk ((w.alloc (.cells (l.map (Value.int .u8)).toArray 27)).alloc (.cells (Dig.Z32.map (Value.int .u8)).toArray 27)) (Dig.Z32.map (Value.int .u8)) 27
  rw [show ((w.alloc (.cells (l.map (Value.int .u8)).toArray 27)).alloc (.cells (Dig.Z32.map (Value.int .u8)).toArray 27)).heap.size = w.heap.size + 1 + 1 from by simp] at this
  exact this

set_option maxRecDepth 100000 in
set_option maxHeartbeats 4000000 in
theorem both_whole (n : Nat) {w : World} {g : Nat} {O : Nat → Prop} {a : H} {s : Tkr} (hOlt : ∀ b, O b → b < w.heap.size) (hlen : a.length = 32) (h : Tk w g O s) :
    Calls Tryd.prog 38 #[.pointer (some ⟨g, 0, none⟩), .int .i64 (n : Nat), .int .i64 (n : Nat), .bool true, .agg (a.map (Value.int .u8)).toArray] w (Tk2Post w g O (bothP n n true a s)) := by
  have hz := zeroHash
  have hlt := h.lt
  obtain ⟨hb, hA, hX, hY⟩ := three_new w a
  have H1 := Hid2.mk (h.below hb (Nat.le_refl _))
  have HA := Hid2.mk hA
  have HX := Hid2.mk hX
  have HY := Hid2.mk hY
  have HK := Hid2.mk ((Keep.of_below hb).mono (K' := fun b => b < w.heap.size ∧ b ≠ g) (fun b hb => hb.1))
  have HOlt := Hid2.mk hOlt
  unfold tN at H1 HA HX HY HK
  clear hb hA hX hY h hOlt
  rw [both_all]
  go_enter Tryd.func38, Tryd.ntmps38
  go_wp2_with fail
  generalize World.alloc (World.alloc (World.alloc _ _) _) _ = w1 at H1 HA HX HY HK ⊢
  have hS : VBlk 27 w1.drew w.heap.size (a.map (Value.int .u8)) := HA.out.drewN 1
  have hd1 : Below w1.heap.size w1 w1.drew := belowN (Below.refl w1.heap.size w1) 1
  refine wp_region_till 3 (fun W => VBlk 27 W w.heap.size (a.map (Value.int .u8))) (by kernel_rfl) ?_
  refine till_read (i := 0) (v := .agg (a.map (Value.int .u8)).toArray) [2, 3] rfl (by kernel_rfl) (by kernel_rfl) (by kernel_rfl) (by kernel_rfl) (by kernel_rfl) (fun _ _ _ h => h) (by rfl) (fun W hW => exec_load_blk 27 (.tmp 9) rfl w.heap.size rfl _ _ (range_vblk hW) Tryd.underlying27 rfl (infoL a hlen)) hS ?_
  refine till_read (i := 1) (v := .agg (a.map (Value.int .u8)).toArray) [3] rfl (by kernel_rfl) (by kernel_rfl) (by kernel_rfl) (by kernel_rfl) (by kernel_rfl) (fun _ _ _ h => h) (by rfl) (fun W hW => exec_load_blk 27 (.tmp 9) rfl w.heap.size rfl _ _ (range_vblk hW) Tryd.underlying27 rfl (infoL a hlen)) hS ?_
  have HX1 := HX.out.drewN 1
  refine till_one (i := 2) (by kernel_rfl) rfl ?_; intro K hK
  refine Dig.step_store_row rfl 27 (.tmp 10) (.tmp 21) rfl (w.heap.size + 1) (a.map (Value.int .u8)).toArray rfl rfl 27 (Dig.Z32.map (Value.int .u8)).toArray HX1 (infoH a hlen) (sizeH _ _ z32_len hlen) (oneH _) ?_
  refine hK _ _ (.inr (hS.setRow_other _ (by omega))) ?_
  clear hK K
  have HY2 := (HY.out.drewN 1).setRow_other (g := w.heap.size + 1) (a.map (Value.int .u8)).toArray (by omega)
  refine till_one (i := 3) (by kernel_rfl) rfl ?_; intro K hK
  refine Dig.step_store_row rfl 27 (.tmp 11) (.tmp 22) rfl (w.heap.size + 1 + 1) (a.map (Value.int .u8)).toArray rfl rfl 27 (Dig.Z32.map (Value.int .u8)).toArray HY2 (infoH a hlen) (sizeH _ _ z32_len hlen) (oneH _) ?_
  refine hK _ _ (.inl rfl) ?_
  clear hK K
  refine till_done (by kernel_rfl) ?_ _
  have HXf := ((HX.out.drewN 1).setRow (a.map (Value.int .u8))).setRow_other (g := w.heap.size + 1 + 1) (a.map (Value.int .u8)).toArray (by omega)
  have HYf := HY2.setRow (a.map (Value.int .u8))
  have hk1 := (keep_setRow (World.drewN w1 1) (w.heap.size + 1) (a.map (Value.int .u8)).toArray).mono (K' := fun b => b < w.heap.size + 1) (fun b hb => by show b ≠ _; omega)
  have hk2 := hk1.trans ((keep_setRow _ (w.heap.size + 1 + 1) (a.map (Value.int .u8)).toArray).mono (K' := fun b => b < w.heap.size + 1) (fun b hb => by show b ≠ _; omega))
  have Hfin := Hid2.mk (H1.out.below hd1 (Nat.le_refl _) |>.keep hk2 (by omega) (fun b hb _ => by have := HOlt.out b hb; omega))
  have HKf := Hid2.mk ((HK.out.trans ((Keep.of_below hd1).mono (fun b hb => Nat.lt_of_lt_of_le hb.1 HK.out.size))).trans (hk2.mono (fun b hb => by have := hb.1; omega)))
  go_wp2_with fail
  refine bodyPost_ret (results_cells rfl _ _ (w.heap.size + 1) (w.heap.size + 1 + 1) 27 (a.map (Value.int .u8)).toArray (a.map (Value.int .u8)).toArray (0, 0) _ rfl rfl HXf HYf Tryd.underlying27 rfl (infoH a hlen) (infoH a hlen)) rfl ?_
  unfold Tk2Post
  exact ⟨rfl, hlen, hlen, Hfin.out, HKf.out⟩

end Mk
end Go.Proofs.YtfdgclnjpbkggaaDoor
