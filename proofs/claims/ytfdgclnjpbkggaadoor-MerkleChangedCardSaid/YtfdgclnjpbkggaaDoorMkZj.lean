/- The reference's both: what it promises; its ends (printed by gen_refboth.py). -/
import Derived.Test.YtfdgclnjpbkggaaDoorMkZf
namespace Go.Proofs.YtfdgclnjpbkggaaDoor
open Go.RowKit Go.Maps
section
variable {P : Program} {ops : Array Oper} {Q : Exit → Act → World → Prop} {md : Region.Mode} {S : World → Prop} {n : Nat}
/-- A store of a whole block, the only one that may come up. -/
theorem till_store {i : Nat} {oi : Oper} {fuel : Nat} {listed : Array Bool} {a : Act} {w : World} (hr : Region.ready md ops listed = [i]) (hi : ops[i]? = some oi) (hgd : oi.guard = none) (ty : TypeId) (x y : Operand) (ho : oi.op = .store ty x y)
    (g : Nat) (cells : Array Value) (hx : a.eval x = .pointer (some ⟨g, 0, none⟩)) (hy : a.eval y = .agg cells)
    (t : TypeId) (old : Array Value) (hg : w.heap[g]? = some (.cells old t (0, 0))) (hinf : (P.info? ty).map (·.size) = some cells.size)
    (hold : old.size = cells.size) (h1 : cells.all (·.oneCell') = true) (hS : (listed.setIfInBounds i true).getD n false = true ∨ S (w.setRow g cells))
    (h : wpTill P md ops Q S n fuel (listed.setIfInBounds i true) (a.put oi.dst undef) (w.setRow g cells)) : wpTill P md ops Q S n (fuel + 1) listed a w :=
  till_one hr hi (fun _ hK => Dig.step_store_row hgd ty x y ho g cells hx hy t old hg hinf hold h1 (hK _ _ hS h))
/-- A call, the only one that may come up. -/
theorem till_call {i : Nat} {oi : Oper} {fuel : Nat} {listed : Array Bool} {a : Act} {w : World} {f : FuncId} {args : Array Value} (hr : Region.ready md ops listed = [i]) (hi : ops[i]? = some oi) (hw : Region.wanted oi (yielded ops a.tmps) = true)
    (he : (execOp a.eval oi).run P w = .ok (.enter f args) w)
    (hc : Calls P f args w fun e w' => ∃ v, e = .returned v ∧ ((listed.setIfInBounds i true).getD n false = true ∨ S w') ∧ wpTill P md ops Q S n fuel (listed.setIfInBounds i true) (a.put oi.dst v) w') : wpTill P md ops Q S n (fuel + 1) listed a w :=
  till_one hr hi (fun K hK => by
    rw [if_pos hw]
    unfold Oper.wp
    rw [he, Oper.upon_enter]
    exact hc.mono (fun e w' ⟨v, hv, h1, h2⟩ => by subst hv; exact hK _ _ h1 h2))
end

namespace Mk

def upsP (m n : Nat) (whole : Bool) (p : List H) (a : H) : (H × H) × Bool := ups nodeP z32 m n whole p a
theorem ups_all (n : Nat) (p : List H) (a : H) : upsP n n true p a = ((a, a), p.length == 0) := by unfold upsP; rw [ups, if_pos rfl, if_pos rfl]
theorem ups_not1 {n : Nat} {p : List H} {a : H} (h : p.length ≠ 1) : upsP n n false p a = ((Dig.Z32, Dig.Z32), false) := by unfold upsP; rw [ups, if_pos rfl, if_neg (by decide), if_pos h]; rfl
theorem ups_is1 (n : Nat) (x a : H) : upsP n n false [x] a = ((x, x), true) := by unfold upsP; rw [ups, if_pos rfl, if_neg (by decide), if_neg (by simp)]; rfl
theorem ups_nil {m n : Nat} {whole : Bool} {a : H} (hne : ¬ m = n) (h2 : 2 ≤ n) : upsP m n whole [] a = ((Dig.Z32, Dig.Z32), false) := by unfold upsP; rw [ups, if_neg hne, dif_pos h2, if_pos rfl]; rfl
theorem ups_left {m n : Nat} {whole : Bool} {a x : H} {q : List H} (hne : ¬ m = n) (h2 : 2 ≤ n) (hm : m ≤ half n) :
    upsP m n whole (q ++ [x]) a = (((upsP m (half n) whole q a).1.1, nodeP (upsP m (half n) whole q a).1.2 x), (upsP m (half n) whole q a).2) := by
  unfold upsP; rw [ups, if_neg hne, dif_pos h2, if_neg (by simp), if_pos hm, List.dropLast_concat, last_app]
theorem ups_right {m n : Nat} {whole : Bool} {a x : H} {q : List H} (hne : ¬ m = n) (h2 : 2 ≤ n) (hm : ¬ m ≤ half n) :
    upsP m n whole (q ++ [x]) a = ((nodeP x (upsP (m - half n) (n - half n) false q a).1.1, nodeP x (upsP (m - half n) (n - half n) false q a).1.2), (upsP (m - half n) (n - half n) false q a).2) := by
  unfold upsP; rw [ups, if_neg hne, dif_pos h2, if_neg (by simp), if_neg hm, List.dropLast_concat, last_app]

theorem range_setRow {w : World} {b o g : Nat} {cs : List Value} (h : w.rangeAt b o cs) (vs : Array Value) (hb : b ≠ g) : (w.setRow g vs).rangeAt b o cs := fun j u hu => by
  rw [(keep_setRow w g vs).cell (p := ⟨b, o + j, none⟩) hb]; exact h j u hu
theorem exec_load_mid {P : Program} {o : Oper} {a : Act} {w : World} (ty : TypeId) (x : Operand) (ho : o.op = .load ty x)
    (b off : Nat) (hx : a.eval x = .pointer (some ⟨b, off, none⟩)) (cs : List Value) (d : TypeDesc) (hc : w.rangeAt b off cs)
    (hu : P.underlying ty = some d) (hd : d.isRow = true) (hi : (P.info? ty).map (·.size) = some cs.length) : (execOp a.eval o).run P w = .ok (.value (.agg cs.toArray)) w := by
  unfold execOp
  simp only [ho, hx, Instr.loadAt, Instr.sureAddr, Sem.run_bind, Sem.run_pure, Result.andThen_ok, run_loadVar_mid w b off ty cs d hc hu hd hi]

/-- What both promises. -/
def U2Post (w : World) (c : (H × H) × Bool) (e : Ending) (w' : World) : Prop :=
  e = .returned (.tuple #[.agg (c.1.1.map (Value.int .u8)).toArray, .agg (c.1.2.map (Value.int .u8)).toArray, .bool c.2]) ∧ c.1.1.length = 32 ∧ c.1.2.length = 32 ∧ Below w.heap.size w w'
/-- Both, of sizes below one. -/
def UpsIH (n : Nat) : Prop := ∀ k, k < n → ∀ {w : World} {O : Nat → Prop} {v : Value} {p : List H} {m : Nat} {whole : Bool} {a : H}, a.length = 32 → 1 ≤ m → m ≤ k → k ≤ 1099511627776 → HS w O v p → Calls Tryd.prog 39 #[.int .i64 (m : Nat), .int .i64 (k : Nat), .bool whole, v, .agg (a.map (Value.int .u8)).toArray] w (U2Post w (upsP m k whole p a))

set_option maxRecDepth 100000 in
set_option maxHeartbeats 8000000 in
theorem refBoth_all {n : Nat} {w : World} {O : Nat → Prop} {v : Value} {p : List H} {a : H} (hlen : a.length = 32) (hs : HS w O v p) :
    Calls Tryd.prog 39 #[.int .i64 (n : Nat), .int .i64 (n : Nat), .bool true, v, .agg (a.map (Value.int .u8)).toArray] w (U2Post w (upsP n n true p a)) := by
  have hz := zeroHash
  obtain ⟨hb, hA, hX, hY⟩ := three_new w a
  have HA := Hid2.mk hA
  have HX := Hid2.mk hX
  have HY := Hid2.mk hY
  have HB := Hid2.mk hb
  obtain ⟨sp, cap, rfl, hc, hc'⟩ := hs.form
  rw [ups_all]
  have e0 : ((p.length : Int) == 0) = (p.length == 0) := by rw [Bool.eq_iff_iff, beq_iff_eq, beq_iff_eq]; omega
  have E0 := Hid2.mk e0
  unfold tN at HA HX HY HB
  clear hb hA hX hY hs e0
  go_enter Tryd.func39, Tryd.ntmps39
  go_wp2_with fail
  generalize World.alloc (World.alloc (World.alloc _ _) _) _ = w1 at HA HX HY HB ⊢
  refine wp_region_till 6 (fun W => VBlk 27 W w.heap.size (a.map (Value.int .u8))) (by kernel_rfl) ?_
  have hS : VBlk 27 w1.drew w.heap.size (a.map (Value.int .u8)) := HA.out.drewN 1
  have HX1 : VBlk 27 w1.drew (w.heap.size + 1) (Dig.Z32.map (Value.int .u8)) := HX.out.drewN 1
  have HY1 : VBlk 27 w1.drew (w.heap.size + 1 + 1) (Dig.Z32.map (Value.int .u8)) := HY.out.drewN 1
  have HB1 := HB.out.trans ((belowN (Below.refl w1.heap.size w1) 1).mono HB.out.size)
  refine till_read (i := 0) (v := .agg (a.map (Value.int .u8)).toArray) [5, 6] rfl (by kernel_rfl) (by kernel_rfl) (by kernel_rfl) (by kernel_rfl) (by kernel_rfl) (fun _ _ _ h => h) (by rfl) (fun W hW => exec_load_blk 27 (.tmp 9) rfl w.heap.size rfl _ _ (range_vblk hW) Tryd.underlying27 rfl (infoL a hlen)) hS ?_
  refine till_read (i := 1) (v := .agg (a.map (Value.int .u8)).toArray) [6] rfl (by kernel_rfl) (by kernel_rfl) (by kernel_rfl) (by kernel_rfl) (by kernel_rfl) (fun _ _ _ h => h) (by rfl) (fun W hW => exec_load_blk 27 (.tmp 9) rfl w.heap.size rfl _ _ (range_vblk hW) Tryd.underlying27 rfl (infoL a hlen)) hS ?_
  refine till_free (i := 2) rfl (by kernel_rfl) (by kernel_rfl) (by kernel_rfl) rfl (fun _ _ _ h => h) (.inr hS) (by rfl) (fun _ => by first | (go_simp; done) | (go_simp; with_reducible rfl)) ?_
  refine till_free (i := 3) rfl (by kernel_rfl) (by kernel_rfl) (by kernel_rfl) rfl (fun _ _ _ h => h) (.inr hS) (by rfl) (fun _ => by first | (go_simp; done) | (go_simp; with_reducible rfl)) ?_
  refine till_free (i := 4) rfl (by kernel_rfl) (by kernel_rfl) (by kernel_rfl) rfl (fun _ _ _ h => h) (.inr hS) (by rfl) (fun _ => by first | (go_simp; done) | (go_simp; with_reducible rfl)) ?_
  try conv => { arg 9; simp [go_sem] }
  refine till_store (i := 5) (by kernel_rfl) rfl rfl 27 (.tmp 10) (.tmp 26) rfl (w.heap.size + 1) (a.map (Value.int .u8)).toArray (by go_simp) (by go_simp) 27 (Dig.Z32.map (Value.int .u8)).toArray HX1 (infoH a hlen) (sizeH _ _ z32_len hlen) (oneH _) (.inr (hS.setRow_other _ (by omega))) ?_
  have HYn := HY1.setRow_other (g := w.heap.size + 1) (a.map (Value.int .u8)).toArray (by omega)
  try conv => { arg 9; simp [go_sem] }
  refine till_store (i := 6) (by kernel_rfl) rfl rfl 27 (.tmp 11) (.tmp 27) rfl (w.heap.size + 1 + 1) (a.map (Value.int .u8)).toArray (by go_simp) (by go_simp) 27 (Dig.Z32.map (Value.int .u8)).toArray HYn (infoH a hlen) (sizeH _ _ z32_len hlen) (oneH _) (.inl rfl) ?_
  refine till_free (i := 7) rfl (by kernel_rfl) (by kernel_rfl) (by kernel_rfl) rfl (fun _ _ _ h => h) (.inl rfl) (by rfl) (fun _ => by first | (go_simp; done) | (go_simp; with_reducible rfl)) ?_
  refine till_done (by kernel_rfl) ?_ _
  have HXf := (HX1.setRow (a.map (Value.int .u8))).setRow_other (g := w.heap.size + 1 + 1) (a.map (Value.int .u8)).toArray (by omega)
  have HYf := HYn.setRow (a.map (Value.int .u8))
  have HBf := Hid2.mk (below_setRow (below_setRow HB1 (show w.heap.size ≤ w.heap.size + 1 by omega) (a.map (Value.int .u8)).toArray) (show w.heap.size ≤ w.heap.size + 1 + 1 by omega) (a.map (Value.int .u8)).toArray)
  clear HX1 HYn HB1 HY1
  go_wp2_with fail
  refine bodyPost_ret (results_cells_tmp rfl _ _ (w.heap.size + 1) (w.heap.size + 1 + 1) 27 (a.map (Value.int .u8)).toArray (a.map (Value.int .u8)).toArray (0, 0) _ (.bool ((p.length : Int) == 0)) rfl rfl HXf HYf Tryd.underlying27 rfl (infoH a hlen) (infoH a hlen) rfl) rfl ?_
  unfold U2Post
  rw [E0.out]
  exact ⟨rfl, hlen, hlen, HBf.out⟩

set_option maxRecDepth 100000 in
set_option maxHeartbeats 8000000 in
theorem refBoth_not1 {n : Nat} {w : World} {O : Nat → Prop} {v : Value} {p : List H} {a : H} (hs : HS w O v p) (hp : p.length ≠ 1) :
    Calls Tryd.prog 39 #[.int .i64 (n : Nat), .int .i64 (n : Nat), .bool false, v, .agg (a.map (Value.int .u8)).toArray] w (U2Post w (upsP n n false p a)) := by
  have hz := zeroHash
  obtain ⟨hb, hA, hX, hY⟩ := three_new w a
  have HA := Hid2.mk hA
  have HX := Hid2.mk hX
  have HY := Hid2.mk hY
  have HB := Hid2.mk hb
  have Hp := Hid2.mk (ups_not1 (n := n) (a := a) hp)
  obtain ⟨sp, cap, rfl, hc, hc'⟩ := hs.form
  have g1 : ((p.length : Int) != 1) = true := by simp; omega
  clear hp
  have hYn := hY.setRow_other (g := w.heap.size + 1) (Dig.Z32.map (Value.int .u8)).toArray (by omega)
  have HXf := (hX.setRow (Dig.Z32.map (Value.int .u8))).setRow_other (g := w.heap.size + 1 + 1) (Dig.Z32.map (Value.int .u8)).toArray (by omega)
  have HYf := hYn.setRow (Dig.Z32.map (Value.int .u8))
  have HBf := Hid2.mk (below_setRow (below_setRow hb (show w.heap.size ≤ w.heap.size + 1 by omega) (Dig.Z32.map (Value.int .u8)).toArray) (show w.heap.size ≤ w.heap.size + 1 + 1 by omega) (Dig.Z32.map (Value.int .u8)).toArray)
  have HYn := Hid2.mk hYn
  have HXF := Hid2.mk HXf
  have HYF := Hid2.mk HYf
  unfold tN at HA HX HY HB HYn HXF HYF HBf
  clear hb hA hX hY hs hYn HXf HYf
  go_enter Tryd.func39, Tryd.ntmps39
  go_wp2_with (first
    | (refine wpList_build_to rfl 27 #[] rfl (Dig.Z32.map (Value.int .u8)).toArray builtHash ?_)
    | (refine wpList_store_row rfl 27 (.tmp 10) (.tmp 34) rfl (w.heap.size + 1) (Dig.Z32.map (Value.int .u8)).toArray rfl rfl 27 (Dig.Z32.map (Value.int .u8)).toArray HX.out (infoH _ z32_len) rfl (oneH _) ?_)
    | (refine wpList_store_row rfl 27 (.tmp 11) (.tmp 35) rfl (w.heap.size + 1 + 1) (Dig.Z32.map (Value.int .u8)).toArray rfl rfl 27 (Dig.Z32.map (Value.int .u8)).toArray HYn.out (infoH _ z32_len) rfl (oneH _) ?_))
  refine bodyPost_ret (results_cells_tmp rfl _ _ (w.heap.size + 1) (w.heap.size + 1 + 1) 27 (Dig.Z32.map (Value.int .u8)).toArray (Dig.Z32.map (Value.int .u8)).toArray (0, 0) _ (.bool false) rfl rfl HXF.out HYF.out Tryd.underlying27 rfl (infoH Dig.Z32 z32_len) (infoH Dig.Z32 z32_len) rfl) rfl ?_
  unfold U2Post
  rw [Hp.out]
  exact ⟨rfl, z32_len, z32_len, HBf.out⟩

set_option maxRecDepth 100000 in
set_option maxHeartbeats 8000000 in
theorem refBoth_nil {m n : Nat} {whole : Bool} {w : World} {O : Nat → Prop} {v : Value} {a : H} (hne : ¬ m = n) (h2 : 2 ≤ n) (hs : HS w O v []) :
    Calls Tryd.prog 39 #[.int .i64 (m : Nat), .int .i64 (n : Nat), .bool whole, v, .agg (a.map (Value.int .u8)).toArray] w (U2Post w (upsP m n whole [] a)) := by
  have hz := zeroHash
  obtain ⟨hb, hA, hX, hY⟩ := three_new w a
  have HA := Hid2.mk hA
  have HX := Hid2.mk hX
  have HY := Hid2.mk hY
  have HB := Hid2.mk hb
  have Hp := Hid2.mk (ups_nil (whole := whole) (a := a) hne h2)
  obtain ⟨sp, cap, rfl, hc, hc'⟩ := hs.form
  have hn2 : ((m : Int) == n) = false := beq_eq_false_iff_ne.2 (by omega)
  simp only [List.length_nil]
  clear hne
  have hYn := hY.setRow_other (g := w.heap.size + 1) (Dig.Z32.map (Value.int .u8)).toArray (by omega)
  have HXf := (hX.setRow (Dig.Z32.map (Value.int .u8))).setRow_other (g := w.heap.size + 1 + 1) (Dig.Z32.map (Value.int .u8)).toArray (by omega)
  have HYf := hYn.setRow (Dig.Z32.map (Value.int .u8))
  have HBf := Hid2.mk (below_setRow (below_setRow hb (show w.heap.size ≤ w.heap.size + 1 by omega) (Dig.Z32.map (Value.int .u8)).toArray) (show w.heap.size ≤ w.heap.size + 1 + 1 by omega) (Dig.Z32.map (Value.int .u8)).toArray)
  have HYn := Hid2.mk hYn
  have HXF := Hid2.mk HXf
  have HYF := Hid2.mk HYf
  unfold tN at HA HX HY HB HYn HXF HYF HBf
  clear hb hA hX hY hs hYn HXf HYf
  go_enter Tryd.func39, Tryd.ntmps39
  go_wp2_with (first
    | (refine wpList_build_to rfl 27 #[] rfl (Dig.Z32.map (Value.int .u8)).toArray builtHash ?_)
    | (refine wpList_store_row rfl 27 (.tmp 10) (.tmp 45) rfl (w.heap.size + 1) (Dig.Z32.map (Value.int .u8)).toArray rfl rfl 27 (Dig.Z32.map (Value.int .u8)).toArray HX.out (infoH _ z32_len) rfl (oneH _) ?_)
    | (refine wpList_store_row rfl 27 (.tmp 11) (.tmp 46) rfl (w.heap.size + 1 + 1) (Dig.Z32.map (Value.int .u8)).toArray rfl rfl 27 (Dig.Z32.map (Value.int .u8)).toArray HYn.out (infoH _ z32_len) rfl (oneH _) ?_))
  refine bodyPost_ret (results_cells_tmp rfl _ _ (w.heap.size + 1) (w.heap.size + 1 + 1) 27 (Dig.Z32.map (Value.int .u8)).toArray (Dig.Z32.map (Value.int .u8)).toArray (0, 0) _ (.bool false) rfl rfl HXF.out HYF.out Tryd.underlying27 rfl (infoH Dig.Z32 z32_len) (infoH Dig.Z32 z32_len) rfl) rfl ?_
  unfold U2Post
  rw [Hp.out]
  exact ⟨rfl, z32_len, z32_len, HBf.out⟩

set_option maxRecDepth 100000 in
set_option maxHeartbeats 8000000 in
theorem refBoth_is1 {n : Nat} {w : World} {O : Nat → Prop} {v : Value} {x a : H} (hs : HS w O v [x]) :
    Calls Tryd.prog 39 #[.int .i64 (n : Nat), .int .i64 (n : Nat), .bool false, v, .agg (a.map (Value.int .u8)).toArray] w (U2Post w (upsP n n false [x] a)) := by
  have hz := zeroHash
  obtain ⟨hb, hA, hX, hY⟩ := three_new w a
  have HA := Hid2.mk hA
  have HX := Hid2.mk hX
  have HY := Hid2.mk hY
  have HB := Hid2.mk hb
  have Hp := Hid2.mk (ups_is1 n x a)
  obtain ⟨b, o, cap, rfl, hc, hc', hblt, hOb, h32, hrow⟩ := (hs.tight.below hb (Nat.le_refl _)).at 0 (by simp)
  have e0 : [x].getD 0 [] = x := rfl
  have e1 : o + 0 * 32 = o := by omega
  rw [e0] at h32 hrow
  rw [e1] at hrow
  have Hrow := Hid2.mk hrow
  have el : [x].length = 1 := rfl
  rw [el]
  unfold tN at HA HX HY HB Hrow
  clear hb hA hX hY hs hrow e0 e1 el hblt
  go_enter Tryd.func39, Tryd.ntmps39
  go_wp2_with fail
  generalize World.alloc (World.alloc (World.alloc _ _) _) _ = w1 at HA HX HY HB Hrow ⊢
  refine wp_region_till 7 (fun W => W.rangeAt b o (x.map (Value.int .u8))) (by kernel_rfl) ?_
  have hS : w1.drew.rangeAt b o (x.map (Value.int .u8)) := Hrow.out
  have HX1 : VBlk 27 w1.drew (w.heap.size + 1) (Dig.Z32.map (Value.int .u8)) := HX.out.drewN 1
  have HY1 : VBlk 27 w1.drew (w.heap.size + 1 + 1) (Dig.Z32.map (Value.int .u8)) := HY.out.drewN 1
  have HB1 := HB.out.trans ((belowN (Below.refl w1.heap.size w1) 1).mono HB.out.size)
  refine till_free (i := 0) rfl (by kernel_rfl) (by kernel_rfl) (by kernel_rfl) rfl (fun _ _ _ h => h) (.inr hS) (by rfl) (fun _ => by first | (go_simp; done) | (go_simp; with_reducible rfl)) ?_
  refine till_free (i := 1) rfl (by kernel_rfl) (by kernel_rfl) (by kernel_rfl) rfl (fun _ _ _ h => h) (.inr hS) (by rfl) (fun _ => by first | (go_simp; done) | (go_simp; with_reducible rfl)) ?_
  refine till_read (i := 2) (v := .agg (x.map (Value.int .u8)).toArray) [6, 7] rfl (by kernel_rfl) (by kernel_rfl) (by kernel_rfl) (by kernel_rfl) (by kernel_rfl) (fun _ _ _ h => h) (by rfl) (fun W hW => exec_load_mid 27 (.tmp 37) rfl b o rfl _ _ hW Tryd.underlying27 rfl (infoL x h32)) hS ?_
  refine till_free (i := 3) rfl (by kernel_rfl) (by kernel_rfl) (by kernel_rfl) rfl (fun _ _ _ h => h) (.inr hS) (by rfl) (fun _ => by first | (go_simp; done) | (go_simp; with_reducible rfl)) ?_
  refine till_free (i := 4) rfl (by kernel_rfl) (by kernel_rfl) (by kernel_rfl) rfl (fun _ _ _ h => h) (.inr hS) (by rfl) (fun _ => by first | (go_simp; done) | (go_simp; with_reducible rfl)) ?_
  refine till_read (i := 5) (v := .agg (x.map (Value.int .u8)).toArray) [7] rfl (by kernel_rfl) (by kernel_rfl) (by kernel_rfl) (by kernel_rfl) (by kernel_rfl) (fun _ _ _ h => h) (by rfl) (fun W hW => exec_load_mid 27 (.tmp 40) rfl b o rfl _ _ hW Tryd.underlying27 rfl (infoL x h32)) hS ?_
  try conv => { arg 9; simp [go_sem] }
  refine till_store (i := 6) (by kernel_rfl) rfl rfl 27 (.tmp 10) (.tmp 38) rfl (w.heap.size + 1) (x.map (Value.int .u8)).toArray (by go_simp) (by go_simp) 27 (Dig.Z32.map (Value.int .u8)).toArray HX1 (infoH x h32) (sizeH _ _ z32_len h32) (oneH _) (.inr (range_setRow hS _ (by have : b < w.heap.size := hOb; omega))) ?_
  have HYn := HY1.setRow_other (g := w.heap.size + 1) (x.map (Value.int .u8)).toArray (by omega)
  try conv => { arg 9; simp [go_sem] }
  refine till_store (i := 7) (by kernel_rfl) rfl rfl 27 (.tmp 11) (.tmp 41) rfl (w.heap.size + 1 + 1) (x.map (Value.int .u8)).toArray (by go_simp) (by go_simp) 27 (Dig.Z32.map (Value.int .u8)).toArray HYn (infoH x h32) (sizeH _ _ z32_len h32) (oneH _) (.inl rfl) ?_
  refine till_free (i := 8) rfl (by kernel_rfl) (by kernel_rfl) (by kernel_rfl) rfl (fun _ _ _ h => h) (.inl rfl) (by rfl) (fun _ => by first | (go_simp; done) | (go_simp; with_reducible rfl)) ?_
  refine till_done (by kernel_rfl) ?_ _
  have HXf := (HX1.setRow (x.map (Value.int .u8))).setRow_other (g := w.heap.size + 1 + 1) (x.map (Value.int .u8)).toArray (by omega)
  have HYf := HYn.setRow (x.map (Value.int .u8))
  have HBf := Hid2.mk (below_setRow (below_setRow HB1 (show w.heap.size ≤ w.heap.size + 1 by omega) (x.map (Value.int .u8)).toArray) (show w.heap.size ≤ w.heap.size + 1 + 1 by omega) (x.map (Value.int .u8)).toArray)
  clear HX1 HYn HB1 HY1
  go_wp2_with fail
  refine bodyPost_ret (results_cells_tmp rfl _ _ (w.heap.size + 1) (w.heap.size + 1 + 1) 27 (x.map (Value.int .u8)).toArray (x.map (Value.int .u8)).toArray (0, 0) _ (.bool true) rfl rfl HXf HYf Tryd.underlying27 rfl (infoH x h32) (infoH x h32) rfl) rfl ?_
  unfold U2Post
  rw [Hp.out]
  exact ⟨rfl, h32, h32, HBf.out⟩

end Mk
end Go.Proofs.YtfdgclnjpbkggaaDoor
