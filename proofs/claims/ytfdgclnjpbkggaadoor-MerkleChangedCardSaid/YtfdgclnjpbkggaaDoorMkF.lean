/- Chapter 10: known. -/
import Derived.Test.YtfdgclnjpbkggaaDoorMkFa
namespace Go.Proofs.YtfdgclnjpbkggaaDoor
open Go.RowKit Go.Maps
namespace Mk

def K1 : H := [1, 0, 0, 0, 0, 0, 0, 0, 0, 0, 0, 0, 0, 0, 0, 0, 0, 0, 0, 0, 0, 0, 0, 0, 0, 0, 0, 0, 0, 0, 0, 0]
def K2 : H := [2, 0, 0, 0, 0, 0, 0, 0, 0, 0, 0, 0, 0, 0, 0, 0, 0, 0, 0, 0, 0, 0, 0, 0, 0, 0, 0, 0, 0, 0, 0, 0]
def K3 : H := [3, 0, 0, 0, 0, 0, 0, 0, 0, 0, 0, 0, 0, 0, 0, 0, 0, 0, 0, 0, 0, 0, 0, 0, 0, 0, 0, 0, 0, 0, 0, 0]
theorem okK : Okh [K1, K2, K3] := fun x hx => by simp at hx; rcases hx with rfl | rfl | rfl <;> rfl
theorem set1 : (Dig.Z32.map (Value.int .u8)).set 0 (Value.int .u8 1) = K1.map (Value.int .u8) := by kernel_rfl
theorem set2 : (Dig.Z32.map (Value.int .u8)).set 0 (Value.int .u8 2) = K2.map (Value.int .u8) := by kernel_rfl
theorem set3 : (Dig.Z32.map (Value.int .u8)).set 0 (Value.int .u8 3) = K3.map (Value.int .u8) := by kernel_rfl
theorem setOne (x : Int) : ((Dig.Z32.map (Value.int .u8)).set 0 (Value.int .u8 x)).toArray.all (·.oneCell') = true := by
  rw [← List.map_set]; exact oneH _
theorem half3 : half 3 = 2 := by decide +kernel
theorem rt_three (a b c : H) : rootV [a, b, c] 3 = nodeP (nodeP a b) c := by
  have h1 : rootV [a, b, c] 3 = rt [a, b, c] := by unfold rootV; rw [if_pos (by simp)]; rfl
  rw [h1]
  unfold rt
  have h2 : half 2 = 1 := by decide +kernel
  rw [root_two (by simp)]
  have e : [a, b, c].length = 3 := rfl
  rw [e, half3]
  have e1 : [a, b, c].take 2 = [a, b] := rfl
  have e2 : [a, b, c].drop 2 = [c] := rfl
  rw [e1, e2, root_one, root_two (by simp)]
  have e3 : [a, b].length = 2 := rfl
  rw [e3, h2]
  have e4 : [a, b].take 1 = [a] := rfl
  have e5 : [a, b].drop 1 = [b] := rfl
  rw [e4, e5, root_one, root_one]
theorem infoHashZ : ∃ ie, Tryd.prog.info? 27 = some ie ∧ ie.size = 32 ∧ ie.zero = some (.agg (Dig.Z32.map (Value.int .u8)).toArray) := by
  have h : (Tryd.prog.info? 27).map (fun i => (i.zero, i.size)) = some (some (.agg (Dig.Z32.map (Value.int .u8)).toArray), 32) := by kernel_rfl
  cases hi : Tryd.prog.info? 27 with
  | none => rw [hi] at h; cases h
  | some ie =>
    rw [hi] at h
    simp only [Option.map_some, Option.some.injEq, Prod.mk.injEq] at h
    exact ⟨ie, rfl, h.2, h.1⟩
def C1 : List Value := (Dig.Z32.map (Value.int .u8)).set 0 (Value.int .u8 1)
def C2 : List Value := (Dig.Z32.map (Value.int .u8)).set 0 (Value.int .u8 2)
def C3 : List Value := (Dig.Z32.map (Value.int .u8)).set 0 (Value.int .u8 3)
theorem fill3 : Instr.fill (fun i => some (i * 32, 32)) ((Array.range (3 * 32)).map ((Value.agg (Dig.Z32.map (Value.int .u8)).toArray).cells[· % (Value.agg (Dig.Z32.map (Value.int .u8)).toArray).cells.size]!)) [(0, .agg C1.toArray), (1, .agg C2.toArray), (2, .agg C3.toArray)] = some (cellsH [K1, K2, K3]).toArray := by kernel_rfl
/-- The worlds of known's first lines. -/
def kA (w : World) : World := ((w.alloc (.cells (Dig.Z32.map (Value.int .u8)).toArray 27)).alloc (.cells (Dig.Z32.map (Value.int .u8)).toArray 27)).alloc (.cells (Dig.Z32.map (Value.int .u8)).toArray 27)
def kB (w : World) : World := (kA w).setRow w.heap.size C1.toArray
def kC (w : World) : World := (kB w).setRow (w.heap.size + 1) C2.toArray
def kD (w : World) : World := (kC w).setRow (w.heap.size + 1 + 1) C3.toArray
theorem kA0 (w : World) : VBlk 27 (kA w) w.heap.size (Dig.Z32.map (Value.int .u8)) := ((VBlk.mk w _ _).alloc _).alloc _
theorem kA1 (w : World) : VBlk 27 (kA w) (w.heap.size + 1) (Dig.Z32.map (Value.int .u8)) := by
  have := VBlk.mk (w.alloc (.cells (Dig.Z32.map (Value.int .u8)).toArray 27)) (Dig.Z32.map (Value.int .u8)) 27
  rw [show (w.alloc (.cells (Dig.Z32.map (Value.int .u8)).toArray 27)).heap.size = w.heap.size + 1 from by simp] at this
  exact this.alloc _
theorem kA2 (w : World) : VBlk 27 (kA w) (w.heap.size + 1 + 1) (Dig.Z32.map (Value.int .u8)) := by
  have := VBlk.mk ((w.alloc (.cells (Dig.Z32.map (Value.int .u8)).toArray 27)).alloc (.cells (Dig.Z32.map (Value.int .u8)).toArray 27)) (Dig.Z32.map (Value.int .u8)) 27
  rw [show ((w.alloc (.cells (Dig.Z32.map (Value.int .u8)).toArray 27)).alloc (.cells (Dig.Z32.map (Value.int .u8)).toArray 27)).heap.size = w.heap.size + 1 + 1 from by simp] at this
  exact this
theorem kB1 (w : World) : VBlk 27 (kB w) (w.heap.size + 1) (Dig.Z32.map (Value.int .u8)) := (kA1 w).setRow_other _ (by omega)
theorem kC2 (w : World) : VBlk 27 (kC w) (w.heap.size + 1 + 1) (Dig.Z32.map (Value.int .u8)) := ((kA2 w).setRow_other _ (by omega)).setRow_other _ (by omega)
theorem kD0 (w : World) : VBlk 27 (kD w) w.heap.size C1 := (((kA0 w).setRow C1).setRow_other _ (by omega)).setRow_other _ (by omega)
theorem kD1 (w : World) : VBlk 27 (kD w) (w.heap.size + 1) C2 := ((kB1 w).setRow C2).setRow_other _ (by omega)
theorem kD2 (w : World) : VBlk 27 (kD w) (w.heap.size + 1 + 1) C3 := (kC2 w).setRow C3
theorem kD_below (w : World) : Below w.heap.size w (kD w) := by
  have h : Below w.heap.size w (kA w) := (((Below.refl _ w).alloc (Nat.le_refl _) _).alloc (by simp) _).alloc (by simp; omega) _
  exact below_setRow (below_setRow (below_setRow h (Nat.le_refl _) _) (by omega) _) (by omega) _
theorem infoC1 : (Tryd.prog.info? 27).map (·.size) = some C1.toArray.size := by rw [infoHash]; rfl
theorem infoC2 : (Tryd.prog.info? 27).map (·.size) = some C2.toArray.size := by rw [infoHash]; rfl
theorem infoC3 : (Tryd.prog.info? 27).map (·.size) = some C3.toArray.size := by rw [infoHash]; rfl

set_option maxRecDepth 100000 in
set_option maxHeartbeats 4000000 in
theorem known_any (w : World) (hT : Tab w) : Calls Tryd.prog 12 #[] w fun e w' => e = .returned (.bool true) ∧ Below w.heap.size w w' := by
  have hz := zeroHash
  have HT := Hid2.mk hT
  clear hT
  obtain ⟨ie, i1, i2, i3⟩ := infoHashZ
  have I1 := Hid2.mk i1
  have I2 := Hid2.mk i2
  have I3 := Hid2.mk i3
  have Hf : Hid2 (Instr.fill (fun i => some (i * ie.size, ie.size)) ((Array.range (3 * ie.size)).map ((Value.agg (Dig.Z32.map (Value.int .u8)).toArray).cells[· % (Value.agg (Dig.Z32.map (Value.int .u8)).toArray).cells.size]!)) [(0, .agg C1.toArray), (1, .agg C2.toArray), (2, .agg C3.toArray)] = some (cellsH [K1, K2, K3]).toArray) := Hid2.mk (by rw [i2]; exact fill3)
  clear i1 i2 i3
  obtain ⟨w3, hw3⟩ : ∃ w3, w3 = kD w := ⟨_, rfl⟩
  have D0 := Hid2.mk (show VBlk 27 w3 w.heap.size C1 by rw [hw3]; exact kD0 w)
  have D1 := Hid2.mk (show VBlk 27 w3 (w.heap.size + 1) C2 by rw [hw3]; exact kD1 w)
  have D2 := Hid2.mk (show VBlk 27 w3 (w.heap.size + 1 + 1) C3 by rw [hw3]; exact kD2 w)
  have HB := Hid2.mk (show Below w.heap.size w w3 by rw [hw3]; exact kD_below w)
  have Hw3 := Hid2.mk hw3
  clear hw3
  go_enter Tryd.func12, Tryd.ntmps12
  go_wp2_with (first
    | (refine wpList_store_row rfl 27 (.tmp 1) (.tmp 8) rfl w.heap.size C1.toArray rfl rfl 27 (Dig.Z32.map (Value.int .u8)).toArray (kA0 w) infoC1 rfl (setOne _) ?_)
    | (refine wpList_store_row rfl 27 (.tmp 2) (.tmp 9) rfl (w.heap.size + 1) C2.toArray rfl rfl 27 (Dig.Z32.map (Value.int .u8)).toArray (kB1 w) infoC2 rfl (setOne _) ?_)
    | (refine wpList_store_row rfl 27 (.tmp 3) (.tmp 10) rfl (w.heap.size + 1 + 1) C3.toArray rfl rfl 27 (Dig.Z32.map (Value.int .u8)).toArray (kC2 w) infoC3 rfl (setOne _) ?_; change wpList _ _ _ _ _ (kD w); have e := Hw3.out; clear Hw3; generalize kD w = w3' at e ⊢; subst e)
    | (refine wpList_load_row rfl 27 (.tmp 1) rfl w.heap.size rfl 27 C1.toArray (0, 0) _ D0.out Tryd.underlying27 rfl infoC1 ?_)
    | (refine wpList_load_row rfl 27 (.tmp 2) rfl (w.heap.size + 1) rfl 27 C2.toArray (0, 0) _ D1.out Tryd.underlying27 rfl infoC2 ?_)
    | (refine wpList_load_row rfl 27 (.tmp 3) rfl (w.heap.size + 1 + 1) rfl 27 C3.toArray (0, 0) _ D2.out Tryd.underlying27 rfl infoC3 ?_; refine wpList_buildSlice rfl 22 27 3 #[(0, .tmp 12), (1, .tmp 13), (2, .tmp 14)] rfl (cellsH [K1, K2, K3]).toArray ie (.agg (Dig.Z32.map (Value.int .u8)).toArray) Tryd.underlying22 I1.out I3.out (by rw [I2.out]; decide) (by rw [I2.out]; decide) ?hf ?_; case hf => (simp only [List.map_toArray, List.map_cons, List.map_nil]; exact Hf.out)))
  have hsl : HS (w3.alloc (.cells (cellsH [K1, K2, K3]).toArray 27)) (fun _ => True) (.slice (some ⟨w3.heap.size, 0, none⟩) 3 3) [K1, K2, K3] := ⟨okK, SlV.fresh w3 _ _ (cellsH_len okK) (ones_cellsH _) trivial (by unfold maxLen; simp)⟩
  have hb4 : Below w3.heap.size w3 (w3.alloc (.cells (cellsH [K1, K2, K3]).toArray 27)) := (Below.refl _ _).alloc (Nat.le_refl _) _
  have E0 := Hid2.mk (D0.out.below hb4 D0.out.lt)
  have E1 := Hid2.mk (D1.out.below hb4 D1.out.lt)
  have E2 := Hid2.mk (D2.out.below hb4 D2.out.lt)
  have HB4 := Hid2.mk (HB.out.trans (hb4.mono HB.out.size))
  clear D0 D1 D2 HB hb4 I1 I2 I3 Hf
  generalize World.alloc w3 _ = w4 at hsl E0 E1 E2 HB4 ⊢
  refine (made_any hsl (by simp)).mono ?_
  rintro e w5 ⟨t, rfl, ht⟩
  have Ht := Hid2.mk ht
  have F0 := Hid2.mk (E0.out.below ht.bel E0.out.lt)
  have F1 := Hid2.mk (E1.out.below ht.bel E1.out.lt)
  have F2 := Hid2.mk (E2.out.below ht.bel E2.out.lt)
  have HB5 := Hid2.mk (HB4.out.trans (ht.bel.mono HB4.out.size))
  have hs45 := ht.bel.size
  clear hsl ht E0 E1 E2
  go_wp2_with fail
  obtain ⟨O, hI, -⟩ := Ht.out
  refine (rootTop_a hI (HT.out.below HB5.out (Nat.le_refl _)) (by simp) 3).mono ?_
  rintro e w6 ⟨rfl, hb6⟩
  have hc0 : rootC [K1, K2, K3] 3 = 0 := by decide
  rw [hc0, rt_three]
  have hrl : (nodeP (nodeP K1 K2) K3).length = 32 := nodeP_len _ _
  obtain ⟨rr, hrr⟩ : ∃ rr, rr = nodeP (nodeP K1 K2) K3 := ⟨_, rfl⟩
  rw [← hrr] at hrl ⊢
  have Hrl := Hid2.mk hrl
  have Hrr := Hid2.mk hrr
  have G0 := Hid2.mk (F0.out.below hb6 F0.out.lt)
  have G1 := Hid2.mk (F1.out.below hb6 F1.out.lt)
  have G2 := Hid2.mk (F2.out.below hb6 F2.out.lt)
  have HB6 := Hid2.mk (HB5.out.trans (hb6.mono HB5.out.size))
  obtain ⟨q1, q2, q3⟩ := alloc_store w6 rr
  have Q1 := Hid2.mk q1
  have Q2 := Hid2.mk q2
  have Q3 := Hid2.mk q3
  clear hb6 F0 F1 F2 HB5 HB4 q1 q2 q3 hI Ht hrl hrr hs45
  go_wp2_with (refine wpList_store_row rfl 27 (.tmp 6) (.tmp 24) rfl w6.heap.size (rr.map (Value.int .u8)).toArray rfl rfl 27 (Dig.Z32.map (Value.int .u8)).toArray Q1.out (infoH rr Hrl.out) (sizeH _ _ z32_len Hrl.out) (oneH _) ?_)
  generalize (World.setRow _ _ _) = w7 at Q2 Q3 ⊢
  have I0 := Hid2.mk (G0.out.below Q3.out G0.out.lt)
  have I1 := Hid2.mk (G1.out.below Q3.out G1.out.lt)
  have I2 := Hid2.mk (G2.out.below Q3.out G2.out.lt)
  have HB7 := Hid2.mk (HB6.out.trans (Q3.out.mono HB6.out.size))
  have e1 : C1.toArray = (K1.map (Value.int .u8)).toArray := by rw [← set1]; rfl
  have e2 : C2.toArray = (K2.map (Value.int .u8)).toArray := by rw [← set2]; rfl
  have e3 : C3.toArray = (K3.map (Value.int .u8)).toArray := by rw [← set3]; rfl
  have J0 := Hid2.mk (show w7.heap[w.heap.size]? = some (.cells (K1.map (Value.int .u8)).toArray 27 (0, 0)) by rw [← e1]; exact I0.out)
  have J1 := Hid2.mk (show w7.heap[w.heap.size + 1]? = some (.cells (K2.map (Value.int .u8)).toArray 27 (0, 0)) by rw [← e2]; exact I1.out)
  have J2 := Hid2.mk (show w7.heap[w.heap.size + 1 + 1]? = some (.cells (K3.map (Value.int .u8)).toArray 27 (0, 0)) by rw [← e3]; exact I2.out)
  have J3 := Hid2.mk (show w7.heap[w6.heap.size]? = some (.cells (rr.map (Value.int .u8)).toArray 27 (0, 0)) from Q2.out)
  obtain ⟨n1, hn1⟩ : ∃ n1, n1 = nodeP K1 K2 := ⟨_, rfl⟩
  have hn1l : n1.length = 32 := by rw [hn1]; exact nodeP_len _ _
  have hc1 : ∀ W : World, Calls Tryd.prog 13 #[.agg (K1.map (Value.int .u8)).toArray, .agg (K2.map (Value.int .u8)).toArray] W fun e w' => e = .returned (.agg (n1.map (Value.int .u8)).toArray) ∧ Below W.heap.size W w' := fun W => by rw [hn1]; exact refNode_a W rfl rfl
  have hc2 : ∀ W : World, Calls Tryd.prog 13 #[.agg (n1.map (Value.int .u8)).toArray, .agg (K3.map (Value.int .u8)).toArray] W fun e w' => e = .returned (.agg (rr.map (Value.int .u8)).toArray) ∧ Below W.heap.size W w' := fun W => by rw [Hrr.out, ← hn1]; exact refNode_a W hn1l rfl
  have HC1 := Hid2.mk hc1
  have HC2 := Hid2.mk hc2
  have ik1 := infoH K1 rfl
  have ik2 := infoH K2 rfl
  have ik3 := infoH K3 rfl
  have heq : ∀ W, (binOp .eql 27 (.agg (rr.map (Value.int .u8)).toArray) (.agg (rr.map (Value.int .u8)).toArray)).run Tryd.prog W = .ok (.bool true) W := fun W => by rw [eqlH rr rr Hrl.out Hrl.out W]; simp
  have Ik1 := Hid2.mk ik1
  have Ik2 := Hid2.mk ik2
  have Ik3 := Hid2.mk ik3
  clear G0 G1 G2 I0 I1 I2 HB6 Q1 Q2 Q3 e1 e2 e3 hc1 hc2 hn1 hn1l ik1 ik2 ik3 hz Hrr
  generalize K1 = k1 at J0 HC1 Ik1
  generalize K2 = k2 at J1 HC1 Ik2
  generalize K3 = k3 at J2 HC2 Ik3
  go_wp2_with fail
  refine wp_region_quietB (by kernel_rfl) (by kernel_rfl) ?_
  (go_big_quiet_want; go_big_quiet_op; first | go_big_quiet_on | (refine ⟨_, fun _ _ => rfl, ?_⟩; go_big_quiet_on))
  (go_big_quiet_want; go_big_quiet_op; first | go_big_quiet_on | (refine ⟨_, fun _ _ => rfl, ?_⟩; go_big_quiet_on))
  (go_big_quiet_want; go_big_quiet_op; first | go_big_quiet_on | (refine ⟨_, fun _ _ => rfl, ?_⟩; go_big_quiet_on))
  (go_big_quiet_want; refine quiet_loadB 27 (.tmp 6) rfl w6.heap.size rfl 27 (rr.map (Value.int .u8)).toArray (0, 0) _ J3.out Tryd.underlying27 rfl (infoH rr Hrl.out) ?_; go_simp; go_big_quiet_on)
  (go_big_quiet_want; refine quiet_loadB 27 (.tmp 1) rfl w.heap.size rfl 27 (k1.map (Value.int .u8)).toArray (0, 0) _ J0.out Tryd.underlying27 rfl Ik1.out ?_; go_simp; go_big_quiet_on)
  (go_big_quiet_want; refine quiet_loadB 27 (.tmp 2) rfl (w.heap.size + 1) rfl 27 (k2.map (Value.int .u8)).toArray (0, 0) _ J1.out Tryd.underlying27 rfl Ik2.out ?_; go_simp; go_big_quiet_on)
  (go_big_quiet_want; go_big_quiet_op; apply Exists.intro; refine ⟨fun _ hB => ?_, ?_⟩; (focus (go_at_call 13; exact callB hB (HC1.out _))); go_big_quiet_on)
  (go_big_quiet_want; refine quiet_loadB 27 (.tmp 3) rfl (w.heap.size + 1 + 1) rfl 27 (k3.map (Value.int .u8)).toArray (0, 0) _ J2.out Tryd.underlying27 rfl Ik3.out ?_; go_simp; go_big_quiet_on)
  (go_big_quiet_want; go_big_quiet_op; apply Exists.intro; refine ⟨fun _ hB => ?_, ?_⟩; (focus (go_at_call 13; exact callB hB (HC2.out _))); go_big_quiet_on)
  (go_big_quiet_want; go_big_quiet_op; first | go_big_quiet_on | (refine ⟨_, fun _ _ => rfl, ?_⟩; go_big_quiet_on))
  (go_big_quiet_want; go_big_quiet_op; first | go_big_quiet_on | (refine ⟨_, fun _ _ => rfl, ?_⟩; go_big_quiet_on))
  (go_big_quiet_want; go_big_quiet_op; first | go_big_quiet_on | (refine ⟨_, fun _ _ => rfl, ?_⟩; go_big_quiet_on))
  refine wpQuiet_nil ?_
  intro w' hw'
  have hbf := Hid2.mk (HB7.out.trans (hw'.mono HB7.out.size))
  clear hw' HB7 heq J0 J1 J2 J3
  go_wp2_with fail
  go_ret
  exact ⟨rfl, hbf.out⟩

end Mk
end Go.Proofs.YtfdgclnjpbkggaaDoor
