/- The reference's tree: Root, Prove, Consist. -/
import Derived.Test.YtfdgclnjpbkggaaDoorMkT
import Derived.Test.YtfdgclnjpbkggaaDoorMkU
namespace Go.Proofs.YtfdgclnjpbkggaaDoor
open Go.RowKit Go.Maps
namespace Mk

/-- Block t is the reference's tree of the leaves l, the slice v. -/
def RT (w : World) (t : Nat) (O : Nat → Prop) (v : Value) (l : List H) : Prop := VBlk 36 w t [v] ∧ HS w O v l
theorem RT.below {w w' : World} {t : Nat} {O : Nat → Prop} {v : Value} {l : List H} (h : RT w t O v l) {B : Nat} (hk : Below B w w') (hB : w.heap.size ≤ B) : RT w' t O v l :=
  ⟨h.1.below hk (Nat.lt_of_lt_of_le h.1.lt hB), h.2.below hk hB⟩

set_option maxRecDepth 100000 in
set_option maxHeartbeats 4000000 in
theorem refTop_any {w : World} {t : Nat} {O : Nat → Prop} {v : Value} {l : List H} (h : RT w t O v l) (hm : l.length ≤ 1000000) (size : Int) :
    Calls Tryd.prog 14 #[.pointer (some ⟨t, 0, none⟩), .int .i64 size] w fun e w' => e = .returned (.tuple #[.agg ((rootV l size).map (Value.int .u8)).toArray, .int .i64 (rootC l size)]) ∧ Below w.heap.size w w' := by
  have hz := zeroHash
  obtain ⟨hb, hR⟩ := new_hash w
  have h0 := h.below hb (Nat.le_refl _)
  obtain ⟨sp, cap, rfl, hc, hc'⟩ := h.2.form
  have hok := h.2.1
  have c0 := h0.1.cell 0 (by simp)
  simp only [List.getD_cons_zero] at c0
  have H0 := Hid2.mk h0
  have HB := Hid2.mk hb
  have HR := Hid2.mk hR
  clear hb hR h h0
  have hi : (Tryd.prog.info? 27).map (·.size) = some (Dig.Z32.map (Value.int .u8)).toArray.size := by rw [infoHash]; rfl
  by_cases hbad : size < 0 ∨ (0 ≤ size ∧ (l.length : Int) < size)
  · have e1 : rootV l size = Dig.Z32 := by unfold rootV; rw [if_neg (by omega)]; rfl
    have e2 : rootC l size = 1 := by unfold rootC; rw [if_neg (by omega)]
    rw [e1, e2]
    clear e1 e2 H0
    rcases hbad with g1 | ⟨g1, g2⟩ <;>
    ( go_enter Tryd.func14, Tryd.ntmps14
      go_wp2_with (first | (refine wpList_build_to rfl 27 #[] rfl (Dig.Z32.map (Value.int .u8)).toArray builtHash ?_) | (refine wpList_store_row rfl 27 (.tmp 4) (.tmp 17) rfl w.heap.size (Dig.Z32.map (Value.int .u8)).toArray rfl rfl 27 (Dig.Z32.map (Value.int .u8)).toArray HR.out hi rfl (by simp [Value.oneCell']) ?_))
      exact bodyPost_ret (results_cell_tmp rfl _ _ w.heap.size 27 (Dig.Z32.map (Value.int .u8)).toArray (0, 0) _ _ rfl (setRow_heap _ _ _ _ _ _ HR.out) Tryd.underlying27 rfl hi rfl) rfl ⟨rfl, below_setRow HB.out (Nat.le_refl _) _⟩ )
  · obtain ⟨n, rfl⟩ : ∃ n : Nat, size = n := ⟨size.toNat, by omega⟩
    have e1 : rootV l (n : Int) = rt (l.take n) := by unfold rootV; rw [if_pos (by omega)]; rfl
    have e2 : rootC l (n : Int) = 0 := by unfold rootC; rw [if_pos (by omega)]
    rw [e1, e2]
    have h3 : (n : Int) ≤ l.length := by omega
    have h4 : (n : Int) ≤ cap := by omega
    have Ht := Hid2.mk (H0.out.2.take (k := n) (by omega))
    have llt : (l.take n).length = n := by rw [List.length_take]; omega
    have hlen := rt_len (okh_take hok n)
    clear e1 e2 hbad
    go_enter Tryd.func14, Tryd.ntmps14
    go_wp2_with fail
    generalize World.alloc _ _ = w1 at HR HB Ht ⊢
    refine (refRoot_any n llt Ht.out (by omega)).mono ?_
    rintro e w2 ⟨rfl, hb2⟩
    have HB2 := Hid2.mk (HB.out.trans (hb2.mono HB.out.size))
    have HR2 := Hid2.mk (HR.out.below hb2 HR.out.lt)
    obtain ⟨rr, hrr⟩ : ∃ rr, rr = rt (l.take n) := ⟨_, rfl⟩
    have Hrr := Hid2.mk hrr
    rw [← hrr] at hlen ⊢
    clear hb2 hrr HB HR Ht H0 c0
    go_wp2_with (refine wpList_store_row rfl 27 (.tmp 4) (.tmp 24) rfl w.heap.size (rr.map (Value.int .u8)).toArray rfl rfl 27 (Dig.Z32.map (Value.int .u8)).toArray HR2.out (infoH rr hlen) (sizeH _ _ z32_len hlen) (oneH _) ?_)
    refine bodyPost_ret (results_cell_tmp rfl _ _ w.heap.size 27 (rr.map (Value.int .u8)).toArray (0, 0) _ _ rfl (setRow_heap _ _ _ _ _ _ HR2.out) Tryd.underlying27 rfl (infoH rr hlen) rfl) rfl ⟨by rw [Hrr.out]; rfl, below_setRow HB2.out (Nat.le_refl _) _⟩

set_option maxRecDepth 100000 in
set_option maxHeartbeats 4000000 in
theorem refProve_any {w : World} {t : Nat} {O : Nat → Prop} {v : Value} {l : List H} (h : RT w t O v l) (hm : l.length ≤ 1000000) (i size : Int) :
    Calls Tryd.prog 16 #[.pointer (some ⟨t, 0, none⟩), .int .i64 i, .int .i64 size] w (ProofPost w (provL l i size) (provC l i size)) := by
  have hz := zeroProof
  obtain ⟨hb, hR⟩ := new_proof w
  have h0 := h.below hb (Nat.le_refl _)
  obtain ⟨sp, cap, rfl, hc, hc'⟩ := h.2.form
  have c0 := h0.1.cell 0 (by simp)
  simp only [List.getD_cons_zero] at c0
  have H0 := Hid2.mk h0
  have HB := Hid2.mk hb
  have HR := Hid2.mk hR
  clear hb hR h h0
  by_cases hp : okP l i size
  · have e1 : provL l i size = pathP i.toNat (l.take size.toNat) := if_pos hp
    have e2 : provC l i size = 0 := if_pos hp
    rw [e1, e2]
    obtain ⟨p1, p2, p3, p4⟩ := hp
    obtain ⟨n, rfl⟩ : ∃ n : Nat, size = n := ⟨size.toNat, by omega⟩
    obtain ⟨k, rfl⟩ : ∃ k : Nat, i = k := ⟨i.toNat, by omega⟩
    have e3 : ((n : Int)).toNat = n := by omega
    have e4 : ((k : Int)).toNat = k := by omega
    rw [e3, e4]
    have h4 : (n : Int) ≤ cap := by omega
    have Ht := Hid2.mk (H0.out.2.take (k := n) (by omega))
    have llt : (l.take n).length = n := by rw [List.length_take]; omega
    clear e1 e2 e3 e4
    go_enter Tryd.func16, Tryd.ntmps16
    go_wp2_with fail
    generalize World.alloc _ _ = w1 at HR HB Ht ⊢
    refine (refPath_any n llt Ht.out (by omega) (by omega)).mono ?_
    rintro e w2 ⟨sp2, c, rfl, hown, hb2⟩
    have HB2 := Hid2.mk (HB.out.trans (hb2.mono HB.out.size))
    have HR2 := Hid2.mk (HR.out.below hb2 HR.out.lt)
    have HO2 := Hid2.mk hown
    have hlt := HR.out.lt
    clear hb2 hown c0 H0
    obtain ⟨P, hP⟩ : ∃ P, P = pathP k (l.take n) := ⟨_, rfl⟩
    have HP := Hid2.mk hP
    rw [← hP] at HO2 ⊢
    clear hP
    go_wp2_with (refine wpList_store_row rfl 40 (.tmp 6) (.tmp 37) rfl w.heap.size #[.slice sp2 P.length c] rfl rfl 40 #[.slice none 0 0] HR2.out infoProof rfl (by simp [Value.oneCell']) ?_)
    refine bodyPost_ret (results_cell_tmp rfl _ _ w.heap.size 40 #[.slice sp2 P.length c] (0, 0) _ _ rfl (setRow_heap _ _ _ _ _ _ HR2.out) Tryd.underlying40 rfl infoProof rfl) rfl ?_
    rw [← HP.out]
    refine ⟨sp2, c, rfl, (HO2.out.of_block fun g hg => ?_).mono (fun b (hb : _ ≤ b) => by omega), below_setRow HB2.out (Nat.le_refl _) _⟩
    have hg2 : w1.heap.size ≤ g := HO2.out.own hg
    exact Go.setRow_other _ _ _ _ (by omega)
  · have e1 : provL l i size = [] := if_neg hp
    have e2 : provC l i size = 1 := if_neg hp
    rw [e1, e2]
    have hd : size < 1 ∨ (1 ≤ size ∧ (l.length : Int) < size) ∨ (1 ≤ size ∧ size ≤ l.length ∧ i < 0) ∨ (1 ≤ size ∧ size ≤ l.length ∧ 0 ≤ i ∧ size ≤ i) := by unfold okP at hp; omega
    clear e1 e2 hp H0
    rcases hd with g1 | ⟨g1, g2⟩ | ⟨g1, g2, g3⟩ | ⟨g1, g2, g3, g4⟩ <;>
    ( go_enter Tryd.func16, Tryd.ntmps16
      go_wp2_with (first | (refine wpList_build_to rfl 40 #[] rfl #[.slice none 0 0] builtProof ?_) | (refine wpList_store_row rfl 40 (.tmp 6) (.tmp 28) rfl w.heap.size #[.slice none 0 0] rfl rfl 40 #[.slice none 0 0] HR.out infoProof rfl (by simp [Value.oneCell']) ?_))
      exact bodyPost_ret (results_cell_tmp rfl _ _ w.heap.size 40 #[.slice none 0 0] (0, 0) _ _ rfl (setRow_heap _ _ _ _ _ _ HR.out) Tryd.underlying40 rfl infoProof rfl) rfl ⟨none, 0, rfl, OwnV.nil _ _ _ _, below_setRow HB.out (Nat.le_refl _) _⟩ )

set_option maxRecDepth 100000 in
set_option maxHeartbeats 4000000 in
theorem refConsist_any {w : World} {t : Nat} {O : Nat → Prop} {v : Value} {l : List H} (h : RT w t O v l) (hm : l.length ≤ 1000000) (i size : Int) :
    Calls Tryd.prog 18 #[.pointer (some ⟨t, 0, none⟩), .int .i64 i, .int .i64 size] w (ProofPost w (consL l i size) (consC l i size)) := by
  have hz := zeroProof
  obtain ⟨hb, hR⟩ := new_proof w
  have h0 := h.below hb (Nat.le_refl _)
  obtain ⟨sp, cap, rfl, hc, hc'⟩ := h.2.form
  have c0 := h0.1.cell 0 (by simp)
  simp only [List.getD_cons_zero] at c0
  have H0 := Hid2.mk h0
  have HB := Hid2.mk hb
  have HR := Hid2.mk hR
  clear hb hR h h0
  by_cases hp : okS l i size
  · have e1 : consL l i size = subP i.toNat (l.take size.toNat) true := if_pos hp
    have e2 : consC l i size = 0 := if_pos hp
    rw [e1, e2]
    obtain ⟨p1, p2, p3, p4⟩ := hp
    obtain ⟨n, rfl⟩ : ∃ n : Nat, size = n := ⟨size.toNat, by omega⟩
    obtain ⟨k, rfl⟩ : ∃ k : Nat, i = k := ⟨i.toNat, by omega⟩
    have e3 : ((n : Int)).toNat = n := by omega
    have e4 : ((k : Int)).toNat = k := by omega
    rw [e3, e4]
    have h4 : (n : Int) ≤ cap := by omega
    have Ht := Hid2.mk (H0.out.2.take (k := n) (by omega))
    have llt : (l.take n).length = n := by rw [List.length_take]; omega
    clear e1 e2 e3 e4
    go_enter Tryd.func18, Tryd.ntmps18
    go_wp2_with fail
    generalize World.alloc _ _ = w1 at HR HB Ht ⊢
    refine (refSub_any n (wh := true) llt Ht.out (by omega) (by omega) (by omega)).mono ?_
    rintro e w2 ⟨sp2, c, rfl, hown, hb2⟩
    have HB2 := Hid2.mk (HB.out.trans (hb2.mono HB.out.size))
    have HR2 := Hid2.mk (HR.out.below hb2 HR.out.lt)
    have HO2 := Hid2.mk hown
    have hlt := HR.out.lt
    clear hb2 hown c0 H0
    obtain ⟨P, hP⟩ : ∃ P, P = subP k (l.take n) true := ⟨_, rfl⟩
    have HP := Hid2.mk hP
    rw [← hP] at HO2 ⊢
    clear hP
    go_wp2_with (refine wpList_store_row rfl 40 (.tmp 6) (.tmp 37) rfl w.heap.size #[.slice sp2 P.length c] rfl rfl 40 #[.slice none 0 0] HR2.out infoProof rfl (by simp [Value.oneCell']) ?_)
    refine bodyPost_ret (results_cell_tmp rfl _ _ w.heap.size 40 #[.slice sp2 P.length c] (0, 0) _ _ rfl (setRow_heap _ _ _ _ _ _ HR2.out) Tryd.underlying40 rfl infoProof rfl) rfl ?_
    rw [← HP.out]
    refine ⟨sp2, c, rfl, (HO2.out.of_block fun g hg => ?_).mono (fun b (hb : _ ≤ b) => by omega), below_setRow HB2.out (Nat.le_refl _) _⟩
    have hg2 : w1.heap.size ≤ g := HO2.out.own hg
    exact Go.setRow_other _ _ _ _ (by omega)
  · have e1 : consL l i size = [] := if_neg hp
    have e2 : consC l i size = 1 := if_neg hp
    rw [e1, e2]
    have hd : size < 1 ∨ (1 ≤ size ∧ (l.length : Int) < size) ∨ (1 ≤ size ∧ size ≤ l.length ∧ i < 1) ∨ (1 ≤ size ∧ size ≤ l.length ∧ 1 ≤ i ∧ size < i) := by unfold okS at hp; omega
    clear e1 e2 hp H0
    rcases hd with g1 | ⟨g1, g2⟩ | ⟨g1, g2, g3⟩ | ⟨g1, g2, g3, g4⟩ <;>
    ( go_enter Tryd.func18, Tryd.ntmps18
      go_wp2_with (first | (refine wpList_build_to rfl 40 #[] rfl #[.slice none 0 0] builtProof ?_) | (refine wpList_store_row rfl 40 (.tmp 6) (.tmp 28) rfl w.heap.size #[.slice none 0 0] rfl rfl 40 #[.slice none 0 0] HR.out infoProof rfl (by simp [Value.oneCell']) ?_))
      exact bodyPost_ret (results_cell_tmp rfl _ _ w.heap.size 40 #[.slice none 0 0] (0, 0) _ _ rfl (setRow_heap _ _ _ _ _ _ HR.out) Tryd.underlying40 rfl infoProof rfl) rfl ⟨none, 0, rfl, OwnV.nil _ _ _ _, below_setRow HB.out (Nat.le_refl _) _⟩ )

end Mk
end Go.Proofs.YtfdgclnjpbkggaaDoor
