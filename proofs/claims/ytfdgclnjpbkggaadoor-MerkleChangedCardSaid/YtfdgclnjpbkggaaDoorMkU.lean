/- The tree of digests: Prove, Consist. -/
import Derived.Test.YtfdgclnjpbkggaaDoorMkQ
import Derived.Test.YtfdgclnjpbkggaaDoorMkN
namespace Go.Proofs.YtfdgclnjpbkggaaDoor
open Go.RowKit Go.Maps
namespace Mk

def okP (l : List H) (i size : Int) : Prop := 1 ≤ size ∧ size ≤ l.length ∧ 0 ≤ i ∧ i < size
def okS (l : List H) (m size : Int) : Prop := 1 ≤ size ∧ size ≤ l.length ∧ 1 ≤ m ∧ m ≤ size
instance (l : List H) (i size : Int) : Decidable (okP l i size) := by unfold okP; infer_instance
instance (l : List H) (m size : Int) : Decidable (okS l m size) := by unfold okS; infer_instance
/-- What Prove and Consist answer: hashes, and a code. -/
def provL (l : List H) (i size : Int) : List H := if okP l i size then pathP i.toNat (l.take size.toNat) else []
def provC (l : List H) (i size : Int) : Int := if okP l i size then 0 else 1
def consL (l : List H) (m size : Int) : List H := if okS l m size then subP m.toNat (l.take size.toNat) true else []
def consC (l : List H) (m size : Int) : Int := if okS l m size then 0 else 1

/-- An answer of hashes and a code. -/
def ProofPost (w : World) (hs : List H) (code : Int) (e : Ending) (w' : World) : Prop := ∃ sp c, e = .returned (.tuple #[.agg #[.slice sp hs.length c], .int .i64 code]) ∧ OwnV 27 32 w' (fun b => w.heap.size ≤ b) (.slice sp hs.length c) hs.length (cellsH hs) ∧ Below w.heap.size w w'

set_option maxRecDepth 100000 in
set_option maxHeartbeats 4000000 in
theorem prove_any {w : World} {t cnt : Nat} {O : Nat → Prop} {l : List H} (h : IsTree w t O cnt l) (hT : Tab w) (hm : l.length ≤ 1000000) (i size : Int) :
    Calls Tryd.prog 15 #[.pointer (some ⟨t, 0, none⟩), .int .i64 i, .int .i64 size] w (ProofPost w (provL l i size) (provC l i size)) := by
  have hz := zeroProof
  obtain ⟨hb, hR⟩ := new_proof w
  have h0 := h.below hb (Nat.le_refl _)
  have hok := h.ok
  obtain ⟨mb, hc, -⟩ := h0
  have c0 := hc.cell 0 (by simp)
  simp only [List.getD_cons_zero] at c0
  have H0 := Hid2.mk (h.below hb (Nat.le_refl _))
  have HT0 := Hid2.mk (hT.below hb (Nat.le_refl _))
  have HB := Hid2.mk hb
  have HR := Hid2.mk hR
  clear hb hR hT h hc
  by_cases hp : okP l i size
  · have e1 : provL l i size = pathP i.toNat (l.take size.toNat) := if_pos hp
    have e2 : provC l i size = 0 := if_pos hp
    rw [e1, e2]
    obtain ⟨p1, p2, p3, p4⟩ := hp
    obtain ⟨n, rfl⟩ : ∃ n : Nat, size = n := ⟨size.toNat, by omega⟩
    obtain ⟨k, rfl⟩ : ∃ k : Nat, i = k := ⟨i.toNat, by omega⟩
    have e3 : ((n : Int)).toNat = n := by omega
    have e4 : ((k : Int)).toNat = k := by omega
    rw [e3, e4]
    have hseg : seg l 0 n = l.take n := by unfold seg; rw [List.drop_zero]
    have Hseg := Hid2.mk hseg
    clear e1 e2 e3 e4 hseg
    go_enter Tryd.func15, Tryd.ntmps15
    go_wp2_with fail
    generalize World.alloc _ _ = w1 at H0 HT0 HR HB ⊢
    refine (path_any n (f := 0) H0.out HT0.out (by omega) (by omega) (al_zero n) hm (by omega)).mono ?_
    rw [Hseg.out]
    rintro e w2 ⟨sp, c, rfl, hown, hb2⟩
    have HB2 := Hid2.mk (HB.out.trans (hb2.mono HB.out.size))
    have HR2 := Hid2.mk (HR.out.below hb2 HR.out.lt)
    have HO2 := Hid2.mk hown
    have hlt := HR.out.lt
    clear hb2 hown c0 H0 HT0
    obtain ⟨P, hP⟩ : ∃ P, P = pathP k (l.take n) := ⟨_, rfl⟩
    have HP := Hid2.mk hP
    rw [← hP] at HO2 ⊢
    clear hP
    go_wp2_with (refine wpList_store_row rfl 40 (.tmp 6) (.tmp 36) rfl w.heap.size #[.slice sp P.length c] rfl rfl 40 #[.slice none 0 0] HR2.out infoProof rfl (by simp [Value.oneCell']) ?_)
    refine bodyPost_ret (results_cell_tmp rfl _ _ w.heap.size 40 #[.slice sp P.length c] (0, 0) _ _ rfl (setRow_heap _ _ _ _ _ _ HR2.out) Tryd.underlying40 rfl infoProof rfl) rfl ?_
    rw [← HP.out]
    refine ⟨sp, c, rfl, (HO2.out.of_block fun g hg => ?_).mono (fun b (hb : _ ≤ b) => by omega), below_setRow HB2.out (Nat.le_refl _) _⟩
    have hg2 : w1.heap.size ≤ g := HO2.out.own hg
    exact Go.setRow_other _ _ _ _ (by omega)
  · have e1 : provL l i size = [] := if_neg hp
    have e2 : provC l i size = 1 := if_neg hp
    rw [e1, e2]
    have hd : size < 1 ∨ (1 ≤ size ∧ (l.length : Int) < size) ∨ (1 ≤ size ∧ size ≤ l.length ∧ i < 0) ∨ (1 ≤ size ∧ size ≤ l.length ∧ 0 ≤ i ∧ size ≤ i) := by unfold okP at hp; omega
    clear e1 e2 hp H0 HT0
    rcases hd with g1 | ⟨g1, g2⟩ | ⟨g1, g2, g3⟩ | ⟨g1, g2, g3, g4⟩ <;>
    ( go_enter Tryd.func15, Tryd.ntmps15
      go_wp2_with (first | (refine wpList_build_to rfl 40 #[] rfl #[.slice none 0 0] builtProof ?_) | (refine wpList_store_row rfl 40 (.tmp 6) (.tmp 31) rfl w.heap.size #[.slice none 0 0] rfl rfl 40 #[.slice none 0 0] HR.out infoProof rfl (by simp [Value.oneCell']) ?_))
      exact bodyPost_ret (results_cell_tmp rfl _ _ w.heap.size 40 #[.slice none 0 0] (0, 0) _ _ rfl (setRow_heap _ _ _ _ _ _ HR.out) Tryd.underlying40 rfl infoProof rfl) rfl ⟨none, 0, rfl, OwnV.nil _ _ _ _, below_setRow HB.out (Nat.le_refl _) _⟩ )

set_option maxRecDepth 100000 in
set_option maxHeartbeats 4000000 in
theorem consist_any {w : World} {t cnt : Nat} {O : Nat → Prop} {l : List H} (h : IsTree w t O cnt l) (hT : Tab w) (hm : l.length ≤ 1000000) (i size : Int) :
    Calls Tryd.prog 17 #[.pointer (some ⟨t, 0, none⟩), .int .i64 i, .int .i64 size] w (ProofPost w (consL l i size) (consC l i size)) := by
  have hz := zeroProof
  obtain ⟨hb, hR⟩ := new_proof w
  have h0 := h.below hb (Nat.le_refl _)
  have hok := h.ok
  obtain ⟨mb, hc, -⟩ := h0
  have c0 := hc.cell 0 (by simp)
  simp only [List.getD_cons_zero] at c0
  have H0 := Hid2.mk (h.below hb (Nat.le_refl _))
  have HT0 := Hid2.mk (hT.below hb (Nat.le_refl _))
  have HB := Hid2.mk hb
  have HR := Hid2.mk hR
  clear hb hR hT h hc
  by_cases hp : okS l i size
  · have e1 : consL l i size = subP i.toNat (l.take size.toNat) true := if_pos hp
    have e2 : consC l i size = 0 := if_pos hp
    rw [e1, e2]
    obtain ⟨p1, p2, p3, p4⟩ := hp
    obtain ⟨n, rfl⟩ : ∃ n : Nat, size = n := ⟨size.toNat, by omega⟩
    obtain ⟨k, rfl⟩ : ∃ k : Nat, i = k := ⟨i.toNat, by omega⟩
    have e3 : ((n : Int)).toNat = n := by omega
    have e4 : ((k : Int)).toNat = k := by omega
    rw [e3, e4]
    have hseg : seg l 0 n = l.take n := by unfold seg; rw [List.drop_zero]
    have Hseg := Hid2.mk hseg
    clear e1 e2 e3 e4 hseg
    go_enter Tryd.func17, Tryd.ntmps17
    go_wp2_with fail
    generalize World.alloc _ _ = w1 at H0 HT0 HR HB ⊢
    refine (sub_any n (f := 0) (wh := true) H0.out HT0.out (by omega) (by omega) (al_zero n) hm (by omega) (by omega)).mono ?_
    rw [Hseg.out]
    rintro e w2 ⟨sp, c, rfl, hown, hb2⟩
    have HB2 := Hid2.mk (HB.out.trans (hb2.mono HB.out.size))
    have HR2 := Hid2.mk (HR.out.below hb2 HR.out.lt)
    have HO2 := Hid2.mk hown
    have hlt := HR.out.lt
    clear hb2 hown c0 H0 HT0
    obtain ⟨P, hP⟩ : ∃ P, P = subP k (l.take n) true := ⟨_, rfl⟩
    have HP := Hid2.mk hP
    rw [← hP] at HO2 ⊢
    clear hP
    go_wp2_with (refine wpList_store_row rfl 40 (.tmp 6) (.tmp 36) rfl w.heap.size #[.slice sp P.length c] rfl rfl 40 #[.slice none 0 0] HR2.out infoProof rfl (by simp [Value.oneCell']) ?_)
    refine bodyPost_ret (results_cell_tmp rfl _ _ w.heap.size 40 #[.slice sp P.length c] (0, 0) _ _ rfl (setRow_heap _ _ _ _ _ _ HR2.out) Tryd.underlying40 rfl infoProof rfl) rfl ?_
    rw [← HP.out]
    refine ⟨sp, c, rfl, (HO2.out.of_block fun g hg => ?_).mono (fun b (hb : _ ≤ b) => by omega), below_setRow HB2.out (Nat.le_refl _) _⟩
    have hg2 : w1.heap.size ≤ g := HO2.out.own hg
    exact Go.setRow_other _ _ _ _ (by omega)
  · have e1 : consL l i size = [] := if_neg hp
    have e2 : consC l i size = 1 := if_neg hp
    rw [e1, e2]
    have hd : size < 1 ∨ (1 ≤ size ∧ (l.length : Int) < size) ∨ (1 ≤ size ∧ size ≤ l.length ∧ i < 1) ∨ (1 ≤ size ∧ size ≤ l.length ∧ 1 ≤ i ∧ size < i) := by unfold okS at hp; omega
    clear e1 e2 hp H0 HT0
    rcases hd with g1 | ⟨g1, g2⟩ | ⟨g1, g2, g3⟩ | ⟨g1, g2, g3, g4⟩ <;>
    ( go_enter Tryd.func17, Tryd.ntmps17
      go_wp2_with (first | (refine wpList_build_to rfl 40 #[] rfl #[.slice none 0 0] builtProof ?_) | (refine wpList_store_row rfl 40 (.tmp 6) (.tmp 31) rfl w.heap.size #[.slice none 0 0] rfl rfl 40 #[.slice none 0 0] HR.out infoProof rfl (by simp [Value.oneCell']) ?_))
      exact bodyPost_ret (results_cell_tmp rfl _ _ w.heap.size 40 #[.slice none 0 0] (0, 0) _ _ rfl (setRow_heap _ _ _ _ _ _ HR.out) Tryd.underlying40 rfl infoProof rfl) rfl ⟨none, 0, rfl, OwnV.nil _ _ _ _, below_setRow HB.out (Nat.le_refl _) _⟩ )

end Mk
end Go.Proofs.YtfdgclnjpbkggaaDoor
