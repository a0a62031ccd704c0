/- The law MerkleGoes, walked. -/
import Derived.Test.YtfdgclnjpbkggaaDoorMkFa
namespace Go.Proofs.YtfdgclnjpbkggaaDoor
open Go.RowKit Go.Maps
namespace Mk

/-- What known answers. -/
def Known (P : Program) : Prop := ∀ w, Tab w → Calls P 12 #[] w fun e w' => e = .returned (.bool true) ∧ Below w.heap.size w w'

theorem neqH (a b : H) (ha : a.length = 32) (hb : b.length = 32) (W : World) : (binOp .neq 27 (.agg (a.map (Value.int .u8)).toArray) (.agg (b.map (Value.int .u8)).toArray)).run Tryd.prog W = .ok (.bool (!decide (a = b))) W := by
  have h := eqlH a b ha hb W
  rw [run_eql_struct] at h
  rw [run_neq_struct]
  cases hr : (Op.equalIn 10000 27 (.agg (a.map (Value.int .u8)).toArray) (.agg (b.map (Value.int .u8)).toArray)).run Tryd.prog W <;> rw [hr] at h <;> simp_all [Result.andThen]

theorem elemHash : ElemV Tryd.prog 22 27 32 32 := ElemV.mk' (z := .agg (Dig.Z32.map (Value.int .u8)).toArray) Tryd.underlying22 (by kernel_rfl) rfl (by omega)

theorem OwnV.hs {e : TypeId} {w : World} {O : Nat → Prop} {v : Value} {n : Nat} {hs : List H} (h : OwnV e 32 w O v n (cellsH hs)) (hok : Okh hs) (hn : n = hs.length) : HS w O v hs := ⟨hok, by subst hn; exact h.slV⟩

theorem TRel.rebase {w w2 : World} {t m : Nat} {l : List H} {wr : World} (h : TRel w2 t l m wr) (hb : Below w.heap.size w w2) : TRel w t l m wr := by
  obtain ⟨O, h1, h2, h3, h4⟩ := h
  exact ⟨O, h1, hb.trans (h2.mono hb.size), fun b hb' => Nat.le_trans hb.size (h3 b hb'), Nat.le_trans hb.size h4⟩

theorem own_ge (w1 : World) (b : Nat) (hb : b = w1.heap.size ∨ b = (w1.alloc (.cells #[] 27)).heap.size) : w1.heap.size ≤ b := by
  rcases hb with rfl | rfl
  · exact Nat.le_refl _
  · simp
theorem own_below2 {w1 w3 w4 : World} {r : Option Nat} (hb : Below w1.heap.size w1 w3) (hg : w3.grownBy w4 r) (hr : ∀ g, r = some g → w1.heap.size ≤ g) : Below w1.heap.size w1 w4 :=
  hb.trans ((grown_keep hg).mono (fun b (hb' : b < w1.heap.size) => ⟨by have := hb.size; omega, fun e => by have := hr b e; omega⟩)).below

theorem rootV_left {l r : List H} {k : Nat} (h : k ≤ l.length) : rootV (l ++ r) (k : Int) = rootV l (k : Int) := by
  unfold rootV
  rw [if_pos (by simp; omega), if_pos (by omega)]
  have e : ((k : Int)).toNat = k := by omega
  rw [e, List.take_append_of_le_length h]
theorem rootC_ok {l : List H} {k : Nat} (h : k ≤ l.length) : rootC l (k : Int) = 0 := by unfold rootC; rw [if_pos (by omega)]

set_option maxRecDepth 100000 in
set_option maxHeartbeats 4000000 in
theorem goes_any {v0 v1 : Value} {O0 O1 : Nat → Prop} {l more : List H} (w : World) (h0 : HS w O0 v0 l) (h1 : HS w O1 v1 more) (hl : l.length ≤ 140737488355328) (hm : more.length ≤ 140737488355328) (hT : Tab w) (hk : Known Tryd.prog) :
    Calls Tryd.prog 3 #[v0, v1] w fun e w' => e = .returned (.bool true) ∧ Below w.heap.size w w' := by
  have hz := zeroHash
  have H0 := Hid2.mk h0
  have H1 := Hid2.mk h1
  have HT := Hid2.mk hT
  have HKn := Hid2.mk hk
  clear hk
  obtain ⟨sp0, cap0, rfl, hc0, hc0'⟩ := h0.form
  obtain ⟨sp1, cap1, rfl, hc1, hc1'⟩ := h1.form
  clear h0 h1 hT
  by_cases hbig : (80 : Int) < (l.length : Int) + more.length
  · go_enter Tryd.func3, Tryd.ntmps3
    go_wp2_with fail
    go_ret
    exact ⟨rfl, Below.refl _ _⟩
  · have hsm : l.length + more.length ≤ 80 := by omega
    clear hl hm
    go_enter Tryd.func3, Tryd.ntmps3
    go_wp2_with fail
    refine (made_any H0.out (by omega)).mono ?_
    rintro e w1 ⟨t, rfl, ht⟩
    have Ht := Hid2.mk ht
    have hb0 : Below w1.heap.size w1 (w1.alloc (.cells #[] 27)) := (Below.refl _ _).alloc (Nat.le_refl _) _
    have Hb0 := Hid2.mk hb0
    have Hs0 := Hid2.mk (((H0.out.below Ht.out.bel (Nat.le_refl _)).below hb0 (Nat.le_refl _)).2)
    have Hs1 := Hid2.mk (H1.out.below Ht.out.bel (Nat.le_refl _))
    have hnl := hsm
    clear ht hb0
    go_wp2_with (first
      | (refine wpList_appV rfl (.tmp 26) (.tmp 27) 22 rfl elemHash rfl (OwnV.empty w1 27 32) rfl Hs0.out (n' := l.length) (Nat.zero_add _) (by unfold maxLen; omega) (by omega) ?_
         intro sp3 c3 w3 hown3 hg3 hat3
         have hb3 : Below w1.heap.size w1 w3 := own_below2 Hb0.out hg3 (fun g e => by have e2 : w1.heap.size = g := Option.some.inj e; omega)
         have hown3' : OwnV 27 32 w3 (fun g => w1.heap.size ≤ g) (.slice sp3 l.length c3) l.length (cellsH l) := hown3.mono (fun b hb => own_ge w1 b hb)
         have Hown3 := Hid2.mk hown3'
         have Hb3 := Hid2.mk hb3
         have Hs3 := Hid2.mk (Hs1.out.below hb3 (Nat.le_refl _)).2
         clear hown3 hg3 hat3 hb3 hown3')
      | (refine wpList_appV rfl (.tmp 28) (.tmp 29) 22 rfl elemHash rfl Hown3.out rfl Hs3.out (n' := l.length + more.length) rfl (by unfold maxLen; omega) (by omega) ?_
         intro sp4 c4 w4 hown4 hg4 hat4
         have hb4 : Below w1.heap.size w1 w4 := own_below2 Hb3.out hg4 (fun g e => Hown3.out.own e)
         have Hb4 := Hid2.mk hb4
         have Hh4 := Hid2.mk (show HS w4 (fun g => w1.heap.size ≤ g ∨ g = w3.heap.size) (.slice sp4 (l.length + more.length) c4) (l ++ more) from OwnV.hs (by rw [cellsH_app]; exact hown4) (okh_app H0.out.1 H1.out.1) (by simp))
         clear hown4 hg4 hat4 hb4))
    refine (made_any Hh4.out (by simp; omega)).mono ?_
    rintro e w5 ⟨u, rfl, hu⟩
    have Ht5 := Hid2.mk (Ht.out.below (Hb4.out.trans (hu.bel.mono Hb4.out.size)))
    have Hu5 := Hid2.mk (hu.rebase (Ht.out.bel.trans (Hb4.out.mono Ht.out.size)))
    clear hu Hb4 Hh4 Hs3 Hb3 Hown3 Hs1 Hs0 Hb0 Ht
    go_wp2_with fail
    go_loopw [9] (fun i wr => ∃ k : Nat, k ≤ l.length + 1 ∧ i = .int .i64 (k : Nat) ∧ TRel w t l (22 * l.length) wr ∧ TRel w u (l ++ more) (22 * (l ++ more).length) wr) (fun i _ => l.length + 1 - (intOf i).toNat)
    case atStart => exact ⟨0, by omega, rfl, Ht5.out, Hu5.out⟩
    case round =>
      obtain ⟨k, hk, rfl, hrt, hru⟩ := hrel
      have Hrt := Hid2.mk hrt
      have Hru := Hid2.mk hru
      clear hrt hru
      by_cases hkl : k ≤ l.length
      · have g1 : (k : Int) ≤ l.length := by omega
        obtain ⟨O5, h5, -⟩ := Hrt.out
        go_wp2_with fail
        refine (rootTop_a h5 (HT.out.below Hrt.out.bel (Nat.le_refl _)) (by omega) _).mono ?_
        rintro e w6 ⟨rfl, hb6⟩
        rw [rootC_ok hkl]
        have hrl := rootV_len H0.out.1 (k : Int)
        have hru2 := rootV_left (r := more) hkl
        obtain ⟨rr, hrr⟩ : ∃ rr, rr = rootV l (k : Int) := ⟨_, rfl⟩
        rw [← hrr] at hrl hru2 ⊢
        have Hrl := Hid2.mk hrl
        have Hru2 := Hid2.mk hru2
        obtain ⟨q1, q2, q3⟩ := alloc_store w6 rr
        have Q1 := Hid2.mk q1
        have Q2 := Hid2.mk q2
        have Q3 := Hid2.mk q3
        have Hrt6 := Hid2.mk (Hrt.out.below hb6)
        have Hru6 := Hid2.mk (Hru.out.below hb6)
        clear hrl hru2 hrr q1 q2 q3 hb6 Hrt Hru h5
        go_wp2_with (refine wpList_store_row rfl 27 (.tmp 10) (.tmp 50) rfl w6.heap.size (rr.map (Value.int .u8)).toArray rfl rfl 27 (Dig.Z32.map (Value.int .u8)).toArray Q1.out (infoH rr Hrl.out) (sizeH _ _ z32_len Hrl.out) (oneH _) ?_)
        generalize (World.setRow _ _ _) = w7 at Q2 Q3 ⊢
        have Hrt7 := Hid2.mk (Hrt6.out.below Q3.out)
        have Hru7 := Hid2.mk (Hru6.out.below Q3.out)
        clear Hrt6 Hru6 Q1 Q3
        obtain ⟨O6, h6, -⟩ := Hru7.out
        refine (rootTop_a h6 (HT.out.below Hru7.out.bel (Nat.le_refl _)) (by simp; omega) _).mono ?_
        rintro e w8 ⟨rfl, hb8⟩
        rw [rootC_ok (l := l ++ more) (by simp; omega), Hru2.out]
        have R2 := Hid2.mk (Q2.out.below hb8 Q2.out.lt)
        have Hrt8 := Hid2.mk (Hrt7.out.below hb8)
        have Hru8 := Hid2.mk (Hru7.out.below hb8)
        obtain ⟨q1, q2, q3⟩ := alloc_store w8 rr
        have Q1 := Hid2.mk q1
        have Q4 := Hid2.mk q2
        have Q3 := Hid2.mk q3
        clear q1 q2 q3 hb8 Hrt7 Hru7 h6 Q2
        have hne : ∀ W, (binOp .neq 27 (.agg (rr.map (Value.int .u8)).toArray) (.agg (rr.map (Value.int .u8)).toArray)).run Tryd.prog W = .ok (.bool false) W := fun W => by rw [neqH rr rr Hrl.out Hrl.out W]; simp
        go_wp2_with (first
          | (refine wpList_store_row rfl 27 (.tmp 12) (.tmp 56) rfl w8.heap.size (rr.map (Value.int .u8)).toArray rfl rfl 27 (Dig.Z32.map (Value.int .u8)).toArray Q1.out (infoH rr Hrl.out) (sizeH _ _ z32_len Hrl.out) (oneH _) ?_
             generalize (World.setRow _ _ _) = w9 at Q4 Q3 ⊢
             have R9 := Hid2.mk (R2.out.below Q3.out R2.out.lt)
             have Hrt9 := Hid2.mk (Hrt8.out.below Q3.out)
             have Hru9 := Hid2.mk (Hru8.out.below Q3.out)
             clear Hrt8 Hru8 Q1 Q3 R2)
          | (refine wpList_load_row rfl 27 (.tmp 10) rfl w6.heap.size rfl 27 (rr.map (Value.int .u8)).toArray (0, 0) _ R9.out Tryd.underlying27 rfl (infoH rr Hrl.out) ?_)
          | (refine wpList_load_row rfl 27 (.tmp 12) rfl w8.heap.size rfl 27 (rr.map (Value.int .u8)).toArray (0, 0) _ Q4.out Tryd.underlying27 rfl (infoH rr Hrl.out) ?_))
        go_roundw
        case rel => exact ⟨k + 1, by omega, by go_num, Hrt9.out, Hru9.out⟩
        case measure => simp [intOf]; omega
      · have g1 : (l.length : Int) < k := by omega
        go_wp2_with fail
        refine (HKn.out _ (HT.out.below Hrt.out.bel (Nat.le_refl _))).mono ?_
        rintro e w9 ⟨rfl, hb9⟩
        have Hb9 := Hid2.mk hb9
        clear hb9
        go_wp2_with fail
        go_ret
        exact ⟨rfl, Hrt.out.bel.trans (Hb9.out.mono Hrt.out.size)⟩

end Mk
end Go.Proofs.YtfdgclnjpbkggaaDoor
