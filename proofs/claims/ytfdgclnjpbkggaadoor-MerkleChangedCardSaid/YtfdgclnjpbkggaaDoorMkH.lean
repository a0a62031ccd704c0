/- The law MerkleHalves, walked. -/
import Derived.Test.YtfdgclnjpbkggaaDoorMkG
import Derived.Test.YtfdgclnjpbkggaaDoorMkF
namespace Go.Proofs.YtfdgclnjpbkggaaDoor
open Go.RowKit Go.Maps
namespace Mk

/-- The root of a power of two of leaves and of as many again, or fewer. -/
theorem rt_halves {l m : List H} {j : Nat} (hl : l.length = 2 ^ j) (h1 : 1 ≤ m.length) (h2 : m.length ≤ 2 ^ j) : rt (l ++ m) = nodeP (rt l) (rt m) := by
  have hp : 0 < 2 ^ j := Nat.pow_pos (by decide)
  have hh : half (l ++ m).length = 2 ^ j := half_eq (by rw [List.length_append, hl]; omega) (by rw [List.length_append, hl, Nat.pow_succ]; omega)
  unfold rt
  rw [root_two (by rw [List.length_append, hl]; omega), hh]
  rw [List.take_append_of_le_length (by omega), ← hl, List.take_length, List.drop_append_of_le_length (by omega), List.drop_length, List.nil_append]

theorem rootV_all (l : List H) : rootV l (l.length : Int) = rt l := by
  unfold rootV
  rw [if_pos (by omega)]
  have e : ((l.length : Int)).toNat = l.length := by omega
  rw [e, List.take_length]
theorem rootC_all (l : List H) : rootC l (l.length : Int) = 0 := by unfold rootC; rw [if_pos (by omega)]

/-- A beginning of a row of digests. -/
theorem HS.take {w : World} {O : Nat → Prop} {sp : Option Addr} {n cap : Nat} {hs : List H} (h : HS w O (.slice sp n cap) hs) {k : Nat} (hk : k ≤ hs.length) : HS w O (.slice sp k cap) (hs.take k) := by
  obtain ⟨hok, hl, h1, sp', cap', e, h2, h3, h4, h5⟩ := h
  obtain ⟨rfl, rfl, rfl⟩ : sp = sp' ∧ n = hs.length ∧ cap = cap' := by simpa using e
  have hlt : (hs.take k).length = k := by rw [List.length_take]; omega
  have ht : cellsH hs = cellsH (hs.take k) ++ cellsH (hs.drop k) := by rw [← cellsH_app, List.take_append_drop]
  refine ⟨okh_take hok k, cellsH_len (okh_take hok k), ones_cellsH _, sp, cap, by rw [hlt], by rw [hlt]; omega, h3, h4, fun h0 => ?_⟩
  rw [hlt] at h0
  obtain ⟨b, o, e1, hb, hO, hr⟩ := h5 (by omega)
  refine ⟨b, o, e1, hb, hO, fun j hj => ?_⟩
  have hj2 : j < (cellsH hs).length := by rw [ht, List.length_append]; omega
  rw [hr j hj2, ht]
  simp [List.getElem?_append_left hj, hj]

/-- The greatest power of two that is not above a number. -/
def Top (n j : Nat) : Prop := 2 ^ j ≤ n ∧ n < 2 ^ (j + 1)

set_option maxRecDepth 100000 in
set_option maxHeartbeats 8000000 in
theorem halves_any {v0 v1 : Value} {O0 O1 : Nat → Prop} {l more : List H} (w : World) (h0 : HS w O0 v0 l) (h1 : HS w O1 v1 more) (hl : l.length ≤ 140737488355328) (hm : more.length ≤ 140737488355328) (hT : Tab w) :
    Calls Tryd.prog 4 #[v0, v1] w fun e w' => e = .returned (.bool true) ∧ Below w.heap.size w w' := by
  have hz := zeroHash
  have H0 := Hid2.mk h0
  have H1 := Hid2.mk h1
  have HT := Hid2.mk hT
  obtain ⟨sp0, cap0, rfl, hc0, hc0'⟩ := h0.form
  obtain ⟨sp1, cap1, rfl, hc1, hc1'⟩ := h1.form
  clear h0 h1 hT
  go_enter Tryd.func4, Tryd.ntmps4
  go_wp2_with fail
  go_loopw [5] (fun i wr => ∃ n j : Nat, i = .int .i64 (n : Nat) ∧ Hid2 (n = 2 ^ j) ∧ 1 ≤ n ∧ (n = 1 ∨ n ≤ l.length) ∧ wr = w) (fun i _ => l.length + 1 - (intOf i).toNat)
  case atStart => exact ⟨1, 0, rfl, Hid2.mk rfl, by omega, .inl rfl, rfl⟩
  case round =>
    obtain ⟨n, j, rfl, Hn, hn1, hn2, rfl⟩ := hrel
    by_cases hloop : 2 * n ≤ l.length
    · have g1 : (2 : Int) * n ≤ l.length := by omega
      have hw2 : IntKind.i64.wrap ((2 : Int) * n) = (2 : Int) * n := IntWalk.i64_in _ (by omega)
      have hjn : Hid2 (2 * n = 2 ^ (j + 1)) := Hid2.mk (by rw [Hn.out, Nat.pow_succ, Nat.mul_comm])
      have hn2' : 2 * n = 1 ∨ 2 * n ≤ l.length := .inr hloop
      have Hn2 := Hid2.mk hn2'
      clear hn2 hn2'
      go_wp2_with fail
      go_roundw
      case rel => exact ⟨2 * n, j + 1, by go_num, hjn, by omega, Hn2.out, trivial⟩
      case measure => simp [intOf]; omega
    · have g1 : (l.length : Int) < 2 * n := by omega
      have hw2 : IntKind.i64.wrap ((2 : Int) * n) = (2 : Int) * n := IntWalk.i64_in _ (by omega)
      by_cases hbad : l.length < 1 ∨ 80 < l.length ∨ more.length < 1
      · have hd : ((l.length : Int) < 1) ∨ ((1 : Int) ≤ l.length ∧ (80 : Int) < l.length) ∨ ((1 : Int) ≤ l.length ∧ (l.length : Int) ≤ 80 ∧ (more.length : Int) < 1) := by omega
        clear hbad hn2 hn1
        rcases hd with g2 | ⟨g2, g3⟩ | ⟨g2, g3, g4⟩ <;>
        ( go_wp2_with fail
          refine (known_any _ HT.out).mono ?_
          rintro e w9 ⟨rfl, hb9⟩
          have Hb9 := Hid2.mk hb9
          clear hb9
          go_wp2_with fail
          go_ret
          exact ⟨rfl, Hb9.out⟩ )
      · have g2 : (1 : Int) ≤ l.length := by omega
        have g3 : (l.length : Int) ≤ 80 := by omega
        have g4 : (1 : Int) ≤ more.length := by omega
        have hnl : n ≤ l.length := by omega
        have hn80 : n ≤ 80 := by omega
        clear hbad hn2
        obtain ⟨k, hk, hk1, hkn, hkm⟩ : ∃ k : Nat, (min (n : Int) (more.length : Int)) = (k : Int) ∧ 1 ≤ k ∧ k ≤ n ∧ k ≤ more.length := ⟨min n more.length, by omega, by omega, by omega, by omega⟩
        have hmin : (if (more.length : Int) < n then (more.length : Int) else n) = (k : Int) := by split <;> omega
        have hmin2 : (if (n : Int) < more.length then (n : Int) else more.length) = (k : Int) := by split <;> omega
        have hcl : (n : Int) ≤ cap0 := by omega
        have hcm : (k : Int) ≤ cap1 := by omega
        have hL0 := H0.out.take hnl
        have hM0 := H1.out.take hkm
        have hLl : (l.take n).length = n := by rw [List.length_take]; omega
        have hMl : (more.take k).length = k := by rw [List.length_take]; omega
        have hres : rt (l.take n ++ more.take k) = nodeP (rt (l.take n)) (rt (more.take k)) := rt_halves (j := j) (by rw [hLl]; exact Hn.out) (by omega) (by rw [hMl, ← Hn.out]; exact hkn)
        generalize l.take n = L at hL0 hLl hres
        generalize more.take k = M at hM0 hMl hres
        have HL0 := Hid2.mk hL0
        have HM0 := Hid2.mk hM0
        have HLl := Hid2.mk hLl
        have HMl := Hid2.mk hMl
        have Hres := Hid2.mk hres
        have hsum : (n : Int) + k ≤ 200 := by omega
        clear hL0 hM0 hLl hMl hres hl hm
        go_wp2_with fail
        refine (made_any HL0.out (by rw [HLl.out]; omega)).mono ?_
        rintro e w1 ⟨t, rfl, ht⟩
        have Ht := Hid2.mk ht
        have HM1 := Hid2.mk (HM0.out.below ht.bel (Nat.le_refl _))
        have HL1 := Hid2.mk (HL0.out.below ht.bel (Nat.le_refl _))
        clear ht hmin hmin2 g1 hw2 hcl hcm hk
        go_wp2_with fail
        refine (made_any HM1.out (by rw [HMl.out]; omega)).mono ?_
        rintro e w2 ⟨u, rfl, hu⟩
        have Hu2 := Hid2.mk (hu.rebase Ht.out.bel)
        have Ht2 := Hid2.mk (Ht.out.below hu.bel)
        have HM2 := Hid2.mk (HM1.out.below hu.bel (Nat.le_refl _))
        have HL2 := Hid2.mk (HL1.out.below hu.bel (Nat.le_refl _))
        clear hu Ht HM1 HL1
        have hb0 : Below w2.heap.size w2 (w2.alloc (.cells #[] 27)) := (Below.refl _ _).alloc (Nat.le_refl _) _
        have Hb0 := Hid2.mk hb0
        have Hs0 := Hid2.mk (show SlV (w2.alloc (.cells #[] 27)) O0 32 (.slice sp0 n cap0) n (cellsH L) by have := (HL2.out.below hb0 (Nat.le_refl _)).2; rw [HLl.out] at this; exact this)
        have hn2' : n ≤ 200 := by omega
        have hk2' : k ≤ 200 := by omega
        clear hb0
        go_wp2_with (first
          | (refine wpList_appV rfl (.tmp 59) (.tmp 60) 22 rfl elemHash rfl (OwnV.empty w2 27 32) rfl Hs0.out (n' := n) (Nat.zero_add _) (by unfold maxLen; omega) (by omega) ?_
             intro sp3 c3 w3 hown3 hg3 hat3
             have hb3 : Below w2.heap.size w2 w3 := own_below2 Hb0.out hg3 (fun g e => by have e2 : w2.heap.size = g := Option.some.inj e; omega)
             have hown3' : OwnV 27 32 w3 (fun g => w2.heap.size ≤ g) (.slice sp3 n c3) n (cellsH L) := hown3.mono (fun b hb => own_ge w2 b hb)
             have Hown3 := Hid2.mk hown3'
             have Hb3 := Hid2.mk hb3
             have Hs3 := Hid2.mk (show SlV w3 O1 32 (.slice sp1 k cap1) k (cellsH M) by have := (HM2.out.below hb3 (Nat.le_refl _)).2; rw [HMl.out] at this; exact this)
             clear hown3 hg3 hat3 hb3 hown3')
          | (refine wpList_appV rfl (.tmp 61) (.tmp 62) 22 rfl elemHash rfl Hown3.out rfl Hs3.out (n' := n + k) rfl (by unfold maxLen; omega) (by omega) ?_
             intro sp4 c4 w4 hown4 hg4 hat4
             have hb4 : Below w2.heap.size w2 w4 := own_below2 Hb3.out hg4 (fun g e => Hown3.out.own e)
             have Hb4 := Hid2.mk hb4
             have Hh4 := Hid2.mk (show HS w4 (fun g => w2.heap.size ≤ g ∨ g = w3.heap.size) (.slice sp4 (n + k) c4) (L ++ M) from OwnV.hs (by rw [cellsH_app]; exact hown4) (okh_app HL0.out.1 HM0.out.1) (by rw [List.length_append, HLl.out, HMl.out]))
             clear hown4 hg4 hat4 hb4))
        refine (made_any Hh4.out (by rw [List.length_append, HLl.out, HMl.out]; omega)).mono ?_
        rintro e w5 ⟨x, rfl, hx⟩
        have Ht5 := Hid2.mk (Ht2.out.below (Hb4.out.trans (hx.bel.mono Hb4.out.size)))
        have Hu5 := Hid2.mk (Hu2.out.below (Hb4.out.trans (hx.bel.mono Hb4.out.size)))
        have Hx5 := Hid2.mk (hx.rebase (Ht2.out.bel.trans (Hb4.out.mono Ht2.out.size)))
        clear hx Hb4 Hh4 Hs3 Hb3 Hown3 Hs0 Hb0 Ht2 Hu2 HM2 HL2
        have eA : rootV L (n : Int) = rt L := by have := rootV_all L; rw [HLl.out] at this; exact this
        have eA0 : rootC L (n : Int) = 0 := by have := rootC_all L; rw [HLl.out] at this; exact this
        have eB : rootV M (k : Int) = rt M := by have := rootV_all M; rw [HMl.out] at this; exact this
        have eB0 : rootC M (k : Int) = 0 := by have := rootC_all M; rw [HMl.out] at this; exact this
        have eC : rootV (L ++ M) ((n : Int) + k) = rt (L ++ M) := by have := rootV_all (L ++ M); rw [List.length_append, HLl.out, HMl.out] at this; simpa using this
        have eC0 : rootC (L ++ M) ((n : Int) + k) = 0 := by have := rootC_all (L ++ M); rw [List.length_append, HLl.out, HMl.out] at this; simpa using this
        have lA := rt_len HL0.out.1
        have lB := rt_len HM0.out.1
        rw [Hres.out] at eC
        generalize rt L = A at eA lA eC
        generalize rt M = B at eB lB eC
        have lC : (nodeP A B).length = 32 := nodeP_len _ _
        obtain ⟨C, hC⟩ : ∃ C, C = nodeP A B := ⟨_, rfl⟩
        rw [← hC] at eC lC
        have EA := Hid2.mk eA
        have EA0 := Hid2.mk eA0
        have EB := Hid2.mk eB
        have EB0 := Hid2.mk eB0
        have EC := Hid2.mk eC
        have EC0 := Hid2.mk eC0
        have LA := Hid2.mk lA
        have LB := Hid2.mk lB
        have LC := Hid2.mk lC
        have HC := Hid2.mk hC
        clear eA eA0 eB eB0 eC eC0 lA lB lC hC
        go_wp2_with fail
        obtain ⟨O6, h6, -⟩ := Ht5.out
        refine (rootTop_a h6 (HT.out.below Ht5.out.bel (Nat.le_refl _)) (by rw [HLl.out]; omega) _).mono ?_
        rintro e w6 ⟨rfl, hb6⟩
        rw [EA.out, EA0.out]
        obtain ⟨q1, q2, q3⟩ := alloc_store w6 A
        have Q1 := Hid2.mk q1
        have Q2 := Hid2.mk q2
        have Q3 := Hid2.mk q3
        have Hu6 := Hid2.mk (Hu5.out.below hb6)
        have Hx6 := Hid2.mk (Hx5.out.below hb6)
        clear q1 q2 q3 hb6 Ht5 Hu5 Hx5 h6
        go_wp2_with (refine wpList_store_row rfl 27 (.tmp 12) (.tmp 82) rfl w6.heap.size (A.map (Value.int .u8)).toArray rfl rfl 27 (Dig.Z32.map (Value.int .u8)).toArray Q1.out (infoH A LA.out) (sizeH _ _ z32_len LA.out) (oneH _) ?_)
        generalize (World.setRow _ _ _) = w7 at Q2 Q3 ⊢
        have Hu7 := Hid2.mk (Hu6.out.below Q3.out)
        have Hx7 := Hid2.mk (Hx6.out.below Q3.out)
        clear Hu6 Hx6 Q1 Q3
        obtain ⟨O7, h7, -⟩ := Hu7.out
        refine (rootTop_a h7 (HT.out.below Hu7.out.bel (Nat.le_refl _)) (by rw [HMl.out]; omega) _).mono ?_
        rintro e w8 ⟨rfl, hb8⟩
        rw [EB.out, EB0.out]
        have RA8 := Hid2.mk (Q2.out.below hb8 Q2.out.lt)
        obtain ⟨q1, q2, q3⟩ := alloc_store w8 B
        have Q1 := Hid2.mk q1
        have Q4 := Hid2.mk q2
        have Q3 := Hid2.mk q3
        have Hx8 := Hid2.mk (Hx7.out.below hb8)
        clear q1 q2 q3 hb8 Hu7 Hx7 h7 Q2
        go_wp2_with (refine wpList_store_row rfl 27 (.tmp 14) (.tmp 89) rfl w8.heap.size (B.map (Value.int .u8)).toArray rfl rfl 27 (Dig.Z32.map (Value.int .u8)).toArray Q1.out (infoH B LB.out) (sizeH _ _ z32_len LB.out) (oneH _) ?_)
        generalize (World.setRow _ _ _) = w9 at Q4 Q3 ⊢
        have RA9 := Hid2.mk (RA8.out.below Q3.out RA8.out.lt)
        have Hx9 := Hid2.mk (Hx8.out.below Q3.out)
        clear Hx8 Q1 Q3 RA8
        obtain ⟨O9, h9, -⟩ := Hx9.out
        refine (rootTop_a h9 (HT.out.below Hx9.out.bel (Nat.le_refl _)) (by rw [List.length_append, HLl.out, HMl.out]; omega) _).mono ?_
        rintro e w10 ⟨rfl, hb10⟩
        rw [EC.out, EC0.out]
        have RA10 := Hid2.mk (RA9.out.below hb10 RA9.out.lt)
        have RB10 := Hid2.mk (Q4.out.below hb10 Q4.out.lt)
        obtain ⟨q1, q2, q3⟩ := alloc_store w10 C
        have Q1 := Hid2.mk q1
        have Q5 := Hid2.mk q2
        have Q3 := Hid2.mk q3
        have Hx10 := Hid2.mk (Hx9.out.below hb10)
        clear q1 q2 q3 hb10 Hx9 h9 Q4 RA9
        go_wp2_with (refine wpList_store_row rfl 27 (.tmp 16) (.tmp 99) rfl w10.heap.size (C.map (Value.int .u8)).toArray rfl rfl 27 (Dig.Z32.map (Value.int .u8)).toArray Q1.out (infoH C LC.out) (sizeH _ _ z32_len LC.out) (oneH _) ?_)
        generalize (World.setRow _ _ _) = w11 at Q5 Q3 ⊢
        have RA11 := Hid2.mk (show w11.heap[w6.heap.size]? = some (.cells (A.map (Value.int .u8)).toArray 27 (0, 0)) from RA10.out.below Q3.out RA10.out.lt)
        have RB11 := Hid2.mk (show w11.heap[w8.heap.size]? = some (.cells (B.map (Value.int .u8)).toArray 27 (0, 0)) from RB10.out.below Q3.out RB10.out.lt)
        have RC11 := Hid2.mk (show w11.heap[w10.heap.size]? = some (.cells (C.map (Value.int .u8)).toArray 27 (0, 0)) from Q5.out)
        have Hx11 := Hid2.mk (Hx10.out.below Q3.out)
        have HT11 := Hid2.mk (HT.out.below Hx11.out.bel (Nat.le_refl _))
        have HC1 : Hid2 (∀ W : World, Calls Tryd.prog 13 #[.agg (A.map (Value.int .u8)).toArray, .agg (B.map (Value.int .u8)).toArray] W fun e w' => e = .returned (.agg (C.map (Value.int .u8)).toArray) ∧ Below W.heap.size W w') := Hid2.mk fun W => by rw [HC.out]; exact refNode_a W LA.out LB.out
        have heq : ∀ W, (binOp .eql 27 (.agg (C.map (Value.int .u8)).toArray) (.agg (C.map (Value.int .u8)).toArray)).run Tryd.prog W = .ok (.bool true) W := fun W => by rw [eqlH C C LC.out LC.out W]; simp
        clear Hx10 Q1 Q3 Q5 RA10 RB10 EA EA0 EB EB0 EC EC0 HC HL0 HM0 Hres HLl HMl Hn hz
        go_wp2_with fail
        refine wp_region_quietB (by kernel_rfl) (by kernel_rfl) ?_
        (go_big_quiet_want; go_big_quiet_op; first | go_big_quiet_on | (refine ⟨_, fun _ _ => rfl, ?_⟩; go_big_quiet_on))
        (go_big_quiet_want; go_big_quiet_op; first | go_big_quiet_on | (refine ⟨_, fun _ _ => rfl, ?_⟩; go_big_quiet_on))
        (go_big_quiet_want; go_big_quiet_op; first | go_big_quiet_on | (refine ⟨_, fun _ _ => rfl, ?_⟩; go_big_quiet_on))
        (go_big_quiet_want; go_big_quiet_op; first | go_big_quiet_on | (refine ⟨_, fun _ _ => rfl, ?_⟩; go_big_quiet_on))
        (go_big_quiet_want; go_big_quiet_op; first | go_big_quiet_on | (refine ⟨_, fun _ _ => rfl, ?_⟩; go_big_quiet_on))
        (go_big_quiet_want; go_big_quiet_op; first | go_big_quiet_on | (refine ⟨_, fun _ _ => rfl, ?_⟩; go_big_quiet_on))
        (go_big_quiet_want; go_big_quiet_op; first | go_big_quiet_on | (refine ⟨_, fun _ _ => rfl, ?_⟩; go_big_quiet_on))
        (go_big_quiet_want; go_big_quiet_op; first | go_big_quiet_on | (refine ⟨_, fun _ _ => rfl, ?_⟩; go_big_quiet_on))
        (go_big_quiet_want; go_big_quiet_op; first | go_big_quiet_on | (refine ⟨_, fun _ _ => rfl, ?_⟩; go_big_quiet_on))
        (go_big_quiet_want; go_big_quiet_op; first | go_big_quiet_on | (refine ⟨_, fun _ _ => rfl, ?_⟩; go_big_quiet_on))
        (go_big_quiet_want; go_big_quiet_op; first | go_big_quiet_on | (refine ⟨_, fun _ _ => rfl, ?_⟩; go_big_quiet_on))
        (go_big_quiet_want; refine quiet_loadB 27 (.tmp 16) rfl w10.heap.size rfl 27 (C.map (Value.int .u8)).toArray (0, 0) _ RC11.out Tryd.underlying27 rfl (infoH C LC.out) ?_; go_simp; go_big_quiet_on)
        (go_big_quiet_want; refine quiet_loadB 27 (.tmp 12) rfl w6.heap.size rfl 27 (A.map (Value.int .u8)).toArray (0, 0) _ RA11.out Tryd.underlying27 rfl (infoH A LA.out) ?_; go_simp; go_big_quiet_on)
        (go_big_quiet_want; refine quiet_loadB 27 (.tmp 14) rfl w8.heap.size rfl 27 (B.map (Value.int .u8)).toArray (0, 0) _ RB11.out Tryd.underlying27 rfl (infoH B LB.out) ?_; go_simp; go_big_quiet_on)
        (go_big_quiet_want; go_big_quiet_op; apply Exists.intro; refine ⟨fun _ hB => ?_, ?_⟩; (focus (go_at_call 13; exact callB hB (HC1.out _))); go_big_quiet_on)
        (go_big_quiet_want; go_big_quiet_op; first | go_big_quiet_on | (refine ⟨_, fun _ _ => rfl, ?_⟩; go_big_quiet_on))
        (go_big_quiet_want; go_big_quiet_op; first | go_big_quiet_on | (refine ⟨_, fun _ _ => rfl, ?_⟩; go_big_quiet_on))
        (go_big_quiet_want; go_big_quiet_op; first | go_big_quiet_on | (refine ⟨_, fun _ _ => rfl, ?_⟩; go_big_quiet_on))
        (go_big_quiet_want; go_big_quiet_op; apply Exists.intro; refine ⟨fun _ hB => ?_, ?_⟩; (focus (go_at_call 12; exact callB hB (known_any _ (HT11.out.below hB (Nat.le_refl _))))); go_big_quiet_on)
        (go_big_quiet_want; go_big_quiet_op; first | go_big_quiet_on | (refine ⟨_, fun _ _ => rfl, ?_⟩; go_big_quiet_on))
        (go_big_quiet_want; go_big_quiet_op; first | go_big_quiet_on | (refine ⟨_, fun _ _ => rfl, ?_⟩; go_big_quiet_on))
        refine wpQuiet_nil ?_
        intro w' hw'
        have hbf := Hid2.mk (Hx11.out.bel.trans (hw'.mono Hx11.out.size))
        clear hw' heq RA11 RB11 RC11 Hx11
        go_wp2_with fail
        go_ret
        exact ⟨rfl, hbf.out⟩

end Mk
end Go.Proofs.YtfdgclnjpbkggaaDoor
