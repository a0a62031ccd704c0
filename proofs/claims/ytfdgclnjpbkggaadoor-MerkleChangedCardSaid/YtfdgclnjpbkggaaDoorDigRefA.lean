/- digest's reference: its small functions, and what a block is taken in by. -/
import Derived.Test.YtfdgclnjpbkggaaDoorDigSum
import Derived.Test.YtfdgclnjpbkggaaDoorBaseC
import Derived.StillTailTactics
namespace Go.Proofs.YtfdgclnjpbkggaaDoor
open Go.RowKit
namespace Dig

set_option maxHeartbeats 400000 in
theorem r_any (x n : Int) (w : World) (hn : 0 ≤ n) (hn2 : n ≤ 32) :
    Calls Tryd.prog 51 #[.int .u32 x, .int .u64 n] w fun e w' => e = .returned (.int .u32 (rotr x n)) ∧ w = w' := by
  go_enter Tryd.func51, Tryd.ntmps51
  go_wp2
  go_ret
  exact ⟨rfl, rfl⟩
theorem r_same (x n : Int) (w : World) (hn : 0 ≤ n) (hn2 : n ≤ 32) :
    Calls Tryd.prog 51 #[.int .u32 x, .int .u64 n] w fun e w' => e = .returned (.int .u32 (rotr x n)) ∧ w' = w :=
  (r_any x n w hn hn2).mono fun _ _ ⟨a, b⟩ => ⟨a, b.symm⟩

set_option maxRecDepth 100000 in
set_option maxHeartbeats 1000000 in
theorem k_any (w : World) :
    Calls Tryd.prog 44 #[] w fun e w' => e = .returned (.agg (K.map (Value.int .u32)).toArray) ∧ Below w.heap.size w w' := by
  go_enter Tryd.func44, Tryd.ntmps44
  go_wp2_with (first | (refine wpList_build_to rfl 80 _ rfl (K.map (Value.int .u32)).toArray (by kernel_rfl) ?_) | (refine wpList_store_row rfl 80 _ _ rfl w.heap.size (K.map (Value.int .u32)).toArray rfl rfl 80 _ (heap_alloc_new _ _) (by kernel_rfl) (by kernel_rfl) (by kernel_rfl) ?_))
  refine bodyPost_ret (results_cell_row rfl _ _ w.heap.size 80 (K.map (Value.int .u32)).toArray (0, 0) _ rfl (setRow_heap _ _ _ _ _ _ (heap_alloc_new _ _)) Tryd.underlying80 rfl (by kernel_rfl)) rfl ⟨rfl, ?_⟩
  exact below_setRow ((Below.refl _ _).alloc (Nat.le_refl _) _) (Nat.le_refl _) _

/-- Sixty-four words, all nought. -/
def Z64 : List Int := List.replicate 64 0
theorem zero43 (w : World) : (zeroValue 80).run Tryd.prog w = .ok (.agg (Z64.map (Value.int .u32)).toArray) w := by kernel_rfl
def Z8 : List Int := List.replicate 8 0
theorem zero41 (w : World) : (zeroValue 78).run Tryd.prog w = .ok (.agg (Z8.map (Value.int .u32)).toArray) w := by kernel_rfl

theorem mk8' (T : TypeId) (w : World) (l : List Int) (h : l.length = 8) :
    IBlk .u32 T (w.alloc (.cells #[.int .u32 (nth l 0), .int .u32 (nth l 1), .int .u32 (nth l 2), .int .u32 (nth l 3), .int .u32 (nth l 4), .int .u32 (nth l 5), .int .u32 (nth l 6), .int .u32 (nth l 7)] T)) w.heap.size l := by
  have := VBlk.mk w (l.map (Value.int .u32)) T
  match l, h with
  | [a, b, c, d, e, f, g, i], _ => exact this

set_option maxRecDepth 100000 in
set_option maxHeartbeats 2000000 in
theorem block_any (bb ob n cap bk : Nat) (st by_ kk : List Int) (T' : TypeId) (w : World) (hn : 64 ≤ n) (hn2 : n ≤ 9223372036854775807)
    (hbb : bb < w.heap.size) (hby : Row .u8 w bb ob by_) (hkk : IBlk .u32 T' w bk kk) (hl1 : st.length = 8) (hl2 : 64 ≤ by_.length) (hl3 : kk.length = 64) :
    Calls Tryd.prog 45 #[.agg (st.map (Value.int .u32)).toArray, .slice (some ⟨bb, ob, none⟩) n cap, .pointer (some ⟨bk, 0, none⟩)] w
      fun e w' => e = .returned (.agg ((compress kk by_ st).map (Value.int .u32)).toArray) ∧ Below w.heap.size w w' := by
  have hbk := hkk.lt
  have hz43 := zero43
  have hz41 := zero41
  go_enter Tryd.func45, Tryd.ntmps45
  go_wp2
  clear hz43 hz41
  obtain ⟨hA, hB, hC, hbel, hsz⟩ := three_alloc w (.cells (st.map (Value.int .u32)).toArray 78) (.cells (Z8.map (Value.int .u32)).toArray 78) (.cells (Z64.map (Value.int .u32)).toArray 80)
  generalize World.alloc _ _ = w0 at hA hB hC hbel hsz ⊢
  have hS : IBlk .u32 78 w0 w.heap.size st := hA
  have hR : IBlk .u32 78 w0 (w.heap.size + 1) Z8 := hB
  have hW : IBlk .u32 80 w0 (w.heap.size + 1 + 1) (load by_ 0) := hC
  clear hA hB hC
  go_loopw [8] (fun c wr => ∃ i : Nat, i ≤ 16 ∧ c = .int .i64 i ∧ IBlk .u32 80 wr (w.heap.size + 1 + 1) (load by_ i) ∧ Keep (fun k => k ≠ w.heap.size + 1 + 1) w0 wr)
    (fun c _ => 16 - (intOf c).toNat)
  case atStart => exact ⟨0, by omega, rfl, hW, Keep.refl _ _⟩
  case round =>
    clear hW
    obtain ⟨i, hi, rfl, hWr, hKr⟩ := hrel
    have hlw := load_length by_ i
    by_cases h16 : i < 16
    · have hrow : Row .u8 wr bb ob by_ := (hby.below hbel hbb).keep hKr (by omega)
      have c0 := hWr.cell i (by omega)
      have f0 := hWr.free i
      have a0 := hrow.at (4 * i) (by omega)
      have a1 := hrow.at' (4 * i + 1) (ob + (4 * i + 1)) (by omega) (by omega)
      have a2 := hrow.at' (4 * i + 2) (ob + (4 * i + 2)) (by omega) (by omega)
      have a3 := hrow.at' (4 * i + 3) (ob + (4 * i + 3)) (by omega) (by omega)
      have b0 : 4 * (i : Int) < n := by omega
      have b1 : 4 * (i : Int) + 1 < n := by omega
      have b2 : 4 * (i : Int) + 2 < n := by omega
      have b3 : 4 * (i : Int) + 3 < n := by omega
      go_wp2_with fail
      go_region
      go_wp2
      go_roundw
      case rel => exact ⟨i + 1, by omega, by go_num, hWr.set _ _, (hKr.setCell (fun h => h rfl) _).drewN 1⟩
      case measure => simp [intOf]; omega
    · have e16 : i = 16 := by omega
      rw [e16] at hWr
      clear e16 hlw
      have hi16 : decide ((i : Int) < 16) = false := decide_eq_false (by omega)
      go_wp2
      go_loopw [9] (fun c wr => ∃ i : Nat, i ≤ 48 ∧ c = .int .i64 (16 + (i : Int)) ∧ IBlk .u32 80 wr (w.heap.size + 1 + 1) (sched (load by_ 16) i) ∧ Keep (fun k => k ≠ w.heap.size + 1 + 1) w0 wr)
        (fun c _ => 64 - (intOf c).toNat)
      case atStart => exact ⟨0, by omega, rfl, hWr, hKr⟩
      case round =>
        clear hWr hKr
        obtain ⟨i, hi2, rfl, hWr, hKr⟩ := hrel
        have hlw : (sched (load by_ 16) i).length = 64 := (sched_length (load by_ 16) i).trans (load_length by_ 16)
        by_cases h48 : i < 48
        · have c0 := hWr.cell (16 + i) (by omega)
          have c1 := hWr.cell' (16 + i - 15) (i + 1) (by omega) (by omega)
          have c2 := hWr.cell' (16 + i - 2) (i + 14) (by omega) (by omega)
          have c3 := hWr.cell i (by omega)
          have c4 := hWr.cell' (16 + i - 7) (i + 9) (by omega) (by omega)
          have f0 := hWr.free (16 + i)
          go_wp2_with fail
          refine wp_region_still_tail 29 (by kernel_rfl) (by kernel_rfl) ?_
          simp only [List.take_succ_cons, List.take_zero, List.drop_succ_cons, List.drop_zero]
          rw [show ({ heap := wr.heap, tape := wr.tape, drawn := wr.drawn + 1, os := wr.os, output := wr.output } : World) = wr.drew from rfl]
          have g0 : (i : Int) < 64 := by omega
          have g9 : (i : Int) + 9 < 64 := by omega
          have g1 : (16 + (i : Int)) < 64 := by omega
          have g16 : 0 ≤ (16 + (i : Int)) := by omega
          have gt : (16 + (i : Int)).toNat = 16 + i := by omega
          have e1 : IntKind.i64.wrap (16 + (i : Int) - 16) = (i : Int) := (IntWalk.i64_in _ (by omega)).trans (by omega)
          have e2 : IntKind.i64.wrap (16 + (i : Int) - 7) = (i : Int) + 9 := (IntWalk.i64_in _ (by omega)).trans (by omega)
          have p9 : 0 ≤ (i : Int) + 9 := by omega
          have t9 : ((i : Int) + 9).toNat = i + 9 := by omega
          have c9 := hWr.cell (i + 9) (by omega)
          repeat (first | still_step | still_call (r_same _ _ _ (by decide) (by decide)))
          clear e1 e2 gt
          refine wpStill_nil ?_
          go_wp2
          go_roundw
          case rel => exact ⟨i + 1, by omega, by go_num, hWr.set _ _, (hKr.setCell (fun h => h rfl) _).drewN 1⟩
          case measure => simp [intOf]; omega
        · have e48 : i = 48 := by omega
          rw [e48] at hWr hlw
          clear e48
          have hd48 : decide (16 + (i : Int) < 64) = false := decide_eq_false (by omega)
          have hSr := hS.keep hKr (by omega)
          have hRr := hR.keep hKr (by omega)
          have hkr : IBlk .u32 T' wr bk kk := (hkk.below hbel hbk).keep hKr (by omega)
          have hbelr : Below w.heap.size w wr := hbel.trans (hKr.mono (fun k (hk : k < w.heap.size) => by omega)).below
          have hBz : w.heap.size + 1 + 1 < wr.heap.size := hWr.lt
          have d0 := hSr.cell 0 (by omega)
          have d1 := hSr.cell 1 (by omega)
          have d2 := hSr.cell 2 (by omega)
          have d3 := hSr.cell 3 (by omega)
          have d4 := hSr.cell 4 (by omega)
          have d5 := hSr.cell 5 (by omega)
          have d6 := hSr.cell 6 (by omega)
          have d7 := hSr.cell 7 (by omega)
          go_wp2
          have hV := mk8' 78 wr st hl1
          have hK2 : Keep (fun k => k < wr.heap.size) wr _ := Keep.of_below ((Below.refl wr.heap.size wr).alloc (Nat.le_refl _) (.cells #[.int .u32 (nth st 0), .int .u32 (nth st 1), .int .u32 (nth st 2), .int .u32 (nth st 3), .int .u32 (nth st 4), .int .u32 (nth st 5), .int .u32 (nth st 6), .int .u32 (nth st 7)] 78))
          generalize World.alloc _ _ = w2 at hV hK2 ⊢
          clear d0 d1 d2 d3 d4 d5 d6 d7 hS hR hbel
          have hS2 := hSr.keep hK2 hSr.lt
          have hR2 := hRr.keep hK2 hRr.lt
          have hk2 := hkr.keep hK2 hkr.lt
          have hW2 := hWr.keep hK2 hWr.lt
          have hbel2 : Below w.heap.size w w2 := hbelr.trans (hK2.mono (fun k (hk : k < w.heap.size) => by omega)).below
          clear hSr hRr hkr hWr hbelr hK2 hKr
          generalize wr.heap.size = Bv at hV hBz ⊢
          obtain ⟨W, hWW⟩ : ∃ W, W = sched (load by_ 16) 48 := ⟨_, rfl⟩
          rw [← hWW] at hW2 hlw
          have HW := Hid2.mk hWW
          clear hWW
          go_loopw [13] (fun c wr => ∃ i : Nat, i ≤ 64 ∧ c = .int .i64 i ∧ IBlk .u32 78 wr Bv (rounds kk W st i) ∧ Keep (fun k => k ≠ Bv) w2 wr)
            (fun c _ => 64 - (intOf c).toNat)
          case atStart => exact ⟨0, by omega, rfl, hV, Keep.refl _ _⟩
          case round =>
            clear hV
            obtain ⟨r, hr, rfl, hVr, hKr⟩ := hrel
            have hlv := rounds_length kk W st r hl1
            obtain ⟨v, hvv⟩ : ∃ v, v = rounds kk W st r := ⟨_, rfl⟩
            rw [← hvv] at hVr hlv
            have Hv := Hid2.mk hvv
            clear hvv
            by_cases hr64 : r < 64
            · have hkkr := hk2.keep hKr (by omega)
              have hWr := hW2.keep hKr (by omega)
              have d0 := hVr.cell 0 (by omega)
              have d1 := hVr.cell 1 (by omega)
              have d2 := hVr.cell 2 (by omega)
              have d3 := hVr.cell 3 (by omega)
              have d4 := hVr.cell 4 (by omega)
              have d5 := hVr.cell 5 (by omega)
              have d6 := hVr.cell 6 (by omega)
              have d7 := hVr.cell 7 (by omega)
              have f0 := hVr.free
              have k0 := hkkr.cell r (by omega)
              have w0 := hWr.cell r (by omega)
              go_wp2_with fail
              go_quiet (fail)
              go_wp2_with fail
              go_quiet ((go_at_call 51; exact quiet_add_left (r_any _ _ _ (by omega) (by omega))))
              go_wp2_with fail
              go_quiet ((go_at_call 51; exact quiet_add_left (r_any _ _ _ (by omega) (by omega))))
              go_wp2
              go_roundw
              case rel =>
                refine ⟨r + 1, by omega, by go_num, ?_, oth8 (hKr.drewN _) (fun h => h rfl) _ _ _ _ _ _ _ _⟩
                rw [rounds, ← Hv.out]
                exact set8 (hVr.drewN _) hlv _ _ _ _ _ _ _ _
              case measure => simp [intOf]; omega
            · have e64 : r = 64 := by omega
              have hd64 : decide ((r : Int) < 64) = false := decide_eq_false (by omega)
              have hVf : IBlk .u32 78 wr Bv (rounds kk W st 64) := by rw [← e64, ← Hv.out]; exact hVr
              have hSr := hS2.keep hKr (by omega)
              have hRr := hR2.keep hKr (by omega)
              have hbelr : Below w.heap.size w wr := hbel2.trans (hKr.mono (fun k (hk : k < w.heap.size) => by omega)).below
              have hl8 := rounds_length kk W st 64 hl1
              have hres : compress kk by_ st = addInto st (rounds kk W st 64) 8 := by rw [HW.out]; rfl
              have Hres := Hid2.mk hres
              obtain ⟨z, hz⟩ : ∃ z, z = rounds kk W st 64 := ⟨_, rfl⟩
              rw [← hz] at hVf hl8
              have Hz := Hid2.mk hz
              clear hz hres e64 hVr hlv Hv HW hKr hS2 hR2 hbel2 hW2 hk2 hlw
              go_wp2
              obtain ⟨w3, hw3⟩ : ∃ w3, w3 = wr := ⟨_, rfl⟩
              rw [← hw3] at hVf hSr hRr hbelr ⊢
              clear hw3
              go_loopw [18] (fun c wr => ∃ i : Nat, i ≤ 8 ∧ c = .int .i64 i ∧ IBlk .u32 78 wr w.heap.size (addInto st z i) ∧ Keep (fun k => k ≠ w.heap.size) w3 wr)
                (fun c _ => 8 - (intOf c).toNat)
              case atStart => exact ⟨0, by omega, rfl, hSr, Keep.refl _ _⟩
              case round =>
                clear hSr
                obtain ⟨q, hq, rfl, hSr, hKr⟩ := hrel
                have hls : (addInto st z q).length = 8 := (addInto_length st z q).trans hl1
                by_cases h8 : q < 8
                · have hVr := hVf.keep hKr (by omega)
                  have s0 := hSr.cell q (by omega)
                  have v0 := hVr.cell q (by omega)
                  have f0 := hSr.free q
                  go_wp2_with fail
                  go_region
                  go_wp2
                  go_roundw
                  case rel => exact ⟨q + 1, by omega, by go_num, hSr.set _ _, (hKr.setCell (fun h => h rfl) _).drewN 1⟩
                  case measure => simp [intOf]; omega
                · have e8 : q = 8 := by omega
                  have hd8 : decide ((q : Int) < 8) = false := decide_eq_false (by omega)
                  obtain ⟨hh, hhe⟩ : ∃ hh, hh = compress kk by_ st := ⟨_, rfl⟩
                  have hSf : IBlk .u32 78 wr w.heap.size hh := by rw [hhe, Hres.out, ← Hz.out, ← e8]; exact hSr
                  have hhl : hh.length = 8 := by rw [hhe, compress_length, hl1]
                  have Hhe := Hid2.mk hhe
                  have hRr2 := hRr.keep hKr (by omega)
                  have hbelf : Below w.heap.size w wr := hbelr.trans (hKr.mono (fun k (hk : k < w.heap.size) => by omega)).below
                  clear hhe e8 hSr hVf Hres Hz hls hRr hbelr hKr
                  have d0 := hSf.cell 0 (by omega)
                  have d1 := hSf.cell 1 (by omega)
                  have d2 := hSf.cell 2 (by omega)
                  have d3 := hSf.cell 3 (by omega)
                  have d4 := hSf.cell 4 (by omega)
                  have d5 := hSf.cell 5 (by omega)
                  have d6 := hSf.cell 6 (by omega)
                  have d7 := hSf.cell 7 (by omega)
                  have hg1 : wr.heap[w.heap.size + 1]? = some (.cells (Z8.map (Value.int .u32)).toArray 78 (0, 0)) := hRr2
                  have eq8 : (#[.int .u32 (nth hh 0), .int .u32 (nth hh 1), .int .u32 (nth hh 2), .int .u32 (nth hh 3), .int .u32 (nth hh 4), .int .u32 (nth hh 5), .int .u32 (nth hh 6), .int .u32 (nth hh 7)] : Array Value) = (hh.map (Value.int .u32)).toArray := by
                    conv => rhs; rw [eight hh hhl]
                    rfl
                  have hone : (#[.int .u32 (nth hh 0), .int .u32 (nth hh 1), .int .u32 (nth hh 2), .int .u32 (nth hh 3), .int .u32 (nth hh 4), .int .u32 (nth hh 5), .int .u32 (nth hh 6), .int .u32 (nth hh 7)] : Array Value).all (·.oneCell') = true := by rw [eq8]; simp [Value.oneCell']
                  have Hone := Hid2.mk hone
                  clear hone
                  have Eq8 := Hid2.mk eq8
                  have Hg1 := Hid2.mk hg1
                  clear eq8 hg1
                  go_wp2_with (refine wpList_store_row rfl 78 (.tmp 6) (.tmp 195) rfl (w.heap.size + 1) (#[.int .u32 (nth hh 0), .int .u32 (nth hh 1), .int .u32 (nth hh 2), .int .u32 (nth hh 3), .int .u32 (nth hh 4), .int .u32 (nth hh 5), .int .u32 (nth hh 6), .int .u32 (nth hh 7)]) rfl rfl 78 (Z8.map (Value.int .u32)).toArray Hg1.out (by kernel_rfl) rfl Hone.out ?_)
                  refine bodyPost_ret (results_cell_row rfl _ _ (w.heap.size + 1) 78 _ (0, 0) _ rfl (setRow_heap _ _ _ _ _ _ Hg1.out) Tryd.underlying78 rfl (by kernel_rfl)) rfl ⟨by rw [Eq8.out, Hhe.out], ?_⟩
                  exact below_setRow hbelf (by omega) _

end Dig
end Go.Proofs.YtfdgclnjpbkggaaDoor
