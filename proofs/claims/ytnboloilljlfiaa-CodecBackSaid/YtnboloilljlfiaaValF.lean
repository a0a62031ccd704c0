/- Values: shape, of every kind; check; Check. -/
import Derived.Test.YtnboloilljlfiaaValB
import Derived.Test.YtnboloilljlfiaaValC
import Derived.Test.YtnboloilljlfiaaValD
import Derived.Test.YtnboloilljlfiaaValE
namespace Go.Proofs.Ytnboloilljlfiaa
open Go.RowKit
namespace Vl

theorem shape_any {f : Nat} {w : World} {v : V} {cs : List Value} (h : IsV f w v cs) :
    Calls Try.prog 38 #[.agg cs.toArray] w fun e w' => e = .returned (.int .i64 (shp v)) ∧ Below w.heap.size w w' := by
  by_cases h1 : v.k = 1 ∨ v.k = 2 ∨ v.k = 3
  · exact shape_B h h1
  by_cases h4 : v.k = 4
  · exact shape_C h h4
  by_cases h5 : v.k = 5
  · exact shape_D h h5
  exact shape_E h ⟨fun e => h1 (.inl e), fun e => h1 (.inr (.inl e)), fun e => h1 (.inr (.inr e)), h4, h5⟩

/-- The kids that came in: each is one, and lies where the slice says. -/
theorem IsV.kids {f : Nat} {w : World} {v : V} {cs : List Value} (h : IsV (f + 1) w v cs) :
    ∃ sn kp kc, cs = [.int .i64 v.k, .int .i64 v.n, .int .i64 v.s, .string v.t, sn, .slice kp v.kids.length kc] ∧ v.kids.length ≤ kc ∧ kc ≤ 9223372036854775807 ∧
      (0 < v.kids.length → ∃ b o, kp = some ⟨b, o, none⟩ ∧ b < w.heap.size ∧ ∀ j, j < v.kids.length → ∃ c, c.length = 6 ∧ IsV f w (v.kids.getD j noV) c ∧ w.rangeAt b (o + j * 6) c) := by
  obtain ⟨sn, sk, rfl, -, -, -, -, -, ⟨kp, kc, rfl, kl, kc2, kr⟩⟩ := h
  exact ⟨sn, kp, kc, rfl, kl, kc2, kr⟩

theorem IsV.ones {f : Nat} {w : World} {v : V} {cs : List Value} (h : IsV f w v cs) : cs.toArray.all (·.oneCell') = true := by
  obtain ⟨np, nc, kp, kc, rfl, -⟩ := IsV.open h
  simp [Value.oneCell']
/-- Six cells of nothing. -/
abbrev zero6 : List Value := [.int .i64 0, .int .i64 0, .int .i64 0, .string ByteArray.empty, .slice none 0 0, .slice none 0 0]

set_option maxRecDepth 100000 in
set_option maxHeartbeats 8000000 in
theorem check_any : ∀ {f : Nat} {w : World} {v : V} {cs : List Value} (m : Nat) (d : Int), IsV f w v cs → m ≤ 16 → d = 17 - (m : Int) →
    Calls Try.prog 26 #[.agg cs.toArray, .int .i64 d] w fun e w' => e = .returned (.int .i64 (chk m v)) ∧ Below w.heap.size w w'
  | 0, _, _, _, _, _, h, _, _ => h.elim
  | f + 1, w, v, cs, m, d, h, hm, hd => by
    have ih : ∀ {w : World} {v : V} {cs : List Value} (m : Nat) (d : Int), IsV f w v cs → m ≤ 16 → d = 17 - (m : Int) → Calls Try.prog 26 #[.agg cs.toArray, .int .i64 d] w fun e w' => e = .returned (.int .i64 (chk m v)) ∧ Below w.heap.size w w' := @check_any f
    obtain ⟨sn, kp, kc, hcs, kl, kc2, kr⟩ := IsV.kids h
    have hlen := h.len
    have hbel : Below w.heap.size w (w.alloc (.cells cs.toArray 25)) := (Below.refl _ w).alloc (Nat.le_refl _) _
    have hR : VBlk 25 (w.alloc (.cells cs.toArray 25)) w.heap.size cs := VBlk.mk w _ _
    have h1 := h.below hbel
    have HF := Hid2.mk (shape_any (f := f + 1) (v := v) h1)
    have HR := Hid2.mk hR
    have HB := Hid2.mk hbel
    have Hkr := Hid2.mk kr
    have c5 := hR.cell 5 (by subst hcs; simp)
    have hinf : (Try.prog.info? 25).map (·.size) = some cs.toArray.size := by rw [infoValue]; simp [hlen]
    have Hih := Hid2.mk @ih
    clear h hbel hR h1 kr ih
    cases m with
    | zero =>
      have hd1 : 16 < d := by omega
      clear hd
      clear hinf HF Hih
      subst hcs
      simp only [List.getD_cons_zero, List.getD_cons_succ] at c5
      go_enter Try.func26, Try.ntmps26
      go_wp2_with fail
      go_ret
      exact ⟨rfl, HB.out⟩
    | succ m =>
      have hd1 : d ≤ 16 := by omega
      have hd2 : 1 ≤ d := by omega
      have hd3 : d + 1 = 17 - (m : Int) := by omega
      have Hd3 := Hid2.mk hd3
      have Hm := Hid2.mk (show m ≤ 16 by omega)
      have Hchk := Hid2.mk (show chk (m + 1) v = if shp v = 0 then firstBad (v.kids.map (chk m)) else shp v from rfl)
      have Hcl := Hid2.mk hcs
      clear hd hm hd3
      subst hcs
      simp only [List.getD_cons_zero, List.getD_cons_succ] at c5
      generalize hS : shp v = S at HF Hchk
      generalize chk (m + 1) v = R at Hchk ⊢
      clear hS
      by_cases h0 : S = 0
      · have Hr := Hid2.mk (show R = firstBad (v.kids.map (chk m)) by rw [Hchk.out, if_pos h0])
        clear Hchk
        rw [h0] at HF
        clear h0
        go_enter Try.func26, Try.ntmps26
        generalize hw1 : World.alloc _ _ = w1 at c5 HF HR HB ⊢
        go_wp2_with (first | (refine Ld.load_on (by rfl) 25 (.tmp 2) rfl w.heap.size rfl 25 _ (0, 0) _ HR.out Try.underlying25 rfl hinf ?_) | (go_fit HF.out; rintro e w' ⟨rfl, hbw⟩; have c5' := (hbw.cell (p := ⟨w.heap.size, 5, none⟩) (VBlk.lt HR.out)).trans c5))
        have Hbw := Hid2.mk (HB.out.trans (hbw.mono HB.out.size))
        have Hkr1 := Hid2.mk (fun h0 => Hkr.out h0)
        clear hbw c5 c5' HR hinf
        go_loopw [19] (fun i wr => ∃ k : Nat, k ≤ v.kids.length ∧ i = .int .i64 (k : Nat) ∧ Below w.heap.size w wr ∧ ∀ j, j < k → chk m (v.kids.getD j noV) = 0) (fun i _ => v.kids.length - (intOf i).toNat)
        case atStart => exact ⟨0, Nat.zero_le _, rfl, Hbw.out, fun j hj => absurd hj (by omega)⟩
        case round =>
          clear Hbw
          obtain ⟨k, hk, rfl, hbr, hall⟩ := hrel
          have Hbr := Hid2.mk hbr
          have Hall := Hid2.mk hall
          clear hbr hall
          by_cases hkN : k < v.kids.length
          · have hkz : (k : Int) < (v.kids.length : Int) := by omega
            obtain ⟨b, o, rfl, hb, hr⟩ := Hkr.out (by omega)
            obtain ⟨c, hc6, hci, hcr⟩ := hr k hkN
            have Hc1 := Hid2.mk (show wr.rangeAt b (o + k * 6) c from fun i u hu => by rw [Hbr.out.cell (p := ⟨b, o + k * 6 + i, none⟩) hb]; exact hcr i u hu)
            have Hci := Hid2.mk hci
            have hic : (Try.prog.info? 25).map (·.size) = some c.length := by rw [infoValue, hc6]
            have hone := IsV.ones hci
            have hinf2 : (Try.prog.info? 25).map (·.size) = some c.toArray.size := by rw [infoValue]; simp [hc6]
            have hZ : VBlk 25 (wr.alloc (.cells zero6.toArray 25)) wr.heap.size zero6 := VBlk.mk wr _ _
            have hZ2 : VBlk 25 ((wr.alloc (.cells zero6.toArray 25)).setRow wr.heap.size c.toArray) wr.heap.size c := hZ.setRow c
            have hbz : Below w.heap.size w ((wr.alloc (.cells zero6.toArray 25)).setRow wr.heap.size c.toArray) := below_setRow (Hbr.out.alloc Hbr.out.size _) Hbr.out.size _
            have Hca := Hid2.mk (Hih.out m (d + 1) (hci.below hbz) Hm.out Hd3.out)
            have HZ := Hid2.mk hZ
            have HZ2 := Hid2.mk hZ2
            have Hbz := Hid2.mk hbz
            have Hck := Hid2.mk (show (v.kids.map (chk m)).getD k 0 = chk m (v.kids.getD k noV) from chk_map m v.kids k hkN)
            generalize hx : chk m (v.kids.getD k noV) = x at Hca Hck
            have Hx := Hid2.mk hx
            clear hr hcr hci Hkr Hkr1 hZ hZ2 hbz hx
            by_cases hx0 : x = 0
            · obtain rfl := hx0
              go_wp2_with (first | (refine wpList_load_mid rfl 25 (.tmp 21) rfl b (o + k * 6) rfl c _ Hc1.out Try.underlying25 rfl hic ?_) | (refine wpList_store_row rfl 25 (.tmp 7) (.tmp 22) rfl wr.heap.size c.toArray rfl rfl 25 zero6.toArray HZ.out hinf2 (by simp [hc6]) hone ?_) | (refine Ld.load_on (by rfl) 25 (.tmp 7) rfl wr.heap.size rfl 25 _ (0, 0) _ HZ2.out Try.underlying25 rfl hinf2 ?_) | (go_fit Hca.out; rintro e w' ⟨rfl, hbw⟩))
              refine ⟨⟨k + 1, by omega, rfl, Hbz.out.trans (hbw.mono Hbz.out.size), fun j hj => (Nat.lt_succ_iff_lt_or_eq.1 hj).elim (Hall.out j) (fun e => by rw [e]; exact Hx.out)⟩, ?_⟩
              show v.kids.length - ((k : Int) + 1).toNat < v.kids.length - (k : Int).toNat
              omega
            · have hx0' : (x == 0) = false := beq_eq_false_iff_ne.2 hx0
              go_wp2_with (first | (refine wpList_load_mid rfl 25 (.tmp 21) rfl b (o + k * 6) rfl c _ Hc1.out Try.underlying25 rfl hic ?_) | (refine wpList_store_row rfl 25 (.tmp 7) (.tmp 22) rfl wr.heap.size c.toArray rfl rfl 25 zero6.toArray HZ.out hinf2 (by simp [hc6]) hone ?_) | (refine Ld.load_on (by rfl) 25 (.tmp 7) rfl wr.heap.size rfl 25 _ (0, 0) _ HZ2.out Try.underlying25 rfl hinf2 ?_) | (go_fit Hca.out; rintro e w' ⟨rfl, hbw⟩))
              go_ret
              refine ⟨?_, Hbz.out.trans (hbw.mono Hbz.out.size)⟩
              rw [Hr.out, firstBad_take (i := k) (by rw [List.length_map]; exact hkN) (fun j hj => by rw [chk_map m v.kids j (by omega)]; exact Hall.out j hj) (by rw [Hck.out]; exact hx0), Hck.out]
              rfl
          · obtain rfl : k = v.kids.length := by omega
            have hkz : (v.kids.length : Int) ≤ (v.kids.length : Int) := by omega
            have Hr2 := Hid2.mk (show R = 0 by rw [Hr.out]; exact firstBad_all fun j hj => by rw [List.length_map] at hj; rw [chk_map m v.kids j hj]; exact Hall.out j hj)
            go_wp2_with fail
            go_ret
            exact ⟨by rw [Hr2.out]; rfl, Hbr.out⟩
      · have Hr := Hid2.mk (show R = S by rw [Hchk.out, if_neg h0])
        have h0' : (S == 0) = false := beq_eq_false_iff_ne.2 h0
        go_enter Try.func26, Try.ntmps26
        go_wp2_with (first | (refine Ld.load_on (by rfl) 25 (.tmp 2) rfl w.heap.size rfl 25 _ (0, 0) _ HR.out Try.underlying25 rfl hinf ?_) | (go_fit HF.out; rintro e w' ⟨rfl, hbw⟩))
        go_ret
        exact ⟨by rw [Hr.out]; rfl, HB.out.trans (hbw.mono HB.out.size)⟩

set_option maxHeartbeats 800000 in
theorem Check_any {f : Nat} {w : World} {v : V} {cs : List Value} (h : IsV f w v cs) :
    Calls Try.prog 18 #[.agg cs.toArray] w fun e w' => e = .returned (.int .i64 (chk 16 v)) ∧ Below w.heap.size w w' := by
  have hlen := h.len
  have hbel : Below w.heap.size w (w.alloc (.cells cs.toArray 25)) := (Below.refl _ w).alloc (Nat.le_refl _) _
  have hR : VBlk 25 (w.alloc (.cells cs.toArray 25)) w.heap.size cs := VBlk.mk w _ _
  have HF := Hid2.mk (check_any (f := f) (v := v) 16 1 (h.below hbel) (by omega) (by omega))
  have HR := Hid2.mk hR
  have HB := Hid2.mk hbel
  have hinf : (Try.prog.info? 25).map (·.size) = some cs.toArray.size := by rw [infoValue]; simp [hlen]
  clear h hbel hR hlen
  go_enter Try.func18, Try.ntmps18
  go_wp2_with (first | (refine Ld.load_on (by rfl) 25 (.tmp 1) rfl w.heap.size rfl 25 _ (0, 0) _ HR.out Try.underlying25 rfl hinf ?_) | (go_fit HF.out; rintro e w' ⟨rfl, hbw⟩))
  go_ret
  exact ⟨rfl, HB.out.trans (hbw.mono HB.out.size)⟩
end Vl
end Go.Proofs.Ytnboloilljlfiaa
