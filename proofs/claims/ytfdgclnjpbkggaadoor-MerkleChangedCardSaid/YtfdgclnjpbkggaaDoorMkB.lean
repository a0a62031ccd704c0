/- The tree of digests: half, root. -/
import Derived.Test.YtfdgclnjpbkggaaDoorMkA
import Derived.Test.YtfdgclnjpbkggaaDoorQuietB
import Derived.Lib.ItoaNum
import Derived.StillTailTactics
import Derived.IntWalk
namespace Go.Proofs.YtfdgclnjpbkggaaDoor
open Go.RowKit Go.Maps
namespace Mk

theorem bitLen_log2 {m : Nat} (h1 : 1 ≤ m) (h2 : m < 2 ^ 64) : Lib.bitLen m = Nat.log2 m + 1 := by
  obtain ⟨a, b, c⟩ := Lib.bitLenAux_bounds 64 m h2 (by omega)
  have e : Lib.bitLen m = Lib.bitLenAux 64 m := rfl
  rw [← e] at a b c
  have : Nat.log2 m = Lib.bitLen m - 1 := (Nat.log2_eq_iff (by omega)).2 ⟨b, by rw [Nat.sub_add_cancel a]; exact c⟩
  omega
theorem ctz_pow (j : Nat) (h : j < 64) : Lib.ctz 64 (2 ^ j) = j := by
  have key : ∀ i : Fin 64, Lib.ctz 64 (2 ^ i.val) = i.val := by decide +kernel
  exact key ⟨j, h⟩
theorem log2_small {n : Nat} (h1 : 2 ≤ n) (h2 : n ≤ 2 ^ 50) : Nat.log2 (n - 1) < 50 := (Nat.log2_lt (by omega)).2 (by omega)

set_option maxHeartbeats 400000 in
theorem half_any (n : Nat) (w : World) (h1 : 2 ≤ n) (h2 : n ≤ 2 ^ 50) : Calls Tryd.prog 43 #[.int .i64 (n : Nat)] w fun e w' => e = .returned (.int .i64 (half n : Nat)) ∧ w = w' := by
  have hL := log2_small h1 h2
  have hb := bitLen_log2 (m := n - 1) (by omega) (by omega)
  have hn : n ≤ 1125899906842624 := h2
  have hh : half n = 2 ^ Nat.log2 (n - 1) := rfl
  have hw : IntKind.u64.wrap ((n : Int) - 1) = (n : Int) - 1 := by rw [IntKind.wrap_u64]; omega
  have et : ((n : Int) - 1).toNat = n - 1 := by omega
  generalize half n = hf at hh ⊢
  generalize Nat.log2 (n - 1) = L at hL hb hh
  have hp : (2 : Nat) ^ L ≤ 2 ^ 49 := Nat.pow_le_pow_right (by decide) (by omega)
  have hp0 : 0 < (2 : Nat) ^ L := Nat.pow_pos (by decide)
  have hp1 : ((2 : Int) ^ L) = (hf : Int) := by rw [hh]; simp
  have hsh : IntKind.i64.wrap ((2 : Int) ^ L) = (hf : Int) := by rw [hp1]; exact IntWalk.i64_in _ (by omega)
  clear h2 hh hp hp0 hp1 et
  go_enter Tryd.func43, Tryd.ntmps43
  go_wp2_with fail
  refine (Tryd.bits_Len64 _ _ (by omega) (by omega)).mono ?_
  rintro e w' ⟨rfl, rfl⟩
  rw [show ((n : Int) - 1).toNat = n - 1 from by omega, hb]
  go_wp2_with fail
  go_ret
  exact ⟨rfl, rfl⟩

theorem bits_and_i64_nat (a b : Nat) (ha : a < 9223372036854775808) (hb : b < 9223372036854775808) :
    bits .and .i64 (a : Int) (b : Int) = ((a &&& b : Nat) : Int) := by
  have hx : a &&& b < 2 ^ 63 := Nat.and_lt_two_pow _ (by omega)
  have h1 : (BitVec.ofInt 64 (a : Int)).toNat = a := by
    rw [BitVec.ofInt_natCast, BitVec.toNat_ofNat]; exact Nat.mod_eq_of_lt (by omega)
  have h2 : (BitVec.ofInt 64 (b : Int)).toNat = b := by
    rw [BitVec.ofInt_natCast, BitVec.toNat_ofNat]; exact Nat.mod_eq_of_lt (by omega)
  show IntKind.i64.wrap ((BitVec.ofInt 64 (a : Int) &&& BitVec.ofInt 64 (b : Int)).toNat : Int) = _
  rw [BitVec.toNat_and, h1, h2]
  exact IntWalk.i64_in _ (by omega)
theorem and_pred_pow {n : Nat} (h : 1 ≤ n) (h2 : n < 2 ^ 62) : (bits BinOp.and IntKind.i64 (n : Int) ((n : Int) - 1) = 0) ↔ ∃ j, n = 2 ^ j := by
  have e : ((n : Int) - 1) = ((n - 1 : Nat) : Int) := by omega
  rw [e, bits_and_i64_nat n (n - 1) (by omega) (by omega)]
  have := @Nat.and_sub_one_eq_zero_iff_isPowerOfTwo n (by omega)
  constructor
  · intro h0
    have h3 : n &&& (n - 1) = 0 := by omega
    exact this.1 h3
  · intro h0
    have h3 := this.2 h0
    omega

set_option maxRecDepth 100000 in
set_option maxHeartbeats 2000000 in
theorem root_any : ∀ (n : Nat) {w : World} {t cnt f : Nat} {O : Nat → Prop} {l : List H}, IsTree w t O cnt l → Tab w → 1 ≤ n → f + n ≤ l.length → Al f n → l.length ≤ 1048576 →
    Calls Tryd.prog 28 #[.pointer (some ⟨t, 0, none⟩), .int .i64 (f : Nat), .int .i64 (n : Nat)] w fun e w' => e = .returned (hv (rt (seg l f n))) ∧ Below w.heap.size w w' := by
  intro n
  induction n using Nat.strongRecOn with
  | ind n ih =>
    intro w t cnt f O l h hT h1 hl ha hm
    have hz := zeroHash
    have hbel : Below w.heap.size w (w.alloc (.cells (Dig.Z32.map (Value.int .u8)).toArray 27)) := (Below.refl _ w).alloc (Nat.le_refl _) _
    have hR : VBlk 27 (w.alloc (.cells (Dig.Z32.map (Value.int .u8)).toArray 27)) w.heap.size (Dig.Z32.map (Value.int .u8)) := VBlk.mk w _ _
    have h0 := h.below hbel (Nat.le_refl _)
    have hT0 := hT.below hbel (Nat.le_refl _)
    have H0 := Hid2.mk h0
    have HT0 := Hid2.mk hT0
    have HR := Hid2.mk hR
    have HB := Hid2.mk hbel
    have hok := h.ok
    have Hrl := Hid2.mk (rt_len (okh_seg hok f n))
    have Hih := Hid2.mk ih
    have Hl := Hid2.mk hl
    have Ha := Hid2.mk ha
    clear h hT h0 hT0 hbel hR ih hl ha
    by_cases hp : ∃ j, n = 2 ^ j
    · obtain ⟨j, hj⟩ := hp
      have hb0 : bits BinOp.and IntKind.i64 (n : Int) ((n : Int) - 1) = 0 := (and_pred_pow h1 (by have := Hl.out; omega)).2 ⟨j, hj⟩
      have hn : n ≤ 1048576 := by have := Hl.out; omega
      have hf : f ≤ 1048576 := by have := Hl.out; omega
      have hj20 : j ≤ 20 := by
        rcases Nat.lt_or_ge 20 j with h | h
        · have := Nat.pow_le_pow_right (n := 2) (by decide) (show 21 ≤ j from h)
          rw [← hj] at this
          omega
        · exact h
      have hd := Ha.out
      rw [hj] at hd
      have hd2 := al_pow hd
      obtain ⟨p, hp⟩ := hd2
      have hw : IntKind.u64.wrap (n : Int) = n := by rw [IntKind.wrap_u64]; omega
      have hct := ctz_pow j (by omega)
      rw [← hj] at hct
      have hpj : 0 < 2 ^ j := Nat.pow_pos (by decide)
      have hpf : f / 2 ^ j = p := by rw [hp, Nat.mul_div_cancel_left _ hpj]
      have hple : p ≤ f := by rw [hp]; exact Nat.le_mul_of_pos_left _ hpj
      have hsh : (f : Int) / 2 ^ j = (p : Int) := by rw [← hpf]; simp
      have hwh := wholeF_at (node := nodeP) (none := noneP) (l := l) (j := j) (p := p) (by have := Hl.out; rw [Nat.add_mul, Nat.one_mul, Nat.mul_comm p, ← hp, ← hj]; exact this)
      rw [Nat.mul_comm p, ← hp, ← hj] at hwh
      obtain ⟨mb, hc, -, -, -, hM, -⟩ := H0.out
      have hlk : ∀ m, (Instr.lookup 55 (.map (some mb)) (.agg #[.int .i64 (j : Int), .int .i64 (p : Int)]) false).run Tryd.prog ((w.alloc (.cells (Dig.Z32.map (Value.int .u8)).toArray 27)).drewN m) = .ok (hv (root nodeP noneP (seg l f n))) ((w.alloc (.cells (Dig.Z32.map (Value.int .u8)).toArray 27)).drewN m) := fun m =>
        look_whole (hM.drewN m) ⟨wf_nat (by omega), wf_nat (by omega)⟩ hwh
      have c1 := hc.cell 1 (by simp)
      simp only [List.getD_cons_zero, List.getD_cons_succ] at c1
      have Hlk := Hid2.mk hlk
      clear hp hpf hd hwh hM hc hlk hpj hple hj
      go_enter Tryd.func28, Tryd.ntmps28
      go_wp2_with fail
      generalize World.alloc _ _ = w1 at H0 HT0 HR HB Hlk c1 ⊢
      refine (Tryd.bits_TrailingZeros64 n (by omega) _ (fun _ => HT0.out)).mono ?_
      rintro e w' ⟨rfl, rfl⟩
      rw [hct]
      go_wp2_with fail

      have hlk1 : (Instr.lookup 55 (.map (some mb)) (.agg #[.int .i64 (j : Int), .int .i64 (p : Int)]) false).run Tryd.prog w'.drew = .ok (hv (root nodeP noneP (seg l f n))) w'.drew := Hlk.out 1
      refine wp_region_still_tail 10 (by kernel_rfl) (by kernel_rfl) ?_
      simp only [List.take_succ_cons, List.take_zero, List.drop_succ_cons, List.drop_zero]
      repeat still_step
      try refine wpStill_nil ?_
      change wpList _ _ _ _ _ w'.drew
      have hlen : (root nodeP noneP (seg l f n)).length = 32 := Hrl.out
      obtain ⟨rr, hrr⟩ : ∃ rr, rr = root nodeP noneP (seg l f n) := ⟨_, rfl⟩
      have Hrr := Hid2.mk (show rt (seg l f n) = rr from hrr.symm)
      rw [← hrr] at hlen ⊢
      clear hrr hlk1 Hlk c1 Hrl hct
      have hi : (Tryd.prog.info? 27).map (·.size) = some (rr.map (Value.int .u8)).toArray.size := by rw [infoHash]; simp [hlen]
      have hone : (rr.map (Value.int .u8)).toArray.all (·.oneCell') = true := by simp [Value.oneCell']
      have HR4 := Hid2.mk (HR.out.drewN 1)
      have HB4 := Hid2.mk (belowN HB.out 1)
      refine wpList_store_row rfl 27 (.tmp 6) (.tmp 26) rfl w.heap.size (rr.map (Value.int .u8)).toArray rfl rfl 27 (Dig.Z32.map (Value.int .u8)).toArray HR4.out hi (by simp [hlen, Dig.Z32]) hone ?_
      go_wp2_with fail
      refine bodyPost_ret (results_cell_row rfl _ _ w.heap.size 27 (rr.map (Value.int .u8)).toArray (0, 0) _ rfl (setRow_heap _ _ _ _ _ _ HR4.out) Tryd.underlying27 rfl hi) rfl ⟨by rw [Hrr.out]; rfl, below_setRow HB4.out (Nat.le_refl _) _⟩
    · have hb0 : ¬ bits BinOp.and IntKind.i64 (n : Int) ((n : Int) - 1) = 0 := fun e => hp ((and_pred_pow h1 (by have := Hl.out; omega)).1 e)
      have h2 : 2 ≤ n := by
        rcases Nat.lt_or_ge n 2 with h | h
        · exact absurd ⟨0, by omega⟩ hp
        · exact h
      have hn : n ≤ 1048576 := by have := Hl.out; omega
      have hf : f ≤ 1048576 := by have := Hl.out; omega
      have hkl := half_lt h2
      have hkp := half_pos n
      clear hp
      go_enter Tryd.func28, Tryd.ntmps28
      go_wp2_with fail
      refine (half_any n _ h2 (by omega)).mono ?_
      rintro e w' ⟨rfl, rfl⟩
      generalize hk : half n = k at hkl hkp ⊢
      go_wp2_with fail
      generalize World.alloc _ _ = w1 at H0 HT0 HR HB ⊢
      refine (Hih.out k hkl H0.out HT0.out hkp (by have := Hl.out; omega) (by rw [← hk]; exact al_left Ha.out h2) hm).mono ?_
      rintro e w2 ⟨rfl, hb2⟩
      have Hb2 := Hid2.mk hb2
      clear hb2
      have hres : rt (seg l f n) = nodeP (rt (seg l f k)) (rt (seg l (f + k) (n - k))) := by
        have := root_seg (node := nodeP) (none := noneP) h2 Hl.out
        rw [hk] at this; exact this
      have hl1 := rt_len (okh_seg hok f k)
      have hl2 := rt_len (okh_seg hok (f + k) (n - k))
      have Hres := Hid2.mk hres
      have Hl1 := Hid2.mk hl1
      have Hl2 := Hid2.mk hl2
      have ha2 : Al (f + k) (n - k) := by rw [← hk]; exact al_right Ha.out h2
      have Ha2 := Hid2.mk ha2
      have H2 := Hid2.mk (H0.out.below Hb2.out (Nat.le_refl _))
      have HT2 := Hid2.mk (HT0.out.below Hb2.out (Nat.le_refl _))
      have HB2 := Hid2.mk (HB.out.trans (Hb2.out.mono HB.out.size))
      have HR2 := Hid2.mk (HR.out.below Hb2.out HR.out.lt)
      have hg : w.heap.size < w1.heap.size := HR.out.lt
      clear hres hl1 hl2 ha2 H0 HT0 HB HR
      generalize rt (seg l f k) = ra at Hres Hl1 ⊢
      go_wp2_with fail
      have e1 : (f : Int) + k = ((f + k : Nat) : Int) := by omega
      have e2 : (n : Int) - k = ((n - k : Nat) : Int) := by omega
      rw [e1, e2]
      refine (Hih.out (n - k) (by omega) H2.out HT2.out (by omega) (by have := Hl.out; omega) Ha2.out hm).mono ?_
      rintro e w3 ⟨rfl, hb3⟩
      generalize rt (seg l (f + k) (n - k)) = rb at Hres Hl2 ⊢
      have HB3 := Hid2.mk (HB2.out.trans (hb3.mono HB2.out.size))
      have HR3 := Hid2.mk (HR2.out.below hb3 HR2.out.lt)
      have hs3 : w2.heap.size ≤ w3.heap.size := hb3.size
      have hs2 : w1.heap.size ≤ w2.heap.size := Hb2.out.size
      clear hb3 H2 HT2 HB2 HR2 Hb2 e1 e2
      go_wp2_with fail
      refine (node_p _ Hl1.out Hl2.out).mono ?_
      rintro e w4 ⟨rfl, hb4⟩
      have HB4 := Hid2.mk (HB3.out.trans (hb4.mono HB3.out.size))
      have HR4 := Hid2.mk (HR3.out.below hb4 HR3.out.lt)
      have hlen := nodeP_len ra rb
      obtain ⟨rr, hrr⟩ : ∃ rr, rr = nodeP ra rb := ⟨_, rfl⟩
      have Hrr := Hid2.mk (show rt (seg l f n) = rr by rw [Hres.out, hrr])
      rw [← hrr] at hlen ⊢
      clear hb4 HB3 HR3 Hres Hrl hrr
      have hi : (Tryd.prog.info? 27).map (·.size) = some (rr.map (Value.int .u8)).toArray.size := by rw [infoHash]; simp [hlen]
      have hone : (rr.map (Value.int .u8)).toArray.all (·.oneCell') = true := by simp [Value.oneCell']
      go_wp2_with (refine wpList_store_row rfl 27 (.tmp 6) (.tmp 41) rfl w.heap.size (rr.map (Value.int .u8)).toArray rfl rfl 27 (Dig.Z32.map (Value.int .u8)).toArray HR4.out hi (by simp [hlen, Dig.Z32]) hone ?_)
      refine bodyPost_ret (results_cell_row rfl _ _ w.heap.size 27 (rr.map (Value.int .u8)).toArray (0, 0) _ rfl (setRow_heap _ _ _ _ _ _ HR4.out) Tryd.underlying27 rfl hi) rfl ⟨by rw [Hrr.out]; rfl, below_setRow HB4.out (Nat.le_refl _) _⟩

end Mk
end Go.Proofs.YtfdgclnjpbkggaaDoor
