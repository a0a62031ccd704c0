/- CodecOne (chapter 7): the law. -/
import Derived.Test.YtnboloilljlfiaaCodAc
namespace Go.Proofs.Ytnboloilljlfiaa
open Go.RowKit
namespace K

theorem IsV.rng {w : World} : ∀ {f : Nat} {v : V} {cs : List Value}, IsV f w v cs → Rng f v
  | 0, _, _, h => h
  | f + 1, v, _, h => by
    obtain ⟨sn, sk, -, -, wn, -, -, -, hk⟩ := h
    refine ⟨by simp [Lit.wf, IntKind.min, IntKind.max, IntKind.bits, IntKind.signed] at wn; omega, fun x hx => ?_⟩
    obtain ⟨j, hj, rfl⟩ := List.getElem_of_mem hx
    obtain ⟨sp, cap, -, -, -, hr⟩ := hk
    obtain ⟨b, o, -, -, hc⟩ := hr (by omega)
    obtain ⟨cs, -, hp, -⟩ := hc j hj
    have := IsV.rng hp
    simpa [hj] using this
/-- What was laid is read, whatever stands behind. -/
theorem rd_enc {f : Nat} {w : World} {v : V} {cs : List Value} (h : IsV f w v cs) (hc : chk 16 v = 0) (r : List Int) : rdV 16 (encV 16 v ++ r) = .ok v r := rdV_enc 16 r hc (IsV.rng h)
theorem encR_ok {v : V} (h : (encR v).2 = 0) : chk 16 v = 0 ∧ (encV 16 v).length ≤ 65536 ∧ (encR v).1 = encV 16 v := by
  unfold encR at h ⊢
  by_cases hc : chk 16 v = 0
  · rw [if_neg (by simpa using hc)] at h ⊢
    by_cases hb : 65536 < (encV 16 v).length
    · rw [if_pos hb] at h; cases h
    · rw [if_neg hb]; exact ⟨hc, by omega, rfl⟩
  · rw [if_pos hc] at h; exact absurd h hc
theorem enc_len {f : Nat} {v : V} {n : Nat} (hs : Sml f v) (h : ¬ 3000 < grt 3000 f v n) (hc : chk 16 v = 0) : (encV 16 v).length ≤ 70368744177664 := by
  have := (grt_enc (B := 3000) f 16 v n hs hc (by omega)).2
  omega
set_option maxHeartbeats 4000000 in
theorem codecOne_law {f f2 : Nat} {w : World} {v1 v2 : V} {c1 c2 : List Value} (h1 : IsV f w v1 c1) (h2 : IsV f2 w v2 c2) (hm1 : Sml f v1) (hm2 : Sml f2 v2) :
    Calls Try.prog 3 #[.agg c1.toArray, .agg c2.toArray] w fun e w' => e = .returned (.bool true) ∧ Below w.heap.size w w' := by
  have hl1 := h1.len
  have hl2 := h2.len
  refine enter (args := [.agg c1.toArray, .agg c2.toArray]) Try.func3 rfl Try.ntmps3 rfl ?_
  repeat (first | ((with_reducible refine WL.topT ?_ ?_); omega) | ((with_reducible refine WL.topF ?_ ?_); omega) | ((with_reducible refine WL.top64 ?_ ?_); omega) | refine WC.seq ?_ | refine WC.block ?_ | refine WC.region ?_ | refine WL.nil ?_ | refine WC.skip ?_ | refine WC.exit ?_ | refine WC.ret ?_ | refine WQ.then rfl ?_ | refine WQ.thenExit ?_ | refine WQ.thenRet ?_ | refine WQ.blk ?_ | refine WQ.blkRet ?_ | refine WQ.blkHere rfl ?_ | refine WQ.blkOther rfl ?_ | refine WL.pure rfl rfl rfl rfl ?_ | refine WL.on rfl rfl ?_ | refine WL.off rfl rfl rfl ?_ | refine WC.condTrue rfl ?_ | refine WC.condFalse rfl ?_)
  refine WL.box rfl rfl rfl rfl rfl fun g1 w1 hf1 => ?_
  have hf1' : Fresh w g1 w1 25 c1 := hf1
  clear hf1
  refine WL.box rfl rfl rfl rfl rfl fun g2 w2 hf2 => ?_
  have hf2' : Fresh w1 g2 w2 25 c2 := hf2
  clear hf2
  repeat (first | ((with_reducible refine WL.topT ?_ ?_); omega) | ((with_reducible refine WL.topF ?_ ?_); omega) | ((with_reducible refine WL.top64 ?_ ?_); omega) | refine WC.seq ?_ | refine WC.block ?_ | refine WC.region ?_ | refine WL.nil ?_ | refine WC.skip ?_ | refine WC.exit ?_ | refine WC.ret ?_ | refine WQ.then rfl ?_ | refine WQ.thenExit ?_ | refine WQ.thenRet ?_ | refine WQ.blk ?_ | refine WQ.blkRet ?_ | refine WQ.blkHere rfl ?_ | refine WQ.blkOther rfl ?_ | refine WL.pure rfl rfl rfl rfl ?_ | refine WL.on rfl rfl ?_ | refine WL.off rfl rfl rfl ?_ | refine WC.condTrue rfl ?_ | refine WC.condFalse rfl ?_)
  refine WL.alloc (z := .int .i64 0) rfl rfl rfl rfl (fun _ => by kernel_rfl) fun pb w3 hf3 => ?_
  have hf3' : Fresh w2 pb w3 3 [.int .i64 0] := hf3
  clear hf3
  have hw2 : Below w.heap.size w w2 := hf1'.below.trans (hf2'.below.mono hf1'.below.size)
  have hw3 : Below w.heap.size w w3 := hw2.trans (hf3'.below.mono hw2.size)
  have B1 := (hf1'.blk.below hf2'.below hf1'.blk.lt).below hf3'.below (Nat.lt_of_lt_of_le hf1'.blk.lt hf2'.below.size)
  have B2 := hf2'.blk.below hf3'.below hf2'.blk.lt
  have hpb : w.heap.size ≤ pb := by have := hf3'.eq; have := hw2.size; omega
  have hg1 : w.heap.size ≤ g1 ∧ g1 ≠ pb := by have := hf1'.eq; have := hf3'.eq; have := hf2'.size; have := hf1'.size; omega
  have hg2 : w.heap.size ≤ g2 ∧ g2 ≠ pb := by have := hf1'.eq; have := hf3'.eq; have := hf2'.size; have := hf1'.size; have := hf2'.eq; omega
  have Bp := hf3'.blk
  clear hf1' hf2' hf3'
  repeat (first | ((with_reducible refine WL.topT ?_ ?_); omega) | ((with_reducible refine WL.topF ?_ ?_); omega) | ((with_reducible refine WL.top64 ?_ ?_); omega) | refine WC.seq ?_ | refine WC.block ?_ | refine WC.region ?_ | refine WL.nil ?_ | refine WC.skip ?_ | refine WC.exit ?_ | refine WC.ret ?_ | refine WQ.then rfl ?_ | refine WQ.thenExit ?_ | refine WQ.thenRet ?_ | refine WQ.blk ?_ | refine WQ.blkRet ?_ | refine WQ.blkHere rfl ?_ | refine WQ.blkOther rfl ?_ | refine WL.pure rfl rfl rfl rfl ?_ | refine WL.on rfl rfl ?_ | refine WL.off rfl rfl rfl ?_ | refine WC.condTrue rfl ?_ | refine WC.condFalse rfl ?_)
  refine WL.store (v := .int .i64 0) rfl rfl rfl rfl rfl rfl (by kernel_rfl) (Bp.cell 0 (by simp)) (Bp.free 0) ?_
  have Bp4 := Bp.set 0 (.int .i64 0)
  have B14 : VBlk 25 (w3.setCell ⟨pb, 0, none⟩ (.int .i64 0)) g1 c1 := B1.other _ _ hg1.2
  have B24 : VBlk 25 (w3.setCell ⟨pb, 0, none⟩ (.int .i64 0)) g2 c2 := B2.other _ _ hg2.2
  have hw4 : Below w.heap.size w (w3.setCell ⟨pb, 0, none⟩ (.int .i64 0)) := Keep.below ((Keep.of_below hw3).setCell (fun hk => by simp only at hk; omega) _)
  generalize w3.setCell ⟨pb, 0, none⟩ (.int .i64 0) = w4 at Bp4 B14 B24 hw4
  simp only [List.set_cons_zero] at Bp4
  clear B1 B2 Bp hw3 hw2
  repeat (first | ((with_reducible refine WL.topT ?_ ?_); omega) | ((with_reducible refine WL.topF ?_ ?_); omega) | ((with_reducible refine WL.top64 ?_ ?_); omega) | refine WC.seq ?_ | refine WC.block ?_ | refine WC.region ?_ | refine WL.nil ?_ | refine WC.skip ?_ | refine WC.exit ?_ | refine WC.ret ?_ | refine WQ.then rfl ?_ | refine WQ.thenExit ?_ | refine WQ.thenRet ?_ | refine WQ.blk ?_ | refine WQ.blkRet ?_ | refine WQ.blkHere rfl ?_ | refine WQ.blkOther rfl ?_ | refine WL.pure rfl rfl rfl rfl ?_ | refine WL.on rfl rfl ?_ | refine WL.off rfl rfl rfl ?_ | refine WC.condTrue rfl ?_ | refine WC.condFalse rfl ?_)
  refine WL.loadMid rfl rfl rfl rfl rfl rfl (VBlk.rangeAt B14) hl1 ?_
  refine WL.call rfl rfl rfl rfl rfl Try.func7 rfl (by kernel_rfl) (great_any (n := 0) f h1 hm1 hw4 hpb Bp4 (by omega)) ?_
  rintro _ w5 ⟨rfl, Bp5, hk5⟩
  refine ⟨_, rfl, ?_⟩
  have keepB : ∀ {wx wy : World}, Below w.heap.size w wx → Keep (fun b => b < wx.heap.size ∧ b ≠ pb) wx wy → Below w.heap.size w wy := fun {wx wy} h k => h.trans (Keep.below (Keep.mono k fun b (hb : b < w.heap.size) => ⟨Nat.lt_of_lt_of_le hb h.size, by omega⟩))
  have hw5 := keepB hw4 hk5
  have B15 := B14.keep hk5 ⟨B14.lt, hg1.2⟩
  have B25 := B24.keep hk5 ⟨B24.lt, hg2.2⟩
  by_cases hgr1 : 3000 < grt 3000 f v1 0
  · repeat (first | ((with_reducible refine WL.topT ?_ ?_); omega) | ((with_reducible refine WL.topF ?_ ?_); omega) | ((with_reducible refine WL.top64 ?_ ?_); omega) | refine WC.seq ?_ | refine WC.block ?_ | refine WC.region ?_ | refine WL.nil ?_ | refine WC.skip ?_ | refine WC.exit ?_ | refine WC.ret ?_ | refine WQ.then rfl ?_ | refine WQ.thenExit ?_ | refine WQ.thenRet ?_ | refine WQ.blk ?_ | refine WQ.blkRet ?_ | refine WQ.blkHere rfl ?_ | refine WQ.blkOther rfl ?_ | refine WL.pure rfl rfl rfl rfl ?_ | refine WL.on rfl rfl ?_ | refine WL.off rfl rfl rfl ?_ | refine WC.condTrue rfl ?_ | refine WC.condFalse rfl ?_)
    repeat (first | ((with_reducible refine WL.topT ?_ ?_); omega) | ((with_reducible refine WL.topF ?_ ?_); omega) | ((with_reducible refine WL.top64 ?_ ?_); omega) | refine WC.seq ?_ | refine WC.block ?_ | refine WC.region ?_ | refine WL.nil ?_ | refine WC.skip ?_ | refine WC.exit ?_ | refine WC.ret ?_ | refine WQ.then rfl ?_ | refine WQ.thenExit ?_ | refine WQ.thenRet ?_ | refine WQ.blk ?_ | refine WQ.blkRet ?_ | refine WQ.blkHere rfl ?_ | refine WQ.blkOther rfl ?_ | refine WL.pure rfl rfl rfl rfl ?_ | refine WL.on rfl rfl ?_ | refine WL.off rfl rfl rfl ?_ | refine WC.condTrue rfl ?_ | refine WC.condFalse rfl ?_)
    exact WQ.ret1 rfl rfl ⟨rfl, hw5⟩
  repeat (first | ((with_reducible refine WL.topT ?_ ?_); omega) | ((with_reducible refine WL.topF ?_ ?_); omega) | ((with_reducible refine WL.top64 ?_ ?_); omega) | refine WC.seq ?_ | refine WC.block ?_ | refine WC.region ?_ | refine WL.nil ?_ | refine WC.skip ?_ | refine WC.exit ?_ | refine WC.ret ?_ | refine WQ.then rfl ?_ | refine WQ.thenExit ?_ | refine WQ.thenRet ?_ | refine WQ.blk ?_ | refine WQ.blkRet ?_ | refine WQ.blkHere rfl ?_ | refine WQ.blkOther rfl ?_ | refine WL.pure rfl rfl rfl rfl ?_ | refine WL.on rfl rfl ?_ | refine WL.off rfl rfl rfl ?_ | refine WC.condTrue rfl ?_ | refine WC.condFalse rfl ?_)
  refine WL.loadMid rfl rfl rfl rfl rfl rfl (VBlk.rangeAt B25) hl2 ?_
  refine WL.on rfl rfl ?_
  refine WL.call rfl rfl rfl rfl rfl Try.func7 rfl (by kernel_rfl) (great_any f2 h2 hm2 hw5 hpb Bp5 (by omega)) ?_
  rintro _ w6 ⟨rfl, Bp6, hk6⟩
  refine ⟨_, rfl, ?_⟩
  have hw6 := keepB hw5 hk6
  have B16 := B15.keep hk6 ⟨B15.lt, hg1.2⟩
  have B26 := B25.keep hk6 ⟨B25.lt, hg2.2⟩
  by_cases hgr2 : 3000 < grt 3000 f2 v2 (grt 3000 f v1 0)
  · repeat (first | ((with_reducible refine WL.topT ?_ ?_); omega) | ((with_reducible refine WL.topF ?_ ?_); omega) | ((with_reducible refine WL.top64 ?_ ?_); omega) | refine WC.seq ?_ | refine WC.block ?_ | refine WC.region ?_ | refine WL.nil ?_ | refine WC.skip ?_ | refine WC.exit ?_ | refine WC.ret ?_ | refine WQ.then rfl ?_ | refine WQ.thenExit ?_ | refine WQ.thenRet ?_ | refine WQ.blk ?_ | refine WQ.blkRet ?_ | refine WQ.blkHere rfl ?_ | refine WQ.blkOther rfl ?_ | refine WL.pure rfl rfl rfl rfl ?_ | refine WL.on rfl rfl ?_ | refine WL.off rfl rfl rfl ?_ | refine WC.condTrue rfl ?_ | refine WC.condFalse rfl ?_)
    exact WQ.ret1 rfl rfl ⟨rfl, hw6⟩
  repeat (first | ((with_reducible refine WL.topT ?_ ?_); omega) | ((with_reducible refine WL.topF ?_ ?_); omega) | ((with_reducible refine WL.top64 ?_ ?_); omega) | refine WC.seq ?_ | refine WC.block ?_ | refine WC.region ?_ | refine WL.nil ?_ | refine WC.skip ?_ | refine WC.exit ?_ | refine WC.ret ?_ | refine WQ.then rfl ?_ | refine WQ.thenExit ?_ | refine WQ.thenRet ?_ | refine WQ.blk ?_ | refine WQ.blkRet ?_ | refine WQ.blkHere rfl ?_ | refine WQ.blkOther rfl ?_ | refine WL.pure rfl rfl rfl rfl ?_ | refine WL.on rfl rfl ?_ | refine WL.off rfl rfl rfl ?_ | refine WC.condTrue rfl ?_ | refine WC.condFalse rfl ?_)
  refine WL.loadMid rfl rfl rfl rfl rfl rfl (VBlk.rangeAt B16) hl1 ?_
  refine WL.call rfl rfl rfl rfl rfl Try.func8 rfl (by kernel_rfl) (encode_any (h1.below hw6) (enc_len hm1 hgr1)) ?_
  rintro _ w7 ⟨b7, rfl, hb7, hk7, ho7⟩
  refine ⟨_, rfl, ?_⟩
  have hw7 : Below w.heap.size w w7 := hw6.trans (hk7.mono hw6.size)
  have B17 := B16.below hk7 B16.lt
  have B27 := B26.below hk7 B26.lt
  repeat (first | ((with_reducible refine WL.topT ?_ ?_); omega) | ((with_reducible refine WL.topF ?_ ?_); omega) | ((with_reducible refine WL.top64 ?_ ?_); omega) | refine WC.seq ?_ | refine WC.block ?_ | refine WC.region ?_ | refine WL.nil ?_ | refine WC.skip ?_ | refine WC.exit ?_ | refine WC.ret ?_ | refine WQ.then rfl ?_ | refine WQ.thenExit ?_ | refine WQ.thenRet ?_ | refine WQ.blk ?_ | refine WQ.blkRet ?_ | refine WQ.blkHere rfl ?_ | refine WQ.blkOther rfl ?_ | refine WL.pure rfl rfl rfl rfl ?_ | refine WL.on rfl rfl ?_ | refine WL.off rfl rfl rfl ?_ | refine WC.condTrue rfl ?_ | refine WC.condFalse rfl ?_)
  refine WL.loadMid rfl rfl rfl rfl rfl rfl (VBlk.rangeAt B27) hl2 ?_
  refine WL.call rfl rfl rfl rfl rfl Try.func8 rfl (by kernel_rfl) (encode_any (h2.below hw7) (enc_len hm2 hgr2)) ?_
  rintro _ w8 ⟨b8, rfl, hb8, hk8, ho8⟩
  refine ⟨_, rfl, ?_⟩
  have hw8 : Below w.heap.size w w8 := hw7.trans (hk8.mono hw7.size)
  have B18 := B17.below hk8 B17.lt
  have B28 := B27.below hk8 B27.lt
  have hb78 := hb7.below hk8
  by_cases he1 : (encR v1).2 = 0
  rotate_left
  · repeat (first | ((with_reducible refine WL.topT ?_ ?_); omega) | ((with_reducible refine WL.topF ?_ ?_); omega) | ((with_reducible refine WL.top64 ?_ ?_); omega) | refine WC.seq ?_ | refine WC.block ?_ | refine WC.region ?_ | refine WL.nil ?_ | refine WC.skip ?_ | refine WC.exit ?_ | refine WC.ret ?_ | refine WQ.then rfl ?_ | refine WQ.thenExit ?_ | refine WQ.thenRet ?_ | refine WQ.blk ?_ | refine WQ.blkRet ?_ | refine WQ.blkHere rfl ?_ | refine WQ.blkOther rfl ?_ | refine WL.pure rfl rfl rfl rfl ?_ | refine WL.on rfl rfl ?_ | refine WL.off rfl rfl rfl ?_ | refine WC.condTrue rfl ?_ | refine WC.condFalse rfl ?_)
    refine WL.call rfl rfl rfl rfl rfl Try.func9 rfl (by kernel_rfl) (known7_any w8) ?_
    rintro _ w9 ⟨rfl, hk9⟩
    refine ⟨_, rfl, ?_⟩
    repeat (first | ((with_reducible refine WL.topT ?_ ?_); omega) | ((with_reducible refine WL.topF ?_ ?_); omega) | ((with_reducible refine WL.top64 ?_ ?_); omega) | refine WC.seq ?_ | refine WC.block ?_ | refine WC.region ?_ | refine WL.nil ?_ | refine WC.skip ?_ | refine WC.exit ?_ | refine WC.ret ?_ | refine WQ.then rfl ?_ | refine WQ.thenExit ?_ | refine WQ.thenRet ?_ | refine WQ.blk ?_ | refine WQ.blkRet ?_ | refine WQ.blkHere rfl ?_ | refine WQ.blkOther rfl ?_ | refine WL.pure rfl rfl rfl rfl ?_ | refine WL.on rfl rfl ?_ | refine WL.off rfl rfl rfl ?_ | refine WC.condTrue rfl ?_ | refine WC.condFalse rfl ?_)
    exact WQ.ret1 rfl rfl ⟨rfl, hw8.trans (hk9.mono hw8.size)⟩
  by_cases he2 : (encR v2).2 = 0
  rotate_left
  · repeat (first | ((with_reducible refine WL.topT ?_ ?_); omega) | ((with_reducible refine WL.topF ?_ ?_); omega) | ((with_reducible refine WL.top64 ?_ ?_); omega) | refine WC.seq ?_ | refine WC.block ?_ | refine WC.region ?_ | refine WL.nil ?_ | refine WC.skip ?_ | refine WC.exit ?_ | refine WC.ret ?_ | refine WQ.then rfl ?_ | refine WQ.thenExit ?_ | refine WQ.thenRet ?_ | refine WQ.blk ?_ | refine WQ.blkRet ?_ | refine WQ.blkHere rfl ?_ | refine WQ.blkOther rfl ?_ | refine WL.pure rfl rfl rfl rfl ?_ | refine WL.on rfl rfl ?_ | refine WL.off rfl rfl rfl ?_ | refine WC.condTrue rfl ?_ | refine WC.condFalse rfl ?_)
    refine WL.call rfl rfl rfl rfl rfl Try.func9 rfl (by kernel_rfl) (known7_any w8) ?_
    rintro _ w9 ⟨rfl, hk9⟩
    refine ⟨_, rfl, ?_⟩
    repeat (first | ((with_reducible refine WL.topT ?_ ?_); omega) | ((with_reducible refine WL.topF ?_ ?_); omega) | ((with_reducible refine WL.top64 ?_ ?_); omega) | refine WC.seq ?_ | refine WC.block ?_ | refine WC.region ?_ | refine WL.nil ?_ | refine WC.skip ?_ | refine WC.exit ?_ | refine WC.ret ?_ | refine WQ.then rfl ?_ | refine WQ.thenExit ?_ | refine WQ.thenRet ?_ | refine WQ.blk ?_ | refine WQ.blkRet ?_ | refine WQ.blkHere rfl ?_ | refine WQ.blkOther rfl ?_ | refine WL.pure rfl rfl rfl rfl ?_ | refine WL.on rfl rfl ?_ | refine WL.off rfl rfl rfl ?_ | refine WC.condTrue rfl ?_ | refine WC.condFalse rfl ?_)
    exact WQ.ret1 rfl rfl ⟨rfl, hw8.trans (hk9.mono hw8.size)⟩
  obtain ⟨hc1, -, hx1⟩ := encR_ok he1
  obtain ⟨hc2, -, hx2⟩ := encR_ok he2
  have hiff : encV 16 v1 = encV 16 v2 ↔ v1 = v2 := by
    refine ⟨fun e => ?_, fun e => by rw [e]⟩
    have q1 := rd_enc h1 hc1 []
    have q2 := rd_enc h2 hc2 []
    rw [e, q2] at q1
    injection q1 with q1 _
    exact q1.symm
  repeat (first | ((with_reducible refine WL.topT ?_ ?_); omega) | ((with_reducible refine WL.topF ?_ ?_); omega) | ((with_reducible refine WL.top64 ?_ ?_); omega) | refine WC.seq ?_ | refine WC.block ?_ | refine WC.region ?_ | refine WL.nil ?_ | refine WC.skip ?_ | refine WC.exit ?_ | refine WC.ret ?_ | refine WQ.then rfl ?_ | refine WQ.thenExit ?_ | refine WQ.thenRet ?_ | refine WQ.blk ?_ | refine WQ.blkRet ?_ | refine WQ.blkHere rfl ?_ | refine WQ.blkOther rfl ?_ | refine WL.pure rfl rfl rfl rfl ?_ | refine WL.on rfl rfl ?_ | refine WL.off rfl rfl rfl ?_ | refine WC.condTrue rfl ?_ | refine WC.condFalse rfl ?_)
  refine WC.drawn 5 (fun wx => VBlk 25 wx g1 c1 ∧ VBlk 25 wx g2 c2) fun w9 hd9 => ?_
  have hw9 : Below w.heap.size w w9 := hw8.trans (hd9.below _)
  have hS : VBlk 25 w9 g1 c1 ∧ VBlk 25 w9 g2 c2 := ⟨B18.below (hd9.below _) B18.lt, B28.below (hd9.below _) B28.lt⟩
  (((first | refine WD.free 0 rfl (by kernel_rfl) rfl rfl (fun _ _ _ _ _ h => h) rfl rfl (.inr hS) ?_ | refine WD.skip 0 rfl (by kernel_rfl) rfl rfl (fun _ _ _ _ _ h => h) rfl (.inr hS) ?_); try (first | ((with_reducible refine WD.topT ?_ ?_); omega) | ((with_reducible refine WD.topF ?_ ?_); omega) | ((with_reducible refine WD.top64 ?_ ?_); omega))); ((first | refine WD.free 1 rfl (by kernel_rfl) rfl rfl (fun _ _ _ _ _ h => h) rfl rfl (.inr hS) ?_ | refine WD.skip 1 rfl (by kernel_rfl) rfl rfl (fun _ _ _ _ _ h => h) rfl (.inr hS) ?_); try (first | ((with_reducible refine WD.topT ?_ ?_); omega) | ((with_reducible refine WD.topF ?_ ?_); omega) | ((with_reducible refine WD.top64 ?_ ?_); omega))))
  refine WD.loadMid 3 [5, 6, 7, 8, 9, 10] rfl (by kernel_rfl) rfl rfl (fun _ _ _ _ _ h => h) rfl rfl rfl rfl (fun wx hx => VBlk.rangeAt hx.1) hl1 hS ?_
  refine WD.loadMid 4 [5, 6, 7, 8, 9, 10] rfl (by kernel_rfl) rfl rfl (fun _ _ _ _ _ h => h) rfl rfl rfl rfl (fun wx hx => VBlk.rangeAt hx.2) hl2 hS ?_
  refine WD.one 2 (by kernel_rfl) rfl ?_
  refine WL.call rfl rfl rfl rfl rfl Try.func10 rfl (by kernel_rfl) (same7_any (hb78.below (hd9.below _)).sl (hb8.below (hd9.below _)).sl) ?_
  rintro _ w10 ⟨rfl, hk10⟩
  refine ⟨_, rfl, ?_⟩
  have hw10 : Below w.heap.size w w10 := hw9.trans (hk10.mono hw9.size)
  refine WL.nil (WQ.dk (.inr ⟨hS.1.below hk10 hS.1.lt, hS.2.below hk10 hS.2.lt⟩) ?_)
  refine WD.one 5 (by kernel_rfl) rfl ?_
  refine WL.call rfl rfl rfl rfl rfl Try.func11 rfl (by kernel_rfl) (equal_any f (h1.below hw10) (h2.below hw10)) ?_
  rintro _ w11 ⟨⟨b, rfl, hb⟩, hk11⟩
  refine ⟨_, rfl, ?_⟩
  have hw11 : Below w.heap.size w w11 := hw10.trans (hk11.mono hw10.size)
  refine WL.nil (WQ.dk (.inl rfl) ?_)
  refine WD.one 6 (by kernel_rfl) rfl ?_
  have hsame : decide ((encR v1).1 = (encR v2).1) = b := by
    rw [hx1, hx2]
    cases b with
    | true => exact decide_eq_true (hiff.2 (hb.1 rfl))
    | false => exact decide_eq_false fun e => by have := hb.2 (hiff.1 e); cases this
  refine WL.pureAs (.bool true) rfl rfl rfl rfl (by rw [hsame]; simp) ?_
  refine WL.nil (WQ.dk (.inl rfl) ?_)
  refine WD.one 7 (by kernel_rfl) rfl ?_
  refine WL.pure rfl rfl rfl rfl ?_
  refine WL.nil (WQ.dk (.inl rfl) ?_)
  refine WD.one 8 (by kernel_rfl) rfl ?_
  refine WL.on rfl rfl ?_
  refine WL.call rfl rfl rfl rfl rfl Try.func9 rfl (by kernel_rfl) (known7_any w11) ?_
  rintro _ w12 ⟨rfl, hk12⟩
  refine ⟨_, rfl, ?_⟩
  refine WL.nil (WQ.dk (.inl rfl) ?_)
  refine WD.one 9 (by kernel_rfl) rfl ?_
  refine WL.pure rfl rfl rfl rfl ?_
  refine WL.nil (WQ.dk (.inl rfl) ?_)
  refine WD.one 10 (by kernel_rfl) rfl ?_
  refine WL.pure rfl rfl rfl rfl ?_
  refine WL.nil (WQ.dk (.inl rfl) ?_)
  refine WD.done (by kernel_rfl) ?_
  repeat (first | ((with_reducible refine WL.topT ?_ ?_); omega) | ((with_reducible refine WL.topF ?_ ?_); omega) | ((with_reducible refine WL.top64 ?_ ?_); omega) | refine WC.seq ?_ | refine WC.block ?_ | refine WC.region ?_ | refine WL.nil ?_ | refine WC.skip ?_ | refine WC.exit ?_ | refine WC.ret ?_ | refine WQ.then rfl ?_ | refine WQ.thenExit ?_ | refine WQ.thenRet ?_ | refine WQ.blk ?_ | refine WQ.blkRet ?_ | refine WQ.blkHere rfl ?_ | refine WQ.blkOther rfl ?_ | refine WL.pure rfl rfl rfl rfl ?_ | refine WL.on rfl rfl ?_ | refine WL.off rfl rfl rfl ?_ | refine WC.condTrue rfl ?_ | refine WC.condFalse rfl ?_)
  exact WQ.ret1 rfl rfl ⟨rfl, hw11.trans (hk12.mono hw11.size)⟩
end K
end Go.Proofs.Ytnboloilljlfiaa
