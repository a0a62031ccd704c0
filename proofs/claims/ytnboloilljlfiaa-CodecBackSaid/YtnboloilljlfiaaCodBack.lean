/- CodecBack (chapter 7): the law. -/
import Derived.Test.YtnboloilljlfiaaCodCuts
namespace Go.Proofs.Ytnboloilljlfiaa
open Go.RowKit
namespace K

theorem grtK_le {B : Nat} {g : V → Nat → Nat} (hg : ∀ v n, n ≤ g v n) : ∀ (l : List V) (n : Nat), n ≤ grtK B g l n
  | [], n => Nat.le_refl n
  | k :: r, n => by
    unfold grtK
    split
    · exact Nat.le_trans (hg k n) (grtK_le hg r _)
    · exact Nat.le_refl n
theorem grt_le {B : Nat} : ∀ (f : Nat) (v : V) (n : Nat), n ≤ grt B f v n
  | 0, _, n => Nat.le_refl n
  | f + 1, v, n => by
    unfold grt
    exact Nat.le_trans (by omega) (grtK_le (grt_le f) v.kids _)
theorem back_dec {f : Nat} {w : World} {v : V} {cs : List Value} (h : IsV f w v cs) (hc : chk 16 v = 0) (hl : (encV 16 v).length ≤ 65536) : readV true (encV 16 v) = .ok v [] := by
  have := rd_enc h hc []
  rw [List.append_nil] at this
  unfold readV
  rw [this]
  simp only
  rw [if_neg (by simpa using hc), if_neg (by simp), if_neg (by simp; omega)]
theorem back_read {f : Nat} {w : World} {v : V} {cs : List Value} (h : IsV f w v cs) (hc : chk 16 v = 0) (hl : (encV 16 v).length ≤ 65536) (r : List Int) : readV false (encV 16 v ++ r) = .ok v r := by
  unfold readV
  rw [rd_enc h hc r]
  simp only
  rw [if_neg (by simpa using hc), if_neg (by simp), if_neg (by simp; omega)]
theorem read_can {l : List Int} {z : V} {r : List Int} (hb : Byt l) (h : readV true l = .ok z r) : chk 16 z = 0 ∧ encV 16 z = l ∧ l.length ≤ 65536 := by
  unfold readV at h
  cases hq : rdV 16 l with
  | bad e => rw [hq] at h; cases h
  | ok v r' =>
    rw [hq] at h
    simp only at h
    by_cases hc : chk 16 v = 0
    · rw [if_neg (by simpa using hc)] at h
      by_cases h1 : 0 < r'.length
      · rw [if_pos ⟨trivial, h1⟩] at h; cases h
      rw [if_neg (by simp; simpa using h1)] at h
      obtain rfl : r' = [] := by cases r' with
        | nil => rfl
        | cons a b => simp at h1
      by_cases h2 : 65536 < l.length - ([] : List Int).length
      · rw [if_pos h2] at h; cases h
      rw [if_neg h2] at h
      cases h
      have := rdV_can 16 hq hc hb
      rw [List.append_nil] at this
      exact ⟨hc, this.symm, by simpa using h2⟩
    · rw [if_pos hc] at h; cases h

set_option maxHeartbeats 8000000 in
theorem codecBack_law {f : Nat} {w : World} {v : V} {c1 : List Value} {sl : Value} {l : List Int} (h : IsV f w v c1) (hm : Sml f v) (hsl : Sl .u8 w sl l) (hbyt : Byt l) (hlen : l.length ≤ 140737488355328) :
    Calls Try.prog 5 #[.agg c1.toArray, sl] w fun e w' => e = .returned (.bool true) ∧ Below w.heap.size w w' := by
  have hl1 := h.len
  have hsl0 := hsl
  obtain ⟨sp, cap, rfl, -⟩ := hsl
  refine enter (args := [.agg c1.toArray, .slice sp l.length cap]) Try.func5 rfl Try.ntmps5 rfl ?_
  repeat (first | ((with_reducible refine WL.topT ?_ ?_); omega) | ((with_reducible refine WL.topF ?_ ?_); omega) | ((with_reducible refine WL.top64 ?_ ?_); omega) | refine WC.seq ?_ | refine WC.block ?_ | refine WC.region ?_ | refine WL.nil ?_ | refine WC.skip ?_ | refine WC.exit ?_ | refine WC.ret ?_ | refine WQ.then rfl ?_ | refine WQ.thenExit ?_ | refine WQ.thenRet ?_ | refine WQ.blk ?_ | refine WQ.blkRet ?_ | refine WQ.blkHere rfl ?_ | refine WQ.blkOther rfl ?_ | refine WL.pure rfl rfl rfl rfl ?_ | refine WL.on rfl rfl ?_ | refine WL.off rfl rfl rfl ?_ | refine WC.condTrue rfl ?_ | refine WC.condFalse rfl ?_)
  refine WL.box rfl rfl rfl rfl rfl fun g1 w1 hf1 => ?_
  have hf1' : Fresh w g1 w1 25 c1 := hf1
  clear hf1
  repeat (first | ((with_reducible refine WL.topT ?_ ?_); omega) | ((with_reducible refine WL.topF ?_ ?_); omega) | ((with_reducible refine WL.top64 ?_ ?_); omega) | refine WC.seq ?_ | refine WC.block ?_ | refine WC.region ?_ | refine WL.nil ?_ | refine WC.skip ?_ | refine WC.exit ?_ | refine WC.ret ?_ | refine WQ.then rfl ?_ | refine WQ.thenExit ?_ | refine WQ.thenRet ?_ | refine WQ.blk ?_ | refine WQ.blkRet ?_ | refine WQ.blkHere rfl ?_ | refine WQ.blkOther rfl ?_ | refine WL.pure rfl rfl rfl rfl ?_ | refine WL.on rfl rfl ?_ | refine WL.off rfl rfl rfl ?_ | refine WC.condTrue rfl ?_ | refine WC.condFalse rfl ?_)
  refine WL.alloc (z := .int .i64 0) rfl rfl rfl rfl (fun _ => by kernel_rfl) fun pb w3 hf3 => ?_
  have hf3' : Fresh w1 pb w3 3 [.int .i64 0] := hf3
  clear hf3
  have hw3 : Below w.heap.size w w3 := hf1'.below.trans (hf3'.below.mono hf1'.below.size)
  have B1 := hf1'.blk.below hf3'.below hf1'.blk.lt
  have hpb : w.heap.size ≤ pb := by have := hf3'.eq; have := hf1'.below.size; omega
  have hg1 : w.heap.size ≤ g1 ∧ g1 ≠ pb := by have := hf1'.eq; have := hf3'.eq; have := hf1'.size; omega
  have Bp := hf3'.blk
  clear hf1' hf3'
  repeat (first | ((with_reducible refine WL.topT ?_ ?_); omega) | ((with_reducible refine WL.topF ?_ ?_); omega) | ((with_reducible refine WL.top64 ?_ ?_); omega) | refine WC.seq ?_ | refine WC.block ?_ | refine WC.region ?_ | refine WL.nil ?_ | refine WC.skip ?_ | refine WC.exit ?_ | refine WC.ret ?_ | refine WQ.then rfl ?_ | refine WQ.thenExit ?_ | refine WQ.thenRet ?_ | refine WQ.blk ?_ | refine WQ.blkRet ?_ | refine WQ.blkHere rfl ?_ | refine WQ.blkOther rfl ?_ | refine WL.pure rfl rfl rfl rfl ?_ | refine WL.on rfl rfl ?_ | refine WL.off rfl rfl rfl ?_ | refine WC.condTrue rfl ?_ | refine WC.condFalse rfl ?_)
  refine WL.store (v := .int .i64 l.length) rfl rfl rfl rfl rfl rfl (by kernel_rfl) (Bp.cell 0 (by simp)) (Bp.free 0) ?_
  have Bp4 := Bp.set 0 (.int .i64 l.length)
  have B14 : VBlk 25 (w3.setCell ⟨pb, 0, none⟩ (.int .i64 l.length)) g1 c1 := B1.other _ _ hg1.2
  have hw4 : Below w.heap.size w (w3.setCell ⟨pb, 0, none⟩ (.int .i64 l.length)) := Keep.below ((Keep.of_below hw3).setCell (fun hk => by simp only at hk; omega) _)
  generalize w3.setCell ⟨pb, 0, none⟩ (.int .i64 l.length) = w4 at Bp4 B14 hw4
  simp only [List.set_cons_zero] at Bp4
  clear B1 Bp hw3
  repeat (first | ((with_reducible refine WL.topT ?_ ?_); omega) | ((with_reducible refine WL.topF ?_ ?_); omega) | ((with_reducible refine WL.top64 ?_ ?_); omega) | refine WC.seq ?_ | refine WC.block ?_ | refine WC.region ?_ | refine WL.nil ?_ | refine WC.skip ?_ | refine WC.exit ?_ | refine WC.ret ?_ | refine WQ.then rfl ?_ | refine WQ.thenExit ?_ | refine WQ.thenRet ?_ | refine WQ.blk ?_ | refine WQ.blkRet ?_ | refine WQ.blkHere rfl ?_ | refine WQ.blkOther rfl ?_ | refine WL.pure rfl rfl rfl rfl ?_ | refine WL.on rfl rfl ?_ | refine WL.off rfl rfl rfl ?_ | refine WC.condTrue rfl ?_ | refine WC.condFalse rfl ?_)
  refine WL.loadMid rfl rfl rfl rfl rfl rfl (VBlk.rangeAt B14) hl1 ?_
  refine WL.call rfl rfl rfl rfl rfl Try.func7 rfl (by kernel_rfl) (great_any (n := l.length) f h hm hw4 hpb Bp4 hlen) ?_
  rintro _ w5 ⟨rfl, Bp5, hk5⟩
  refine ⟨_, rfl, ?_⟩
  have hw5 : Below w.heap.size w w5 := hw4.trans (Keep.below (Keep.mono hk5 fun b (hb : b < w.heap.size) => ⟨Nat.lt_of_lt_of_le hb hw4.size, by omega⟩))
  have B15 := B14.keep hk5 ⟨B14.lt, hg1.2⟩
  have hgle := grt_le (B := 3000) f v l.length
  by_cases hgr1 : 3000 < grt 3000 f v l.length
  · repeat (first | ((with_reducible refine WL.topT ?_ ?_); omega) | ((with_reducible refine WL.topF ?_ ?_); omega) | ((with_reducible refine WL.top64 ?_ ?_); omega) | refine WC.seq ?_ | refine WC.block ?_ | refine WC.region ?_ | refine WL.nil ?_ | refine WC.skip ?_ | refine WC.exit ?_ | refine WC.ret ?_ | refine WQ.then rfl ?_ | refine WQ.thenExit ?_ | refine WQ.thenRet ?_ | refine WQ.blk ?_ | refine WQ.blkRet ?_ | refine WQ.blkHere rfl ?_ | refine WQ.blkOther rfl ?_ | refine WL.pure rfl rfl rfl rfl ?_ | refine WL.on rfl rfl ?_ | refine WL.off rfl rfl rfl ?_ | refine WC.condTrue rfl ?_ | refine WC.condFalse rfl ?_)
    exact WQ.ret1 rfl rfl ⟨rfl, hw5⟩
  repeat (first | ((with_reducible refine WL.topT ?_ ?_); omega) | ((with_reducible refine WL.topF ?_ ?_); omega) | ((with_reducible refine WL.top64 ?_ ?_); omega) | refine WC.seq ?_ | refine WC.block ?_ | refine WC.region ?_ | refine WL.nil ?_ | refine WC.skip ?_ | refine WC.exit ?_ | refine WC.ret ?_ | refine WQ.then rfl ?_ | refine WQ.thenExit ?_ | refine WQ.thenRet ?_ | refine WQ.blk ?_ | refine WQ.blkRet ?_ | refine WQ.blkHere rfl ?_ | refine WQ.blkOther rfl ?_ | refine WL.pure rfl rfl rfl rfl ?_ | refine WL.on rfl rfl ?_ | refine WL.off rfl rfl rfl ?_ | refine WC.condTrue rfl ?_ | refine WC.condFalse rfl ?_)
  refine WL.loadMid rfl rfl rfl rfl rfl rfl (VBlk.rangeAt B15) hl1 ?_
  refine WL.call rfl rfl rfl rfl rfl Try.func8 rfl (by kernel_rfl) (encode_any (h.below hw5) (enc_len hm hgr1)) ?_
  rintro _ w7 ⟨b7, rfl, hb7, hk7, ho7⟩
  refine ⟨_, rfl, ?_⟩
  have hw7 : Below w.heap.size w w7 := hw5.trans (hk7.mono hw5.size)
  have B17 := B15.below hk7 B15.lt
  repeat (first | ((with_reducible refine WL.topT ?_ ?_); omega) | ((with_reducible refine WL.topF ?_ ?_); omega) | ((with_reducible refine WL.top64 ?_ ?_); omega) | refine WC.seq ?_ | refine WC.region ?_ | refine WL.nil ?_ | refine WC.skip ?_ | refine WC.exit ?_ | refine WC.ret ?_ | refine WQ.then rfl ?_ | refine WQ.thenExit ?_ | refine WQ.thenRet ?_ | refine WQ.blk ?_ | refine WQ.blkRet ?_ | refine WQ.blkHere rfl ?_ | refine WQ.blkOther rfl ?_ | refine WL.pure rfl rfl rfl rfl ?_ | refine WL.on rfl rfl ?_ | refine WL.off rfl rfl rfl ?_ | refine WL.load rfl rfl rfl rfl rfl rfl (by assumption) ?_ | refine WC.condTrue rfl ?_ | refine WC.condFalse rfl ?_)
  refine WC.mid (fun _ : Unit => [(1, .slice sp l.length cap)]) (fun _ wx => Below w.heap.size w wx) rfl ?_ ?_
  · by_cases he1 : (encR v).2 = 0
    rotate_left
    · refine WC.condF rfl he1 ?_
      repeat (first | ((with_reducible refine WL.topT ?_ ?_); omega) | ((with_reducible refine WL.topF ?_ ?_); omega) | ((with_reducible refine WL.top64 ?_ ?_); omega) | refine WC.seq ?_ | refine WC.block ?_ | refine WC.region ?_ | refine WL.nil ?_ | refine WC.skip ?_ | refine WC.exit ?_ | refine WC.ret ?_ | refine WQ.then rfl ?_ | refine WQ.thenExit ?_ | refine WQ.thenRet ?_ | refine WQ.blk ?_ | refine WQ.blkRet ?_ | refine WQ.blkHere rfl ?_ | refine WQ.blkOther rfl ?_ | refine WL.pure rfl rfl rfl rfl ?_ | refine WL.on rfl rfl ?_ | refine WL.off rfl rfl rfl ?_ | refine WC.condTrue rfl ?_ | refine WC.condFalse rfl ?_)
      exact WQ.meet () ⟨rfl, trivial⟩ hw7
    refine WC.condT rfl he1 ?_
    obtain ⟨hc1, hc65, hx1⟩ := encR_ok he1
    rw [hx1] at hb7
    have hEb := encV_byt 16 hc1
    have hdec := back_dec h hc1 hc65
    have hread := back_read h hc1 hc65 l
    generalize encV 16 v = E at hb7 hc65 hEb hdec hread
    obtain ⟨sp7, cap7, rfl, hle, hcap⟩ := hb7.form
    repeat (first | ((with_reducible refine WL.topT ?_ ?_); omega) | ((with_reducible refine WL.topF ?_ ?_); omega) | ((with_reducible refine WL.top64 ?_ ?_); omega) | refine WC.seq ?_ | refine WC.block ?_ | refine WC.region ?_ | refine WL.nil ?_ | refine WC.skip ?_ | refine WC.exit ?_ | refine WC.ret ?_ | refine WQ.then rfl ?_ | refine WQ.thenExit ?_ | refine WQ.thenRet ?_ | refine WQ.blk ?_ | refine WQ.blkRet ?_ | refine WQ.blkHere rfl ?_ | refine WQ.blkOther rfl ?_ | refine WL.pure rfl rfl rfl rfl ?_ | refine WL.on rfl rfl ?_ | refine WL.off rfl rfl rfl ?_ | refine WC.condTrue rfl ?_ | refine WC.condFalse rfl ?_)
    refine WL.call rfl rfl rfl rfl rfl Try.func12 rfl (by kernel_rfl) (decode_any hb7.sl hEb (by omega)) ?_
    rintro _ w8 ⟨hk8, x8, c8, e8, rfl, hx8, hm8⟩
    refine ⟨_, rfl, ?_⟩
    rw [hdec] at hm8
    obtain ⟨rfl, rfl⟩ := hm8
    have hw8 : Below w.heap.size w w8 := hw7.trans (hk8.mono hw7.size)
    have hb8 := hb7.below hk8
    have hc8 := hx8.len
    have ho8 := hx8.one
    repeat (first | ((with_reducible refine WL.topT ?_ ?_); omega) | ((with_reducible refine WL.topF ?_ ?_); omega) | ((with_reducible refine WL.top64 ?_ ?_); omega) | refine WC.seq ?_ | refine WC.block ?_ | refine WC.region ?_ | refine WL.nil ?_ | refine WC.skip ?_ | refine WC.exit ?_ | refine WC.ret ?_ | refine WQ.then rfl ?_ | refine WQ.thenExit ?_ | refine WQ.thenRet ?_ | refine WQ.blk ?_ | refine WQ.blkRet ?_ | refine WQ.blkHere rfl ?_ | refine WQ.blkOther rfl ?_ | refine WL.pure rfl rfl rfl rfl ?_ | refine WL.on rfl rfl ?_ | refine WL.off rfl rfl rfl ?_ | refine WC.condTrue rfl ?_ | refine WC.condFalse rfl ?_)
    refine WL.alloc (z := .agg zCells.toArray) rfl rfl rfl rfl (fun _ => by kernel_rfl) fun xb w9 hf9 => ?_
    have hf9' : Fresh w8 xb w9 25 zCells := hf9
    clear hf9
    refine WL.storeRow rfl rfl rfl rfl rfl rfl hf9'.blk hc8 rfl ho8 ?_
    have hk9 : Below w8.heap.size w8 (w9.setRow xb c8.toArray) := below_setRow hf9'.below (by rw [hf9'.eq]; exact Nat.le_refl _) _
    have X10 : VBlk 25 (w9.setRow xb c8.toArray) xb c8 := hf9'.blk.setRow c8
    generalize w9.setRow xb c8.toArray = w10 at hk9 X10
    have hw10 : Below w.heap.size w w10 := hw8.trans (hk9.mono hw8.size)
    have hb10 := hb8.below hk9
    have B110 := (B17.below hk8 B17.lt).below hk9 (Nat.lt_of_lt_of_le B17.lt hk8.size)
    have hx10 := hx8.isV.below hk9
    clear hf9'
    repeat (first | ((with_reducible refine WL.topT ?_ ?_); omega) | ((with_reducible refine WL.topF ?_ ?_); omega) | ((with_reducible refine WL.top64 ?_ ?_); omega) | refine WC.seq ?_ | refine WC.block ?_ | refine WC.region ?_ | refine WL.nil ?_ | refine WC.skip ?_ | refine WC.exit ?_ | refine WC.ret ?_ | refine WQ.then rfl ?_ | refine WQ.thenExit ?_ | refine WQ.thenRet ?_ | refine WQ.blk ?_ | refine WQ.blkRet ?_ | refine WQ.blkHere rfl ?_ | refine WQ.blkOther rfl ?_ | refine WL.pure rfl rfl rfl rfl ?_ | refine WL.on rfl rfl ?_ | refine WL.off rfl rfl rfl ?_ | refine WC.condTrue rfl ?_ | refine WC.condFalse rfl ?_)
    refine WL.empty rfl rfl rfl rfl rfl fun g11 w11 hf11 => ?_
    have hf11' : Fresh w10 g11 w11 5 [] := hf11
    clear hf11
    have hw11 : Below w.heap.size w w11 := hw10.trans (hf11'.below.mono hw10.size)
    have hg11 : w10.heap.size ≤ g11 := by rw [hf11'.eq]; exact Nat.le_refl _
    repeat (first | ((with_reducible refine WL.topT ?_ ?_); omega) | ((with_reducible refine WL.topF ?_ ?_); omega) | ((with_reducible refine WL.top64 ?_ ?_); omega) | refine WC.seq ?_ | refine WC.block ?_ | refine WC.region ?_ | refine WL.nil ?_ | refine WC.skip ?_ | refine WC.exit ?_ | refine WC.ret ?_ | refine WQ.then rfl ?_ | refine WQ.thenExit ?_ | refine WQ.thenRet ?_ | refine WQ.blk ?_ | refine WQ.blkRet ?_ | refine WQ.blkHere rfl ?_ | refine WQ.blkOther rfl ?_ | refine WL.pure rfl rfl rfl rfl ?_ | refine WL.on rfl rfl ?_ | refine WL.off rfl rfl rfl ?_ | refine WC.condTrue rfl ?_ | refine WC.condFalse rfl ?_)
    refine WL.app rfl rfl rfl rfl rfl (Bu.ofFresh hf11') rfl (hb10.below hf11'.below).sl (by simp only [List.length_nil]; omega) fun v12 w12 hb12 hg12 => ?_
    have hk12 : Below w10.heap.size w10 w12 := hf11'.below.trans (hg12.old hf11'.below.size fun g hg => by cases hg; exact hg11)
    have ho12 : ∀ g, v12.ownBlock = some g → w10.heap.size ≤ g := hg12.own hf11'.below.size fun g hg => by cases hg; exact hg11
    rw [List.nil_append] at hb12
    have hw12 : Below w.heap.size w w12 := hw10.trans (hk12.mono hw10.size)
    repeat (first | ((with_reducible refine WL.topT ?_ ?_); omega) | ((with_reducible refine WL.topF ?_ ?_); omega) | ((with_reducible refine WL.top64 ?_ ?_); omega) | refine WC.seq ?_ | refine WC.block ?_ | refine WC.region ?_ | refine WL.nil ?_ | refine WC.skip ?_ | refine WC.exit ?_ | refine WC.ret ?_ | refine WQ.then rfl ?_ | refine WQ.thenExit ?_ | refine WQ.thenRet ?_ | refine WQ.blk ?_ | refine WQ.blkRet ?_ | refine WQ.blkHere rfl ?_ | refine WQ.blkOther rfl ?_ | refine WL.pure rfl rfl rfl rfl ?_ | refine WL.on rfl rfl ?_ | refine WL.off rfl rfl rfl ?_ | refine WC.condTrue rfl ?_ | refine WC.condFalse rfl ?_)
    refine WL.app rfl rfl rfl rfl rfl hb12 rfl (hsl0.of_below hw12) (by omega) fun v13 w13 hb13 hg13 => ?_
    have hk13 : Below w10.heap.size w10 w13 := hk12.trans (hg13.old hk12.size ho12)
    have hw13 : Below w.heap.size w w13 := hw10.trans (hk13.mono hw10.size)
    refine WL.call rfl rfl rfl rfl rfl Try.func13 rfl (by kernel_rfl) (readC_any hb13.sl (hEb.app hbyt) (by rw [List.length_append]; omega)) ?_
    rintro _ w14 ⟨hk14, x14, c14, n14, e14, rfl, hx14, hm14⟩
    refine ⟨_, rfl, ?_⟩
    rw [hread] at hm14
    obtain ⟨rfl, hn14, rfl⟩ := hm14
    obtain rfl : n14 = E.length := by rw [hn14, List.length_append]; omega
    clear hn14
    have hk14' : Below w10.heap.size w10 w14 := hk13.trans (hk14.mono hk13.size)
    have hw14 : Below w.heap.size w w14 := hw10.trans (hk14'.mono hw10.size)
    have hc14 := hx14.len
    have ho14 := hx14.one
    repeat (first | ((with_reducible refine WL.topT ?_ ?_); omega) | ((with_reducible refine WL.topF ?_ ?_); omega) | ((with_reducible refine WL.top64 ?_ ?_); omega) | refine WC.seq ?_ | refine WC.block ?_ | refine WC.region ?_ | refine WL.nil ?_ | refine WC.skip ?_ | refine WC.exit ?_ | refine WC.ret ?_ | refine WQ.then rfl ?_ | refine WQ.thenExit ?_ | refine WQ.thenRet ?_ | refine WQ.blk ?_ | refine WQ.blkRet ?_ | refine WQ.blkHere rfl ?_ | refine WQ.blkOther rfl ?_ | refine WL.pure rfl rfl rfl rfl ?_ | refine WL.on rfl rfl ?_ | refine WL.off rfl rfl rfl ?_ | refine WC.condTrue rfl ?_ | refine WC.condFalse rfl ?_)
    refine WL.alloc (z := .agg zCells.toArray) rfl rfl rfl rfl (fun _ => by kernel_rfl) fun xb2 w15 hf15 => ?_
    have hf15' : Fresh w14 xb2 w15 25 zCells := hf15
    clear hf15
    refine WL.storeRow rfl rfl rfl rfl rfl rfl hf15'.blk hc14 rfl ho14 ?_
    have hk15 : Below w14.heap.size w14 (w15.setRow xb2 c14.toArray) := below_setRow hf15'.below (by rw [hf15'.eq]; exact Nat.le_refl _) _
    have X16 : VBlk 25 (w15.setRow xb2 c14.toArray) xb2 c14 := hf15'.blk.setRow c14
    generalize w15.setRow xb2 c14.toArray = w16 at hk15 X16
    have hk16 : Below w10.heap.size w10 w16 := hk14'.trans (hk15.mono hk14'.size)
    have hw16 : Below w.heap.size w w16 := hw14.trans (hk15.mono hw14.size)
    have hx16 := hx14.isV.below hk15
    clear hf15'
    repeat (first | ((with_reducible refine WL.topT ?_ ?_); omega) | ((with_reducible refine WL.topF ?_ ?_); omega) | ((with_reducible refine WL.top64 ?_ ?_); omega) | refine WC.seq ?_ | refine WC.block ?_ | refine WC.region ?_ | refine WL.nil ?_ | refine WC.skip ?_ | refine WC.exit ?_ | refine WC.ret ?_ | refine WQ.then rfl ?_ | refine WQ.thenExit ?_ | refine WQ.thenRet ?_ | refine WQ.blk ?_ | refine WQ.blkRet ?_ | refine WQ.blkHere rfl ?_ | refine WQ.blkOther rfl ?_ | refine WL.pure rfl rfl rfl rfl ?_ | refine WL.on rfl rfl ?_ | refine WL.off rfl rfl rfl ?_ | refine WC.condTrue rfl ?_ | refine WC.condFalse rfl ?_)
    refine WL.loadMid rfl rfl rfl rfl rfl rfl (VBlk.rangeAt (X10.below hk16 X10.lt)) hc8 ?_
    repeat (first | ((with_reducible refine WL.topT ?_ ?_); omega) | ((with_reducible refine WL.topF ?_ ?_); omega) | ((with_reducible refine WL.top64 ?_ ?_); omega) | refine WC.seq ?_ | refine WC.block ?_ | refine WC.region ?_ | refine WL.nil ?_ | refine WC.skip ?_ | refine WC.exit ?_ | refine WC.ret ?_ | refine WQ.then rfl ?_ | refine WQ.thenExit ?_ | refine WQ.thenRet ?_ | refine WQ.blk ?_ | refine WQ.blkRet ?_ | refine WQ.blkHere rfl ?_ | refine WQ.blkOther rfl ?_ | refine WL.pure rfl rfl rfl rfl ?_ | refine WL.on rfl rfl ?_ | refine WL.off rfl rfl rfl ?_ | refine WC.condTrue rfl ?_ | refine WC.condFalse rfl ?_)
    refine WL.loadMid rfl rfl rfl rfl rfl rfl (VBlk.rangeAt (B110.below hk16 B110.lt)) hl1 ?_
    refine WL.on rfl rfl ?_
    refine WL.call rfl rfl rfl rfl rfl Try.func11 rfl (by kernel_rfl) (equal_any _ (hx10.below hk16) (h.below hw16)) ?_
    rintro _ w17 ⟨⟨b, rfl, hb⟩, hk17⟩
    refine ⟨_, rfl, ?_⟩
    obtain rfl : b = true := hb.2 rfl
    have hw17 : Below w.heap.size w w17 := hw16.trans (hk17.mono hw16.size)
    have hk17' : Below w10.heap.size w10 w17 := hk16.trans (hk17.mono hk16.size)
    repeat (first | ((with_reducible refine WL.topT ?_ ?_); omega) | ((with_reducible refine WL.topF ?_ ?_); omega) | ((with_reducible refine WL.top64 ?_ ?_); omega) | refine WC.seq ?_ | refine WC.block ?_ | refine WC.region ?_ | refine WL.nil ?_ | refine WC.skip ?_ | refine WC.exit ?_ | refine WC.ret ?_ | refine WQ.then rfl ?_ | refine WQ.thenExit ?_ | refine WQ.thenRet ?_ | refine WQ.blk ?_ | refine WQ.blkRet ?_ | refine WQ.blkHere rfl ?_ | refine WQ.blkOther rfl ?_ | refine WL.pure rfl rfl rfl rfl ?_ | refine WL.on rfl rfl ?_ | refine WL.off rfl rfl rfl ?_ | refine WC.condTrue rfl ?_ | refine WC.condFalse rfl ?_)
    refine WL.loadMid rfl rfl rfl rfl rfl rfl (VBlk.rangeAt (X16.below hk17 X16.lt)) hc14 ?_
    repeat (first | ((with_reducible refine WL.topT ?_ ?_); omega) | ((with_reducible refine WL.topF ?_ ?_); omega) | ((with_reducible refine WL.top64 ?_ ?_); omega) | refine WC.seq ?_ | refine WC.block ?_ | refine WC.region ?_ | refine WL.nil ?_ | refine WC.skip ?_ | refine WC.exit ?_ | refine WC.ret ?_ | refine WQ.then rfl ?_ | refine WQ.thenExit ?_ | refine WQ.thenRet ?_ | refine WQ.blk ?_ | refine WQ.blkRet ?_ | refine WQ.blkHere rfl ?_ | refine WQ.blkOther rfl ?_ | refine WL.pure rfl rfl rfl rfl ?_ | refine WL.on rfl rfl ?_ | refine WL.off rfl rfl rfl ?_ | refine WC.condTrue rfl ?_ | refine WC.condFalse rfl ?_)
    refine WL.loadMid rfl rfl rfl rfl rfl rfl (VBlk.rangeAt (B110.below hk17' B110.lt)) hl1 ?_
    refine WL.on rfl rfl ?_
    refine WL.call rfl rfl rfl rfl rfl Try.func11 rfl (by kernel_rfl) (equal_any _ (hx16.below hk17) (h.below hw17)) ?_
    rintro _ w18 ⟨⟨b, rfl, hb⟩, hk18⟩
    refine ⟨_, rfl, ?_⟩
    obtain rfl : b = true := hb.2 rfl
    repeat (first | ((with_reducible refine WL.topT ?_ ?_); omega) | ((with_reducible refine WL.topF ?_ ?_); omega) | ((with_reducible refine WL.top64 ?_ ?_); omega) | refine WC.seq ?_ | refine WC.block ?_ | refine WC.region ?_ | refine WL.nil ?_ | refine WC.skip ?_ | refine WC.exit ?_ | refine WC.ret ?_ | refine WQ.then rfl ?_ | refine WQ.thenExit ?_ | refine WQ.thenRet ?_ | refine WQ.blk ?_ | refine WQ.blkRet ?_ | refine WQ.blkHere rfl ?_ | refine WQ.blkOther rfl ?_ | refine WL.pure rfl rfl rfl rfl ?_ | refine WL.on rfl rfl ?_ | refine WL.off rfl rfl rfl ?_ | refine WC.condTrue rfl ?_ | refine WC.condFalse rfl ?_)
    exact WQ.meet () ⟨rfl, trivial⟩ (hw17.trans (hk18.mono hw17.size))
  rintro _ w20 hw20
  have hsl20 := hsl0.of_below hw20
  repeat (first | ((with_reducible refine WL.topT ?_ ?_); omega) | ((with_reducible refine WL.topF ?_ ?_); omega) | ((with_reducible refine WL.top64 ?_ ?_); omega) | refine WC.seq ?_ | refine WC.block ?_ | refine WC.region ?_ | refine WL.nil ?_ | refine WC.skip ?_ | refine WC.exit ?_ | refine WC.ret ?_ | refine WQ.then rfl ?_ | refine WQ.thenExit ?_ | refine WQ.thenRet ?_ | refine WQ.blk ?_ | refine WQ.blkRet ?_ | refine WQ.blkHere rfl ?_ | refine WQ.blkOther rfl ?_ | refine WL.pure rfl rfl rfl rfl ?_ | refine WL.on rfl rfl ?_ | refine WL.off rfl rfl rfl ?_ | refine WC.condTrue rfl ?_ | refine WC.condFalse rfl ?_)
  refine WL.call rfl rfl rfl rfl rfl Try.func12 rfl (by kernel_rfl) (decode_any hsl20 hbyt hlen) ?_
  rintro _ w21 ⟨hk21, x21, c21, e21, rfl, hx21, hm21⟩
  refine ⟨_, rfl, ?_⟩
  have hw21 : Below w.heap.size w w21 := hw20.trans (hk21.mono hw20.size)
  have hc21 := hx21.len
  have ho21 := hx21.one
  repeat (first | ((with_reducible refine WL.topT ?_ ?_); omega) | ((with_reducible refine WL.topF ?_ ?_); omega) | ((with_reducible refine WL.top64 ?_ ?_); omega) | refine WC.seq ?_ | refine WC.block ?_ | refine WC.region ?_ | refine WL.nil ?_ | refine WC.skip ?_ | refine WC.exit ?_ | refine WC.ret ?_ | refine WQ.then rfl ?_ | refine WQ.thenExit ?_ | refine WQ.thenRet ?_ | refine WQ.blk ?_ | refine WQ.blkRet ?_ | refine WQ.blkHere rfl ?_ | refine WQ.blkOther rfl ?_ | refine WL.pure rfl rfl rfl rfl ?_ | refine WL.on rfl rfl ?_ | refine WL.off rfl rfl rfl ?_ | refine WC.condTrue rfl ?_ | refine WC.condFalse rfl ?_)
  refine WL.alloc (z := .agg zCells.toArray) rfl rfl rfl rfl (fun _ => by kernel_rfl) fun xb3 w22 hf22 => ?_
  have hf22' : Fresh w21 xb3 w22 25 zCells := hf22
  clear hf22
  refine WL.storeRow rfl rfl rfl rfl rfl rfl hf22'.blk hc21 rfl ho21 ?_
  have hk22 : Below w21.heap.size w21 (w22.setRow xb3 c21.toArray) := below_setRow hf22'.below (by rw [hf22'.eq]; exact Nat.le_refl _) _
  have X23 : VBlk 25 (w22.setRow xb3 c21.toArray) xb3 c21 := hf22'.blk.setRow c21
  generalize w22.setRow xb3 c21.toArray = w23 at hk22 X23
  have hw23 : Below w.heap.size w w23 := hw21.trans (hk22.mono hw21.size)
  have hx23 := hx21.isV.below hk22
  clear hf22'
  by_cases he : e21 = 0
  rotate_left
  · repeat (first | ((with_reducible refine WL.topT ?_ ?_); omega) | ((with_reducible refine WL.topF ?_ ?_); omega) | ((with_reducible refine WL.top64 ?_ ?_); omega) | refine WC.seq ?_ | refine WC.block ?_ | refine WC.region ?_ | refine WL.nil ?_ | refine WC.skip ?_ | refine WC.exit ?_ | refine WC.ret ?_ | refine WQ.then rfl ?_ | refine WQ.thenExit ?_ | refine WQ.thenRet ?_ | refine WQ.blk ?_ | refine WQ.blkRet ?_ | refine WQ.blkHere rfl ?_ | refine WQ.blkOther rfl ?_ | refine WL.pure rfl rfl rfl rfl ?_ | refine WL.on rfl rfl ?_ | refine WL.off rfl rfl rfl ?_ | refine WC.condTrue rfl ?_ | refine WC.condFalse rfl ?_)
    refine WL.call rfl rfl rfl rfl rfl Try.func9 rfl (by kernel_rfl) (known7_any w23) ?_
    rintro _ w9 ⟨rfl, hk9⟩
    refine ⟨_, rfl, ?_⟩
    repeat (first | ((with_reducible refine WL.topT ?_ ?_); omega) | ((with_reducible refine WL.topF ?_ ?_); omega) | ((with_reducible refine WL.top64 ?_ ?_); omega) | refine WC.seq ?_ | refine WC.block ?_ | refine WC.region ?_ | refine WL.nil ?_ | refine WC.skip ?_ | refine WC.exit ?_ | refine WC.ret ?_ | refine WQ.then rfl ?_ | refine WQ.thenExit ?_ | refine WQ.thenRet ?_ | refine WQ.blk ?_ | refine WQ.blkRet ?_ | refine WQ.blkHere rfl ?_ | refine WQ.blkOther rfl ?_ | refine WL.pure rfl rfl rfl rfl ?_ | refine WL.on rfl rfl ?_ | refine WL.off rfl rfl rfl ?_ | refine WC.condTrue rfl ?_ | refine WC.condFalse rfl ?_)
    exact WQ.ret1 rfl rfl ⟨rfl, hw23.trans (hk9.mono hw23.size)⟩
  have hz : chk 16 x21 = 0 ∧ encV 16 x21 = l ∧ l.length ≤ 65536 := by
    cases hq : readV true l with
    | bad z => rw [hq] at hm21; exact absurd (hm21.2.1.symm.trans he) hm21.2.2
    | ok y r =>
      rw [hq] at hm21
      obtain ⟨rfl, -⟩ := hm21
      exact read_can hbyt hq
  have hR : encR x21 = (l, 0) := by unfold encR; rw [if_neg (by simpa using hz.1), hz.2.1, if_neg (by omega)]
  repeat (first | ((with_reducible refine WL.topT ?_ ?_); omega) | ((with_reducible refine WL.topF ?_ ?_); omega) | ((with_reducible refine WL.top64 ?_ ?_); omega) | refine WC.seq ?_ | refine WC.block ?_ | refine WC.region ?_ | refine WL.nil ?_ | refine WC.skip ?_ | refine WC.exit ?_ | refine WC.ret ?_ | refine WQ.then rfl ?_ | refine WQ.thenExit ?_ | refine WQ.thenRet ?_ | refine WQ.blk ?_ | refine WQ.blkRet ?_ | refine WQ.blkHere rfl ?_ | refine WQ.blkOther rfl ?_ | refine WL.pure rfl rfl rfl rfl ?_ | refine WL.on rfl rfl ?_ | refine WL.off rfl rfl rfl ?_ | refine WC.condTrue rfl ?_ | refine WC.condFalse rfl ?_)
  refine WL.loadMid rfl rfl rfl rfl rfl rfl (VBlk.rangeAt X23) hc21 ?_
  refine WL.call rfl rfl rfl rfl rfl Try.func8 rfl (by kernel_rfl) (encode_any hx23 (fun _ => by rw [hz.2.1]; omega)) ?_
  rintro _ w24 ⟨b24, rfl, hb24, hk24, ho24⟩
  refine ⟨_, rfl, ?_⟩
  rw [hR] at hb24 ⊢
  have hw24 : Below w.heap.size w w24 := hw23.trans (hk24.mono hw23.size)
  repeat (first | ((with_reducible refine WL.topT ?_ ?_); omega) | ((with_reducible refine WL.topF ?_ ?_); omega) | ((with_reducible refine WL.top64 ?_ ?_); omega) | refine WC.seq ?_ | refine WC.block ?_ | refine WC.region ?_ | refine WL.nil ?_ | refine WC.skip ?_ | refine WC.exit ?_ | refine WC.ret ?_ | refine WQ.then rfl ?_ | refine WQ.thenExit ?_ | refine WQ.thenRet ?_ | refine WQ.blk ?_ | refine WQ.blkRet ?_ | refine WQ.blkHere rfl ?_ | refine WQ.blkOther rfl ?_ | refine WL.pure rfl rfl rfl rfl ?_ | refine WL.on rfl rfl ?_ | refine WL.off rfl rfl rfl ?_ | refine WC.condTrue rfl ?_ | refine WC.condFalse rfl ?_)
  refine WL.call rfl rfl rfl rfl rfl Try.func10 rfl (by kernel_rfl) (same7_any hb24.sl (hsl0.of_below hw24)) ?_
  rintro _ w25 ⟨rfl, hk25⟩
  refine ⟨_, rfl, ?_⟩
  have hw25 : Below w.heap.size w w25 := hw24.trans (hk25.mono hw24.size)
  refine WL.as 85 (.bool true) rfl (congrArg Value.bool (decide_eq_true rfl)) ?_
  repeat (first | ((with_reducible refine WL.topT ?_ ?_); omega) | ((with_reducible refine WL.topF ?_ ?_); omega) | ((with_reducible refine WL.top64 ?_ ?_); omega) | refine WC.seq ?_ | refine WC.block ?_ | refine WC.region ?_ | refine WL.nil ?_ | refine WC.skip ?_ | refine WC.exit ?_ | refine WC.ret ?_ | refine WQ.then rfl ?_ | refine WQ.thenExit ?_ | refine WQ.thenRet ?_ | refine WQ.blk ?_ | refine WQ.blkRet ?_ | refine WQ.blkHere rfl ?_ | refine WQ.blkOther rfl ?_ | refine WL.pure rfl rfl rfl rfl ?_ | refine WL.on rfl rfl ?_ | refine WL.off rfl rfl rfl ?_ | refine WC.condTrue rfl ?_ | refine WC.condFalse rfl ?_)
  refine WL.call rfl rfl rfl rfl rfl Try.func9 rfl (by kernel_rfl) (known7_any w25) ?_
  rintro _ w26 ⟨rfl, hk26⟩
  refine ⟨_, rfl, ?_⟩
  repeat (first | ((with_reducible refine WL.topT ?_ ?_); omega) | ((with_reducible refine WL.topF ?_ ?_); omega) | ((with_reducible refine WL.top64 ?_ ?_); omega) | refine WC.seq ?_ | refine WC.block ?_ | refine WC.region ?_ | refine WL.nil ?_ | refine WC.skip ?_ | refine WC.exit ?_ | refine WC.ret ?_ | refine WQ.then rfl ?_ | refine WQ.thenExit ?_ | refine WQ.thenRet ?_ | refine WQ.blk ?_ | refine WQ.blkRet ?_ | refine WQ.blkHere rfl ?_ | refine WQ.blkOther rfl ?_ | refine WL.pure rfl rfl rfl rfl ?_ | refine WL.on rfl rfl ?_ | refine WL.off rfl rfl rfl ?_ | refine WC.condTrue rfl ?_ | refine WC.condFalse rfl ?_)
  exact WQ.ret1 rfl rfl ⟨rfl, hw25.trans (hk26.mono hw25.size)⟩
end K
end Go.Proofs.Ytnboloilljlfiaa
