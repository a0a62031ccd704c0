/- CodecCuts (chapter 7): the law. -/
import Derived.Test.YtnboloilljlfiaaCodOne
namespace Go.Proofs.Ytnboloilljlfiaa
open Go.RowKit
namespace K

theorem bits_mask (x : Int) (m : Nat) (hm : m < 4611686018427387904) : ∃ r : Nat, r ≤ m ∧ bits .and .i64 x (m : Int) = (r : Int) := by
  refine ⟨(BitVec.ofInt 64 x).toNat &&& m, Nat.and_le_right, ?_⟩
  have h2 : (BitVec.ofInt 64 (m : Int)).toNat = m := by
    rw [BitVec.ofInt_natCast, BitVec.toNat_ofNat]; exact Nat.mod_eq_of_lt (by omega)
  have h3 : (BitVec.ofInt 64 x).toNat &&& m ≤ m := Nat.and_le_right
  show IntKind.i64.wrap ((BitVec.ofInt 64 x &&& BitVec.ofInt 64 (m : Int)).toNat : Int) = _
  rw [BitVec.toNat_and, h2]
  exact IntWalk.i64_in _ (by omega)
theorem Byt.nil : Byt [] := fun c h => by cases h
theorem Byt.one {c : Int} (h : 0 ≤ c ∧ c ≤ 255) : Byt [c] := fun x hx => by simp at hx; rw [hx]; exact h
theorem Byt.cons {c : Int} {l : List Int} (h : 0 ≤ c ∧ c ≤ 255) (hl : Byt l) : Byt (c :: l) := fun x hx => (List.mem_cons.1 hx).elim (fun e => by rw [e]; exact h) (hl x)
theorem uvF_byt : ∀ (f u : Nat), Byt (uvF f u)
  | 0, _ => Byt.nil
  | f + 1, u => by
    unfold uvF
    split
    · exact Byt.one (by omega)
    · exact Byt.cons (by omega) (uvF_byt f (u / 128))
theorem uvB_byt (u : Nat) : Byt (uvB u) := uvF_byt 10 u
theorem byI_byt (s : ByteArray) : Byt (byI s) := fun c hc => by
  unfold byI at hc
  obtain ⟨x, -, rfl⟩ := List.mem_map.1 hc
  have := x.toNat_lt
  omega
theorem encV_byt : ∀ (m : Nat) {v : V}, chk m v = 0 → Byt (encV m v)
  | 0, _, h => by cases h
  | m + 1, v, h => by
    obtain ⟨hk, f2, f3, f4, f5, fk, ft, f9⟩ := shp_form (chk_shp h)
    rw [encV_two]
    refine Byt.cons (by omega) ?_
    split
    · exact Byt.one (by have := f2 (by assumption); omega)
    split
    · exact uvB_byt _
    split
    · exact (uvB_byt _).app (Byt.one (by have := f4 (by assumption); omega))
    split
    · exact uvB_byt _
    split
    · exact (uvB_byt _).app (byI_byt _)
    split
    · refine (uvB_byt _).app fun c hc => ?_
      obtain ⟨j, hj, hc⟩ := List.mem_flatMap.1 hc
      have hj := List.mem_range.1 hj
      unfold pieceE at hc
      rcases List.mem_append.1 hc with hc | hc
      · split at hc
        · exact (uvB_byt _).app (byI_byt _) c hc
        · cases hc
      · exact encV_byt m (chk_kid h hj) c hc
    · exact Byt.nil
/-- A part of what was laid is refused. -/
theorem cut_short {f : Nat} {w : World} {v : V} {cs : List Value} (h : IsV f w v cs) (hc : chk 16 v = 0) {k : Nat} (hk : k < (encV 16 v).length) : readV true ((encV 16 v).take k) = .bad 2 := by
  have h1 := ext_rdV 16 ((encV 16 v).take k) ((encV 16 v).drop k)
  have h2 := rd_enc h hc []
  rw [List.append_nil] at h2
  rw [List.take_append_drop, h2] at h1
  unfold readV
  cases hq : rdV 16 ((encV 16 v).take k) with
  | ok a r =>
    rw [hq] at h1
    injection h1 with _ h1
    have := congrArg List.length h1
    simp at this
    omega
  | bad e =>
    rw [hq] at h1
    rcases h1 with rfl | h1
    · rfl
    · cases h1
theorem cut_more {f : Nat} {w : World} {v : V} {cs : List Value} (h : IsV f w v cs) (hc : chk 16 v = 0) : readV true (encV 16 v ++ [0]) = .bad 3 := by
  unfold readV
  rw [rd_enc h hc [0]]
  simp only
  rw [if_neg (by simpa using hc), if_pos (by simp)]
theorem encV_pos {v : V} : 0 < (encV 16 v).length := by rw [encV_two]; simp

set_option maxHeartbeats 4000000 in
theorem codecCuts_law {f : Nat} {w : World} {v : V} {c1 : List Value} (h : IsV f w v c1) (hm : Sml f v) (x : Int) :
    Calls Try.prog 4 #[.agg c1.toArray, .int .i64 x] w fun e w' => e = .returned (.bool true) ∧ Below w.heap.size w w' := by
  have hl1 := h.len
  refine enter (args := [.agg c1.toArray, .int .i64 x]) Try.func4 rfl Try.ntmps4 rfl ?_
  repeat (first | ((with_reducible refine WL.topT ?_ ?_); omega) | ((with_reducible refine WL.topF ?_ ?_); omega) | ((with_reducible refine WL.top64 ?_ ?_); omega) | refine WC.seq ?_ | refine WC.block ?_ | refine WC.region ?_ | refine WL.nil ?_ | refine WC.skip ?_ | refine WC.exit ?_ | refine WC.ret ?_ | refine WQ.then rfl ?_ | refine WQ.thenExit ?_ | refine WQ.thenRet ?_ | refine WQ.blk ?_ | refine WQ.blkRet ?_ | refine WQ.blkHere rfl ?_ | refine WQ.blkOther rfl ?_ | refine WL.pure rfl rfl rfl rfl ?_ | refine WL.on rfl rfl ?_ | refine WL.off rfl rfl rfl ?_ | refine WC.condTrue rfl ?_ | refine WC.condFalse rfl ?_)
  refine WL.box rfl rfl rfl rfl rfl fun g1 w1 hf1 => ?_
  have hf1' : Fresh w g1 w1 25 c1 := hf1
  clear hf1
  repeat (first | ((with_reducible refine WL.topT ?_ ?_); omega) | ((with_reducible refine WL.topF ?_ ?_); omega) | ((with_reducible refine WL.top64 ?_ ?_); omega) | refine WC.seq ?_ | refine WC.block ?_ | refine WC.region ?_ | refine WL.nil ?_ | refine WC.skip ?_ | refine WC.exit ?_ | refine WC.ret ?_ | refine WQ.then rfl ?_ | refine WQ.thenExit ?_ | refine WQ.thenRet ?_ | refine WQ.blk ?_ | refine WQ.blkRet ?_ | refine WQ.blkHere rfl ?_ | refine WQ.blkOther rfl ?_ | refine WL.pure rfl rfl rfl rfl ?_ | refine WL.on rfl rfl ?_ | refine WL.off rfl rfl rfl ?_ | refine WC.condTrue rfl ?_ | refine WC.condFalse rfl ?_)
  refine WL.alloc (z := .int .i64 0) rfl rfl rfl rfl (fun _ => by kernel_rfl) fun pb w3 hf3 => ?_
  have hf3' : Fresh w1 pb w3 3 [.int .i64 0] := hf3
  clear hf3
  have hw3 : Below w.heap.size w w3 := hf1'.below.trans (hf3'.below.mono hf1'.below.size)
  have B1 := hf1'.blk.below hf3'.below hf1'.blk.lt
  have hpb : w.heap.size ≤ pb := by have := hf3'.eq; have := hf1'.below.size; omega
  have hg1 : w.heap.size ≤ g1 ∧ g1 ≠ pb := by have := hf1'.eq; have := hf3'.eq; have := hf1'.size; omega
  have Bp := hf3'.blk
  clear hf1' hf3'
  repeat (first | ((with_reducible refine WL.topT ?_ ?_); omega) | ((with_reducible refine WL.topF ?_ ?_); omega) | ((with_reducible refine WL.top64 ?_ ?_); omega) | refine WC.seq ?_ | refine WC.block ?_ | refine WC.region ?_ | refine WL.nil ?_ | refine WC.skip ?_ | refine WC.exit ?_ | refine WC.ret ?_ | refine WQ.then rfl ?_ | refine WQ.thenExit ?_ | refine WQ.thenRet ?_ | refine WQ.blk ?_ | refine WQ.blkRet ?_ | refine WQ.blkHere rfl ?_ | refine WQ.blkOther rfl ?_ | refine WL.pure rfl rfl rfl rfl ?_ | refine WL.on rfl rfl ?_ | refine WL.off rfl rfl rfl ?_ | refine WC.condTrue rfl ?_ | refine WC.condFalse rfl ?_)
  refine WL.store (v := .int .i64 0) rfl rfl rfl rfl rfl rfl (by kernel_rfl) (Bp.cell 0 (by simp)) (Bp.free 0) ?_
  have Bp4 := Bp.set 0 (.int .i64 0)
  have B14 : VBlk 25 (w3.setCell ⟨pb, 0, none⟩ (.int .i64 0)) g1 c1 := B1.other _ _ hg1.2
  have hw4 : Below w.heap.size w (w3.setCell ⟨pb, 0, none⟩ (.int .i64 0)) := Keep.below ((Keep.of_below hw3).setCell (fun hk => by simp only at hk; omega) _)
  generalize w3.setCell ⟨pb, 0, none⟩ (.int .i64 0) = w4 at Bp4 B14 hw4
  simp only [List.set_cons_zero] at Bp4
  clear B1 Bp hw3
  repeat (first | ((with_reducible refine WL.topT ?_ ?_); omega) | ((with_reducible refine WL.topF ?_ ?_); omega) | ((with_reducible refine WL.top64 ?_ ?_); omega) | refine WC.seq ?_ | refine WC.block ?_ | refine WC.region ?_ | refine WL.nil ?_ | refine WC.skip ?_ | refine WC.exit ?_ | refine WC.ret ?_ | refine WQ.then rfl ?_ | refine WQ.thenExit ?_ | refine WQ.thenRet ?_ | refine WQ.blk ?_ | refine WQ.blkRet ?_ | refine WQ.blkHere rfl ?_ | refine WQ.blkOther rfl ?_ | refine WL.pure rfl rfl rfl rfl ?_ | refine WL.on rfl rfl ?_ | refine WL.off rfl rfl rfl ?_ | refine WC.condTrue rfl ?_ | refine WC.condFalse rfl ?_)
  refine WL.loadMid rfl rfl rfl rfl rfl rfl (VBlk.rangeAt B14) hl1 ?_
  refine WL.call rfl rfl rfl rfl rfl Try.func7 rfl (by kernel_rfl) (great_any (n := 0) f h hm hw4 hpb Bp4 (by omega)) ?_
  rintro _ w5 ⟨rfl, Bp5, hk5⟩
  refine ⟨_, rfl, ?_⟩
  have hw5 : Below w.heap.size w w5 := hw4.trans (Keep.below (Keep.mono hk5 fun b (hb : b < w.heap.size) => ⟨Nat.lt_of_lt_of_le hb hw4.size, by omega⟩))
  have B15 := B14.keep hk5 ⟨B14.lt, hg1.2⟩
  by_cases hgr1 : 3000 < grt 3000 f v 0
  · repeat (first | ((with_reducible refine WL.topT ?_ ?_); omega) | ((with_reducible refine WL.topF ?_ ?_); omega) | ((with_reducible refine WL.top64 ?_ ?_); omega) | refine WC.seq ?_ | refine WC.block ?_ | refine WC.region ?_ | refine WL.nil ?_ | refine WC.skip ?_ | refine WC.exit ?_ | refine WC.ret ?_ | refine WQ.then rfl ?_ | refine WQ.thenExit ?_ | refine WQ.thenRet ?_ | refine WQ.blk ?_ | refine WQ.blkRet ?_ | refine WQ.blkHere rfl ?_ | refine WQ.blkOther rfl ?_ | refine WL.pure rfl rfl rfl rfl ?_ | refine WL.on rfl rfl ?_ | refine WL.off rfl rfl rfl ?_ | refine WC.condTrue rfl ?_ | refine WC.condFalse rfl ?_)
    exact WQ.ret1 rfl rfl ⟨rfl, hw5⟩
  repeat (first | ((with_reducible refine WL.topT ?_ ?_); omega) | ((with_reducible refine WL.topF ?_ ?_); omega) | ((with_reducible refine WL.top64 ?_ ?_); omega) | refine WC.seq ?_ | refine WC.block ?_ | refine WC.region ?_ | refine WL.nil ?_ | refine WC.skip ?_ | refine WC.exit ?_ | refine WC.ret ?_ | refine WQ.then rfl ?_ | refine WQ.thenExit ?_ | refine WQ.thenRet ?_ | refine WQ.blk ?_ | refine WQ.blkRet ?_ | refine WQ.blkHere rfl ?_ | refine WQ.blkOther rfl ?_ | refine WL.pure rfl rfl rfl rfl ?_ | refine WL.on rfl rfl ?_ | refine WL.off rfl rfl rfl ?_ | refine WC.condTrue rfl ?_ | refine WC.condFalse rfl ?_)
  refine WL.loadMid rfl rfl rfl rfl rfl rfl (VBlk.rangeAt B15) hl1 ?_
  refine WL.call rfl rfl rfl rfl rfl Try.func8 rfl (by kernel_rfl) (encode_any (h.below hw5) (enc_len hm hgr1)) ?_
  rintro _ w7 ⟨b7, rfl, hb7, hk7, ho7⟩
  refine ⟨_, rfl, ?_⟩
  have hw7 : Below w.heap.size w w7 := hw5.trans (hk7.mono hw5.size)
  by_cases he1 : (encR v).2 = 0
  rotate_left
  · repeat (first | ((with_reducible refine WL.topT ?_ ?_); omega) | ((with_reducible refine WL.topF ?_ ?_); omega) | ((with_reducible refine WL.top64 ?_ ?_); omega) | refine WC.seq ?_ | refine WC.block ?_ | refine WC.region ?_ | refine WL.nil ?_ | refine WC.skip ?_ | refine WC.exit ?_ | refine WC.ret ?_ | refine WQ.then rfl ?_ | refine WQ.thenExit ?_ | refine WQ.thenRet ?_ | refine WQ.blk ?_ | refine WQ.blkRet ?_ | refine WQ.blkHere rfl ?_ | refine WQ.blkOther rfl ?_ | refine WL.pure rfl rfl rfl rfl ?_ | refine WL.on rfl rfl ?_ | refine WL.off rfl rfl rfl ?_ | refine WC.condTrue rfl ?_ | refine WC.condFalse rfl ?_)
    refine WL.call rfl rfl rfl rfl rfl Try.func9 rfl (by kernel_rfl) (known7_any w7) ?_
    rintro _ w9 ⟨rfl, hk9⟩
    refine ⟨_, rfl, ?_⟩
    repeat (first | ((with_reducible refine WL.topT ?_ ?_); omega) | ((with_reducible refine WL.topF ?_ ?_); omega) | ((with_reducible refine WL.top64 ?_ ?_); omega) | refine WC.seq ?_ | refine WC.block ?_ | refine WC.region ?_ | refine WL.nil ?_ | refine WC.skip ?_ | refine WC.exit ?_ | refine WC.ret ?_ | refine WQ.then rfl ?_ | refine WQ.thenExit ?_ | refine WQ.thenRet ?_ | refine WQ.blk ?_ | refine WQ.blkRet ?_ | refine WQ.blkHere rfl ?_ | refine WQ.blkOther rfl ?_ | refine WL.pure rfl rfl rfl rfl ?_ | refine WL.on rfl rfl ?_ | refine WL.off rfl rfl rfl ?_ | refine WC.condTrue rfl ?_ | refine WC.condFalse rfl ?_)
    exact WQ.ret1 rfl rfl ⟨rfl, hw7.trans (hk9.mono hw7.size)⟩
  obtain ⟨hc1, hc65, hx1⟩ := encR_ok he1
  rw [hx1] at hb7
  have hpos := encV_pos (v := v)
  have hbyt := encV_byt 16 hc1
  have hcut := fun k hk => cut_short (k := k) h hc1 hk
  have hmore := cut_more h hc1
  generalize encV 16 v = E at hb7 hc65 hpos hbyt hcut hmore
  have hlen := hb7.form
  obtain ⟨sp, cap, rfl, hle, hcap⟩ := hlen
  obtain ⟨q, hq⟩ : ∃ q, E.length = q + 1 := ⟨E.length - 1, by omega⟩
  obtain ⟨r, hr, er⟩ := bits_mask x 1073741823 (by omega)
  have er' : bits .and .i64 x 1073741823 = (r : Int) := er
  repeat (first | ((with_reducible refine WL.topT ?_ ?_); omega) | ((with_reducible refine WL.topF ?_ ?_); omega) | ((with_reducible refine WL.top64 ?_ ?_); omega) | refine WC.seq ?_ | refine WC.block ?_ | refine WC.region ?_ | refine WL.nil ?_ | refine WC.skip ?_ | refine WC.exit ?_ | refine WC.ret ?_ | refine WQ.then rfl ?_ | refine WQ.thenExit ?_ | refine WQ.thenRet ?_ | refine WQ.blk ?_ | refine WQ.blkRet ?_ | refine WQ.blkHere rfl ?_ | refine WQ.blkOther rfl ?_ | refine WL.pure rfl rfl rfl rfl ?_ | refine WL.on rfl rfl ?_ | refine WL.off rfl rfl rfl ?_ | refine WC.condTrue rfl ?_ | refine WC.condFalse rfl ?_)
  refine WL.as 30 (.int .i64 ((q + 1 : Nat) : Int)) rfl (by rw [hq]) ?_
  refine WL.as 28 (.int .i64 (r : Int)) rfl (congrArg (Value.int .i64) er') ?_
  refine WL.pureAs (.int .i64 ((r % (q + 1) : Nat) : Int)) rfl rfl rfl rfl rfl ?_
  have hmod : r % (q + 1) < E.length := by rw [hq]; exact Nat.mod_lt _ (by omega)
  generalize r % (q + 1) = k at hmod
  refine WL.upto (z := (k : Int)) rfl rfl rfl rfl rfl rfl rfl (by omega) (by omega) hb7.sl fun v8 hv8 => ?_
  rw [Int.toNat_natCast] at hv8
  refine WL.call rfl rfl rfl rfl rfl Try.func12 rfl (by kernel_rfl) (decode_any hv8 (fun c hc => hbyt c (List.mem_of_mem_take hc)) (by rw [List.length_take]; omega)) ?_
  rintro _ w8 ⟨hk8, x8, c8, e8, rfl, hx8, hm8⟩
  refine ⟨_, rfl, ?_⟩
  rw [hcut k hmod] at hm8
  obtain ⟨-, rfl, -⟩ := hm8
  have hw8 : Below w.heap.size w w8 := hw7.trans (hk8.mono hw7.size)
  have hb8 := hb7.below hk8
  have hc8 := hx8.len
  have ho8 := hx8.one
  repeat (first | ((with_reducible refine WL.topT ?_ ?_); omega) | ((with_reducible refine WL.topF ?_ ?_); omega) | ((with_reducible refine WL.top64 ?_ ?_); omega) | refine WC.seq ?_ | refine WC.block ?_ | refine WC.region ?_ | refine WL.nil ?_ | refine WC.skip ?_ | refine WC.exit ?_ | refine WC.ret ?_ | refine WQ.then rfl ?_ | refine WQ.thenExit ?_ | refine WQ.thenRet ?_ | refine WQ.blk ?_ | refine WQ.blkRet ?_ | refine WQ.blkHere rfl ?_ | refine WQ.blkOther rfl ?_ | refine WL.pure rfl rfl rfl rfl ?_ | refine WL.on rfl rfl ?_ | refine WL.off rfl rfl rfl ?_ | refine WC.condTrue rfl ?_ | refine WC.condFalse rfl ?_)
  refine WL.alloc (z := .agg zCells.toArray) rfl rfl rfl rfl (fun _ => by kernel_rfl) fun xb w9 hf9 => ?_
  have hf9' : Fresh w8 xb w9 25 zCells := hf9
  clear hf9
  refine WL.storeRow rfl rfl rfl rfl rfl rfl hf9'.blk hc8 rfl ho8 ?_
  have hk9 : Below w8.heap.size w8 (w9.setRow xb c8.toArray) := below_setRow hf9'.below (by rw [hf9'.eq]; exact Nat.le_refl _) _
  generalize w9.setRow xb c8.toArray = w10 at hk9
  have hw10 : Below w.heap.size w w10 := hw8.trans (hk9.mono hw8.size)
  have hb10 := hb8.below hk9
  clear hf9'
  repeat (first | ((with_reducible refine WL.topT ?_ ?_); omega) | ((with_reducible refine WL.topF ?_ ?_); omega) | ((with_reducible refine WL.top64 ?_ ?_); omega) | refine WC.seq ?_ | refine WC.block ?_ | refine WC.region ?_ | refine WL.nil ?_ | refine WC.skip ?_ | refine WC.exit ?_ | refine WC.ret ?_ | refine WQ.then rfl ?_ | refine WQ.thenExit ?_ | refine WQ.thenRet ?_ | refine WQ.blk ?_ | refine WQ.blkRet ?_ | refine WQ.blkHere rfl ?_ | refine WQ.blkOther rfl ?_ | refine WL.pure rfl rfl rfl rfl ?_ | refine WL.on rfl rfl ?_ | refine WL.off rfl rfl rfl ?_ | refine WC.condTrue rfl ?_ | refine WC.condFalse rfl ?_)
  refine WL.empty rfl rfl rfl rfl rfl fun g11 w11 hf11 => ?_
  have hf11' : Fresh w10 g11 w11 5 [] := hf11
  clear hf11
  have hw11 : Below w.heap.size w w11 := hw10.trans (hf11'.below.mono hw10.size)
  have hg11 : w.heap.size ≤ g11 := by rw [hf11'.eq]; exact hw10.size
  repeat (first | ((with_reducible refine WL.topT ?_ ?_); omega) | ((with_reducible refine WL.topF ?_ ?_); omega) | ((with_reducible refine WL.top64 ?_ ?_); omega) | refine WC.seq ?_ | refine WC.block ?_ | refine WC.region ?_ | refine WL.nil ?_ | refine WC.skip ?_ | refine WC.exit ?_ | refine WC.ret ?_ | refine WQ.then rfl ?_ | refine WQ.thenExit ?_ | refine WQ.thenRet ?_ | refine WQ.blk ?_ | refine WQ.blkRet ?_ | refine WQ.blkHere rfl ?_ | refine WQ.blkOther rfl ?_ | refine WL.pure rfl rfl rfl rfl ?_ | refine WL.on rfl rfl ?_ | refine WL.off rfl rfl rfl ?_ | refine WC.condTrue rfl ?_ | refine WC.condFalse rfl ?_)
  refine WL.app rfl rfl rfl rfl rfl (Bu.ofFresh hf11') rfl (hb10.below hf11'.below).sl (by simp only [List.length_nil]; omega) fun v12 w12 hb12 hg12 => ?_
  have hw12 : Below w.heap.size w w12 := hw11.trans (hg12.old hw11.size fun g hg => by cases hg; exact hg11)
  have ho12 : ∀ g, v12.ownBlock = some g → w.heap.size ≤ g := hg12.own hw11.size fun g hg => by cases hg; exact hg11
  rw [List.nil_append] at hb12
  refine WL.push rfl rfl rfl rfl rfl rfl rfl rfl rfl rfl rfl (fun _ => rfl) rfl hb12 (by simp only [List.length_cons, List.length_nil]; omega) fun v13 w13 hb13 hg13 => ?_
  have hw13 : Below w.heap.size w w13 := hw12.trans (hg13.old hw12.size ho12)
  refine WL.call rfl rfl rfl rfl rfl Try.func12 rfl (by kernel_rfl) (decode_any hb13.sl (hbyt.app (Byt.one (by omega))) (by rw [List.length_append]; simp only [List.length_cons, List.length_nil]; omega)) ?_
  rintro _ w14 ⟨hk14, x14, c14, e14, rfl, hx14, hm14⟩
  refine ⟨_, rfl, ?_⟩
  rw [hmore] at hm14
  obtain ⟨-, rfl, -⟩ := hm14
  have hw14 : Below w.heap.size w w14 := hw13.trans (hk14.mono hw13.size)
  have hc14 := hx14.len
  have ho14 := hx14.one
  repeat (first | ((with_reducible refine WL.topT ?_ ?_); omega) | ((with_reducible refine WL.topF ?_ ?_); omega) | ((with_reducible refine WL.top64 ?_ ?_); omega) | refine WC.seq ?_ | refine WC.block ?_ | refine WC.region ?_ | refine WL.nil ?_ | refine WC.skip ?_ | refine WC.exit ?_ | refine WC.ret ?_ | refine WQ.then rfl ?_ | refine WQ.thenExit ?_ | refine WQ.thenRet ?_ | refine WQ.blk ?_ | refine WQ.blkRet ?_ | refine WQ.blkHere rfl ?_ | refine WQ.blkOther rfl ?_ | refine WL.pure rfl rfl rfl rfl ?_ | refine WL.on rfl rfl ?_ | refine WL.off rfl rfl rfl ?_ | refine WC.condTrue rfl ?_ | refine WC.condFalse rfl ?_)
  refine WL.alloc (z := .agg zCells.toArray) rfl rfl rfl rfl (fun _ => by kernel_rfl) fun xb2 w15 hf15 => ?_
  have hf15' : Fresh w14 xb2 w15 25 zCells := hf15
  clear hf15
  refine WL.storeRow rfl rfl rfl rfl rfl rfl hf15'.blk hc14 rfl ho14 ?_
  have hk15 : Below w14.heap.size w14 (w15.setRow xb2 c14.toArray) := below_setRow hf15'.below (by rw [hf15'.eq]; exact Nat.le_refl _) _
  generalize w15.setRow xb2 c14.toArray = w16 at hk15
  have hw16 : Below w.heap.size w w16 := hw14.trans (hk15.mono hw14.size)
  repeat (first | ((with_reducible refine WL.topT ?_ ?_); omega) | ((with_reducible refine WL.topF ?_ ?_); omega) | ((with_reducible refine WL.top64 ?_ ?_); omega) | refine WC.seq ?_ | refine WC.block ?_ | refine WC.region ?_ | refine WL.nil ?_ | refine WC.skip ?_ | refine WC.exit ?_ | refine WC.ret ?_ | refine WQ.then rfl ?_ | refine WQ.thenExit ?_ | refine WQ.thenRet ?_ | refine WQ.blk ?_ | refine WQ.blkRet ?_ | refine WQ.blkHere rfl ?_ | refine WQ.blkOther rfl ?_ | refine WL.pure rfl rfl rfl rfl ?_ | refine WL.on rfl rfl ?_ | refine WL.off rfl rfl rfl ?_ | refine WC.condTrue rfl ?_ | refine WC.condFalse rfl ?_)
  refine WL.call rfl rfl rfl rfl rfl Try.func9 rfl (by kernel_rfl) (known7_any w16) ?_
  rintro _ w17 ⟨rfl, hk17⟩
  refine ⟨_, rfl, ?_⟩
  repeat (first | ((with_reducible refine WL.topT ?_ ?_); omega) | ((with_reducible refine WL.topF ?_ ?_); omega) | ((with_reducible refine WL.top64 ?_ ?_); omega) | refine WC.seq ?_ | refine WC.block ?_ | refine WC.region ?_ | refine WL.nil ?_ | refine WC.skip ?_ | refine WC.exit ?_ | refine WC.ret ?_ | refine WQ.then rfl ?_ | refine WQ.thenExit ?_ | refine WQ.thenRet ?_ | refine WQ.blk ?_ | refine WQ.blkRet ?_ | refine WQ.blkHere rfl ?_ | refine WQ.blkOther rfl ?_ | refine WL.pure rfl rfl rfl rfl ?_ | refine WL.on rfl rfl ?_ | refine WL.off rfl rfl rfl ?_ | refine WC.condTrue rfl ?_ | refine WC.condFalse rfl ?_)
  exact WQ.ret1 rfl rfl ⟨rfl, hw16.trans (hk17.mono hw16.size)⟩
end K
end Go.Proofs.Ytnboloilljlfiaa
