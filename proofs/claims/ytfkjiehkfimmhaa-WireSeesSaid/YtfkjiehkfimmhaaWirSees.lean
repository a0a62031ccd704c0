/- The law WireSees: walked. -/
import Derived.Test.YtfkjiehkfimmhaaWirD
namespace Go.Proofs.Ytfkjiehkfimmhaa
open Go.RowKit
namespace K
theorem mask_w (x : Int) (m : Nat) (hm : m < 4611686018427387904) : ∃ r : Nat, r ≤ m ∧ bits .and .i64 x (m : Int) = (r : Int) := by
  refine ⟨(BitVec.ofInt 64 x).toNat &&& m, Nat.and_le_right, ?_⟩
  have h2 : (BitVec.ofInt 64 (m : Int)).toNat = m := by
    rw [BitVec.ofInt_natCast, BitVec.toNat_ofNat]; exact Nat.mod_eq_of_lt (by omega)
  have h3 : (BitVec.ofInt 64 x).toNat &&& m ≤ m := Nat.and_le_right
  show IntKind.i64.wrap ((BitVec.ofInt 64 x &&& BitVec.ofInt 64 (m : Int)).toNat : Int) = _
  rw [BitVec.toNat_and, h2]
  exact IntWalk.i64_in _ (by omega)
/-- Another byte. -/
theorem xor8 {a y : Int} (ha : 0 ≤ a ∧ a ≤ 255) (hy : 0 ≤ y ∧ y ≤ 255) (h0 : y ≠ 0) : ∃ z : Int, bits .xor .u8 a y = z ∧ 0 ≤ z ∧ z ≤ 255 ∧ z ≠ a := by
  obtain ⟨p, rfl⟩ : ∃ p : Nat, a = (p : Int) := ⟨a.toNat, by omega⟩
  obtain ⟨q, rfl⟩ : ∃ q : Nat, y = (q : Int) := ⟨y.toNat, by omega⟩
  have hlt := (BitVec.ofNat 8 p ^^^ BitVec.ofNat 8 q).isLt
  refine ⟨((BitVec.ofNat 8 p ^^^ BitVec.ofNat 8 q).toNat : Int), ?_, by omega, by omega, fun e => ?_⟩
  · show IntKind.u8.wrap ((BitVec.ofInt 8 (p : Int) ^^^ BitVec.ofInt 8 (q : Int)).toNat : Int) = _
    rw [BitVec.ofInt_natCast, BitVec.ofInt_natCast, IntKind.wrap_u8]
    omega
  · have e1 : (BitVec.ofNat 8 p ^^^ BitVec.ofNat 8 q).toNat = (BitVec.ofNat 8 p).toNat := by rw [BitVec.toNat_ofNat]; omega
    have e2 : BitVec.ofNat 8 p ^^^ BitVec.ofNat 8 q = BitVec.ofNat 8 p := BitVec.eq_of_toNat_eq e1
    have e3 : BitVec.ofNat 8 q = 0#8 := by
      have := congrArg (BitVec.ofNat 8 p ^^^ ·) e2
      simpa [← BitVec.xor_assoc] using this
    have := congrArg BitVec.toNat e3
    rw [BitVec.toNat_ofNat] at this
    simp at this
    omega
theorem sees_any (kind seq : Int) (text : ByteArray) (pos y : Int) (hy : 0 ≤ y ∧ y ≤ 255) (w : World) :
    Calls Try.prog 3 #[.int .i64 kind, .int .i64 seq, .string text, .int .i64 pos, .int .u8 y] w fun e w' => e = .returned (.bool true) ∧ Below w.heap.size w w' := by
  refine enter (args := [.int .i64 kind, .int .i64 seq, .string text, .int .i64 pos, .int .u8 y]) Try.func3 rfl Try.ntmps3 rfl ?_
  by_cases ht : 2000 < text.size
  · repeat (first | ((with_reducible refine WL.topT ?_ ?_); omega) | ((with_reducible refine WL.topF ?_ ?_); omega) | ((with_reducible refine WL.top64 ?_ ?_); omega) | refine WC.seq ?_ | refine WC.block ?_ | refine WC.region ?_ | refine WL.nil ?_ | refine WC.skip ?_ | refine WC.exit ?_ | refine WC.ret ?_ | refine WQ.then rfl ?_ | refine WQ.thenExit ?_ | refine WQ.thenRet ?_ | refine WQ.blk ?_ | refine WQ.blkRet ?_ | refine WQ.blkHere rfl ?_ | refine WQ.blkOther rfl ?_ | refine WL.pure rfl rfl rfl rfl ?_ | refine WL.on rfl rfl ?_ | refine WL.off rfl rfl rfl ?_ | refine WC.condTrue rfl ?_ | refine WC.condFalse rfl ?_)
    exact WQ.ret1 rfl rfl ⟨rfl, Below.refl _ _⟩
  by_cases hy0 : y = 0
  · repeat (first | ((with_reducible refine WL.topT ?_ ?_); omega) | ((with_reducible refine WL.topF ?_ ?_); omega) | ((with_reducible refine WL.top64 ?_ ?_); omega) | refine WC.seq ?_ | refine WC.block ?_ | refine WC.region ?_ | refine WL.nil ?_ | refine WC.skip ?_ | refine WC.exit ?_ | refine WC.ret ?_ | refine WQ.then rfl ?_ | refine WQ.thenExit ?_ | refine WQ.thenRet ?_ | refine WQ.blk ?_ | refine WQ.blkRet ?_ | refine WQ.blkHere rfl ?_ | refine WQ.blkOther rfl ?_ | refine WL.pure rfl rfl rfl rfl ?_ | refine WL.on rfl rfl ?_ | refine WL.off rfl rfl rfl ?_ | refine WC.condTrue rfl ?_ | refine WC.condFalse rfl ?_)
    exact WQ.ret1 rfl rfl ⟨rfl, Below.refl _ _⟩
  repeat (first | ((with_reducible refine WL.topT ?_ ?_); omega) | ((with_reducible refine WL.topF ?_ ?_); omega) | ((with_reducible refine WL.top64 ?_ ?_); omega) | refine WC.seq ?_ | refine WC.block ?_ | refine WC.region ?_ | refine WL.nil ?_ | refine WC.skip ?_ | refine WC.exit ?_ | refine WC.ret ?_ | refine WQ.then rfl ?_ | refine WQ.thenExit ?_ | refine WQ.thenRet ?_ | refine WQ.blk ?_ | refine WQ.blkRet ?_ | refine WQ.blkHere rfl ?_ | refine WQ.blkOther rfl ?_ | refine WL.pure rfl rfl rfl rfl ?_ | refine WL.on rfl rfl ?_ | refine WL.off rfl rfl rfl ?_ | refine WC.condTrue rfl ?_ | refine WC.condFalse rfl ?_)
  refine WL.build (reqC kind seq text) rfl rfl rfl rfl rfl (by kernel_rfl) ?_
  refine WL.call rfl rfl rfl rfl rfl Try.func4 rfl (by kernel_rfl) (wenc_any kind seq text w) ?_
  rintro _ w1 ⟨b, rfl, k1, hs⟩
  refine ⟨_, rfl, ?_⟩
  by_cases he : reqE kind seq text ≠ 0
  · generalize reqE kind seq text = x at he ⊢
    repeat (first | ((with_reducible refine WL.topT ?_ ?_); omega) | ((with_reducible refine WL.topF ?_ ?_); omega) | ((with_reducible refine WL.top64 ?_ ?_); omega) | refine WC.seq ?_ | refine WC.block ?_ | refine WC.region ?_ | refine WL.nil ?_ | refine WC.skip ?_ | refine WC.exit ?_ | refine WC.ret ?_ | refine WQ.then rfl ?_ | refine WQ.thenExit ?_ | refine WQ.thenRet ?_ | refine WQ.blk ?_ | refine WQ.blkRet ?_ | refine WQ.blkHere rfl ?_ | refine WQ.blkOther rfl ?_ | refine WL.pure rfl rfl rfl rfl ?_ | refine WL.on rfl rfl ?_ | refine WL.off rfl rfl rfl ?_ | refine WC.condTrue rfl ?_ | refine WC.condFalse rfl ?_)
    refine WL.call rfl rfl rfl rfl rfl Try.func5 rfl (by kernel_rfl) (known_any w1) ?_
    rintro _ w2 ⟨rfl, k2⟩
    refine ⟨_, rfl, ?_⟩
    repeat (first | ((with_reducible refine WL.topT ?_ ?_); omega) | ((with_reducible refine WL.topF ?_ ?_); omega) | ((with_reducible refine WL.top64 ?_ ?_); omega) | refine WC.seq ?_ | refine WC.block ?_ | refine WC.region ?_ | refine WL.nil ?_ | refine WC.skip ?_ | refine WC.exit ?_ | refine WC.ret ?_ | refine WQ.then rfl ?_ | refine WQ.thenExit ?_ | refine WQ.thenRet ?_ | refine WQ.blk ?_ | refine WQ.blkRet ?_ | refine WQ.blkHere rfl ?_ | refine WQ.blkOther rfl ?_ | refine WL.pure rfl rfl rfl rfl ?_ | refine WL.on rfl rfl ?_ | refine WL.off rfl rfl rfl ?_ | refine WC.condTrue rfl ?_ | refine WC.condFalse rfl ?_)
    exact WQ.ret1 rfl rfl ⟨rfl, k1.trans (k2.mono k1.size)⟩
  replace he : reqE kind seq text = 0 := by omega
  obtain ⟨hb, ho⟩ := hs he
  rw [he]
  clear hs
  have hk : 1 ≤ kind ∧ kind ≤ 20 := by
    unfold reqE at he
    by_cases h : kind < 1 ∨ 20 < kind ∨ seq < 0 ∨ 9007199254740992 < seq
    · rw [if_pos h] at he; cases he
    · omega
  have hpl := reqL_len kind seq text (by omega)
  have hpb := reqL_byt (kind := kind) (by omega) seq text
  clear he
  generalize reqL kind seq text = P at hb hpl hpb
  have hFl := Frm.frameL_len P
  have hFb : Frm.Byt (Frm.frameL P) := fun c hc => by
    unfold Frm.frameL Frm.headF at hc
    rcases List.mem_append.1 hc with h | h
    · exact (List.mem_append.1 h).elim (Crc.be4_byt _ c) (Crc.be4_byt _ c)
    · exact (List.mem_append.1 h).elim (hpb c) (Crc.be4_byt _ c)
  have hcut : ∀ k, k < (Frm.frameL P).length → Bad ((Frm.frameL P).take k) 2 := fun k h => .inl ⟨Frm.decF_cut (by omega) h, by decide⟩
  have hone : ∀ k z, k < (Frm.frameL P).length → 0 ≤ z ∧ z ≤ 255 → z ≠ (Frm.frameL P).getD k 0 → Bad ((Frm.frameL P).set k z) 4 := fun k z h h1 h2 => .inl ⟨Frm.decF_one (by omega) hpb h h1 h2, by decide⟩
  have hmore : Bad (Frm.frameL P ++ [0]) 3 := .inr (by
    rw [Frm.decF_enc (by omega)]
    refine ⟨rfl, ?_, rfl⟩
    simp only [List.length_append, List.length_cons, List.length_nil, hFl]
    omega)
  generalize Frm.frameL P = F at hb hFl hFb hcut hone hmore
  obtain ⟨sp, cap, rfl, hle, hcap⟩ := hb.form
  obtain ⟨q, hq⟩ : ∃ q, F.length = q + 1 := ⟨F.length - 1, by omega⟩
  obtain ⟨r, hr, er⟩ := mask_w pos 1073741823 (by omega)
  have er' : bits .and .i64 pos 1073741823 = (r : Int) := er
  repeat (first | ((with_reducible refine WL.topT ?_ ?_); omega) | ((with_reducible refine WL.topF ?_ ?_); omega) | ((with_reducible refine WL.top64 ?_ ?_); omega) | refine WC.seq ?_ | refine WC.block ?_ | refine WC.region ?_ | refine WL.nil ?_ | refine WC.skip ?_ | refine WC.exit ?_ | refine WC.ret ?_ | refine WQ.then rfl ?_ | refine WQ.thenExit ?_ | refine WQ.thenRet ?_ | refine WQ.blk ?_ | refine WQ.blkRet ?_ | refine WQ.blkHere rfl ?_ | refine WQ.blkOther rfl ?_ | refine WL.pure rfl rfl rfl rfl ?_ | refine WL.on rfl rfl ?_ | refine WL.off rfl rfl rfl ?_ | refine WC.condTrue rfl ?_ | refine WC.condFalse rfl ?_)
  refine WL.as 45 (.int .i64 ((q + 1 : Nat) : Int)) rfl (by rw [hq]) ?_
  refine WL.as 43 (.int .i64 (r : Int)) rfl (congrArg (Value.int .i64) er') ?_
  refine WL.pureAs (.int .i64 ((r % (q + 1) : Nat) : Int)) rfl rfl rfl rfl rfl ?_
  have hmod : r % (q + 1) < F.length := by rw [hq]; exact Nat.mod_lt _ (by omega)
  generalize r % (q + 1) = k at hmod
  clear er er' hr
  repeat (first | ((with_reducible refine WL.topT ?_ ?_); omega) | ((with_reducible refine WL.topF ?_ ?_); omega) | ((with_reducible refine WL.top64 ?_ ?_); omega) | refine WC.seq ?_ | refine WC.block ?_ | refine WC.region ?_ | refine WL.nil ?_ | refine WC.skip ?_ | refine WC.exit ?_ | refine WC.ret ?_ | refine WQ.then rfl ?_ | refine WQ.thenExit ?_ | refine WQ.thenRet ?_ | refine WQ.blk ?_ | refine WQ.blkRet ?_ | refine WQ.blkHere rfl ?_ | refine WQ.blkOther rfl ?_ | refine WL.pure rfl rfl rfl rfl ?_ | refine WL.on rfl rfl ?_ | refine WL.off rfl rfl rfl ?_ | refine WC.condTrue rfl ?_ | refine WC.condFalse rfl ?_)
  refine WL.upto (z := (k : Int)) rfl rfl rfl rfl rfl rfl rfl (by omega) (by omega) hb.sl fun v8 hv8 => ?_
  rw [Int.toNat_natCast] at hv8
  refine WL.call rfl rfl rfl rfl rfl Try.func6 rfl (by kernel_rfl) (wdec_bad hv8 (fun c hc => hFb c (List.mem_of_mem_take hc)) (by rw [List.length_take]; omega) (hcut k hmod) (by decide)) ?_
  rintro _ w2 ⟨rfl, k2⟩
  refine ⟨_, rfl, ?_⟩
  have hw2 : Below w.heap.size w w2 := k1.trans (k2.mono k1.size)
  have hb2 := hb.below k2
  clear hcut k1 k2 hb hv8
  repeat (first | ((with_reducible refine WL.topT ?_ ?_); omega) | ((with_reducible refine WL.topF ?_ ?_); omega) | ((with_reducible refine WL.top64 ?_ ?_); omega) | refine WC.seq ?_ | refine WC.block ?_ | refine WC.region ?_ | refine WL.nil ?_ | refine WC.skip ?_ | refine WC.exit ?_ | refine WC.ret ?_ | refine WQ.then rfl ?_ | refine WQ.thenExit ?_ | refine WQ.thenRet ?_ | refine WQ.blk ?_ | refine WQ.blkRet ?_ | refine WQ.blkHere rfl ?_ | refine WQ.blkOther rfl ?_ | refine WL.pure rfl rfl rfl rfl ?_ | refine WL.on rfl rfl ?_ | refine WL.off rfl rfl rfl ?_ | refine WC.condTrue rfl ?_ | refine WC.condFalse rfl ?_)
  refine WL.alloc (z := .agg zReq.toArray) rfl rfl rfl rfl (fun _ => by kernel_rfl) fun g3 wa3 hf3 => ?_
  have hf3' : Fresh w2 g3 wa3 31 zReq := hf3
  clear hf3
  repeat (first | ((with_reducible refine WL.topT ?_ ?_); omega) | ((with_reducible refine WL.topF ?_ ?_); omega) | ((with_reducible refine WL.top64 ?_ ?_); omega) | refine WC.seq ?_ | refine WC.block ?_ | refine WC.region ?_ | refine WL.nil ?_ | refine WC.skip ?_ | refine WC.exit ?_ | refine WC.ret ?_ | refine WQ.then rfl ?_ | refine WQ.thenExit ?_ | refine WQ.thenRet ?_ | refine WQ.blk ?_ | refine WQ.blkRet ?_ | refine WQ.blkHere rfl ?_ | refine WQ.blkOther rfl ?_ | refine WL.pure rfl rfl rfl rfl ?_ | refine WL.on rfl rfl ?_ | refine WL.off rfl rfl rfl ?_ | refine WC.condTrue rfl ?_ | refine WC.condFalse rfl ?_)
  refine WL.storeRow rfl rfl rfl rfl rfl rfl hf3'.blk rfl rfl zReq_ones ?_
  have kk3 : Below w2.heap.size w2 (wa3.setRow g3 zReq.toArray) := below_setRow hf3'.below (by rw [hf3'.eq]; exact Nat.le_refl _) _
  clear hf3'
  generalize wa3.setRow g3 zReq.toArray = w3 at kk3 ⊢
  have hw3 : Below w.heap.size w w3 := hw2.trans (kk3.mono hw2.size)
  have hb3 := hb2.below kk3
  clear hb2 kk3
  repeat (first | ((with_reducible refine WL.topT ?_ ?_); omega) | ((with_reducible refine WL.topF ?_ ?_); omega) | ((with_reducible refine WL.top64 ?_ ?_); omega) | refine WC.seq ?_ | refine WC.block ?_ | refine WC.region ?_ | refine WL.nil ?_ | refine WC.skip ?_ | refine WC.exit ?_ | refine WC.ret ?_ | refine WQ.then rfl ?_ | refine WQ.thenExit ?_ | refine WQ.thenRet ?_ | refine WQ.blk ?_ | refine WQ.blkRet ?_ | refine WQ.blkHere rfl ?_ | refine WQ.blkOther rfl ?_ | refine WL.pure rfl rfl rfl rfl ?_ | refine WL.on rfl rfl ?_ | refine WL.off rfl rfl rfl ?_ | refine WC.condTrue rfl ?_ | refine WC.condFalse rfl ?_)
  refine WL.empty rfl rfl rfl rfl rfl fun g4 w4 hf4 => ?_
  have e4 := Bu.ofFresh hf4
  have k4 := hf4.below
  have o4 : ∀ x, (Value.slice (some ⟨g4, 0, none⟩) 0 0).ownBlock = some x → w3.heap.size ≤ x := fun x h => by cases h; show w3.heap.size ≤ g4; rw [hf4.eq]; exact Nat.le_refl _
  clear hf4
  repeat (first | ((with_reducible refine WL.topT ?_ ?_); omega) | ((with_reducible refine WL.topF ?_ ?_); omega) | ((with_reducible refine WL.top64 ?_ ?_); omega) | refine WC.seq ?_ | refine WC.block ?_ | refine WC.region ?_ | refine WL.nil ?_ | refine WC.skip ?_ | refine WC.exit ?_ | refine WC.ret ?_ | refine WQ.then rfl ?_ | refine WQ.thenExit ?_ | refine WQ.thenRet ?_ | refine WQ.blk ?_ | refine WQ.blkRet ?_ | refine WQ.blkHere rfl ?_ | refine WQ.blkOther rfl ?_ | refine WL.pure rfl rfl rfl rfl ?_ | refine WL.on rfl rfl ?_ | refine WL.off rfl rfl rfl ?_ | refine WC.condTrue rfl ?_ | refine WC.condFalse rfl ?_)
  refine WL.app rfl rfl rfl rfl rfl e4 rfl (hb3.below k4).sl (by show 0 + F.length ≤ _; omega) fun b5 w5 q5 gr5 => ?_
  rw [List.nil_append] at q5
  have k5 : Below w3.heap.size w3 w5 := k4.trans (gr5.old k4.size o4)
  have o5 : ∀ x, b5.ownBlock = some x → w3.heap.size ≤ x := fun x h => gr5.own k4.size o4 x h
  clear gr5 e4 k4 o4
  obtain ⟨g5, c5, rfl, hog, hcell, hfr, hset⟩ := q5.at (j := k) hmod
  repeat (first | ((with_reducible refine WL.topT ?_ ?_); omega) | ((with_reducible refine WL.topF ?_ ?_); omega) | ((with_reducible refine WL.top64 ?_ ?_); omega) | refine WC.seq ?_ | refine WC.block ?_ | refine WC.region ?_ | refine WL.nil ?_ | refine WC.skip ?_ | refine WC.exit ?_ | refine WC.ret ?_ | refine WQ.then rfl ?_ | refine WQ.thenExit ?_ | refine WQ.thenRet ?_ | refine WQ.blk ?_ | refine WQ.blkRet ?_ | refine WQ.blkHere rfl ?_ | refine WQ.blkOther rfl ?_ | refine WL.pure rfl rfl rfl rfl ?_ | refine WL.on rfl rfl ?_ | refine WL.off rfl rfl rfl ?_ | refine WC.condTrue rfl ?_ | refine WC.condFalse rfl ?_)
  refine WL.idx k k rfl rfl rfl rfl rfl rfl rfl rfl hmod (by omega) ?_
  repeat (first | ((with_reducible refine WL.topT ?_ ?_); omega) | ((with_reducible refine WL.topF ?_ ?_); omega) | ((with_reducible refine WL.top64 ?_ ?_); omega) | refine WC.seq ?_ | refine WC.block ?_ | refine WC.region ?_ | refine WL.nil ?_ | refine WC.skip ?_ | refine WC.exit ?_ | refine WC.ret ?_ | refine WQ.then rfl ?_ | refine WQ.thenExit ?_ | refine WQ.thenRet ?_ | refine WQ.blk ?_ | refine WQ.blkRet ?_ | refine WQ.blkHere rfl ?_ | refine WQ.blkOther rfl ?_ | refine WL.pure rfl rfl rfl rfl ?_ | refine WL.on rfl rfl ?_ | refine WL.off rfl rfl rfl ?_ | refine WL.load rfl rfl rfl rfl rfl rfl (by assumption) ?_ | refine WC.condTrue rfl ?_ | refine WC.condFalse rfl ?_)
  obtain ⟨z, hz, hz0, hz1, hzn⟩ := xor8 (hFb _ (nth_mem' F k hmod)) hy hy0
  refine WL.as 62 (.int .u8 z) rfl (congrArg (Value.int .u8) hz) ?_
  refine WL.idx k k rfl rfl rfl rfl rfl rfl rfl rfl hmod (by omega) ?_
  refine WL.store rfl rfl rfl rfl rfl rfl (by kernel_rfl) hcell hfr ?_
  obtain ⟨q6, gr6⟩ := hset z
  have k6 : Below w3.heap.size w3 (w5.setCell ⟨g5, k, none⟩ (.int .u8 z)) := k5.trans (gr6.old k5.size o5)
  generalize w5.setCell ⟨g5, k, none⟩ (.int .u8 z) = w6 at q6 k6 ⊢
  have hw6 : Below w.heap.size w w6 := hw3.trans (k6.mono hw3.size)
  have hb6 := hb3.below k6
  have hFs : Frm.Byt (F.set k z) := Frm.set_byt hFb ⟨hz0, hz1⟩
  have hFsl : (F.set k z).length = F.length := List.length_set ..
  have hB4 := hone k z hmod ⟨hz0, hz1⟩ (by unfold nth at hzn; exact hzn)
  clear hset gr6 hcell hfr hog o5 k5 hone hz hzn hb3 k6 q5
  repeat (first | ((with_reducible refine WL.topT ?_ ?_); omega) | ((with_reducible refine WL.topF ?_ ?_); omega) | ((with_reducible refine WL.top64 ?_ ?_); omega) | refine WC.seq ?_ | refine WC.block ?_ | refine WC.region ?_ | refine WL.nil ?_ | refine WC.skip ?_ | refine WC.exit ?_ | refine WC.ret ?_ | refine WQ.then rfl ?_ | refine WQ.thenExit ?_ | refine WQ.thenRet ?_ | refine WQ.blk ?_ | refine WQ.blkRet ?_ | refine WQ.blkHere rfl ?_ | refine WQ.blkOther rfl ?_ | refine WL.pure rfl rfl rfl rfl ?_ | refine WL.on rfl rfl ?_ | refine WL.off rfl rfl rfl ?_ | refine WC.condTrue rfl ?_ | refine WC.condFalse rfl ?_)
  refine WL.call rfl rfl rfl rfl rfl Try.func6 rfl (by kernel_rfl) (wdec_bad q6.sl hFs (by omega) hB4 (by decide)) ?_
  rintro _ w7 ⟨rfl, k7⟩
  refine ⟨_, rfl, ?_⟩
  have hw7 : Below w.heap.size w w7 := hw6.trans (k7.mono hw6.size)
  have hb7 := hb6.below k7
  clear q6 hB4 hFs hFsl k7 hb6
  repeat (first | ((with_reducible refine WL.topT ?_ ?_); omega) | ((with_reducible refine WL.topF ?_ ?_); omega) | ((with_reducible refine WL.top64 ?_ ?_); omega) | refine WC.seq ?_ | refine WC.block ?_ | refine WC.region ?_ | refine WL.nil ?_ | refine WC.skip ?_ | refine WC.exit ?_ | refine WC.ret ?_ | refine WQ.then rfl ?_ | refine WQ.thenExit ?_ | refine WQ.thenRet ?_ | refine WQ.blk ?_ | refine WQ.blkRet ?_ | refine WQ.blkHere rfl ?_ | refine WQ.blkOther rfl ?_ | refine WL.pure rfl rfl rfl rfl ?_ | refine WL.on rfl rfl ?_ | refine WL.off rfl rfl rfl ?_ | refine WC.condTrue rfl ?_ | refine WC.condFalse rfl ?_)
  refine WL.alloc (z := .agg zReq.toArray) rfl rfl rfl rfl (fun _ => by kernel_rfl) fun g8 wa8 hf8 => ?_
  have hf8' : Fresh w7 g8 wa8 31 zReq := hf8
  clear hf8
  repeat (first | ((with_reducible refine WL.topT ?_ ?_); omega) | ((with_reducible refine WL.topF ?_ ?_); omega) | ((with_reducible refine WL.top64 ?_ ?_); omega) | refine WC.seq ?_ | refine WC.block ?_ | refine WC.region ?_ | refine WL.nil ?_ | refine WC.skip ?_ | refine WC.exit ?_ | refine WC.ret ?_ | refine WQ.then rfl ?_ | refine WQ.thenExit ?_ | refine WQ.thenRet ?_ | refine WQ.blk ?_ | refine WQ.blkRet ?_ | refine WQ.blkHere rfl ?_ | refine WQ.blkOther rfl ?_ | refine WL.pure rfl rfl rfl rfl ?_ | refine WL.on rfl rfl ?_ | refine WL.off rfl rfl rfl ?_ | refine WC.condTrue rfl ?_ | refine WC.condFalse rfl ?_)
  refine WL.storeRow rfl rfl rfl rfl rfl rfl hf8'.blk rfl rfl zReq_ones ?_
  have kk8 : Below w7.heap.size w7 (wa8.setRow g8 zReq.toArray) := below_setRow hf8'.below (by rw [hf8'.eq]; exact Nat.le_refl _) _
  clear hf8'
  generalize wa8.setRow g8 zReq.toArray = w8 at kk8 ⊢
  have hw8 : Below w.heap.size w w8 := hw7.trans (kk8.mono hw7.size)
  have hb8 := hb7.below kk8
  clear hb7 kk8
  repeat (first | ((with_reducible refine WL.topT ?_ ?_); omega) | ((with_reducible refine WL.topF ?_ ?_); omega) | ((with_reducible refine WL.top64 ?_ ?_); omega) | refine WC.seq ?_ | refine WC.block ?_ | refine WC.region ?_ | refine WL.nil ?_ | refine WC.skip ?_ | refine WC.exit ?_ | refine WC.ret ?_ | refine WQ.then rfl ?_ | refine WQ.thenExit ?_ | refine WQ.thenRet ?_ | refine WQ.blk ?_ | refine WQ.blkRet ?_ | refine WQ.blkHere rfl ?_ | refine WQ.blkOther rfl ?_ | refine WL.pure rfl rfl rfl rfl ?_ | refine WL.on rfl rfl ?_ | refine WL.off rfl rfl rfl ?_ | refine WC.condTrue rfl ?_ | refine WC.condFalse rfl ?_)
  refine WL.empty rfl rfl rfl rfl rfl fun g9 w9 hf9 => ?_
  have e9 := Bu.ofFresh hf9
  have k9 := hf9.below
  have o9 : ∀ x, (Value.slice (some ⟨g9, 0, none⟩) 0 0).ownBlock = some x → w8.heap.size ≤ x := fun x h => by cases h; show w8.heap.size ≤ g9; rw [hf9.eq]; exact Nat.le_refl _
  clear hf9
  repeat (first | ((with_reducible refine WL.topT ?_ ?_); omega) | ((with_reducible refine WL.topF ?_ ?_); omega) | ((with_reducible refine WL.top64 ?_ ?_); omega) | refine WC.seq ?_ | refine WC.block ?_ | refine WC.region ?_ | refine WL.nil ?_ | refine WC.skip ?_ | refine WC.exit ?_ | refine WC.ret ?_ | refine WQ.then rfl ?_ | refine WQ.thenExit ?_ | refine WQ.thenRet ?_ | refine WQ.blk ?_ | refine WQ.blkRet ?_ | refine WQ.blkHere rfl ?_ | refine WQ.blkOther rfl ?_ | refine WL.pure rfl rfl rfl rfl ?_ | refine WL.on rfl rfl ?_ | refine WL.off rfl rfl rfl ?_ | refine WC.condTrue rfl ?_ | refine WC.condFalse rfl ?_)
  refine WL.app rfl rfl rfl rfl rfl e9 rfl (hb8.below k9).sl (by show 0 + F.length ≤ _; omega) fun b10 w10 q10 gr10 => ?_
  rw [List.nil_append] at q10
  have k10 : Below w8.heap.size w8 w10 := k9.trans (gr10.old k9.size o9)
  have o10 : ∀ x, b10.ownBlock = some x → w8.heap.size ≤ x := fun x h => gr10.own k9.size o9 x h
  clear gr10 e9 k9 o9
  repeat (first | ((with_reducible refine WL.topT ?_ ?_); omega) | ((with_reducible refine WL.topF ?_ ?_); omega) | ((with_reducible refine WL.top64 ?_ ?_); omega) | refine WC.seq ?_ | refine WC.block ?_ | refine WC.region ?_ | refine WL.nil ?_ | refine WC.skip ?_ | refine WC.exit ?_ | refine WC.ret ?_ | refine WQ.then rfl ?_ | refine WQ.thenExit ?_ | refine WQ.thenRet ?_ | refine WQ.blk ?_ | refine WQ.blkRet ?_ | refine WQ.blkHere rfl ?_ | refine WQ.blkOther rfl ?_ | refine WL.pure rfl rfl rfl rfl ?_ | refine WL.on rfl rfl ?_ | refine WL.off rfl rfl rfl ?_ | refine WC.condTrue rfl ?_ | refine WC.condFalse rfl ?_)
  refine WL.lit rfl rfl rfl rfl rfl rfl rfl fun v11 w11 h11 k11 _ => ?_
  have q11 := q10.below k11
  refine WL.app rfl rfl rfl rfl rfl q11 rfl h11.sl (by show F.length + 1 ≤ _; omega) fun b12 w12 q12 gr12 => ?_
  have k12 : Below w8.heap.size w8 w12 := (k10.trans (k11.mono k10.size)).trans (gr12.old (k10.trans (k11.mono k10.size)).size o10)
  have hw12 : Below w.heap.size w w12 := hw8.trans (k12.mono hw8.size)
  have hF0 : Frm.Byt (F ++ [0]) := fun c hc => (List.mem_append.1 hc).elim (hFb c) (fun h => by simp at h; omega)
  refine WL.call rfl rfl rfl rfl rfl Try.func6 rfl (by kernel_rfl) (wdec_bad q12.sl hF0 (by simp only [List.length_append, List.length_cons, List.length_nil]; omega) hmore (by decide)) ?_
  rintro _ w13 ⟨rfl, k13⟩
  refine ⟨_, rfl, ?_⟩
  have hw13 : Below w.heap.size w w13 := hw12.trans (k13.mono hw12.size)
  clear q12 hmore hF0 k13 hw12 k12 gr12 q11 k11 h11 o10 k10 q10
  repeat (first | ((with_reducible refine WL.topT ?_ ?_); omega) | ((with_reducible refine WL.topF ?_ ?_); omega) | ((with_reducible refine WL.top64 ?_ ?_); omega) | refine WC.seq ?_ | refine WC.block ?_ | refine WC.region ?_ | refine WL.nil ?_ | refine WC.skip ?_ | refine WC.exit ?_ | refine WC.ret ?_ | refine WQ.then rfl ?_ | refine WQ.thenExit ?_ | refine WQ.thenRet ?_ | refine WQ.blk ?_ | refine WQ.blkRet ?_ | refine WQ.blkHere rfl ?_ | refine WQ.blkOther rfl ?_ | refine WL.pure rfl rfl rfl rfl ?_ | refine WL.on rfl rfl ?_ | refine WL.off rfl rfl rfl ?_ | refine WC.condTrue rfl ?_ | refine WC.condFalse rfl ?_)
  refine WL.alloc (z := .agg zReq.toArray) rfl rfl rfl rfl (fun _ => by kernel_rfl) fun g14 wa14 hf14 => ?_
  have hf14' : Fresh w13 g14 wa14 31 zReq := hf14
  clear hf14
  repeat (first | ((with_reducible refine WL.topT ?_ ?_); omega) | ((with_reducible refine WL.topF ?_ ?_); omega) | ((with_reducible refine WL.top64 ?_ ?_); omega) | refine WC.seq ?_ | refine WC.block ?_ | refine WC.region ?_ | refine WL.nil ?_ | refine WC.skip ?_ | refine WC.exit ?_ | refine WC.ret ?_ | refine WQ.then rfl ?_ | refine WQ.thenExit ?_ | refine WQ.thenRet ?_ | refine WQ.blk ?_ | refine WQ.blkRet ?_ | refine WQ.blkHere rfl ?_ | refine WQ.blkOther rfl ?_ | refine WL.pure rfl rfl rfl rfl ?_ | refine WL.on rfl rfl ?_ | refine WL.off rfl rfl rfl ?_ | refine WC.condTrue rfl ?_ | refine WC.condFalse rfl ?_)
  refine WL.storeRow rfl rfl rfl rfl rfl rfl hf14'.blk rfl rfl zReq_ones ?_
  have kk14 : Below w13.heap.size w13 (wa14.setRow g14 zReq.toArray) := below_setRow hf14'.below (by rw [hf14'.eq]; exact Nat.le_refl _) _
  clear hf14'
  generalize wa14.setRow g14 zReq.toArray = w14 at kk14 ⊢
  have hw14 : Below w.heap.size w w14 := hw13.trans (kk14.mono hw13.size)
  repeat (first | ((with_reducible refine WL.topT ?_ ?_); omega) | ((with_reducible refine WL.topF ?_ ?_); omega) | ((with_reducible refine WL.top64 ?_ ?_); omega) | refine WC.seq ?_ | refine WC.block ?_ | refine WC.region ?_ | refine WL.nil ?_ | refine WC.skip ?_ | refine WC.exit ?_ | refine WC.ret ?_ | refine WQ.then rfl ?_ | refine WQ.thenExit ?_ | refine WQ.thenRet ?_ | refine WQ.blk ?_ | refine WQ.blkRet ?_ | refine WQ.blkHere rfl ?_ | refine WQ.blkOther rfl ?_ | refine WL.pure rfl rfl rfl rfl ?_ | refine WL.on rfl rfl ?_ | refine WL.off rfl rfl rfl ?_ | refine WC.condTrue rfl ?_ | refine WC.condFalse rfl ?_)
  refine WL.call rfl rfl rfl rfl rfl Try.func5 rfl (by kernel_rfl) (known_any w14) ?_
  rintro _ w15 ⟨rfl, k15⟩
  refine ⟨_, rfl, ?_⟩
  repeat (first | ((with_reducible refine WL.topT ?_ ?_); omega) | ((with_reducible refine WL.topF ?_ ?_); omega) | ((with_reducible refine WL.top64 ?_ ?_); omega) | refine WC.seq ?_ | refine WC.block ?_ | refine WC.region ?_ | refine WL.nil ?_ | refine WC.skip ?_ | refine WC.exit ?_ | refine WC.ret ?_ | refine WQ.then rfl ?_ | refine WQ.thenExit ?_ | refine WQ.thenRet ?_ | refine WQ.blk ?_ | refine WQ.blkRet ?_ | refine WQ.blkHere rfl ?_ | refine WQ.blkOther rfl ?_ | refine WL.pure rfl rfl rfl rfl ?_ | refine WL.on rfl rfl ?_ | refine WL.off rfl rfl rfl ?_ | refine WC.condTrue rfl ?_ | refine WC.condFalse rfl ?_)
  exact WQ.ret1 rfl rfl ⟨rfl, hw14.trans (k15.mono hw14.size)⟩
end K
end Go.Proofs.Ytfkjiehkfimmhaa
