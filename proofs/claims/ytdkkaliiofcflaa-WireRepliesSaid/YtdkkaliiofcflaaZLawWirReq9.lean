/-
  For every request the law WireRequests answers true, and the arguments read as they did. No condition.
-/
import Derived.Test.YtdkkaliiofcflaaZLawWirReq8
import Derived.SizedLaws
import Derived.DataOpen
import Derived.ChangeMaps5
/- The law WireRequests: walked. -/
namespace Go.Proofs.Ytdkkaliiofcflaa
open Go.RowKit
namespace K
theorem built_rq (T : TypeId) (hT : T = 32 ∨ T = 33) (kind seq : Int) (text : ByteArray) (sn sp : Option Addr) (ln cn lp cp : Nat) (hash : List Value) (h : hash.length = 32) :
    Try.prog.built T [(0, .int .i64 kind), (1, .int .i64 seq), (2, .slice sn ln cn), (3, .string text), (4, .slice sp lp cp), (5, .agg hash.toArray)] = some (.int .i64 kind :: .int .i64 seq :: .slice sn ln cn :: .string text :: .slice sp lp cp :: hash).toArray := by
  rcases hash with _ | ⟨a0, hash⟩
  · simp at h
  rcases hash with _ | ⟨a1, hash⟩
  · simp at h
  rcases hash with _ | ⟨a2, hash⟩
  · simp at h
  rcases hash with _ | ⟨a3, hash⟩
  · simp at h
  rcases hash with _ | ⟨a4, hash⟩
  · simp at h
  rcases hash with _ | ⟨a5, hash⟩
  · simp at h
  rcases hash with _ | ⟨a6, hash⟩
  · simp at h
  rcases hash with _ | ⟨a7, hash⟩
  · simp at h
  rcases hash with _ | ⟨a8, hash⟩
  · simp at h
  rcases hash with _ | ⟨a9, hash⟩
  · simp at h
  rcases hash with _ | ⟨a10, hash⟩
  · simp at h
  rcases hash with _ | ⟨a11, hash⟩
  · simp at h
  rcases hash with _ | ⟨a12, hash⟩
  · simp at h
  rcases hash with _ | ⟨a13, hash⟩
  · simp at h
  rcases hash with _ | ⟨a14, hash⟩
  · simp at h
  rcases hash with _ | ⟨a15, hash⟩
  · simp at h
  rcases hash with _ | ⟨a16, hash⟩
  · simp at h
  rcases hash with _ | ⟨a17, hash⟩
  · simp at h
  rcases hash with _ | ⟨a18, hash⟩
  · simp at h
  rcases hash with _ | ⟨a19, hash⟩
  · simp at h
  rcases hash with _ | ⟨a20, hash⟩
  · simp at h
  rcases hash with _ | ⟨a21, hash⟩
  · simp at h
  rcases hash with _ | ⟨a22, hash⟩
  · simp at h
  rcases hash with _ | ⟨a23, hash⟩
  · simp at h
  rcases hash with _ | ⟨a24, hash⟩
  · simp at h
  rcases hash with _ | ⟨a25, hash⟩
  · simp at h
  rcases hash with _ | ⟨a26, hash⟩
  · simp at h
  rcases hash with _ | ⟨a27, hash⟩
  · simp at h
  rcases hash with _ | ⟨a28, hash⟩
  · simp at h
  rcases hash with _ | ⟨a29, hash⟩
  · simp at h
  rcases hash with _ | ⟨a30, hash⟩
  · simp at h
  rcases hash with _ | ⟨a31, hash⟩
  · simp at h
  rcases hash with _ | ⟨x, hash⟩
  · rcases hT with rfl | rfl <;> kernel_rfl
  · simp at h
theorem rqOk_of {f n : Nat} {w : World} {r : Rq} {nv pv : Value} (h : IsRq f w r nv pv) (hfew : Few f r.params n) (he : rqE r = 0) : RqOk r := by
  obtain ⟨hnums, h64, hpar, hh, hhb⟩ := h
  unfold rqE at he
  by_cases c1 : r.kind < 1 ∨ 20 < r.kind ∨ r.seq < 0 ∨ 9007199254740992 < r.seq ∨ 8 < r.nums.length
  · rw [if_pos c1] at he; cases he
  rw [if_neg c1] at he
  by_cases c2 : 4096 < r.text.size ∨ 40 < r.params.length
  · rw [if_pos c2] at he; cases he
  rw [if_neg c2] at he
  have hm := vlE_mem he
  have hbk : Backs r.params := fun v hv => by
    obtain ⟨sp, cap, -, -, -, hrow⟩ := hpar
    obtain ⟨j, hj, rfl⟩ := List.getElem_of_mem hv
    obtain ⟨kb, ko, -, -, hcells⟩ := hrow (by omega)
    obtain ⟨c, -, hci, -⟩ := hcells j hj
    rw [show r.params.getD j noV = r.params[j] by simp [hj]] at hci
    obtain ⟨k1, k2, -⟩ := encR_ok (hm _ hv)
    exact ⟨back_dec hci k1 k2, encV_byt 16 k1, k2⟩
  have hvl := valsB_len hfew he
  have hhl := headB_len 81 r.kind r.seq.toNat r.nums (by omega)
  have hu := uvB_lenw r.text.size
  have htl := bytesI_len r.text
  refine ⟨by omega, by omega, by omega, h64, by omega, by omega, hbk, hh, hhb, ?_, ?_⟩
  · unfold rqB
    intro c hc
    simp only [List.mem_append] at hc
    rcases hc with ((h | (h | h)) | h) | h
    · exact headB_byt (by omega) (by omega) _ _ c h
    · exact uvB_bytw _ c h
    · exact bytesI_byt _ c h
    · exact valsB_byt hm c h
    · exact hhb c h
  · unfold rqB
    simp only [List.length_append]
    omega
theorem rq_hashAt {T g : Nat} {w : World} {r : Rq} {nv pv : Value} (h : VBlk T w g (rqC r nv pv)) : w.rangeAt g (0 + 5) (r.hash.map (Value.int .u8)) := fun j u hj => by
  have := (VBlk.rangeAt h) (5 + j) u (by unfold rqC; rw [show 5 + j = (j + 1 + 1 + 1 + 1 + 1) by omega]; simpa using hj)
  rw [show (0 + 5 + j) = 0 + (5 + j) by omega]
  exact this
set_option maxHeartbeats 1000000 in
theorem requests_any {f1 f2 : Nat} {w : World} {r : Rq} {n1 n2 p1 p2 : Value} (hh : r.hash.length = 32) (h1 : Sl .i64 w n1 r.nums) (h2 : Sl .i64 w n2 r.nums) (h3 : IsVs f1 w p1 r.params) (h4 : IsVs f2 w p2 r.params) :
    Calls Try.prog 12 #[.agg (rqC r n1 p1).toArray, .agg (rqC r n2 p2).toArray] w fun e w' => e = .returned (.bool true) ∧ Below w.heap.size w w' := by
  obtain ⟨sn1, cn1, rfl, -⟩ := id h1
  obtain ⟨sn2, cn2, rfl, -⟩ := id h2
  obtain ⟨sp1, cp1, rfl, -⟩ := id h3
  obtain ⟨sp2, cp2, rfl, -⟩ := id h4
  refine enter (args := [.agg (rqC r (.slice sn1 r.nums.length cn1) (.slice sp1 r.params.length cp1)).toArray, .agg (rqC r (.slice sn2 r.nums.length cn2) (.slice sp2 r.params.length cp2)).toArray]) Try.func12 rfl Try.ntmps12 rfl ?_
  repeat (first | refine WC.seq ?_ | refine WC.block ?_ | refine WC.region ?_ | refine WL.nil ?_ | refine WC.skip ?_ | refine WC.exit ?_ | refine WC.ret ?_ | refine WQ.then rfl ?_ | refine WQ.thenExit ?_ | refine WQ.thenRet ?_ | refine WQ.blk ?_ | refine WQ.blkRet ?_ | refine WQ.blkHere rfl ?_ | refine WQ.blkOther rfl ?_)
  refine WL.box rfl rfl rfl rfl rfl fun g1 w1 hf0 => ?_
  have hf1 : Fresh w g1 w1 32 (rqC r (.slice sn1 r.nums.length cn1) (.slice sp1 r.params.length cp1)) := hf0
  clear hf0
  refine WL.box rfl rfl rfl rfl rfl fun g2 w2 hf0 => ?_
  have hf2 : Fresh w1 g2 w2 33 (rqC r (.slice sn2 r.nums.length cn2) (.slice sp2 r.params.length cp2)) := hf0
  clear hf0
  have A := hf1.blk.below hf2.below hf1.blk.lt
  have B := hf2.blk
  have hb2 : Below w.heap.size w w2 := hf1.below.trans (hf2.below.mono hf1.below.size)
  clear hf1 hf2
  have a0 : w2.cell? ⟨g1, 0, none⟩ = some (.int .i64 r.kind) := A.cell 0 (by simp [rqC])
  have a1 : w2.cell? ⟨g1, 1, none⟩ = some (.int .i64 r.seq) := A.cell 1 (by simp [rqC])
  have a2 : w2.cell? ⟨g1, 2, none⟩ = some (.slice sn1 r.nums.length cn1) := A.cell 2 (by simp [rqC])
  have b0 : w2.cell? ⟨g2, 0, none⟩ = some (.int .i64 r.kind) := B.cell 0 (by simp [rqC])
  have b1 : w2.cell? ⟨g2, 1, none⟩ = some (.int .i64 r.seq) := B.cell 1 (by simp [rqC])
  have b2 : w2.cell? ⟨g2, 2, none⟩ = some (.slice sn2 r.nums.length cn2) := B.cell 2 (by simp [rqC])
  repeat (first | ((with_reducible refine WL.topT ?_ ?_); omega) | ((with_reducible refine WL.topF ?_ ?_); omega) | ((with_reducible refine WL.top64 ?_ ?_); omega) | refine WC.seq ?_ | refine WC.block ?_ | refine WC.region ?_ | refine WL.nil ?_ | refine WC.skip ?_ | refine WC.exit ?_ | refine WC.ret ?_ | refine WQ.then rfl ?_ | refine WQ.thenExit ?_ | refine WQ.thenRet ?_ | refine WQ.blk ?_ | refine WQ.blkRet ?_ | refine WQ.blkHere rfl ?_ | refine WQ.blkOther rfl ?_ | refine WL.pure rfl rfl rfl rfl ?_ | refine WL.on rfl rfl ?_ | refine WL.off rfl rfl rfl ?_ | refine WL.load rfl rfl rfl rfl rfl rfl (by assumption) ?_ | refine WC.condTrue rfl ?_ | refine WC.condFalse rfl ?_)
  refine WL.call rfl rfl rfl rfl rfl Try.func36 rfl (by kernel_rfl) (nums25_any (h1.of_below hb2) (h2.of_below hb2)) ?_
  rintro _ w3 ⟨rfl, k3⟩
  refine ⟨_, rfl, ?_⟩
  rw [decide_eq_true (rfl : r.nums = r.nums)]
  have A3 := A.below k3 A.lt
  have B3 := B.below k3 B.lt
  have hb3 : Below w.heap.size w w3 := hb2.trans (k3.mono hb2.size)
  clear a0 a1 a2 b0 b1 b2 A B
  have a3 : w3.cell? ⟨g1, 3, none⟩ = some (.string r.text) := A3.cell 3 (by simp [rqC])
  have a4 : w3.cell? ⟨g1, 4, none⟩ = some (.slice sp1 r.params.length cp1) := A3.cell 4 (by simp [rqC])
  have b3 : w3.cell? ⟨g2, 3, none⟩ = some (.string r.text) := B3.cell 3 (by simp [rqC])
  have b4 : w3.cell? ⟨g2, 4, none⟩ = some (.slice sp2 r.params.length cp2) := B3.cell 4 (by simp [rqC])
  repeat (first | ((with_reducible refine WL.topT ?_ ?_); omega) | ((with_reducible refine WL.topF ?_ ?_); omega) | ((with_reducible refine WL.top64 ?_ ?_); omega) | refine WC.seq ?_ | refine WC.block ?_ | refine WC.region ?_ | refine WL.nil ?_ | refine WC.skip ?_ | refine WC.exit ?_ | refine WC.ret ?_ | refine WQ.then rfl ?_ | refine WQ.thenExit ?_ | refine WQ.thenRet ?_ | refine WQ.blk ?_ | refine WQ.blkRet ?_ | refine WQ.blkHere rfl ?_ | refine WQ.blkOther rfl ?_ | refine WL.pure rfl rfl rfl rfl ?_ | refine WL.on rfl rfl ?_ | refine WL.off rfl rfl rfl ?_ | refine WL.load rfl rfl rfl rfl rfl rfl (by assumption) ?_ | refine WC.condTrue rfl ?_ | refine WC.condFalse rfl ?_)
  refine WL.as 31 (.bool true) rfl (by simp) ?_
  repeat (first | ((with_reducible refine WL.topT ?_ ?_); omega) | ((with_reducible refine WL.topF ?_ ?_); omega) | ((with_reducible refine WL.top64 ?_ ?_); omega) | refine WC.seq ?_ | refine WC.block ?_ | refine WC.region ?_ | refine WL.nil ?_ | refine WC.skip ?_ | refine WC.exit ?_ | refine WC.ret ?_ | refine WQ.then rfl ?_ | refine WQ.thenExit ?_ | refine WQ.thenRet ?_ | refine WQ.blk ?_ | refine WQ.blkRet ?_ | refine WQ.blkHere rfl ?_ | refine WQ.blkOther rfl ?_ | refine WL.pure rfl rfl rfl rfl ?_ | refine WL.on rfl rfl ?_ | refine WL.off rfl rfl rfl ?_ | refine WL.load rfl rfl rfl rfl rfl rfl (by assumption) ?_ | refine WC.condTrue rfl ?_ | refine WC.condFalse rfl ?_)
  refine WL.call rfl rfl rfl rfl rfl Try.func37 rfl (by kernel_rfl) (vals25_any (h3.below hb3) (h4.below hb3)) ?_
  rintro _ w4 ⟨rfl, k4⟩
  refine ⟨_, rfl, ?_⟩
  have A4 := A3.below k4 A3.lt
  have B4 := B3.below k4 B3.lt
  have hb4 : Below w.heap.size w w4 := hb3.trans (k4.mono hb3.size)
  clear a3 a4 b3 b4 A3 B3
  repeat (first | ((with_reducible refine WL.topT ?_ ?_); omega) | ((with_reducible refine WL.topF ?_ ?_); omega) | ((with_reducible refine WL.top64 ?_ ?_); omega) | refine WC.seq ?_ | refine WC.block ?_ | refine WC.region ?_ | refine WL.nil ?_ | refine WC.skip ?_ | refine WC.exit ?_ | refine WC.ret ?_ | refine WQ.then rfl ?_ | refine WQ.thenExit ?_ | refine WQ.thenRet ?_ | refine WQ.blk ?_ | refine WQ.blkRet ?_ | refine WQ.blkHere rfl ?_ | refine WQ.blkOther rfl ?_ | refine WL.pure rfl rfl rfl rfl ?_ | refine WL.on rfl rfl ?_ | refine WL.off rfl rfl rfl ?_ | refine WC.condTrue rfl ?_ | refine WC.condFalse rfl ?_)
  refine WL.loadMid rfl rfl rfl rfl rfl rfl (rq_hashAt A4) (by rw [List.length_map, hh]) ?_
  repeat (first | ((with_reducible refine WL.topT ?_ ?_); omega) | ((with_reducible refine WL.topF ?_ ?_); omega) | ((with_reducible refine WL.top64 ?_ ?_); omega) | refine WC.seq ?_ | refine WC.block ?_ | refine WC.region ?_ | refine WL.nil ?_ | refine WC.skip ?_ | refine WC.exit ?_ | refine WC.ret ?_ | refine WQ.then rfl ?_ | refine WQ.thenExit ?_ | refine WQ.thenRet ?_ | refine WQ.blk ?_ | refine WQ.blkRet ?_ | refine WQ.blkHere rfl ?_ | refine WQ.blkOther rfl ?_ | refine WL.pure rfl rfl rfl rfl ?_ | refine WL.on rfl rfl ?_ | refine WL.off rfl rfl rfl ?_ | refine WC.condTrue rfl ?_ | refine WC.condFalse rfl ?_)
  refine WL.loadMid rfl rfl rfl rfl rfl rfl (rq_hashAt B4) (by rw [List.length_map, hh]) ?_
  refine WL.on rfl rfl ?_
  refine WL.eqlHw rfl rfl rfl rfl rfl rfl hh hh ?_
  rw [decide_eq_true (rfl : r.hash = r.hash)]
  repeat (first | ((with_reducible refine WL.topT ?_ ?_); omega) | ((with_reducible refine WL.topF ?_ ?_); omega) | ((with_reducible refine WL.top64 ?_ ?_); omega) | refine WC.seq ?_ | refine WC.block ?_ | refine WC.region ?_ | refine WL.nil ?_ | refine WC.skip ?_ | refine WC.exit ?_ | refine WC.ret ?_ | refine WQ.then rfl ?_ | refine WQ.thenExit ?_ | refine WQ.thenRet ?_ | refine WQ.blk ?_ | refine WQ.blkRet ?_ | refine WQ.blkHere rfl ?_ | refine WQ.blkOther rfl ?_ | refine WL.pure rfl rfl rfl rfl ?_ | refine WL.on rfl rfl ?_ | refine WL.off rfl rfl rfl ?_ | refine WC.condTrue rfl ?_ | refine WC.condFalse rfl ?_)
  exact WQ.ret1 rfl rfl ⟨rfl, hb4⟩
set_option maxHeartbeats 2000000 in
theorem wireRequests_law {f : Nat} {w : World} {r : Rq} {nv pv : Value} (h : IsRq f w r nv pv) (hsm : ∀ x ∈ r.params, Sml f x) (hln : r.nums.length ≤ 140737488355328) :
    Calls Try.prog 3 #[.int .i64 r.kind, .int .i64 r.seq, nv, .string r.text, pv, .agg (r.hash.map (Value.int .u8)).toArray] w fun e w' => e = .returned (.bool true) ∧ Below w.heap.size w w' := by
  obtain ⟨sn, cn, rfl, -⟩ := id h.nums
  obtain ⟨sp, cp, rfl, -⟩ := id h.params
  have hh := h.hash
  have hhm : (r.hash.map (Value.int .u8)).length = 32 := by rw [List.length_map, hh]
  refine enter (args := [.int .i64 r.kind, .int .i64 r.seq, .slice sn r.nums.length cn, .string r.text, .slice sp r.params.length cp, .agg (r.hash.map (Value.int .u8)).toArray]) Try.func3 rfl Try.ntmps3 rfl ?_
  repeat (first | refine WC.seq ?_ | refine WC.block ?_ | refine WC.region ?_ | refine WL.nil ?_ | refine WC.skip ?_ | refine WC.exit ?_ | refine WC.ret ?_ | refine WQ.then rfl ?_ | refine WQ.thenExit ?_ | refine WQ.thenRet ?_ | refine WQ.blk ?_ | refine WQ.blkRet ?_ | refine WQ.blkHere rfl ?_ | refine WQ.blkOther rfl ?_)
  refine WL.box rfl rfl rfl rfl rfl fun g w1 hf0 => ?_
  have hf : Fresh w g w1 25 (r.hash.map (Value.int .u8)) := hf0
  clear hf0
  have hb1 := hf.below
  have G1 := hf.blk
  clear hf
  repeat (first | ((with_reducible refine WL.topT ?_ ?_); omega) | ((with_reducible refine WL.topF ?_ ?_); omega) | ((with_reducible refine WL.top64 ?_ ?_); omega) | refine WC.seq ?_ | refine WC.block ?_ | refine WC.region ?_ | refine WL.nil ?_ | refine WC.skip ?_ | refine WC.exit ?_ | refine WC.ret ?_ | refine WQ.then rfl ?_ | refine WQ.thenExit ?_ | refine WQ.thenRet ?_ | refine WQ.blk ?_ | refine WQ.blkRet ?_ | refine WQ.blkHere rfl ?_ | refine WQ.blkOther rfl ?_ | refine WL.pure rfl rfl rfl rfl ?_ | refine WL.on rfl rfl ?_ | refine WL.off rfl rfl rfl ?_ | refine WC.condTrue rfl ?_ | refine WC.condFalse rfl ?_)
  refine WL.call rfl rfl rfl rfl rfl Try.func6 rfl (by kernel_rfl) (heavy25_any (n := r.nums.length) (h.params.below hb1) hsm hln) ?_
  rintro _ w2 ⟨k2, hb, rfl, hfew⟩
  refine ⟨_, rfl, ?_⟩
  have hb2 : Below w.heap.size w w2 := hb1.trans (k2.mono hb1.size)
  have G2 := G1.below k2 G1.lt
  clear G1 k2
  cases hb with
  | true =>
    repeat (first | ((with_reducible refine WL.topT ?_ ?_); omega) | ((with_reducible refine WL.topF ?_ ?_); omega) | ((with_reducible refine WL.top64 ?_ ?_); omega) | refine WC.seq ?_ | refine WC.block ?_ | refine WC.region ?_ | refine WL.nil ?_ | refine WC.skip ?_ | refine WC.exit ?_ | refine WC.ret ?_ | refine WQ.then rfl ?_ | refine WQ.thenExit ?_ | refine WQ.thenRet ?_ | refine WQ.blk ?_ | refine WQ.blkRet ?_ | refine WQ.blkHere rfl ?_ | refine WQ.blkOther rfl ?_ | refine WL.pure rfl rfl rfl rfl ?_ | refine WL.on rfl rfl ?_ | refine WL.off rfl rfl rfl ?_ | refine WC.condTrue rfl ?_ | refine WC.condFalse rfl ?_)
    exact WQ.ret1 rfl rfl ⟨rfl, hb2⟩
  | false =>
  replace hfew := hfew rfl
  by_cases ht : 5000 < r.text.size
  · repeat (first | ((with_reducible refine WL.topT ?_ ?_); omega) | ((with_reducible refine WL.topF ?_ ?_); omega) | ((with_reducible refine WL.top64 ?_ ?_); omega) | refine WC.seq ?_ | refine WC.block ?_ | refine WC.region ?_ | refine WL.nil ?_ | refine WC.skip ?_ | refine WC.exit ?_ | refine WC.ret ?_ | refine WQ.then rfl ?_ | refine WQ.thenExit ?_ | refine WQ.thenRet ?_ | refine WQ.blk ?_ | refine WQ.blkRet ?_ | refine WQ.blkHere rfl ?_ | refine WQ.blkOther rfl ?_ | refine WL.pure rfl rfl rfl rfl ?_ | refine WL.on rfl rfl ?_ | refine WL.off rfl rfl rfl ?_ | refine WC.condTrue rfl ?_ | refine WC.condFalse rfl ?_)
    exact WQ.ret1 rfl rfl ⟨rfl, hb2⟩
  repeat (first | ((with_reducible refine WL.topT ?_ ?_); omega) | ((with_reducible refine WL.topF ?_ ?_); omega) | ((with_reducible refine WL.top64 ?_ ?_); omega) | refine WC.seq ?_ | refine WC.block ?_ | refine WC.region ?_ | refine WL.nil ?_ | refine WC.skip ?_ | refine WC.exit ?_ | refine WC.ret ?_ | refine WQ.then rfl ?_ | refine WQ.thenExit ?_ | refine WQ.thenRet ?_ | refine WQ.blk ?_ | refine WQ.blkRet ?_ | refine WQ.blkHere rfl ?_ | refine WQ.blkOther rfl ?_ | refine WL.pure rfl rfl rfl rfl ?_ | refine WL.on rfl rfl ?_ | refine WL.off rfl rfl rfl ?_ | refine WC.condTrue rfl ?_ | refine WC.condFalse rfl ?_)
  refine WL.loadMid rfl rfl rfl rfl rfl rfl (VBlk.rangeAt G2) hhm ?_
  refine WL.build (rqC r (.slice sn r.nums.length cn) (.slice sp r.params.length cp)) rfl rfl rfl rfl rfl (built_rq _ (.inl rfl) r.kind r.seq r.text sn sp _ cn _ cp _ hhm) ?_
  have h2 : IsRq f w2 r (.slice sn r.nums.length cn) (.slice sp r.params.length cp) := ⟨h.nums.of_below hb2, h.r64, h.params.below hb2, hh, h.byt⟩
  refine WL.call rfl rfl rfl rfl rfl Try.func7 rfl (by kernel_rfl) (rqenc_any h2 hfew (by omega)) ?_
  rintro _ w3 ⟨b3, rfl, ap3, q3⟩
  refine ⟨_, rfl, ?_⟩
  have G3 := G2.below ap3.below G2.lt
  have h3 : IsRq f w3 r (.slice sn r.nums.length cn) (.slice sp r.params.length cp) := ⟨h2.nums.of_below ap3.below, h.r64, h2.params.below ap3.below, hh, h.byt⟩
  have hb3 : Below w.heap.size w w3 := hb2.trans (ap3.below.mono hb2.size)
  clear ap3
  repeat (first | ((with_reducible refine WL.topT ?_ ?_); omega) | ((with_reducible refine WL.topF ?_ ?_); omega) | ((with_reducible refine WL.top64 ?_ ?_); omega) | refine WC.seq ?_ | refine WC.block ?_ | refine WC.region ?_ | refine WL.nil ?_ | refine WC.skip ?_ | refine WC.exit ?_ | refine WC.ret ?_ | refine WQ.then rfl ?_ | refine WQ.thenExit ?_ | refine WQ.thenRet ?_ | refine WQ.blk ?_ | refine WQ.blkRet ?_ | refine WQ.blkHere rfl ?_ | refine WQ.blkOther rfl ?_ | refine WL.pure rfl rfl rfl rfl ?_ | refine WL.on rfl rfl ?_ | refine WL.off rfl rfl rfl ?_ | refine WC.condTrue rfl ?_ | refine WC.condFalse rfl ?_)
  refine WL.loadMid rfl rfl rfl rfl rfl rfl (VBlk.rangeAt G3) hhm ?_
  refine WL.build (rqC r (.slice sn r.nums.length cn) (.slice sp r.params.length cp)) rfl rfl rfl rfl rfl (built_rq _ (.inr rfl) r.kind r.seq r.text sn sp _ cn _ cp _ hhm) ?_
  refine WL.alloc (z := .agg zReq.toArray) rfl rfl rfl rfl (fun _ => by kernel_rfl) fun gx w4 hf0 => ?_
  have hf4 : Fresh w3 gx w4 33 zReq := hf0
  clear hf0
  have hl37 : (rqC r (.slice sn r.nums.length cn) (.slice sp r.params.length cp)).length = 37 := by simp [rqC, hh]
  have hones : Ones (rqC r (.slice sn r.nums.length cn) (.slice sp r.params.length cp)) := by
    intro u hu
    unfold rqC at hu
    simp only [List.mem_cons, List.mem_map] at hu
    rcases hu with rfl | rfl | rfl | rfl | rfl | ⟨a, -, rfl⟩ <;> rfl
  repeat (first | ((with_reducible refine WL.topT ?_ ?_); omega) | ((with_reducible refine WL.topF ?_ ?_); omega) | ((with_reducible refine WL.top64 ?_ ?_); omega) | refine WC.seq ?_ | refine WC.block ?_ | refine WC.region ?_ | refine WL.nil ?_ | refine WC.skip ?_ | refine WC.exit ?_ | refine WC.ret ?_ | refine WQ.then rfl ?_ | refine WQ.thenExit ?_ | refine WQ.thenRet ?_ | refine WQ.blk ?_ | refine WQ.blkRet ?_ | refine WQ.blkHere rfl ?_ | refine WQ.blkOther rfl ?_ | refine WL.pure rfl rfl rfl rfl ?_ | refine WL.on rfl rfl ?_ | refine WL.off rfl rfl rfl ?_ | refine WC.condTrue rfl ?_ | refine WC.condFalse rfl ?_)
  refine WL.storeRow rfl rfl rfl rfl rfl rfl hf4.blk hl37 (by rfl) hones ?_
  have k5 : Below w3.heap.size w3 (w4.setRow gx (rqC r (.slice sn r.nums.length cn) (.slice sp r.params.length cp)).toArray) := below_setRow hf4.below (by rw [hf4.eq]; exact Nat.le_refl _) _
  have X5 := hf4.blk.setRow (rqC r (.slice sn r.nums.length cn) (.slice sp r.params.length cp))
  clear hf4
  generalize w4.setRow gx (rqC r (.slice sn r.nums.length cn) (.slice sp r.params.length cp)).toArray = w5 at k5 X5 ⊢
  have h5 : IsRq f w5 r (.slice sn r.nums.length cn) (.slice sp r.params.length cp) := ⟨h3.nums.of_below k5, h.r64, h3.params.below k5, hh, h.byt⟩
  have q5 := q3.below k5
  have hb5 : Below w.heap.size w w5 := hb3.trans (k5.mono hb3.size)
  clear k5 q3 h2 h3 G2 G3
  repeat (first | ((with_reducible refine WL.topT ?_ ?_); omega) | ((with_reducible refine WL.topF ?_ ?_); omega) | ((with_reducible refine WL.top64 ?_ ?_); omega) | refine WC.seq ?_ | refine WC.block ?_ | refine WC.region ?_ | refine WL.nil ?_ | refine WC.skip ?_ | refine WC.exit ?_ | refine WC.ret ?_ | refine WQ.then rfl ?_ | refine WQ.thenExit ?_ | refine WQ.thenRet ?_ | refine WQ.blk ?_ | refine WQ.blkRet ?_ | refine WQ.blkHere rfl ?_ | refine WQ.blkOther rfl ?_ | refine WL.pure rfl rfl rfl rfl ?_ | refine WL.on rfl rfl ?_ | refine WL.off rfl rfl rfl ?_ | refine WC.condTrue rfl ?_ | refine WC.condFalse rfl ?_)
  refine WL.loadMid rfl rfl rfl rfl rfl rfl (VBlk.rangeAt X5) hl37 ?_
  refine WL.call rfl rfl rfl rfl rfl Try.func8 rfl (by kernel_rfl) (rrqenc_any h5 hfew (by omega)) ?_
  rintro _ w6 ⟨b6, rfl, ap6, q6⟩
  refine ⟨_, rfl, ?_⟩
  have X6 := X5.below ap6.below X5.lt
  have h6 : IsRq f w6 r (.slice sn r.nums.length cn) (.slice sp r.params.length cp) := ⟨h5.nums.of_below ap6.below, h.r64, h5.params.below ap6.below, hh, h.byt⟩
  have q56 := q5.below ap6.below
  have hb6 : Below w.heap.size w w6 := hb5.trans (ap6.below.mono hb5.size)
  clear ap6 h5 X5 q5
  repeat (first | ((with_reducible refine WL.topT ?_ ?_); omega) | ((with_reducible refine WL.topF ?_ ?_); omega) | ((with_reducible refine WL.top64 ?_ ?_); omega) | refine WC.seq ?_ | refine WC.block ?_ | refine WC.region ?_ | refine WL.nil ?_ | refine WC.skip ?_ | refine WC.exit ?_ | refine WC.ret ?_ | refine WQ.then rfl ?_ | refine WQ.thenExit ?_ | refine WQ.thenRet ?_ | refine WQ.blk ?_ | refine WQ.blkRet ?_ | refine WQ.blkHere rfl ?_ | refine WQ.blkOther rfl ?_ | refine WL.pure rfl rfl rfl rfl ?_ | refine WL.on rfl rfl ?_ | refine WL.off rfl rfl rfl ?_ | refine WC.condTrue rfl ?_ | refine WC.condFalse rfl ?_)
  refine WL.call rfl rfl rfl rfl rfl Try.func9 rfl (by kernel_rfl) (same7_any q56.sl q6.sl) ?_
  rintro _ w7 ⟨rfl, k7⟩
  refine ⟨_, rfl, ?_⟩
  rw [decide_eq_true rfl]
  have X7 := X6.below k7 X6.lt
  have q7 := q56.below k7
  have hb7 : Below w.heap.size w w7 := hb6.trans (k7.mono hb6.size)
  have h7 : IsRq f w7 r (.slice sn r.nums.length cn) (.slice sp r.params.length cp) := ⟨h6.nums.of_below k7, h.r64, h6.params.below k7, hh, h.byt⟩
  clear q6 q56 X6 k7 h6
  by_cases he : rqE r ≠ 0
  · generalize rqE r = E at he ⊢
    repeat (first | ((with_reducible refine WL.topT ?_ ?_); omega) | ((with_reducible refine WL.topF ?_ ?_); omega) | ((with_reducible refine WL.top64 ?_ ?_); omega) | refine WC.seq ?_ | refine WC.block ?_ | refine WC.region ?_ | refine WL.nil ?_ | refine WC.skip ?_ | refine WC.exit ?_ | refine WC.ret ?_ | refine WQ.then rfl ?_ | refine WQ.thenExit ?_ | refine WQ.thenRet ?_ | refine WQ.blk ?_ | refine WQ.blkRet ?_ | refine WQ.blkHere rfl ?_ | refine WQ.blkOther rfl ?_ | refine WL.pure rfl rfl rfl rfl ?_ | refine WL.on rfl rfl ?_ | refine WL.off rfl rfl rfl ?_ | refine WC.condTrue rfl ?_ | refine WC.condFalse rfl ?_)
    refine WL.call rfl rfl rfl rfl rfl Try.func10 rfl (by kernel_rfl) (known_any w7) ?_
    rintro _ w8 ⟨rfl, k8⟩
    refine ⟨_, rfl, ?_⟩
    repeat (first | ((with_reducible refine WL.topT ?_ ?_); omega) | ((with_reducible refine WL.topF ?_ ?_); omega) | ((with_reducible refine WL.top64 ?_ ?_); omega) | refine WC.seq ?_ | refine WC.block ?_ | refine WC.region ?_ | refine WL.nil ?_ | refine WC.skip ?_ | refine WC.exit ?_ | refine WC.ret ?_ | refine WQ.then rfl ?_ | refine WQ.thenExit ?_ | refine WQ.thenRet ?_ | refine WQ.blk ?_ | refine WQ.blkRet ?_ | refine WQ.blkHere rfl ?_ | refine WQ.blkOther rfl ?_ | refine WL.pure rfl rfl rfl rfl ?_ | refine WL.on rfl rfl ?_ | refine WL.off rfl rfl rfl ?_ | refine WC.condTrue rfl ?_ | refine WC.condFalse rfl ?_)
    exact WQ.ret1 rfl rfl ⟨rfl, hb7.trans (k8.mono hb7.size)⟩
  replace he : rqE r = 0 := by omega
  have hok := rqOk_of h7 hfew he
  rw [if_pos he] at q7
  rw [he]
  repeat (first | ((with_reducible refine WL.topT ?_ ?_); omega) | ((with_reducible refine WL.topF ?_ ?_); omega) | ((with_reducible refine WL.top64 ?_ ?_); omega) | refine WC.seq ?_ | refine WC.block ?_ | refine WC.region ?_ | refine WL.nil ?_ | refine WC.skip ?_ | refine WC.exit ?_ | refine WC.ret ?_ | refine WQ.then rfl ?_ | refine WQ.thenExit ?_ | refine WQ.thenRet ?_ | refine WQ.blk ?_ | refine WQ.blkRet ?_ | refine WQ.blkHere rfl ?_ | refine WQ.blkOther rfl ?_ | refine WL.pure rfl rfl rfl rfl ?_ | refine WL.on rfl rfl ?_ | refine WL.off rfl rfl rfl ?_ | refine WC.condTrue rfl ?_ | refine WC.condFalse rfl ?_)
  refine WL.call rfl rfl rfl rfl rfl Try.func11 rfl (by kernel_rfl) (wdec_ok hok q7.sl) ?_
  rintro _ w8 ⟨nv2, pv2, rfl, k8, hn8, hp8⟩
  refine ⟨_, rfl, ?_⟩
  have X8 := X7.below k8 X7.lt
  have hb8 : Below w.heap.size w w8 := hb7.trans (k8.mono hb7.size)
  have h8 : IsRq f w8 r (.slice sn r.nums.length cn) (.slice sp r.params.length cp) := ⟨h7.nums.of_below k8, h.r64, h7.params.below k8, hh, h.byt⟩
  clear q7 X7 k8 h7
  obtain ⟨sn2, cn2, rfl, -⟩ := id hn8
  obtain ⟨sp2, cp2, rfl, -⟩ := id hp8
  repeat (first | ((with_reducible refine WL.topT ?_ ?_); omega) | ((with_reducible refine WL.topF ?_ ?_); omega) | ((with_reducible refine WL.top64 ?_ ?_); omega) | refine WC.seq ?_ | refine WC.block ?_ | refine WC.region ?_ | refine WL.nil ?_ | refine WC.skip ?_ | refine WC.exit ?_ | refine WC.ret ?_ | refine WQ.then rfl ?_ | refine WQ.thenExit ?_ | refine WQ.thenRet ?_ | refine WQ.blk ?_ | refine WQ.blkRet ?_ | refine WQ.blkHere rfl ?_ | refine WQ.blkOther rfl ?_ | refine WL.pure rfl rfl rfl rfl ?_ | refine WL.on rfl rfl ?_ | refine WL.off rfl rfl rfl ?_ | refine WC.condTrue rfl ?_ | refine WC.condFalse rfl ?_)
  refine WL.alloc (z := .agg zReq.toArray) rfl rfl rfl rfl (fun _ => by kernel_rfl) fun g9 w9 hf0 => ?_
  have hf9 : Fresh w8 g9 w9 32 zReq := hf0
  clear hf0
  have hl37' : (rqC r (.slice sn2 r.nums.length cn2) (.slice sp2 r.params.length cp2)).length = 37 := by simp [rqC, hh]
  have hones' : Ones (rqC r (.slice sn2 r.nums.length cn2) (.slice sp2 r.params.length cp2)) := by
    intro u hu
    unfold rqC at hu
    simp only [List.mem_cons, List.mem_map] at hu
    rcases hu with rfl | rfl | rfl | rfl | rfl | ⟨a, -, rfl⟩ <;> rfl
  repeat (first | ((with_reducible refine WL.topT ?_ ?_); omega) | ((with_reducible refine WL.topF ?_ ?_); omega) | ((with_reducible refine WL.top64 ?_ ?_); omega) | refine WC.seq ?_ | refine WC.block ?_ | refine WC.region ?_ | refine WL.nil ?_ | refine WC.skip ?_ | refine WC.exit ?_ | refine WC.ret ?_ | refine WQ.then rfl ?_ | refine WQ.thenExit ?_ | refine WQ.thenRet ?_ | refine WQ.blk ?_ | refine WQ.blkRet ?_ | refine WQ.blkHere rfl ?_ | refine WQ.blkOther rfl ?_ | refine WL.pure rfl rfl rfl rfl ?_ | refine WL.on rfl rfl ?_ | refine WL.off rfl rfl rfl ?_ | refine WC.condTrue rfl ?_ | refine WC.condFalse rfl ?_)
  refine WL.storeRow rfl rfl rfl rfl rfl rfl hf9.blk hl37' (by rfl) hones' ?_
  have k10 : Below w8.heap.size w8 (w9.setRow g9 (rqC r (.slice sn2 r.nums.length cn2) (.slice sp2 r.params.length cp2)).toArray) := below_setRow hf9.below (by rw [hf9.eq]; exact Nat.le_refl _) _
  have Y10 := hf9.blk.setRow (rqC r (.slice sn2 r.nums.length cn2) (.slice sp2 r.params.length cp2))
  clear hf9
  generalize w9.setRow g9 (rqC r (.slice sn2 r.nums.length cn2) (.slice sp2 r.params.length cp2)).toArray = w10 at k10 Y10 ⊢
  have X10 := X8.below k10 X8.lt
  have hb10 : Below w.heap.size w w10 := hb8.trans (k10.mono hb8.size)
  repeat (first | ((with_reducible refine WL.topT ?_ ?_); omega) | ((with_reducible refine WL.topF ?_ ?_); omega) | ((with_reducible refine WL.top64 ?_ ?_); omega) | refine WC.seq ?_ | refine WC.block ?_ | refine WC.region ?_ | refine WL.nil ?_ | refine WC.skip ?_ | refine WC.exit ?_ | refine WC.ret ?_ | refine WQ.then rfl ?_ | refine WQ.thenExit ?_ | refine WQ.thenRet ?_ | refine WQ.blk ?_ | refine WQ.blkRet ?_ | refine WQ.blkHere rfl ?_ | refine WQ.blkOther rfl ?_ | refine WL.pure rfl rfl rfl rfl ?_ | refine WL.on rfl rfl ?_ | refine WL.off rfl rfl rfl ?_ | refine WC.condTrue rfl ?_ | refine WC.condFalse rfl ?_)
  refine WL.loadMid rfl rfl rfl rfl rfl rfl (VBlk.rangeAt Y10) hl37' ?_
  refine WL.on rfl rfl ?_
  refine WL.loadMid rfl rfl rfl rfl rfl rfl (VBlk.rangeAt X10) hl37 ?_
  refine WL.on rfl rfl ?_
  refine WL.call rfl rfl rfl rfl rfl Try.func12 rfl (by kernel_rfl) (requests_any hh (hn8.of_below k10) (h8.nums.of_below k10) (hp8.below k10) (h8.params.below k10)) ?_
  rintro _ w11 ⟨rfl, k11⟩
  refine ⟨_, rfl, ?_⟩
  have hb11 : Below w.heap.size w w11 := hb10.trans (k11.mono hb10.size)
  repeat (first | ((with_reducible refine WL.topT ?_ ?_); omega) | ((with_reducible refine WL.topF ?_ ?_); omega) | ((with_reducible refine WL.top64 ?_ ?_); omega) | refine WC.seq ?_ | refine WC.block ?_ | refine WC.region ?_ | refine WL.nil ?_ | refine WC.skip ?_ | refine WC.exit ?_ | refine WC.ret ?_ | refine WQ.then rfl ?_ | refine WQ.thenExit ?_ | refine WQ.thenRet ?_ | refine WQ.blk ?_ | refine WQ.blkRet ?_ | refine WQ.blkHere rfl ?_ | refine WQ.blkOther rfl ?_ | refine WL.pure rfl rfl rfl rfl ?_ | refine WL.on rfl rfl ?_ | refine WL.off rfl rfl rfl ?_ | refine WC.condTrue rfl ?_ | refine WC.condFalse rfl ?_)
  refine WL.call rfl rfl rfl rfl rfl Try.func10 rfl (by kernel_rfl) (known_any w11) ?_
  rintro _ w12 ⟨rfl, k12⟩
  refine ⟨_, rfl, ?_⟩
  repeat (first | ((with_reducible refine WL.topT ?_ ?_); omega) | ((with_reducible refine WL.topF ?_ ?_); omega) | ((with_reducible refine WL.top64 ?_ ?_); omega) | refine WC.seq ?_ | refine WC.block ?_ | refine WC.region ?_ | refine WL.nil ?_ | refine WC.skip ?_ | refine WC.exit ?_ | refine WC.ret ?_ | refine WQ.then rfl ?_ | refine WQ.thenExit ?_ | refine WQ.thenRet ?_ | refine WQ.blk ?_ | refine WQ.blkRet ?_ | refine WQ.blkHere rfl ?_ | refine WQ.blkOther rfl ?_ | refine WL.pure rfl rfl rfl rfl ?_ | refine WL.on rfl rfl ?_ | refine WL.off rfl rfl rfl ?_ | refine WC.condTrue rfl ?_ | refine WC.condFalse rfl ?_)
  exact WQ.ret1 rfl rfl ⟨rfl, hb11.trans (k12.mono hb11.size)⟩
end K
end Go.Proofs.Ytdkkaliiofcflaa

/- Values that come in: what they read as. -/
namespace Go.Proofs.Ytdkkaliiofcflaa
open Go.ChangeShapes Go.WideShapes Go.ChangeAt Go.RowKit
namespace K

section
variable {H : Type} {P : Program}
/-- All weights are within reach. -/
def WOk (P : Program) (t : TypeId) (d : DataW H) : Prop := ∀ n ∈ d.weights P t, n ≤ reachBytes
theorem weightsAll_mem {e : TypeId} : ∀ {ds : List (DataW H)} {d : DataW H} {n : Nat}, d ∈ ds → n ∈ d.weights P e → n ∈ DataW.weightsAll P e ds
  | d0 :: ds, d, n, hd, hn => by
    rw [DataW.weightsAll, List.mem_append]
    rcases List.mem_cons.1 hd with rfl | hd
    · exact .inl hn
    · exact .inr (weightsAll_mem hd hn)
theorem WOk.slice {t e : TypeId} {elems spare : List (DataW H)} (hu : P.underlying t = some (.slice e)) (h : WOk P t (.slice elems spare)) : (elems.length + spare.length) * P.bytesOf e ≤ reachBytes ∧ ∀ d ∈ elems, WOk P e d := by
  unfold WOk at h
  rw [DataW.weights, hu] at h
  simp only [List.mem_cons, List.mem_append] at h
  exact ⟨h _ (.inl rfl), fun d hd n hn => h n (.inr (.inl (weightsAll_mem hd hn)))⟩
theorem WOk.agg {t : TypeId} {fs : Array Field} {parts : List (DataW H)} (hu : P.underlying t = some (.struct fs)) (h : WOk P t (.agg parts)) {i : Nat} {f : Field} {d : DataW H} (hf : fs[i]? = some f) (hd : parts[i]? = some d) : WOk P f.type d := by
  unfold WOk at h
  rw [DataW.weights, hu] at h
  exact fun n hn => h n (DataW.weights_mem_each (j := i) (by simp [hf]) hd n hn)
theorem WOk.string {t : TypeId} {l : List UInt8} (h : WOk P t (.lit (.string l) : DataW H)) : l.length ≤ reachBytes := h _ (by simp [DataW.weights])
end

section
variable {H : Type} {enc : TypeId × Value → H} {W : World} {base : Nat} {held : Bool}
theorem reach_le {n : Nat} (h : n ≤ reachBytes) : n ≤ 140737488355328 := Nat.le_trans h (by decide)

/-- A slice, opened at each place. -/
theorem open_sl2 {t e : TypeId} {fuel : Nat} {v : Value} {x : DataW H × List MemPlace} (m : Nat) (hm0 : 0 < m) (hu : Try.prog.underlying t = some (.slice e)) (hce : Try.prog.cellsOf e = m) (h : DataW.trod enc Try.prog W base (fun _ => true) held fuel t [v] = some x) :
    ∃ sp len cap, v = .slice sp len cap ∧ len ≤ cap ∧ cap ≤ 9223372036854775807 ∧ ∃ n elems rest, n < fuel ∧ (x.1 = .slice (elems.map (·.1)) rest ∨ (x.1 = .nil ∧ elems = [])) ∧ elems.length = len ∧
      ∀ i, i < len → ∃ (b o : Nat) (cs : List Value) (y : DataW H × List MemPlace), sp = some ⟨b, o, none⟩ ∧ b < W.heap.size ∧ cs.length = m ∧ W.rangeAt b (o + i * m) cs ∧ elems[i]? = some y ∧ DataW.trod enc Try.prog W base (fun _ => true) held n e cs = some y := by
  rcases DataW.trod_slice hu h with ⟨hcs, rfl⟩ | ⟨a, len, cap, elems, rest, n, rfl, hcs, rfl, hb, hl, hcap, hlen, hel, -, -⟩
  · obtain rfl : v = .slice none 0 0 := by simpa using hcs
    cases fuel with
    | zero => simp [DataW.trod] at h
    | succ f => exact ⟨none, 0, 0, rfl, Nat.le_refl _, by omega, f, [], [], by omega, .inr ⟨rfl, rfl⟩, rfl, fun i hi => absurd hi (by omega)⟩
  · obtain rfl : v = .slice (some a) len cap := by simpa using hcs
    refine ⟨some a, len, cap, rfl, hl, by unfold maxLen at hcap; exact hcap, n, elems, rest.map (·.1), by omega, .inl rfl, hlen, fun i hi => ?_⟩
    have h1 := hel i hi
    rw [hce] at h1
    obtain ⟨y, hy⟩ : ∃ y, elems[i]? = some y := ⟨elems[i], List.getElem?_eq_getElem (by omega)⟩
    rw [hy] at h1
    obtain ⟨cs, hc1, hc2⟩ := Option.bind_eq_some_iff.1 h1
    obtain ⟨-, hcl, hat⟩ := World.cells?_some hc1
    have h00 := hel 0 (by omega)
    rw [hce] at h00
    obtain ⟨y0, hy0⟩ : ∃ y, elems[0]? = some y := ⟨elems[0], List.getElem?_eq_getElem (by omega)⟩
    rw [hy0] at h00
    obtain ⟨cs0, hc01, -⟩ := Option.bind_eq_some_iff.1 h00
    obtain ⟨-, hcl0, hat0⟩ := World.cells?_some hc01
    have hx0 := hat0 0 hm0
    have e0 : (a.add (0 * m)).add 0 = a := by rw [Nat.zero_mul]; rfl
    rw [e0, List.getElem?_eq_getElem (by omega)] at hx0
    have hsp := cell_spot hx0
    obtain ⟨b, o, s⟩ := a
    simp only at hsp
    subst hsp
    refine ⟨b, o, cs, y, rfl, block_lt_of_cell hx0, hcl, fun j u hj => ?_, hy, hc2⟩
    have hjl : j < m := by
      rcases Nat.lt_or_ge j m with h | h
      · exact h
      · rw [List.getElem?_eq_none (by omega)] at hj; cases hj
    have := hat j hjl
    rw [addr_add, addr_add] at this
    rw [this]; exact hj

theorem Six.mono {P P' : V → List Value → Prop} {w : World} {v : Value} {l : List V} (h : Six P w v l) (hP : ∀ x cs, P x cs → P' x cs) : Six P' w v l := by
  obtain ⟨sp, cap, h1, h2, h3, h4⟩ := h
  refine ⟨sp, cap, h1, h2, h3, fun h0 => ?_⟩
  obtain ⟨b, o, e, hlt, hr⟩ := h4 h0
  refine ⟨b, o, e, hlt, fun j hj => ?_⟩
  obtain ⟨cs, hc, hp, hat⟩ := hr j hj
  exact ⟨cs, hc, hP _ _ hp, hat⟩
theorem IsV.mono {w : World} : ∀ {f f' : Nat} {v : V} {cs : List Value}, f ≤ f' → IsV f w v cs → IsV f' w v cs
  | 0, _, _, _, _, h => h.elim
  | f + 1, f', v, cs, hf, h => by
    obtain ⟨g, rfl⟩ : ∃ g, f' = g + 1 := ⟨f' - 1, by omega⟩
    obtain ⟨sn, sk, h1, h2, h3, h4, h5, h6, h7⟩ := h
    exact ⟨sn, sk, h1, h2, h3, h4, h5, h6, Six.mono h7 fun _ _ hp => IsV.mono (by omega) hp⟩
theorem Sml.mono : ∀ {f f' : Nat} {v : V}, f ≤ f' → Sml f v → Sml f' v
  | 0, _, _, _, h => h.elim
  | f + 1, f', v, hf, h => by
    obtain ⟨g, rfl⟩ : ∃ g, f' = g + 1 := ⟨f' - 1, by omega⟩
    exact ⟨h.1, h.2.1, fun x hx => Sml.mono (by omega) (h.2.2 x hx)⟩

theorem cellsV : Try.prog.cellsOf 60 = 6 := by kernel_rfl
theorem cellsI : Try.prog.cellsOf 3 = 1 := by kernel_rfl
theorem cellsS : Try.prog.cellsOf 9 = 1 := by kernel_rfl
theorem cellsSS : Try.prog.cellsOf 58 = 1 := by kernel_rfl
theorem cellsVV : Try.prog.cellsOf 23 = 1 := by kernel_rfl
theorem bytesS : Try.prog.bytesOf 9 = 16 := by kernel_rfl
theorem bytesV : Try.prog.bytesOf 60 = 88 := by kernel_rfl

theorem open_strs2 {fuel : Nat} {v : Value} {x : DataW H × List MemPlace} (h : DataW.trod enc Try.prog W base (fun _ => true) held fuel 58 [v] = some x) (hz : WOk Try.prog 58 x.1) :
    ∃ l, Strs W v l ∧ l.length ≤ 140737488355328 := by
  obtain ⟨sp, len, cap, rfl, hl, hc, n, elems, rest, -, hx, hlen, hel⟩ := open_sl2 1 (by omega) Try.underlying58 cellsS h
  have key : ∀ i, i < len → ∃ (s : ByteArray), s.size ≤ 140737488355328 ∧ ∃ b o, sp = some ⟨b, o, none⟩ ∧ b < W.heap.size ∧ W.cell? ⟨b, o + i, none⟩ = some (.string s) := by
    intro i hi
    obtain ⟨b, o, cs, y, hsp, hb, hcl, hat, hy, ht⟩ := hel i hi
    obtain ⟨s, rfl, rfl, -⟩ := DataW.trod_string Try.underlying9 ht
    have hw : WOk Try.prog 9 (.lit (.string s.data.toList) : DataW H) := by
      rcases hx with hx | ⟨-, rfl⟩
      · rw [hx] at hz
        exact (hz.slice Try.underlying58).2 _ (List.mem_map.2 ⟨_, List.mem_of_getElem? hy, rfl⟩)
      · cases hy
    have := hw.string
    rw [Array.length_toList] at this
    refine ⟨s, reach_le this, b, o, hsp, hb, ?_⟩
    have := hat 0 _ rfl
    rw [Nat.mul_one] at this
    exact this
  have : Inhabited ByteArray := ⟨noT⟩
  obtain ⟨g, hg⟩ := Deep.choose_lt key
  have hget : ∀ k, k < len → ((List.range len).map g).getD k noT = g k := fun k hk => by simp [hk]
  have hll : ((List.range len).map g).length = len := by simp
  refine ⟨(List.range len).map g, ⟨sp, cap, by rw [hll], by rw [hll]; exact hl, hc, fun j hj => ?_, fun h0 => ?_⟩, ?_⟩
  · rw [hll] at hj; rw [hget j hj]; exact (hg j hj).1
  · rw [hll] at h0
    obtain ⟨-, b, o, hsp, hb, -⟩ := hg 0 h0
    refine ⟨b, o, hsp, hb, fun j hj => ?_⟩
    rw [hll] at hj
    obtain ⟨-, b2, o2, hsp2, -, hcell⟩ := hg j hj
    rw [hsp] at hsp2
    cases hsp2
    rw [hget j hj]; exact hcell
  · rw [hll]
    rcases hx with hx | ⟨-, rfl⟩
    · rw [hx] at hz
      have := (hz.slice Try.underlying58).1
      rw [bytesS, List.length_map, hlen] at this
      exact reach_le (by omega)
    · simp at hlen; omega

theorem open_vals2 : ∀ (fuel : Nat), (∀ n, n < fuel → ∀ {cs : List Value} {x : DataW H × List MemPlace}, DataW.trod enc Try.prog W base (fun _ => true) held n 60 cs = some x → WOk Try.prog 60 x.1 → ∃ v, IsV n W v cs ∧ Sml n v) →
    ∀ {v : Value} {x : DataW H × List MemPlace}, DataW.trod enc Try.prog W base (fun _ => true) held fuel 23 [v] = some x → WOk Try.prog 23 x.1 → ∃ l n, n < fuel ∧ IsVs n W v l ∧ (∀ y ∈ l, Sml n y) ∧ l.length ≤ 140737488355328 := by
  intro fuel ih v x h hz
  obtain ⟨sp, len, cap, rfl, hl, hc, n, elems, rest, hn, hx, hlen, hel⟩ := open_sl2 6 (by omega) Try.underlying23 cellsV h
  have key : ∀ i, i < len → ∃ (y : V), Sml n y ∧ ∃ b o cs, sp = some ⟨b, o, none⟩ ∧ b < W.heap.size ∧ cs.length = 6 ∧ IsV n W y cs ∧ W.rangeAt b (o + i * 6) cs := by
    intro i hi
    obtain ⟨b, o, cs, y, hsp, hb, hcl, hat, hy, ht⟩ := hel i hi
    have hw : WOk Try.prog 60 y.1 := by
      rcases hx with hx | ⟨-, rfl⟩
      · rw [hx] at hz
        exact (hz.slice Try.underlying23).2 _ (List.mem_map.2 ⟨_, List.mem_of_getElem? hy, rfl⟩)
      · cases hy
    obtain ⟨v, hv, hs⟩ := ih n hn ht hw
    exact ⟨v, hs, b, o, cs, hsp, hb, hcl, hv, hat⟩
  obtain ⟨g, hg⟩ := Deep.choose_lt key
  have hget : ∀ k, k < len → ((List.range len).map g).getD k noV = g k := fun k hk => by simp [hk]
  have hll : ((List.range len).map g).length = len := by simp
  refine ⟨(List.range len).map g, n, hn, ⟨sp, cap, by rw [hll], by rw [hll]; exact hl, hc, fun h0 => ?_⟩, fun y hy => ?_, ?_⟩
  · rw [hll] at h0
    obtain ⟨-, b, o, -, hsp, hb, -⟩ := hg 0 h0
    refine ⟨b, o, hsp, hb, fun j hj => ?_⟩
    rw [hll] at hj
    obtain ⟨-, b2, o2, cs, hsp2, -, hcl, hv, hat⟩ := hg j hj
    rw [hsp] at hsp2
    cases hsp2
    rw [hget j hj]
    exact ⟨cs, hcl, hv, hat⟩
  · obtain ⟨i, hi, rfl⟩ := List.mem_map.1 hy
    exact (hg i (List.mem_range.1 hi)).1
  · rw [hll]
    rcases hx with hx | ⟨-, rfl⟩
    · rw [hx] at hz
      have := (hz.slice Try.underlying23).1
      rw [bytesV, List.length_map, hlen] at this
      exact reach_le (by omega)
    · simp at hlen; omega

theorem take1 {l : List Value} {o : Nat} {v : Value} (h : (l.drop o).take 1 = [v]) : l[o]? = some v := by
  have : ((l.drop o).take 1)[0]? = some v := by rw [h]; rfl
  simpa [List.getElem?_take] using this
set_option maxRecDepth 100000 in
set_option maxHeartbeats 1000000 in
theorem open_val : ∀ (fuel : Nat) {cs : List Value} {x : DataW H × List MemPlace}, DataW.trod enc Try.prog W base (fun _ => true) held fuel 60 cs = some x → WOk Try.prog 60 x.1 → ∃ v, IsV fuel W v cs ∧ Sml fuel v := by
  intro fuel
  induction fuel using Nat.strongRecOn with
  | _ fuel ih =>
    intro cs x h hz
    obtain ⟨xs, n, rfl, rfl, hl, hxl, hx⟩ := DataW.trod_struct Try.underlying60 h
    have hxl' : xs.length = 6 := hxl
    rw [cellsV] at hl
    have e : ∀ i, i < 6 → ∃ y, xs[i]? = some y := fun i hi => ⟨xs[i], List.getElem?_eq_getElem (by omega)⟩
    obtain ⟨x0, e0⟩ := e 0 (by omega)
    obtain ⟨x1, e1⟩ := e 1 (by omega)
    obtain ⟨x2, e2⟩ := e 2 (by omega)
    obtain ⟨x3, e3⟩ := e 3 (by omega)
    obtain ⟨x4, e4⟩ := e 4 (by omega)
    obtain ⟨x5, e5⟩ := e 5 (by omega)
    have h0 := hx 0 _ rfl
    have h1 := hx 1 _ rfl
    have h2 := hx 2 _ rfl
    have h3 := hx 3 _ rfl
    have h4 := hx 4 _ rfl
    have h5 := hx 5 _ rfl
    rw [e0] at h0; rw [e1] at h1; rw [e2] at h2; rw [e3] at h3; rw [e4] at h4; rw [e5] at h5
    have z : ∀ {i : Nat} {f : Field} {y : DataW H × List MemPlace}, _ → xs[i]? = some y → WOk Try.prog f.type y.1 := fun {i f y} hf hy => WOk.agg Try.underlying60 hz (i := i) (f := f) hf (by rw [List.getElem?_map, hy]; rfl)
    have z3 : WOk Try.prog 9 x3.1 := z (i := 3) rfl e3
    have z4 : WOk Try.prog 58 x4.1 := z (i := 4) rfl e4
    have z5 : WOk Try.prog 23 x5.1 := z (i := 5) rfl e5
    obtain ⟨a, ha, -, wa⟩ := DataW.trod_int Try.underlying3 h0
    obtain ⟨b, hb, -, wb⟩ := DataW.trod_int Try.underlying3 h1
    obtain ⟨c, hc, -, wc⟩ := DataW.trod_int Try.underlying3 h2
    obtain ⟨s, hs, hs2, -⟩ := DataW.trod_string Try.underlying9 h3
    have t0 : cs[0]? = some (.int .i64 a) := take1 (by rw [← cellsI]; exact ha)
    have t1 : cs[1]? = some (.int .i64 b) := take1 (by rw [← cellsI]; exact hb)
    have t2 : cs[2]? = some (.int .i64 c) := take1 (by rw [← cellsI]; exact hc)
    have t3 : cs[3]? = some (.string s) := take1 (by rw [← cellsS]; exact hs)
    match cs, hl with
    | [c0, c1, c2, c3, c4, c5], _ =>
      simp at t0 t1 t2 t3
      subst t0; subst t1; subst t2; subst t3
      have h4' : DataW.trod enc Try.prog W base (fun _ => true) held n 58 [c4] = some x4 := h4
      have h5' : DataW.trod enc Try.prog W base (fun _ => true) held n 23 [c5] = some x5 := h5
      obtain ⟨names, hnm, hnl⟩ := open_strs2 h4' z4
      obtain ⟨kids, k, hk, hkd, hks, hkl⟩ := open_vals2 n (fun q hq {cs x} h1 h2 => ih q (by omega) h1 h2) h5' z5
      rw [hs2] at z3
      have hsz := z3.string
      rw [Array.length_toList] at hsz
      refine ⟨.mk a b c s names kids, ⟨c4, c5, rfl, wa, wb, wc, reach_le hsz, hnm, Six.mono hkd fun _ _ hp => IsV.mono (by omega) hp⟩, hnl, hkl, fun y hy => Sml.mono (by omega) (hks y hy)⟩
set_option maxRecDepth 100000 in
/-- A row of values that comes in. -/
theorem open_vals {b0 : Nat} {r : Reach} {v : Value} {d : DataW H} {p : List MemPlace} (hval : Value.okWide Try.prog W r b0 23 v) (h : DataW.Trod enc Try.prog W base (fun _ => true) held 23 v d p) :
    (∀ n ∈ d.weights Try.prog 23, n ≤ reachBytes) → ∃ f l, IsVs f W v l ∧ (∀ x ∈ l, Sml f x) ∧ l.length ≤ 140737488355328 := by
  intro hz
  obtain ⟨a, len, cap, rfl⟩ := okWide_slice Try.underlying23 hval
  obtain ⟨fuel, hf⟩ := h
  obtain ⟨l, n, -, h1, h2, h3⟩ := open_vals2 fuel (fun n _ {cs x} h1 h2 => open_val n h1 h2) (v := .slice a len cap) hf hz
  exact ⟨n, l, h1, h2, h3⟩
set_option maxRecDepth 100000
/-- A value that comes in. -/
theorem open_valA {b0 : Nat} {r : Reach} {v : Value} {d : DataW H} {p : List MemPlace} (hval : Value.okWide Try.prog W r b0 60 v) (h : DataW.Trod enc Try.prog W base (fun _ => true) held 60 v d p) :
    (∀ n ∈ d.weights Try.prog 60, n ≤ reachBytes) → ∃ f x cs, v = .agg cs.toArray ∧ IsV f W x cs ∧ Sml f x := by
  intro hz
  obtain ⟨cs, rfl, -⟩ := okWide_struct Try.underlying60 hval
  obtain ⟨fuel, hf⟩ := h
  obtain ⟨x, h1, h2⟩ := open_val fuel (cs := cs.toList) hf hz
  exact ⟨fuel, x, cs.toList, by rw [Array.toArray_toList], h1, h2⟩
/-- A row of bytes that comes in, with its size. -/
theorem open_bytes {b0 : Nat} {r : Reach} {v : Value} {d : DataW H} {p : List MemPlace} (hval : Value.okWide Try.prog W r b0 27 v) (h : DataW.Trod enc Try.prog W base (fun _ => true) held 27 v d p) :
    (∀ n ∈ d.weights Try.prog 27, n ≤ reachBytes) → ∃ l, Sl .u8 W v l ∧ (∀ c ∈ l, 0 ≤ c ∧ c ≤ 255) ∧ l.length ≤ 140737488355328 := by
  intro hz
  obtain ⟨l, hs, hw⟩ := open_sl Try.underlying27 Try.underlying5 (by kernel_rfl) hval h
  refine ⟨l, hs, fun c hc => ?_, ?_⟩
  · have := hw c hc
    simp [Lit.wf, IntKind.min, IntKind.max, IntKind.bits, IntKind.signed] at this
    omega
  · obtain ⟨sp0, cap0, rfl, -⟩ := hs
    obtain ⟨fuel, hf⟩ := h
    obtain ⟨sp, len, cap, e, -, -, n, elems, rest, -, hx, hlen, -⟩ := open_sl2 1 (by omega) Try.underlying27 (by kernel_rfl) (v := .slice sp0 l.length cap0) hf
    injection e with _ e2 _
    rcases hx with hx | ⟨-, rfl⟩
    · have hz' : WOk Try.prog 27 d := hz
      simp only at hx
      rw [hx] at hz'
      have := (hz'.slice Try.underlying27).1
      rw [show Try.prog.bytesOf 5 = 1 by kernel_rfl, List.length_map, hlen] at this
      exact reach_le (by omega)
    · simp at hlen; omega
end
end K
end Go.Proofs.Ytdkkaliiofcflaa

/- Rows of numbers that come in. -/
namespace Go.Proofs.Ytdkkaliiofcflaa
open Go.ChangeShapes Go.WideShapes Go.ChangeAt Go.RowKit
namespace K
section
set_option maxRecDepth 100000
variable {H : Type} {P : Program}
variable {H : Type} {enc : TypeId × Value → H} {W : World} {base : Nat} {held : Bool}
/-- A row of numbers that comes in, with its size. -/
theorem open_intsW {b0 : Nat} {r : Reach} {v : Value} {d : DataW H} {p : List MemPlace} (hval : Value.okWide Try.prog W r b0 22 v) (h : DataW.Trod enc Try.prog W base (fun _ => true) held 22 v d p) :
    (∀ n ∈ d.weights Try.prog 22, n ≤ reachBytes) → ∃ l, Sl .i64 W v l ∧ (∀ c ∈ l, -9223372036854775808 ≤ c ∧ c ≤ 9223372036854775807) ∧ l.length ≤ 140737488355328 := by
  intro hz
  obtain ⟨l, hs, hw⟩ := open_sl Try.underlying22 Try.underlying3 (by kernel_rfl) hval h
  refine ⟨l, hs, fun c hc => ?_, ?_⟩
  · have := hw c hc
    simp [Lit.wf, IntKind.min, IntKind.max, IntKind.bits, IntKind.signed] at this
    omega
  · obtain ⟨sp0, cap0, rfl, -⟩ := hs
    obtain ⟨fuel, hf⟩ := h
    obtain ⟨sp, len, cap, e, -, -, n, elems, rest, -, hx, hlen, -⟩ := open_sl2 1 (by omega) Try.underlying22 (by kernel_rfl) (v := .slice sp0 l.length cap0) hf
    injection e with _ e2 _
    rcases hx with hx | ⟨-, rfl⟩
    · have hz' : WOk Try.prog 22 d := hz
      simp only at hx
      rw [hx] at hz'
      have := (hz'.slice Try.underlying22).1
      rw [show Try.prog.bytesOf 3 = 8 by kernel_rfl, List.length_map, hlen] at this
      exact reach_le (by omega)
    · simp at hlen; omega
theorem wf_byt {l : List Int} (h : ∀ x ∈ l, (Lit.int .u8 x).wf = true) : ∀ x ∈ l, 0 ≤ x ∧ x ≤ 255 := fun x hx => by
  have := h x hx
  simp [Lit.wf, IntKind.min, IntKind.max, IntKind.bits, IntKind.signed] at this
  omega
end
end K
end Go.Proofs.Ytdkkaliiofcflaa

/-
  For every request the law WireRequests answers true, and the arguments read as they did. No condition.
-/
namespace Go.Proofs.Ytdkkaliiofcflaa.wireRequests
open Go.ChangeShapes Go.WideShapes Go.ChangeAt Go.RowKit
open Go.ChangeMaps (open_string shut_string)
open Go.Proofs.Ytdkkaliiofcflaa

set_option maxRecDepth 100000 in
theorem lifted (os : Os) (started : os.Started) (H : Type) (enc : TypeId × Value → H) :
    ReturnsInHanded {} Try.checked os 3 .any (Rows.wireRequestsSpec.pre6 enc Try.prog Try.f3 Rows.wireRequestsRow.domain false) (Rows.wireRequestsSpec.post enc Try.prog Try.f3 false true false false) := by
  refine returnsInHanded_of_change_sized (C := Try.checked) Try.ownKnob started (by kernel_rfl) Try.func3
    (ChangeSpec.witness6 (enc := enc) (C := Try.checked) false ⟨#[], #[.int .i64 0, .int .i64 0, .slice none 0 0, .string ByteArray.empty, .slice none 0 0, .agg (Array.replicate 32 (.int .u8 0))], []⟩ 8 (by kernel_rfl) (by kernel_rfl) (by kernel_rfl) (by kernel_rfl)) ?_
  intro W base args ds gs before hval0 hW hcnd hsz _
  have hval : ∀ (j : Nat) t v, Try.f3.params[j]? = some t → args[j]? = some v → Value.okWide Try.prog W .any base t v := hval0
  have hW' := hW
  obtain ⟨p, q, hA0, hV, rfl, hfz, hnd⟩ := hW
  have hA : DataW.TrodAll enc Try.prog W 0 (fun _ => true) true Try.f3.params.toList args.toList ds p := hA0
  rw [Try.params3] at hA hval
  obtain ⟨v0, vs0, d0, ds0, p0, q0, hargs, rfl, rfl, h0, r0⟩ := trodAll_cons hA
  obtain ⟨v1, vs1, d1, ds1, p1, q1, rfl, rfl, rfl, h1, r1⟩ := trodAll_cons r0
  obtain ⟨v2, vs2, d2, ds2, p2, q2, rfl, rfl, rfl, h2, r2⟩ := trodAll_cons r1
  obtain ⟨v3, vs3, d3, ds3, p3, q3, rfl, rfl, rfl, h3, r3⟩ := trodAll_cons r2
  obtain ⟨v4, vs4, d4, ds4, p4, q4, rfl, rfl, rfl, h4, r4⟩ := trodAll_cons r3
  obtain ⟨v5, vs5, d5, ds5, p5, q5, rfl, rfl, rfl, h5, r5⟩ := trodAll_cons r4
  obtain ⟨rfl, rfl, rfl⟩ := trodAll_nil r5
  obtain rfl : args = #[v0, v1, v2, v3, v4, v5] := by cases args; simp_all
  obtain ⟨rfl, rfl⟩ := trodVars_none hV
  have k0 := h0
  have lt0 : ∀ x ∈ p0, x.block < W.heap.size := by obtain ⟨m, hm⟩ := k0; exact DataW.trod_lt m _ _ _ hm
  obtain ⟨x0, rfl, -, -, wx0⟩ := open_int Try.underlying3 (hval 0 3 v0 rfl rfl) h0
  have k1 := h1
  have lt1 : ∀ x ∈ p1, x.block < W.heap.size := by obtain ⟨m, hm⟩ := k1; exact DataW.trod_lt m _ _ _ hm
  obtain ⟨x1, rfl, -, -, wx1⟩ := open_int Try.underlying3 (hval 1 3 v1 rfl rfl) h1
  have k2 := h2
  have lt2 : ∀ x ∈ p2, x.block < W.heap.size := by obtain ⟨m, hm⟩ := k2; exact DataW.trod_lt m _ _ _ hm
  obtain ⟨l2, sl2, by2, ln2⟩ := K.open_intsW (hval 2 22 v2 rfl rfl) h2 (fun n hn => by have := List.all_eq_true.1 hsz n (DataW.weights_mem_each (j := 2) rfl rfl n hn); simpa using this)
  have k3 := h3
  have lt3 : ∀ x ∈ p3, x.block < W.heap.size := by obtain ⟨m, hm⟩ := k3; exact DataW.trod_lt m _ _ _ hm
  obtain ⟨s3, rfl, eq3, -, hs3⟩ := open_string Try.underlying9 (hval 3 9 v3 rfl rfl) h3
  have k4 := h4
  have lt4 : ∀ x ∈ p4, x.block < W.heap.size := by obtain ⟨m, hm⟩ := k4; exact DataW.trod_lt m _ _ _ hm
  obtain ⟨f4, l4, iv4, sm4, ln4⟩ := K.open_vals (hval 4 23 v4 rfl rfl) h4 (fun n hn => by have := List.all_eq_true.1 hsz n (DataW.weights_mem_each (j := 4) rfl rfl n hn); simpa using this)
  have k5 := h5
  have lt5 : ∀ x ∈ p5, x.block < W.heap.size := by obtain ⟨m, hm⟩ := k5; exact DataW.trod_lt m _ _ _ hm
  obtain ⟨l5, rfl, ln5, wf5⟩ := open_arr Try.underlying25 Try.underlying5 (by kernel_rfl) (by kernel_rfl) (hval 5 25 v5 rfl rfl) h5
  clear hA0 hval0
  have z3 : s3.size ≤ 140737488355328 := by
    have := sized_string hsz (j := 3) rfl (congrArg some eq3)
    rw [Array.length_toList] at this
    exact Nat.le_trans this (by decide)
  refine (K.wireRequests_law (f := f4) (r := ⟨x0, x1, l2, s3, l4, l5⟩) ⟨sl2, by2, iv4, ln5, K.wf_byt wf5⟩ sm4 ln2).mono fun e W' ⟨he, bel⟩ => ?_
  subst he
  exact ⟨_, rfl, _, _, _, [], _, [], hW', trodAll_mk1 (shut_bool Try.underlying4 _), (trodAll_cons_mk (Below.trod Try.laid (by kernel_rfl) (of_decide_eq_true (by kernel_rfl)) k0 bel lt0) (trodAll_cons_mk (Below.trod Try.laid (by kernel_rfl) (of_decide_eq_true (by kernel_rfl)) k1 bel lt1) (trodAll_cons_mk (Below.trod Try.laid (by kernel_rfl) (of_decide_eq_true (by kernel_rfl)) k2 bel lt2) (trodAll_cons_mk (Below.trod Try.laid (by kernel_rfl) (of_decide_eq_true (by kernel_rfl)) k3 bel lt3) (trodAll_cons_mk (Below.trod Try.laid (by kernel_rfl) (of_decide_eq_true (by kernel_rfl)) k4 bel lt4) (trodAll_cons_mk (Below.trod Try.laid (by kernel_rfl) (of_decide_eq_true (by kernel_rfl)) k5 bel lt5) trodAll_mk0)))))), rfl, bel.frame _, fun h => by cases h⟩

theorem over : Rows.wireRequestsRow.holds Try.pinned (OpenSpec.ofChange Rows.wireRequestsSpec) :=
  OpenClaim.holds_of_wide 3 Try.f3 rfl rfl rfl rfl rfl rfl rfl ⟨rfl, rfl, rfl, rfl, rfl⟩ rfl rfl rfl rfl rfl (by kernel_rfl) Try.func3 (by kernel_rfl)
    (of_decide_eq_true (by kernel_rfl)) (by unfold Func.isWrapper; first | (rw [if_pos (by decide +kernel)]; kernel_rfl) | (rw [if_neg (by decide +kernel)]; exact ⟨rfl, rfl⟩))
    (fun os started H enc _ => lifted os started H enc)

/-- The statement. -/
theorem proved : Rows.WireRequestsSaid := over
end Go.Proofs.Ytdkkaliiofcflaa.wireRequests
