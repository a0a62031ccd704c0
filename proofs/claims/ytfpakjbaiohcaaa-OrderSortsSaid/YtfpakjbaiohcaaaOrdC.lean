/- Keys (chapter 8): class, Short, Big. -/
import Derived.Test.YtfpakjbaiohcaaaKd
import Derived.Test.YtfpakjbaiohcaaaOrdV
namespace Go.Proofs.Ytfpakjbaiohcaaa
open Go.RowKit
namespace K

theorem ret_u8 {x y : Int} (h : x = y) : Ending.returned (.int .u8 x) = .returned (.int .u8 y) := by rw [h]
theorem class_any (k : Int) (w : World) (h1 : 1 ≤ k) (h9 : k ≤ 9) :
    Calls Try.prog 30 #[.int .i64 k] w fun e w' => e = .returned (.int .u8 (classI k)) ∧ w = w' := by
  refine enter (args := [.int .i64 k]) Try.func30 rfl Try.ntmps30 rfl ?_
  have e16 : ((2 ^ min 4 IntKind.i64.bits : Nat) : Int) = 16 := rfl
  by_cases h4 : k ≤ 4
  · have he : k = 1 ∨ k = 2 ∨ k = 3 ∨ k = 4 := by omega
    rcases he with rfl | rfl | rfl | rfl
    all_goals
      repeat (first | ((with_reducible refine WL.topT ?_ ?_); omega) | ((with_reducible refine WL.topF ?_ ?_); omega) | ((with_reducible refine WL.top64 ?_ ?_); omega) | refine WC.seq ?_ | refine WC.block ?_ | refine WC.region ?_ | refine WL.nil ?_ | refine WC.skip ?_ | refine WC.exit ?_ | refine WC.ret ?_ | refine WQ.then rfl ?_ | refine WQ.thenExit ?_ | refine WQ.thenRet ?_ | refine WQ.blk ?_ | refine WQ.blkRet ?_ | refine WQ.blkHere rfl ?_ | refine WQ.blkOther rfl ?_ | refine WL.pure rfl rfl rfl rfl ?_ | refine WL.on rfl rfl ?_ | refine WL.off rfl rfl rfl ?_ | refine WC.condTrue rfl ?_ | refine WC.condFalse rfl ?_)
      exact WQ.ret1 rfl rfl ⟨ret_u8 (by decide), rfl⟩
  · repeat (first | ((with_reducible refine WL.topT ?_ ?_); omega) | ((with_reducible refine WL.topF ?_ ?_); omega) | ((with_reducible refine WL.top64 ?_ ?_); omega) | refine WC.seq ?_ | refine WC.block ?_ | refine WC.region ?_ | refine WL.nil ?_ | refine WC.skip ?_ | refine WC.exit ?_ | refine WC.ret ?_ | refine WQ.then rfl ?_ | refine WQ.thenExit ?_ | refine WQ.thenRet ?_ | refine WQ.blk ?_ | refine WQ.blkRet ?_ | refine WQ.blkHere rfl ?_ | refine WQ.blkOther rfl ?_ | refine WL.pure rfl rfl rfl rfl ?_ | refine WL.on rfl rfl ?_ | refine WL.off rfl rfl rfl ?_ | refine WC.condTrue rfl ?_ | refine WC.condFalse rfl ?_)
    refine WQ.ret1 rfl rfl ⟨ret_u8 ?_, rfl⟩
    rw [e16, IntWalk.i64_in _ (by omega), IntKind.wrap_u8]
    unfold classI
    rw [if_neg (by omega), if_neg h4]
    omega

theorem short_any (v : Int) (w : World) (_h0 : 0 ≤ v) :
    Calls Try.prog 49 #[.int .u32 v] w fun e w' => ∃ b, e = .returned b ∧ Bu w' b (shortI v) ∧ Below w.heap.size w w' ∧ ∀ g, b.ownBlock = some g → w.heap.size ≤ g := by
  refine enter (args := [.int .u32 v]) Try.func49 rfl Try.ntmps49 rfl ?_
  repeat (first | ((with_reducible refine WL.topT ?_ ?_); omega) | ((with_reducible refine WL.topF ?_ ?_); omega) | ((with_reducible refine WL.top64 ?_ ?_); omega) | refine WC.seq ?_ | refine WC.block ?_ | refine WC.region ?_ | refine WL.nil ?_ | refine WC.skip ?_ | refine WC.exit ?_ | refine WC.ret ?_ | refine WQ.then rfl ?_ | refine WQ.thenExit ?_ | refine WQ.thenRet ?_ | refine WQ.blk ?_ | refine WQ.blkRet ?_ | refine WQ.blkHere rfl ?_ | refine WQ.blkOther rfl ?_ | refine WL.pure rfl rfl rfl rfl ?_ | refine WL.on rfl rfl ?_ | refine WL.off rfl rfl rfl ?_ | refine WC.condTrue rfl ?_ | refine WC.condFalse rfl ?_)
  refine WL.lit rfl rfl rfl rfl rfl rfl rfl fun b w' hb h1 h2 => ?_
  repeat (first | ((with_reducible refine WL.topT ?_ ?_); omega) | ((with_reducible refine WL.topF ?_ ?_); omega) | ((with_reducible refine WL.top64 ?_ ?_); omega) | refine WC.seq ?_ | refine WC.block ?_ | refine WC.region ?_ | refine WL.nil ?_ | refine WC.skip ?_ | refine WC.exit ?_ | refine WC.ret ?_ | refine WQ.then rfl ?_ | refine WQ.thenExit ?_ | refine WQ.thenRet ?_ | refine WQ.blk ?_ | refine WQ.blkRet ?_ | refine WQ.blkHere rfl ?_ | refine WQ.blkOther rfl ?_ | refine WL.pure rfl rfl rfl rfl ?_ | refine WL.on rfl rfl ?_ | refine WL.off rfl rfl rfl ?_ | refine WC.condTrue rfl ?_ | refine WC.condFalse rfl ?_)
  refine WQ.ret1 rfl rfl ⟨b, rfl, ?_, h1, h2⟩
  simp only [IntKind.wrap_u8] at hb
  exact hb
theorem big_any (v : Int) (w : World) (h0 : 0 ≤ v) (hv : v < 18446744073709551616) :
    Calls Try.prog 32 #[.int .u64 v] w fun e w' => ∃ b, e = .returned b ∧ Bu w' b (bigI v) ∧ Below w.heap.size w w' ∧ ∀ g, b.ownBlock = some g → w.heap.size ≤ g := by
  refine enter (args := [.int .u64 v]) Try.func32 rfl Try.ntmps32 rfl ?_
  have e1 : IntKind.u32.wrap (v / ((2 ^ min 32 IntKind.u64.bits : Nat) : Int)) = v / 4294967296 := by
    rw [show ((2 ^ min 32 IntKind.u64.bits : Nat) : Int) = 4294967296 from rfl, IntKind.wrap_u32]; omega
  have e2 : IntKind.u32.wrap v = v % 4294967296 := IntKind.wrap_u32 v
  repeat (first | ((with_reducible refine WL.topT ?_ ?_); omega) | ((with_reducible refine WL.topF ?_ ?_); omega) | ((with_reducible refine WL.top64 ?_ ?_); omega) | refine WC.seq ?_ | refine WC.block ?_ | refine WC.region ?_ | refine WL.nil ?_ | refine WC.skip ?_ | refine WC.exit ?_ | refine WC.ret ?_ | refine WQ.then rfl ?_ | refine WQ.thenExit ?_ | refine WQ.thenRet ?_ | refine WQ.blk ?_ | refine WQ.blkRet ?_ | refine WQ.blkHere rfl ?_ | refine WQ.blkOther rfl ?_ | refine WL.pure rfl rfl rfl rfl ?_ | refine WL.on rfl rfl ?_ | refine WL.off rfl rfl rfl ?_ | refine WC.condTrue rfl ?_ | refine WC.condFalse rfl ?_)
  refine WL.call rfl rfl rfl rfl rfl Try.func49 rfl (by kernel_rfl) (by rw [e1]; exact short_any _ w (by omega)) ?_
  rintro e w1 ⟨b1, rfl, hb1, k1, g1⟩
  refine ⟨b1, rfl, ?_⟩
  repeat (first | ((with_reducible refine WL.topT ?_ ?_); omega) | ((with_reducible refine WL.topF ?_ ?_); omega) | ((with_reducible refine WL.top64 ?_ ?_); omega) | refine WC.seq ?_ | refine WC.block ?_ | refine WC.region ?_ | refine WL.nil ?_ | refine WC.skip ?_ | refine WC.exit ?_ | refine WC.ret ?_ | refine WQ.then rfl ?_ | refine WQ.thenExit ?_ | refine WQ.thenRet ?_ | refine WQ.blk ?_ | refine WQ.blkRet ?_ | refine WQ.blkHere rfl ?_ | refine WQ.blkOther rfl ?_ | refine WL.pure rfl rfl rfl rfl ?_ | refine WL.on rfl rfl ?_ | refine WL.off rfl rfl rfl ?_ | refine WC.condTrue rfl ?_ | refine WC.condFalse rfl ?_)
  refine WL.call rfl rfl rfl rfl rfl Try.func49 rfl (by kernel_rfl) (by rw [e2]; exact short_any _ w1 (by omega)) ?_
  rintro e w2 ⟨b2, rfl, hb2, k2, g2⟩
  refine ⟨b2, rfl, ?_⟩
  refine WL.app rfl rfl rfl rfl rfl (hb1.below k2) rfl hb2.sl (by simp [shortI]) fun b w3 hb gr => ?_
  repeat (first | ((with_reducible refine WL.topT ?_ ?_); omega) | ((with_reducible refine WL.topF ?_ ?_); omega) | ((with_reducible refine WL.top64 ?_ ?_); omega) | refine WC.seq ?_ | refine WC.block ?_ | refine WC.region ?_ | refine WL.nil ?_ | refine WC.skip ?_ | refine WC.exit ?_ | refine WC.ret ?_ | refine WQ.then rfl ?_ | refine WQ.thenExit ?_ | refine WQ.thenRet ?_ | refine WQ.blk ?_ | refine WQ.blkRet ?_ | refine WQ.blkHere rfl ?_ | refine WQ.blkOther rfl ?_ | refine WL.pure rfl rfl rfl rfl ?_ | refine WL.on rfl rfl ?_ | refine WL.off rfl rfl rfl ?_ | refine WC.condTrue rfl ?_ | refine WC.condFalse rfl ?_)
  refine WQ.ret1 rfl rfl ⟨b, rfl, hb, ?_, ?_⟩
  · exact (k1.trans (k2.mono k1.size)).trans (gr.old (Nat.le_trans k1.size k2.size) g1)
  · exact gr.own (Nat.le_trans k1.size k2.size) g1
end K
end Go.Proofs.Ytfpakjbaiohcaaa
