/- The CRC-32 (chapter 1): the program's Sum. -/
import Derived.Test.YtfkjiehkfimmhaaKk
import Derived.Test.YtfkjiehkfimmhaaCrc
import Derived.Test.YtfkjiehkfimmhaaCodU
namespace Go.Proofs.Ytfkjiehkfimmhaa
open Go.RowKit
namespace K
theorem xor32 (c : BitVec 32) (x : Int) : bits .xor .u32 (c.toNat : Int) x = ((c ^^^ BitVec.ofInt 32 x).toNat : Int) := by
  show IntKind.u32.wrap ((BitVec.ofInt 32 (c.toNat : Int) ^^^ BitVec.ofInt 32 x).toNat : Int) = _
  have h := (c ^^^ BitVec.ofInt 32 x).isLt
  rw [BitVec.ofInt_natCast, BitVec.ofNat_toNat, BitVec.setWidth_eq, IntKind.wrap_u32]
  omega
theorem and15_32 (c : BitVec 32) : bits .and .u32 (c.toNat : Int) 15 = ((c.toNat % 16 : Nat) : Int) := by
  have h := c.isLt
  have := bits_mask .u32 32 (by decide) (fun n h0 h1 => by rw [IntKind.wrap_u32]; omega) 4 (by decide) (c.toNat : Int) (by omega) (by omega)
  rw [show ((2 : Int) ^ 4 - 1) = 15 by decide, show ((2 : Int) ^ 4) = 16 by decide] at this
  omega
theorem nib32 (c : BitVec 32) : bits .xor .u32 ((c.toNat : Int) / ((2 ^ min 4 IntKind.u32.bits : Nat) : Int)) ((Crc.tab.getD (c.toNat % 16) 0 : Nat) : Int) = ((Crc.nib c).toNat : Int) := by
  have h := c.isLt
  have e : ((c.toNat : Int) / ((2 ^ min 4 IntKind.u32.bits : Nat) : Int)) = ((c >>> 4).toNat : Int) := by
    rw [show ((2 ^ min 4 IntKind.u32.bits : Nat) : Int) = 16 from rfl, BitVec.toNat_ushiftRight, Nat.shiftRight_eq_div_pow]
    omega
  rw [e, xor32, BitVec.ofInt_natCast]
  rfl
def tabC : List Value := Crc.tab.map fun (n : Nat) => Value.int .u32 (n : Int)
theorem tab_cell {w : World} {g : Nat} {T : TypeId} (h : VBlk T w g tabC) (k : Nat) (hk : k < 16) : w.cell? ⟨g, k, none⟩ = some (.int .u32 ((Crc.tab.getD k 0 : Nat) : Int)) := by
  have hr : w.rangeAt g 0 tabC := VBlk.rangeAt h
  have := hr k (.int .u32 ((Crc.tab.getD k 0 : Nat) : Int)) (by
    unfold tabC
    have : k < Crc.tab.length := hk
    simp [this])
  simpa using this
theorem nth_mem' (l : List Int) (i : Nat) (h : i < l.length) : nth l i ∈ l := by simp [nth, h]
theorem take_succ' (l : List Int) (i : Nat) (h : i < l.length) : l.take (i + 1) = l.take i ++ [nth l i] := by rw [List.take_add_one]; simp [nth, h]
theorem sum_any {w : World} {v : Value} {l : List Int} (hv : Sl .u8 w v l) (hb : ∀ c ∈ l, 0 ≤ c ∧ c ≤ 255) (hl : l.length ≤ 140737488355328) :
    Calls Try.prog 23 #[v] w fun e w' => e = .returned (.int .u32 (Crc.crcN l : Nat)) ∧ Below w.heap.size w w' := by
  obtain ⟨sp, cap, rfl, -⟩ := id hv
  refine enter (args := [.slice sp l.length cap]) Try.func23 rfl Try.ntmps23 rfl ?_
  repeat (first | ((with_reducible refine WL.topT ?_ ?_); omega) | ((with_reducible refine WL.topF ?_ ?_); omega) | ((with_reducible refine WL.top64 ?_ ?_); omega) | refine WC.seq ?_ | refine WC.block ?_ | refine WC.region ?_ | refine WL.nil ?_ | refine WC.skip ?_ | refine WC.exit ?_ | refine WC.ret ?_ | refine WQ.then rfl ?_ | refine WQ.thenExit ?_ | refine WQ.thenRet ?_ | refine WQ.blk ?_ | refine WQ.blkRet ?_ | refine WQ.blkHere rfl ?_ | refine WQ.blkOther rfl ?_ | refine WL.pure rfl rfl rfl rfl ?_ | refine WL.on rfl rfl ?_ | refine WL.off rfl rfl rfl ?_ | refine WC.condTrue rfl ?_ | refine WC.condFalse rfl ?_)
  refine WL.build tabC rfl rfl rfl rfl rfl (by kernel_rfl) ?_
  refine WL.alloc (z := .agg (List.replicate 16 (Value.int .u32 0)).toArray) rfl rfl rfl rfl (fun _ => by kernel_rfl) fun g w1 hf0 => ?_
  have hf : Fresh w g w1 70 (List.replicate 16 (Value.int .u32 0)) := hf0
  clear hf0
  repeat (first | ((with_reducible refine WL.topT ?_ ?_); omega) | ((with_reducible refine WL.topF ?_ ?_); omega) | ((with_reducible refine WL.top64 ?_ ?_); omega) | refine WC.seq ?_ | refine WC.block ?_ | refine WC.region ?_ | refine WL.nil ?_ | refine WC.skip ?_ | refine WC.exit ?_ | refine WC.ret ?_ | refine WQ.then rfl ?_ | refine WQ.thenExit ?_ | refine WQ.thenRet ?_ | refine WQ.blk ?_ | refine WQ.blkRet ?_ | refine WQ.blkHere rfl ?_ | refine WQ.blkOther rfl ?_ | refine WL.pure rfl rfl rfl rfl ?_ | refine WL.on rfl rfl ?_ | refine WL.off rfl rfl rfl ?_ | refine WC.condTrue rfl ?_ | refine WC.condFalse rfl ?_)
  refine WL.storeRow rfl rfl rfl rfl rfl rfl hf.blk rfl rfl (by intro u hu; unfold tabC at hu; simp only [List.mem_map] at hu; obtain ⟨a, -, rfl⟩ := hu; rfl) ?_
  have hB : Below w.heap.size w (w1.setRow g tabC.toArray) := below_setRow hf.below (by have := hf.eq; omega) _
  have hT := hf.blk.setRow tabC
  have hsl : Sl .u8 (w1.setRow g tabC.toArray) (.slice sp l.length cap) l := hv.of_below hB
  generalize w1.setRow g tabC.toArray = w2 at hB hT hsl ⊢
  clear hf hv
  repeat (first | ((with_reducible refine WL.topT ?_ ?_); omega) | ((with_reducible refine WL.topF ?_ ?_); omega) | ((with_reducible refine WL.top64 ?_ ?_); omega) | refine WC.seq ?_ | refine WC.block ?_ | refine WC.region ?_ | refine WL.nil ?_ | refine WC.skip ?_ | refine WC.exit ?_ | refine WC.ret ?_ | refine WQ.then rfl ?_ | refine WQ.thenExit ?_ | refine WQ.thenRet ?_ | refine WQ.blk ?_ | refine WQ.blkRet ?_ | refine WQ.blkHere rfl ?_ | refine WQ.blkOther rfl ?_ | refine WL.pure rfl rfl rfl rfl ?_ | refine WL.on rfl rfl ?_ | refine WL.off rfl rfl rfl ?_ | refine WC.condTrue rfl ?_ | refine WC.condFalse rfl ?_)
  refine WC.loop (fun i : Nat × BitVec 32 => [(3, .pointer (some ⟨g, 0, none⟩)), (4, .int .u32 (i.2.toNat : Int)), (8, .slice sp l.length cap), (9, .int .i64 l.length), (10, .int .i64 i.1)])
    (fun i w' => i.1 ≤ l.length ∧ i.2 = Crc.run 0xffffffff#32 (l.take i.1) ∧ w' = w2) (fun i => l.length - i.1) (0, 0xffffffff#32) ⟨rfl, rfl, rfl, rfl, rfl, trivial⟩ ⟨Nat.zero_le _, rfl, rfl⟩ ?_
  rintro ⟨i, c⟩ _ ⟨hi, hc, rfl⟩
  simp only at hi hc ⊢
  by_cases h : i < l.length
  · have hbc := hb (nth l i) (nth_mem' l i h)
    have hu : IntKind.u32.wrap (nth l i) = nth l i := by rw [IntKind.wrap_u32]; omega
    repeat (first | ((with_reducible refine WL.topT ?_ ?_); omega) | ((with_reducible refine WL.topF ?_ ?_); omega) | ((with_reducible refine WL.top64 ?_ ?_); omega) | refine WC.seq ?_ | refine WC.block ?_ | refine WC.region ?_ | refine WL.nil ?_ | refine WC.skip ?_ | refine WC.exit ?_ | refine WC.ret ?_ | refine WQ.then rfl ?_ | refine WQ.thenExit ?_ | refine WQ.thenRet ?_ | refine WQ.blk ?_ | refine WQ.blkRet ?_ | refine WQ.blkHere rfl ?_ | refine WQ.blkOther rfl ?_ | refine WL.pure rfl rfl rfl rfl ?_ | refine WL.on rfl rfl ?_ | refine WL.off rfl rfl rfl ?_ | refine WC.condTrue rfl ?_ | refine WC.condFalse rfl ?_)
    refine WL.idxI i rfl rfl rfl rfl rfl rfl hsl rfl rfl h fun p hp => ?_
    repeat (first | ((with_reducible refine WL.topT ?_ ?_); omega) | ((with_reducible refine WL.topF ?_ ?_); omega) | ((with_reducible refine WL.top64 ?_ ?_); omega) | refine WC.seq ?_ | refine WC.block ?_ | refine WC.region ?_ | refine WL.nil ?_ | refine WC.skip ?_ | refine WC.exit ?_ | refine WC.ret ?_ | refine WQ.then rfl ?_ | refine WQ.thenExit ?_ | refine WQ.thenRet ?_ | refine WQ.blk ?_ | refine WQ.blkRet ?_ | refine WQ.blkHere rfl ?_ | refine WQ.blkOther rfl ?_ | refine WL.pure rfl rfl rfl rfl ?_ | refine WL.on rfl rfl ?_ | refine WL.off rfl rfl rfl ?_ | refine WL.load rfl rfl rfl rfl rfl rfl (by assumption) ?_ | refine WC.condTrue rfl ?_ | refine WC.condFalse rfl ?_)
    have e1 : bits .xor .u32 (c.toNat : Int) (IntKind.u32.wrap (nth l i)) = ((c ^^^ BitVec.ofInt 32 (nth l i)).toNat : Int) := by rw [hu]; exact xor32 c _
    have hnext : Crc.run 0xffffffff#32 (l.take (i + 1)) = Crc.nib (Crc.nib (c ^^^ BitVec.ofInt 32 (nth l i))) := by
      rw [take_succ' l i h, Crc.run_app, ← hc, ← Crc.step8_nib]; rfl
    generalize hd : c ^^^ BitVec.ofInt 32 (nth l i) = d at e1 hnext
    have hd16 : d.toNat % 16 < 16 := by omega
    have hn16 : (Crc.nib d).toNat % 16 < 16 := by omega
    refine WL.as 4 (.int .u32 (d.toNat : Int)) rfl (congrArg (Value.int .u32) e1) ?_
    refine WL.as 19 (.int .u32 ((d.toNat : Int) / ((2 ^ min 4 IntKind.u32.bits : Nat) : Int))) rfl (congrArg (fun z => Value.int .u32 (z / ((2 ^ min 4 IntKind.u32.bits : Nat) : Int))) e1) ?_
    refine WL.as 21 (.int .u32 ((d.toNat % 16 : Nat) : Int)) rfl (by rw [e1, and15_32]) ?_
    refine WL.idxA (d.toNat % 16) (d.toNat % 16) rfl rfl rfl rfl rfl rfl rfl rfl hd16 (by omega) ?_
    have hcell := tab_cell hT (d.toNat % 16) hd16
    repeat (first | ((with_reducible refine WL.topT ?_ ?_); omega) | ((with_reducible refine WL.topF ?_ ?_); omega) | ((with_reducible refine WL.top64 ?_ ?_); omega) | refine WC.seq ?_ | refine WC.block ?_ | refine WC.region ?_ | refine WL.nil ?_ | refine WC.skip ?_ | refine WC.exit ?_ | refine WC.ret ?_ | refine WQ.then rfl ?_ | refine WQ.thenExit ?_ | refine WQ.thenRet ?_ | refine WQ.blk ?_ | refine WQ.blkRet ?_ | refine WQ.blkHere rfl ?_ | refine WQ.blkOther rfl ?_ | refine WL.pure rfl rfl rfl rfl ?_ | refine WL.on rfl rfl ?_ | refine WL.off rfl rfl rfl ?_ | refine WL.load rfl rfl rfl rfl rfl rfl (by assumption) ?_ | refine WC.condTrue rfl ?_ | refine WC.condFalse rfl ?_)
    refine WL.as 4 (.int .u32 ((Crc.nib d).toNat : Int)) rfl (congrArg (Value.int .u32) (nib32 d)) ?_
    refine WL.as 26 (.int .u32 (((Crc.nib d).toNat : Int) / ((2 ^ min 4 IntKind.u32.bits : Nat) : Int))) rfl (congrArg (fun z => Value.int .u32 (z / ((2 ^ min 4 IntKind.u32.bits : Nat) : Int))) (nib32 d)) ?_
    refine WL.as 28 (.int .u32 (((Crc.nib d).toNat % 16 : Nat) : Int)) rfl (by rw [nib32, and15_32]) ?_
    refine WL.idxA ((Crc.nib d).toNat % 16) ((Crc.nib d).toNat % 16) rfl rfl rfl rfl rfl rfl rfl rfl hn16 (by omega) ?_
    have hcell2 := tab_cell hT ((Crc.nib d).toNat % 16) hn16
    repeat (first | ((with_reducible refine WL.topT ?_ ?_); omega) | ((with_reducible refine WL.topF ?_ ?_); omega) | ((with_reducible refine WL.top64 ?_ ?_); omega) | refine WC.seq ?_ | refine WC.block ?_ | refine WC.region ?_ | refine WL.nil ?_ | refine WC.skip ?_ | refine WC.exit ?_ | refine WC.ret ?_ | refine WQ.then rfl ?_ | refine WQ.thenExit ?_ | refine WQ.thenRet ?_ | refine WQ.blk ?_ | refine WQ.blkRet ?_ | refine WQ.blkHere rfl ?_ | refine WQ.blkOther rfl ?_ | refine WL.pure rfl rfl rfl rfl ?_ | refine WL.on rfl rfl ?_ | refine WL.off rfl rfl rfl ?_ | refine WL.load rfl rfl rfl rfl rfl rfl (by assumption) ?_ | refine WC.condTrue rfl ?_ | refine WC.condFalse rfl ?_)
    refine WQ.again (i + 1, Crc.nib (Crc.nib d)) ⟨rfl, congrArg (fun z => some (Value.int .u32 z)) (nib32 (Crc.nib d)), rfl, rfl, rfl, trivial⟩ ⟨by show i + 1 ≤ l.length; omega, hnext.symm, rfl⟩ (by show l.length - (i + 1) < l.length - i; omega)
  · have hfin : bits .xor .u32 (if IntKind.u32.signed = true then -1 else IntKind.u32.max) (c.toNat : Int) = ((Crc.crcN l : Nat) : Int) := by
      rw [List.take_of_length_le (by omega)] at hc
      show bits .xor .u32 4294967295 (c.toNat : Int) = ((Crc.sum l).toNat : Int)
      have := xor32 0xffffffff#32 (c.toNat : Int)
      rw [show (((0xffffffff#32).toNat : Nat) : Int) = 4294967295 from rfl] at this
      rw [this, BitVec.ofInt_natCast, BitVec.ofNat_toNat, BitVec.setWidth_eq]
      unfold Crc.sum
      rw [← hc, show (0xffffffff#32 : BitVec 32) = BitVec.allOnes 32 by decide, BitVec.allOnes_xor]
    repeat (first | ((with_reducible refine WL.topT ?_ ?_); omega) | ((with_reducible refine WL.topF ?_ ?_); omega) | ((with_reducible refine WL.top64 ?_ ?_); omega) | refine WC.seq ?_ | refine WC.block ?_ | refine WC.region ?_ | refine WL.nil ?_ | refine WC.skip ?_ | refine WC.exit ?_ | refine WC.ret ?_ | refine WQ.then rfl ?_ | refine WQ.thenExit ?_ | refine WQ.thenRet ?_ | refine WQ.blk ?_ | refine WQ.blkRet ?_ | refine WQ.blkHere rfl ?_ | refine WQ.blkOther rfl ?_ | refine WL.pure rfl rfl rfl rfl ?_ | refine WL.on rfl rfl ?_ | refine WL.off rfl rfl rfl ?_ | refine WC.condTrue rfl ?_ | refine WC.condFalse rfl ?_)
    exact WQ.ret1 (v := .int .u32 (Crc.crcN l : Nat)) rfl (congrArg (fun z => some (Value.int .u32 z)) hfin) ⟨rfl, hB⟩
end K
end Go.Proofs.Ytfkjiehkfimmhaa
