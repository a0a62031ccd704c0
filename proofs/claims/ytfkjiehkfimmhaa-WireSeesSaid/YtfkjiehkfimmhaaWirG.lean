/- Frames (chapter 4): the program's Encode and Decode; bytes.Clone. -/
import Derived.Test.YtfkjiehkfimmhaaWirF
namespace Go.Proofs.Ytfkjiehkfimmhaa
open Go.RowKit
namespace K
section
variable {n : Nat} {Q : Exit → Act → World → Prop} {l : Env} {w w' : World} {ops : Array Oper} {o : Oper} {rest : List Oper} {d : Nat}
theorem WL.nilB {x y : Operand} {t t2 e sz m c : Nat} {sp : Option Addr} (hg : o.guard = none) (hd : o.dst = some d) (hn : Nat.blt d n = true) (ho : o.op = .binOp .eql t x y t2) (ht : tyOf ty t = some (.slice e sz)) (hx : evl l x = some (.slice sp m c)) (hy : evl l y = some (.slice none 0 0))
    (h : WL n ops Q rest ((d, .bool sp.isNone) :: l) w) : WL n ops Q (o :: rest) l w :=
  WL.step hg hd hn (fun a ha => by
    unfold execOp
    rw [ho]
    obtain ⟨hu, -⟩ := TyOk.of tyOk ht
    have := Lib.run_eql_slice_nil w t e sp m c 0 0 hu
    have hq : (eqGuard .eql t x y (.slice sp m c) (.slice none 0 0)).run Try.prog w = .ok () w := by simp [eqGuard]
    simp only [ha.eval hx, ha.eval hy, Sem.run_bind, hq, Result.andThen_ok, this]
    rfl) h
end
section
variable {n : Nat} {l : Env} {w : World} {fn : Func} {R : Ending → World → Prop}
theorem WQ.ret3w {t t2 t3 : Nat} {v v2 v3 : Value} (hr : fn.results = #[.tmp t, .tmp t2, .tmp t3]) (hl : look l t = some v) (hl2 : look l t2 = some v2) (hl3 : look l t3 = some v3) (h : R (.returned (.tuple #[v, v2, v3])) w) : WQ n (bodyPost Try.prog fn R) .ret l w :=
  ⟨fun a ha => ⟨ha.defers, _, by rw [results_tmp3 hr, ha.getD hl, ha.getD hl2, ha.getD hl3], h⟩⟩
end
theorem bclone_any {w : World} {v : Value} {l : List Int} (hv : Sl .u8 w v l) (hl : l.length ≤ 140737488355328) : Calls Try.prog 32 #[v] w (Makes w l) := by
  obtain ⟨sp, cap, rfl, h1, h2, h3, h4⟩ := id hv
  refine enter (args := [.slice sp l.length cap]) Try.func32 rfl Try.ntmps32 rfl ?_
  repeat (first | ((with_reducible refine WL.topT ?_ ?_); omega) | ((with_reducible refine WL.topF ?_ ?_); omega) | ((with_reducible refine WL.top64 ?_ ?_); omega) | refine WC.seq ?_ | refine WC.block ?_ | refine WC.region ?_ | refine WL.nil ?_ | refine WC.skip ?_ | refine WC.exit ?_ | refine WC.ret ?_ | refine WQ.then rfl ?_ | refine WQ.thenExit ?_ | refine WQ.thenRet ?_ | refine WQ.blk ?_ | refine WQ.blkRet ?_ | refine WQ.blkHere rfl ?_ | refine WQ.blkOther rfl ?_ | refine WL.pure rfl rfl rfl rfl ?_ | refine WL.on rfl rfl ?_ | refine WL.off rfl rfl rfl ?_ | refine WC.condTrue rfl ?_ | refine WC.condFalse rfl ?_)
  refine WL.nilB rfl rfl rfl rfl rfl rfl rfl ?_
  cases sp with
  | none =>
    have hc := h4 rfl
    obtain rfl : l = [] := List.eq_nil_of_length_eq_zero (by omega)
    repeat (first | ((with_reducible refine WL.topT ?_ ?_); omega) | ((with_reducible refine WL.topF ?_ ?_); omega) | ((with_reducible refine WL.top64 ?_ ?_); omega) | refine WC.seq ?_ | refine WC.block ?_ | refine WC.region ?_ | refine WL.nil ?_ | refine WC.skip ?_ | refine WC.exit ?_ | refine WC.ret ?_ | refine WQ.then rfl ?_ | refine WQ.thenExit ?_ | refine WQ.thenRet ?_ | refine WQ.blk ?_ | refine WQ.blkRet ?_ | refine WQ.blkHere rfl ?_ | refine WQ.blkOther rfl ?_ | refine WL.pure rfl rfl rfl rfl ?_ | refine WL.on rfl rfl ?_ | refine WL.off rfl rfl rfl ?_ | refine WC.condTrue rfl ?_ | refine WC.condFalse rfl ?_)
    exact WQ.ret1 rfl rfl ⟨_, rfl, Bu.nil w, Below.refl _ _, fun g h => by cases h⟩
  | some p =>
    repeat (first | ((with_reducible refine WL.topT ?_ ?_); omega) | ((with_reducible refine WL.topF ?_ ?_); omega) | ((with_reducible refine WL.top64 ?_ ?_); omega) | refine WC.seq ?_ | refine WC.block ?_ | refine WC.region ?_ | refine WL.nil ?_ | refine WC.skip ?_ | refine WC.exit ?_ | refine WC.ret ?_ | refine WQ.then rfl ?_ | refine WQ.thenExit ?_ | refine WQ.thenRet ?_ | refine WQ.blk ?_ | refine WQ.blkRet ?_ | refine WQ.blkHere rfl ?_ | refine WQ.blkOther rfl ?_ | refine WL.pure rfl rfl rfl rfl ?_ | refine WL.on rfl rfl ?_ | refine WL.off rfl rfl rfl ?_ | refine WC.condTrue rfl ?_ | refine WC.condFalse rfl ?_)
    refine WL.empty rfl rfl rfl rfl rfl fun g w1 hf => ?_
    have hB := hf.below
    have hg := hf.eq
    repeat (first | ((with_reducible refine WL.topT ?_ ?_); omega) | ((with_reducible refine WL.topF ?_ ?_); omega) | ((with_reducible refine WL.top64 ?_ ?_); omega) | refine WC.seq ?_ | refine WC.block ?_ | refine WC.region ?_ | refine WL.nil ?_ | refine WC.skip ?_ | refine WC.exit ?_ | refine WC.ret ?_ | refine WQ.then rfl ?_ | refine WQ.thenExit ?_ | refine WQ.thenRet ?_ | refine WQ.blk ?_ | refine WQ.blkRet ?_ | refine WQ.blkHere rfl ?_ | refine WQ.blkOther rfl ?_ | refine WL.pure rfl rfl rfl rfl ?_ | refine WL.on rfl rfl ?_ | refine WL.off rfl rfl rfl ?_ | refine WC.condTrue rfl ?_ | refine WC.condFalse rfl ?_)
    refine WL.app rfl rfl rfl rfl rfl (Bu.ofFresh hf) rfl (hv.of_below hB) (by simpa using hl) fun b w2 hb gr => ?_
    repeat (first | ((with_reducible refine WL.topT ?_ ?_); omega) | ((with_reducible refine WL.topF ?_ ?_); omega) | ((with_reducible refine WL.top64 ?_ ?_); omega) | refine WC.seq ?_ | refine WC.block ?_ | refine WC.region ?_ | refine WL.nil ?_ | refine WC.skip ?_ | refine WC.exit ?_ | refine WC.ret ?_ | refine WQ.then rfl ?_ | refine WQ.thenExit ?_ | refine WQ.thenRet ?_ | refine WQ.blk ?_ | refine WQ.blkRet ?_ | refine WQ.blkHere rfl ?_ | refine WQ.blkOther rfl ?_ | refine WL.pure rfl rfl rfl rfl ?_ | refine WL.on rfl rfl ?_ | refine WL.off rfl rfl rfl ?_ | refine WC.condTrue rfl ?_ | refine WC.condFalse rfl ?_)
    have hg' : ∀ g', (Value.slice (some ⟨g, 0, none⟩) 0 0).ownBlock = some g' → w.heap.size ≤ g' := fun g' h => by cases h; show w.heap.size ≤ g; omega
    exact WQ.ret1 rfl rfl ⟨b, rfl, hb, hB.trans (gr.old hB.size hg'), fun g' h => gr.own hB.size hg' g' h⟩
/-- What Encode of a frame tells. -/
def FrmOut (w : World) (p : List Int) : Ending → World → Prop := fun e w' => ∃ b, e = .returned (.tuple #[b, .int .i64 (if 524288 < p.length then 5 else 0)]) ∧ Bu w' b (if 524288 < p.length then [] else Frm.frameL p) ∧ Below w.heap.size w w' ∧ ∀ g, b.ownBlock = some g → w.heap.size ≤ g
theorem fenc_any {w : World} {v : Value} {p : List Int} (hv : Sl .u8 w v p) (hp : Frm.Byt p) (hl : p.length ≤ 140737488355328) : Calls Try.prog 10 #[v] w (FrmOut w p) := by
  obtain ⟨sp, cap, rfl, h1, h2, -⟩ := id hv
  refine enter (args := [.slice sp p.length cap]) Try.func10 rfl Try.ntmps10 rfl ?_
  unfold FrmOut
  by_cases h : 524288 < p.length
  · rw [if_pos h, if_pos h]
    repeat (first | ((with_reducible refine WL.topT ?_ ?_); omega) | ((with_reducible refine WL.topF ?_ ?_); omega) | ((with_reducible refine WL.top64 ?_ ?_); omega) | refine WC.seq ?_ | refine WC.block ?_ | refine WC.region ?_ | refine WL.nil ?_ | refine WC.skip ?_ | refine WC.exit ?_ | refine WC.ret ?_ | refine WQ.then rfl ?_ | refine WQ.thenExit ?_ | refine WQ.thenRet ?_ | refine WQ.blk ?_ | refine WQ.blkRet ?_ | refine WQ.blkHere rfl ?_ | refine WQ.blkOther rfl ?_ | refine WL.pure rfl rfl rfl rfl ?_ | refine WL.on rfl rfl ?_ | refine WL.off rfl rfl rfl ?_ | refine WC.condTrue rfl ?_ | refine WC.condFalse rfl ?_)
    exact WQ.ret2 rfl rfl rfl ⟨_, rfl, Bu.nil w, Below.refl _ _, fun g h => by cases h⟩
  rw [if_neg h, if_neg h]
  have hw32 : IntKind.u32.wrap (p.length : Int) = (p.length : Int) := wraps_u32 _ (by omega) (by omega)
  repeat (first | ((with_reducible refine WL.topT ?_ ?_); omega) | ((with_reducible refine WL.topF ?_ ?_); omega) | ((with_reducible refine WL.top64 ?_ ?_); omega) | refine WC.seq ?_ | refine WC.block ?_ | refine WC.region ?_ | refine WL.nil ?_ | refine WC.skip ?_ | refine WC.exit ?_ | refine WC.ret ?_ | refine WQ.then rfl ?_ | refine WQ.thenExit ?_ | refine WQ.thenRet ?_ | refine WQ.blk ?_ | refine WQ.blkRet ?_ | refine WQ.blkHere rfl ?_ | refine WQ.blkOther rfl ?_ | refine WL.pure rfl rfl rfl rfl ?_ | refine WL.on rfl rfl ?_ | refine WL.off rfl rfl rfl ?_ | refine WC.condTrue rfl ?_ | refine WC.condFalse rfl ?_)
  refine WL.as 10 (.int .u32 (p.length : Int)) rfl (congrArg (Value.int .u32) hw32) ?_
  refine WL.call rfl rfl rfl rfl rfl Try.func21 rfl (by kernel_rfl) (head_any p.length (by omega) w) ?_
  rintro _ w1 ⟨rfl, k1⟩
  refine ⟨_, rfl, ?_⟩
  refine WL.call rfl rfl rfl rfl rfl Try.func20 rfl (by kernel_rfl) (big_any _ w1) ?_
  rintro _ w2 ⟨b2, rfl, q2, k2, o2⟩
  refine ⟨_, rfl, ?_⟩
  have hhd : Crc.be4 ((p.length * 4294967296 + Crc.crcN (Crc.be4 p.length)) / 4294967296 % 4294967296) ++ Crc.be4 ((p.length * 4294967296 + Crc.crcN (Crc.be4 p.length)) % 4294967296) = Frm.headF p.length := by
    have hc := Crc.crcN_lt (Crc.be4 p.length)
    rw [show (p.length * 4294967296 + Crc.crcN (Crc.be4 p.length)) / 4294967296 % 4294967296 = p.length by omega, show (p.length * 4294967296 + Crc.crcN (Crc.be4 p.length)) % 4294967296 = Crc.crcN (Crc.be4 p.length) by omega]
    rfl
  rw [hhd] at q2
  have hw2 : Below w.heap.size w w2 := k1.trans (k2.mono k1.size)
  have o2' : ∀ g, b2.ownBlock = some g → w.heap.size ≤ g := fun g hg => Nat.le_trans k1.size (o2 g hg)
  repeat (first | ((with_reducible refine WL.topT ?_ ?_); omega) | ((with_reducible refine WL.topF ?_ ?_); omega) | ((with_reducible refine WL.top64 ?_ ?_); omega) | refine WC.seq ?_ | refine WC.block ?_ | refine WC.region ?_ | refine WL.nil ?_ | refine WC.skip ?_ | refine WC.exit ?_ | refine WC.ret ?_ | refine WQ.then rfl ?_ | refine WQ.thenExit ?_ | refine WQ.thenRet ?_ | refine WQ.blk ?_ | refine WQ.blkRet ?_ | refine WQ.blkHere rfl ?_ | refine WQ.blkOther rfl ?_ | refine WL.pure rfl rfl rfl rfl ?_ | refine WL.on rfl rfl ?_ | refine WL.off rfl rfl rfl ?_ | refine WC.condTrue rfl ?_ | refine WC.condFalse rfl ?_)
  refine WL.app rfl rfl rfl rfl rfl q2 rfl (hv.of_below hw2) (by rw [Frm.headF_len]; omega) fun b3 w3 q3 g3 => ?_
  have hw3 : Below w.heap.size w w3 := hw2.trans (g3.old hw2.size o2')
  have o3 : ∀ g, b3.ownBlock = some g → w.heap.size ≤ g := fun g hg => g3.own hw2.size o2' g hg
  clear g3
  have hH : Frm.Byt (Frm.headF p.length ++ p) := fun c hc => (List.mem_append.1 hc).elim (fun h => by unfold Frm.headF at h; exact (List.mem_append.1 h).elim (Crc.be4_byt _ c) (Crc.be4_byt _ c)) (hp c)
  have hHl : (Frm.headF p.length ++ p).length = p.length + 8 := by rw [List.length_append, Frm.headF_len]; omega
  repeat (first | ((with_reducible refine WL.topT ?_ ?_); omega) | ((with_reducible refine WL.topF ?_ ?_); omega) | ((with_reducible refine WL.top64 ?_ ?_); omega) | refine WC.seq ?_ | refine WC.block ?_ | refine WC.region ?_ | refine WL.nil ?_ | refine WC.skip ?_ | refine WC.exit ?_ | refine WC.ret ?_ | refine WQ.then rfl ?_ | refine WQ.thenExit ?_ | refine WQ.thenRet ?_ | refine WQ.blk ?_ | refine WQ.blkRet ?_ | refine WQ.blkHere rfl ?_ | refine WQ.blkOther rfl ?_ | refine WL.pure rfl rfl rfl rfl ?_ | refine WL.on rfl rfl ?_ | refine WL.off rfl rfl rfl ?_ | refine WC.condTrue rfl ?_ | refine WC.condFalse rfl ?_)
  refine WL.call rfl rfl rfl rfl rfl Try.func23 rfl (by kernel_rfl) (sum_any q3.sl hH (by omega)) ?_
  rintro _ w4 ⟨rfl, k4⟩
  refine ⟨_, rfl, ?_⟩
  refine WL.call rfl rfl rfl rfl rfl Try.func22 rfl (by kernel_rfl) (short_any _ w4) ?_
  rintro _ w5 ⟨b5, rfl, q5, k5, o5⟩
  refine ⟨_, rfl, ?_⟩
  have k45 : Below w3.heap.size w3 w5 := k4.trans (k5.mono k4.size)
  refine WL.app rfl rfl rfl rfl rfl (q3.below k45) rfl q5.sl (by rw [hHl]; show p.length + 8 + 4 ≤ _; omega) fun b6 w6 q6 g6 => ?_
  repeat (first | ((with_reducible refine WL.topT ?_ ?_); omega) | ((with_reducible refine WL.topF ?_ ?_); omega) | ((with_reducible refine WL.top64 ?_ ?_); omega) | refine WC.seq ?_ | refine WC.block ?_ | refine WC.region ?_ | refine WL.nil ?_ | refine WC.skip ?_ | refine WC.exit ?_ | refine WC.ret ?_ | refine WQ.then rfl ?_ | refine WQ.thenExit ?_ | refine WQ.thenRet ?_ | refine WQ.blk ?_ | refine WQ.blkRet ?_ | refine WQ.blkHere rfl ?_ | refine WQ.blkOther rfl ?_ | refine WL.pure rfl rfl rfl rfl ?_ | refine WL.on rfl rfl ?_ | refine WL.off rfl rfl rfl ?_ | refine WC.condTrue rfl ?_ | refine WC.condFalse rfl ?_)
  have hw5 : Below w.heap.size w w5 := hw3.trans (k45.mono hw3.size)
  refine WQ.ret2 rfl rfl rfl ⟨b6, rfl, ?_, hw5.trans (g6.old hw5.size o3), fun g hg => g6.own hw5.size o3 g hg⟩
  have : Frm.frameL p = Frm.headF p.length ++ p ++ Crc.be4 (Crc.crcN (Frm.headF p.length ++ p)) := by unfold Frm.frameL; rw [List.append_assoc]
  rw [this]
  exact q6
/-- What Decode of a frame tells. -/
def FdcOut (w : World) (l : List Int) : Ending → World → Prop := fun e w' => ∃ b, e = .returned (.tuple #[b, .int .i64 ((Frm.decF l).2.2 : Nat), .int .i64 (Frm.decF l).1]) ∧ Bu w' b (Frm.decF l).2.1 ∧ Below w.heap.size w w' ∧ ∀ g, b.ownBlock = some g → w.heap.size ≤ g
theorem FdcOut.bad {w w' : World} {l : List Int} {x : Int} (h : Frm.decF l = (x, [], 0)) (hB : Below w.heap.size w w') : FdcOut w l (.returned (.tuple #[.slice none 0 0, .int .i64 0, .int .i64 x])) w' := by
  unfold FdcOut
  rw [h]
  exact ⟨_, rfl, Bu.nil w', hB, fun g h => by cases h⟩
theorem head_any2 (n : Nat) (hn : n < 4294967296) {B : Int} (hB : B = ((n * 4294967296 + Crc.crcN (Crc.be4 n) : Nat) : Int)) (w : World) : Calls Try.prog 21 #[.int .u32 (n : Int)] w fun e w' => e = .returned (.int .u64 B) ∧ Below w.heap.size w w' := by
  subst hB
  exact head_any n hn w
set_option maxHeartbeats 400000 in
theorem fdec_any {w : World} {v : Value} {l : List Int} (hv : Sl .u8 w v l) (hb : Frm.Byt l) (hl : l.length ≤ 140737488355328) : Calls Try.prog 24 #[v] w (FdcOut w l) := by
  obtain ⟨sp, cap, rfl, h1, h2, -⟩ := id hv
  refine enter (args := [.slice sp l.length cap]) Try.func24 rfl Try.ntmps24 rfl ?_
  repeat (first | ((with_reducible refine WL.topT ?_ ?_); omega) | ((with_reducible refine WL.topF ?_ ?_); omega) | ((with_reducible refine WL.top64 ?_ ?_); omega) | refine WC.seq ?_ | refine WC.block ?_ | refine WC.region ?_ | refine WL.nil ?_ | refine WC.skip ?_ | refine WC.exit ?_ | refine WC.ret ?_ | refine WQ.then rfl ?_ | refine WQ.thenExit ?_ | refine WQ.thenRet ?_ | refine WQ.blk ?_ | refine WQ.blkRet ?_ | refine WQ.blkHere rfl ?_ | refine WQ.blkOther rfl ?_ | refine WL.pure rfl rfl rfl rfl ?_ | refine WL.on rfl rfl ?_ | refine WL.off rfl rfl rfl ?_ | refine WC.condTrue rfl ?_ | refine WC.condFalse rfl ?_)
  refine WL.call rfl rfl rfl rfl rfl Try.func30 rfl (by kernel_rfl) (readBig_any hv hb) ?_
  rintro _ w1 ⟨rfl, k1⟩
  refine ⟨_, rfl, ?_⟩
  have hv1 := hv.of_below k1
  by_cases c8 : l.length < 8
  · have e1 : rbV l = [.int .u64 0, .int .i64 2] := by unfold rbV; rw [if_pos c8]
    have e2 : Frm.decF l = (2, [], 0) := by unfold Frm.decF; rw [if_pos c8]
    rw [e1]
    repeat (first | ((with_reducible refine WL.topT ?_ ?_); omega) | ((with_reducible refine WL.topF ?_ ?_); omega) | ((with_reducible refine WL.top64 ?_ ?_); omega) | refine WC.seq ?_ | refine WC.block ?_ | refine WC.region ?_ | refine WL.nil ?_ | refine WC.skip ?_ | refine WC.exit ?_ | refine WC.ret ?_ | refine WQ.then rfl ?_ | refine WQ.thenExit ?_ | refine WQ.thenRet ?_ | refine WQ.blk ?_ | refine WQ.blkRet ?_ | refine WQ.blkHere rfl ?_ | refine WQ.blkOther rfl ?_ | refine WL.pure rfl rfl rfl rfl ?_ | refine WL.on rfl rfl ?_ | refine WL.off rfl rfl rfl ?_ | refine WC.condTrue rfl ?_ | refine WC.condFalse rfl ?_)
    exact WQ.ret3w rfl rfl rfl rfl (FdcOut.bad e2 k1)
  obtain ⟨A, hA⟩ : ∃ A : Int, A = ((Crc.num4 l * 4294967296 + Crc.num4 (l.drop 4) : Nat) : Int) := ⟨_, rfl⟩
  have e1 : rbV l = [.int .u64 A, .int .i64 0] := by unfold rbV; rw [if_neg c8, hA]
  rw [e1]
  have hbd : Frm.Byt (l.drop 4) := fun c hc => hb c (List.mem_of_mem_drop hc)
  have hn := Crc.num4_lt l hb
  have hm := Crc.num4_lt _ hbd
  have hcs := Crc.crcN_lt (Crc.be4 (Crc.num4 l))
  have hdef : Frm.decF l = (if Crc.num4 (l.drop 4) ≠ Crc.crcN (Crc.be4 (Crc.num4 l)) then (4, [], 0)
    else if 524288 < Crc.num4 l then (5, [], 0)
    else if l.length < Crc.num4 l + 12 then (2, [], 0)
    else if Crc.num4 (l.drop (8 + Crc.num4 l)) ≠ Crc.crcN (l.take (8 + Crc.num4 l)) then (4, [], 0)
    else (0, (l.take (8 + Crc.num4 l)).drop 8, Crc.num4 l + 12)) := by
    conv => lhs; unfold Frm.decF
    rw [if_neg c8]
  generalize hN : Crc.num4 l = N at hA hn hcs hdef ⊢
  generalize hM : Crc.num4 (l.drop 4) = M at hA hm hdef ⊢
  have x1 : IntKind.u32.wrap (A / ((2 ^ min 32 IntKind.u64.bits : Nat) : Int)) = (N : Int) := by
    rw [hA]
    rw [show ((2 ^ min 32 IntKind.u64.bits : Nat) : Int) = 4294967296 from rfl, IntKind.wrap_u32]; omega
  repeat (first | ((with_reducible refine WL.topT ?_ ?_); omega) | ((with_reducible refine WL.topF ?_ ?_); omega) | ((with_reducible refine WL.top64 ?_ ?_); omega) | refine WC.seq ?_ | refine WC.block ?_ | refine WC.region ?_ | refine WL.nil ?_ | refine WC.skip ?_ | refine WC.exit ?_ | refine WC.ret ?_ | refine WQ.then rfl ?_ | refine WQ.thenExit ?_ | refine WQ.thenRet ?_ | refine WQ.blk ?_ | refine WQ.blkRet ?_ | refine WQ.blkHere rfl ?_ | refine WQ.blkOther rfl ?_ | refine WL.pure rfl rfl rfl rfl ?_ | refine WL.on rfl rfl ?_ | refine WL.off rfl rfl rfl ?_ | refine WC.condTrue rfl ?_ | refine WC.condFalse rfl ?_)
  refine WL.as 7 (.int .u32 (N : Int)) rfl (congrArg (Value.int .u32) x1) ?_
  refine WL.as 24 (.int .u32 (N : Int)) rfl (congrArg (Value.int .u32) x1) ?_
  obtain ⟨B, hB⟩ : ∃ B : Int, B = ((N * 4294967296 + Crc.crcN (Crc.be4 N) : Nat) : Int) := ⟨_, rfl⟩
  have hhd := head_any2 N hn hB w1
  repeat (first | ((with_reducible refine WL.topT ?_ ?_); omega) | ((with_reducible refine WL.topF ?_ ?_); omega) | ((with_reducible refine WL.top64 ?_ ?_); omega) | refine WC.seq ?_ | refine WC.block ?_ | refine WC.region ?_ | refine WL.nil ?_ | refine WC.skip ?_ | refine WC.exit ?_ | refine WC.ret ?_ | refine WQ.then rfl ?_ | refine WQ.thenExit ?_ | refine WQ.thenRet ?_ | refine WQ.blk ?_ | refine WQ.blkRet ?_ | refine WQ.blkHere rfl ?_ | refine WQ.blkOther rfl ?_ | refine WL.pure rfl rfl rfl rfl ?_ | refine WL.on rfl rfl ?_ | refine WL.off rfl rfl rfl ?_ | refine WC.condTrue rfl ?_ | refine WC.condFalse rfl ?_)
  refine WL.call rfl rfl rfl rfl rfl Try.func21 rfl (by kernel_rfl) hhd ?_
  rintro _ w2 ⟨rfl, k2⟩
  refine ⟨_, rfl, ?_⟩
  have hw2 : Below w.heap.size w w2 := k1.trans (k2.mono k1.size)
  have hv2 := hv.of_below hw2
  clear k1 k2 hv1
  generalize hC : Crc.crcN (Crc.be4 N) = C at hB hcs hdef ⊢
  by_cases c1 : ¬ M = C
  · rw [if_pos c1] at hdef
    have hne : A ≠ B := by omega
    clear hA hB
    repeat (first | ((with_reducible refine WL.topT ?_ ?_); omega) | ((with_reducible refine WL.topF ?_ ?_); omega) | ((with_reducible refine WL.top64 ?_ ?_); omega) | refine WC.seq ?_ | refine WC.block ?_ | refine WC.region ?_ | refine WL.nil ?_ | refine WC.skip ?_ | refine WC.exit ?_ | refine WC.ret ?_ | refine WQ.then rfl ?_ | refine WQ.thenExit ?_ | refine WQ.thenRet ?_ | refine WQ.blk ?_ | refine WQ.blkRet ?_ | refine WQ.blkHere rfl ?_ | refine WQ.blkOther rfl ?_ | refine WL.pure rfl rfl rfl rfl ?_ | refine WL.on rfl rfl ?_ | refine WL.off rfl rfl rfl ?_ | refine WC.condTrue rfl ?_ | refine WC.condFalse rfl ?_)
    exact WQ.ret3w rfl rfl rfl rfl (FdcOut.bad hdef hw2)
  rw [if_neg c1] at hdef
  replace c1 : M = C := by omega
  have heq : A = B := by rw [hA, hB, c1]
  clear hA hB hhd x1
  by_cases c2 : 524288 < N
  · rw [if_pos c2] at hdef
    repeat (first | ((with_reducible refine WL.topT ?_ ?_); omega) | ((with_reducible refine WL.topF ?_ ?_); omega) | ((with_reducible refine WL.top64 ?_ ?_); omega) | refine WC.seq ?_ | refine WC.block ?_ | refine WC.region ?_ | refine WL.nil ?_ | refine WC.skip ?_ | refine WC.exit ?_ | refine WC.ret ?_ | refine WQ.then rfl ?_ | refine WQ.thenExit ?_ | refine WQ.thenRet ?_ | refine WQ.blk ?_ | refine WQ.blkRet ?_ | refine WQ.blkHere rfl ?_ | refine WQ.blkOther rfl ?_ | refine WL.pure rfl rfl rfl rfl ?_ | refine WL.on rfl rfl ?_ | refine WL.off rfl rfl rfl ?_ | refine WC.condTrue rfl ?_ | refine WC.condFalse rfl ?_)
    exact WQ.ret3w rfl rfl rfl rfl (FdcOut.bad hdef hw2)
  rw [if_neg c2] at hdef
  by_cases c3 : l.length < N + 12
  · rw [if_pos c3] at hdef
    repeat (first | ((with_reducible refine WL.topT ?_ ?_); omega) | ((with_reducible refine WL.topF ?_ ?_); omega) | ((with_reducible refine WL.top64 ?_ ?_); omega) | refine WC.seq ?_ | refine WC.block ?_ | refine WC.region ?_ | refine WL.nil ?_ | refine WC.skip ?_ | refine WC.exit ?_ | refine WC.ret ?_ | refine WQ.then rfl ?_ | refine WQ.thenExit ?_ | refine WQ.thenRet ?_ | refine WQ.blk ?_ | refine WQ.blkRet ?_ | refine WQ.blkHere rfl ?_ | refine WQ.blkOther rfl ?_ | refine WL.pure rfl rfl rfl rfl ?_ | refine WL.on rfl rfl ?_ | refine WL.off rfl rfl rfl ?_ | refine WC.condTrue rfl ?_ | refine WC.condFalse rfl ?_)
    exact WQ.ret3w rfl rfl rfl rfl (FdcOut.bad hdef hw2)
  rw [if_neg c3] at hdef
  repeat (first | ((with_reducible refine WL.topT ?_ ?_); omega) | ((with_reducible refine WL.topF ?_ ?_); omega) | ((with_reducible refine WL.top64 ?_ ?_); omega) | refine WC.seq ?_ | refine WC.block ?_ | refine WC.region ?_ | refine WL.nil ?_ | refine WC.skip ?_ | refine WC.exit ?_ | refine WC.ret ?_ | refine WQ.then rfl ?_ | refine WQ.thenExit ?_ | refine WQ.thenRet ?_ | refine WQ.blk ?_ | refine WQ.blkRet ?_ | refine WQ.blkHere rfl ?_ | refine WQ.blkOther rfl ?_ | refine WL.pure rfl rfl rfl rfl ?_ | refine WL.on rfl rfl ?_ | refine WL.off rfl rfl rfl ?_ | refine WC.condTrue rfl ?_ | refine WC.condFalse rfl ?_)
  refine WL.upto rfl rfl rfl rfl rfl rfl rfl (by omega) (by omega) hv2 fun v3 hv3 => ?_
  have hz3 : ((8 : Int) + (N : Int)).toNat = 8 + N := by omega
  rw [hz3] at hv3
  have hl3 : (l.take (8 + N)).length = 8 + N := by rw [List.length_take]; omega
  obtain ⟨sp3, cap3, rfl, -⟩ := id hv3
  repeat (first | ((with_reducible refine WL.topT ?_ ?_); omega) | ((with_reducible refine WL.topF ?_ ?_); omega) | ((with_reducible refine WL.top64 ?_ ?_); omega) | refine WC.seq ?_ | refine WC.block ?_ | refine WC.region ?_ | refine WL.nil ?_ | refine WC.skip ?_ | refine WC.exit ?_ | refine WC.ret ?_ | refine WQ.then rfl ?_ | refine WQ.thenExit ?_ | refine WQ.thenRet ?_ | refine WQ.blk ?_ | refine WQ.blkRet ?_ | refine WQ.blkHere rfl ?_ | refine WQ.blkOther rfl ?_ | refine WL.pure rfl rfl rfl rfl ?_ | refine WL.on rfl rfl ?_ | refine WL.off rfl rfl rfl ?_ | refine WC.condTrue rfl ?_ | refine WC.condFalse rfl ?_)
  refine WL.from rfl rfl rfl rfl rfl rfl rfl (by omega) (by rw [hl3]; omega) hv2 fun v4 hv4 => ?_
  have hz4 : (((l.take (8 + N)).length : Nat) : Int).toNat = 8 + N := by omega
  rw [hz4] at hv4
  have hbd4 : Frm.Byt (l.drop (8 + N)) := fun c hc => hb c (List.mem_of_mem_drop hc)
  refine WL.call rfl rfl rfl rfl rfl Try.func31 rfl (by kernel_rfl) (readShort_any hv4 hbd4) ?_
  rintro _ w3 ⟨rfl, k3⟩
  refine ⟨_, rfl, ?_⟩
  have e4 : rsV (l.drop (8 + N)) = [.int .u32 (Crc.num4 (l.drop (8 + N)) : Nat), .int .i64 0] := by unfold rsV; rw [if_neg (by rw [List.length_drop]; omega)]
  rw [e4]
  have hw3 : Below w.heap.size w w3 := hw2.trans (k3.mono hw2.size)
  have hv33 := hv3.of_below k3
  repeat (first | ((with_reducible refine WL.topT ?_ ?_); omega) | ((with_reducible refine WL.topF ?_ ?_); omega) | ((with_reducible refine WL.top64 ?_ ?_); omega) | refine WC.seq ?_ | refine WC.block ?_ | refine WC.region ?_ | refine WL.nil ?_ | refine WC.skip ?_ | refine WC.exit ?_ | refine WC.ret ?_ | refine WQ.then rfl ?_ | refine WQ.thenExit ?_ | refine WQ.thenRet ?_ | refine WQ.blk ?_ | refine WQ.blkRet ?_ | refine WQ.blkHere rfl ?_ | refine WQ.blkOther rfl ?_ | refine WL.pure rfl rfl rfl rfl ?_ | refine WL.on rfl rfl ?_ | refine WL.off rfl rfl rfl ?_ | refine WC.condTrue rfl ?_ | refine WC.condFalse rfl ?_)
  have hbt : Frm.Byt (l.take (8 + N)) := fun c hc => hb c (List.mem_of_mem_take hc)
  refine WL.call rfl rfl rfl rfl rfl Try.func23 rfl (by kernel_rfl) (sum_any hv33 hbt (by omega)) ?_
  rintro _ w4 ⟨rfl, k4⟩
  refine ⟨_, rfl, ?_⟩
  have hw4 : Below w.heap.size w w4 := hw3.trans (k4.mono hw3.size)
  have hv34 := hv33.of_below k4
  generalize Crc.num4 (l.drop (8 + N)) = x at hdef ⊢
  generalize Crc.crcN (l.take (8 + N)) = y at hdef ⊢
  by_cases c4 : x ≠ y
  · rw [if_pos c4] at hdef
    repeat (first | ((with_reducible refine WL.topT ?_ ?_); omega) | ((with_reducible refine WL.topF ?_ ?_); omega) | ((with_reducible refine WL.top64 ?_ ?_); omega) | refine WC.seq ?_ | refine WC.block ?_ | refine WC.region ?_ | refine WL.nil ?_ | refine WC.skip ?_ | refine WC.exit ?_ | refine WC.ret ?_ | refine WQ.then rfl ?_ | refine WQ.thenExit ?_ | refine WQ.thenRet ?_ | refine WQ.blk ?_ | refine WQ.blkRet ?_ | refine WQ.blkHere rfl ?_ | refine WQ.blkOther rfl ?_ | refine WL.pure rfl rfl rfl rfl ?_ | refine WL.on rfl rfl ?_ | refine WL.off rfl rfl rfl ?_ | refine WC.condTrue rfl ?_ | refine WC.condFalse rfl ?_)
    exact WQ.ret3w rfl rfl rfl rfl (FdcOut.bad hdef hw4)
  rw [if_neg c4] at hdef
  repeat (first | ((with_reducible refine WL.topT ?_ ?_); omega) | ((with_reducible refine WL.topF ?_ ?_); omega) | ((with_reducible refine WL.top64 ?_ ?_); omega) | refine WC.seq ?_ | refine WC.block ?_ | refine WC.region ?_ | refine WL.nil ?_ | refine WC.skip ?_ | refine WC.exit ?_ | refine WC.ret ?_ | refine WQ.then rfl ?_ | refine WQ.thenExit ?_ | refine WQ.thenRet ?_ | refine WQ.blk ?_ | refine WQ.blkRet ?_ | refine WQ.blkHere rfl ?_ | refine WQ.blkOther rfl ?_ | refine WL.pure rfl rfl rfl rfl ?_ | refine WL.on rfl rfl ?_ | refine WL.off rfl rfl rfl ?_ | refine WC.condTrue rfl ?_ | refine WC.condFalse rfl ?_)
  refine WL.from rfl rfl rfl rfl rfl rfl rfl (by omega) (by rw [hl3]; omega) hv34 fun v5 hv5 => ?_
  rw [show (8 : Int).toNat = 8 from rfl] at hv5
  have hl5 : ((l.take (8 + N)).drop 8).length = N := by rw [List.length_drop]; omega
  refine WL.call rfl rfl rfl rfl rfl Try.func32 rfl (by kernel_rfl) (bclone_any hv5 (by omega)) ?_
  rintro _ w5 ⟨b5, rfl, q5, k5, o5⟩
  refine ⟨_, rfl, ?_⟩
  repeat (first | ((with_reducible refine WL.topT ?_ ?_); omega) | ((with_reducible refine WL.topF ?_ ?_); omega) | ((with_reducible refine WL.top64 ?_ ?_); omega) | refine WC.seq ?_ | refine WC.block ?_ | refine WC.region ?_ | refine WL.nil ?_ | refine WC.skip ?_ | refine WC.exit ?_ | refine WC.ret ?_ | refine WQ.then rfl ?_ | refine WQ.thenExit ?_ | refine WQ.thenRet ?_ | refine WQ.blk ?_ | refine WQ.blkRet ?_ | refine WQ.blkHere rfl ?_ | refine WQ.blkOther rfl ?_ | refine WL.pure rfl rfl rfl rfl ?_ | refine WL.on rfl rfl ?_ | refine WL.off rfl rfl rfl ?_ | refine WC.condTrue rfl ?_ | refine WC.condFalse rfl ?_)
  refine WQ.ret3w rfl rfl rfl rfl ?_
  unfold FdcOut
  rw [hdef]
  refine ⟨b5, ?_, q5, hw4.trans (k5.mono hw4.size), fun g hg => Nat.le_trans hw4.size (o5 g hg)⟩
  have hfin : (((l.take (8 + N)).length : Nat) : Int) + 4 = ((N + 12 : Nat) : Int) := by omega
  show Ending.returned (.tuple #[b5, .int .i64 ((((l.take (8 + N)).length : Nat) : Int) + 4), .int .i64 0]) = _
  rw [hfin]
end K
end Go.Proofs.Ytfkjiehkfimmhaa
