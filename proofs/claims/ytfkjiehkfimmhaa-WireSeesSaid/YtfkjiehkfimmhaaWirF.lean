/- Numbers of four and eight bytes (chapter 1), the head of a frame (chapter 4): the program's. -/
import Derived.Test.YtfkjiehkfimmhaaWirS
import Derived.Test.YtfkjiehkfimmhaaFrmP
namespace Go.Proofs.Ytfkjiehkfimmhaa
open Go.RowKit
namespace K
/-- A call that makes bytes of its own, and writes nothing else. -/
def Makes (w : World) (l : List Int) : Ending → World → Prop := fun e w' => ∃ b, e = .returned b ∧ Bu w' b l ∧ Below w.heap.size w w' ∧ ∀ g, b.ownBlock = some g → w.heap.size ≤ g
theorem short_any (n : Nat) (w : World) : Calls Try.prog 22 #[.int .u32 (n : Int)] w (Makes w (Crc.be4 n)) := by
  refine enter (args := [.int .u32 (n : Int)]) Try.func22 rfl Try.ntmps22 rfl ?_
  have h4 : [IntKind.u8.wrap ((n : Int) / ((2 ^ min 24 IntKind.u32.bits : Nat) : Int)), IntKind.u8.wrap ((n : Int) / ((2 ^ min 16 IntKind.u32.bits : Nat) : Int)), IntKind.u8.wrap ((n : Int) / ((2 ^ min 8 IntKind.u32.bits : Nat) : Int)), IntKind.u8.wrap (n : Int)] = Crc.be4 n := by
    unfold Crc.be4
    rw [show ((2 ^ min 24 IntKind.u32.bits : Nat) : Int) = 16777216 from rfl, show ((2 ^ min 16 IntKind.u32.bits : Nat) : Int) = 65536 from rfl, show ((2 ^ min 8 IntKind.u32.bits : Nat) : Int) = 256 from rfl]
    simp only [IntKind.wrap_u8]
    simp
  repeat (first | ((with_reducible refine WL.topT ?_ ?_); omega) | ((with_reducible refine WL.topF ?_ ?_); omega) | ((with_reducible refine WL.top64 ?_ ?_); omega) | refine WC.seq ?_ | refine WC.block ?_ | refine WC.region ?_ | refine WL.nil ?_ | refine WC.skip ?_ | refine WC.exit ?_ | refine WC.ret ?_ | refine WQ.then rfl ?_ | refine WQ.thenExit ?_ | refine WQ.thenRet ?_ | refine WQ.blk ?_ | refine WQ.blkRet ?_ | refine WQ.blkHere rfl ?_ | refine WQ.blkOther rfl ?_ | refine WL.pure rfl rfl rfl rfl ?_ | refine WL.on rfl rfl ?_ | refine WL.off rfl rfl rfl ?_ | refine WC.condTrue rfl ?_ | refine WC.condFalse rfl ?_)
  refine WL.lit rfl rfl rfl rfl rfl rfl rfl fun v w1 h1 h2 h3 => ?_
  rw [h4] at h1
  repeat (first | ((with_reducible refine WL.topT ?_ ?_); omega) | ((with_reducible refine WL.topF ?_ ?_); omega) | ((with_reducible refine WL.top64 ?_ ?_); omega) | refine WC.seq ?_ | refine WC.block ?_ | refine WC.region ?_ | refine WL.nil ?_ | refine WC.skip ?_ | refine WC.exit ?_ | refine WC.ret ?_ | refine WQ.then rfl ?_ | refine WQ.thenExit ?_ | refine WQ.thenRet ?_ | refine WQ.blk ?_ | refine WQ.blkRet ?_ | refine WQ.blkHere rfl ?_ | refine WQ.blkOther rfl ?_ | refine WL.pure rfl rfl rfl rfl ?_ | refine WL.on rfl rfl ?_ | refine WL.off rfl rfl rfl ?_ | refine WC.condTrue rfl ?_ | refine WC.condFalse rfl ?_)
  exact WQ.ret1 rfl rfl ⟨v, rfl, h1, h2, h3⟩
theorem wraps_u32 (n : Int) (h0 : 0 ≤ n) (h1 : n < 2 ^ 32) : IntKind.u32.wrap n = n := by rw [IntKind.wrap_u32]; omega
theorem wraps_u64 (n : Int) (h0 : 0 ≤ n) (h1 : n < 2 ^ 64) : IntKind.u64.wrap n = n := by rw [IntKind.wrap_u64]; omega
theorem four32 (a b c d : Int) (ha : 0 ≤ a ∧ a ≤ 255) (hb : 0 ≤ b ∧ b ≤ 255) (hc : 0 ≤ c ∧ c ≤ 255) (hd : 0 ≤ d ∧ d ≤ 255) :
    bits .or .u32 (bits .or .u32 (bits .or .u32 (IntKind.u32.wrap (IntKind.u32.wrap a * ((2 ^ min 24 IntKind.u32.bits : Nat) : Int))) (IntKind.u32.wrap (IntKind.u32.wrap b * ((2 ^ min 16 IntKind.u32.bits : Nat) : Int))))
      (IntKind.u32.wrap (IntKind.u32.wrap c * ((2 ^ min 8 IntKind.u32.bits : Nat) : Int)))) (IntKind.u32.wrap d) = a * 16777216 + b * 65536 + c * 256 + d := by
  rw [show ((2 ^ min 24 IntKind.u32.bits : Nat) : Int) = 16777216 from rfl, show ((2 ^ min 16 IntKind.u32.bits : Nat) : Int) = 65536 from rfl, show ((2 ^ min 8 IntKind.u32.bits : Nat) : Int) = 256 from rfl]
  rw [wraps_u32 a (by omega) (by omega), wraps_u32 b (by omega) (by omega), wraps_u32 c (by omega) (by omega), wraps_u32 d (by omega) (by omega), wraps_u32 (a * 16777216) (by omega) (by omega), wraps_u32 (b * 65536) (by omega) (by omega), wraps_u32 (c * 256) (by omega) (by omega)]
  rw [bits_join .u32 32 (by decide) wraps_u32 24 (a * 16777216) (b * 65536) (by omega) (by omega) (by omega) (by omega) (by omega) (by omega)]
  rw [bits_join .u32 32 (by decide) wraps_u32 16 (a * 16777216 + b * 65536) (c * 256) (by omega) (by omega) (by omega) (by omega) (by omega) (by omega)]
  rw [bits_join .u32 32 (by decide) wraps_u32 8 (a * 16777216 + b * 65536 + c * 256) d (by omega) (by omega) (by omega) (by omega) (by omega) (by omega)]
theorem two64 (h l : Nat) (hh : h < 4294967296) (hl : l < 4294967296) : bits .or .u64 (IntKind.u64.wrap (IntKind.u64.wrap (h : Int) * ((2 ^ min 32 IntKind.u64.bits : Nat) : Int))) (IntKind.u64.wrap (l : Int)) = ((h * 4294967296 + l : Nat) : Int) := by
  rw [show ((2 ^ min 32 IntKind.u64.bits : Nat) : Int) = 4294967296 from rfl, wraps_u64 (h : Int) (by omega) (by omega), wraps_u64 (l : Int) (by omega) (by omega), wraps_u64 ((h : Int) * 4294967296) (by omega) (by omega)]
  rw [bits_join .u64 64 (by decide) wraps_u64 32 ((h : Int) * 4294967296) (l : Int) (by omega) (by omega) (by omega) (by omega) (by omega) (by omega)]
  omega
theorem num4_nth {l : List Int} (hl : 4 ≤ l.length) (hb : Frm.Byt l) : nth l 0 * 16777216 + nth l 1 * 65536 + nth l 2 * 256 + nth l 3 = ((Crc.num4 l : Nat) : Int) := by
  match l, hl, hb with
  | a :: b :: c :: d :: r, _, hb =>
    have h1 := hb a (by simp)
    have h2 := hb b (by simp)
    have h3 := hb c (by simp)
    have h4 := hb d (by simp)
    show a * 16777216 + b * 65536 + c * 256 + d = ((a.toNat * 16777216 + b.toNat * 65536 + c.toNat * 256 + d.toNat : Nat) : Int)
    omega
/-- What ReadShort tells. -/
def rsV (l : List Int) : List Value := if l.length < 4 then [.int .u32 0, .int .i64 2] else [.int .u32 (Crc.num4 l : Nat), .int .i64 0]
theorem readShort_any {w : World} {v : Value} {l : List Int} (hv : Sl .u8 w v l) (hb : Frm.Byt l) :
    Calls Try.prog 31 #[v] w fun e w' => e = .returned (.tuple (rsV l).toArray) ∧ Below w.heap.size w w' := by
  obtain ⟨sp, cap, rfl, h1, h2, -⟩ := id hv
  refine enter (args := [.slice sp l.length cap]) Try.func31 rfl Try.ntmps31 rfl ?_
  unfold rsV
  by_cases h : l.length < 4
  · rw [if_pos h]
    repeat (first | ((with_reducible refine WL.topT ?_ ?_); omega) | ((with_reducible refine WL.topF ?_ ?_); omega) | ((with_reducible refine WL.top64 ?_ ?_); omega) | refine WC.seq ?_ | refine WC.block ?_ | refine WC.region ?_ | refine WL.nil ?_ | refine WC.skip ?_ | refine WC.exit ?_ | refine WC.ret ?_ | refine WQ.then rfl ?_ | refine WQ.thenExit ?_ | refine WQ.thenRet ?_ | refine WQ.blk ?_ | refine WQ.blkRet ?_ | refine WQ.blkHere rfl ?_ | refine WQ.blkOther rfl ?_ | refine WL.pure rfl rfl rfl rfl ?_ | refine WL.on rfl rfl ?_ | refine WL.off rfl rfl rfl ?_ | refine WC.condTrue rfl ?_ | refine WC.condFalse rfl ?_)
    exact WQ.ret2 rfl rfl rfl ⟨rfl, Below.refl _ _⟩
  rw [if_neg h]
  have hfin := num4_nth (by omega) hb
  have a0 := hb _ (nth_mem' l 0 (by omega))
  have a1 := hb _ (nth_mem' l 1 (by omega))
  have a2 := hb _ (nth_mem' l 2 (by omega))
  have a3 := hb _ (nth_mem' l 3 (by omega))
  have h32 := four32 _ _ _ _ a0 a1 a2 a3
  rw [hfin] at h32
  clear hfin a0 a1 a2 a3
  repeat (first | ((with_reducible refine WL.topT ?_ ?_); omega) | ((with_reducible refine WL.topF ?_ ?_); omega) | ((with_reducible refine WL.top64 ?_ ?_); omega) | refine WC.seq ?_ | refine WC.block ?_ | refine WC.region ?_ | refine WL.nil ?_ | refine WC.skip ?_ | refine WC.exit ?_ | refine WC.ret ?_ | refine WQ.then rfl ?_ | refine WQ.thenExit ?_ | refine WQ.thenRet ?_ | refine WQ.blk ?_ | refine WQ.blkRet ?_ | refine WQ.blkHere rfl ?_ | refine WQ.blkOther rfl ?_ | refine WL.pure rfl rfl rfl rfl ?_ | refine WL.on rfl rfl ?_ | refine WL.off rfl rfl rfl ?_ | refine WC.condTrue rfl ?_ | refine WC.condFalse rfl ?_)
  refine WC.drawn 21 (fun wx => wx.heap = w.heap) fun w2 hd => ?_
  have hb2 : Below w.heap.size w w2 := hd.below _
  have hS : w2.heap = w.heap := hd.heap
  clear hd
  (((first | refine WD.free 0 rfl (by kernel_rfl) rfl rfl (fun _ _ _ _ _ h => h) rfl rfl (.inr hS) ?_ | refine WD.skip 0 rfl (by kernel_rfl) rfl rfl (fun _ _ _ _ _ h => h) rfl (.inr hS) ?_); try (first | ((with_reducible refine WD.topT ?_ ?_); omega) | ((with_reducible refine WD.topF ?_ ?_); omega) | ((with_reducible refine WD.top64 ?_ ?_); omega))); ((first | refine WD.free 5 rfl (by kernel_rfl) rfl rfl (fun _ _ _ _ _ h => h) rfl rfl (.inr hS) ?_ | refine WD.skip 5 rfl (by kernel_rfl) rfl rfl (fun _ _ _ _ _ h => h) rfl (.inr hS) ?_); try (first | ((with_reducible refine WD.topT ?_ ?_); omega) | ((with_reducible refine WD.topF ?_ ?_); omega) | ((with_reducible refine WD.top64 ?_ ?_); omega))); ((first | refine WD.free 11 rfl (by kernel_rfl) rfl rfl (fun _ _ _ _ _ h => h) rfl rfl (.inr hS) ?_ | refine WD.skip 11 rfl (by kernel_rfl) rfl rfl (fun _ _ _ _ _ h => h) rfl (.inr hS) ?_); try (first | ((with_reducible refine WD.topT ?_ ?_); omega) | ((with_reducible refine WD.topF ?_ ?_); omega) | ((with_reducible refine WD.top64 ?_ ?_); omega))); ((first | refine WD.free 17 rfl (by kernel_rfl) rfl rfl (fun _ _ _ _ _ h => h) rfl rfl (.inr hS) ?_ | refine WD.skip 17 rfl (by kernel_rfl) rfl rfl (fun _ _ _ _ _ h => h) rfl (.inr hS) ?_); try (first | ((with_reducible refine WD.topT ?_ ?_); omega) | ((with_reducible refine WD.topF ?_ ?_); omega) | ((with_reducible refine WD.top64 ?_ ?_); omega))))
  refine WD.idxI 1 0 rfl (by kernel_rfl) rfl rfl (fun _ _ _ _ _ h => h) rfl rfl rfl rfl hv rfl rfl (by omega) (.inr hS) fun p0 q0 => ?_
  refine WD.load 2 [3, 4, 10, 16, 21, 22, 23] rfl (by kernel_rfl) rfl rfl (fun _ _ _ _ _ h => h) rfl rfl rfl rfl (fun wx hx => (heap_cell hx _).trans q0) hS ?_
  refine WD.idxI 6 1 rfl (by kernel_rfl) rfl rfl (fun _ _ _ _ _ h => h) rfl rfl rfl rfl hv rfl rfl (by omega) (.inr hS) fun p1 q1 => ?_
  refine WD.load 7 [8, 9, 10, 16, 21, 22, 23] rfl (by kernel_rfl) rfl rfl (fun _ _ _ _ _ h => h) rfl rfl rfl rfl (fun wx hx => (heap_cell hx _).trans q1) hS ?_
  refine WD.idxI 12 2 rfl (by kernel_rfl) rfl rfl (fun _ _ _ _ _ h => h) rfl rfl rfl rfl hv rfl rfl (by omega) (.inr hS) fun p2 q2 => ?_
  refine WD.load 13 [14, 15, 16, 21, 22, 23] rfl (by kernel_rfl) rfl rfl (fun _ _ _ _ _ h => h) rfl rfl rfl rfl (fun wx hx => (heap_cell hx _).trans q2) hS ?_
  refine WD.idxI 18 3 rfl (by kernel_rfl) rfl rfl (fun _ _ _ _ _ h => h) rfl rfl rfl rfl hv rfl rfl (by omega) (.inr hS) fun p3 q3 => ?_
  refine WD.load 19 [20, 21, 22, 23] rfl (by kernel_rfl) rfl rfl (fun _ _ _ _ _ h => h) rfl rfl rfl rfl (fun wx hx => (heap_cell hx _).trans q3) hS ?_
  (((first | refine WD.free 3 rfl (by kernel_rfl) rfl rfl (fun _ _ _ _ _ h => h) rfl rfl (.inr hS) ?_ | refine WD.skip 3 rfl (by kernel_rfl) rfl rfl (fun _ _ _ _ _ h => h) rfl (.inr hS) ?_); try (first | ((with_reducible refine WD.topT ?_ ?_); omega) | ((with_reducible refine WD.topF ?_ ?_); omega) | ((with_reducible refine WD.top64 ?_ ?_); omega))); ((first | refine WD.free 4 rfl (by kernel_rfl) rfl rfl (fun _ _ _ _ _ h => h) rfl rfl (.inr hS) ?_ | refine WD.skip 4 rfl (by kernel_rfl) rfl rfl (fun _ _ _ _ _ h => h) rfl (.inr hS) ?_); try (first | ((with_reducible refine WD.topT ?_ ?_); omega) | ((with_reducible refine WD.topF ?_ ?_); omega) | ((with_reducible refine WD.top64 ?_ ?_); omega))); ((first | refine WD.free 8 rfl (by kernel_rfl) rfl rfl (fun _ _ _ _ _ h => h) rfl rfl (.inr hS) ?_ | refine WD.skip 8 rfl (by kernel_rfl) rfl rfl (fun _ _ _ _ _ h => h) rfl (.inr hS) ?_); try (first | ((with_reducible refine WD.topT ?_ ?_); omega) | ((with_reducible refine WD.topF ?_ ?_); omega) | ((with_reducible refine WD.top64 ?_ ?_); omega))); ((first | refine WD.free 9 rfl (by kernel_rfl) rfl rfl (fun _ _ _ _ _ h => h) rfl rfl (.inr hS) ?_ | refine WD.skip 9 rfl (by kernel_rfl) rfl rfl (fun _ _ _ _ _ h => h) rfl (.inr hS) ?_); try (first | ((with_reducible refine WD.topT ?_ ?_); omega) | ((with_reducible refine WD.topF ?_ ?_); omega) | ((with_reducible refine WD.top64 ?_ ?_); omega))); ((first | refine WD.free 10 rfl (by kernel_rfl) rfl rfl (fun _ _ _ _ _ h => h) rfl rfl (.inr hS) ?_ | refine WD.skip 10 rfl (by kernel_rfl) rfl rfl (fun _ _ _ _ _ h => h) rfl (.inr hS) ?_); try (first | ((with_reducible refine WD.topT ?_ ?_); omega) | ((with_reducible refine WD.topF ?_ ?_); omega) | ((with_reducible refine WD.top64 ?_ ?_); omega))); ((first | refine WD.free 14 rfl (by kernel_rfl) rfl rfl (fun _ _ _ _ _ h => h) rfl rfl (.inr hS) ?_ | refine WD.skip 14 rfl (by kernel_rfl) rfl rfl (fun _ _ _ _ _ h => h) rfl (.inr hS) ?_); try (first | ((with_reducible refine WD.topT ?_ ?_); omega) | ((with_reducible refine WD.topF ?_ ?_); omega) | ((with_reducible refine WD.top64 ?_ ?_); omega))); ((first | refine WD.free 15 rfl (by kernel_rfl) rfl rfl (fun _ _ _ _ _ h => h) rfl rfl (.inr hS) ?_ | refine WD.skip 15 rfl (by kernel_rfl) rfl rfl (fun _ _ _ _ _ h => h) rfl (.inr hS) ?_); try (first | ((with_reducible refine WD.topT ?_ ?_); omega) | ((with_reducible refine WD.topF ?_ ?_); omega) | ((with_reducible refine WD.top64 ?_ ?_); omega))); ((first | refine WD.free 16 rfl (by kernel_rfl) rfl rfl (fun _ _ _ _ _ h => h) rfl rfl (.inr hS) ?_ | refine WD.skip 16 rfl (by kernel_rfl) rfl rfl (fun _ _ _ _ _ h => h) rfl (.inr hS) ?_); try (first | ((with_reducible refine WD.topT ?_ ?_); omega) | ((with_reducible refine WD.topF ?_ ?_); omega) | ((with_reducible refine WD.top64 ?_ ?_); omega))); ((first | refine WD.free 20 rfl (by kernel_rfl) rfl rfl (fun _ _ _ _ _ h => h) rfl rfl (.inr hS) ?_ | refine WD.skip 20 rfl (by kernel_rfl) rfl rfl (fun _ _ _ _ _ h => h) rfl (.inr hS) ?_); try (first | ((with_reducible refine WD.topT ?_ ?_); omega) | ((with_reducible refine WD.topF ?_ ?_); omega) | ((with_reducible refine WD.top64 ?_ ?_); omega))))
  refine WD.one 21 (by kernel_rfl) rfl ?_
  refine WL.pure rfl rfl rfl rfl ?_
  refine WL.as 28 (.int .u32 ((Crc.num4 l : Nat) : Int)) rfl (congrArg (Value.int .u32) h32) ?_
  refine WL.nil (WQ.dk (.inl rfl) ?_)
  (((first | refine WD.free 22 rfl (by kernel_rfl) rfl rfl (fun _ _ _ _ _ h => h) rfl rfl (.inl rfl) ?_ | refine WD.skip 22 rfl (by kernel_rfl) rfl rfl (fun _ _ _ _ _ h => h) rfl (.inl rfl) ?_); try (first | ((with_reducible refine WD.topT ?_ ?_); omega) | ((with_reducible refine WD.topF ?_ ?_); omega) | ((with_reducible refine WD.top64 ?_ ?_); omega))); ((first | refine WD.free 23 rfl (by kernel_rfl) rfl rfl (fun _ _ _ _ _ h => h) rfl rfl (.inl rfl) ?_ | refine WD.skip 23 rfl (by kernel_rfl) rfl rfl (fun _ _ _ _ _ h => h) rfl (.inl rfl) ?_); try (first | ((with_reducible refine WD.topT ?_ ?_); omega) | ((with_reducible refine WD.topF ?_ ?_); omega) | ((with_reducible refine WD.top64 ?_ ?_); omega))))
  refine WD.done (by kernel_rfl) ?_
  repeat (first | ((with_reducible refine WL.topT ?_ ?_); omega) | ((with_reducible refine WL.topF ?_ ?_); omega) | ((with_reducible refine WL.top64 ?_ ?_); omega) | refine WC.seq ?_ | refine WC.block ?_ | refine WC.region ?_ | refine WL.nil ?_ | refine WC.skip ?_ | refine WC.exit ?_ | refine WC.ret ?_ | refine WQ.then rfl ?_ | refine WQ.thenExit ?_ | refine WQ.thenRet ?_ | refine WQ.blk ?_ | refine WQ.blkRet ?_ | refine WQ.blkHere rfl ?_ | refine WQ.blkOther rfl ?_ | refine WL.pure rfl rfl rfl rfl ?_ | refine WL.on rfl rfl ?_ | refine WL.off rfl rfl rfl ?_ | refine WC.condTrue rfl ?_ | refine WC.condFalse rfl ?_)
  exact WQ.ret2 rfl rfl rfl ⟨rfl, hb2⟩
/-- What ReadBig tells. -/
def rbV (l : List Int) : List Value := if l.length < 8 then [.int .u64 0, .int .i64 2] else [.int .u64 ((Crc.num4 l * 4294967296 + Crc.num4 (l.drop 4) : Nat) : Int), .int .i64 0]
theorem readBig_any {w : World} {v : Value} {l : List Int} (hv : Sl .u8 w v l) (hb : Frm.Byt l) :
    Calls Try.prog 30 #[v] w fun e w' => e = .returned (.tuple (rbV l).toArray) ∧ Below w.heap.size w w' := by
  obtain ⟨sp, cap, rfl, h1, h2, -⟩ := id hv
  refine enter (args := [.slice sp l.length cap]) Try.func30 rfl Try.ntmps30 rfl ?_
  unfold rbV
  by_cases h : l.length < 8
  · rw [if_pos h]
    repeat (first | ((with_reducible refine WL.topT ?_ ?_); omega) | ((with_reducible refine WL.topF ?_ ?_); omega) | ((with_reducible refine WL.top64 ?_ ?_); omega) | refine WC.seq ?_ | refine WC.block ?_ | refine WC.region ?_ | refine WL.nil ?_ | refine WC.skip ?_ | refine WC.exit ?_ | refine WC.ret ?_ | refine WQ.then rfl ?_ | refine WQ.thenExit ?_ | refine WQ.thenRet ?_ | refine WQ.blk ?_ | refine WQ.blkRet ?_ | refine WQ.blkHere rfl ?_ | refine WQ.blkOther rfl ?_ | refine WL.pure rfl rfl rfl rfl ?_ | refine WL.on rfl rfl ?_ | refine WL.off rfl rfl rfl ?_ | refine WC.condTrue rfl ?_ | refine WC.condFalse rfl ?_)
    exact WQ.ret2 rfl rfl rfl ⟨rfl, Below.refl _ _⟩
  rw [if_neg h]
  have e1 : rsV l = [.int .u32 (Crc.num4 l : Nat), .int .i64 0] := by unfold rsV; rw [if_neg (by omega)]
  have e2 : rsV (l.drop 4) = [.int .u32 (Crc.num4 (l.drop 4) : Nat), .int .i64 0] := by unfold rsV; rw [if_neg (by rw [List.length_drop]; omega)]
  have hbd : Frm.Byt (l.drop 4) := fun c hc => hb c (List.mem_of_mem_drop hc)
  have h64 := two64 (Crc.num4 l) (Crc.num4 (l.drop 4)) (Crc.num4_lt _ hb) (Crc.num4_lt _ hbd)
  repeat (first | ((with_reducible refine WL.topT ?_ ?_); omega) | ((with_reducible refine WL.topF ?_ ?_); omega) | ((with_reducible refine WL.top64 ?_ ?_); omega) | refine WC.seq ?_ | refine WC.block ?_ | refine WC.region ?_ | refine WL.nil ?_ | refine WC.skip ?_ | refine WC.exit ?_ | refine WC.ret ?_ | refine WQ.then rfl ?_ | refine WQ.thenExit ?_ | refine WQ.thenRet ?_ | refine WQ.blk ?_ | refine WQ.blkRet ?_ | refine WQ.blkHere rfl ?_ | refine WQ.blkOther rfl ?_ | refine WL.pure rfl rfl rfl rfl ?_ | refine WL.on rfl rfl ?_ | refine WL.off rfl rfl rfl ?_ | refine WC.condTrue rfl ?_ | refine WC.condFalse rfl ?_)
  refine WL.call rfl rfl rfl rfl rfl Try.func31 rfl (by kernel_rfl) (readShort_any hv hb) ?_
  rintro _ w1 ⟨rfl, k1⟩
  refine ⟨_, rfl, ?_⟩
  rw [e1]
  repeat (first | ((with_reducible refine WL.topT ?_ ?_); omega) | ((with_reducible refine WL.topF ?_ ?_); omega) | ((with_reducible refine WL.top64 ?_ ?_); omega) | refine WC.seq ?_ | refine WC.block ?_ | refine WC.region ?_ | refine WL.nil ?_ | refine WC.skip ?_ | refine WC.exit ?_ | refine WC.ret ?_ | refine WQ.then rfl ?_ | refine WQ.thenExit ?_ | refine WQ.thenRet ?_ | refine WQ.blk ?_ | refine WQ.blkRet ?_ | refine WQ.blkHere rfl ?_ | refine WQ.blkOther rfl ?_ | refine WL.pure rfl rfl rfl rfl ?_ | refine WL.on rfl rfl ?_ | refine WL.off rfl rfl rfl ?_ | refine WC.condTrue rfl ?_ | refine WC.condFalse rfl ?_)
  refine WL.from rfl rfl rfl rfl rfl rfl rfl (by omega) (by omega) (hv.of_below k1) fun v2 hv2 => ?_
  refine WL.call rfl rfl rfl rfl rfl Try.func31 rfl (by kernel_rfl) (readShort_any hv2 hbd) ?_
  rintro _ w2 ⟨rfl, k2⟩
  refine ⟨_, rfl, ?_⟩
  rw [show (4 : Int).toNat = 4 from rfl, e2]
  repeat (first | ((with_reducible refine WL.topT ?_ ?_); omega) | ((with_reducible refine WL.topF ?_ ?_); omega) | ((with_reducible refine WL.top64 ?_ ?_); omega) | refine WC.seq ?_ | refine WC.block ?_ | refine WC.region ?_ | refine WL.nil ?_ | refine WC.skip ?_ | refine WC.exit ?_ | refine WC.ret ?_ | refine WQ.then rfl ?_ | refine WQ.thenExit ?_ | refine WQ.thenRet ?_ | refine WQ.blk ?_ | refine WQ.blkRet ?_ | refine WQ.blkHere rfl ?_ | refine WQ.blkOther rfl ?_ | refine WL.pure rfl rfl rfl rfl ?_ | refine WL.on rfl rfl ?_ | refine WL.off rfl rfl rfl ?_ | refine WC.condTrue rfl ?_ | refine WC.condFalse rfl ?_)
  exact WQ.ret2 rfl (congrArg (fun z => some (Value.int .u64 z)) h64) rfl ⟨rfl, k1.trans (k2.mono k1.size)⟩
theorem big_any (n : Nat) (w : World) : Calls Try.prog 20 #[.int .u64 (n : Int)] w (Makes w (Crc.be4 (n / 4294967296 % 4294967296) ++ Crc.be4 (n % 4294967296))) := by
  refine enter (args := [.int .u64 (n : Int)]) Try.func20 rfl Try.ntmps20 rfl ?_
  have x1 : IntKind.u32.wrap ((n : Int) / ((2 ^ min 32 IntKind.u64.bits : Nat) : Int)) = ((n / 4294967296 % 4294967296 : Nat) : Int) := by
    rw [show ((2 ^ min 32 IntKind.u64.bits : Nat) : Int) = 4294967296 from rfl, IntKind.wrap_u32]; simp
  have x2 : IntKind.u32.wrap (n : Int) = ((n % 4294967296 : Nat) : Int) := by rw [IntKind.wrap_u32]; simp
  repeat (first | ((with_reducible refine WL.topT ?_ ?_); omega) | ((with_reducible refine WL.topF ?_ ?_); omega) | ((with_reducible refine WL.top64 ?_ ?_); omega) | refine WC.seq ?_ | refine WC.block ?_ | refine WC.region ?_ | refine WL.nil ?_ | refine WC.skip ?_ | refine WC.exit ?_ | refine WC.ret ?_ | refine WQ.then rfl ?_ | refine WQ.thenExit ?_ | refine WQ.thenRet ?_ | refine WQ.blk ?_ | refine WQ.blkRet ?_ | refine WQ.blkHere rfl ?_ | refine WQ.blkOther rfl ?_ | refine WL.pure rfl rfl rfl rfl ?_ | refine WL.on rfl rfl ?_ | refine WL.off rfl rfl rfl ?_ | refine WC.condTrue rfl ?_ | refine WC.condFalse rfl ?_)
  refine WL.as 5 (.int .u32 ((n / 4294967296 % 4294967296 : Nat) : Int)) rfl (congrArg (Value.int .u32) x1) ?_
  refine WL.call rfl rfl rfl rfl rfl Try.func22 rfl (by kernel_rfl) (short_any _ w) ?_
  rintro _ w1 ⟨b1, rfl, h1, k1, o1⟩
  refine ⟨_, rfl, ?_⟩
  repeat (first | ((with_reducible refine WL.topT ?_ ?_); omega) | ((with_reducible refine WL.topF ?_ ?_); omega) | ((with_reducible refine WL.top64 ?_ ?_); omega) | refine WC.seq ?_ | refine WC.block ?_ | refine WC.region ?_ | refine WL.nil ?_ | refine WC.skip ?_ | refine WC.exit ?_ | refine WC.ret ?_ | refine WQ.then rfl ?_ | refine WQ.thenExit ?_ | refine WQ.thenRet ?_ | refine WQ.blk ?_ | refine WQ.blkRet ?_ | refine WQ.blkHere rfl ?_ | refine WQ.blkOther rfl ?_ | refine WL.pure rfl rfl rfl rfl ?_ | refine WL.on rfl rfl ?_ | refine WL.off rfl rfl rfl ?_ | refine WC.condTrue rfl ?_ | refine WC.condFalse rfl ?_)
  refine WL.as 8 (.int .u32 ((n % 4294967296 : Nat) : Int)) rfl (congrArg (Value.int .u32) x2) ?_
  refine WL.call rfl rfl rfl rfl rfl Try.func22 rfl (by kernel_rfl) (short_any _ w1) ?_
  rintro _ w2 ⟨b2, rfl, h2, k2, o2⟩
  refine ⟨_, rfl, ?_⟩
  have h1' := h1.below k2
  refine WL.app rfl rfl rfl rfl rfl h1' rfl h2.sl (by show 4 + 4 ≤ _; omega) fun b3 w3 h3 g3 => ?_
  repeat (first | ((with_reducible refine WL.topT ?_ ?_); omega) | ((with_reducible refine WL.topF ?_ ?_); omega) | ((with_reducible refine WL.top64 ?_ ?_); omega) | refine WC.seq ?_ | refine WC.block ?_ | refine WC.region ?_ | refine WL.nil ?_ | refine WC.skip ?_ | refine WC.exit ?_ | refine WC.ret ?_ | refine WQ.then rfl ?_ | refine WQ.thenExit ?_ | refine WQ.thenRet ?_ | refine WQ.blk ?_ | refine WQ.blkRet ?_ | refine WQ.blkHere rfl ?_ | refine WQ.blkOther rfl ?_ | refine WL.pure rfl rfl rfl rfl ?_ | refine WL.on rfl rfl ?_ | refine WL.off rfl rfl rfl ?_ | refine WC.condTrue rfl ?_ | refine WC.condFalse rfl ?_)
  have hw2 : Below w.heap.size w w2 := k1.trans (k2.mono k1.size)
  have o1' : ∀ g, b1.ownBlock = some g → w.heap.size ≤ g := o1
  exact WQ.ret1 rfl rfl ⟨b3, rfl, h3, hw2.trans (g3.old hw2.size o1'), fun g hg => g3.own hw2.size o1' g hg⟩
theorem head_any (n : Nat) (hn : n < 4294967296) (w : World) : Calls Try.prog 21 #[.int .u32 (n : Int)] w fun e w' => e = .returned (.int .u64 ((n * 4294967296 + Crc.crcN (Crc.be4 n) : Nat) : Int)) ∧ Below w.heap.size w w' := by
  refine enter (args := [.int .u32 (n : Int)]) Try.func21 rfl Try.ntmps21 rfl ?_
  have h64 := two64 n (Crc.crcN (Crc.be4 n)) hn (Crc.crcN_lt _)
  repeat (first | ((with_reducible refine WL.topT ?_ ?_); omega) | ((with_reducible refine WL.topF ?_ ?_); omega) | ((with_reducible refine WL.top64 ?_ ?_); omega) | refine WC.seq ?_ | refine WC.block ?_ | refine WC.region ?_ | refine WL.nil ?_ | refine WC.skip ?_ | refine WC.exit ?_ | refine WC.ret ?_ | refine WQ.then rfl ?_ | refine WQ.thenExit ?_ | refine WQ.thenRet ?_ | refine WQ.blk ?_ | refine WQ.blkRet ?_ | refine WQ.blkHere rfl ?_ | refine WQ.blkOther rfl ?_ | refine WL.pure rfl rfl rfl rfl ?_ | refine WL.on rfl rfl ?_ | refine WL.off rfl rfl rfl ?_ | refine WC.condTrue rfl ?_ | refine WC.condFalse rfl ?_)
  refine WL.call rfl rfl rfl rfl rfl Try.func22 rfl (by kernel_rfl) (short_any _ w) ?_
  rintro _ w1 ⟨b1, rfl, h1, k1, o1⟩
  refine ⟨_, rfl, ?_⟩
  refine WL.call rfl rfl rfl rfl rfl Try.func23 rfl (by kernel_rfl) (sum_any h1.sl (Crc.be4_byt n) (by show 4 ≤ _; omega)) ?_
  rintro _ w2 ⟨rfl, k2⟩
  refine ⟨_, rfl, ?_⟩
  repeat (first | ((with_reducible refine WL.topT ?_ ?_); omega) | ((with_reducible refine WL.topF ?_ ?_); omega) | ((with_reducible refine WL.top64 ?_ ?_); omega) | refine WC.seq ?_ | refine WC.block ?_ | refine WC.region ?_ | refine WL.nil ?_ | refine WC.skip ?_ | refine WC.exit ?_ | refine WC.ret ?_ | refine WQ.then rfl ?_ | refine WQ.thenExit ?_ | refine WQ.thenRet ?_ | refine WQ.blk ?_ | refine WQ.blkRet ?_ | refine WQ.blkHere rfl ?_ | refine WQ.blkOther rfl ?_ | refine WL.pure rfl rfl rfl rfl ?_ | refine WL.on rfl rfl ?_ | refine WL.off rfl rfl rfl ?_ | refine WC.condTrue rfl ?_ | refine WC.condFalse rfl ?_)
  exact WQ.ret1 rfl (congrArg (fun z => some (Value.int .u64 z)) h64) ⟨rfl, k1.trans (k2.mono k1.size)⟩
end K
end Go.Proofs.Ytfkjiehkfimmhaa
