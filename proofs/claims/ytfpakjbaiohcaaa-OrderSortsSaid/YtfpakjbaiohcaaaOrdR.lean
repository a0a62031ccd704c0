/- Keys (chapter 8), the document's answer: Abs, Dec, Short, Big, texts. -/
import Derived.Test.YtfpakjbaiohcaaaOrdC
import Derived.Test.YtfpakjbaiohcaaaOrdNp
import Derived.Laws.Bits64
import Derived.Laws.BitsLemmas
namespace Go.Proofs.Ytfpakjbaiohcaaa
open Go.RowKit
namespace K

theorem ret_u64 {x y : Int} (h : x = y) : Ending.returned (.int .u64 x) = .returned (.int .u64 y) := by rw [h]
theorem abs_any (x : Int) (w : World) (h0 : -9223372036854775808 ≤ x) (h1 : x ≤ 9223372036854775807) :
    Calls Try.prog 37 #[.int .i64 x] w fun e w' => e = .returned (.int .u64 (x.natAbs : Nat)) ∧ w = w' := by
  refine enter (args := [.int .i64 x]) Try.func37 rfl Try.ntmps37 rfl ?_
  by_cases hn : x < 0
  · repeat (first | ((with_reducible refine WL.topT ?_ ?_); omega) | ((with_reducible refine WL.topF ?_ ?_); omega) | ((with_reducible refine WL.top64 ?_ ?_); omega) | refine WC.seq ?_ | refine WC.block ?_ | refine WC.region ?_ | refine WL.nil ?_ | refine WC.skip ?_ | refine WC.exit ?_ | refine WC.ret ?_ | refine WQ.then rfl ?_ | refine WQ.thenExit ?_ | refine WQ.thenRet ?_ | refine WQ.blk ?_ | refine WQ.blkRet ?_ | refine WQ.blkHere rfl ?_ | refine WQ.blkOther rfl ?_ | refine WL.pure rfl rfl rfl rfl ?_ | refine WL.on rfl rfl ?_ | refine WL.off rfl rfl rfl ?_ | refine WC.condTrue rfl ?_ | refine WC.condFalse rfl ?_)
    refine WQ.ret1 rfl rfl ⟨ret_u64 ?_, rfl⟩
    rw [IntKind.wrap_u64, IntKind.wrap_u64]; omega
  · repeat (first | ((with_reducible refine WL.topT ?_ ?_); omega) | ((with_reducible refine WL.topF ?_ ?_); omega) | ((with_reducible refine WL.top64 ?_ ?_); omega) | refine WC.seq ?_ | refine WC.block ?_ | refine WC.region ?_ | refine WL.nil ?_ | refine WC.skip ?_ | refine WC.exit ?_ | refine WC.ret ?_ | refine WQ.then rfl ?_ | refine WQ.thenExit ?_ | refine WQ.thenRet ?_ | refine WQ.blk ?_ | refine WQ.blkRet ?_ | refine WQ.blkHere rfl ?_ | refine WQ.blkOther rfl ?_ | refine WL.pure rfl rfl rfl rfl ?_ | refine WL.on rfl rfl ?_ | refine WL.off rfl rfl rfl ?_ | refine WC.condTrue rfl ?_ | refine WC.condFalse rfl ?_)
    refine WQ.ret1 rfl rfl ⟨ret_u64 ?_, rfl⟩
    rw [IntKind.wrap_u64]; omega

/-- The digits, the last one first; of nought too. -/
def dz : Nat → Nat → List Nat
  | 0, _ => []
  | f + 1, c => c % 10 :: if c / 10 = 0 then [] else dz f (c / 10)
theorem dz_eq : ∀ (f c : Nat), 0 < c → c < 10 ^ f → dz f c = digsF f c
  | 0, c, h, h1 => by simp at h1; omega
  | f + 1, c, h, h1 => by
    unfold dz digsF
    rw [if_neg (show ¬ c = 0 by omega)]
    by_cases h0 : c / 10 = 0
    · rw [if_pos h0, h0]; cases f <;> simp [digsF]
    · rw [if_neg h0, dz_eq f (c / 10) (by omega) (by rw [Nat.pow_succ] at h1; omega)]
def ch (d : Nat) : UInt8 := UInt8.ofNat (48 + d)
def decS (u : Nat) : List UInt8 := ((dz 20 u).reverse).map ch
theorem dz_len : ∀ (f u : Nat), (dz f u).length ≤ f
  | 0, _ => by simp [dz]
  | f + 1, u => by
    unfold dz
    by_cases h : u / 10 = 0
    · simp [h]
    · simp [h, dz_len f (u / 10)]
theorem dec_any (u : Nat) (w : World) (hu : u < 18446744073709551616) :
    Calls Try.prog 58 #[.int .u64 u] w fun e w' => (∃ s, e = .returned (.string s) ∧ s.toList = decS u) ∧ Below w.heap.size w w' := by
  refine enter (args := [.int .u64 u]) Try.func58 rfl Try.ntmps58 rfl ?_
  repeat (first | ((with_reducible refine WL.topT ?_ ?_); omega) | ((with_reducible refine WL.topF ?_ ?_); omega) | ((with_reducible refine WL.top64 ?_ ?_); omega) | refine WC.seq ?_ | refine WC.block ?_ | refine WC.region ?_ | refine WL.nil ?_ | refine WC.skip ?_ | refine WC.exit ?_ | refine WC.ret ?_ | refine WQ.then rfl ?_ | refine WQ.thenExit ?_ | refine WQ.thenRet ?_ | refine WQ.blk ?_ | refine WQ.blkRet ?_ | refine WQ.blkHere rfl ?_ | refine WQ.blkOther rfl ?_ | refine WL.pure rfl rfl rfl rfl ?_ | refine WL.on rfl rfl ?_ | refine WL.off rfl rfl rfl ?_ | refine WC.condTrue rfl ?_ | refine WC.condFalse rfl ?_)
  refine WC.loop (fun i : Nat × Nat × List Nat × ByteArray => [(0, .int .u64 i.2.1), (3, .string i.2.2.2)])
    (fun i w' => (dz 20 u = i.2.2.1 ++ dz i.1 i.2.1 ∧ i.1 + i.2.2.1.length = 20 ∧ i.2.1 < 10 ^ i.1 ∧ i.2.1 ≤ u ∧ (i.2.2.1 ≠ [] → 0 < i.2.1)) ∧ i.2.2.2.toList = (i.2.2.1.reverse).map ch ∧ Below w.heap.size w w')
    (fun i => i.1) (20, u, [], ⟨#[]⟩) ⟨rfl, rfl, trivial⟩ ⟨⟨rfl, rfl, by show u < 10 ^ 20; omega, Nat.le_refl _, fun h => (h rfl).elim⟩, (by show (ByteArray.mk #[]).toList = []; decide +kernel), Below.refl _ _⟩ ?_
  rintro ⟨f, c, A, s⟩ wr ⟨⟨hA, hf, hc, hcu, hpos⟩, hs, hbel⟩
  simp only at hA hf hc hcu hpos hs hbel ⊢
  have hsz : s.size = A.length := by have := congrArg List.length hs; rw [ByteArray.toList_eq, Array.length_toList] at this; simpa using this
  obtain ⟨f, rfl⟩ : ∃ f', f = f' + 1 := ⟨f - 1, by
    cases f with
    | zero =>
      have hc0 : c = 0 := by simp at hc; omega
      have : A ≠ [] := fun e => by rw [e] at hf; simp at hf
      have := hpos this
      omega
    | succ f => rfl⟩
  have hw : IntKind.u8.wrap (IntKind.u64.wrap (48 + (c : Int).tmod 10)) = ((48 + c % 10 : Nat) : Int) := by
    rw [IntKind.wrap_u8, IntKind.wrap_u64, Int.tmod_eq_emod_of_nonneg (by omega)]; omega
  have hq : IntKind.u64.wrap ((c : Int).tdiv 10) = ((c / 10 : Nat) : Int) := by
    rw [IntKind.wrap_u64, Int.tdiv_eq_ediv_of_nonneg (by omega)]; omega
  repeat (first | ((with_reducible refine WL.topT ?_ ?_); omega) | ((with_reducible refine WL.topF ?_ ?_); omega) | ((with_reducible refine WL.top64 ?_ ?_); omega) | refine WC.seq ?_ | refine WC.block ?_ | refine WC.region ?_ | refine WL.nil ?_ | refine WC.skip ?_ | refine WC.exit ?_ | refine WC.ret ?_ | refine WQ.then rfl ?_ | refine WQ.thenExit ?_ | refine WQ.thenRet ?_ | refine WQ.blk ?_ | refine WQ.blkRet ?_ | refine WQ.blkHere rfl ?_ | refine WQ.blkOther rfl ?_ | refine WL.pure rfl rfl rfl rfl ?_ | refine WL.on rfl rfl ?_ | refine WL.off rfl rfl rfl ?_ | refine WC.condTrue rfl ?_ | refine WC.condFalse rfl ?_)
  refine WL.lit rfl rfl rfl rfl rfl rfl rfl fun b w1 hb hb1 _ => ?_
  rw [hw] at hb
  refine WL.strOf rfl rfl rfl rfl rfl rfl rfl rfl hb.sl ?_
  have hch : (strOfNums [((48 + c % 10 : Nat) : Int)]).toList = [ch (c % 10)] := by
    rw [ByteArray.toList_eq, strOfNums_data]
    rfl
  have hcz : (strOfNums [((48 + c % 10 : Nat) : Int)]).size = 1 := by rw [strOfNums_size]; rfl
  rw [hw]
  generalize strOfNums [((48 + c % 10 : Nat) : Int)] = x at hch hcz
  repeat (first | ((with_reducible refine WL.topT ?_ ?_); omega) | ((with_reducible refine WL.topF ?_ ?_); omega) | ((with_reducible refine WL.top64 ?_ ?_); omega) | refine WC.seq ?_ | refine WC.block ?_ | refine WC.region ?_ | refine WL.nil ?_ | refine WC.skip ?_ | refine WC.exit ?_ | refine WC.ret ?_ | refine WQ.then rfl ?_ | refine WQ.thenExit ?_ | refine WQ.thenRet ?_ | refine WQ.blk ?_ | refine WQ.blkRet ?_ | refine WQ.blkHere rfl ?_ | refine WQ.blkOther rfl ?_ | refine WL.pure rfl rfl rfl rfl ?_ | refine WL.on rfl rfl ?_ | refine WL.off rfl rfl rfl ?_ | refine WC.condTrue rfl ?_ | refine WC.condFalse rfl ?_)
  refine WL.concat rfl rfl rfl rfl rfl rfl (by omega) ?_
  have hxs : (x ++ s).toList = ((A ++ [c % 10]).reverse).map ch := by
    rw [ByteArray.toList_eq, ByteArray.data_append, Array.toList_append, ← ByteArray.toList_eq, ← ByteArray.toList_eq, hch, hs]
    simp
  generalize x ++ s = y at hxs
  repeat (first | ((with_reducible refine WL.topT ?_ ?_); omega) | ((with_reducible refine WL.topF ?_ ?_); omega) | ((with_reducible refine WL.top64 ?_ ?_); omega) | refine WC.seq ?_ | refine WC.block ?_ | refine WC.region ?_ | refine WL.nil ?_ | refine WC.skip ?_ | refine WC.exit ?_ | refine WC.ret ?_ | refine WQ.then rfl ?_ | refine WQ.thenExit ?_ | refine WQ.thenRet ?_ | refine WQ.blk ?_ | refine WQ.blkRet ?_ | refine WQ.blkHere rfl ?_ | refine WQ.blkOther rfl ?_ | refine WL.pure rfl rfl rfl rfl ?_ | refine WL.on rfl rfl ?_ | refine WL.off rfl rfl rfl ?_ | refine WC.condTrue rfl ?_ | refine WC.condFalse rfl ?_)
  have hbel1 : Below w.heap.size w w1 := hbel.trans (hb1.mono hbel.size)
  by_cases h0 : c / 10 = 0
  · refine WC.as 15 (.bool true) rfl (congrArg Value.bool (decide_eq_true (by rw [hq, h0]; rfl))) ?_
    repeat (first | ((with_reducible refine WL.topT ?_ ?_); omega) | ((with_reducible refine WL.topF ?_ ?_); omega) | ((with_reducible refine WL.top64 ?_ ?_); omega) | refine WC.seq ?_ | refine WC.block ?_ | refine WC.region ?_ | refine WL.nil ?_ | refine WC.skip ?_ | refine WC.exit ?_ | refine WC.ret ?_ | refine WQ.then rfl ?_ | refine WQ.thenExit ?_ | refine WQ.thenRet ?_ | refine WQ.blk ?_ | refine WQ.blkRet ?_ | refine WQ.blkHere rfl ?_ | refine WQ.blkOther rfl ?_ | refine WL.pure rfl rfl rfl rfl ?_ | refine WL.on rfl rfl ?_ | refine WL.off rfl rfl rfl ?_ | refine WC.condTrue rfl ?_ | refine WC.condFalse rfl ?_)
    refine WQ.ret1 rfl rfl ⟨⟨y, rfl, ?_⟩, hbel1⟩
    rw [hxs]
    unfold decS
    rw [hA]
    unfold dz
    rw [if_pos h0]
  · refine WC.as 15 (.bool false) rfl (congrArg Value.bool (decide_eq_false (by rw [hq]; omega))) ?_
    repeat (first | ((with_reducible refine WL.topT ?_ ?_); omega) | ((with_reducible refine WL.topF ?_ ?_); omega) | ((with_reducible refine WL.top64 ?_ ?_); omega) | refine WC.seq ?_ | refine WC.block ?_ | refine WC.region ?_ | refine WL.nil ?_ | refine WC.skip ?_ | refine WC.exit ?_ | refine WC.ret ?_ | refine WQ.then rfl ?_ | refine WQ.thenExit ?_ | refine WQ.thenRet ?_ | refine WQ.blk ?_ | refine WQ.blkRet ?_ | refine WQ.blkHere rfl ?_ | refine WQ.blkOther rfl ?_ | refine WL.pure rfl rfl rfl rfl ?_ | refine WL.on rfl rfl ?_ | refine WL.off rfl rfl rfl ?_ | refine WC.condTrue rfl ?_ | refine WC.condFalse rfl ?_)
    refine WQ.again (f, c / 10, A ++ [c % 10], y) ⟨congrArg (fun z => some (Value.int .u64 z)) hq, rfl, trivial⟩ ⟨⟨?_, by simp; omega, by rw [Nat.pow_succ] at hc; show c / 10 < 10 ^ f; omega, by show c / 10 ≤ u; omega, fun _ => by show 0 < c / 10; omega⟩, hxs, hbel1⟩ (by show f < f + 1; omega)
    show dz 20 u = (A ++ [c % 10]) ++ dz f (c / 10)
    rw [hA]
    conv => lhs; unfold dz
    rw [if_neg h0]
    simp

theorem rshort_any (v : Int) (w : World) :
    Calls Try.prog 59 #[.int .u32 v] w fun e w' => ∃ b, e = .returned b ∧ Bu w' b (shortI v) ∧ Below w.heap.size w w' ∧ ∀ g, b.ownBlock = some g → w.heap.size ≤ g := by
  refine enter (args := [.int .u32 v]) Try.func59 rfl Try.ntmps59 rfl ?_
  repeat (first | ((with_reducible refine WL.topT ?_ ?_); omega) | ((with_reducible refine WL.topF ?_ ?_); omega) | ((with_reducible refine WL.top64 ?_ ?_); omega) | refine WC.seq ?_ | refine WC.block ?_ | refine WC.region ?_ | refine WL.nil ?_ | refine WC.skip ?_ | refine WC.exit ?_ | refine WC.ret ?_ | refine WQ.then rfl ?_ | refine WQ.thenExit ?_ | refine WQ.thenRet ?_ | refine WQ.blk ?_ | refine WQ.blkRet ?_ | refine WQ.blkHere rfl ?_ | refine WQ.blkOther rfl ?_ | refine WL.pure rfl rfl rfl rfl ?_ | refine WL.on rfl rfl ?_ | refine WL.off rfl rfl rfl ?_ | refine WC.condTrue rfl ?_ | refine WC.condFalse rfl ?_)
  refine WL.lit rfl rfl rfl rfl rfl rfl rfl fun b w' hb h1 h2 => ?_
  repeat (first | ((with_reducible refine WL.topT ?_ ?_); omega) | ((with_reducible refine WL.topF ?_ ?_); omega) | ((with_reducible refine WL.top64 ?_ ?_); omega) | refine WC.seq ?_ | refine WC.block ?_ | refine WC.region ?_ | refine WL.nil ?_ | refine WC.skip ?_ | refine WC.exit ?_ | refine WC.ret ?_ | refine WQ.then rfl ?_ | refine WQ.thenExit ?_ | refine WQ.thenRet ?_ | refine WQ.blk ?_ | refine WQ.blkRet ?_ | refine WQ.blkHere rfl ?_ | refine WQ.blkOther rfl ?_ | refine WL.pure rfl rfl rfl rfl ?_ | refine WL.on rfl rfl ?_ | refine WL.off rfl rfl rfl ?_ | refine WC.condTrue rfl ?_ | refine WC.condFalse rfl ?_)
  refine WQ.ret1 rfl rfl ⟨b, rfl, ?_, h1, h2⟩
  simp only [IntKind.wrap_u8] at hb
  exact hb
theorem rbig_any (v : Int) (w : World) (h0 : 0 ≤ v) (hv : v < 18446744073709551616) :
    Calls Try.prog 51 #[.int .u64 v] w fun e w' => ∃ b, e = .returned b ∧ Bu w' b (bigI v) ∧ Below w.heap.size w w' ∧ ∀ g, b.ownBlock = some g → w.heap.size ≤ g := by
  refine enter (args := [.int .u64 v]) Try.func51 rfl Try.ntmps51 rfl ?_
  have e1 : IntKind.u32.wrap (v / ((2 ^ min 32 IntKind.u64.bits : Nat) : Int)) = v / 4294967296 := by
    rw [show ((2 ^ min 32 IntKind.u64.bits : Nat) : Int) = 4294967296 from rfl, IntKind.wrap_u32]; omega
  have e2 : IntKind.u32.wrap v = v % 4294967296 := IntKind.wrap_u32 v
  repeat (first | ((with_reducible refine WL.topT ?_ ?_); omega) | ((with_reducible refine WL.topF ?_ ?_); omega) | ((with_reducible refine WL.top64 ?_ ?_); omega) | refine WC.seq ?_ | refine WC.block ?_ | refine WC.region ?_ | refine WL.nil ?_ | refine WC.skip ?_ | refine WC.exit ?_ | refine WC.ret ?_ | refine WQ.then rfl ?_ | refine WQ.thenExit ?_ | refine WQ.thenRet ?_ | refine WQ.blk ?_ | refine WQ.blkRet ?_ | refine WQ.blkHere rfl ?_ | refine WQ.blkOther rfl ?_ | refine WL.pure rfl rfl rfl rfl ?_ | refine WL.on rfl rfl ?_ | refine WL.off rfl rfl rfl ?_ | refine WC.condTrue rfl ?_ | refine WC.condFalse rfl ?_)
  refine WL.call rfl rfl rfl rfl rfl Try.func59 rfl (by kernel_rfl) (by rw [e1]; exact rshort_any _ w) ?_
  rintro e w1 ⟨b1, rfl, hb1, k1, g1⟩
  refine ⟨b1, rfl, ?_⟩
  repeat (first | ((with_reducible refine WL.topT ?_ ?_); omega) | ((with_reducible refine WL.topF ?_ ?_); omega) | ((with_reducible refine WL.top64 ?_ ?_); omega) | refine WC.seq ?_ | refine WC.block ?_ | refine WC.region ?_ | refine WL.nil ?_ | refine WC.skip ?_ | refine WC.exit ?_ | refine WC.ret ?_ | refine WQ.then rfl ?_ | refine WQ.thenExit ?_ | refine WQ.thenRet ?_ | refine WQ.blk ?_ | refine WQ.blkRet ?_ | refine WQ.blkHere rfl ?_ | refine WQ.blkOther rfl ?_ | refine WL.pure rfl rfl rfl rfl ?_ | refine WL.on rfl rfl ?_ | refine WL.off rfl rfl rfl ?_ | refine WC.condTrue rfl ?_ | refine WC.condFalse rfl ?_)
  refine WL.call rfl rfl rfl rfl rfl Try.func59 rfl (by kernel_rfl) (by rw [e2]; exact rshort_any _ w1) ?_
  rintro e w2 ⟨b2, rfl, hb2, k2, g2⟩
  refine ⟨b2, rfl, ?_⟩
  refine WL.app rfl rfl rfl rfl rfl (hb1.below k2) rfl hb2.sl (by simp [shortI]) fun b w3 hb gr => ?_
  repeat (first | ((with_reducible refine WL.topT ?_ ?_); omega) | ((with_reducible refine WL.topF ?_ ?_); omega) | ((with_reducible refine WL.top64 ?_ ?_); omega) | refine WC.seq ?_ | refine WC.block ?_ | refine WC.region ?_ | refine WL.nil ?_ | refine WC.skip ?_ | refine WC.exit ?_ | refine WC.ret ?_ | refine WQ.then rfl ?_ | refine WQ.thenExit ?_ | refine WQ.thenRet ?_ | refine WQ.blk ?_ | refine WQ.blkRet ?_ | refine WQ.blkHere rfl ?_ | refine WQ.blkOther rfl ?_ | refine WL.pure rfl rfl rfl rfl ?_ | refine WL.on rfl rfl ?_ | refine WL.off rfl rfl rfl ?_ | refine WC.condTrue rfl ?_ | refine WC.condFalse rfl ?_)
  refine WQ.ret1 rfl rfl ⟨b, rfl, hb, ?_, ?_⟩
  · exact (k1.trans (k2.mono k1.size)).trans (gr.old (Nat.le_trans k1.size k2.size) g1)
  · exact gr.own (Nat.le_trans k1.size k2.size) g1

theorem rtexts_any {w : World} {v : Value} {l : List Int} (s : ByteArray) (h : Bu w v l) (hm : l.length + (2 * s.size + 2) ≤ 140737488355328) :
    Calls Try.prog 52 #[v, .string s] w fun e w' => ∃ v', e = .returned v' ∧ Bu w' v' (l ++ textK s.toList) ∧ Grow w v w' v' := by
  have hsl : s.toList.length = s.size := by rw [ByteArray.toList_eq]; rfl
  refine enter (args := [v, .string s]) Try.func52 rfl Try.ntmps52 rfl ?_
  repeat (first | ((with_reducible refine WL.topT ?_ ?_); omega) | ((with_reducible refine WL.topF ?_ ?_); omega) | ((with_reducible refine WL.top64 ?_ ?_); omega) | refine WC.seq ?_ | refine WC.block ?_ | refine WC.region ?_ | refine WL.nil ?_ | refine WC.skip ?_ | refine WC.exit ?_ | refine WC.ret ?_ | refine WQ.then rfl ?_ | refine WQ.thenExit ?_ | refine WQ.thenRet ?_ | refine WQ.blk ?_ | refine WQ.blkRet ?_ | refine WQ.blkHere rfl ?_ | refine WQ.blkOther rfl ?_ | refine WL.pure rfl rfl rfl rfl ?_ | refine WL.on rfl rfl ?_ | refine WL.off rfl rfl rfl ?_ | refine WC.condTrue rfl ?_ | refine WC.condFalse rfl ?_)
  refine WC.loop (fun i : Nat × Value => [(0, i.2), (1, .string s), (5, .int .i64 i.1)]) (fun i wr => i.1 ≤ s.size ∧ Bu wr i.2 (l ++ textP (s.toList.take i.1)) ∧ Grow w v wr i.2) (fun i => s.size - i.1) (0, v)
    ⟨rfl, rfl, rfl, trivial⟩ ⟨Nat.zero_le _, by simpa [textP] using h, Grow.refl w v⟩ ?_
  rintro ⟨k, vv⟩ wr ⟨hk, hbr, hgr⟩
  simp only at hk hbr hgr ⊢
  by_cases hks : k < s.size
  · have hpl : (textP (s.toList.take k)).length ≤ 2 * k := Nat.le_trans (textP_le _) (by rw [List.length_take]; omega)
    have htk : s.toList.take (k + 1) = s.toList.take k ++ [s.toList.getD k 0] := by
      rw [List.take_add_one]
      simp [hsl, hks]
    have htp := textP_snoc (s.toList.take k) (s.toList.getD k 0)
    rw [← htk] at htp
    repeat (first | ((with_reducible refine WL.topT ?_ ?_); omega) | ((with_reducible refine WL.topF ?_ ?_); omega) | ((with_reducible refine WL.top64 ?_ ?_); omega) | refine WC.seq ?_ | refine WC.block ?_ | refine WC.region ?_ | refine WL.nil ?_ | refine WC.skip ?_ | refine WC.exit ?_ | refine WC.ret ?_ | refine WQ.then rfl ?_ | refine WQ.thenExit ?_ | refine WQ.thenRet ?_ | refine WQ.blk ?_ | refine WQ.blkRet ?_ | refine WQ.blkHere rfl ?_ | refine WQ.blkOther rfl ?_ | refine WL.pure rfl rfl rfl rfl ?_ | refine WL.on rfl rfl ?_ | refine WL.off rfl rfl rfl ?_ | refine WC.condTrue rfl ?_ | refine WC.condFalse rfl ?_)
    refine WL.byte k rfl rfl rfl rfl rfl rfl rfl rfl hks ?_
    refine WL.push rfl rfl rfl rfl rfl rfl rfl rfl rfl rfl rfl (fun _ => rfl) rfl hbr (by simp; omega) fun v1 w2 hb2 hg2 => ?_
    repeat (first | ((with_reducible refine WL.topT ?_ ?_); omega) | ((with_reducible refine WL.topF ?_ ?_); omega) | ((with_reducible refine WL.top64 ?_ ?_); omega) | refine WC.seq ?_ | refine WC.block ?_ | refine WC.region ?_ | refine WL.nil ?_ | refine WC.skip ?_ | refine WC.exit ?_ | refine WC.ret ?_ | refine WQ.then rfl ?_ | refine WQ.thenExit ?_ | refine WQ.thenRet ?_ | refine WQ.blk ?_ | refine WQ.blkRet ?_ | refine WQ.blkHere rfl ?_ | refine WQ.blkOther rfl ?_ | refine WL.pure rfl rfl rfl rfl ?_ | refine WL.on rfl rfl ?_ | refine WL.off rfl rfl rfl ?_ | refine WC.condTrue rfl ?_ | refine WC.condFalse rfl ?_)
    refine WL.byte k rfl rfl rfl rfl rfl rfl rfl rfl hks ?_
    generalize s.toList.getD k 0 = c at htp hb2
    repeat (first | ((with_reducible refine WL.topT ?_ ?_); omega) | ((with_reducible refine WL.topF ?_ ?_); omega) | ((with_reducible refine WL.top64 ?_ ?_); omega) | refine WC.seq ?_ | refine WC.block ?_ | refine WC.region ?_ | refine WL.nil ?_ | refine WC.skip ?_ | refine WC.exit ?_ | refine WC.ret ?_ | refine WQ.then rfl ?_ | refine WQ.thenExit ?_ | refine WQ.thenRet ?_ | refine WQ.blk ?_ | refine WQ.blkRet ?_ | refine WQ.blkHere rfl ?_ | refine WQ.blkOther rfl ?_ | refine WL.pure rfl rfl rfl rfl ?_ | refine WL.on rfl rfl ?_ | refine WL.off rfl rfl rfl ?_ | refine WC.condTrue rfl ?_ | refine WC.condFalse rfl ?_)
    refine WC.condS rfl (fun hc => ?_) (fun hc => ?_)
    · have hc0 : c = 0 := UInt8.toNat.inj (by simpa using Int.ofNat.inj hc)
      rw [if_pos hc0] at htp
      subst hc0
      repeat (first | ((with_reducible refine WL.topT ?_ ?_); omega) | ((with_reducible refine WL.topF ?_ ?_); omega) | ((with_reducible refine WL.top64 ?_ ?_); omega) | refine WC.seq ?_ | refine WC.block ?_ | refine WC.region ?_ | refine WL.nil ?_ | refine WC.skip ?_ | refine WC.exit ?_ | refine WC.ret ?_ | refine WQ.then rfl ?_ | refine WQ.thenExit ?_ | refine WQ.thenRet ?_ | refine WQ.blk ?_ | refine WQ.blkRet ?_ | refine WQ.blkHere rfl ?_ | refine WQ.blkOther rfl ?_ | refine WL.pure rfl rfl rfl rfl ?_ | refine WL.on rfl rfl ?_ | refine WL.off rfl rfl rfl ?_ | refine WC.condTrue rfl ?_ | refine WC.condFalse rfl ?_)
      refine WL.push rfl rfl rfl rfl rfl rfl rfl rfl rfl rfl rfl (fun _ => rfl) rfl hb2 (by simp; omega) fun v2 w3 hb3 hg3 => ?_
      repeat (first | ((with_reducible refine WL.topT ?_ ?_); omega) | ((with_reducible refine WL.topF ?_ ?_); omega) | ((with_reducible refine WL.top64 ?_ ?_); omega) | refine WC.seq ?_ | refine WC.block ?_ | refine WC.region ?_ | refine WL.nil ?_ | refine WC.skip ?_ | refine WC.exit ?_ | refine WC.ret ?_ | refine WQ.then rfl ?_ | refine WQ.thenExit ?_ | refine WQ.thenRet ?_ | refine WQ.blk ?_ | refine WQ.blkRet ?_ | refine WQ.blkHere rfl ?_ | refine WQ.blkOther rfl ?_ | refine WL.pure rfl rfl rfl rfl ?_ | refine WL.on rfl rfl ?_ | refine WL.off rfl rfl rfl ?_ | refine WC.condTrue rfl ?_ | refine WC.condFalse rfl ?_)
      refine WQ.again (k + 1, v2) ⟨rfl, rfl, rfl, trivial⟩ ⟨hks, ?_, (hgr.trans hg2).trans hg3⟩ (by show s.size - (k + 1) < s.size - k; omega)
      show Bu w3 v2 (l ++ textP (s.toList.take (k + 1)))
      rw [htp]
      simpa using hb3
    · rw [if_neg (fun e => hc (by rw [e]; rfl))] at htp
      repeat (first | ((with_reducible refine WL.topT ?_ ?_); omega) | ((with_reducible refine WL.topF ?_ ?_); omega) | ((with_reducible refine WL.top64 ?_ ?_); omega) | refine WC.seq ?_ | refine WC.block ?_ | refine WC.region ?_ | refine WL.nil ?_ | refine WC.skip ?_ | refine WC.exit ?_ | refine WC.ret ?_ | refine WQ.then rfl ?_ | refine WQ.thenExit ?_ | refine WQ.thenRet ?_ | refine WQ.blk ?_ | refine WQ.blkRet ?_ | refine WQ.blkHere rfl ?_ | refine WQ.blkOther rfl ?_ | refine WL.pure rfl rfl rfl rfl ?_ | refine WL.on rfl rfl ?_ | refine WL.off rfl rfl rfl ?_ | refine WC.condTrue rfl ?_ | refine WC.condFalse rfl ?_)
      refine WQ.again (k + 1, v1) ⟨rfl, rfl, rfl, trivial⟩ ⟨hks, ?_, hgr.trans hg2⟩ (by show s.size - (k + 1) < s.size - k; omega)
      show Bu w2 v1 (l ++ textP (s.toList.take (k + 1)))
      rw [htp, ← List.append_assoc]
      exact hb2
  · obtain rfl : k = s.size := by omega
    have hpl : (textP (s.toList.take s.size)).length ≤ 2 * s.size := Nat.le_trans (textP_le _) (by rw [List.length_take]; omega)
    repeat (first | ((with_reducible refine WL.topT ?_ ?_); omega) | ((with_reducible refine WL.topF ?_ ?_); omega) | ((with_reducible refine WL.top64 ?_ ?_); omega) | refine WC.seq ?_ | refine WC.block ?_ | refine WC.region ?_ | refine WL.nil ?_ | refine WC.skip ?_ | refine WC.exit ?_ | refine WC.ret ?_ | refine WQ.then rfl ?_ | refine WQ.thenExit ?_ | refine WQ.thenRet ?_ | refine WQ.blk ?_ | refine WQ.blkRet ?_ | refine WQ.blkHere rfl ?_ | refine WQ.blkOther rfl ?_ | refine WL.pure rfl rfl rfl rfl ?_ | refine WL.on rfl rfl ?_ | refine WL.off rfl rfl rfl ?_ | refine WC.condTrue rfl ?_ | refine WC.condFalse rfl ?_)
    refine WL.push rfl rfl rfl rfl rfl rfl rfl rfl rfl rfl rfl (fun _ => rfl) rfl hbr (by simp; omega) fun v1 w2 hb2 hg2 => ?_
    repeat (first | ((with_reducible refine WL.topT ?_ ?_); omega) | ((with_reducible refine WL.topF ?_ ?_); omega) | ((with_reducible refine WL.top64 ?_ ?_); omega) | refine WC.seq ?_ | refine WC.block ?_ | refine WC.region ?_ | refine WL.nil ?_ | refine WC.skip ?_ | refine WC.exit ?_ | refine WC.ret ?_ | refine WQ.then rfl ?_ | refine WQ.thenExit ?_ | refine WQ.thenRet ?_ | refine WQ.blk ?_ | refine WQ.blkRet ?_ | refine WQ.blkHere rfl ?_ | refine WQ.blkOther rfl ?_ | refine WL.pure rfl rfl rfl rfl ?_ | refine WL.on rfl rfl ?_ | refine WL.off rfl rfl rfl ?_ | refine WC.condTrue rfl ?_ | refine WC.condFalse rfl ?_)
    refine WQ.ret1 rfl rfl ⟨_, rfl, ?_, hgr.trans hg2⟩
    rw [← hsl, List.take_length] at hb2
    unfold textK
    rw [← List.append_assoc]
    exact hb2
end K
end Go.Proofs.Ytfpakjbaiohcaaa
