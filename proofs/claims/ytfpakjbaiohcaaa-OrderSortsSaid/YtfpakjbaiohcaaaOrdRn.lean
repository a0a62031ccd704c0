/- Keys (chapter 8), the document's answer: a number's bytes. -/
import Derived.Test.YtfpakjbaiohcaaaOrdR
import Derived.Test.YtfpakjbaiohcaaaOrdN
import Derived.Test.YtfpakjbaiohcaaaOrdL
namespace Go.Proofs.Ytfpakjbaiohcaaa
open Go.RowKit
namespace K

theorem nzs_ne {f u : Nat} (h0 : 0 < u) (hu : u < 10 ^ f) : nzs (digsF f u) ≠ [] := by
  induction f generalizing u with
  | zero => simp at hu; omega
  | succ f ih =>
    unfold digsF
    rw [if_neg (by omega), nzs]
    by_cases h : u % 10 = 0
    · rw [if_pos h]; exact ih (by omega) (by rw [Nat.pow_succ] at hu; omega)
    · rw [if_neg h]; simp
theorem ch_nat {d : Nat} (h : d < 10) : ((ch d).toNat : Int) = 48 + d := by
  unfold ch
  rw [UInt8.toNat_ofNat']
  omega
theorem ext_take {s : ByteArray} {l : List UInt8} {k : Nat} (hs : s.toList = l) : (s.extract 0 k).toList = l.take k := by
  rw [← hs, ByteArray.toList_eq, ByteArray.toList_eq]
  simp [ByteArray.data_extract]

set_option maxHeartbeats 4000000 in
theorem rnumber_any (v : V) (sn sk : Value) (w : World) (hx0 : -9223372036854775808 ≤ v.n) (hx1 : v.n ≤ 9223372036854775807) (hs0 : 0 ≤ v.s) (hs1 : v.s ≤ 18) :
    Calls Try.prog 50 #[.agg (six v sn sk).toArray] w fun e w' => ∃ b, e = .returned b ∧ Bu w' b (numB v.n v.s) ∧ Below w.heap.size w w' ∧ ∀ g, b.ownBlock = some g → w.heap.size ≤ g := by
  refine enter (args := [.agg (six v sn sk).toArray]) Try.func50 rfl Try.ntmps50 rfl ?_
  repeat (first | ((with_reducible refine WL.topT ?_ ?_); omega) | ((with_reducible refine WL.topF ?_ ?_); omega) | ((with_reducible refine WL.top64 ?_ ?_); omega) | refine WC.seq ?_ | refine WC.block ?_ | refine WC.region ?_ | refine WL.nil ?_ | refine WC.skip ?_ | refine WC.exit ?_ | refine WC.ret ?_ | refine WQ.then rfl ?_ | refine WQ.thenExit ?_ | refine WQ.thenRet ?_ | refine WQ.blk ?_ | refine WQ.blkRet ?_ | refine WQ.blkHere rfl ?_ | refine WQ.blkOther rfl ?_ | refine WL.pure rfl rfl rfl rfl ?_ | refine WL.on rfl rfl ?_ | refine WL.off rfl rfl rfl ?_ | refine WC.condTrue rfl ?_ | refine WC.condFalse rfl ?_)
  refine WL.box rfl rfl rfl rfl rfl fun g w1 hf => ?_
  have hf' : Fresh w g w1 37 (six v sn sk) := hf
  clear hf
  have hg0 : w.heap.size ≤ g := by rw [hf'.eq]; exact Nat.le_refl _
  repeat (first | ((with_reducible refine WL.topT ?_ ?_); omega) | ((with_reducible refine WL.topF ?_ ?_); omega) | ((with_reducible refine WL.top64 ?_ ?_); omega) | refine WC.seq ?_ | refine WC.block ?_ | refine WC.region ?_ | refine WL.nil ?_ | refine WC.skip ?_ | refine WC.exit ?_ | refine WC.ret ?_ | refine WQ.then rfl ?_ | refine WQ.thenExit ?_ | refine WQ.thenRet ?_ | refine WQ.blk ?_ | refine WQ.blkRet ?_ | refine WQ.blkHere rfl ?_ | refine WQ.blkOther rfl ?_ | refine WL.pure rfl rfl rfl rfl ?_ | refine WL.on rfl rfl ?_ | refine WL.off rfl rfl rfl ?_ | refine WC.condTrue rfl ?_ | refine WC.condFalse rfl ?_)
  refine WL.load rfl rfl rfl rfl rfl rfl (hf'.blk.cell 1 (by simp)) ?_
  repeat (first | ((with_reducible refine WL.topT ?_ ?_); omega) | ((with_reducible refine WL.topF ?_ ?_); omega) | ((with_reducible refine WL.top64 ?_ ?_); omega) | refine WC.seq ?_ | refine WC.block ?_ | refine WC.region ?_ | refine WL.nil ?_ | refine WC.skip ?_ | refine WC.exit ?_ | refine WC.ret ?_ | refine WQ.then rfl ?_ | refine WQ.thenExit ?_ | refine WQ.thenRet ?_ | refine WQ.blk ?_ | refine WQ.blkRet ?_ | refine WQ.blkHere rfl ?_ | refine WQ.blkOther rfl ?_ | refine WL.pure rfl rfl rfl rfl ?_ | refine WL.on rfl rfl ?_ | refine WL.off rfl rfl rfl ?_ | refine WC.condTrue rfl ?_ | refine WC.condFalse rfl ?_)
  by_cases h0 : v.n = 0
  · refine WC.condT rfl h0 ?_
    repeat (first | ((with_reducible refine WL.topT ?_ ?_); omega) | ((with_reducible refine WL.topF ?_ ?_); omega) | ((with_reducible refine WL.top64 ?_ ?_); omega) | refine WC.seq ?_ | refine WC.block ?_ | refine WC.region ?_ | refine WL.nil ?_ | refine WC.skip ?_ | refine WC.exit ?_ | refine WC.ret ?_ | refine WQ.then rfl ?_ | refine WQ.thenExit ?_ | refine WQ.thenRet ?_ | refine WQ.blk ?_ | refine WQ.blkRet ?_ | refine WQ.blkHere rfl ?_ | refine WQ.blkOther rfl ?_ | refine WL.pure rfl rfl rfl rfl ?_ | refine WL.on rfl rfl ?_ | refine WL.off rfl rfl rfl ?_ | refine WC.condTrue rfl ?_ | refine WC.condFalse rfl ?_)
    refine WL.lit rfl rfl rfl rfl rfl rfl rfl fun b w2 hb hb2 hn2 => ?_
    repeat (first | ((with_reducible refine WL.topT ?_ ?_); omega) | ((with_reducible refine WL.topF ?_ ?_); omega) | ((with_reducible refine WL.top64 ?_ ?_); omega) | refine WC.seq ?_ | refine WC.block ?_ | refine WC.region ?_ | refine WL.nil ?_ | refine WC.skip ?_ | refine WC.exit ?_ | refine WC.ret ?_ | refine WQ.then rfl ?_ | refine WQ.thenExit ?_ | refine WQ.thenRet ?_ | refine WQ.blk ?_ | refine WQ.blkRet ?_ | refine WQ.blkHere rfl ?_ | refine WQ.blkOther rfl ?_ | refine WL.pure rfl rfl rfl rfl ?_ | refine WL.on rfl rfl ?_ | refine WL.off rfl rfl rfl ?_ | refine WC.condTrue rfl ?_ | refine WC.condFalse rfl ?_)
    refine WQ.ret1 rfl rfl ⟨b, rfl, ?_, hf'.below.trans (hb2.mono hf'.below.size), fun q hq => Nat.le_trans hf'.below.size (hn2 q hq)⟩
    unfold numB
    rw [if_pos h0]
    exact hb
  refine WC.condF rfl h0 ?_
  obtain ⟨u, hue⟩ : ∃ u, v.n.natAbs = u := ⟨_, rfl⟩
  have hu : u ≤ 9223372036854775808 := by omega
  have hu0 : 0 < u := by omega
  repeat (first | ((with_reducible refine WL.topT ?_ ?_); omega) | ((with_reducible refine WL.topF ?_ ?_); omega) | ((with_reducible refine WL.top64 ?_ ?_); omega) | refine WC.seq ?_ | refine WC.block ?_ | refine WC.region ?_ | refine WL.nil ?_ | refine WC.skip ?_ | refine WC.exit ?_ | refine WC.ret ?_ | refine WQ.then rfl ?_ | refine WQ.thenExit ?_ | refine WQ.thenRet ?_ | refine WQ.blk ?_ | refine WQ.blkRet ?_ | refine WQ.blkHere rfl ?_ | refine WQ.blkOther rfl ?_ | refine WL.pure rfl rfl rfl rfl ?_ | refine WL.on rfl rfl ?_ | refine WL.off rfl rfl rfl ?_ | refine WC.condTrue rfl ?_ | refine WC.condFalse rfl ?_)
  refine WL.load rfl rfl rfl rfl rfl rfl (hf'.blk.cell 1 (by simp)) ?_
  refine WL.call rfl rfl rfl rfl rfl Try.func37 rfl (by kernel_rfl) (abs_any v.n w1 hx0 hx1) ?_
  rintro e _ ⟨rfl, rfl⟩
  refine ⟨_, rfl, ?_⟩
  rw [hue]
  refine WL.call rfl rfl rfl rfl rfl Try.func58 rfl (by kernel_rfl) (dec_any u w1 (by omega)) ?_
  rintro e w2 ⟨⟨s, rfl, hs⟩, hb2⟩
  refine ⟨_, rfl, ?_⟩
  have hdz : dz 20 u = digs u := dz_eq 20 u hu0 (by omega)
  have hdl : (digs u).length ≤ 20 := digsF_len 20 u
  have hnn : nzs (digs u) ≠ [] := nzs_ne hu0 (by omega)
  have hlt : ∀ d ∈ digs u, d < 10 := digsF_lt 20 u
  unfold decS at hs
  rw [hdz] at hs
  have hsz : s.size = (digs u).length := by have := congrArg List.length hs; rw [ByteArray.toList_eq, Array.length_toList] at this; simpa using this
  have hblk2 : VBlk 37 w2 g (six v sn sk) := hf'.blk.below hb2 hf'.blk.lt
  have hbel2 : Below w.heap.size w w2 := hf'.below.trans (hb2.mono hf'.below.size)
  repeat (first | ((with_reducible refine WL.topT ?_ ?_); omega) | ((with_reducible refine WL.topF ?_ ?_); omega) | ((with_reducible refine WL.top64 ?_ ?_); omega) | refine WC.seq ?_ | refine WC.block ?_ | refine WC.region ?_ | refine WL.nil ?_ | refine WC.skip ?_ | refine WC.exit ?_ | refine WC.ret ?_ | refine WQ.then rfl ?_ | refine WQ.thenExit ?_ | refine WQ.thenRet ?_ | refine WQ.blk ?_ | refine WQ.blkRet ?_ | refine WQ.blkHere rfl ?_ | refine WQ.blkOther rfl ?_ | refine WL.pure rfl rfl rfl rfl ?_ | refine WL.on rfl rfl ?_ | refine WL.off rfl rfl rfl ?_ | refine WC.condTrue rfl ?_ | refine WC.condFalse rfl ?_)
  refine WL.load rfl rfl rfl rfl rfl rfl (hblk2.cell 2 (by simp)) ?_
  repeat (first | ((with_reducible refine WL.topT ?_ ?_); omega) | ((with_reducible refine WL.topF ?_ ?_); omega) | ((with_reducible refine WL.top64 ?_ ?_); omega) | refine WC.seq ?_ | refine WC.block ?_ | refine WC.region ?_ | refine WL.nil ?_ | refine WC.skip ?_ | refine WC.exit ?_ | refine WC.ret ?_ | refine WQ.then rfl ?_ | refine WQ.thenExit ?_ | refine WQ.thenRet ?_ | refine WQ.blk ?_ | refine WQ.blkRet ?_ | refine WQ.blkHere rfl ?_ | refine WQ.blkOther rfl ?_ | refine WL.pure rfl rfl rfl rfl ?_ | refine WL.on rfl rfl ?_ | refine WL.off rfl rfl rfl ?_ | refine WC.condTrue rfl ?_ | refine WC.condFalse rfl ?_)
  refine WC.loop (fun i : List Nat × ByteArray => [(1, .pointer (some ⟨g, 0, none⟩)), (3, .string i.2), (4, .int .i64 ((digs u).length - v.s))])
    (fun i w' => (nzs i.1 = nzs (digs u) ∧ (∀ d ∈ i.1, d < 10) ∧ i.1.length ≤ 20) ∧ i.2.toList = i.1.reverse.map ch ∧ w2 = w') (fun i => i.1.length) (digs u, s) ⟨rfl, rfl, congrArg (fun z => some (Value.int .i64 z)) (by rw [hsz]), trivial⟩ ⟨⟨rfl, hlt, hdl⟩, hs, rfl⟩ ?_
  rintro ⟨A, t⟩ _ ⟨⟨hA, hAl, hA20⟩, ht, rfl⟩
  simp only at hA hAl hA20 ht ⊢
  have htz : t.size = A.length := by have := congrArg List.length ht; rw [ByteArray.toList_eq, Array.length_toList] at this; simpa using this
  cases hAc : A with
  | nil => rw [hAc] at hA; exact (hnn hA.symm).elim
  | cons a r =>
    rw [hAc] at hA hAl hA20 ht htz
    have ha10 : a < 10 := hAl a List.mem_cons_self
    have hlast : ((t.toList.getD r.length 0).toNat : Int) = 48 + a := by
      rw [ht]
      have : ((a :: r).reverse.map ch).getD r.length 0 = ch a := by
        rw [List.reverse_cons, List.map_append, List.getD_eq_getElem?_getD, List.getElem?_append_right (by simp)]
        simp
      rw [this, ch_nat ha10]
    rw [List.length_cons] at htz hA20
    repeat (first | ((with_reducible refine WL.topT ?_ ?_); omega) | ((with_reducible refine WL.topF ?_ ?_); omega) | ((with_reducible refine WL.top64 ?_ ?_); omega) | refine WC.seq ?_ | refine WC.block ?_ | refine WC.region ?_ | refine WL.nil ?_ | refine WC.skip ?_ | refine WC.exit ?_ | refine WC.ret ?_ | refine WQ.then rfl ?_ | refine WQ.thenExit ?_ | refine WQ.thenRet ?_ | refine WQ.blk ?_ | refine WQ.blkRet ?_ | refine WQ.blkHere rfl ?_ | refine WQ.blkOther rfl ?_ | refine WL.pure rfl rfl rfl rfl ?_ | refine WL.on rfl rfl ?_ | refine WL.off rfl rfl rfl ?_ | refine WC.condTrue rfl ?_ | refine WC.condFalse rfl ?_)
    refine WL.byte r.length rfl rfl rfl rfl rfl rfl rfl (by omega) (by omega) ?_
    rw [hlast]
    by_cases ha : a = 0
    · subst ha
      repeat (first | ((with_reducible refine WL.topT ?_ ?_); omega) | ((with_reducible refine WL.topF ?_ ?_); omega) | ((with_reducible refine WL.top64 ?_ ?_); omega) | refine WC.seq ?_ | refine WC.block ?_ | refine WC.region ?_ | refine WL.nil ?_ | refine WC.skip ?_ | refine WC.exit ?_ | refine WC.ret ?_ | refine WQ.then rfl ?_ | refine WQ.thenExit ?_ | refine WQ.thenRet ?_ | refine WQ.blk ?_ | refine WQ.blkRet ?_ | refine WQ.blkHere rfl ?_ | refine WQ.blkOther rfl ?_ | refine WL.pure rfl rfl rfl rfl ?_ | refine WL.on rfl rfl ?_ | refine WL.off rfl rfl rfl ?_ | refine WC.condTrue rfl ?_ | refine WC.condFalse rfl ?_)
      refine WL.substrTo rfl rfl rfl rfl rfl rfl rfl (by omega) (by omega) ?_
      have hex : (t.extract 0 ((t.size : Int) - 1).toNat).toList = r.reverse.map ch := by
        rw [ext_take ht, show ((t.size : Int) - 1).toNat = r.length by omega, List.reverse_cons, List.map_append, List.take_append_of_le_length (by simp)]
        rw [List.take_of_length_le (by simp)]
      generalize t.extract 0 ((t.size : Int) - 1).toNat = t' at hex
      repeat (first | ((with_reducible refine WL.topT ?_ ?_); omega) | ((with_reducible refine WL.topF ?_ ?_); omega) | ((with_reducible refine WL.top64 ?_ ?_); omega) | refine WC.seq ?_ | refine WC.block ?_ | refine WC.region ?_ | refine WL.nil ?_ | refine WC.skip ?_ | refine WC.exit ?_ | refine WC.ret ?_ | refine WQ.then rfl ?_ | refine WQ.thenExit ?_ | refine WQ.thenRet ?_ | refine WQ.blk ?_ | refine WQ.blkRet ?_ | refine WQ.blkHere rfl ?_ | refine WQ.blkOther rfl ?_ | refine WL.pure rfl rfl rfl rfl ?_ | refine WL.on rfl rfl ?_ | refine WL.off rfl rfl rfl ?_ | refine WC.condTrue rfl ?_ | refine WC.condFalse rfl ?_)
      refine WQ.again (r, t') ⟨rfl, rfl, rfl, trivial⟩ ⟨⟨by rw [← hA]; simp [nzs], fun d hd => hAl d (List.mem_cons_of_mem _ hd), by show r.length ≤ 20; omega⟩, hex, rfl⟩ (by show r.length < (0 :: r).length; simp)
    · have hfin : a :: r = nzs (digs u) := by rw [← hA, nzs, if_neg ha]
      have hposd : posB (digs u) v.s = (((digs u).length : Int) - v.s + 192) % 256 :: (a :: r).reverse.map (fun d : Nat => (d : Int) + 1) ++ [0] := by unfold posB digB; rw [← hfin]
      have e14 : IntKind.u8.wrap (192 + (((digs u).length : Int) - v.s)) = (((digs u).length : Int) - v.s + 192) % 256 := by rw [IntKind.wrap_u8]; omega
      have hpr := posB_range u v.s
      have hpl := posB_len u v.s
      have hDl : ∀ i, i < r.length + 1 → ((t.toList.getD i 0).toNat : Int) = 48 + ((a :: r).reverse.getD i 0 : Nat) ∧ (a :: r).reverse.getD i 0 < 10 := fun i hi => by
        have hil : i < (a :: r).reverse.length := by simpa using hi
        have hmem : (a :: r).reverse.getD i 0 ∈ a :: r := by
          rw [List.getD_eq_getElem?_getD, List.getElem?_eq_getElem hil]
          exact List.mem_reverse.1 (List.getElem_mem hil)
        have h10 := hAl _ hmem
        refine ⟨?_, h10⟩
        rw [ht, ← ch_nat h10]
        congr 2
        rw [List.getD_eq_getElem?_getD, List.getD_eq_getElem?_getD, List.getElem?_map, List.getElem?_eq_getElem hil]
        rfl
      have hDn : (a :: r).reverse.length = r.length + 1 := by simp
      generalize (a :: r).reverse = D at hposd hDl hDn ht
      generalize hH : (((digs u).length : Int) - v.s + 192) % 256 = H at hposd e14
      repeat (first | ((with_reducible refine WL.topT ?_ ?_); omega) | ((with_reducible refine WL.topF ?_ ?_); omega) | ((with_reducible refine WL.top64 ?_ ?_); omega) | refine WC.seq ?_ | refine WC.block ?_ | refine WC.region ?_ | refine WL.nil ?_ | refine WC.skip ?_ | refine WC.exit ?_ | refine WC.ret ?_ | refine WQ.then rfl ?_ | refine WQ.thenExit ?_ | refine WQ.thenRet ?_ | refine WQ.blk ?_ | refine WQ.blkRet ?_ | refine WQ.blkHere rfl ?_ | refine WQ.blkOther rfl ?_ | refine WL.pure rfl rfl rfl rfl ?_ | refine WL.on rfl rfl ?_ | refine WL.off rfl rfl rfl ?_ | refine WC.condTrue rfl ?_ | refine WC.condFalse rfl ?_)
      refine WL.lit rfl rfl rfl rfl rfl rfl rfl fun b0 w3 hb0 k0 g0 => ?_
      rw [e14] at hb0
      repeat (first | ((with_reducible refine WL.topT ?_ ?_); omega) | ((with_reducible refine WL.topF ?_ ?_); omega) | ((with_reducible refine WL.top64 ?_ ?_); omega) | refine WC.seq ?_ | refine WC.block ?_ | refine WC.region ?_ | refine WL.nil ?_ | refine WC.skip ?_ | refine WC.exit ?_ | refine WC.ret ?_ | refine WQ.then rfl ?_ | refine WQ.thenExit ?_ | refine WQ.thenRet ?_ | refine WQ.blk ?_ | refine WQ.blkRet ?_ | refine WQ.blkHere rfl ?_ | refine WQ.blkOther rfl ?_ | refine WL.pure rfl rfl rfl rfl ?_ | refine WL.on rfl rfl ?_ | refine WL.off rfl rfl rfl ?_ | refine WC.condTrue rfl ?_ | refine WC.condFalse rfl ?_)
      refine WC.loop (fun i : Nat × Value => [(1, .pointer (some ⟨g, 0, none⟩)), (3, .string t), (5, i.2), (6, .int .i64 i.1)])
        (fun i w' => i.1 ≤ r.length + 1 ∧ Bu w' i.2 (H :: (D.take i.1).map fun d : Nat => (d : Int) + 1) ∧ Apart w2 w' i.2) (fun i => r.length + 1 - i.1) (0, b0) ⟨rfl, rfl, rfl, rfl, trivial⟩ ⟨Nat.zero_le _, by simpa using hb0, ⟨k0, g0⟩⟩ ?_
      rintro ⟨i, vv⟩ w4 ⟨hi, hb4, hap4⟩
      simp only at hi hb4 hap4 ⊢
      by_cases hil : i < r.length + 1
      · obtain ⟨hbyte, h10⟩ := hDl i hil
        have hw : IntKind.u8.wrap (IntKind.u8.wrap (48 + ((D.getD i 0 : Nat) : Int) - 48) + 1) = ((D.getD i 0 : Nat) : Int) + 1 := by rw [IntKind.wrap_u8, IntKind.wrap_u8]; omega
        repeat (first | ((with_reducible refine WL.topT ?_ ?_); omega) | ((with_reducible refine WL.topF ?_ ?_); omega) | ((with_reducible refine WL.top64 ?_ ?_); omega) | refine WC.seq ?_ | refine WC.block ?_ | refine WC.region ?_ | refine WL.nil ?_ | refine WC.skip ?_ | refine WC.exit ?_ | refine WC.ret ?_ | refine WQ.then rfl ?_ | refine WQ.thenExit ?_ | refine WQ.thenRet ?_ | refine WQ.blk ?_ | refine WQ.blkRet ?_ | refine WQ.blkHere rfl ?_ | refine WQ.blkOther rfl ?_ | refine WL.pure rfl rfl rfl rfl ?_ | refine WL.on rfl rfl ?_ | refine WL.off rfl rfl rfl ?_ | refine WC.condTrue rfl ?_ | refine WC.condFalse rfl ?_)
        refine WL.byte i rfl rfl rfl rfl rfl rfl rfl rfl (by omega) ?_
        rw [hbyte]
        repeat (first | ((with_reducible refine WL.topT ?_ ?_); omega) | ((with_reducible refine WL.topF ?_ ?_); omega) | ((with_reducible refine WL.top64 ?_ ?_); omega) | refine WC.seq ?_ | refine WC.block ?_ | refine WC.region ?_ | refine WL.nil ?_ | refine WC.skip ?_ | refine WC.exit ?_ | refine WC.ret ?_ | refine WQ.then rfl ?_ | refine WQ.thenExit ?_ | refine WQ.thenRet ?_ | refine WQ.blk ?_ | refine WQ.blkRet ?_ | refine WQ.blkHere rfl ?_ | refine WQ.blkOther rfl ?_ | refine WL.pure rfl rfl rfl rfl ?_ | refine WL.on rfl rfl ?_ | refine WL.off rfl rfl rfl ?_ | refine WC.condTrue rfl ?_ | refine WC.condFalse rfl ?_)
        refine WL.push rfl rfl rfl rfl rfl rfl rfl rfl rfl rfl rfl (fun _ => rfl) rfl hb4 (by simp; omega) fun v5 w5 hb5 hg5 => ?_
        rw [hw] at hb5
        repeat (first | ((with_reducible refine WL.topT ?_ ?_); omega) | ((with_reducible refine WL.topF ?_ ?_); omega) | ((with_reducible refine WL.top64 ?_ ?_); omega) | refine WC.seq ?_ | refine WC.block ?_ | refine WC.region ?_ | refine WL.nil ?_ | refine WC.skip ?_ | refine WC.exit ?_ | refine WC.ret ?_ | refine WQ.then rfl ?_ | refine WQ.thenExit ?_ | refine WQ.thenRet ?_ | refine WQ.blk ?_ | refine WQ.blkRet ?_ | refine WQ.blkHere rfl ?_ | refine WQ.blkOther rfl ?_ | refine WL.pure rfl rfl rfl rfl ?_ | refine WL.on rfl rfl ?_ | refine WL.off rfl rfl rfl ?_ | refine WC.condTrue rfl ?_ | refine WC.condFalse rfl ?_)
        refine WQ.again (i + 1, v5) ⟨rfl, rfl, rfl, rfl, trivial⟩ ⟨hil, ?_, hap4.grow hg5⟩ (by show r.length + 1 - (i + 1) < r.length + 1 - i; omega)
        have htk : D.take (i + 1) = D.take i ++ [D.getD i 0] := by
          rw [List.take_add_one]
          simp [hDn, hil]
        show Bu w5 v5 (H :: (D.take (i + 1)).map fun d : Nat => (d : Int) + 1)
        rw [htk]
        simpa using hb5
      · obtain rfl : i = r.length + 1 := by omega
        rw [← hDn, List.take_length] at hb4
        repeat (first | ((with_reducible refine WL.topT ?_ ?_); omega) | ((with_reducible refine WL.topF ?_ ?_); omega) | ((with_reducible refine WL.top64 ?_ ?_); omega) | refine WC.seq ?_ | refine WC.block ?_ | refine WC.region ?_ | refine WL.nil ?_ | refine WC.skip ?_ | refine WC.exit ?_ | refine WC.ret ?_ | refine WQ.then rfl ?_ | refine WQ.thenExit ?_ | refine WQ.thenRet ?_ | refine WQ.blk ?_ | refine WQ.blkRet ?_ | refine WQ.blkHere rfl ?_ | refine WQ.blkOther rfl ?_ | refine WL.pure rfl rfl rfl rfl ?_ | refine WL.on rfl rfl ?_ | refine WL.off rfl rfl rfl ?_ | refine WC.condTrue rfl ?_ | refine WC.condFalse rfl ?_)
        refine WL.push rfl rfl rfl rfl rfl rfl rfl rfl rfl rfl rfl (fun _ => rfl) rfl hb4 (by simp; omega) fun v5 w5 hb5 hg5 => ?_
        have hb5' : Bu w5 v5 (posB (digs u) v.s) := by rw [hposd]; simpa using hb5
        have hap5 := hap4.grow hg5
        clear hb5
        generalize hF : posB (digs u) v.s = F at hb5' hpr hpl
        have hblk : ∀ {wx vx}, Apart w2 wx vx → VBlk 37 wx g (six v sn sk) := fun h => hblk2.below h.below hblk2.lt
        repeat (first | ((with_reducible refine WL.topT ?_ ?_); omega) | ((with_reducible refine WL.topF ?_ ?_); omega) | ((with_reducible refine WL.top64 ?_ ?_); omega) | refine WC.seq ?_ | refine WC.block ?_ | refine WC.region ?_ | refine WL.nil ?_ | refine WC.skip ?_ | refine WC.exit ?_ | refine WC.ret ?_ | refine WQ.then rfl ?_ | refine WQ.thenExit ?_ | refine WQ.thenRet ?_ | refine WQ.blk ?_ | refine WQ.blkRet ?_ | refine WQ.blkHere rfl ?_ | refine WQ.blkOther rfl ?_ | refine WL.pure rfl rfl rfl rfl ?_ | refine WL.on rfl rfl ?_ | refine WL.off rfl rfl rfl ?_ | refine WC.condTrue rfl ?_ | refine WC.condFalse rfl ?_)
        obtain ⟨sp3, c3, rfl, -, -⟩ := hb5'.form
        refine WC.loop (fun k : Nat => [(1, .pointer (some ⟨g, 0, none⟩)), (5, .slice sp3 F.length c3), (7, .int .i64 k)])
          (fun k w' => k ≤ F.length ∧ Bu w' (.slice sp3 F.length c3) (flipB (F.take k) ++ F.drop k) ∧ Apart w2 w' (.slice sp3 F.length c3) ∧ (¬ v.n < 0 → k = 0)) (fun k => F.length - k) 0 ⟨rfl, rfl, rfl, trivial⟩ ⟨Nat.zero_le _, by simpa [flipB] using hb5', hap5, fun _ => rfl⟩ ?_
        rintro k wr3 ⟨hk, hb6, hap6, hk0⟩
        have hll : (flipB (F.take k) ++ F.drop k).length = F.length := by simp [flipB]; omega
        repeat (first | ((with_reducible refine WL.topT ?_ ?_); omega) | ((with_reducible refine WL.topF ?_ ?_); omega) | ((with_reducible refine WL.top64 ?_ ?_); omega) | refine WC.seq ?_ | refine WC.block ?_ | refine WC.region ?_ | refine WL.nil ?_ | refine WC.skip ?_ | refine WC.exit ?_ | refine WC.ret ?_ | refine WQ.then rfl ?_ | refine WQ.thenExit ?_ | refine WQ.thenRet ?_ | refine WQ.blk ?_ | refine WQ.blkRet ?_ | refine WQ.blkHere rfl ?_ | refine WQ.blkOther rfl ?_ | refine WL.pure rfl rfl rfl rfl ?_ | refine WL.on rfl rfl ?_ | refine WL.off rfl rfl rfl ?_ | refine WC.condTrue rfl ?_ | refine WC.condFalse rfl ?_)
        refine WL.load rfl rfl rfl rfl rfl rfl ((hblk hap6).cell 1 (by simp)) ?_
        by_cases hn : v.n < 0
        · by_cases hkn : k < F.length
          · obtain ⟨q, c', hv, hog, hcell, hfr, hset⟩ := hb6.at (j := k) (by rw [hll]; exact hkn)
            obtain rfl : sp3 = some ⟨q, 0, none⟩ := by injection hv
            have hdr : F.drop k = nth F k :: F.drop (k + 1) := by
              rw [List.drop_eq_getElem_cons hkn]
              simp [nth, hkn]
            have hfl : (flipB (F.take k)).length = k := by simp [flipB]; omega
            have hnk : nth (flipB (F.take k) ++ F.drop k) k = nth F k := by
              rw [hdr]
              unfold nth
              rw [List.getD_eq_getElem?_getD, List.getElem?_append_right (by omega), hfl]
              simp
            have hrg := hpr (nth F k) (by unfold nth; rw [List.getD_eq_getElem?_getD, List.getElem?_eq_getElem hkn]; exact List.getElem_mem hkn)
            have hfp := flip_u8 (nth F k) hrg.1 hrg.2
            rw [hnk] at hcell
            have hset2 := hset (255 - nth F k)
            repeat (first | ((with_reducible refine WL.topT ?_ ?_); omega) | ((with_reducible refine WL.topF ?_ ?_); omega) | ((with_reducible refine WL.top64 ?_ ?_); omega) | refine WC.seq ?_ | refine WC.block ?_ | refine WC.region ?_ | refine WL.nil ?_ | refine WC.skip ?_ | refine WC.exit ?_ | refine WC.ret ?_ | refine WQ.then rfl ?_ | refine WQ.thenExit ?_ | refine WQ.thenRet ?_ | refine WQ.blk ?_ | refine WQ.blkRet ?_ | refine WQ.blkHere rfl ?_ | refine WQ.blkOther rfl ?_ | refine WL.pure rfl rfl rfl rfl ?_ | refine WL.on rfl rfl ?_ | refine WL.off rfl rfl rfl ?_ | refine WC.condTrue rfl ?_ | refine WC.condFalse rfl ?_)
            refine WL.idx k k rfl rfl rfl rfl rfl rfl rfl rfl hkn (by omega) ?_
            refine WL.load rfl rfl rfl rfl rfl rfl hcell ?_
            repeat (first | ((with_reducible refine WL.topT ?_ ?_); omega) | ((with_reducible refine WL.topF ?_ ?_); omega) | ((with_reducible refine WL.top64 ?_ ?_); omega) | refine WC.seq ?_ | refine WC.block ?_ | refine WC.region ?_ | refine WL.nil ?_ | refine WC.skip ?_ | refine WC.exit ?_ | refine WC.ret ?_ | refine WQ.then rfl ?_ | refine WQ.thenExit ?_ | refine WQ.thenRet ?_ | refine WQ.blk ?_ | refine WQ.blkRet ?_ | refine WQ.blkHere rfl ?_ | refine WQ.blkOther rfl ?_ | refine WL.pure rfl rfl rfl rfl ?_ | refine WL.on rfl rfl ?_ | refine WL.off rfl rfl rfl ?_ | refine WC.condTrue rfl ?_ | refine WC.condFalse rfl ?_)
            refine WL.idx k k rfl rfl rfl rfl rfl rfl rfl rfl hkn (by omega) ?_
            refine WL.store (v := .int .u8 (255 - nth F k)) rfl rfl rfl rfl (congrArg (fun z => some (Value.int .u8 z)) hfp) rfl (by kernel_rfl) hcell hfr ?_
            repeat (first | ((with_reducible refine WL.topT ?_ ?_); omega) | ((with_reducible refine WL.topF ?_ ?_); omega) | ((with_reducible refine WL.top64 ?_ ?_); omega) | refine WC.seq ?_ | refine WC.block ?_ | refine WC.region ?_ | refine WL.nil ?_ | refine WC.skip ?_ | refine WC.exit ?_ | refine WC.ret ?_ | refine WQ.then rfl ?_ | refine WQ.thenExit ?_ | refine WQ.thenRet ?_ | refine WQ.blk ?_ | refine WQ.blkRet ?_ | refine WQ.blkHere rfl ?_ | refine WQ.blkOther rfl ?_ | refine WL.pure rfl rfl rfl rfl ?_ | refine WL.on rfl rfl ?_ | refine WL.off rfl rfl rfl ?_ | refine WC.condTrue rfl ?_ | refine WC.condFalse rfl ?_)
            refine WQ.again (k + 1) ⟨rfl, rfl, rfl, trivial⟩ ⟨hkn, ?_, hap6.grow hset2.2, fun h => (h hn).elim⟩ (by show F.length - (k + 1) < F.length - k; omega)
            have he : (flipB (F.take k) ++ F.drop k).set k (255 - nth F k) = flipB (F.take (k + 1)) ++ F.drop (k + 1) := by
              rw [hdr, List.set_append_right _ _ (by omega), hfl, Nat.sub_self, List.set_cons_zero]
              have : F.take (k + 1) = F.take k ++ [nth F k] := by
                rw [List.take_add_one]
                simp [nth, hkn]
              rw [this]
              simp [flipB]
            rw [he] at hset2
            exact hset2.1
          · obtain rfl : k = F.length := by omega
            repeat (first | ((with_reducible refine WL.topT ?_ ?_); omega) | ((with_reducible refine WL.topF ?_ ?_); omega) | ((with_reducible refine WL.top64 ?_ ?_); omega) | refine WC.seq ?_ | refine WC.block ?_ | refine WC.region ?_ | refine WL.nil ?_ | refine WC.skip ?_ | refine WC.exit ?_ | refine WC.ret ?_ | refine WQ.then rfl ?_ | refine WQ.thenExit ?_ | refine WQ.thenRet ?_ | refine WQ.blk ?_ | refine WQ.blkRet ?_ | refine WQ.blkHere rfl ?_ | refine WQ.blkOther rfl ?_ | refine WL.pure rfl rfl rfl rfl ?_ | refine WL.on rfl rfl ?_ | refine WL.off rfl rfl rfl ?_ | refine WC.condTrue rfl ?_ | refine WC.condFalse rfl ?_)
            refine WQ.ret1 rfl rfl ⟨_, rfl, ?_, hbel2.trans (hap6.below.mono hbel2.size), fun q hq => Nat.le_trans hbel2.size (hap6.own q hq)⟩
            unfold numB
            rw [if_neg h0, if_pos hn, hue, hF]
            simpa using hb6
        · obtain rfl := hk0 hn
          repeat (first | ((with_reducible refine WL.topT ?_ ?_); omega) | ((with_reducible refine WL.topF ?_ ?_); omega) | ((with_reducible refine WL.top64 ?_ ?_); omega) | refine WC.seq ?_ | refine WC.block ?_ | refine WC.region ?_ | refine WL.nil ?_ | refine WC.skip ?_ | refine WC.exit ?_ | refine WC.ret ?_ | refine WQ.then rfl ?_ | refine WQ.thenExit ?_ | refine WQ.thenRet ?_ | refine WQ.blk ?_ | refine WQ.blkRet ?_ | refine WQ.blkHere rfl ?_ | refine WQ.blkOther rfl ?_ | refine WL.pure rfl rfl rfl rfl ?_ | refine WL.on rfl rfl ?_ | refine WL.off rfl rfl rfl ?_ | refine WC.condTrue rfl ?_ | refine WC.condFalse rfl ?_)
          refine WQ.ret1 rfl rfl ⟨_, rfl, ?_, hbel2.trans (hap6.below.mono hbel2.size), fun q hq => Nat.le_trans hbel2.size (hap6.own q hq)⟩
          unfold numB
          rw [if_neg h0, if_neg hn, hue, hF]
          simpa [flipB] using hb6
end K
end Go.Proofs.Ytfpakjbaiohcaaa
