/-
  For every script the law TreePlays answers true, and the argument reads as it did. No condition.
-/
import Derived.Test.YtilmfnlaenneeaaZLawTrePl1
import Derived.ChangeMaps5
/- The law's ranges (chapter 13): walked. -/
namespace Go.Proofs.Ytilmfnlaenneeaa
open Go.RowKit
namespace K
open Tre
abbrev ptrR : Nat := 43
abbrev itI : Nat := 3
abbrev itB : Nat := 4
theorem RT.below {B : Nat} {w w' : World} {rb : Nat} {L : List KV} (h : RT B w rb L) (hb : Below w.heap.size w w') : RT B w' rb L := by
  obtain ⟨vk, vn, rs⟩ := h.rs
  exact (rs.below hb).rt rfl rfl rfl rfl
/-- What an iterator over the range hands on. -/
def handed (back : Bool) (f t : Ky) (L : List KV) : List KV := bif back then (flt f t L).reverse else flt f t L
set_option maxRecDepth 20000 in
set_option maxHeartbeats 8000000 in
theorem ranges_any {B : Nat} {w : World} {st : St} {tb rb : Nat} {L : List KV} (ht : IsT w st tb L) (hr : RT B w rb L) (hl : L.length < 1000000) (f t : Ky) (n : Int) (back : Bool) :
    Calls Try.prog 21 #[.pointer (some ⟨tb, 0, none⟩), .pointer (some ⟨rb, 0, none⟩), .string f, .string t, .int .i64 n, .bool back] w fun e w' => e = .returned (.bool true) ∧ Below w.heap.size w w' := by
  have hsl : Srt L := by obtain ⟨-, -, _, _, -, hh⟩ := ht; exact hh.srt
  refine enterM (args := [.pointer (some ⟨tb, 0, none⟩), .pointer (some ⟨rb, 0, none⟩), .string f, .string t, .int .i64 n, .bool back]) Try.func21 rfl Try.ntmps21 rfl ?_
  repeat (first | refine WC.seq ?_ | refine WC.block ?_ | refine WC.region ?_ | refine WL.nil ?_ | refine WC.skip ?_ | refine WC.exit ?_ | refine WC.ret ?_ | refine WQ.then rfl ?_ | refine WQ.thenExit ?_ | refine WQ.thenRet ?_ | refine WQ.blk ?_ | refine WQ.blkRet ?_ | refine WQ.blkHere rfl ?_ | refine WQ.blkOther rfl ?_)
  refine WL.box rfl rfl rfl rfl rfl fun g7 w1 f1 => ?_
  refine WL.box rfl rfl rfl rfl rfl fun g10 w2 f2 => ?_
  refine WL.box rfl rfl rfl rfl rfl fun g11 w3 f3 => ?_
  refine WL.alloc (z := .bool false) rfl rfl rfl rfl (fun _ => by kernel_rfl) fun g12 w4 f4 => ?_
  have z1 := f1.size
  have z2 := f2.size
  have z3 := f3.size
  have z4 := f4.size
  have e1 := f1.eq
  have e2 := f2.eq
  have e3 := f3.eq
  have e4 := f4.eq
  have b2 := f1.below.trans (f2.below.mono (by omega))
  have b3 := b2.trans (f3.below.mono (by omega))
  have b4 : Below w.heap.size w w4 := b3.trans (f4.below.mono (by omega))
  have v7 : VBlk ptrR w4 g7 [.pointer (some ⟨rb, 0, none⟩)] := ((VBlk.below f1.blk f2.below (VBlk.lt f1.blk)).below f3.below (by omega)).below f4.below (by omega)
  have v10 : VBlk itI w4 g10 [.int .i64 n] := (VBlk.below f2.blk f3.below (VBlk.lt f2.blk)).below f4.below (by omega)
  have v11 : VBlk itB w4 g11 [.bool back] := VBlk.below f3.blk f4.below (VBlk.lt f3.blk)
  have v12 : VBlk itB w4 g12 [.bool false] := f4.blk
  clear f1 f2 f3 f4 b2 b3
  repeat (first | ((with_reducible refine WL.topT ?_ ?_); omega) | ((with_reducible refine WL.topF ?_ ?_); omega) | ((with_reducible refine WL.top64 ?_ ?_); omega) | refine WC.seq ?_ | refine WC.block ?_ | refine WC.region ?_ | refine WL.nil ?_ | refine WC.skip ?_ | refine WC.exit ?_ | refine WC.ret ?_ | refine WQ.then rfl ?_ | refine WQ.thenExit ?_ | refine WQ.thenRet ?_ | refine WQ.blk ?_ | refine WQ.blkRet ?_ | refine WQ.blkHere rfl ?_ | refine WQ.blkOther rfl ?_ | refine WL.pure rfl rfl rfl rfl ?_ | refine WL.on rfl rfl ?_ | refine WL.off rfl rfl rfl ?_ | refine WC.condTrue rfl ?_ | refine WC.condFalse rfl ?_)
  refine WL.load rfl rfl rfl rfl rfl rfl (VBlk.cell v7 0 (by simp)) ?_
  repeat (first | ((with_reducible refine WL.topT ?_ ?_); omega) | ((with_reducible refine WL.topF ?_ ?_); omega) | ((with_reducible refine WL.top64 ?_ ?_); omega) | refine WC.seq ?_ | refine WC.block ?_ | refine WC.region ?_ | refine WL.nil ?_ | refine WC.skip ?_ | refine WC.exit ?_ | refine WC.ret ?_ | refine WQ.then rfl ?_ | refine WQ.thenExit ?_ | refine WQ.thenRet ?_ | refine WQ.blk ?_ | refine WQ.blkRet ?_ | refine WQ.blkHere rfl ?_ | refine WQ.blkOther rfl ?_ | refine WL.pure rfl rfl rfl rfl ?_ | refine WL.on rfl rfl ?_ | refine WL.off rfl rfl rfl ?_ | refine WC.condTrue rfl ?_ | refine WC.condFalse rfl ?_)
  refine WL.call rfl rfl rfl rfl rfl Try.func35 rfl (by kernel_rfl) (rends_any (hr.below b4) hsl (by omega) f t) ?_
  rintro _ w5 ⟨rfl, s5⟩
  refine ⟨_, rfl, ?_⟩
  have b5 : Below w.heap.size w w5 := b4.trans (s5.below _)
  have hz5 : w5.heap.size = w4.heap.size := by rw [s5.heap]
  have hpl := plc_le f (L.map Prod.fst)
  have hek : endK t L ≤ L.length := by unfold endK; have := plc_le t (L.map Prod.fst); rw [List.length_map] at this hpl; split <;> omega
  rw [List.length_map] at hpl
  have hpc := flt_piece (f := f) (t := t) hsl
  obtain ⟨i, hi⟩ : ∃ i, i = plc f (L.map Prod.fst) := ⟨_, rfl⟩
  obtain ⟨k, hk⟩ : ∃ k, k = max i (endK t L) := ⟨_, rfl⟩
  rw [← hi, ← hk] at hpc
  rw [← hi] at hpl ⊢
  rw [← hk]
  have v7' := v7.of_block (s5.block g7)
  have v10' := v10.of_block (s5.block g10)
  have v11' := v11.of_block (s5.block g11)
  have v12' := v12.of_block (s5.block g12)
  clear v7 v10 v11 v12 b4
  repeat (first | ((with_reducible refine WL.topT ?_ ?_); omega) | ((with_reducible refine WL.topF ?_ ?_); omega) | ((with_reducible refine WL.top64 ?_ ?_); omega) | refine WC.seq ?_ | refine WC.block ?_ | refine WC.region ?_ | refine WL.nil ?_ | refine WC.skip ?_ | refine WC.exit ?_ | refine WC.ret ?_ | refine WQ.then rfl ?_ | refine WQ.thenExit ?_ | refine WQ.thenRet ?_ | refine WQ.blk ?_ | refine WQ.blkRet ?_ | refine WQ.blkHere rfl ?_ | refine WQ.blkOther rfl ?_ | refine WL.pure rfl rfl rfl rfl ?_ | refine WL.on rfl rfl ?_ | refine WL.off rfl rfl rfl ?_ | refine WC.condTrue rfl ?_ | refine WC.condFalse rfl ?_)
  refine WL.as 25 (.int .i64 i) rfl rfl ?_
  refine WL.as 26 (.int .i64 k) rfl rfl ?_
  refine WL.alloc (z := .int .i64 0) rfl rfl rfl rfl (fun _ => by kernel_rfl) fun g13 w6 f6 => ?_
  refine WL.alloc (z := .int .i64 0) rfl rfl rfl rfl (fun _ => by kernel_rfl) fun g14 w7 f7 => ?_
  have z6 := f6.size
  have z7 := f7.size
  have e6 := f6.eq
  have e7 := f7.eq
  have v13a : VBlk itI w7 g13 [.int .i64 0] := VBlk.below f6.blk f7.below (VBlk.lt f6.blk)
  have v14a : VBlk itI w7 g14 [.int .i64 0] := f7.blk
  have k7 : Keep (fun x => x < w5.heap.size) w5 w7 := (Keep.of_below f6.below).trans ((Keep.of_below f7.below).mono fun x (hx : x < w5.heap.size) => by show x < _; omega)
  clear f6 f7
  refine WL.store rfl rfl rfl rfl rfl rfl (by kernel_rfl) (VBlk.cell v13a 0 (by simp)) (VBlk.free v13a 0) ?_
  have v13b := VBlk.set v13a 0 (.int .i64 i)
  have v14b := VBlk.other v14a ⟨g13, 0, none⟩ (.int .i64 i) (by show g14 ≠ g13; omega)
  have k8 := k7.setCell (p := ⟨g13, 0, none⟩) (by show ¬ g13 < _; omega) (.int .i64 i)
  generalize w7.setCell ⟨g13, 0, none⟩ (.int .i64 i) = w8 at v13b v14b k8 ⊢
  refine WL.store rfl rfl rfl rfl rfl rfl (by kernel_rfl) (VBlk.cell v14b 0 (by simp)) (VBlk.free v14b 0) ?_
  have v13 := VBlk.other v13b ⟨g14, 0, none⟩ (.int .i64 k) (by show g13 ≠ g14; omega)
  have v14 := VBlk.set v14b 0 (.int .i64 k)
  have k9 := k8.setCell (p := ⟨g14, 0, none⟩) (by show ¬ g14 < _; omega) (.int .i64 k)
  generalize w8.setCell ⟨g14, 0, none⟩ (.int .i64 k) = w9 at v13 v14 k9 ⊢
  have hg14 : g14 < w9.heap.size := VBlk.lt v14
  have v7 := v7'.keep k9 (by show g7 < _; omega)
  have v10 := v10'.keep k9 (by show g10 < _; omega)
  have v11 := v11'.keep k9 (by show g11 < _; omega)
  have v12 := v12'.keep k9 (by show g12 < _; omega)
  have b9 : Below w.heap.size w w9 := b5.trans (k9.below.mono b5.size)
  clear v7' v10' v11' v12' v13a v14a v13b v14b k7 k8 k9 b5 s5
  repeat (first | ((with_reducible refine WL.topT ?_ ?_); omega) | ((with_reducible refine WL.topF ?_ ?_); omega) | ((with_reducible refine WL.top64 ?_ ?_); omega) | refine WC.seq ?_ | refine WC.block ?_ | refine WC.region ?_ | refine WL.nil ?_ | refine WC.skip ?_ | refine WC.exit ?_ | refine WC.ret ?_ | refine WQ.then rfl ?_ | refine WQ.thenExit ?_ | refine WQ.thenRet ?_ | refine WQ.blk ?_ | refine WQ.blkRet ?_ | refine WQ.blkHere rfl ?_ | refine WQ.blkOther rfl ?_ | refine WL.pure rfl rfl rfl rfl ?_ | refine WL.on rfl rfl ?_ | refine WL.off rfl rfl rfl ?_ | refine WC.condTrue rfl ?_ | refine WC.condFalse rfl ?_)
  refine WL.call rfl rfl rfl rfl rfl Try.func12 rfl (by kernel_rfl) (trange_any (some ⟨tb, 0, none⟩) f t) ?_
  rintro _ w10 ⟨b10, q1, q2, q3, rfl, hc⟩
  refine ⟨_, rfl, ?_⟩
  have hfl := flt_len f t L
  have htw : IsT w10 st tb L := ht.below (b9.trans (b10.mono b9.size))
  have hseq := range1_any hc (L := flt f t L) (by omega) (fun W hW => tall_any (htw.below hW) f t (by omega))
  have v11' := VBlk.below v11 b10 (VBlk.lt v11)
  refine WL.pure rfl rfl rfl rfl ?_
  refine WL.nil ?_
  refine WQ.then rfl ?_
  refine WC.seq ?_
  refine WC.mid (fun x : Nat × Array Value => [(7, .pointer (some ⟨g7, 0, none⟩)), (10, .pointer (some ⟨g10, 0, none⟩)), (11, .pointer (some ⟨g11, 0, none⟩)), (12, .pointer (some ⟨g12, 0, none⟩)), (13, .pointer (some ⟨g13, 0, none⟩)), (14, .pointer (some ⟨g14, 0, none⟩)), (15, .func (.func x.1) #[] x.2)])
    (fun x w' => Below w9.heap.size w9 w' ∧ (∀ args w, (callFunc x.1 args).run Try.prog w = .ok (.enter x.1 args) w) ∧
      SeqStopsK Fence.wide 1 Try.prog x.1 x.2 (fun x => (encKV x).toArray) (KpT pairT) (fun xs => xs = handed back f t L) (fun pre => pre <+: handed back f t L) (flt f t L).length w') rfl ?_ ?_
  · cases back with
    | false =>
      repeat (first | ((with_reducible refine WL.topT ?_ ?_); omega) | ((with_reducible refine WL.topF ?_ ?_); omega) | ((with_reducible refine WL.top64 ?_ ?_); omega) | refine WC.seq ?_ | refine WC.block ?_ | refine WC.region ?_ | refine WL.nil ?_ | refine WC.skip ?_ | refine WC.exit ?_ | refine WC.ret ?_ | refine WQ.then rfl ?_ | refine WQ.thenExit ?_ | refine WQ.thenRet ?_ | refine WQ.blk ?_ | refine WQ.blkRet ?_ | refine WQ.blkHere rfl ?_ | refine WQ.blkOther rfl ?_ | refine WL.pure rfl rfl rfl rfl ?_ | refine WL.on rfl rfl ?_ | refine WL.off rfl rfl rfl ?_ | refine WC.condTrue rfl ?_ | refine WC.condFalse rfl ?_)
      refine WL.load rfl rfl rfl rfl rfl rfl (VBlk.cell v11' 0 (by simp)) ?_
      repeat (first | ((with_reducible refine WL.topT ?_ ?_); omega) | ((with_reducible refine WL.topF ?_ ?_); omega) | ((with_reducible refine WL.top64 ?_ ?_); omega) | refine WC.seq ?_ | refine WC.block ?_ | refine WC.region ?_ | refine WL.nil ?_ | refine WC.skip ?_ | refine WC.exit ?_ | refine WC.ret ?_ | refine WQ.then rfl ?_ | refine WQ.thenExit ?_ | refine WQ.thenRet ?_ | refine WQ.blk ?_ | refine WQ.blkRet ?_ | refine WQ.blkHere rfl ?_ | refine WQ.blkOther rfl ?_ | refine WL.pure rfl rfl rfl rfl ?_ | refine WL.on rfl rfl ?_ | refine WL.off rfl rfl rfl ?_ | refine WC.condTrue rfl ?_ | refine WC.condFalse rfl ?_)
      exact WQ.meet (_, _) ⟨rfl, rfl, rfl, rfl, rfl, rfl, rfl, trivial⟩ ⟨b10, enters_of Try.func28 (by kernel_rfl) rfl, hseq⟩
    | true =>
      repeat (first | ((with_reducible refine WL.topT ?_ ?_); omega) | ((with_reducible refine WL.topF ?_ ?_); omega) | ((with_reducible refine WL.top64 ?_ ?_); omega) | refine WC.seq ?_ | refine WC.block ?_ | refine WC.region ?_ | refine WL.nil ?_ | refine WC.skip ?_ | refine WC.exit ?_ | refine WC.ret ?_ | refine WQ.then rfl ?_ | refine WQ.thenExit ?_ | refine WQ.thenRet ?_ | refine WQ.blk ?_ | refine WQ.blkRet ?_ | refine WQ.blkHere rfl ?_ | refine WQ.blkOther rfl ?_ | refine WL.pure rfl rfl rfl rfl ?_ | refine WL.on rfl rfl ?_ | refine WL.off rfl rfl rfl ?_ | refine WC.condTrue rfl ?_ | refine WC.condFalse rfl ?_)
      refine WL.load rfl rfl rfl rfl rfl rfl (VBlk.cell v11' 0 (by simp)) ?_
      repeat (first | ((with_reducible refine WL.topT ?_ ?_); omega) | ((with_reducible refine WL.topF ?_ ?_); omega) | ((with_reducible refine WL.top64 ?_ ?_); omega) | refine WC.seq ?_ | refine WC.block ?_ | refine WC.region ?_ | refine WL.nil ?_ | refine WC.skip ?_ | refine WC.exit ?_ | refine WC.ret ?_ | refine WQ.then rfl ?_ | refine WQ.thenExit ?_ | refine WQ.thenRet ?_ | refine WQ.blk ?_ | refine WQ.blkRet ?_ | refine WQ.blkHere rfl ?_ | refine WQ.blkOther rfl ?_ | refine WL.pure rfl rfl rfl rfl ?_ | refine WL.on rfl rfl ?_ | refine WL.off rfl rfl rfl ?_ | refine WC.condTrue rfl ?_ | refine WC.condFalse rfl ?_)
      refine WL.call rfl rfl rfl rfl rfl Try.func13 rfl (by kernel_rfl) (tback_any (some ⟨tb, 0, none⟩) f t) ?_
      rintro _ w11 ⟨b11, p1, p2, p3, rfl, hc2⟩
      refine ⟨_, rfl, ?_⟩
      have htw2 := htw.below b11
      repeat (first | ((with_reducible refine WL.topT ?_ ?_); omega) | ((with_reducible refine WL.topF ?_ ?_); omega) | ((with_reducible refine WL.top64 ?_ ?_); omega) | refine WC.seq ?_ | refine WC.block ?_ | refine WC.region ?_ | refine WL.nil ?_ | refine WC.skip ?_ | refine WC.exit ?_ | refine WC.ret ?_ | refine WQ.then rfl ?_ | refine WQ.thenExit ?_ | refine WQ.thenRet ?_ | refine WQ.blk ?_ | refine WQ.blkRet ?_ | refine WQ.blkHere rfl ?_ | refine WQ.blkOther rfl ?_ | refine WL.pure rfl rfl rfl rfl ?_ | refine WL.on rfl rfl ?_ | refine WL.off rfl rfl rfl ?_ | refine WC.condTrue rfl ?_ | refine WC.condFalse rfl ?_)
      exact WQ.meet (_, _) ⟨rfl, rfl, rfl, rfl, rfl, rfl, rfl, trivial⟩ ⟨b10.trans (b11.mono b10.size), enters_of Try.func30 (by kernel_rfl) rfl,
        back1_any hc2 (L := flt f t L) (by omega) (fun W hW => tall_any (htw2.below hW) f t (by omega))⟩
  clear hc htw hseq v11' b10 w10
  rintro ⟨gfn, caps⟩ w12 ⟨b12, heg, hseq⟩
  simp only at heg hseq
  have u7 := VBlk.below v7 b12 (VBlk.lt v7)
  have u10 := VBlk.below v10 b12 (VBlk.lt v10)
  have u11 := VBlk.below v11 b12 (VBlk.lt v11)
  have u12 := VBlk.below v12 b12 (VBlk.lt v12)
  have u13 := VBlk.below v13 b12 (VBlk.lt v13)
  have u14 := VBlk.below v14 b12 (VBlk.lt v14)
  have bw12 := b9.trans (b12.mono b9.size)
  clear v7 v10 v11 v12 v13 v14 b9
  repeat (first | ((with_reducible refine WL.topT ?_ ?_); omega) | ((with_reducible refine WL.topF ?_ ?_); omega) | ((with_reducible refine WL.top64 ?_ ?_); omega) | refine WC.seq ?_ | refine WC.block ?_ | refine WC.region ?_ | refine WL.nil ?_ | refine WC.skip ?_ | refine WC.exit ?_ | refine WC.ret ?_ | refine WQ.then rfl ?_ | refine WQ.thenExit ?_ | refine WQ.thenRet ?_ | refine WQ.blk ?_ | refine WQ.blkRet ?_ | refine WQ.blkHere rfl ?_ | refine WQ.blkOther rfl ?_ | refine WL.pure rfl rfl rfl rfl ?_ | refine WL.on rfl rfl ?_ | refine WL.off rfl rfl rfl ?_ | refine WC.condTrue rfl ?_ | refine WC.condFalse rfl ?_)
  refine WL.nilF rfl rfl rfl rfl rfl rfl ?_
  repeat (first | ((with_reducible refine WL.topT ?_ ?_); omega) | ((with_reducible refine WL.topF ?_ ?_); omega) | ((with_reducible refine WL.top64 ?_ ?_); omega) | refine WC.seq ?_ | refine WC.block ?_ | refine WC.region ?_ | refine WL.nil ?_ | refine WC.skip ?_ | refine WC.exit ?_ | refine WC.ret ?_ | refine WQ.then rfl ?_ | refine WQ.thenExit ?_ | refine WQ.thenRet ?_ | refine WQ.blk ?_ | refine WQ.blkRet ?_ | refine WQ.blkHere rfl ?_ | refine WQ.blkOther rfl ?_ | refine WL.pure rfl rfl rfl rfl ?_ | refine WL.on rfl rfl ?_ | refine WL.off rfl rfl rfl ?_ | refine WC.condTrue rfl ?_ | refine WC.condFalse rfl ?_)
  refine WL.alloc (z := .int .i64 0) rfl rfl rfl rfl (fun _ => by kernel_rfl) fun g16 w13 f13 => ?_
  have e13 := f13.eq
  have z13 := f13.size
  have v16a : VBlk itI w13 g16 [.int .i64 0] := f13.blk
  have u7' := VBlk.below u7 f13.below (VBlk.lt u7)
  have u10' := VBlk.below u10 f13.below (VBlk.lt u10)
  have u11' := VBlk.below u11 f13.below (VBlk.lt u11)
  have u12' := VBlk.below u12 f13.below (VBlk.lt u12)
  have u13' := VBlk.below u13 f13.below (VBlk.lt u13)
  have u14' := VBlk.below u14 f13.below (VBlk.lt u14)
  have hlt12 := VBlk.lt u12
  have hlt14 := VBlk.lt u14
  have k13 : Keep (fun x => x < w12.heap.size) w12 w13 := Keep.of_below f13.below
  clear f13 u7 u10 u11 u12 u13 u14
  refine WL.store rfl rfl rfl rfl rfl rfl (by kernel_rfl) (VBlk.cell v16a 0 (by simp)) (VBlk.free v16a 0) ?_
  have v16 := VBlk.set v16a 0 (.int .i64 0)
  have k14 := k13.setCell (p := ⟨g16, 0, none⟩) (by show ¬ g16 < _; omega) (.int .i64 0)
  have x14 : Keep (fun b => b ≠ g16) w13 (w13.setCell ⟨g16, 0, none⟩ (.int .i64 0)) := (Keep.refl _ _).setCell (p := ⟨g16, 0, none⟩) (by simp) _
  generalize w13.setCell ⟨g16, 0, none⟩ (.int .i64 0) = w14 at v16 k14 x14 ⊢
  have v7 := VBlk.keep u7' x14 (by show g7 ≠ g16; omega)
  have v10 := VBlk.keep u10' x14 (by show g10 ≠ g16; omega)
  have v11 := VBlk.keep u11' x14 (by show g11 ≠ g16; omega)
  have v12 := VBlk.keep u12' x14 (by show g12 ≠ g16; omega)
  have v13 := VBlk.keep u13' x14 (by show g13 ≠ g16; omega)
  have v14 := VBlk.keep u14' x14 (by show g14 ≠ g16; omega)
  have hseq14 := seq_below hseq k14.below
  have bw14 : Below w.heap.size w w14 := bw12.trans (k14.below.mono bw12.size)
  have hlt16 := VBlk.lt v16
  clear hseq u7' u10' u11' u12' u13' u14' k13 k14 x14 v16a bw12
  repeat (first | ((with_reducible refine WL.topT ?_ ?_); omega) | ((with_reducible refine WL.topF ?_ ?_); omega) | ((with_reducible refine WL.top64 ?_ ?_); omega) | refine WC.seq ?_ | refine WC.region ?_ | refine WL.nil ?_ | refine WC.skip ?_ | refine WC.exit ?_ | refine WC.ret ?_ | refine WQ.then rfl ?_ | refine WQ.thenExit ?_ | refine WQ.thenRet ?_ | refine WQ.blk ?_ | refine WQ.blkRet ?_ | refine WQ.blkHere rfl ?_ | refine WQ.blkOther rfl ?_ | refine WL.pure rfl rfl rfl rfl ?_ | refine WL.on rfl rfl ?_ | refine WL.off rfl rfl rfl ?_ | refine WL.load rfl rfl rfl rfl rfl rfl (by assumption) ?_ | refine WC.condTrue rfl ?_ | refine WC.condFalse rfl ?_)
  refine WC.block ?_
  refine WC.rangeF rfl heg hseq14 (fun _ => rfl) rfl
    (fun pre W => Keep (fun b => b < w14.heap.size ∧ b ≠ g12 ∧ b ≠ g16) w14 W ∧ VBlk itB W g12 [.bool false] ∧ VBlk itI W g16 [.int .i64 pre.length])
    (fun c xs W => c = .ret ∧ Keep (fun b => b < w14.heap.size ∧ b ≠ g12 ∧ b ≠ g16) w14 W ∧ ∃ bb, VBlk itB W g12 [.bool bb] ∧ (bb = false → ¬ xs <+: handed back f t L)) ?_ ?_ ⟨Keep.refl _ _, v12, v16⟩
    (fun x => [(7, .pointer (some ⟨g7, 0, none⟩)), (10, .pointer (some ⟨g10, 0, none⟩)), (11, .pointer (some ⟨g11, 0, none⟩)), (12, .pointer (some ⟨g12, 0, none⟩)), (13, .pointer (some ⟨g13, 0, none⟩)), (14, .pointer (some ⟨g14, 0, none⟩)), (16, .pointer (some ⟨g16, 0, none⟩)), (17, .string x.1), (18, .int .i64 x.2)]) ?_ ?_ ?_ ?_
  · refine own_stays fun pre W W' h hk => ⟨h.1.trans (hk.mono fun b hb => .inl ⟨hb.1, by have := h.1.size; omega⟩), VBlk.keep h.2.1 hk (.inr (VBlk.isC h.2.1)), VBlk.keep h.2.2 hk (.inr (VBlk.isC h.2.2))⟩
  · intro c
    refine own_stays fun xs W W' h hk => ?_
    obtain ⟨h1, h2, bb, h3, h4⟩ := h
    exact ⟨h1, h2.trans (hk.mono fun b hb => .inl ⟨hb.1, by have := h2.size; omega⟩), bb, VBlk.keep h3 hk (.inr (VBlk.isC h3)), h4⟩
  · intro lp x W
    repeat (first | ((with_reducible refine WL.topT ?_ ?_); omega) | ((with_reducible refine WL.topF ?_ ?_); omega) | ((with_reducible refine WL.top64 ?_ ?_); omega) | refine WC.seq ?_ | refine WC.block ?_ | refine WC.region ?_ | refine WL.nil ?_ | refine WC.skip ?_ | refine WC.exit ?_ | refine WC.ret ?_ | refine WQ.then rfl ?_ | refine WQ.thenExit ?_ | refine WQ.thenRet ?_ | refine WQ.blk ?_ | refine WQ.blkRet ?_ | refine WQ.blkHere rfl ?_ | refine WQ.blkOther rfl ?_ | refine WL.pure rfl rfl rfl rfl ?_ | refine WL.on rfl rfl ?_ | refine WL.off rfl rfl rfl ?_ | refine WC.condTrue rfl ?_ | refine WC.condFalse rfl ?_)
    exact WQ.meet () ⟨rfl, rfl, rfl, rfl, rfl, rfl, rfl, rfl, rfl, trivial⟩ rfl
  · rintro lp pre x W - - ⟨k1, q12, q16⟩ hlen
    have hfl2 : (flt f t L).length = k - i := by rw [hpc, List.length_take, List.length_drop]; omega
    rw [hfl2] at hlen
    have q7 := VBlk.keep v7 k1 ⟨by omega, by omega, by omega⟩
    have q10 := VBlk.keep v10 k1 ⟨by omega, by omega, by omega⟩
    have q11 := VBlk.keep v11 k1 ⟨by omega, by omega, by omega⟩
    have q13 := VBlk.keep v13 k1 ⟨by omega, by omega, by omega⟩
    have q14 := VBlk.keep v14 k1 ⟨by omega, by omega, by omega⟩
    have c7 : W.cell? ⟨g7, 0, none⟩ = some (.pointer (some ⟨rb, 0, none⟩)) := VBlk.cell q7 0 (by simp)
    have c10 : W.cell? ⟨g10, 0, none⟩ = some (.int .i64 n) := VBlk.cell q10 0 (by simp)
    have c11 : W.cell? ⟨g11, 0, none⟩ = some (.bool back) := VBlk.cell q11 0 (by simp)
    have c13 : W.cell? ⟨g13, 0, none⟩ = some (.int .i64 i) := VBlk.cell q13 0 (by simp)
    have c14 : W.cell? ⟨g14, 0, none⟩ = some (.int .i64 k) := VBlk.cell q14 0 (by simp)
    have c16 : W.cell? ⟨g16, 0, none⟩ = some (.int .i64 pre.length) := VBlk.cell q16 0 (by simp)
    have hbW : Below w.heap.size w W := bw14.trans ((k1.mono fun b (hb : b < w.heap.size) => ⟨by have := bw14.size; omega, by omega, by omega⟩ : Keep (fun b => b < w.heap.size) w14 W).below)
    have hrW := hr.below hbW
    have hlt := VBlk.lt q12
    have hcells : ∀ {b : Nat} {ob : Obj} {T q : Nat} {cs : List Value}, W.heap[b]? = some ob → ob.isCells = false → VBlk T W q cs → b ≠ q := fun hb hc hv e => by
      subst e
      obtain ⟨_, _, _, h2⟩ := VBlk.isC hv
      rw [hb] at h2
      obtain rfl := Option.some.inj h2
      cases hc
    have hst : ∀ bb : Bool, KeepsFrom w14.heap.size W (W.setCell ⟨g12, 0, none⟩ (.bool bb)) ∧ Keep (fun b => b < w14.heap.size ∧ b ≠ g12 ∧ b ≠ g16) w14 (W.setCell ⟨g12, 0, none⟩ (.bool bb)) ∧ VBlk itB (W.setCell ⟨g12, 0, none⟩ (.bool bb)) g12 [.bool bb] := fun bb => by
      have kk : Keep (fun b => b ≠ g12) W (W.setCell ⟨g12, 0, none⟩ (.bool bb)) := (Keep.refl _ _).setCell (p := ⟨g12, 0, none⟩) (by simp) _
      exact ⟨keepsFrom kk fun b o _ hb hc => hcells hb hc q12, k1.trans (kk.mono fun b hb => hb.2.1), VBlk.set q12 0 (.bool bb)⟩
    refine WC.block ?_
    refine WC.seq ?_
    refine WC.mid (fun _ : Unit => [(7, .pointer (some ⟨g7, 0, none⟩)), (11, .pointer (some ⟨g11, 0, none⟩)), (12, .pointer (some ⟨g12, 0, none⟩)), (13, .pointer (some ⟨g13, 0, none⟩)), (14, .pointer (some ⟨g14, 0, none⟩)), (16, .pointer (some ⟨g16, 0, none⟩)), (17, .string x.1), (18, .int .i64 x.2)])
      (fun _ W' => W' = W) rfl ?_ ?_
    · by_cases hn0 : 0 ≤ n
      · by_cases hnc : n ≤ pre.length
        · repeat (first | ((with_reducible refine WL.topT ?_ ?_); omega) | ((with_reducible refine WL.topF ?_ ?_); omega) | ((with_reducible refine WL.top64 ?_ ?_); omega) | refine WC.seq ?_ | refine WC.block ?_ | refine WC.region ?_ | refine WL.nil ?_ | refine WC.skip ?_ | refine WC.exit ?_ | refine WC.ret ?_ | refine WQ.then rfl ?_ | refine WQ.thenExit ?_ | refine WQ.thenRet ?_ | refine WQ.blk ?_ | refine WQ.blkRet ?_ | refine WQ.blkHere rfl ?_ | refine WQ.blkOther rfl ?_ | refine WL.pure rfl rfl rfl rfl ?_ | refine WL.on rfl rfl ?_ | refine WL.off rfl rfl rfl ?_ | refine WL.load rfl rfl rfl rfl rfl rfl (by assumption) ?_ | refine WC.condTrue rfl ?_ | refine WC.condFalse rfl ?_)
          refine WL.store rfl rfl rfl rfl rfl rfl (by kernel_rfl) (VBlk.cell q12 0 (by simp)) (VBlk.free q12 0) ?_
          repeat (first | ((with_reducible refine WL.topT ?_ ?_); omega) | ((with_reducible refine WL.topF ?_ ?_); omega) | ((with_reducible refine WL.top64 ?_ ?_); omega) | refine WC.seq ?_ | refine WC.block ?_ | refine WC.region ?_ | refine WL.nil ?_ | refine WC.skip ?_ | refine WC.exit ?_ | refine WC.ret ?_ | refine WQ.then rfl ?_ | refine WQ.thenExit ?_ | refine WQ.thenRet ?_ | refine WQ.blk ?_ | refine WQ.blkRet ?_ | refine WQ.blkHere rfl ?_ | refine WQ.blkOther rfl ?_ | refine WL.pure rfl rfl rfl rfl ?_ | refine WL.on rfl rfl ?_ | refine WL.off rfl rfl rfl ?_ | refine WC.condTrue rfl ?_ | refine WC.condFalse rfl ?_)
          exact ⟨fun _ _ => ⟨(hst true).1, rfl, (hst true).2.1, true, (hst true).2.2, fun h => by cases h⟩⟩
        · repeat (first | ((with_reducible refine WL.topT ?_ ?_); omega) | ((with_reducible refine WL.topF ?_ ?_); omega) | ((with_reducible refine WL.top64 ?_ ?_); omega) | refine WC.seq ?_ | refine WC.block ?_ | refine WC.region ?_ | refine WL.nil ?_ | refine WC.skip ?_ | refine WC.exit ?_ | refine WC.ret ?_ | refine WQ.then rfl ?_ | refine WQ.thenExit ?_ | refine WQ.thenRet ?_ | refine WQ.blk ?_ | refine WQ.blkRet ?_ | refine WQ.blkHere rfl ?_ | refine WQ.blkOther rfl ?_ | refine WL.pure rfl rfl rfl rfl ?_ | refine WL.on rfl rfl ?_ | refine WL.off rfl rfl rfl ?_ | refine WL.load rfl rfl rfl rfl rfl rfl (by assumption) ?_ | refine WC.condTrue rfl ?_ | refine WC.condFalse rfl ?_)
          exact WQ.meet () ⟨rfl, rfl, rfl, rfl, rfl, rfl, rfl, rfl, trivial⟩ rfl
      · repeat (first | ((with_reducible refine WL.topT ?_ ?_); omega) | ((with_reducible refine WL.topF ?_ ?_); omega) | ((with_reducible refine WL.top64 ?_ ?_); omega) | refine WC.seq ?_ | refine WC.block ?_ | refine WC.region ?_ | refine WL.nil ?_ | refine WC.skip ?_ | refine WC.exit ?_ | refine WC.ret ?_ | refine WQ.then rfl ?_ | refine WQ.thenExit ?_ | refine WQ.thenRet ?_ | refine WQ.blk ?_ | refine WQ.blkRet ?_ | refine WQ.blkHere rfl ?_ | refine WQ.blkOther rfl ?_ | refine WL.pure rfl rfl rfl rfl ?_ | refine WL.on rfl rfl ?_ | refine WL.off rfl rfl rfl ?_ | refine WL.load rfl rfl rfl rfl rfl rfl (by assumption) ?_ | refine WC.condTrue rfl ?_ | refine WC.condFalse rfl ?_)
        exact WQ.meet () ⟨rfl, rfl, rfl, rfl, rfl, rfl, rfl, rfl, trivial⟩ rfl
    rintro ⟨⟩ W' hW
    obtain rfl : W = W' := hW.symm
    clear hW
    obtain ⟨c, hcp⟩ : ∃ c, c = pre.length := ⟨_, rfl⟩
    rw [← hcp] at hlen c16 q16
    obtain ⟨j, hj⟩ : ∃ j, j = (bif back then k - 1 - c else i + c) := ⟨_, rfl⟩
    have hkL : k ≤ L.length := by omega
    have hjr : i ≤ j ∧ j < k := by cases back <;> simp at hj <;> omega
    refine WC.seq ?_
    refine WC.region ?_
    refine WL.load rfl rfl rfl rfl rfl rfl c13 ?_
    refine WL.load rfl rfl rfl rfl rfl rfl c16 ?_
    (refine WL.pure rfl rfl rfl rfl ?_; try (first | ((with_reducible refine WL.topT ?_ ?_); omega) | ((with_reducible refine WL.topF ?_ ?_); omega) | ((with_reducible refine WL.top64 ?_ ?_); omega)))
    refine WL.pure rfl rfl rfl rfl ?_
    refine WL.nil ?_
    refine WQ.then rfl ?_
    refine WC.seq ?_
    refine WC.mid (fun _ : Unit => [(7, .pointer (some ⟨g7, 0, none⟩)), (12, .pointer (some ⟨g12, 0, none⟩)), (13, .pointer (some ⟨g13, 0, none⟩)), (14, .pointer (some ⟨g14, 0, none⟩)), (16, .pointer (some ⟨g16, 0, none⟩)), (17, .string x.1), (18, .int .i64 x.2), (19, .int .i64 j)])
      (fun _ W' => W' = W) rfl ?_ ?_
    · cases back with
      | false =>
        have hj' : (i : Int) + c = j := by simp at hj; omega
        repeat (first | ((with_reducible refine WL.topT ?_ ?_); omega) | ((with_reducible refine WL.topF ?_ ?_); omega) | ((with_reducible refine WL.top64 ?_ ?_); omega) | refine WC.seq ?_ | refine WC.block ?_ | refine WC.region ?_ | refine WL.nil ?_ | refine WC.skip ?_ | refine WC.exit ?_ | refine WC.ret ?_ | refine WQ.then rfl ?_ | refine WQ.thenExit ?_ | refine WQ.thenRet ?_ | refine WQ.blk ?_ | refine WQ.blkRet ?_ | refine WQ.blkHere rfl ?_ | refine WQ.blkOther rfl ?_ | refine WL.pure rfl rfl rfl rfl ?_ | refine WL.on rfl rfl ?_ | refine WL.off rfl rfl rfl ?_ | refine WL.load rfl rfl rfl rfl rfl rfl (by assumption) ?_ | refine WC.condTrue rfl ?_ | refine WC.condFalse rfl ?_)
        refine WQ.meet () ⟨rfl, rfl, rfl, rfl, rfl, rfl, rfl, congrArg (fun z => some (Value.int .i64 z)) hj', trivial⟩ rfl
      | true =>
        have hj' : (k : Int) - 1 - c = j := by simp at hj; omega
        repeat (first | ((with_reducible refine WL.topT ?_ ?_); omega) | ((with_reducible refine WL.topF ?_ ?_); omega) | ((with_reducible refine WL.top64 ?_ ?_); omega) | refine WC.seq ?_ | refine WC.block ?_ | refine WC.region ?_ | refine WL.nil ?_ | refine WC.skip ?_ | refine WC.exit ?_ | refine WC.ret ?_ | refine WQ.then rfl ?_ | refine WQ.thenExit ?_ | refine WQ.thenRet ?_ | refine WQ.blk ?_ | refine WQ.blkRet ?_ | refine WQ.blkHere rfl ?_ | refine WQ.blkOther rfl ?_ | refine WL.pure rfl rfl rfl rfl ?_ | refine WL.on rfl rfl ?_ | refine WL.off rfl rfl rfl ?_ | refine WL.load rfl rfl rfl rfl rfl rfl (by assumption) ?_ | refine WC.condTrue rfl ?_ | refine WC.condFalse rfl ?_)
        refine WQ.meet () ⟨rfl, rfl, rfl, rfl, rfl, rfl, rfl, congrArg (fun z => some (Value.int .i64 z)) hj', trivial⟩ rfl
    rintro ⟨⟩ W' hW
    obtain rfl : W = W' := hW.symm
    clear hW
    have hpre : (pre ++ [x]) <+: handed back f t L → x = L.getD j zKV := fun hp => by
      obtain ⟨r, hr2⟩ := hp
      have h1 : (handed back f t L)[c]? = some x := by
        rw [← hr2, List.append_assoc, hcp, List.getElem?_append_right (Nat.le_refl _), Nat.sub_self]
        rfl
      have h2 : (handed back f t L)[c]? = some (L.getD j zKV) := by
        have hjL : j < L.length := by omega
        rw [List.getD_eq_getElem?_getD, List.getElem?_eq_getElem hjL]
        unfold handed
        cases back with
        | false =>
          have hj2 : j = i + c := by simpa using hj
          show (flt f t L)[c]? = _
          rw [hpc, List.getElem?_take_of_lt (by omega), List.getElem?_drop, ← hj2, List.getElem?_eq_getElem hjL]
          rfl
        | true =>
          have hj2 : j = k - 1 - c := by simpa using hj
          show ((flt f t L).reverse)[c]? = _
          rw [List.getElem?_reverse (by omega), hfl2, hpc, List.getElem?_take_of_lt (by omega), List.getElem?_drop, show i + (k - i - 1 - c) = j by omega, List.getElem?_eq_getElem hjL]
          rfl
      rw [h1] at h2
      exact Option.some.inj h2
    obtain ⟨-, vk, vn, hv, hk2, hn2⟩ := id hrW
    obtain ⟨gk, ck, rfl⟩ := own_form hk2 (by omega)
    obtain ⟨gn, cn, rfl⟩ := own_form hn2 (by omega)
    have d0 : W.cell? ⟨rb, 0, none⟩ = some (.slice (some ⟨gk, 0, none⟩) L.length ck) := hv.cell 0 (by simp)
    have d1 : W.cell? ⟨rb, 1, none⟩ = some (.slice (some ⟨gn, 0, none⟩) L.length cn) := hv.cell 1 (by simp)
    have ck2 := hk2.at j (by rw [List.length_map]; omega)
    rw [mapk_getD L (by omega)] at ck2
    have cn2 := hn2.at j (by rw [List.length_map]; omega)
    rw [mapn_getD L (by omega)] at cn2
    generalize L.getD j zKV = y at ck2 cn2 hpre
    have bad : ¬ ((pre ++ [x]) <+: handed back f t L) → True := fun _ => trivial
    clear bad
    refine WC.seq ?_
    repeat (first | ((with_reducible refine WL.topT ?_ ?_); omega) | ((with_reducible refine WL.topF ?_ ?_); omega) | ((with_reducible refine WL.top64 ?_ ?_); omega) | refine WC.seq ?_ | refine WC.block ?_ | refine WC.region ?_ | refine WL.nil ?_ | refine WC.skip ?_ | refine WC.exit ?_ | refine WC.ret ?_ | refine WQ.then rfl ?_ | refine WQ.thenExit ?_ | refine WQ.thenRet ?_ | refine WQ.blk ?_ | refine WQ.blkRet ?_ | refine WQ.blkHere rfl ?_ | refine WQ.blkOther rfl ?_ | refine WL.pure rfl rfl rfl rfl ?_ | refine WL.on rfl rfl ?_ | refine WL.off rfl rfl rfl ?_ | refine WL.load rfl rfl rfl rfl rfl rfl (by assumption) ?_ | refine WC.condTrue rfl ?_ | refine WC.condFalse rfl ?_)
    refine WL.idx j j rfl rfl rfl rfl rfl rfl rfl rfl (by omega) (by omega) ?_
    refine WL.on rfl rfl ?_
    refine WL.load rfl rfl rfl rfl rfl rfl ck2 ?_
    repeat (first | ((with_reducible refine WL.topT ?_ ?_); omega) | ((with_reducible refine WL.topF ?_ ?_); omega) | ((with_reducible refine WL.top64 ?_ ?_); omega) | refine WC.seq ?_ | refine WC.block ?_ | refine WC.region ?_ | refine WL.nil ?_ | refine WC.skip ?_ | refine WC.exit ?_ | refine WC.ret ?_ | refine WQ.then rfl ?_ | refine WQ.thenExit ?_ | refine WQ.thenRet ?_ | refine WQ.blk ?_ | refine WQ.blkRet ?_ | refine WQ.blkHere rfl ?_ | refine WQ.blkOther rfl ?_ | refine WL.pure rfl rfl rfl rfl ?_ | refine WL.on rfl rfl ?_ | refine WL.off rfl rfl rfl ?_ | refine WC.condTrue rfl ?_ | refine WC.condFalse rfl ?_)
    cases hky : (x.1.toList == y.1.toList) with
    | false =>
      repeat (first | ((with_reducible refine WL.topT ?_ ?_); omega) | ((with_reducible refine WL.topF ?_ ?_); omega) | ((with_reducible refine WL.top64 ?_ ?_); omega) | refine WC.seq ?_ | refine WC.block ?_ | refine WC.region ?_ | refine WL.nil ?_ | refine WC.skip ?_ | refine WC.exit ?_ | refine WC.ret ?_ | refine WQ.then rfl ?_ | refine WQ.thenExit ?_ | refine WQ.thenRet ?_ | refine WQ.blk ?_ | refine WQ.blkRet ?_ | refine WQ.blkHere rfl ?_ | refine WQ.blkOther rfl ?_ | refine WL.pure rfl rfl rfl rfl ?_ | refine WL.on rfl rfl ?_ | refine WL.off rfl rfl rfl ?_ | refine WC.condTrue rfl ?_ | refine WC.condFalse rfl ?_)
      refine WL.store rfl rfl rfl rfl rfl rfl (by kernel_rfl) (VBlk.cell q12 0 (by simp)) (VBlk.free q12 0) ?_
      repeat (first | ((with_reducible refine WL.topT ?_ ?_); omega) | ((with_reducible refine WL.topF ?_ ?_); omega) | ((with_reducible refine WL.top64 ?_ ?_); omega) | refine WC.seq ?_ | refine WC.block ?_ | refine WC.region ?_ | refine WL.nil ?_ | refine WC.skip ?_ | refine WC.exit ?_ | refine WC.ret ?_ | refine WQ.then rfl ?_ | refine WQ.thenExit ?_ | refine WQ.thenRet ?_ | refine WQ.blk ?_ | refine WQ.blkRet ?_ | refine WQ.blkHere rfl ?_ | refine WQ.blkOther rfl ?_ | refine WL.pure rfl rfl rfl rfl ?_ | refine WL.on rfl rfl ?_ | refine WL.off rfl rfl rfl ?_ | refine WC.condTrue rfl ?_ | refine WC.condFalse rfl ?_)
      exact ⟨fun _ _ => ⟨(hst false).1, rfl, (hst false).2.1, false, (hst false).2.2, fun _ hp => by rw [hpre hp] at hky; simp at hky⟩⟩
    | true =>
      repeat (first | ((with_reducible refine WL.topT ?_ ?_); omega) | ((with_reducible refine WL.topF ?_ ?_); omega) | ((with_reducible refine WL.top64 ?_ ?_); omega) | refine WC.seq ?_ | refine WC.block ?_ | refine WC.region ?_ | refine WL.nil ?_ | refine WC.skip ?_ | refine WC.exit ?_ | refine WC.ret ?_ | refine WQ.then rfl ?_ | refine WQ.thenExit ?_ | refine WQ.thenRet ?_ | refine WQ.blk ?_ | refine WQ.blkRet ?_ | refine WQ.blkHere rfl ?_ | refine WQ.blkOther rfl ?_ | refine WL.pure rfl rfl rfl rfl ?_ | refine WL.on rfl rfl ?_ | refine WL.off rfl rfl rfl ?_ | refine WL.load rfl rfl rfl rfl rfl rfl (by assumption) ?_ | refine WC.condTrue rfl ?_ | refine WC.condFalse rfl ?_)
      refine WL.idx j j rfl rfl rfl rfl rfl rfl rfl rfl (by omega) (by omega) ?_
      refine WL.on rfl rfl ?_
      refine WL.load rfl rfl rfl rfl rfl rfl cn2 ?_
      by_cases hnn : x.2 = y.2
      · repeat (first | ((with_reducible refine WL.topT ?_ ?_); omega) | ((with_reducible refine WL.topF ?_ ?_); omega) | ((with_reducible refine WL.top64 ?_ ?_); omega) | refine WC.seq ?_ | refine WC.block ?_ | refine WC.region ?_ | refine WL.nil ?_ | refine WC.skip ?_ | refine WC.exit ?_ | refine WC.ret ?_ | refine WQ.then rfl ?_ | refine WQ.thenExit ?_ | refine WQ.thenRet ?_ | refine WQ.blk ?_ | refine WQ.blkRet ?_ | refine WQ.blkHere rfl ?_ | refine WQ.blkOther rfl ?_ | refine WL.pure rfl rfl rfl rfl ?_ | refine WL.on rfl rfl ?_ | refine WL.off rfl rfl rfl ?_ | refine WL.load rfl rfl rfl rfl rfl rfl (by assumption) ?_ | refine WC.condTrue rfl ?_ | refine WC.condFalse rfl ?_)
        refine WL.store rfl rfl rfl rfl rfl rfl (by kernel_rfl) (VBlk.cell q16 0 (by simp)) (VBlk.free q16 0) ?_
        have kk : Keep (fun b => b ≠ g16) W (W.setCell ⟨g16, 0, none⟩ (.int .i64 (c + 1))) := (Keep.refl _ _).setCell (p := ⟨g16, 0, none⟩) (by simp) _
        have r12 := VBlk.keep q12 kk (by show g12 ≠ g16; omega)
        have r16 := VBlk.set q16 0 (.int .i64 (c + 1))
        repeat (first | ((with_reducible refine WL.topT ?_ ?_); omega) | ((with_reducible refine WL.topF ?_ ?_); omega) | ((with_reducible refine WL.top64 ?_ ?_); omega) | refine WC.seq ?_ | refine WC.block ?_ | refine WC.region ?_ | refine WL.nil ?_ | refine WC.skip ?_ | refine WC.exit ?_ | refine WC.ret ?_ | refine WQ.then rfl ?_ | refine WQ.thenExit ?_ | refine WQ.thenRet ?_ | refine WQ.blk ?_ | refine WQ.blkRet ?_ | refine WQ.blkHere rfl ?_ | refine WQ.blkOther rfl ?_ | refine WL.pure rfl rfl rfl rfl ?_ | refine WL.on rfl rfl ?_ | refine WL.off rfl rfl rfl ?_ | refine WC.condTrue rfl ?_ | refine WC.condFalse rfl ?_)
        refine ⟨fun _ _ => ⟨keepsFrom kk fun b o _ hb hc => hcells hb hc q16, KpT.keep kk fun b cur y hb e => ?_, k1.trans (kk.mono fun b hb => hb.2.2), r12, ?_⟩⟩
        · have h2 : W.heap[g16]? = some (.cells [Value.int .i64 (c : Int)].toArray itI (0, 0)) := q16
          rw [← e, hb] at h2
          injection h2 with h2
          injection h2 with _ h2 _
          exact absurd h2 (by decide)
        · rw [List.length_append, ← hcp]; exact r16
      · repeat (first | ((with_reducible refine WL.topT ?_ ?_); omega) | ((with_reducible refine WL.topF ?_ ?_); omega) | ((with_reducible refine WL.top64 ?_ ?_); omega) | refine WC.seq ?_ | refine WC.block ?_ | refine WC.region ?_ | refine WL.nil ?_ | refine WC.skip ?_ | refine WC.exit ?_ | refine WC.ret ?_ | refine WQ.then rfl ?_ | refine WQ.thenExit ?_ | refine WQ.thenRet ?_ | refine WQ.blk ?_ | refine WQ.blkRet ?_ | refine WQ.blkHere rfl ?_ | refine WQ.blkOther rfl ?_ | refine WL.pure rfl rfl rfl rfl ?_ | refine WL.on rfl rfl ?_ | refine WL.off rfl rfl rfl ?_ | refine WC.condTrue rfl ?_ | refine WC.condFalse rfl ?_)
        refine WL.store rfl rfl rfl rfl rfl rfl (by kernel_rfl) (VBlk.cell q12 0 (by simp)) (VBlk.free q12 0) ?_
        repeat (first | ((with_reducible refine WL.topT ?_ ?_); omega) | ((with_reducible refine WL.topF ?_ ?_); omega) | ((with_reducible refine WL.top64 ?_ ?_); omega) | refine WC.seq ?_ | refine WC.block ?_ | refine WC.region ?_ | refine WL.nil ?_ | refine WC.skip ?_ | refine WC.exit ?_ | refine WC.ret ?_ | refine WQ.then rfl ?_ | refine WQ.thenExit ?_ | refine WQ.thenRet ?_ | refine WQ.blk ?_ | refine WQ.blkRet ?_ | refine WQ.blkHere rfl ?_ | refine WQ.blkOther rfl ?_ | refine WL.pure rfl rfl rfl rfl ?_ | refine WL.on rfl rfl ?_ | refine WL.off rfl rfl rfl ?_ | refine WC.condTrue rfl ?_ | refine WC.condFalse rfl ?_)
        exact ⟨fun _ _ => ⟨(hst false).1, rfl, (hst false).2.1, false, (hst false).2.2, fun _ hp => hnn (by rw [hpre hp])⟩⟩
  · rintro D xs W hD rfl ⟨k1, q12, q16⟩ hm
    have hlen : (handed back f t L).length = k - i := by
      unfold handed
      cases back <;> simp [hpc, List.length_take, List.length_drop] <;> omega
    rw [hlen] at q16
    have q13 := VBlk.keep v13 k1 ⟨by omega, by omega, by omega⟩
    have q14 := VBlk.keep v14 k1 ⟨by omega, by omega, by omega⟩
    have c13 : W.cell? ⟨g13, 0, none⟩ = some (.int .i64 i) := VBlk.cell q13 0 (by simp)
    have c14 : W.cell? ⟨g14, 0, none⟩ = some (.int .i64 k) := VBlk.cell q14 0 (by simp)
    have c16 : W.cell? ⟨g16, 0, none⟩ = some (.int .i64 ((k - i : Nat) : Int)) := VBlk.cell q16 0 (by simp)
    have hki : i ≤ k := by omega
    repeat (first | ((with_reducible refine WL.topT ?_ ?_); omega) | ((with_reducible refine WL.topF ?_ ?_); omega) | ((with_reducible refine WL.top64 ?_ ?_); omega) | refine WC.seq ?_ | refine WC.block ?_ | refine WC.region ?_ | refine WL.nil ?_ | refine WC.skip ?_ | refine WC.exit ?_ | refine WC.ret ?_ | refine WQ.then rfl ?_ | refine WQ.thenExit ?_ | refine WQ.thenRet ?_ | refine WQ.blk ?_ | refine WQ.blkRet ?_ | refine WQ.blkHere rfl ?_ | refine WQ.blkOther rfl ?_ | refine WL.pure rfl rfl rfl rfl ?_ | refine WL.on rfl rfl ?_ | refine WL.off rfl rfl rfl ?_ | refine WL.load rfl rfl rfl rfl rfl rfl (by assumption) ?_ | refine WC.condTrue rfl ?_ | refine WC.condFalse rfl ?_)
    refine WL.store rfl rfl rfl rfl rfl rfl (by kernel_rfl) (VBlk.cell q12 0 (by simp)) (VBlk.free q12 0) ?_
    have r12 := VBlk.set q12 0 (.bool true)
    have k2 : Keep (fun b => b ≠ g12) W (W.setCell ⟨g12, 0, none⟩ (.bool true)) := (Keep.refl _ _).setCell (p := ⟨g12, 0, none⟩) (by simp) _
    have hne : D ≠ g12 := by omega
    have hm2 := (k2.block D hne).trans hm
    generalize W.setCell ⟨g12, 0, none⟩ (.bool true) = W2 at r12 k2 hm2 ⊢
    have m1 : MarkAt W2 [D] := ⟨by simp, fun E hE => (by simpa using hE : E = D) ▸ hm2⟩
    have hks := shut_keep [D] W2
    repeat (first | ((with_reducible refine WL.topT ?_ ?_); omega) | ((with_reducible refine WL.topF ?_ ?_); omega) | ((with_reducible refine WL.top64 ?_ ?_); omega) | refine WC.seq ?_ | refine WC.block ?_ | refine WC.region ?_ | refine WL.nil ?_ | refine WC.skip ?_ | refine WC.exit ?_ | refine WC.ret ?_ | refine WQ.then rfl ?_ | refine WQ.thenExit ?_ | refine WQ.thenRet ?_ | refine WQ.blk ?_ | refine WQ.blkRet ?_ | refine WQ.blkHere rfl ?_ | refine WQ.blkOther rfl ?_ | refine WL.pure rfl rfl rfl rfl ?_ | refine WL.on rfl rfl ?_ | refine WL.off rfl rfl rfl ?_ | refine WC.condTrue rfl ?_ | refine WC.condFalse rfl ?_)
    refine WQ.retMC (v := .bool true) [D] rfl rfl rfl m1 ((hks.cell (p := ⟨g12, 0, none⟩) (shut_isC m1 (VBlk.isC r12))).trans (VBlk.cell r12 0 (by simp))) ⟨rfl, ?_⟩
    have := bw14.size
    refine ((Keep.of_below bw14).trans ((k1.mono fun b (hb : b < w.heap.size) => ⟨by omega, by omega, by omega⟩).trans ((k2.mono fun b (hb : b < w.heap.size) => by show b ≠ g12; omega).trans (hks.mono fun b (hb : b < w.heap.size) hE => ?_)))).below
    obtain rfl : b = D := by simpa using hE
    omega
  · rintro D c pre W hD hp ⟨rfl, k1, bb, q12, hbb⟩ hm
    obtain rfl : bb = true := by cases bb; exact absurd hp (hbb rfl); rfl
    have m1 : MarkAt W [D] := ⟨by simp, fun E hE => (by simpa using hE : E = D) ▸ hm⟩
    have hks := shut_keep [D] W
    repeat (first | ((with_reducible refine WL.topT ?_ ?_); omega) | ((with_reducible refine WL.topF ?_ ?_); omega) | ((with_reducible refine WL.top64 ?_ ?_); omega) | refine WC.seq ?_ | refine WC.block ?_ | refine WC.region ?_ | refine WL.nil ?_ | refine WC.skip ?_ | refine WC.exit ?_ | refine WC.ret ?_ | refine WQ.then rfl ?_ | refine WQ.thenExit ?_ | refine WQ.thenRet ?_ | refine WQ.blk ?_ | refine WQ.blkRet ?_ | refine WQ.blkHere rfl ?_ | refine WQ.blkOther rfl ?_ | refine WL.pure rfl rfl rfl rfl ?_ | refine WL.on rfl rfl ?_ | refine WL.off rfl rfl rfl ?_ | refine WC.condTrue rfl ?_ | refine WC.condFalse rfl ?_)
    refine WQ.retMC (v := .bool true) [D] rfl rfl rfl m1 ((hks.cell (p := ⟨g12, 0, none⟩) (shut_isC m1 (VBlk.isC q12))).trans (VBlk.cell q12 0 (by simp))) ⟨rfl, ?_⟩
    have := bw14.size
    refine ((Keep.of_below bw14).trans ((k1.mono fun b (hb : b < w.heap.size) => ⟨by omega, by omega, by omega⟩).trans (hks.mono fun b (hb : b < w.heap.size) hE => ?_))).below
    obtain rfl : b = D := by simpa using hE
    omega
end K
end Go.Proofs.Ytilmfnlaenneeaa

/- The law TreePlays: a step, in both. -/
namespace Go.Proofs.Ytilmfnlaenneeaa
open Go.RowKit
namespace K
open Tre
theorem ne_of_type {w : World} {b : Nat} {T : TypeId} {cs : Array Value} (h : w.heap[b]? = some (.cells cs T (0, 0))) {st : St} {tb : Nat} {l : List KV} (ht : IsT w st tb l) (h1 : T ≠ nodeT) (h2 : T ≠ treeT) : Out st tb w b :=
  ht.other h fun cur y => ⟨fun e => (by injection e with _ e _; exact absurd e h1), fun e => (by injection e with _ e _; exact absurd e h2)⟩
/-- A step at the tree leaves the document's list. -/
theorem RT.tree {B : Nat} {w w' : World} {rb : Nat} {L : List KV} {st : St} {tb : Nat} {l : List KV} (h : RT B w rb L) (ht : IsT w st tb l) (hk : Keep (Out st tb w) w w') : RT B w' rb L := by
  obtain ⟨vk, vn, rs⟩ := h.rs
  refine RS.rt (vk := vk) (vn := vn) ⟨rs.hB, rs.hv.keep hk (ne_of_type rs.hv ht (by decide) (by decide)), rs.hk.keep hk fun g hg => ?_, rs.hn.keep hk fun g hg => ?_⟩ rfl rfl rfl rfl
  · obtain ⟨cur, hc⟩ := rs.hk.tag hg; exact ne_of_type hc ht (by decide) (by decide)
  · obtain ⟨cur, hc⟩ := rs.hn.tag hg; exact ne_of_type hc ht (by decide) (by decide)
/-- A step at the document's list leaves the tree. -/
theorem IsT.ref {B : Nat} {w w' : World} {st : St} {tb : Nat} {l : List KV} (h : IsT w st tb l) (hk : RK B w w') : IsT w' st tb l := by
  have hne : ∀ {b : Nat} {T : TypeId} {cs : Array Value}, w.heap[b]? = some (.cells cs T (0, 0)) → T ≠ refT → T ≠ ksT → T ≠ nsT → b < w.heap.size ∧ (b < B ∨ ¬ IsR w b) := fun hb h1 h2 h3 =>
    ⟨(Array.getElem?_eq_some_iff.1 hb).1, .inr fun ⟨cur, T', y, e, ho⟩ => by
      rw [hb] at e
      injection e with e
      injection e with _ e _
      subst e
      rcases ho with e | e | e
      · exact h1 e
      · exact h2 e
      · exact h3 e⟩
  refine h.keep hk (fun b hb => ?_) ?_
  · cases e : st b with
    | none => exact absurd e hb
    | some nd => obtain ⟨-, pv, hv⟩ := h.mem b nd e; exact hne hv (by decide) (by decide) (by decide)
  · obtain ⟨cs, hv⟩ := h.tree; exact hne hv (by decide) (by decide) (by decide)
theorem RK.old {B : Nat} {w w' : World} (h : RK B w w') (hB : B ≤ w.heap.size) : Below B w w' := (h.mono fun b (hb : b < B) => ⟨by omega, .inl hb⟩ : Keep (fun b => b < B) w w').below
/-- Both, between two steps. -/
structure Both (B : Nat) (w : World) (st : St) (tb rb : Nat) (L : List KV) : Prop where
  t : IsT w st tb L
  r : RT B w rb L
  tb : B ≤ tb
  st : ∀ x, st x ≠ none → B ≤ x
  hB : B ≤ w.heap.size
theorem Both.srt {B : Nat} {w : World} {st : St} {tb rb : Nat} {L : List KV} (h : Both B w st tb rb L) : Srt L := by obtain ⟨-, -, _, _, -, hh⟩ := h.t; exact hh.srt
theorem Both.below {B : Nat} {w w' : World} {st : St} {tb rb : Nat} {L : List KV} (h : Both B w st tb rb L) (hb : Below w.heap.size w w') : Both B w' st tb rb L := ⟨h.t.below hb, h.r.below hb, h.tb, h.st, Nat.le_trans h.hB hb.size⟩
abbrev stpT : Nat := 30
set_option maxRecDepth 20000 in
set_option maxHeartbeats 4000000 in
theorem does_any {B : Nat} {w : World} {st : St} {tb rb : Nat} {L : List KV} (h : Both B w st tb rb L) (hl : L.length < 1000000) (s : Stp) :
    Calls Try.prog 20 #[.pointer (some ⟨tb, 0, none⟩), .pointer (some ⟨rb, 0, none⟩), .agg (stpC s).toArray] w fun e w' => e = .returned (.bool true) ∧ Below B w w' ∧ ∃ st' L', Both B w' st' tb rb L' ∧ L'.length ≤ L.length + 1 := by
  refine enter (args := [.pointer (some ⟨tb, 0, none⟩), .pointer (some ⟨rb, 0, none⟩), .agg (stpC s).toArray]) Try.func20 rfl Try.ntmps20 rfl ?_
  repeat (first | refine WC.seq ?_ | refine WC.block ?_ | refine WC.region ?_ | refine WL.nil ?_ | refine WC.skip ?_ | refine WC.exit ?_ | refine WC.ret ?_ | refine WQ.then rfl ?_ | refine WQ.thenExit ?_ | refine WQ.thenRet ?_ | refine WQ.blk ?_ | refine WQ.blkRet ?_ | refine WQ.blkHere rfl ?_ | refine WQ.blkOther rfl ?_)
  refine WL.box rfl rfl rfl rfl rfl fun g w1 f1 => ?_
  have v1 : VBlk stpT w1 g (stpC s) := f1.blk
  have b1 := f1.below
  have h1 := h.below b1
  have bB := b1.mono h.hB
  clear f1
  have c0 : w1.cell? ⟨g, 0, none⟩ = some (.int .i64 s.kind) := VBlk.cell v1 0 (by simp [stpC])
  have c1 : w1.cell? ⟨g, 1, none⟩ = some (.int .i64 s.n) := VBlk.cell v1 1 (by simp [stpC])
  have c2 : w1.cell? ⟨g, 2, none⟩ = some (.string s.key) := VBlk.cell v1 2 (by simp [stpC])
  have c3 : w1.cell? ⟨g, 3, none⟩ = some (.string s.fin) := VBlk.cell v1 3 (by simp [stpC])
  by_cases k1 : s.kind = 1
  · obtain ⟨gv, hgv⟩ : ∃ gv, gv = (getL s.key L).getD 0 := ⟨_, rfl⟩
    obtain ⟨gb, hgb⟩ : ∃ gb, gb = (getL s.key L).isSome := ⟨_, rfl⟩
    repeat (first | ((with_reducible refine WL.topT ?_ ?_); omega) | ((with_reducible refine WL.topF ?_ ?_); omega) | ((with_reducible refine WL.top64 ?_ ?_); omega) | refine WC.seq ?_ | refine WC.block ?_ | refine WC.region ?_ | refine WL.nil ?_ | refine WC.skip ?_ | refine WC.exit ?_ | refine WC.ret ?_ | refine WQ.then rfl ?_ | refine WQ.thenExit ?_ | refine WQ.thenRet ?_ | refine WQ.blk ?_ | refine WQ.blkRet ?_ | refine WQ.blkHere rfl ?_ | refine WQ.blkOther rfl ?_ | refine WL.pure rfl rfl rfl rfl ?_ | refine WL.on rfl rfl ?_ | refine WL.off rfl rfl rfl ?_ | refine WL.load rfl rfl rfl rfl rfl rfl (by assumption) ?_ | refine WC.condTrue rfl ?_ | refine WC.condFalse rfl ?_)
    refine WL.call rfl rfl rfl rfl rfl Try.func11 rfl (by kernel_rfl) (tput_any h1.t s.key s.n (by omega)) ?_
    rintro _ w2 ⟨st2, rfl, h2, hk2, hn2⟩
    refine ⟨_, rfl, ?_⟩
    have hr2 := h1.r.tree h1.t hk2
    have v2 := VBlk.keep v1 hk2 (ne_of_type v1 h1.t (by decide) (by decide))
    have c0 : w2.cell? ⟨g, 0, none⟩ = some (.int .i64 s.kind) := VBlk.cell v2 0 (by simp [stpC])
    have c1 : w2.cell? ⟨g, 1, none⟩ = some (.int .i64 s.n) := VBlk.cell v2 1 (by simp [stpC])
    have c2 : w2.cell? ⟨g, 2, none⟩ = some (.string s.key) := VBlk.cell v2 2 (by simp [stpC])
    have b2 := IsT.old hk2 h1.hB h1.tb h1.st
    have hB2 : B ≤ w2.heap.size := Nat.le_trans h1.hB hk2.size
    repeat (first | ((with_reducible refine WL.topT ?_ ?_); omega) | ((with_reducible refine WL.topF ?_ ?_); omega) | ((with_reducible refine WL.top64 ?_ ?_); omega) | refine WC.seq ?_ | refine WC.block ?_ | refine WC.region ?_ | refine WL.nil ?_ | refine WC.skip ?_ | refine WC.exit ?_ | refine WC.ret ?_ | refine WQ.then rfl ?_ | refine WQ.thenExit ?_ | refine WQ.thenRet ?_ | refine WQ.blk ?_ | refine WQ.blkRet ?_ | refine WQ.blkHere rfl ?_ | refine WQ.blkOther rfl ?_ | refine WL.pure rfl rfl rfl rfl ?_ | refine WL.on rfl rfl ?_ | refine WL.off rfl rfl rfl ?_ | refine WL.load rfl rfl rfl rfl rfl rfl (by assumption) ?_ | refine WC.condTrue rfl ?_ | refine WC.condFalse rfl ?_)
    refine WL.call rfl rfl rfl rfl rfl Try.func32 rfl (by kernel_rfl) (rput_any hr2 h1.srt (by omega) hB2 s.key s.n) ?_
    rintro _ w3 ⟨rfl, hr3, hk3⟩
    refine ⟨_, rfl, ?_⟩
    have hlen := (insL_len (k := s.key) (n := s.n) L).1
    rw [← hgv, ← hgb]
    cases gb with
    | true =>
      repeat (first | ((with_reducible refine WL.topT ?_ ?_); omega) | ((with_reducible refine WL.topF ?_ ?_); omega) | ((with_reducible refine WL.top64 ?_ ?_); omega) | refine WC.seq ?_ | refine WC.block ?_ | refine WC.region ?_ | refine WL.nil ?_ | refine WC.skip ?_ | refine WC.exit ?_ | refine WC.ret ?_ | refine WQ.then rfl ?_ | refine WQ.thenExit ?_ | refine WQ.thenRet ?_ | refine WQ.blk ?_ | refine WQ.blkRet ?_ | refine WQ.blkHere rfl ?_ | refine WQ.blkOther rfl ?_ | refine WL.pure rfl rfl rfl rfl ?_ | refine WL.on rfl rfl ?_ | refine WL.off rfl rfl rfl ?_ | refine WC.condTrue rfl ?_ | refine WC.condFalse rfl ?_)
      exact WQ.ret1 rfl rfl ⟨rfl, bB.trans (b2.trans (hk3.old hB2)), st2, _, ⟨h2.ref hk3, hr3, h1.tb, hn2.old h1.hB h1.st, Nat.le_trans hB2 hk3.size⟩, hlen⟩
    | false =>
      repeat (first | ((with_reducible refine WL.topT ?_ ?_); omega) | ((with_reducible refine WL.topF ?_ ?_); omega) | ((with_reducible refine WL.top64 ?_ ?_); omega) | refine WC.seq ?_ | refine WC.block ?_ | refine WC.region ?_ | refine WL.nil ?_ | refine WC.skip ?_ | refine WC.exit ?_ | refine WC.ret ?_ | refine WQ.then rfl ?_ | refine WQ.thenExit ?_ | refine WQ.thenRet ?_ | refine WQ.blk ?_ | refine WQ.blkRet ?_ | refine WQ.blkHere rfl ?_ | refine WQ.blkOther rfl ?_ | refine WL.pure rfl rfl rfl rfl ?_ | refine WL.on rfl rfl ?_ | refine WL.off rfl rfl rfl ?_ | refine WC.condTrue rfl ?_ | refine WC.condFalse rfl ?_)
      exact WQ.ret1 rfl rfl ⟨rfl, bB.trans (b2.trans (hk3.old hB2)), st2, _, ⟨h2.ref hk3, hr3, h1.tb, hn2.old h1.hB h1.st, Nat.le_trans hB2 hk3.size⟩, hlen⟩
  by_cases k2 : s.kind = 2
  · obtain ⟨gv, hgv⟩ : ∃ gv, gv = (getL s.key L).getD 0 := ⟨_, rfl⟩
    obtain ⟨gb, hgb⟩ : ∃ gb, gb = (getL s.key L).isSome := ⟨_, rfl⟩
    repeat (first | ((with_reducible refine WL.topT ?_ ?_); omega) | ((with_reducible refine WL.topF ?_ ?_); omega) | ((with_reducible refine WL.top64 ?_ ?_); omega) | refine WC.seq ?_ | refine WC.block ?_ | refine WC.region ?_ | refine WL.nil ?_ | refine WC.skip ?_ | refine WC.exit ?_ | refine WC.ret ?_ | refine WQ.then rfl ?_ | refine WQ.thenExit ?_ | refine WQ.thenRet ?_ | refine WQ.blk ?_ | refine WQ.blkRet ?_ | refine WQ.blkHere rfl ?_ | refine WQ.blkOther rfl ?_ | refine WL.pure rfl rfl rfl rfl ?_ | refine WL.on rfl rfl ?_ | refine WL.off rfl rfl rfl ?_ | refine WL.load rfl rfl rfl rfl rfl rfl (by assumption) ?_ | refine WC.condTrue rfl ?_ | refine WC.condFalse rfl ?_)
    refine WL.call rfl rfl rfl rfl rfl Try.func22 rfl (by kernel_rfl) (tget_any h1.t s.key) ?_
    rintro _ w2 ⟨rfl, b2⟩
    refine ⟨_, rfl, ?_⟩
    have h2 := h1.below b2
    have v2 := VBlk.below v1 b2 (VBlk.lt v1)
    have c2 : w2.cell? ⟨g, 2, none⟩ = some (.string s.key) := VBlk.cell v2 2 (by simp [stpC])
    repeat (first | ((with_reducible refine WL.topT ?_ ?_); omega) | ((with_reducible refine WL.topF ?_ ?_); omega) | ((with_reducible refine WL.top64 ?_ ?_); omega) | refine WC.seq ?_ | refine WC.block ?_ | refine WC.region ?_ | refine WL.nil ?_ | refine WC.skip ?_ | refine WC.exit ?_ | refine WC.ret ?_ | refine WQ.then rfl ?_ | refine WQ.thenExit ?_ | refine WQ.thenRet ?_ | refine WQ.blk ?_ | refine WQ.blkRet ?_ | refine WQ.blkHere rfl ?_ | refine WQ.blkOther rfl ?_ | refine WL.pure rfl rfl rfl rfl ?_ | refine WL.on rfl rfl ?_ | refine WL.off rfl rfl rfl ?_ | refine WL.load rfl rfl rfl rfl rfl rfl (by assumption) ?_ | refine WC.condTrue rfl ?_ | refine WC.condFalse rfl ?_)
    refine WL.call rfl rfl rfl rfl rfl Try.func33 rfl (by kernel_rfl) (rget_any h2.r h2.srt (by omega) s.key) ?_
    rintro _ w3 ⟨rfl, s3⟩
    refine ⟨_, rfl, ?_⟩
    have b3 := s3.below w2.heap.size
    rw [← hgv, ← hgb]
    cases gb with
    | true =>
      repeat (first | ((with_reducible refine WL.topT ?_ ?_); omega) | ((with_reducible refine WL.topF ?_ ?_); omega) | ((with_reducible refine WL.top64 ?_ ?_); omega) | refine WC.seq ?_ | refine WC.block ?_ | refine WC.region ?_ | refine WL.nil ?_ | refine WC.skip ?_ | refine WC.exit ?_ | refine WC.ret ?_ | refine WQ.then rfl ?_ | refine WQ.thenExit ?_ | refine WQ.thenRet ?_ | refine WQ.blk ?_ | refine WQ.blkRet ?_ | refine WQ.blkHere rfl ?_ | refine WQ.blkOther rfl ?_ | refine WL.pure rfl rfl rfl rfl ?_ | refine WL.on rfl rfl ?_ | refine WL.off rfl rfl rfl ?_ | refine WC.condTrue rfl ?_ | refine WC.condFalse rfl ?_)
      exact WQ.ret1 rfl rfl ⟨rfl, bB.trans ((b2.mono h1.hB).trans (b3.mono h2.hB)), st, L, h2.below b3, by omega⟩
    | false =>
      repeat (first | ((with_reducible refine WL.topT ?_ ?_); omega) | ((with_reducible refine WL.topF ?_ ?_); omega) | ((with_reducible refine WL.top64 ?_ ?_); omega) | refine WC.seq ?_ | refine WC.block ?_ | refine WC.region ?_ | refine WL.nil ?_ | refine WC.skip ?_ | refine WC.exit ?_ | refine WC.ret ?_ | refine WQ.then rfl ?_ | refine WQ.thenExit ?_ | refine WQ.thenRet ?_ | refine WQ.blk ?_ | refine WQ.blkRet ?_ | refine WQ.blkHere rfl ?_ | refine WQ.blkOther rfl ?_ | refine WL.pure rfl rfl rfl rfl ?_ | refine WL.on rfl rfl ?_ | refine WL.off rfl rfl rfl ?_ | refine WC.condTrue rfl ?_ | refine WC.condFalse rfl ?_)
      exact WQ.ret1 rfl rfl ⟨rfl, bB.trans ((b2.mono h1.hB).trans (b3.mono h2.hB)), st, L, h2.below b3, by omega⟩
  by_cases k3 : s.kind = 3
  · obtain ⟨gv, hgv⟩ : ∃ gv, gv = (getL s.key L).getD 0 := ⟨_, rfl⟩
    obtain ⟨gb, hgb⟩ : ∃ gb, gb = (getL s.key L).isSome := ⟨_, rfl⟩
    repeat (first | ((with_reducible refine WL.topT ?_ ?_); omega) | ((with_reducible refine WL.topF ?_ ?_); omega) | ((with_reducible refine WL.top64 ?_ ?_); omega) | refine WC.seq ?_ | refine WC.block ?_ | refine WC.region ?_ | refine WL.nil ?_ | refine WC.skip ?_ | refine WC.exit ?_ | refine WC.ret ?_ | refine WQ.then rfl ?_ | refine WQ.thenExit ?_ | refine WQ.thenRet ?_ | refine WQ.blk ?_ | refine WQ.blkRet ?_ | refine WQ.blkHere rfl ?_ | refine WQ.blkOther rfl ?_ | refine WL.pure rfl rfl rfl rfl ?_ | refine WL.on rfl rfl ?_ | refine WL.off rfl rfl rfl ?_ | refine WL.load rfl rfl rfl rfl rfl rfl (by assumption) ?_ | refine WC.condTrue rfl ?_ | refine WC.condFalse rfl ?_)
    refine WL.call rfl rfl rfl rfl rfl Try.func14 rfl (by kernel_rfl) (tdel_any h1.t s.key (by omega)) ?_
    rintro _ w2 ⟨st2, rfl, h2, hk2, hn2⟩
    refine ⟨_, rfl, ?_⟩
    have hr2 := h1.r.tree h1.t hk2
    have v2 := VBlk.keep v1 hk2 (ne_of_type v1 h1.t (by decide) (by decide))
    have c0 : w2.cell? ⟨g, 0, none⟩ = some (.int .i64 s.kind) := VBlk.cell v2 0 (by simp [stpC])
    have c1 : w2.cell? ⟨g, 1, none⟩ = some (.int .i64 s.n) := VBlk.cell v2 1 (by simp [stpC])
    have c2 : w2.cell? ⟨g, 2, none⟩ = some (.string s.key) := VBlk.cell v2 2 (by simp [stpC])
    have b2 := IsT.old hk2 h1.hB h1.tb h1.st
    have hB2 : B ≤ w2.heap.size := Nat.le_trans h1.hB hk2.size
    repeat (first | ((with_reducible refine WL.topT ?_ ?_); omega) | ((with_reducible refine WL.topF ?_ ?_); omega) | ((with_reducible refine WL.top64 ?_ ?_); omega) | refine WC.seq ?_ | refine WC.block ?_ | refine WC.region ?_ | refine WL.nil ?_ | refine WC.skip ?_ | refine WC.exit ?_ | refine WC.ret ?_ | refine WQ.then rfl ?_ | refine WQ.thenExit ?_ | refine WQ.thenRet ?_ | refine WQ.blk ?_ | refine WQ.blkRet ?_ | refine WQ.blkHere rfl ?_ | refine WQ.blkOther rfl ?_ | refine WL.pure rfl rfl rfl rfl ?_ | refine WL.on rfl rfl ?_ | refine WL.off rfl rfl rfl ?_ | refine WL.load rfl rfl rfl rfl rfl rfl (by assumption) ?_ | refine WC.condTrue rfl ?_ | refine WC.condFalse rfl ?_)
    refine WL.call rfl rfl rfl rfl rfl Try.func34 rfl (by kernel_rfl) (rdel_any hr2 h1.srt (by omega) hB2 s.key) ?_
    rintro _ w3 ⟨rfl, hr3, hk3⟩
    refine ⟨_, rfl, ?_⟩
    have hlen := delL_length (k := s.key) h1.srt
    rw [← hgv, ← hgb]
    cases gb with
    | true =>
      repeat (first | ((with_reducible refine WL.topT ?_ ?_); omega) | ((with_reducible refine WL.topF ?_ ?_); omega) | ((with_reducible refine WL.top64 ?_ ?_); omega) | refine WC.seq ?_ | refine WC.block ?_ | refine WC.region ?_ | refine WL.nil ?_ | refine WC.skip ?_ | refine WC.exit ?_ | refine WC.ret ?_ | refine WQ.then rfl ?_ | refine WQ.thenExit ?_ | refine WQ.thenRet ?_ | refine WQ.blk ?_ | refine WQ.blkRet ?_ | refine WQ.blkHere rfl ?_ | refine WQ.blkOther rfl ?_ | refine WL.pure rfl rfl rfl rfl ?_ | refine WL.on rfl rfl ?_ | refine WL.off rfl rfl rfl ?_ | refine WC.condTrue rfl ?_ | refine WC.condFalse rfl ?_)
      exact WQ.ret1 rfl rfl ⟨rfl, bB.trans (b2.trans (hk3.old hB2)), st2, _, ⟨h2.ref hk3, hr3, h1.tb, hn2.old h1.hB h1.st, Nat.le_trans hB2 hk3.size⟩, by omega⟩
    | false =>
      repeat (first | ((with_reducible refine WL.topT ?_ ?_); omega) | ((with_reducible refine WL.topF ?_ ?_); omega) | ((with_reducible refine WL.top64 ?_ ?_); omega) | refine WC.seq ?_ | refine WC.block ?_ | refine WC.region ?_ | refine WL.nil ?_ | refine WC.skip ?_ | refine WC.exit ?_ | refine WC.ret ?_ | refine WQ.then rfl ?_ | refine WQ.thenExit ?_ | refine WQ.thenRet ?_ | refine WQ.blk ?_ | refine WQ.blkRet ?_ | refine WQ.blkHere rfl ?_ | refine WQ.blkOther rfl ?_ | refine WL.pure rfl rfl rfl rfl ?_ | refine WL.on rfl rfl ?_ | refine WL.off rfl rfl rfl ?_ | refine WC.condTrue rfl ?_ | refine WC.condFalse rfl ?_)
      exact WQ.ret1 rfl rfl ⟨rfl, bB.trans (b2.trans (hk3.old hB2)), st2, _, ⟨h2.ref hk3, hr3, h1.tb, hn2.old h1.hB h1.st, Nat.le_trans hB2 hk3.size⟩, by omega⟩
  repeat (first | ((with_reducible refine WL.topT ?_ ?_); omega) | ((with_reducible refine WL.topF ?_ ?_); omega) | ((with_reducible refine WL.top64 ?_ ?_); omega) | refine WC.seq ?_ | refine WC.block ?_ | refine WC.region ?_ | refine WL.nil ?_ | refine WC.skip ?_ | refine WC.exit ?_ | refine WC.ret ?_ | refine WQ.then rfl ?_ | refine WQ.thenExit ?_ | refine WQ.thenRet ?_ | refine WQ.blk ?_ | refine WQ.blkRet ?_ | refine WQ.blkHere rfl ?_ | refine WQ.blkOther rfl ?_ | refine WL.pure rfl rfl rfl rfl ?_ | refine WL.on rfl rfl ?_ | refine WL.off rfl rfl rfl ?_ | refine WL.load rfl rfl rfl rfl rfl rfl (by assumption) ?_ | refine WC.condTrue rfl ?_ | refine WC.condFalse rfl ?_)
  refine WL.call rfl rfl rfl rfl rfl Try.func21 rfl (by kernel_rfl) (ranges_any h1.t h1.r hl s.key s.fin s.n (decide (s.kind = 5))) ?_
  rintro _ w2 ⟨rfl, b2⟩
  refine ⟨_, rfl, ?_⟩
  repeat (first | ((with_reducible refine WL.topT ?_ ?_); omega) | ((with_reducible refine WL.topF ?_ ?_); omega) | ((with_reducible refine WL.top64 ?_ ?_); omega) | refine WC.seq ?_ | refine WC.block ?_ | refine WC.region ?_ | refine WL.nil ?_ | refine WC.skip ?_ | refine WC.exit ?_ | refine WC.ret ?_ | refine WQ.then rfl ?_ | refine WQ.thenExit ?_ | refine WQ.thenRet ?_ | refine WQ.blk ?_ | refine WQ.blkRet ?_ | refine WQ.blkHere rfl ?_ | refine WQ.blkOther rfl ?_ | refine WL.pure rfl rfl rfl rfl ?_ | refine WL.on rfl rfl ?_ | refine WL.off rfl rfl rfl ?_ | refine WC.condTrue rfl ?_ | refine WC.condFalse rfl ?_)
  exact WQ.ret1 rfl rfl ⟨rfl, bB.trans (b2.mono h1.hB), st, L, h1.below b2, by omega⟩
end K
end Go.Proofs.Ytilmfnlaenneeaa

/- The law TreePlays: walked. -/
namespace Go.Proofs.Ytilmfnlaenneeaa
open Go.RowKit
namespace K
open Tre
theorem built_ref0 : Try.prog.built refT [] = some #[.slice none 0 0, .slice none 0 0] := by kernel_rfl
theorem RT.nil {B g : Nat} {w w' : World} (h : Fresh w g w' refT [.slice none 0 0, .slice none 0 0]) (hB : B ≤ w.heap.size) : RT B w' g [] :=
  ⟨by have := h.eq; omega, _, _, h.blk, OwnV.nil _ _ _ _, OwnV.nil _ _ _ _⟩
theorem Below.fresh {w w' : World} {g T : Nat} {cs : List Value} (h : Fresh w g w' T cs) : Below w.heap.size w w' := h.below
theorem RT.mono {B B' : Nat} {w : World} {rb : Nat} {L : List KV} (h : RT B w rb L) (hB : B' ≤ B) : RT B' w rb L := by
  obtain ⟨h1, vk, vn, h2, h3, h4⟩ := h
  exact ⟨by omega, vk, vn, h2, h3.mono fun b (hb : B ≤ b) => (by omega : B' ≤ b), h4.mono fun b (hb : B ≤ b) => (by omega : B' ≤ b)⟩
def spoiltK : ByteArray := ⟨#[115, 112, 111, 105, 108, 116]⟩
theorem IsT.st_lt {w : World} {st : St} {tb : Nat} {l : List KV} (h : IsT w st tb l) {b : Nat} (hb : st b ≠ none) : b < w.heap.size := by
  cases e : st b with
  | none => exact absurd e hb
  | some nd => obtain ⟨-, pv, hv⟩ := h.mem b nd e; exact VBlk.lt hv
theorem IsT.tb_lt {w : World} {st : St} {tb : Nat} {l : List KV} (h : IsT w st tb l) : tb < w.heap.size := by obtain ⟨cs, hv⟩ := h.tree; exact VBlk.lt hv
/-- What a call changes at a tree, another one, that is younger, does not see. -/
theorem IsT.apart {w w' : World} {st st' : St} {tb tb' m : Nat} {l l' : List KV} (h : IsT w st' tb' l') (hk : Keep (Out st tb w) w w') (h1 : m ≤ tb') (h2 : ∀ x, st' x ≠ none → m ≤ x) (h3 : tb < m) (h4 : ∀ x, x < w.heap.size → m ≤ x → st x = none) : IsT w' st' tb' l' :=
  h.keep hk (fun b hb => ⟨h.st_lt hb, h4 b (h.st_lt hb) (h2 b hb), fun e => by have := h2 b hb; omega⟩) ⟨h.tb_lt, h4 _ h.tb_lt h1, fun e => by omega⟩
set_option maxRecDepth 20000 in
set_option maxHeartbeats 8000000 in
theorem plays_law {w : World} {v : Value} {l : List Stp} (h : IsSteps w v l) : Calls Try.prog 6 #[v] w fun e w' => e = .returned (.bool true) ∧ Below w.heap.size w w' := by
  obtain ⟨sp, cap, rfl, hc1, hc2, hsz, hrow⟩ := id h
  refine enter (args := [.slice sp l.length cap]) Try.func6 rfl Try.ntmps6 rfl ?_
  repeat (first | ((with_reducible refine WL.topT ?_ ?_); omega) | ((with_reducible refine WL.topF ?_ ?_); omega) | ((with_reducible refine WL.top64 ?_ ?_); omega) | refine WC.seq ?_ | refine WC.block ?_ | refine WC.region ?_ | refine WL.nil ?_ | refine WC.skip ?_ | refine WC.exit ?_ | refine WC.ret ?_ | refine WQ.then rfl ?_ | refine WQ.thenExit ?_ | refine WQ.thenRet ?_ | refine WQ.blk ?_ | refine WQ.blkRet ?_ | refine WQ.blkHere rfl ?_ | refine WQ.blkOther rfl ?_ | refine WL.pure rfl rfl rfl rfl ?_ | refine WL.on rfl rfl ?_ | refine WL.off rfl rfl rfl ?_ | refine WC.condTrue rfl ?_ | refine WC.condFalse rfl ?_)
  refine WL.call rfl rfl rfl rfl rfl Try.func8 rfl (by kernel_rfl) (heavy13_any h) ?_
  rintro _ w1 ⟨hv, rfl, hb1⟩
  refine ⟨_, rfl, ?_⟩
  cases hv with
  | true =>
    repeat (first | ((with_reducible refine WL.topT ?_ ?_); omega) | ((with_reducible refine WL.topF ?_ ?_); omega) | ((with_reducible refine WL.top64 ?_ ?_); omega) | refine WC.seq ?_ | refine WC.block ?_ | refine WC.region ?_ | refine WL.nil ?_ | refine WC.skip ?_ | refine WC.exit ?_ | refine WC.ret ?_ | refine WQ.then rfl ?_ | refine WQ.thenExit ?_ | refine WQ.thenRet ?_ | refine WQ.blk ?_ | refine WQ.blkRet ?_ | refine WQ.blkHere rfl ?_ | refine WQ.blkOther rfl ?_ | refine WL.pure rfl rfl rfl rfl ?_ | refine WL.on rfl rfl ?_ | refine WL.off rfl rfl rfl ?_ | refine WC.condTrue rfl ?_ | refine WC.condFalse rfl ?_)
    refine WL.call rfl rfl rfl rfl rfl Try.func9 rfl (by kernel_rfl) known13_any ?_
    rintro _ w2 ⟨rfl, hb2⟩
    refine ⟨_, rfl, ?_⟩
    repeat (first | ((with_reducible refine WL.topT ?_ ?_); omega) | ((with_reducible refine WL.topF ?_ ?_); omega) | ((with_reducible refine WL.top64 ?_ ?_); omega) | refine WC.seq ?_ | refine WC.block ?_ | refine WC.region ?_ | refine WL.nil ?_ | refine WC.skip ?_ | refine WC.exit ?_ | refine WC.ret ?_ | refine WQ.then rfl ?_ | refine WQ.thenExit ?_ | refine WQ.thenRet ?_ | refine WQ.blk ?_ | refine WQ.blkRet ?_ | refine WQ.blkHere rfl ?_ | refine WQ.blkOther rfl ?_ | refine WL.pure rfl rfl rfl rfl ?_ | refine WL.on rfl rfl ?_ | refine WL.off rfl rfl rfl ?_ | refine WC.condTrue rfl ?_ | refine WC.condFalse rfl ?_)
    exact WQ.ret1 rfl rfl ⟨rfl, hb1.trans (hb2.mono hb1.size)⟩
  | false =>
  repeat (first | ((with_reducible refine WL.topT ?_ ?_); omega) | ((with_reducible refine WL.topF ?_ ?_); omega) | ((with_reducible refine WL.top64 ?_ ?_); omega) | refine WC.seq ?_ | refine WC.block ?_ | refine WC.region ?_ | refine WL.nil ?_ | refine WC.skip ?_ | refine WC.exit ?_ | refine WC.ret ?_ | refine WQ.then rfl ?_ | refine WQ.thenExit ?_ | refine WQ.thenRet ?_ | refine WQ.blk ?_ | refine WQ.blkRet ?_ | refine WQ.blkHere rfl ?_ | refine WQ.blkOther rfl ?_ | refine WL.pure rfl rfl rfl rfl ?_ | refine WL.on rfl rfl ?_ | refine WL.off rfl rfl rfl ?_ | refine WC.condTrue rfl ?_ | refine WC.condFalse rfl ?_)
  refine WL.call rfl rfl rfl rfl rfl Try.func10 rfl (by kernel_rfl) tnew_any ?_
  rintro _ w2 ⟨tb0, rfl, h2, hb2, ht2⟩
  refine ⟨_, rfl, ?_⟩
  have hbw := hb1.trans (hb2.mono hb1.size)
  have htw : w.heap.size ≤ tb0 := Nat.le_trans hb1.size ht2
  repeat (first | ((with_reducible refine WL.topT ?_ ?_); omega) | ((with_reducible refine WL.topF ?_ ?_); omega) | ((with_reducible refine WL.top64 ?_ ?_); omega) | refine WC.seq ?_ | refine WC.block ?_ | refine WC.region ?_ | refine WL.nil ?_ | refine WC.skip ?_ | refine WC.exit ?_ | refine WC.ret ?_ | refine WQ.then rfl ?_ | refine WQ.thenExit ?_ | refine WQ.thenRet ?_ | refine WQ.blk ?_ | refine WQ.blkRet ?_ | refine WQ.blkHere rfl ?_ | refine WQ.blkOther rfl ?_ | refine WL.pure rfl rfl rfl rfl ?_ | refine WL.on rfl rfl ?_ | refine WL.off rfl rfl rfl ?_ | refine WC.condTrue rfl ?_ | refine WC.condFalse rfl ?_)
  refine WL.nilP rfl rfl rfl rfl rfl rfl (by kernel_rfl) ?_
  repeat (first | ((with_reducible refine WL.topT ?_ ?_); omega) | ((with_reducible refine WL.topF ?_ ?_); omega) | ((with_reducible refine WL.top64 ?_ ?_); omega) | refine WC.seq ?_ | refine WC.block ?_ | refine WC.region ?_ | refine WL.nil ?_ | refine WC.skip ?_ | refine WC.exit ?_ | refine WC.ret ?_ | refine WQ.then rfl ?_ | refine WQ.thenExit ?_ | refine WQ.thenRet ?_ | refine WQ.blk ?_ | refine WQ.blkRet ?_ | refine WQ.blkHere rfl ?_ | refine WQ.blkOther rfl ?_ | refine WL.pure rfl rfl rfl rfl ?_ | refine WL.on rfl rfl ?_ | refine WL.off rfl rfl rfl ?_ | refine WC.condTrue rfl ?_ | refine WC.condFalse rfl ?_)
  refine WL.build [.slice none 0 0, .slice none 0 0] rfl rfl rfl rfl rfl built_ref0 ?_
  refine WL.box rfl rfl rfl rfl rfl fun rb0 w3 f3 => ?_
  have hB0 : Both w.heap.size w3 st0 tb0 rb0 [] := ⟨h2.below f3.below, RT.nil f3 hbw.size, htw, fun x hx => absurd rfl hx, Nat.le_trans hbw.size f3.below.size⟩
  have hbw3 : Below w.heap.size w w3 := hbw.trans (f3.below.mono hbw.size)
  clear f3 h2 hb2 ht2 hb1
  repeat (first | ((with_reducible refine WL.topT ?_ ?_); omega) | ((with_reducible refine WL.topF ?_ ?_); omega) | ((with_reducible refine WL.top64 ?_ ?_); omega) | refine WC.seq ?_ | refine WC.block ?_ | refine WC.region ?_ | refine WL.nil ?_ | refine WC.skip ?_ | refine WC.exit ?_ | refine WC.ret ?_ | refine WQ.then rfl ?_ | refine WQ.thenExit ?_ | refine WQ.thenRet ?_ | refine WQ.blk ?_ | refine WQ.blkRet ?_ | refine WQ.blkHere rfl ?_ | refine WQ.blkOther rfl ?_ | refine WL.pure rfl rfl rfl rfl ?_ | refine WL.on rfl rfl ?_ | refine WL.off rfl rfl rfl ?_ | refine WC.condTrue rfl ?_ | refine WC.condFalse rfl ?_)
  refine WC.loop (fun x : Nat × Nat × Nat => [(0, .slice sp l.length cap), (3, .pointer (some ⟨x.2.1, 0, none⟩)), (4, .pointer (some ⟨x.2.2, 0, none⟩)), (5, .int .i64 x.1)])
    (fun x w' => x.1 ≤ 400 ∧ x.1 ≤ l.length ∧ Below w.heap.size w w' ∧ ∃ st L, Both w.heap.size w' st x.2.1 x.2.2 L ∧ L.length ≤ x.1) (fun x => 400 - x.1) (0, tb0, rb0) ⟨rfl, rfl, rfl, rfl, trivial⟩
    ⟨by show 0 ≤ 400; omega, Nat.zero_le _, hbw3, st0, [], hB0, Nat.le_refl _⟩ ?_
  clear hB0 hbw3 hbw htw
  rintro ⟨i, tb, rb⟩ wr ⟨hi, hil, hb, st, L, hB, hL⟩
  simp only at hi hil hB hL
  by_cases hgo : i < l.length ∧ i < 400
  · obtain ⟨h1, h4⟩ := hgo
    obtain ⟨b, o, rfl, hlt, hr⟩ := hrow (by omega)
    have hr' : ∀ j, j < l.length → wr.rangeAt b (o + j * 4) (stpC (l.getD j noStp)) := fun j hj k u hu => by rw [hb.cell (p := ⟨b, o + j * 4 + k, none⟩) hlt]; exact hr j hj k u hu
    obtain ⟨q0, -, q2, -⟩ := stpR hr' h1
    have hrs := hr' i h1
    have hk1 : (l.getD i noStp).key.size ≤ 140737488355328 := (hsz i h1).1
    generalize l.getD i noStp = s at q0 q2 hrs hk1
    by_cases k6 : s.kind = 6
    · repeat (first | ((with_reducible refine WL.topT ?_ ?_); omega) | ((with_reducible refine WL.topF ?_ ?_); omega) | ((with_reducible refine WL.top64 ?_ ?_); omega) | refine WC.seq ?_ | refine WC.block ?_ | refine WC.region ?_ | refine WL.nil ?_ | refine WC.skip ?_ | refine WC.exit ?_ | refine WC.ret ?_ | refine WQ.then rfl ?_ | refine WQ.thenExit ?_ | refine WQ.thenRet ?_ | refine WQ.blk ?_ | refine WQ.blkRet ?_ | refine WQ.blkHere rfl ?_ | refine WQ.blkOther rfl ?_ | refine WL.pure rfl rfl rfl rfl ?_ | refine WL.on rfl rfl ?_ | refine WL.off rfl rfl rfl ?_ | refine WC.condTrue rfl ?_ | refine WC.condFalse rfl ?_)
      refine WL.idx i (o + i * 4) rfl rfl rfl rfl rfl rfl rfl rfl h1 rfl ?_
      repeat (first | ((with_reducible refine WL.topT ?_ ?_); omega) | ((with_reducible refine WL.topF ?_ ?_); omega) | ((with_reducible refine WL.top64 ?_ ?_); omega) | refine WC.seq ?_ | refine WC.block ?_ | refine WC.region ?_ | refine WL.nil ?_ | refine WC.skip ?_ | refine WC.exit ?_ | refine WC.ret ?_ | refine WQ.then rfl ?_ | refine WQ.thenExit ?_ | refine WQ.thenRet ?_ | refine WQ.blk ?_ | refine WQ.blkRet ?_ | refine WQ.blkHere rfl ?_ | refine WQ.blkOther rfl ?_ | refine WL.pure rfl rfl rfl rfl ?_ | refine WL.on rfl rfl ?_ | refine WL.off rfl rfl rfl ?_ | refine WL.load rfl rfl rfl rfl rfl rfl (by assumption) ?_ | refine WC.condTrue rfl ?_ | refine WC.condFalse rfl ?_)
      refine WL.call rfl rfl rfl rfl rfl Try.func18 rfl (by kernel_rfl) (tcopy_any hB.t (by omega)) ?_
      rintro _ w5 ⟨tb5, st5, rfl, h5, b5, t5, s5⟩
      refine ⟨_, rfl, ?_⟩
      have ho5 := hB.t.below b5
      have hr5 := hB.r.below b5
      repeat (first | ((with_reducible refine WL.topT ?_ ?_); omega) | ((with_reducible refine WL.topF ?_ ?_); omega) | ((with_reducible refine WL.top64 ?_ ?_); omega) | refine WC.seq ?_ | refine WC.block ?_ | refine WC.region ?_ | refine WL.nil ?_ | refine WC.skip ?_ | refine WC.exit ?_ | refine WC.ret ?_ | refine WQ.then rfl ?_ | refine WQ.thenExit ?_ | refine WQ.thenRet ?_ | refine WQ.blk ?_ | refine WQ.blkRet ?_ | refine WQ.blkHere rfl ?_ | refine WQ.blkOther rfl ?_ | refine WL.pure rfl rfl rfl rfl ?_ | refine WL.on rfl rfl ?_ | refine WL.off rfl rfl rfl ?_ | refine WC.condTrue rfl ?_ | refine WC.condFalse rfl ?_)
      refine WL.call rfl rfl rfl rfl rfl Try.func19 rfl (by kernel_rfl) (rcopy_any hr5 (by omega)) ?_
      rintro _ w6 ⟨rb6, rfl, hr6, b6⟩
      refine ⟨_, rfl, ?_⟩
      have ho6 := ho5.below b6
      have h6 := h5.below b6
      have z5 := b5.size
      have z6 := b6.size
      have hm := hB.t.tb_lt
      have hst : ∀ x, wr.heap.size ≤ x → st x = none := fun x hx => by
        cases e : st x with
        | none => rfl
        | some nd => have := hB.t.st_lt (b := x) (by rw [e]; simp); omega
      repeat (first | ((with_reducible refine WL.topT ?_ ?_); omega) | ((with_reducible refine WL.topF ?_ ?_); omega) | ((with_reducible refine WL.top64 ?_ ?_); omega) | refine WC.seq ?_ | refine WC.block ?_ | refine WC.region ?_ | refine WL.nil ?_ | refine WC.skip ?_ | refine WC.exit ?_ | refine WC.ret ?_ | refine WQ.then rfl ?_ | refine WQ.thenExit ?_ | refine WQ.thenRet ?_ | refine WQ.blk ?_ | refine WQ.blkRet ?_ | refine WQ.blkHere rfl ?_ | refine WQ.blkOther rfl ?_ | refine WL.pure rfl rfl rfl rfl ?_ | refine WL.on rfl rfl ?_ | refine WL.off rfl rfl rfl ?_ | refine WC.condTrue rfl ?_ | refine WC.condFalse rfl ?_)
      refine WL.nilP rfl rfl rfl rfl rfl rfl (by kernel_rfl) ?_
      repeat (first | ((with_reducible refine WL.topT ?_ ?_); omega) | ((with_reducible refine WL.topF ?_ ?_); omega) | ((with_reducible refine WL.top64 ?_ ?_); omega) | refine WC.seq ?_ | refine WC.block ?_ | refine WC.region ?_ | refine WL.nil ?_ | refine WC.skip ?_ | refine WC.exit ?_ | refine WC.ret ?_ | refine WQ.then rfl ?_ | refine WQ.thenExit ?_ | refine WQ.thenRet ?_ | refine WQ.blk ?_ | refine WQ.blkRet ?_ | refine WQ.blkHere rfl ?_ | refine WQ.blkOther rfl ?_ | refine WL.pure rfl rfl rfl rfl ?_ | refine WL.on rfl rfl ?_ | refine WL.off rfl rfl rfl ?_ | refine WC.condTrue rfl ?_ | refine WC.condFalse rfl ?_)
      refine WL.call rfl rfl rfl rfl rfl Try.func11 rfl (by kernel_rfl) (tput_any ho6 spoiltK 1 (by omega)) ?_
      rintro _ w7 ⟨st7, rfl, ho7, hk7, hn7⟩
      refine ⟨_, rfl, ?_⟩
      have h7 := h6.apart (l := L) hk7 t5 s5 hm fun x _ hx => hst x hx
      have hr7 := hr6.tree ho6 hk7
      have z7 := hk7.size
      have hlen := (insL_len (k := spoiltK) (n := 1) L).1
      have hb7 : Below w.heap.size w w7 := (hb.trans ((b5.trans (b6.mono z5)).mono hb.size)).trans (IsT.old hk7 (Nat.le_trans hb.size (by omega)) hB.tb hB.st)
      have hst7 : ∀ x, x < w6.heap.size → wr.heap.size ≤ x → st7 x = none := fun x hx hx2 => by
        cases e : st7 x with
        | none => rfl
        | some nd =>
          rcases hn7 x (by rw [e]; simp) with h | h
          · exact absurd (hst x hx2) h
          · omega
      repeat (first | ((with_reducible refine WL.topT ?_ ?_); omega) | ((with_reducible refine WL.topF ?_ ?_); omega) | ((with_reducible refine WL.top64 ?_ ?_); omega) | refine WC.seq ?_ | refine WC.block ?_ | refine WC.region ?_ | refine WL.nil ?_ | refine WC.skip ?_ | refine WC.exit ?_ | refine WC.ret ?_ | refine WQ.then rfl ?_ | refine WQ.thenExit ?_ | refine WQ.thenRet ?_ | refine WQ.blk ?_ | refine WQ.blkRet ?_ | refine WQ.blkHere rfl ?_ | refine WQ.blkOther rfl ?_ | refine WL.pure rfl rfl rfl rfl ?_ | refine WL.on rfl rfl ?_ | refine WL.off rfl rfl rfl ?_ | refine WC.condTrue rfl ?_ | refine WC.condFalse rfl ?_)
      refine WL.idx i (o + i * 4) rfl rfl rfl rfl rfl rfl rfl rfl h1 rfl ?_
      have q2' : w7.cell? ⟨b, o + i * 4 + 2, none⟩ = some (.string s.key) := by rw [hb7.cell (p := ⟨b, o + i * 4 + 2, none⟩) hlt, ← hb.cell (p := ⟨b, o + i * 4 + 2, none⟩) hlt]; exact q2
      repeat (first | ((with_reducible refine WL.topT ?_ ?_); omega) | ((with_reducible refine WL.topF ?_ ?_); omega) | ((with_reducible refine WL.top64 ?_ ?_); omega) | refine WC.seq ?_ | refine WC.block ?_ | refine WC.region ?_ | refine WL.nil ?_ | refine WC.skip ?_ | refine WC.exit ?_ | refine WC.ret ?_ | refine WQ.then rfl ?_ | refine WQ.thenExit ?_ | refine WQ.thenRet ?_ | refine WQ.blk ?_ | refine WQ.blkRet ?_ | refine WQ.blkHere rfl ?_ | refine WQ.blkOther rfl ?_ | refine WL.pure rfl rfl rfl rfl ?_ | refine WL.on rfl rfl ?_ | refine WL.off rfl rfl rfl ?_ | refine WL.load rfl rfl rfl rfl rfl rfl (by assumption) ?_ | refine WC.condTrue rfl ?_ | refine WC.condFalse rfl ?_)
      refine WL.call rfl rfl rfl rfl rfl Try.func14 rfl (by kernel_rfl) (tdel_any ho7 s.key (by omega)) ?_
      rintro _ w8 ⟨st8, rfl, ho8, hk8, hn8⟩
      refine ⟨_, rfl, ?_⟩
      have h8 := h7.keep hk8 (fun x hx => ⟨h7.st_lt hx, hst7 x (h6.st_lt hx) (s5 x hx), fun e => by have := s5 x hx; omega⟩) ⟨h7.tb_lt, hst7 _ h6.tb_lt t5, fun e => by omega⟩
      have hr8 := hr7.tree ho7 hk8
      have hb8 : Below w.heap.size w w8 := hb7.trans (IsT.old hk8 hb7.size hB.tb (hn7.old (Nat.le_trans hb.size (by omega)) hB.st))
      have z8 := hk8.size
      have zz := hb.size
      repeat (first | ((with_reducible refine WL.topT ?_ ?_); omega) | ((with_reducible refine WL.topF ?_ ?_); omega) | ((with_reducible refine WL.top64 ?_ ?_); omega) | refine WC.seq ?_ | refine WC.block ?_ | refine WC.region ?_ | refine WL.nil ?_ | refine WC.skip ?_ | refine WC.exit ?_ | refine WC.ret ?_ | refine WQ.then rfl ?_ | refine WQ.thenExit ?_ | refine WQ.thenRet ?_ | refine WQ.blk ?_ | refine WQ.blkRet ?_ | refine WQ.blkHere rfl ?_ | refine WQ.blkOther rfl ?_ | refine WL.pure rfl rfl rfl rfl ?_ | refine WL.on rfl rfl ?_ | refine WL.off rfl rfl rfl ?_ | refine WC.condTrue rfl ?_ | refine WC.condFalse rfl ?_)
      exact WQ.again (i + 1, tb5, rb6) ⟨rfl, rfl, rfl, rfl, trivial⟩ ⟨h4, h1, hb8, st5, L, ⟨h8, RT.mono hr8 (by omega), by show w.heap.size ≤ tb5; omega, fun x hx => by have := s5 x hx; omega, by omega⟩, by show L.length ≤ i + 1; omega⟩ (by show 400 - (i + 1) < 400 - i; omega)
    · repeat (first | ((with_reducible refine WL.topT ?_ ?_); omega) | ((with_reducible refine WL.topF ?_ ?_); omega) | ((with_reducible refine WL.top64 ?_ ?_); omega) | refine WC.seq ?_ | refine WC.block ?_ | refine WC.region ?_ | refine WL.nil ?_ | refine WC.skip ?_ | refine WC.exit ?_ | refine WC.ret ?_ | refine WQ.then rfl ?_ | refine WQ.thenExit ?_ | refine WQ.thenRet ?_ | refine WQ.blk ?_ | refine WQ.blkRet ?_ | refine WQ.blkHere rfl ?_ | refine WQ.blkOther rfl ?_ | refine WL.pure rfl rfl rfl rfl ?_ | refine WL.on rfl rfl ?_ | refine WL.off rfl rfl rfl ?_ | refine WC.condTrue rfl ?_ | refine WC.condFalse rfl ?_)
      refine WL.idx i (o + i * 4) rfl rfl rfl rfl rfl rfl rfl rfl h1 rfl ?_
      repeat (first | ((with_reducible refine WL.topT ?_ ?_); omega) | ((with_reducible refine WL.topF ?_ ?_); omega) | ((with_reducible refine WL.top64 ?_ ?_); omega) | refine WC.seq ?_ | refine WC.block ?_ | refine WC.region ?_ | refine WL.nil ?_ | refine WC.skip ?_ | refine WC.exit ?_ | refine WC.ret ?_ | refine WQ.then rfl ?_ | refine WQ.thenExit ?_ | refine WQ.thenRet ?_ | refine WQ.blk ?_ | refine WQ.blkRet ?_ | refine WQ.blkHere rfl ?_ | refine WQ.blkOther rfl ?_ | refine WL.pure rfl rfl rfl rfl ?_ | refine WL.on rfl rfl ?_ | refine WL.off rfl rfl rfl ?_ | refine WL.load rfl rfl rfl rfl rfl rfl (by assumption) ?_ | refine WC.condTrue rfl ?_ | refine WC.condFalse rfl ?_)
      refine WC.drawn 6 (fun wx => wx.heap = wr.heap) fun w2 hd => ?_
      have hS : w2.heap = wr.heap := hd.heap
      have hb2 : Below w.heap.size w w2 := hb.trans (hd.below _)
      have hB2 : Both w.heap.size w2 st tb rb L := hB.below (hd.below _)
      (((first | refine WD.free 0 rfl (by kernel_rfl) rfl rfl (fun _ _ _ _ _ h => h) rfl rfl (.inr hS) ?_ | refine WD.skip 0 rfl (by kernel_rfl) rfl rfl (fun _ _ _ _ _ h => h) rfl (.inr hS) ?_); try (first | ((with_reducible refine WD.topT ?_ ?_); omega) | ((with_reducible refine WD.topF ?_ ?_); omega) | ((with_reducible refine WD.top64 ?_ ?_); omega))); ((first | refine WD.free 1 rfl (by kernel_rfl) rfl rfl (fun _ _ _ _ _ h => h) rfl rfl (.inr hS) ?_ | refine WD.skip 1 rfl (by kernel_rfl) rfl rfl (fun _ _ _ _ _ h => h) rfl (.inr hS) ?_); try (first | ((with_reducible refine WD.topT ?_ ?_); omega) | ((with_reducible refine WD.topF ?_ ?_); omega) | ((with_reducible refine WD.top64 ?_ ?_); omega))); ((first | refine WD.free 2 rfl (by kernel_rfl) rfl rfl (fun _ _ _ _ _ h => h) rfl rfl (.inr hS) ?_ | refine WD.skip 2 rfl (by kernel_rfl) rfl rfl (fun _ _ _ _ _ h => h) rfl (.inr hS) ?_); try (first | ((with_reducible refine WD.topT ?_ ?_); omega) | ((with_reducible refine WD.topF ?_ ?_); omega) | ((with_reducible refine WD.top64 ?_ ?_); omega))); ((first | refine WD.free 3 rfl (by kernel_rfl) rfl rfl (fun _ _ _ _ _ h => h) rfl rfl (.inr hS) ?_ | refine WD.skip 3 rfl (by kernel_rfl) rfl rfl (fun _ _ _ _ _ h => h) rfl (.inr hS) ?_); try (first | ((with_reducible refine WD.topT ?_ ?_); omega) | ((with_reducible refine WD.topF ?_ ?_); omega) | ((with_reducible refine WD.top64 ?_ ?_); omega))))
      refine WD.idx 4 i (o + i * 4) rfl (by kernel_rfl) rfl rfl (fun _ _ _ _ _ h => h) rfl rfl rfl rfl rfl rfl h1 rfl (.inr hS) ?_
      refine WD.loadMid 5 [6] rfl (by kernel_rfl) rfl rfl (fun _ _ _ _ _ h => h) rfl rfl rfl rfl (fun wx hx => fun k u hu => (heap_cell hx _).trans (hrs k u hu)) rfl hS ?_
      refine WD.one 6 (by kernel_rfl) rfl ?_
      refine WL.call rfl rfl rfl rfl rfl Try.func20 rfl (by kernel_rfl) (does_any hB2 (by omega) s) ?_
      rintro _ w3 ⟨rfl, b3, st3, L3, hB3, hl3⟩
      refine ⟨_, rfl, ?_⟩
      refine WL.nil (WQ.dk (.inl rfl) ?_)
      obtain ⟨vk, vn, rs⟩ := hB3.r.rs
      obtain ⟨spk, cpk, rfl, -, -⟩ := rs.hk.slice
      have c0 : w3.cell? ⟨rb, 0, none⟩ = some (.slice spk L3.length cpk) := rs.hv.cell 0 (by simp)
      have hb3 := hb2.trans b3
      clear rs
      (((first | refine WD.free 7 rfl (by kernel_rfl) rfl rfl (fun _ _ _ _ _ h => h) rfl rfl (.inl rfl) ?_ | refine WD.skip 7 rfl (by kernel_rfl) rfl rfl (fun _ _ _ _ _ h => h) rfl (.inl rfl) ?_); try (first | ((with_reducible refine WD.topT ?_ ?_); omega) | ((with_reducible refine WD.topF ?_ ?_); omega) | ((with_reducible refine WD.top64 ?_ ?_); omega))); ((first | refine WD.free 8 rfl (by kernel_rfl) rfl rfl (fun _ _ _ _ _ h => h) rfl rfl (.inl rfl) ?_ | refine WD.skip 8 rfl (by kernel_rfl) rfl rfl (fun _ _ _ _ _ h => h) rfl (.inl rfl) ?_); try (first | ((with_reducible refine WD.topT ?_ ?_); omega) | ((with_reducible refine WD.topF ?_ ?_); omega) | ((with_reducible refine WD.top64 ?_ ?_); omega))); ((first | refine WD.free 9 rfl (by kernel_rfl) rfl rfl (fun _ _ _ _ _ h => h) rfl rfl (.inl rfl) ?_ | refine WD.skip 9 rfl (by kernel_rfl) rfl rfl (fun _ _ _ _ _ h => h) rfl (.inl rfl) ?_); try (first | ((with_reducible refine WD.topT ?_ ?_); omega) | ((with_reducible refine WD.topF ?_ ?_); omega) | ((with_reducible refine WD.top64 ?_ ?_); omega))); ((first | refine WD.free 11 rfl (by kernel_rfl) rfl rfl (fun _ _ _ _ _ h => h) rfl rfl (.inl rfl) ?_ | refine WD.skip 11 rfl (by kernel_rfl) rfl rfl (fun _ _ _ _ _ h => h) rfl (.inl rfl) ?_); try (first | ((with_reducible refine WD.topT ?_ ?_); omega) | ((with_reducible refine WD.topF ?_ ?_); omega) | ((with_reducible refine WD.top64 ?_ ?_); omega))); ((first | refine WD.free 12 rfl (by kernel_rfl) rfl rfl (fun _ _ _ _ _ h => h) rfl rfl (.inl rfl) ?_ | refine WD.skip 12 rfl (by kernel_rfl) rfl rfl (fun _ _ _ _ _ h => h) rfl (.inl rfl) ?_); try (first | ((with_reducible refine WD.topT ?_ ?_); omega) | ((with_reducible refine WD.topF ?_ ?_); omega) | ((with_reducible refine WD.top64 ?_ ?_); omega))); ((first | refine WD.free 13 rfl (by kernel_rfl) rfl rfl (fun _ _ _ _ _ h => h) rfl rfl (.inl rfl) ?_ | refine WD.skip 13 rfl (by kernel_rfl) rfl rfl (fun _ _ _ _ _ h => h) rfl (.inl rfl) ?_); try (first | ((with_reducible refine WD.topT ?_ ?_); omega) | ((with_reducible refine WD.topF ?_ ?_); omega) | ((with_reducible refine WD.top64 ?_ ?_); omega))))
      refine WD.two 10 14 (by kernel_rfl) rfl rfl ?_ ?_
      · refine WL.on rfl rfl ?_
        refine WL.call rfl rfl rfl rfl rfl Try.func17 rfl (by kernel_rfl) (tlen_any hB3.t) ?_
        rintro _ _ ⟨rfl, rfl⟩
        refine ⟨_, rfl, ?_⟩
        refine WL.nil (WQ.dk (.inl rfl) ?_)
        refine WD.one 14 (by kernel_rfl) rfl ?_
        repeat (first | ((with_reducible refine WL.topT ?_ ?_); omega) | ((with_reducible refine WL.topF ?_ ?_); omega) | ((with_reducible refine WL.top64 ?_ ?_); omega) | refine WC.seq ?_ | refine WC.block ?_ | refine WC.region ?_ | refine WL.nil ?_ | refine WC.skip ?_ | refine WC.exit ?_ | refine WC.ret ?_ | refine WQ.then rfl ?_ | refine WQ.thenExit ?_ | refine WQ.thenRet ?_ | refine WQ.blk ?_ | refine WQ.blkRet ?_ | refine WQ.blkHere rfl ?_ | refine WQ.blkOther rfl ?_ | refine WL.pure rfl rfl rfl rfl ?_ | refine WL.on rfl rfl ?_ | refine WL.off rfl rfl rfl ?_ | refine WL.load rfl rfl rfl rfl rfl rfl (by assumption) ?_ | refine WC.condTrue rfl ?_ | refine WC.condFalse rfl ?_)
        refine WQ.dk (.inl rfl) ?_
        (((first | refine WD.free 15 rfl (by kernel_rfl) rfl rfl (fun _ _ _ _ _ h => h) rfl rfl (.inl rfl) ?_ | refine WD.skip 15 rfl (by kernel_rfl) rfl rfl (fun _ _ _ _ _ h => h) rfl (.inl rfl) ?_); try (first | ((with_reducible refine WD.topT ?_ ?_); omega) | ((with_reducible refine WD.topF ?_ ?_); omega) | ((with_reducible refine WD.top64 ?_ ?_); omega))); ((first | refine WD.free 16 rfl (by kernel_rfl) rfl rfl (fun _ _ _ _ _ h => h) rfl rfl (.inl rfl) ?_ | refine WD.skip 16 rfl (by kernel_rfl) rfl rfl (fun _ _ _ _ _ h => h) rfl (.inl rfl) ?_); try (first | ((with_reducible refine WD.topT ?_ ?_); omega) | ((with_reducible refine WD.topF ?_ ?_); omega) | ((with_reducible refine WD.top64 ?_ ?_); omega))); ((first | refine WD.free 17 rfl (by kernel_rfl) rfl rfl (fun _ _ _ _ _ h => h) rfl rfl (.inl rfl) ?_ | refine WD.skip 17 rfl (by kernel_rfl) rfl rfl (fun _ _ _ _ _ h => h) rfl (.inl rfl) ?_); try (first | ((with_reducible refine WD.topT ?_ ?_); omega) | ((with_reducible refine WD.topF ?_ ?_); omega) | ((with_reducible refine WD.top64 ?_ ?_); omega))))
        refine WD.done (by kernel_rfl) ?_
        repeat (first | ((with_reducible refine WL.topT ?_ ?_); omega) | ((with_reducible refine WL.topF ?_ ?_); omega) | ((with_reducible refine WL.top64 ?_ ?_); omega) | refine WC.seq ?_ | refine WC.block ?_ | refine WC.region ?_ | refine WL.nil ?_ | refine WC.skip ?_ | refine WC.exit ?_ | refine WC.ret ?_ | refine WQ.then rfl ?_ | refine WQ.thenExit ?_ | refine WQ.thenRet ?_ | refine WQ.blk ?_ | refine WQ.blkRet ?_ | refine WQ.blkHere rfl ?_ | refine WQ.blkOther rfl ?_ | refine WL.pure rfl rfl rfl rfl ?_ | refine WL.on rfl rfl ?_ | refine WL.off rfl rfl rfl ?_ | refine WC.condTrue rfl ?_ | refine WC.condFalse rfl ?_)
        exact WQ.again (i + 1, tb, rb) ⟨rfl, rfl, rfl, rfl, trivial⟩ ⟨h4, h1, hb3, st3, L3, hB3, by show L3.length ≤ i + 1; omega⟩ (by show 400 - (i + 1) < 400 - i; omega)
      · repeat (first | ((with_reducible refine WL.topT ?_ ?_); omega) | ((with_reducible refine WL.topF ?_ ?_); omega) | ((with_reducible refine WL.top64 ?_ ?_); omega) | refine WC.seq ?_ | refine WC.block ?_ | refine WC.region ?_ | refine WL.nil ?_ | refine WC.skip ?_ | refine WC.exit ?_ | refine WC.ret ?_ | refine WQ.then rfl ?_ | refine WQ.thenExit ?_ | refine WQ.thenRet ?_ | refine WQ.blk ?_ | refine WQ.blkRet ?_ | refine WQ.blkHere rfl ?_ | refine WQ.blkOther rfl ?_ | refine WL.pure rfl rfl rfl rfl ?_ | refine WL.on rfl rfl ?_ | refine WL.off rfl rfl rfl ?_ | refine WL.load rfl rfl rfl rfl rfl rfl (by assumption) ?_ | refine WC.condTrue rfl ?_ | refine WC.condFalse rfl ?_)
        refine WQ.dk (.inl rfl) ?_
        (((first | refine WD.free 15 rfl (by kernel_rfl) rfl rfl (fun _ _ _ _ _ h => h) rfl rfl (.inl rfl) ?_ | refine WD.skip 15 rfl (by kernel_rfl) rfl rfl (fun _ _ _ _ _ h => h) rfl (.inl rfl) ?_); try (first | ((with_reducible refine WD.topT ?_ ?_); omega) | ((with_reducible refine WD.topF ?_ ?_); omega) | ((with_reducible refine WD.top64 ?_ ?_); omega))))
        refine WD.one 10 (by kernel_rfl) rfl ?_
        refine WL.on rfl rfl ?_
        refine WL.call rfl rfl rfl rfl rfl Try.func17 rfl (by kernel_rfl) (tlen_any hB3.t) ?_
        rintro _ _ ⟨rfl, rfl⟩
        refine ⟨_, rfl, ?_⟩
        refine WL.nil (WQ.dk (.inl rfl) ?_)
        (((first | refine WD.free 16 rfl (by kernel_rfl) rfl rfl (fun _ _ _ _ _ h => h) rfl rfl (.inl rfl) ?_ | refine WD.skip 16 rfl (by kernel_rfl) rfl rfl (fun _ _ _ _ _ h => h) rfl (.inl rfl) ?_); try (first | ((with_reducible refine WD.topT ?_ ?_); omega) | ((with_reducible refine WD.topF ?_ ?_); omega) | ((with_reducible refine WD.top64 ?_ ?_); omega))); ((first | refine WD.free 17 rfl (by kernel_rfl) rfl rfl (fun _ _ _ _ _ h => h) rfl rfl (.inl rfl) ?_ | refine WD.skip 17 rfl (by kernel_rfl) rfl rfl (fun _ _ _ _ _ h => h) rfl (.inl rfl) ?_); try (first | ((with_reducible refine WD.topT ?_ ?_); omega) | ((with_reducible refine WD.topF ?_ ?_); omega) | ((with_reducible refine WD.top64 ?_ ?_); omega))))
        refine WD.done (by kernel_rfl) ?_
        repeat (first | ((with_reducible refine WL.topT ?_ ?_); omega) | ((with_reducible refine WL.topF ?_ ?_); omega) | ((with_reducible refine WL.top64 ?_ ?_); omega) | refine WC.seq ?_ | refine WC.block ?_ | refine WC.region ?_ | refine WL.nil ?_ | refine WC.skip ?_ | refine WC.exit ?_ | refine WC.ret ?_ | refine WQ.then rfl ?_ | refine WQ.thenExit ?_ | refine WQ.thenRet ?_ | refine WQ.blk ?_ | refine WQ.blkRet ?_ | refine WQ.blkHere rfl ?_ | refine WQ.blkOther rfl ?_ | refine WL.pure rfl rfl rfl rfl ?_ | refine WL.on rfl rfl ?_ | refine WL.off rfl rfl rfl ?_ | refine WC.condTrue rfl ?_ | refine WC.condFalse rfl ?_)
        exact WQ.again (i + 1, tb, rb) ⟨rfl, rfl, rfl, rfl, trivial⟩ ⟨h4, h1, hb3, st3, L3, hB3, by show L3.length ≤ i + 1; omega⟩ (by show 400 - (i + 1) < 400 - i; omega)
  · have hx : ¬ i < l.length ∨ (i < l.length ∧ ¬ i < 400) := by omega
    rcases hx with hx | ⟨hx, hy⟩
    all_goals
      repeat (first | ((with_reducible refine WL.topT ?_ ?_); omega) | ((with_reducible refine WL.topF ?_ ?_); omega) | ((with_reducible refine WL.top64 ?_ ?_); omega) | refine WC.seq ?_ | refine WC.block ?_ | refine WC.region ?_ | refine WL.nil ?_ | refine WC.skip ?_ | refine WC.exit ?_ | refine WC.ret ?_ | refine WQ.then rfl ?_ | refine WQ.thenExit ?_ | refine WQ.thenRet ?_ | refine WQ.blk ?_ | refine WQ.blkRet ?_ | refine WQ.blkHere rfl ?_ | refine WQ.blkOther rfl ?_ | refine WL.pure rfl rfl rfl rfl ?_ | refine WL.on rfl rfl ?_ | refine WL.off rfl rfl rfl ?_ | refine WC.condTrue rfl ?_ | refine WC.condFalse rfl ?_)
      refine WL.call rfl rfl rfl rfl rfl Try.func21 rfl (by kernel_rfl) (ranges_any hB.t hB.r (by omega) ⟨#[]⟩ ⟨#[]⟩ (-1) false) ?_
      rintro _ w5 ⟨rfl, b5⟩
      refine ⟨_, rfl, ?_⟩
      have hB5 := hB.below b5
      repeat (first | ((with_reducible refine WL.topT ?_ ?_); omega) | ((with_reducible refine WL.topF ?_ ?_); omega) | ((with_reducible refine WL.top64 ?_ ?_); omega) | refine WC.seq ?_ | refine WC.block ?_ | refine WC.region ?_ | refine WL.nil ?_ | refine WC.skip ?_ | refine WC.exit ?_ | refine WC.ret ?_ | refine WQ.then rfl ?_ | refine WQ.thenExit ?_ | refine WQ.thenRet ?_ | refine WQ.blk ?_ | refine WQ.blkRet ?_ | refine WQ.blkHere rfl ?_ | refine WQ.blkOther rfl ?_ | refine WL.pure rfl rfl rfl rfl ?_ | refine WL.on rfl rfl ?_ | refine WL.off rfl rfl rfl ?_ | refine WC.condTrue rfl ?_ | refine WC.condFalse rfl ?_)
      refine WL.call rfl rfl rfl rfl rfl Try.func21 rfl (by kernel_rfl) (ranges_any hB5.t hB5.r (by omega) ⟨#[]⟩ ⟨#[]⟩ (-1) true) ?_
      rintro _ w6 ⟨rfl, b6⟩
      refine ⟨_, rfl, ?_⟩
      repeat (first | ((with_reducible refine WL.topT ?_ ?_); omega) | ((with_reducible refine WL.topF ?_ ?_); omega) | ((with_reducible refine WL.top64 ?_ ?_); omega) | refine WC.seq ?_ | refine WC.block ?_ | refine WC.region ?_ | refine WL.nil ?_ | refine WC.skip ?_ | refine WC.exit ?_ | refine WC.ret ?_ | refine WQ.then rfl ?_ | refine WQ.thenExit ?_ | refine WQ.thenRet ?_ | refine WQ.blk ?_ | refine WQ.blkRet ?_ | refine WQ.blkHere rfl ?_ | refine WQ.blkOther rfl ?_ | refine WL.pure rfl rfl rfl rfl ?_ | refine WL.on rfl rfl ?_ | refine WL.off rfl rfl rfl ?_ | refine WC.condTrue rfl ?_ | refine WC.condFalse rfl ?_)
      refine WL.call rfl rfl rfl rfl rfl Try.func9 rfl (by kernel_rfl) known13_any ?_
      rintro _ w7 ⟨rfl, b7⟩
      refine ⟨_, rfl, ?_⟩
      repeat (first | ((with_reducible refine WL.topT ?_ ?_); omega) | ((with_reducible refine WL.topF ?_ ?_); omega) | ((with_reducible refine WL.top64 ?_ ?_); omega) | refine WC.seq ?_ | refine WC.block ?_ | refine WC.region ?_ | refine WL.nil ?_ | refine WC.skip ?_ | refine WC.exit ?_ | refine WC.ret ?_ | refine WQ.then rfl ?_ | refine WQ.thenExit ?_ | refine WQ.thenRet ?_ | refine WQ.blk ?_ | refine WQ.blkRet ?_ | refine WQ.blkHere rfl ?_ | refine WQ.blkOther rfl ?_ | refine WL.pure rfl rfl rfl rfl ?_ | refine WL.on rfl rfl ?_ | refine WL.off rfl rfl rfl ?_ | refine WC.condTrue rfl ?_ | refine WC.condFalse rfl ?_)
      have z5 := b5.size
      have z6 := b6.size
      exact WQ.ret1 rfl rfl ⟨rfl, hb.trans ((b5.trans ((b6.trans (b7.mono z6)).mono z5)).mono hb.size)⟩
end K
end Go.Proofs.Ytilmfnlaenneeaa

/-
  For every script the law TreePlays answers true, and the argument reads as it did. No condition.
-/
namespace Go.Proofs.Ytilmfnlaenneeaa.treePlays
open Go.ChangeShapes Go.WideShapes Go.ChangeAt Go.RowKit
open Go.ChangeMaps (open_string shut_string)
open Go.Proofs.Ytilmfnlaenneeaa

set_option maxRecDepth 100000 in
theorem lifted (os : Os) (started : os.Started) (H : Type) (enc : TypeId × Value → H) :
    ReturnsInHanded {} Try.checked os 6 .any (Rows.treePlaysSpec.pre6 enc Try.prog Try.f6 Rows.treePlaysRow.domain false) (Rows.treePlaysSpec.post enc Try.prog Try.f6 false true false false) := by
  refine returnsInHanded_of_change_sized (C := Try.checked) Try.ownKnob started (by kernel_rfl) Try.func6
    (ChangeSpec.witness6 (enc := enc) (C := Try.checked) false ⟨#[], #[.slice none 0 0], []⟩ 8 (by kernel_rfl) (by kernel_rfl) (by kernel_rfl) (by kernel_rfl)) ?_
  intro W base args ds gs before hval0 hW hcnd hsz _
  have hval : ∀ (j : Nat) t v, Try.f6.params[j]? = some t → args[j]? = some v → Value.okWide Try.prog W .any base t v := hval0
  have hW' := hW
  obtain ⟨p, q, hA0, hV, rfl, hfz, hnd⟩ := hW
  have hA : DataW.TrodAll enc Try.prog W 0 (fun _ => true) true Try.f6.params.toList args.toList ds p := hA0
  rw [Try.params6] at hA hval
  obtain ⟨v0, vs0, d0, ds0, p0, q0, hargs, rfl, rfl, h0, r0⟩ := trodAll_cons hA
  obtain ⟨rfl, rfl, rfl⟩ := trodAll_nil r0
  obtain rfl : args = #[v0] := by cases args; simp_all
  obtain ⟨rfl, rfl⟩ := trodVars_none hV
  have k0 := h0
  have lt0 : ∀ x ∈ p0, x.block < W.heap.size := by obtain ⟨m, hm⟩ := k0; exact DataW.trod_lt m _ _ _ hm
  obtain ⟨l0, is0⟩ := K.open_steps (hval 0 22 v0 rfl rfl) h0 (fun n hn => by have := List.all_eq_true.1 hsz n (DataW.weights_mem_each (j := 0) rfl rfl n hn); simpa using this)
  clear hA0 hval0
  refine (K.plays_law is0).mono fun e W' ⟨he, bel⟩ => ?_
  subst he
  exact ⟨_, rfl, _, _, _, [], _, [], hW', trodAll_mk1 (shut_bool Try.underlying4 _), (trodAll_cons_mk (Below.trod Try.laid (by kernel_rfl) (of_decide_eq_true (by kernel_rfl)) k0 bel lt0) trodAll_mk0), rfl, bel.frame _, fun h => by cases h⟩

theorem over : Rows.treePlaysRow.holds Try.pinned (OpenSpec.ofChange Rows.treePlaysSpec) :=
  OpenClaim.holds_of_wide 6 Try.f6 rfl rfl rfl rfl rfl rfl rfl ⟨rfl, rfl, rfl, rfl, rfl⟩ rfl rfl rfl rfl rfl (by kernel_rfl) Try.func6 (by kernel_rfl)
    (of_decide_eq_true (by kernel_rfl)) (by unfold Func.isWrapper; first | (rw [if_pos (by decide +kernel)]; kernel_rfl) | (rw [if_neg (by decide +kernel)]; exact ⟨rfl, rfl⟩))
    (fun os started H enc _ => lifted os started H enc)

/-- The statement. -/
theorem proved : Rows.TreePlaysSaid := over
end Go.Proofs.Ytilmfnlaenneeaa.treePlays
