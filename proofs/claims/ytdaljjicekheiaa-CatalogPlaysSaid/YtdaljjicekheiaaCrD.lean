/- The document's catalog (chapter 14): Apply of a table (printed by gen_crd.py). -/
import Derived.Test.YtdaljjicekheiaaCrC
namespace Go.Proofs.Ytdaljjicekheiaa
open Go.RowKit
namespace Cr
open K Cat
set_option maxHeartbeats 4000000 in
theorem rapply_table {w : World} {rc : Nat} {O : Nat → Prop} {L : List Tb} {cs : Array Value} {txt : ByteArray} {tbl : Int} (h0 : RCat w rc O L) (hE : Ent cs 5 txt tbl) :
    Calls Try.prog 13 #[.pointer (some ⟨rc, 0, none⟩), .agg cs] w (RApp w rc O L 5 txt tbl) := by
  obtain ⟨tv, cells, h⟩ := id h0
  obtain ⟨sp0, cap0, rfl, -, -⟩ := h.own.slice
  have hlen := h.good.len
  refine enter (args := [.pointer (some ⟨rc, 0, none⟩), .agg cs]) Try.func13 rfl Try.ntmps13 rfl ?_
  repeat (first | refine WC.seq ?_ | refine WC.block ?_ | refine WC.region ?_ | refine WL.nil ?_ | refine WC.skip ?_ | refine WC.exit ?_ | refine WC.ret ?_ | refine WQ.then rfl ?_ | refine WQ.thenExit ?_ | refine WQ.thenRet ?_ | refine WQ.blk ?_ | refine WQ.blkRet ?_ | refine WQ.blkHere rfl ?_ | refine WQ.blkOther rfl ?_)
  refine WL.box rfl rfl rfl rfl rfl fun ge w1 f1 => ?_
  have b1 : Below w.heap.size w w1 := f1.below
  obtain ⟨e0, e1, e2⟩ := ent_at hE f1.blk
  have eg := f1.eq
  have ez := f1.size
  clear f1
  have h1 := h.below b1
  have z1 := b1.size
  have cv := h1.vb.cell 0 (by simp)
  simp only [List.getD_cons_zero] at cv
  by_cases g64 : 64 ≤ L.length
  · repeat (first | ((with_reducible refine WL.topT ?_ ?_); omega) | ((with_reducible refine WL.topF ?_ ?_); omega) | ((with_reducible refine WL.top64 ?_ ?_); omega) | refine WC.seq ?_ | refine WC.block ?_ | refine WC.region ?_ | refine WL.nil ?_ | refine WC.skip ?_ | refine WC.exit ?_ | refine WC.ret ?_ | refine WQ.then rfl ?_ | refine WQ.thenExit ?_ | refine WQ.thenRet ?_ | refine WQ.blk ?_ | refine WQ.blkRet ?_ | refine WQ.blkHere rfl ?_ | refine WQ.blkOther rfl ?_ | refine WL.pure rfl rfl rfl rfl ?_ | refine WL.on rfl rfl ?_ | refine WL.off rfl rfl rfl ?_ | refine WL.load rfl rfl rfl rfl rfl rfl (by assumption) ?_ | refine WC.condTrue rfl ?_ | refine WC.condFalse rfl ?_)
    exact WQ.ret1 rfl rfl (RApp.no (by unfold appC; rw [if_pos rfl, if_pos g64]) (by omega) h0 b1)
  by_cases ht : tbl = (L.length : Int) + 1
  · subst ht
    repeat (first | ((with_reducible refine WL.topT ?_ ?_); omega) | ((with_reducible refine WL.topF ?_ ?_); omega) | ((with_reducible refine WL.top64 ?_ ?_); omega) | refine WC.seq ?_ | refine WC.block ?_ | refine WC.region ?_ | refine WL.nil ?_ | refine WC.skip ?_ | refine WC.exit ?_ | refine WC.ret ?_ | refine WQ.then rfl ?_ | refine WQ.thenExit ?_ | refine WQ.thenRet ?_ | refine WQ.blk ?_ | refine WQ.blkRet ?_ | refine WQ.blkHere rfl ?_ | refine WQ.blkOther rfl ?_ | refine WL.pure rfl rfl rfl rfl ?_ | refine WL.on rfl rfl ?_ | refine WL.off rfl rfl rfl ?_ | refine WL.load rfl rfl rfl rfl rfl rfl (by assumption) ?_ | refine WC.condTrue rfl ?_ | refine WC.condFalse rfl ?_)
    refine WC.drawn 14 (fun wx => Below w1.heap.size w1 wx) fun w2 hd => ?_
    have hS : Below w1.heap.size w1 w2 := hd.below _
    have kc : ∀ {wx : World}, Below w1.heap.size w1 wx → wx.cell? ⟨rc, 0, none⟩ = some (.slice sp0 L.length cap0) := fun hx => (hx.cell (p := ⟨rc, 0, none⟩) (show rc < w1.heap.size by have := h.lt _ h.rc; omega)).trans cv
    have k1 : ∀ {wx : World}, Below w1.heap.size w1 wx → wx.cell? ⟨ge, 1, none⟩ = some (.string txt) := fun hx => (hx.cell (p := ⟨ge, 1, none⟩) (show ge < w1.heap.size by omega)).trans e1
    have k2 : ∀ {wx : World}, Below w1.heap.size w1 wx → wx.cell? ⟨ge, 2, none⟩ = some (.int .i64 ((L.length : Int) + 1)) := fun hx => (hx.cell (p := ⟨ge, 2, none⟩) (show ge < w1.heap.size by omega)).trans e2
    (((first | refine WD.free 0 rfl (by kernel_rfl) rfl rfl (fun _ _ _ _ _ h => h) rfl rfl (.inr hS) ?_ | refine WD.skip 0 rfl (by kernel_rfl) rfl rfl (fun _ _ _ _ _ h => h) rfl (.inr hS) ?_); try (first | ((with_reducible refine WD.topT ?_ ?_); omega) | ((with_reducible refine WD.topF ?_ ?_); omega) | ((with_reducible refine WD.top64 ?_ ?_); omega))); ((first | refine WD.free 2 rfl (by kernel_rfl) rfl rfl (fun _ _ _ _ _ h => h) rfl rfl (.inr hS) ?_ | refine WD.skip 2 rfl (by kernel_rfl) rfl rfl (fun _ _ _ _ _ h => h) rfl (.inr hS) ?_); try (first | ((with_reducible refine WD.topT ?_ ?_); omega) | ((with_reducible refine WD.topF ?_ ?_); omega) | ((with_reducible refine WD.top64 ?_ ?_); omega))); ((first | refine WD.free 3 rfl (by kernel_rfl) rfl rfl (fun _ _ _ _ _ h => h) rfl rfl (.inr hS) ?_ | refine WD.skip 3 rfl (by kernel_rfl) rfl rfl (fun _ _ _ _ _ h => h) rfl (.inr hS) ?_); try (first | ((with_reducible refine WD.topT ?_ ?_); omega) | ((with_reducible refine WD.topF ?_ ?_); omega) | ((with_reducible refine WD.top64 ?_ ?_); omega))); ((first | refine WD.free 4 rfl (by kernel_rfl) rfl rfl (fun _ _ _ _ _ h => h) rfl rfl (.inr hS) ?_ | refine WD.skip 4 rfl (by kernel_rfl) rfl rfl (fun _ _ _ _ _ h => h) rfl (.inr hS) ?_); try (first | ((with_reducible refine WD.topT ?_ ?_); omega) | ((with_reducible refine WD.topF ?_ ?_); omega) | ((with_reducible refine WD.top64 ?_ ?_); omega))))
    refine WD.load 1 [8, 9, 13, 14] rfl (by kernel_rfl) rfl rfl (fun _ _ _ _ _ h => h) rfl rfl rfl rfl (fun wx hx => k2 hx) hS ?_
    refine WD.load 5 [6, 7, 8, 9, 13, 14] rfl (by kernel_rfl) rfl rfl (fun _ _ _ _ _ h => h) rfl rfl rfl rfl (fun wx hx => kc hx) hS ?_
    (((first | refine WD.free 6 rfl (by kernel_rfl) rfl rfl (fun _ _ _ _ _ h => h) rfl rfl (.inr hS) ?_ | refine WD.skip 6 rfl (by kernel_rfl) rfl rfl (fun _ _ _ _ _ h => h) rfl (.inr hS) ?_); try (first | ((with_reducible refine WD.topT ?_ ?_); omega) | ((with_reducible refine WD.topF ?_ ?_); omega) | ((with_reducible refine WD.top64 ?_ ?_); omega))); ((first | refine WD.free 7 rfl (by kernel_rfl) rfl rfl (fun _ _ _ _ _ h => h) rfl rfl (.inr hS) ?_ | refine WD.skip 7 rfl (by kernel_rfl) rfl rfl (fun _ _ _ _ _ h => h) rfl (.inr hS) ?_); try (first | ((with_reducible refine WD.topT ?_ ?_); omega) | ((with_reducible refine WD.topF ?_ ?_); omega) | ((with_reducible refine WD.top64 ?_ ?_); omega))); ((first | refine WD.free 8 rfl (by kernel_rfl) rfl rfl (fun _ _ _ _ _ h => h) rfl rfl (.inr hS) ?_ | refine WD.skip 8 rfl (by kernel_rfl) rfl rfl (fun _ _ _ _ _ h => h) rfl (.inr hS) ?_); try (first | ((with_reducible refine WD.topT ?_ ?_); omega) | ((with_reducible refine WD.topF ?_ ?_); omega) | ((with_reducible refine WD.top64 ?_ ?_); omega))); ((first | refine WD.free 9 rfl (by kernel_rfl) rfl rfl (fun _ _ _ _ _ h => h) rfl rfl (.inr hS) ?_ | refine WD.skip 9 rfl (by kernel_rfl) rfl rfl (fun _ _ _ _ _ h => h) rfl (.inr hS) ?_); try (first | ((with_reducible refine WD.topT ?_ ?_); omega) | ((with_reducible refine WD.topF ?_ ?_); omega) | ((with_reducible refine WD.top64 ?_ ?_); omega))); ((first | refine WD.free 10 rfl (by kernel_rfl) rfl rfl (fun _ _ _ _ _ h => h) rfl rfl (.inr hS) ?_ | refine WD.skip 10 rfl (by kernel_rfl) rfl rfl (fun _ _ _ _ _ h => h) rfl (.inr hS) ?_); try (first | ((with_reducible refine WD.topT ?_ ?_); omega) | ((with_reducible refine WD.topF ?_ ?_); omega) | ((with_reducible refine WD.top64 ?_ ?_); omega))))
    refine WD.load 11 [12, 13, 14] rfl (by kernel_rfl) rfl rfl (fun _ _ _ _ _ h => h) rfl rfl rfl rfl (fun wx hx => k1 hx) hS ?_
    refine WD.one 12 (by kernel_rfl) rfl ?_
    refine WL.on rfl rfl ?_
    refine WL.call rfl rfl rfl rfl rfl Try.func25 rfl (by kernel_rfl) (rname_any txt w2) ?_
    rintro _ w2 ⟨rfl, rfl⟩
    refine ⟨_, rfl, ?_⟩
    refine WL.nil (WQ.dk (.inr hS) ?_)
    (((first | refine WD.free 13 rfl (by kernel_rfl) rfl rfl (fun _ _ _ _ _ h => h) rfl rfl (.inr hS) ?_ | refine WD.skip 13 rfl (by kernel_rfl) rfl rfl (fun _ _ _ _ _ h => h) rfl (.inr hS) ?_); try (first | ((with_reducible refine WD.topT ?_ ?_); omega) | ((with_reducible refine WD.topF ?_ ?_); omega) | ((with_reducible refine WD.top64 ?_ ?_); omega))))
    refine WD.one 14 (by kernel_rfl) rfl ?_
    cases hnm : isNm txt with
    | false =>
      repeat (first | ((with_reducible refine WL.topT ?_ ?_); omega) | ((with_reducible refine WL.topF ?_ ?_); omega) | ((with_reducible refine WL.top64 ?_ ?_); omega) | refine WC.seq ?_ | refine WC.block ?_ | refine WC.region ?_ | refine WL.nil ?_ | refine WC.skip ?_ | refine WC.exit ?_ | refine WC.ret ?_ | refine WQ.then rfl ?_ | refine WQ.thenExit ?_ | refine WQ.thenRet ?_ | refine WQ.blk ?_ | refine WQ.blkRet ?_ | refine WQ.blkHere rfl ?_ | refine WQ.blkOther rfl ?_ | refine WL.pure rfl rfl rfl rfl ?_ | refine WL.on rfl rfl ?_ | refine WL.off rfl rfl rfl ?_ | refine WC.condTrue rfl ?_ | refine WC.condFalse rfl ?_)
      refine WQ.dk (.inl rfl) ?_
      refine WD.done (by kernel_rfl) ?_
      repeat (first | ((with_reducible refine WL.topT ?_ ?_); omega) | ((with_reducible refine WL.topF ?_ ?_); omega) | ((with_reducible refine WL.top64 ?_ ?_); omega) | refine WC.seq ?_ | refine WC.block ?_ | refine WC.region ?_ | refine WL.nil ?_ | refine WC.skip ?_ | refine WC.exit ?_ | refine WC.ret ?_ | refine WQ.then rfl ?_ | refine WQ.thenExit ?_ | refine WQ.thenRet ?_ | refine WQ.blk ?_ | refine WQ.blkRet ?_ | refine WQ.blkHere rfl ?_ | refine WQ.blkOther rfl ?_ | refine WL.pure rfl rfl rfl rfl ?_ | refine WL.on rfl rfl ?_ | refine WL.off rfl rfl rfl ?_ | refine WC.condTrue rfl ?_ | refine WC.condFalse rfl ?_)
      exact WQ.ret1 rfl rfl (RApp.no (by unfold appC; rw [if_pos rfl, if_neg g64, if_pos (.inr hnm)]) (by omega) h0 (b1.trans (hS.mono z1)))
    | true =>
    repeat (first | ((with_reducible refine WL.topT ?_ ?_); omega) | ((with_reducible refine WL.topF ?_ ?_); omega) | ((with_reducible refine WL.top64 ?_ ?_); omega) | refine WC.seq ?_ | refine WC.block ?_ | refine WC.region ?_ | refine WL.nil ?_ | refine WC.skip ?_ | refine WC.exit ?_ | refine WC.ret ?_ | refine WQ.then rfl ?_ | refine WQ.thenExit ?_ | refine WQ.thenRet ?_ | refine WQ.blk ?_ | refine WQ.blkRet ?_ | refine WQ.blkHere rfl ?_ | refine WQ.blkOther rfl ?_ | refine WL.pure rfl rfl rfl rfl ?_ | refine WL.on rfl rfl ?_ | refine WL.off rfl rfl rfl ?_ | refine WC.condTrue rfl ?_ | refine WC.condFalse rfl ?_)
    refine WQ.dk (.inl rfl) ?_
    refine WD.done (by kernel_rfl) ?_
    have h2 := (h1.below hS)
    have z2 := hS.size
    have q1 := k1 hS
    repeat (first | ((with_reducible refine WL.topT ?_ ?_); omega) | ((with_reducible refine WL.topF ?_ ?_); omega) | ((with_reducible refine WL.top64 ?_ ?_); omega) | refine WC.seq ?_ | refine WC.block ?_ | refine WC.region ?_ | refine WL.nil ?_ | refine WC.skip ?_ | refine WC.exit ?_ | refine WC.ret ?_ | refine WQ.then rfl ?_ | refine WQ.thenExit ?_ | refine WQ.thenRet ?_ | refine WQ.blk ?_ | refine WQ.blkRet ?_ | refine WQ.blkHere rfl ?_ | refine WQ.blkOther rfl ?_ | refine WL.pure rfl rfl rfl rfl ?_ | refine WL.on rfl rfl ?_ | refine WL.off rfl rfl rfl ?_ | refine WL.load rfl rfl rfl rfl rfl rfl (by assumption) ?_ | refine WC.condTrue rfl ?_ | refine WC.condFalse rfl ?_)
    refine WL.call rfl rfl rfl rfl rfl Try.func14 rfl (by kernel_rfl) (rfind_any ⟨_, _, h2⟩ txt) ?_
    intro e w4 hp
    have hA : appC L 5 txt ((L.length : Int) + 1) = if (findI L txt).isSome = true then 8 else 0 := by
      unfold appC
      rw [if_pos rfl, if_neg g64, if_neg (by rw [hnm]; simp)]
    cases hfi : findI L txt with
    | some k =>
      rw [show findR L txt = (((k + 1 : Nat) : Int), L.getD k noTb, 0) by unfold findR; rw [hfi]] at hp
      obtain ⟨fv, he, hfo, hb4⟩ := hp
      simp only at he
      subst he
      refine ⟨_, rfl, ?_⟩
      repeat (first | ((with_reducible refine WL.topT ?_ ?_); omega) | ((with_reducible refine WL.topF ?_ ?_); omega) | ((with_reducible refine WL.top64 ?_ ?_); omega) | refine WC.seq ?_ | refine WC.block ?_ | refine WC.region ?_ | refine WL.nil ?_ | refine WC.skip ?_ | refine WC.exit ?_ | refine WC.ret ?_ | refine WQ.then rfl ?_ | refine WQ.thenExit ?_ | refine WQ.thenRet ?_ | refine WQ.blk ?_ | refine WQ.blkRet ?_ | refine WQ.blkHere rfl ?_ | refine WQ.blkOther rfl ?_ | refine WL.pure rfl rfl rfl rfl ?_ | refine WL.on rfl rfl ?_ | refine WL.off rfl rfl rfl ?_ | refine WC.condTrue rfl ?_ | refine WC.condFalse rfl ?_)
      refine WL.alloc (z := .agg zTab.toArray) rfl rfl rfl rfl zeroRT fun gt w5 f5 => ?_
      refine WL.storeRow rfl rfl rfl rfl rfl rfl f5.blk rfl rfl (ones4 (OwnV.one hfo)) ?_
      repeat (first | ((with_reducible refine WL.topT ?_ ?_); omega) | ((with_reducible refine WL.topF ?_ ?_); omega) | ((with_reducible refine WL.top64 ?_ ?_); omega) | refine WC.seq ?_ | refine WC.block ?_ | refine WC.region ?_ | refine WL.nil ?_ | refine WC.skip ?_ | refine WC.exit ?_ | refine WC.ret ?_ | refine WQ.then rfl ?_ | refine WQ.thenExit ?_ | refine WQ.thenRet ?_ | refine WQ.blk ?_ | refine WQ.blkRet ?_ | refine WQ.blkHere rfl ?_ | refine WQ.blkOther rfl ?_ | refine WL.pure rfl rfl rfl rfl ?_ | refine WL.on rfl rfl ?_ | refine WL.off rfl rfl rfl ?_ | refine WC.condTrue rfl ?_ | refine WC.condFalse rfl ?_)
      have b4 := hS.trans (hb4.mono z2)
      have b5 := b4.trans (f5.below.mono b4.size)
      exact WQ.ret1 rfl rfl (RApp.no (by rw [hA, hfi]; rfl) (by omega) h0 ((b1.trans (b5.mono z1)).trans (keepRow (K := fun b => b < w.heap.size) (g := gt) (Keep.refl _ _) (fun hh => by have := f5.eq; have := b4.size; omega) _).below))
    | none =>
      rw [show findR L txt = (0, noTb, 13) by unfold findR; rw [hfi]] at hp
      obtain ⟨fv, he, hfo, hb4⟩ := hp
      simp only at he
      subst he
      refine ⟨_, rfl, ?_⟩
      repeat (first | ((with_reducible refine WL.topT ?_ ?_); omega) | ((with_reducible refine WL.topF ?_ ?_); omega) | ((with_reducible refine WL.top64 ?_ ?_); omega) | refine WC.seq ?_ | refine WC.block ?_ | refine WC.region ?_ | refine WL.nil ?_ | refine WC.skip ?_ | refine WC.exit ?_ | refine WC.ret ?_ | refine WQ.then rfl ?_ | refine WQ.thenExit ?_ | refine WQ.thenRet ?_ | refine WQ.blk ?_ | refine WQ.blkRet ?_ | refine WQ.blkHere rfl ?_ | refine WQ.blkOther rfl ?_ | refine WL.pure rfl rfl rfl rfl ?_ | refine WL.on rfl rfl ?_ | refine WL.off rfl rfl rfl ?_ | refine WC.condTrue rfl ?_ | refine WC.condFalse rfl ?_)
      refine WL.alloc (z := .agg zTab.toArray) rfl rfl rfl rfl zeroRT fun gt w5 f5 => ?_
      refine WL.storeRow rfl rfl rfl rfl rfl rfl f5.blk rfl rfl (ones4 (OwnV.one hfo)) ?_
      have b4 := hS.trans (hb4.mono z2)
      have b5 := (b4.trans (f5.below.mono b4.size)).trans (keepRow (K := fun b => b < w1.heap.size) (g := gt) (Keep.refl _ _) (fun hh => by have := f5.eq; have := b4.size; omega) [Value.int .i64 0, .string ByteArray.empty, .bool false, fv].toArray).below
      clear hfo hb4 b4 h2 z2 q1
      have hc : appC L 5 txt ((L.length : Int) + 1) = 0 := by rw [hA, hfi]; rfl
      have hL : appL L 5 txt ((L.length : Int) + 1) = L ++ [⟨txt, false, []⟩] := by unfold appL; rw [if_pos hc, if_pos rfl]
      repeat (first | ((with_reducible refine WL.topT ?_ ?_); omega) | ((with_reducible refine WL.topF ?_ ?_); omega) | ((with_reducible refine WL.top64 ?_ ?_); omega) | refine WC.seq ?_ | refine WC.block ?_ | refine WC.region ?_ | refine WL.nil ?_ | refine WC.skip ?_ | refine WC.exit ?_ | refine WC.ret ?_ | refine WQ.then rfl ?_ | refine WQ.thenExit ?_ | refine WQ.thenRet ?_ | refine WQ.blk ?_ | refine WQ.blkRet ?_ | refine WQ.blkHere rfl ?_ | refine WQ.blkOther rfl ?_ | refine WL.pure rfl rfl rfl rfl ?_ | refine WL.on rfl rfl ?_ | refine WL.off rfl rfl rfl ?_ | refine WL.load rfl rfl rfl rfl rfl rfl (by assumption) ?_ | refine WC.condTrue rfl ?_ | refine WC.condFalse rfl ?_)
      refine WC.drawn 13 (fun wx => Below w1.heap.size w1 wx) fun w3 hd3 => ?_
      have c3 : Below w1.heap.size w1 w3 := b5.trans (hd3.below _)
      clear hd3 b5 f5 hS
      have hS := c3
      have src : ∀ {wx : World}, Below w1.heap.size w1 wx → SlV wx O 4 (.slice sp0 L.length cap0) L.length cells := fun hx => (h1.below hx).own.slV
      (((first | refine WD.free 0 rfl (by kernel_rfl) rfl rfl (fun _ _ _ _ _ h => h) rfl rfl (.inr hS) ?_ | refine WD.skip 0 rfl (by kernel_rfl) rfl rfl (fun _ _ _ _ _ h => h) rfl (.inr hS) ?_); try (first | ((with_reducible refine WD.topT ?_ ?_); omega) | ((with_reducible refine WD.topF ?_ ?_); omega) | ((with_reducible refine WD.top64 ?_ ?_); omega))); ((first | refine WD.free 2 rfl (by kernel_rfl) rfl rfl (fun _ _ _ _ _ h => h) rfl rfl (.inr hS) ?_ | refine WD.skip 2 rfl (by kernel_rfl) rfl rfl (fun _ _ _ _ _ h => h) rfl (.inr hS) ?_); try (first | ((with_reducible refine WD.topT ?_ ?_); omega) | ((with_reducible refine WD.topF ?_ ?_); omega) | ((with_reducible refine WD.top64 ?_ ?_); omega))); ((first | refine WD.free 3 rfl (by kernel_rfl) rfl rfl (fun _ _ _ _ _ h => h) rfl rfl (.inr hS) ?_ | refine WD.skip 3 rfl (by kernel_rfl) rfl rfl (fun _ _ _ _ _ h => h) rfl (.inr hS) ?_); try (first | ((with_reducible refine WD.topT ?_ ?_); omega) | ((with_reducible refine WD.topF ?_ ?_); omega) | ((with_reducible refine WD.top64 ?_ ?_); omega))); ((first | refine WD.free 4 rfl (by kernel_rfl) rfl rfl (fun _ _ _ _ _ h => h) rfl rfl (.inr hS) ?_ | refine WD.skip 4 rfl (by kernel_rfl) rfl rfl (fun _ _ _ _ _ h => h) rfl (.inr hS) ?_); try (first | ((with_reducible refine WD.topT ?_ ?_); omega) | ((with_reducible refine WD.topF ?_ ?_); omega) | ((with_reducible refine WD.top64 ?_ ?_); omega))); ((first | refine WD.free 7 rfl (by kernel_rfl) rfl rfl (fun _ _ _ _ _ h => h) rfl rfl (.inr hS) ?_ | refine WD.skip 7 rfl (by kernel_rfl) rfl rfl (fun _ _ _ _ _ h => h) rfl (.inr hS) ?_); try (first | ((with_reducible refine WD.topT ?_ ?_); omega) | ((with_reducible refine WD.topF ?_ ?_); omega) | ((with_reducible refine WD.top64 ?_ ?_); omega))); ((first | refine WD.free 9 rfl (by kernel_rfl) rfl rfl (fun _ _ _ _ _ h => h) rfl rfl (.inr hS) ?_ | refine WD.skip 9 rfl (by kernel_rfl) rfl rfl (fun _ _ _ _ _ h => h) rfl (.inr hS) ?_); try (first | ((with_reducible refine WD.topT ?_ ?_); omega) | ((with_reducible refine WD.topF ?_ ?_); omega) | ((with_reducible refine WD.top64 ?_ ?_); omega))))
      refine WD.load 5 [6, 13] rfl (by kernel_rfl) rfl rfl (fun _ _ _ _ _ h => h) rfl rfl rfl rfl (fun wx hx => kc hx) c3 ?_
      refine WD.load 8 [11, 12, 13] rfl (by kernel_rfl) rfl rfl (fun _ _ _ _ _ h => h) rfl rfl rfl rfl (fun wx hx => k2 hx) c3 ?_
      refine WD.load 10 [11, 12, 13] rfl (by kernel_rfl) rfl rfl (fun _ _ _ _ _ h => h) rfl rfl rfl rfl (fun wx hx => k1 hx) c3 ?_
      refine WDbuild [.int .i64 ((L.length : Int) + 1), .string txt, .bool false, .slice none 0 0] 11 rfl (by kernel_rfl) rfl rfl (fun _ _ _ _ _ h => h) rfl rfl rfl (by kernel_rfl) (.inr c3) ?_
      refine WD.two 1 12 (by kernel_rfl) rfl rfl ?_ ?_
      · skip
        refine WL.empty rfl rfl rfl rfl rfl fun ga wa fa => ?_
        have ca : Below w1.heap.size w1 wa := c3.trans (fa.below.mono c3.size)
        have owna : OwnV rtT 4 wa (fun b => w1.heap.size ≤ b) (.slice (some ⟨ga, 0, none⟩) 0 0) 0 [] := OwnV.fresh fa (fun u hu => absurd hu List.not_mem_nil) (by simp) (by omega) (by have := fa.eq; have := c3.size; omega)
        refine WL.nil (WQ.dk (.inr ca) ?_)
        refine WD.two 6 12 (by kernel_rfl) rfl rfl ?_ ?_
        · skip
          refine WL.appV rfl rfl rfl rfl elemRT rfl owna rfl (src ca) (by omega) (by omega) fun vb wb ob gb => ?_
          have cb : Below w1.heap.size w1 wb := ca.trans (gb.old ca.size fun g hg => owna.own hg)
          have ownb : OwnV rtT 4 wb (fun b => w1.heap.size ≤ b) vb L.length cells := by
            rw [Nat.zero_add, List.nil_append] at ob
            exact ob.mono fun b hb => hb.elim id fun e => by have := ca.size; omega
          refine WL.nil (WQ.dk (.inr cb) ?_)
          refine WD.one 12 (by kernel_rfl) rfl ?_
          refine WL.lit1 rfl rfl rfl rfl rfl rfl (cs := [.int .i64 ((L.length : Int) + 1), .string txt, .bool false, .slice none 0 0]) rfl rfl (by omega) (by kernel_rfl) fun gl wl fl => ?_
          have cl : Below w1.heap.size w1 wl := cb.trans (fl.below.mono cb.size)
          have litL := SlV.fresh1 fl (T := rtT) (ones4 rfl)
          have glL : gl < wl.heap.size := fl.blk.lt
          have ownl := ownb.keep (Keep.of_below fl.below) (fun g hg => ownb.lt hg)
          skip
          refine WL.nil (WQ.dk (.inr cl) ?_)
          refine WD.one 13 (by kernel_rfl) rfl ?_
          refine WL.appV rfl rfl rfl rfl elemRT rfl ownl rfl litL (by omega) (by omega) fun vd wd od gd => ?_
          have cd : Below w1.heap.size w1 wd := cl.trans (gd.old cl.size fun g hg => ownl.own hg)
          have ownd : OwnV rtT 4 wd (fun b => w1.heap.size ≤ b) vd (L.length + 1) (cells ++ [.int .i64 ((L.length : Int) + 1), .string txt, .bool false, .slice none 0 0]) := od.mono fun b hb => hb.elim id fun e => by have := cl.size; omega
          refine WL.nil (WQ.dk (.inl rfl) ?_)
          (((first | refine WD.free 14 rfl (by kernel_rfl) rfl rfl (fun _ _ _ _ _ h => h) rfl rfl (.inl rfl) ?_ | refine WD.skip 14 rfl (by kernel_rfl) rfl rfl (fun _ _ _ _ _ h => h) rfl (.inl rfl) ?_); try (first | ((with_reducible refine WD.topT ?_ ?_); omega) | ((with_reducible refine WD.topF ?_ ?_); omega) | ((with_reducible refine WD.top64 ?_ ?_); omega))); ((first | refine WD.free 15 rfl (by kernel_rfl) rfl rfl (fun _ _ _ _ _ h => h) rfl rfl (.inl rfl) ?_ | refine WD.skip 15 rfl (by kernel_rfl) rfl rfl (fun _ _ _ _ _ h => h) rfl (.inl rfl) ?_); try (first | ((with_reducible refine WD.topT ?_ ?_); omega) | ((with_reducible refine WD.topF ?_ ?_); omega) | ((with_reducible refine WD.top64 ?_ ?_); omega))))
          refine WD.one 16 (by kernel_rfl) rfl ?_
          have hlt := h.lt _ h.rc
          have bd := b1.trans (cd.mono z1)
          have cvd : wd.cell? ⟨rc, 0, none⟩ = some (.slice sp0 L.length cap0) := (cd.cell (p := ⟨rc, 0, none⟩) (show rc < w1.heap.size by omega)).trans cv
          refine WL.store rfl rfl rfl rfl rfl (OwnV.one ownd) (by kernel_rfl) cvd (VBlk.free (h1.below cd |>.vb) 0) ?_
          refine WL.nil (WQ.dk (.inl rfl) ?_)
          refine WD.done (by kernel_rfl) ?_
          repeat (first | ((with_reducible refine WL.topT ?_ ?_); omega) | ((with_reducible refine WL.topF ?_ ?_); omega) | ((with_reducible refine WL.top64 ?_ ?_); omega) | refine WC.seq ?_ | refine WC.block ?_ | refine WC.region ?_ | refine WL.nil ?_ | refine WC.skip ?_ | refine WC.exit ?_ | refine WC.ret ?_ | refine WQ.then rfl ?_ | refine WQ.thenExit ?_ | refine WQ.thenRet ?_ | refine WQ.blk ?_ | refine WQ.blkRet ?_ | refine WQ.blkHere rfl ?_ | refine WQ.blkOther rfl ?_ | refine WL.pure rfl rfl rfl rfl ?_ | refine WL.on rfl rfl ?_ | refine WL.off rfl rfl rfl ?_ | refine WC.condTrue rfl ?_ | refine WC.condFalse rfl ?_)
          obtain ⟨r1, r2⟩ := h.push (w0 := w) (Keep.of_below bd) rfl (by omega) hnm ownd (fun g hg => by have : w1.heap.size ≤ g := ownd.own hg; omega)
          exact WQ.ret1 rfl rfl ⟨_, by rw [hc], by rw [hL]; exact ⟨_, _, r1⟩, r2, fun b (hb : (O b ∨ w.heap.size ≤ b) ∧ _) => hb.1⟩
        · skip
          refine WL.lit1 rfl rfl rfl rfl rfl rfl (cs := [.int .i64 ((L.length : Int) + 1), .string txt, .bool false, .slice none 0 0]) rfl rfl (by omega) (by kernel_rfl) fun gl wl fl => ?_
          have cl : Below w1.heap.size w1 wl := ca.trans (fl.below.mono ca.size)
          have litL := SlV.fresh1 fl (T := rtT) (ones4 rfl)
          have glL : gl < wl.heap.size := fl.blk.lt
          have ownl := owna.keep (Keep.of_below fl.below) (fun g hg => owna.lt hg)
          have gne : ga ≠ gl := by have := fl.eq; have : ga < wa.heap.size := owna.lt rfl; omega
          refine WL.nil (WQ.dk (.inr cl) ?_)
          refine WD.one 6 (by kernel_rfl) rfl ?_
          refine WL.appV rfl rfl rfl rfl elemRT rfl ownl rfl (src cl) (by omega) (by omega) fun vb wb ob gb => ?_
          have cb : Below w1.heap.size w1 wb := cl.trans (gb.old cl.size fun g hg => ownl.own hg)
          have ownb : OwnV rtT 4 wb (fun b => w1.heap.size ≤ b) vb L.length cells := by
            rw [Nat.zero_add, List.nil_append] at ob
            exact ob.mono fun b hb => hb.elim id fun e => by have := cl.size; omega
          have litA := litL.keep gb.1 (fun b hb hl => ⟨hl, fun e => gne ((Option.some.inj e).trans hb)⟩)
          refine WL.nil (WQ.dk (.inr cb) ?_)
          refine WD.one 13 (by kernel_rfl) rfl ?_
          refine WL.appV rfl rfl rfl rfl elemRT rfl ownb rfl litA (by omega) (by omega) fun vd wd od gd => ?_
          have cd : Below w1.heap.size w1 wd := cb.trans (gd.old cb.size fun g hg => ownb.own hg)
          have ownd : OwnV rtT 4 wd (fun b => w1.heap.size ≤ b) vd (L.length + 1) (cells ++ [.int .i64 ((L.length : Int) + 1), .string txt, .bool false, .slice none 0 0]) := od.mono fun b hb => hb.elim id fun e => by have := cb.size; omega
          refine WL.nil (WQ.dk (.inl rfl) ?_)
          (((first | refine WD.free 14 rfl (by kernel_rfl) rfl rfl (fun _ _ _ _ _ h => h) rfl rfl (.inl rfl) ?_ | refine WD.skip 14 rfl (by kernel_rfl) rfl rfl (fun _ _ _ _ _ h => h) rfl (.inl rfl) ?_); try (first | ((with_reducible refine WD.topT ?_ ?_); omega) | ((with_reducible refine WD.topF ?_ ?_); omega) | ((with_reducible refine WD.top64 ?_ ?_); omega))); ((first | refine WD.free 15 rfl (by kernel_rfl) rfl rfl (fun _ _ _ _ _ h => h) rfl rfl (.inl rfl) ?_ | refine WD.skip 15 rfl (by kernel_rfl) rfl rfl (fun _ _ _ _ _ h => h) rfl (.inl rfl) ?_); try (first | ((with_reducible refine WD.topT ?_ ?_); omega) | ((with_reducible refine WD.topF ?_ ?_); omega) | ((with_reducible refine WD.top64 ?_ ?_); omega))))
          refine WD.one 16 (by kernel_rfl) rfl ?_
          have hlt := h.lt _ h.rc
          have bd := b1.trans (cd.mono z1)
          have cvd : wd.cell? ⟨rc, 0, none⟩ = some (.slice sp0 L.length cap0) := (cd.cell (p := ⟨rc, 0, none⟩) (show rc < w1.heap.size by omega)).trans cv
          refine WL.store rfl rfl rfl rfl rfl (OwnV.one ownd) (by kernel_rfl) cvd (VBlk.free (h1.below cd |>.vb) 0) ?_
          refine WL.nil (WQ.dk (.inl rfl) ?_)
          refine WD.done (by kernel_rfl) ?_
          repeat (first | ((with_reducible refine WL.topT ?_ ?_); omega) | ((with_reducible refine WL.topF ?_ ?_); omega) | ((with_reducible refine WL.top64 ?_ ?_); omega) | refine WC.seq ?_ | refine WC.block ?_ | refine WC.region ?_ | refine WL.nil ?_ | refine WC.skip ?_ | refine WC.exit ?_ | refine WC.ret ?_ | refine WQ.then rfl ?_ | refine WQ.thenExit ?_ | refine WQ.thenRet ?_ | refine WQ.blk ?_ | refine WQ.blkRet ?_ | refine WQ.blkHere rfl ?_ | refine WQ.blkOther rfl ?_ | refine WL.pure rfl rfl rfl rfl ?_ | refine WL.on rfl rfl ?_ | refine WL.off rfl rfl rfl ?_ | refine WC.condTrue rfl ?_ | refine WC.condFalse rfl ?_)
          obtain ⟨r1, r2⟩ := h.push (w0 := w) (Keep.of_below bd) rfl (by omega) hnm ownd (fun g hg => by have : w1.heap.size ≤ g := ownd.own hg; omega)
          exact WQ.ret1 rfl rfl ⟨_, by rw [hc], by rw [hL]; exact ⟨_, _, r1⟩, r2, fun b (hb : (O b ∨ w.heap.size ≤ b) ∧ _) => hb.1⟩
      · skip
        refine WL.lit1 rfl rfl rfl rfl rfl rfl (cs := [.int .i64 ((L.length : Int) + 1), .string txt, .bool false, .slice none 0 0]) rfl rfl (by omega) (by kernel_rfl) fun gl wl fl => ?_
        have cl : Below w1.heap.size w1 wl := c3.trans (fl.below.mono c3.size)
        have litL := SlV.fresh1 fl (T := rtT) (ones4 rfl)
        have glL : gl < wl.heap.size := fl.blk.lt
        refine WL.nil (WQ.dk (.inr cl) ?_)
        refine WD.one 1 (by kernel_rfl) rfl ?_
        refine WL.empty rfl rfl rfl rfl rfl fun ga wa fa => ?_
        have ca : Below w1.heap.size w1 wa := cl.trans (fa.below.mono cl.size)
        have owna : OwnV rtT 4 wa (fun b => w1.heap.size ≤ b) (.slice (some ⟨ga, 0, none⟩) 0 0) 0 [] := OwnV.fresh fa (fun u hu => absurd hu List.not_mem_nil) (by simp) (by omega) (by have := fa.eq; have := cl.size; omega)
        have litE := litL.keep (Keep.of_below fa.below) (fun b _ hb => hb)
        have gne : ga ≠ gl := by have := fa.eq; omega
        have glE : gl < wa.heap.size := Nat.lt_of_lt_of_le glL fa.below.size
        refine WL.nil (WQ.dk (.inr ca) ?_)
        refine WD.one 6 (by kernel_rfl) rfl ?_
        refine WL.appV rfl rfl rfl rfl elemRT rfl owna rfl (src ca) (by omega) (by omega) fun vb wb ob gb => ?_
        have cb : Below w1.heap.size w1 wb := ca.trans (gb.old ca.size fun g hg => owna.own hg)
        have ownb : OwnV rtT 4 wb (fun b => w1.heap.size ≤ b) vb L.length cells := by
          rw [Nat.zero_add, List.nil_append] at ob
          exact ob.mono fun b hb => hb.elim id fun e => by have := ca.size; omega
        have litA := litE.keep gb.1 (fun b hb hl => ⟨hl, fun e => gne ((Option.some.inj e).trans hb)⟩)
        refine WL.nil (WQ.dk (.inr cb) ?_)
        refine WD.one 13 (by kernel_rfl) rfl ?_
        refine WL.appV rfl rfl rfl rfl elemRT rfl ownb rfl litA (by omega) (by omega) fun vd wd od gd => ?_
        have cd : Below w1.heap.size w1 wd := cb.trans (gd.old cb.size fun g hg => ownb.own hg)
        have ownd : OwnV rtT 4 wd (fun b => w1.heap.size ≤ b) vd (L.length + 1) (cells ++ [.int .i64 ((L.length : Int) + 1), .string txt, .bool false, .slice none 0 0]) := od.mono fun b hb => hb.elim id fun e => by have := cb.size; omega
        refine WL.nil (WQ.dk (.inl rfl) ?_)
        (((first | refine WD.free 14 rfl (by kernel_rfl) rfl rfl (fun _ _ _ _ _ h => h) rfl rfl (.inl rfl) ?_ | refine WD.skip 14 rfl (by kernel_rfl) rfl rfl (fun _ _ _ _ _ h => h) rfl (.inl rfl) ?_); try (first | ((with_reducible refine WD.topT ?_ ?_); omega) | ((with_reducible refine WD.topF ?_ ?_); omega) | ((with_reducible refine WD.top64 ?_ ?_); omega))); ((first | refine WD.free 15 rfl (by kernel_rfl) rfl rfl (fun _ _ _ _ _ h => h) rfl rfl (.inl rfl) ?_ | refine WD.skip 15 rfl (by kernel_rfl) rfl rfl (fun _ _ _ _ _ h => h) rfl (.inl rfl) ?_); try (first | ((with_reducible refine WD.topT ?_ ?_); omega) | ((with_reducible refine WD.topF ?_ ?_); omega) | ((with_reducible refine WD.top64 ?_ ?_); omega))))
        refine WD.one 16 (by kernel_rfl) rfl ?_
        have hlt := h.lt _ h.rc
        have bd := b1.trans (cd.mono z1)
        have cvd : wd.cell? ⟨rc, 0, none⟩ = some (.slice sp0 L.length cap0) := (cd.cell (p := ⟨rc, 0, none⟩) (show rc < w1.heap.size by omega)).trans cv
        refine WL.store rfl rfl rfl rfl rfl (OwnV.one ownd) (by kernel_rfl) cvd (VBlk.free (h1.below cd |>.vb) 0) ?_
        refine WL.nil (WQ.dk (.inl rfl) ?_)
        refine WD.done (by kernel_rfl) ?_
        repeat (first | ((with_reducible refine WL.topT ?_ ?_); omega) | ((with_reducible refine WL.topF ?_ ?_); omega) | ((with_reducible refine WL.top64 ?_ ?_); omega) | refine WC.seq ?_ | refine WC.block ?_ | refine WC.region ?_ | refine WL.nil ?_ | refine WC.skip ?_ | refine WC.exit ?_ | refine WC.ret ?_ | refine WQ.then rfl ?_ | refine WQ.thenExit ?_ | refine WQ.thenRet ?_ | refine WQ.blk ?_ | refine WQ.blkRet ?_ | refine WQ.blkHere rfl ?_ | refine WQ.blkOther rfl ?_ | refine WL.pure rfl rfl rfl rfl ?_ | refine WL.on rfl rfl ?_ | refine WL.off rfl rfl rfl ?_ | refine WC.condTrue rfl ?_ | refine WC.condFalse rfl ?_)
        obtain ⟨r1, r2⟩ := h.push (w0 := w) (Keep.of_below bd) rfl (by omega) hnm ownd (fun g hg => by have : w1.heap.size ≤ g := ownd.own hg; omega)
        exact WQ.ret1 rfl rfl ⟨_, by rw [hc], by rw [hL]; exact ⟨_, _, r1⟩, r2, fun b (hb : (O b ∨ w.heap.size ≤ b) ∧ _) => hb.1⟩
  · repeat (first | ((with_reducible refine WL.topT ?_ ?_); omega) | ((with_reducible refine WL.topF ?_ ?_); omega) | ((with_reducible refine WL.top64 ?_ ?_); omega) | refine WC.seq ?_ | refine WC.block ?_ | refine WC.region ?_ | refine WL.nil ?_ | refine WC.skip ?_ | refine WC.exit ?_ | refine WC.ret ?_ | refine WQ.then rfl ?_ | refine WQ.thenExit ?_ | refine WQ.thenRet ?_ | refine WQ.blk ?_ | refine WQ.blkRet ?_ | refine WQ.blkHere rfl ?_ | refine WQ.blkOther rfl ?_ | refine WL.pure rfl rfl rfl rfl ?_ | refine WL.on rfl rfl ?_ | refine WL.off rfl rfl rfl ?_ | refine WL.load rfl rfl rfl rfl rfl rfl (by assumption) ?_ | refine WC.condTrue rfl ?_ | refine WC.condFalse rfl ?_)
    refine WC.drawn 14 (fun wx => Below w1.heap.size w1 wx) fun w2 hd => ?_
    have hS : Below w1.heap.size w1 w2 := hd.below _
    have kc : ∀ {wx : World}, Below w1.heap.size w1 wx → wx.cell? ⟨rc, 0, none⟩ = some (.slice sp0 L.length cap0) := fun hx => (hx.cell (p := ⟨rc, 0, none⟩) (show rc < w1.heap.size by have := h.lt _ h.rc; omega)).trans cv
    have k2 : ∀ {wx : World}, Below w1.heap.size w1 wx → wx.cell? ⟨ge, 2, none⟩ = some (.int .i64 tbl) := fun hx => (hx.cell (p := ⟨ge, 2, none⟩) (show ge < w1.heap.size by omega)).trans e2
    (((first | refine WD.free 0 rfl (by kernel_rfl) rfl rfl (fun _ _ _ _ _ h => h) rfl rfl (.inr hS) ?_ | refine WD.skip 0 rfl (by kernel_rfl) rfl rfl (fun _ _ _ _ _ h => h) rfl (.inr hS) ?_); try (first | ((with_reducible refine WD.topT ?_ ?_); omega) | ((with_reducible refine WD.topF ?_ ?_); omega) | ((with_reducible refine WD.top64 ?_ ?_); omega))); ((first | refine WD.free 2 rfl (by kernel_rfl) rfl rfl (fun _ _ _ _ _ h => h) rfl rfl (.inr hS) ?_ | refine WD.skip 2 rfl (by kernel_rfl) rfl rfl (fun _ _ _ _ _ h => h) rfl (.inr hS) ?_); try (first | ((with_reducible refine WD.topT ?_ ?_); omega) | ((with_reducible refine WD.topF ?_ ?_); omega) | ((with_reducible refine WD.top64 ?_ ?_); omega))); ((first | refine WD.free 3 rfl (by kernel_rfl) rfl rfl (fun _ _ _ _ _ h => h) rfl rfl (.inr hS) ?_ | refine WD.skip 3 rfl (by kernel_rfl) rfl rfl (fun _ _ _ _ _ h => h) rfl (.inr hS) ?_); try (first | ((with_reducible refine WD.topT ?_ ?_); omega) | ((with_reducible refine WD.topF ?_ ?_); omega) | ((with_reducible refine WD.top64 ?_ ?_); omega))); ((first | refine WD.free 4 rfl (by kernel_rfl) rfl rfl (fun _ _ _ _ _ h => h) rfl rfl (.inr hS) ?_ | refine WD.skip 4 rfl (by kernel_rfl) rfl rfl (fun _ _ _ _ _ h => h) rfl (.inr hS) ?_); try (first | ((with_reducible refine WD.topT ?_ ?_); omega) | ((with_reducible refine WD.topF ?_ ?_); omega) | ((with_reducible refine WD.top64 ?_ ?_); omega))))
    refine WD.load 1 [8, 9, 13, 14] rfl (by kernel_rfl) rfl rfl (fun _ _ _ _ _ h => h) rfl rfl rfl rfl (fun wx hx => k2 hx) hS ?_
    refine WD.load 5 [6, 7, 8, 9, 13, 14] rfl (by kernel_rfl) rfl rfl (fun _ _ _ _ _ h => h) rfl rfl rfl rfl (fun wx hx => kc hx) hS ?_
    (((first | refine WD.free 6 rfl (by kernel_rfl) rfl rfl (fun _ _ _ _ _ h => h) rfl rfl (.inr hS) ?_ | refine WD.skip 6 rfl (by kernel_rfl) rfl rfl (fun _ _ _ _ _ h => h) rfl (.inr hS) ?_); try (first | ((with_reducible refine WD.topT ?_ ?_); omega) | ((with_reducible refine WD.topF ?_ ?_); omega) | ((with_reducible refine WD.top64 ?_ ?_); omega))); ((first | refine WD.free 7 rfl (by kernel_rfl) rfl rfl (fun _ _ _ _ _ h => h) rfl rfl (.inr hS) ?_ | refine WD.skip 7 rfl (by kernel_rfl) rfl rfl (fun _ _ _ _ _ h => h) rfl (.inr hS) ?_); try (first | ((with_reducible refine WD.topT ?_ ?_); omega) | ((with_reducible refine WD.topF ?_ ?_); omega) | ((with_reducible refine WD.top64 ?_ ?_); omega))); ((first | refine WD.free 8 rfl (by kernel_rfl) rfl rfl (fun _ _ _ _ _ h => h) rfl rfl (.inr hS) ?_ | refine WD.skip 8 rfl (by kernel_rfl) rfl rfl (fun _ _ _ _ _ h => h) rfl (.inr hS) ?_); try (first | ((with_reducible refine WD.topT ?_ ?_); omega) | ((with_reducible refine WD.topF ?_ ?_); omega) | ((with_reducible refine WD.top64 ?_ ?_); omega))); ((first | refine WD.free 9 rfl (by kernel_rfl) rfl rfl (fun _ _ _ _ _ h => h) rfl rfl (.inr hS) ?_ | refine WD.skip 9 rfl (by kernel_rfl) rfl rfl (fun _ _ _ _ _ h => h) rfl (.inr hS) ?_); try (first | ((with_reducible refine WD.topT ?_ ?_); omega) | ((with_reducible refine WD.topF ?_ ?_); omega) | ((with_reducible refine WD.top64 ?_ ?_); omega))); ((first | refine WD.free 10 rfl (by kernel_rfl) rfl rfl (fun _ _ _ _ _ h => h) rfl rfl (.inr hS) ?_ | refine WD.skip 10 rfl (by kernel_rfl) rfl rfl (fun _ _ _ _ _ h => h) rfl (.inr hS) ?_); try (first | ((with_reducible refine WD.topT ?_ ?_); omega) | ((with_reducible refine WD.topF ?_ ?_); omega) | ((with_reducible refine WD.top64 ?_ ?_); omega))); ((first | refine WD.free 11 rfl (by kernel_rfl) rfl rfl (fun _ _ _ _ _ h => h) rfl rfl (.inr hS) ?_ | refine WD.skip 11 rfl (by kernel_rfl) rfl rfl (fun _ _ _ _ _ h => h) rfl (.inr hS) ?_); try (first | ((with_reducible refine WD.topT ?_ ?_); omega) | ((with_reducible refine WD.topF ?_ ?_); omega) | ((with_reducible refine WD.top64 ?_ ?_); omega))); ((first | refine WD.free 12 rfl (by kernel_rfl) rfl rfl (fun _ _ _ _ _ h => h) rfl rfl (.inr hS) ?_ | refine WD.skip 12 rfl (by kernel_rfl) rfl rfl (fun _ _ _ _ _ h => h) rfl (.inr hS) ?_); try (first | ((with_reducible refine WD.topT ?_ ?_); omega) | ((with_reducible refine WD.topF ?_ ?_); omega) | ((with_reducible refine WD.top64 ?_ ?_); omega))); ((first | refine WD.free 13 rfl (by kernel_rfl) rfl rfl (fun _ _ _ _ _ h => h) rfl rfl (.inr hS) ?_ | refine WD.skip 13 rfl (by kernel_rfl) rfl rfl (fun _ _ _ _ _ h => h) rfl (.inr hS) ?_); try (first | ((with_reducible refine WD.topT ?_ ?_); omega) | ((with_reducible refine WD.topF ?_ ?_); omega) | ((with_reducible refine WD.top64 ?_ ?_); omega))))
    refine WD.one 14 (by kernel_rfl) rfl ?_
    repeat (first | ((with_reducible refine WL.topT ?_ ?_); omega) | ((with_reducible refine WL.topF ?_ ?_); omega) | ((with_reducible refine WL.top64 ?_ ?_); omega) | refine WC.seq ?_ | refine WC.block ?_ | refine WC.region ?_ | refine WL.nil ?_ | refine WC.skip ?_ | refine WC.exit ?_ | refine WC.ret ?_ | refine WQ.then rfl ?_ | refine WQ.thenExit ?_ | refine WQ.thenRet ?_ | refine WQ.blk ?_ | refine WQ.blkRet ?_ | refine WQ.blkHere rfl ?_ | refine WQ.blkOther rfl ?_ | refine WL.pure rfl rfl rfl rfl ?_ | refine WL.on rfl rfl ?_ | refine WL.off rfl rfl rfl ?_ | refine WC.condTrue rfl ?_ | refine WC.condFalse rfl ?_)
    refine WQ.dk (.inl rfl) ?_
    refine WD.done (by kernel_rfl) ?_
    repeat (first | ((with_reducible refine WL.topT ?_ ?_); omega) | ((with_reducible refine WL.topF ?_ ?_); omega) | ((with_reducible refine WL.top64 ?_ ?_); omega) | refine WC.seq ?_ | refine WC.block ?_ | refine WC.region ?_ | refine WL.nil ?_ | refine WC.skip ?_ | refine WC.exit ?_ | refine WC.ret ?_ | refine WQ.then rfl ?_ | refine WQ.thenExit ?_ | refine WQ.thenRet ?_ | refine WQ.blk ?_ | refine WQ.blkRet ?_ | refine WQ.blkHere rfl ?_ | refine WQ.blkOther rfl ?_ | refine WL.pure rfl rfl rfl rfl ?_ | refine WL.on rfl rfl ?_ | refine WL.off rfl rfl rfl ?_ | refine WC.condTrue rfl ?_ | refine WC.condFalse rfl ?_)
    exact WQ.ret1 rfl rfl (RApp.no (by unfold appC; rw [if_pos rfl, if_neg g64, if_pos (.inl ht)]) (by omega) h0 (b1.trans (hS.mono z1)))
set_option maxHeartbeats 4000000 in
theorem rapply_drop {w : World} {rc : Nat} {O : Nat → Prop} {L : List Tb} {cs : Array Value} {txt : ByteArray} {tbl : Int} (h0 : RCat w rc O L) (hE : Ent cs 6 txt tbl) :
    Calls Try.prog 13 #[.pointer (some ⟨rc, 0, none⟩), .agg cs] w (RApp w rc O L 6 txt tbl) := by
  obtain ⟨tv, cells, h⟩ := id h0
  have hlen := h.good.len
  refine enter (args := [.pointer (some ⟨rc, 0, none⟩), .agg cs]) Try.func13 rfl Try.ntmps13 rfl ?_
  repeat (first | refine WC.seq ?_ | refine WC.block ?_ | refine WC.region ?_ | refine WL.nil ?_ | refine WC.skip ?_ | refine WC.exit ?_ | refine WC.ret ?_ | refine WQ.then rfl ?_ | refine WQ.thenExit ?_ | refine WQ.thenRet ?_ | refine WQ.blk ?_ | refine WQ.blkRet ?_ | refine WQ.blkHere rfl ?_ | refine WQ.blkOther rfl ?_)
  refine WL.box rfl rfl rfl rfl rfl fun ge w1 f1 => ?_
  have b1 : Below w.heap.size w w1 := f1.below
  obtain ⟨e0, e1, e2⟩ := ent_at hE f1.blk
  have eg := f1.eq
  have ez := f1.size
  clear f1
  have h1 := h.below b1
  have z1 := b1.size
  repeat (first | ((with_reducible refine WL.topT ?_ ?_); omega) | ((with_reducible refine WL.topF ?_ ?_); omega) | ((with_reducible refine WL.top64 ?_ ?_); omega) | refine WC.seq ?_ | refine WC.block ?_ | refine WC.region ?_ | refine WL.nil ?_ | refine WC.skip ?_ | refine WC.exit ?_ | refine WC.ret ?_ | refine WQ.then rfl ?_ | refine WQ.thenExit ?_ | refine WQ.thenRet ?_ | refine WQ.blk ?_ | refine WQ.blkRet ?_ | refine WQ.blkHere rfl ?_ | refine WQ.blkOther rfl ?_ | refine WL.pure rfl rfl rfl rfl ?_ | refine WL.on rfl rfl ?_ | refine WL.off rfl rfl rfl ?_ | refine WL.load rfl rfl rfl rfl rfl rfl (by assumption) ?_ | refine WC.condTrue rfl ?_ | refine WC.condFalse rfl ?_)
  refine WL.call rfl rfl rfl rfl rfl Try.func26 rfl (by kernel_rfl) (rthere_any h1 tbl) ?_
  rintro _ w1' ⟨rfl, ⟨ht, rfl⟩ | ⟨k, g, cap, hk, rfl, ht, hnd, rfl, rfl⟩⟩
  · refine ⟨_, rfl, ?_⟩
    repeat (first | ((with_reducible refine WL.topT ?_ ?_); omega) | ((with_reducible refine WL.topF ?_ ?_); omega) | ((with_reducible refine WL.top64 ?_ ?_); omega) | refine WC.seq ?_ | refine WC.block ?_ | refine WC.region ?_ | refine WL.nil ?_ | refine WC.skip ?_ | refine WC.exit ?_ | refine WC.ret ?_ | refine WQ.then rfl ?_ | refine WQ.thenExit ?_ | refine WQ.thenRet ?_ | refine WQ.blk ?_ | refine WQ.blkRet ?_ | refine WQ.blkHere rfl ?_ | refine WQ.blkOther rfl ?_ | refine WL.pure rfl rfl rfl rfl ?_ | refine WL.on rfl rfl ?_ | refine WL.off rfl rfl rfl ?_ | refine WC.condTrue rfl ?_ | refine WC.condFalse rfl ?_)
    refine WL.nilP rfl rfl rfl rfl rfl rfl (by kernel_rfl) ?_
    repeat (first | ((with_reducible refine WL.topT ?_ ?_); omega) | ((with_reducible refine WL.topF ?_ ?_); omega) | ((with_reducible refine WL.top64 ?_ ?_); omega) | refine WC.seq ?_ | refine WC.block ?_ | refine WC.region ?_ | refine WL.nil ?_ | refine WC.skip ?_ | refine WC.exit ?_ | refine WC.ret ?_ | refine WQ.then rfl ?_ | refine WQ.thenExit ?_ | refine WQ.thenRet ?_ | refine WQ.blk ?_ | refine WQ.blkRet ?_ | refine WQ.blkHere rfl ?_ | refine WQ.blkOther rfl ?_ | refine WL.pure rfl rfl rfl rfl ?_ | refine WL.on rfl rfl ?_ | refine WL.off rfl rfl rfl ?_ | refine WC.condTrue rfl ?_ | refine WC.condFalse rfl ?_)
    exact WQ.ret1 rfl rfl (RApp.no (by unfold appC; rw [if_neg (by omega), if_pos rfl, if_neg (by rw [ht]; simp)]) (by omega) h0 b1)
  · refine ⟨_, rfl, ?_⟩
    have hc : appC L 6 txt ((k : Int) + 1) = 0 := by unfold appC; rw [if_neg (by omega), if_pos rfl, if_pos ht]
    have hL : appL L 6 txt ((k : Int) + 1) = L.set k ⟨(L.getD k noTb).name, true, []⟩ := by unfold appL; rw [if_pos hc, if_neg (by omega), if_pos rfl, show ((k : Int) + 1 - 1).toNat = k by omega]
    obtain ⟨g', cap', es, -, -, hg1, hOg, d0, d1, d2, sp, c, d3, hown⟩ := tab_cells h1.own hk (h1.tab k hk)
    obtain ⟨rfl, rfl⟩ : g = g' ∧ cap = cap' := by simpa using es
    clear es
    have hl := h1.own.len
    have hbk := h.good.each k hk
    have o1 := OwnV.stored h1.own (k * 4 + 2) (u := .bool true) rfl
    have o2 := OwnV.stored o1 (k * 4 + 3) (u := .slice none 0 0) rfl
    repeat (first | ((with_reducible refine WL.topT ?_ ?_); omega) | ((with_reducible refine WL.topF ?_ ?_); omega) | ((with_reducible refine WL.top64 ?_ ?_); omega) | refine WC.seq ?_ | refine WC.block ?_ | refine WC.region ?_ | refine WL.nil ?_ | refine WC.skip ?_ | refine WC.exit ?_ | refine WC.ret ?_ | refine WQ.then rfl ?_ | refine WQ.thenExit ?_ | refine WQ.thenRet ?_ | refine WQ.blk ?_ | refine WQ.blkRet ?_ | refine WQ.blkHere rfl ?_ | refine WQ.blkOther rfl ?_ | refine WL.pure rfl rfl rfl rfl ?_ | refine WL.on rfl rfl ?_ | refine WL.off rfl rfl rfl ?_ | refine WC.condTrue rfl ?_ | refine WC.condFalse rfl ?_)
    refine WL.nilP rfl rfl rfl rfl rfl rfl (by kernel_rfl) ?_
    repeat (first | ((with_reducible refine WL.topT ?_ ?_); omega) | ((with_reducible refine WL.topF ?_ ?_); omega) | ((with_reducible refine WL.top64 ?_ ?_); omega) | refine WC.seq ?_ | refine WC.block ?_ | refine WC.region ?_ | refine WL.nil ?_ | refine WC.skip ?_ | refine WC.exit ?_ | refine WC.ret ?_ | refine WQ.then rfl ?_ | refine WQ.thenExit ?_ | refine WQ.thenRet ?_ | refine WQ.blk ?_ | refine WQ.blkRet ?_ | refine WQ.blkHere rfl ?_ | refine WQ.blkOther rfl ?_ | refine WL.pure rfl rfl rfl rfl ?_ | refine WL.on rfl rfl ?_ | refine WL.off rfl rfl rfl ?_ | refine WC.condTrue rfl ?_ | refine WC.condFalse rfl ?_)
    refine WL.store rfl rfl rfl rfl rfl rfl (by kernel_rfl) d2 (OwnV.free h1.own _) ?_
    have d3' : (w1'.setCell ⟨g, k * 4 + 2, none⟩ (.bool true)).cell? ⟨g, k * 4 + 3, none⟩ = some (.slice sp (L.getD k noTb).fs.length c) := by
      rw [OwnV.at o1 (k * 4 + 3) (by rw [List.length_set]; omega)]
      rw [OwnV.at h1.own (k * 4 + 3) (by omega)] at d3
      rw [Cat.getD_set_ne _ _ _ _ _ (by omega)]
      exact d3
    repeat (first | ((with_reducible refine WL.topT ?_ ?_); omega) | ((with_reducible refine WL.topF ?_ ?_); omega) | ((with_reducible refine WL.top64 ?_ ?_); omega) | refine WC.seq ?_ | refine WC.block ?_ | refine WC.region ?_ | refine WL.nil ?_ | refine WC.skip ?_ | refine WC.exit ?_ | refine WC.ret ?_ | refine WQ.then rfl ?_ | refine WQ.thenExit ?_ | refine WQ.thenRet ?_ | refine WQ.blk ?_ | refine WQ.blkRet ?_ | refine WQ.blkHere rfl ?_ | refine WQ.blkOther rfl ?_ | refine WL.pure rfl rfl rfl rfl ?_ | refine WL.on rfl rfl ?_ | refine WL.off rfl rfl rfl ?_ | refine WC.condTrue rfl ?_ | refine WC.condFalse rfl ?_)
    refine WL.store rfl rfl rfl rfl rfl rfl (by kernel_rfl) d3' (OwnV.free o1 _) ?_
    repeat (first | ((with_reducible refine WL.topT ?_ ?_); omega) | ((with_reducible refine WL.topF ?_ ?_); omega) | ((with_reducible refine WL.top64 ?_ ?_); omega) | refine WC.seq ?_ | refine WC.block ?_ | refine WC.region ?_ | refine WL.nil ?_ | refine WC.skip ?_ | refine WC.exit ?_ | refine WC.ret ?_ | refine WQ.then rfl ?_ | refine WQ.thenExit ?_ | refine WQ.thenRet ?_ | refine WQ.blk ?_ | refine WQ.blkRet ?_ | refine WQ.blkHere rfl ?_ | refine WQ.blkOther rfl ?_ | refine WL.pure rfl rfl rfl rfl ?_ | refine WL.on rfl rfl ?_ | refine WL.off rfl rfl rfl ?_ | refine WC.condTrue rfl ?_ | refine WC.condFalse rfl ?_)
    have hb : ∀ b, b < w1'.heap.size → b ≠ g → ((w1'.setCell ⟨g, k * 4 + 2, none⟩ (.bool true)).setCell ⟨g, k * 4 + 3, none⟩ (.slice none 0 0)).heap[b]? = w1'.heap[b]? := fun b _ hne => by
      rw [Below.heap_setCell _ _ _ b hne, Below.heap_setCell _ _ _ b hne]
    have R := h1.place (O' := O) (t := ⟨(L.getD k noTb).name, true, []⟩) hk hb o2 (fun _ hh => hh) (fun b hh => by simp; exact h1.lt b hh) (fun i hi j hj => by
      rw [Cat.getD_set_ne _ _ _ _ _ (by omega), Cat.getD_set_ne _ _ _ _ _ (by omega)]) ?_ (Cat.good_set h.good hbk.1 (by simp) (by simp) (by simp))
    · refine WQ.ret1 rfl rfl ⟨O, by rw [hc], by rw [hL]; exact ⟨_, _, R⟩, ?_, fun b hh => .inl hh⟩
      exact Keep.setCell (Keep.setCell ((Keep.of_below b1).mono fun b hh => hh.1) (fun hh => hh.2 hOg) _) (fun hh => hh.2 hOg) _
    · obtain ⟨i0, i1, i2, i3⟩ := h1.tab k hk
      refine ⟨?_, ?_, ?_, ?_⟩
      · rw [Cat.getD_set_ne _ _ _ _ _ (by omega), Cat.getD_set_ne _ _ _ _ _ (by omega)]; exact i0
      · rw [Cat.getD_set_ne _ _ _ _ _ (by omega), Cat.getD_set_ne _ _ _ _ _ (by omega)]; exact i1
      · rw [Cat.getD_set_ne _ _ _ _ _ (by omega), Cat.getD_set_eq _ _ _ _ (by omega)]
      · rw [Cat.getD_set_eq _ _ _ _ (by rw [List.length_set]; omega)]; exact OwnV.nil _ _ _ _
set_option maxHeartbeats 4000000 in
theorem rapply_index {w : World} {rc : Nat} {O : Nat → Prop} {L : List Tb} {cs : Array Value} {txt : ByteArray} {tbl : Int} (h0 : RCat w rc O L) (hE : Ent cs 7 txt tbl) :
    Calls Try.prog 13 #[.pointer (some ⟨rc, 0, none⟩), .agg cs] w (RApp w rc O L 7 txt tbl) := by
  obtain ⟨tv, cells, h⟩ := id h0
  have hlen := h.good.len
  refine enter (args := [.pointer (some ⟨rc, 0, none⟩), .agg cs]) Try.func13 rfl Try.ntmps13 rfl ?_
  repeat (first | refine WC.seq ?_ | refine WC.block ?_ | refine WC.region ?_ | refine WL.nil ?_ | refine WC.skip ?_ | refine WC.exit ?_ | refine WC.ret ?_ | refine WQ.then rfl ?_ | refine WQ.thenExit ?_ | refine WQ.thenRet ?_ | refine WQ.blk ?_ | refine WQ.blkRet ?_ | refine WQ.blkHere rfl ?_ | refine WQ.blkOther rfl ?_)
  refine WL.box rfl rfl rfl rfl rfl fun ge w1 f1 => ?_
  have b1 : Below w.heap.size w w1 := f1.below
  obtain ⟨e0, e1, e2⟩ := ent_at hE f1.blk
  have eg := f1.eq
  have ez := f1.size
  clear f1
  have h1 := h.below b1
  have z1 := b1.size
  repeat (first | ((with_reducible refine WL.topT ?_ ?_); omega) | ((with_reducible refine WL.topF ?_ ?_); omega) | ((with_reducible refine WL.top64 ?_ ?_); omega) | refine WC.seq ?_ | refine WC.block ?_ | refine WC.region ?_ | refine WL.nil ?_ | refine WC.skip ?_ | refine WC.exit ?_ | refine WC.ret ?_ | refine WQ.then rfl ?_ | refine WQ.thenExit ?_ | refine WQ.thenRet ?_ | refine WQ.blk ?_ | refine WQ.blkRet ?_ | refine WQ.blkHere rfl ?_ | refine WQ.blkOther rfl ?_ | refine WL.pure rfl rfl rfl rfl ?_ | refine WL.on rfl rfl ?_ | refine WL.off rfl rfl rfl ?_ | refine WL.load rfl rfl rfl rfl rfl rfl (by assumption) ?_ | refine WC.condTrue rfl ?_ | refine WC.condFalse rfl ?_)
  refine WL.call rfl rfl rfl rfl rfl Try.func26 rfl (by kernel_rfl) (rthere_any h1 tbl) ?_
  rintro _ w1 ⟨rfl, ⟨ht, rfl⟩ | ⟨k, g, cap, hk, rfl, ht, hnd, rfl, rfl⟩⟩
  · refine ⟨_, rfl, ?_⟩
    repeat (first | ((with_reducible refine WL.topT ?_ ?_); omega) | ((with_reducible refine WL.topF ?_ ?_); omega) | ((with_reducible refine WL.top64 ?_ ?_); omega) | refine WC.seq ?_ | refine WC.block ?_ | refine WC.region ?_ | refine WL.nil ?_ | refine WC.skip ?_ | refine WC.exit ?_ | refine WC.ret ?_ | refine WQ.then rfl ?_ | refine WQ.thenExit ?_ | refine WQ.thenRet ?_ | refine WQ.blk ?_ | refine WQ.blkRet ?_ | refine WQ.blkHere rfl ?_ | refine WQ.blkOther rfl ?_ | refine WL.pure rfl rfl rfl rfl ?_ | refine WL.on rfl rfl ?_ | refine WL.off rfl rfl rfl ?_ | refine WC.condTrue rfl ?_ | refine WC.condFalse rfl ?_)
    refine WL.nilP rfl rfl rfl rfl rfl rfl (by kernel_rfl) ?_
    repeat (first | ((with_reducible refine WL.topT ?_ ?_); omega) | ((with_reducible refine WL.topF ?_ ?_); omega) | ((with_reducible refine WL.top64 ?_ ?_); omega) | refine WC.seq ?_ | refine WC.block ?_ | refine WC.region ?_ | refine WL.nil ?_ | refine WC.skip ?_ | refine WC.exit ?_ | refine WC.ret ?_ | refine WQ.then rfl ?_ | refine WQ.thenExit ?_ | refine WQ.thenRet ?_ | refine WQ.blk ?_ | refine WQ.blkRet ?_ | refine WQ.blkHere rfl ?_ | refine WQ.blkOther rfl ?_ | refine WL.pure rfl rfl rfl rfl ?_ | refine WL.on rfl rfl ?_ | refine WL.off rfl rfl rfl ?_ | refine WC.condTrue rfl ?_ | refine WC.condFalse rfl ?_)
    exact WQ.ret1 rfl rfl (RApp.no (by unfold appC; rw [if_neg (by omega), if_neg (by omega), if_pos rfl, if_pos ht]) (by omega) h0 b1)
  refine ⟨_, rfl, ?_⟩
  have htf : ¬ there L ((k : Int) + 1) = false := by rw [ht]; simp
  repeat (first | ((with_reducible refine WL.topT ?_ ?_); omega) | ((with_reducible refine WL.topF ?_ ?_); omega) | ((with_reducible refine WL.top64 ?_ ?_); omega) | refine WC.seq ?_ | refine WC.block ?_ | refine WC.region ?_ | refine WL.nil ?_ | refine WC.skip ?_ | refine WC.exit ?_ | refine WC.ret ?_ | refine WQ.then rfl ?_ | refine WQ.thenExit ?_ | refine WQ.thenRet ?_ | refine WQ.blk ?_ | refine WQ.blkRet ?_ | refine WQ.blkHere rfl ?_ | refine WQ.blkOther rfl ?_ | refine WL.pure rfl rfl rfl rfl ?_ | refine WL.on rfl rfl ?_ | refine WL.off rfl rfl rfl ?_ | refine WC.condTrue rfl ?_ | refine WC.condFalse rfl ?_)
  refine WL.nilP rfl rfl rfl rfl rfl rfl (by kernel_rfl) ?_
  repeat (first | ((with_reducible refine WL.topT ?_ ?_); omega) | ((with_reducible refine WL.topF ?_ ?_); omega) | ((with_reducible refine WL.top64 ?_ ?_); omega) | refine WC.seq ?_ | refine WC.block ?_ | refine WC.region ?_ | refine WL.nil ?_ | refine WC.skip ?_ | refine WC.exit ?_ | refine WC.ret ?_ | refine WQ.then rfl ?_ | refine WQ.thenExit ?_ | refine WQ.thenRet ?_ | refine WQ.blk ?_ | refine WQ.blkRet ?_ | refine WQ.blkHere rfl ?_ | refine WQ.blkOther rfl ?_ | refine WL.pure rfl rfl rfl rfl ?_ | refine WL.on rfl rfl ?_ | refine WL.off rfl rfl rfl ?_ | refine WL.load rfl rfl rfl rfl rfl rfl (by assumption) ?_ | refine WC.condTrue rfl ?_ | refine WC.condFalse rfl ?_)
  refine WL.call rfl rfl rfl rfl rfl Try.func25 rfl (by kernel_rfl) (rname_any txt w1) ?_
  rintro _ w1 ⟨rfl, rfl⟩
  refine ⟨_, rfl, ?_⟩
  cases hnm : isNm txt with
  | false =>
    repeat (first | ((with_reducible refine WL.topT ?_ ?_); omega) | ((with_reducible refine WL.topF ?_ ?_); omega) | ((with_reducible refine WL.top64 ?_ ?_); omega) | refine WC.seq ?_ | refine WC.block ?_ | refine WC.region ?_ | refine WL.nil ?_ | refine WC.skip ?_ | refine WC.exit ?_ | refine WC.ret ?_ | refine WQ.then rfl ?_ | refine WQ.thenExit ?_ | refine WQ.thenRet ?_ | refine WQ.blk ?_ | refine WQ.blkRet ?_ | refine WQ.blkHere rfl ?_ | refine WQ.blkOther rfl ?_ | refine WL.pure rfl rfl rfl rfl ?_ | refine WL.on rfl rfl ?_ | refine WL.off rfl rfl rfl ?_ | refine WC.condTrue rfl ?_ | refine WC.condFalse rfl ?_)
    exact WQ.ret1 rfl rfl (RApp.no (by unfold appC; rw [if_neg (by omega), if_neg (by omega), if_pos rfl, if_neg htf, if_pos hnm]) (by omega) h0 b1)
  | true =>
  repeat (first | ((with_reducible refine WL.topT ?_ ?_); omega) | ((with_reducible refine WL.topF ?_ ?_); omega) | ((with_reducible refine WL.top64 ?_ ?_); omega) | refine WC.seq ?_ | refine WC.block ?_ | refine WC.region ?_ | refine WL.nil ?_ | refine WC.skip ?_ | refine WC.exit ?_ | refine WC.ret ?_ | refine WQ.then rfl ?_ | refine WQ.thenExit ?_ | refine WQ.thenRet ?_ | refine WQ.blk ?_ | refine WQ.blkRet ?_ | refine WQ.blkHere rfl ?_ | refine WQ.blkOther rfl ?_ | refine WL.pure rfl rfl rfl rfl ?_ | refine WL.on rfl rfl ?_ | refine WL.off rfl rfl rfl ?_ | refine WL.load rfl rfl rfl rfl rfl rfl (by assumption) ?_ | refine WC.condTrue rfl ?_ | refine WC.condFalse rfl ?_)
  refine WL.call rfl rfl rfl rfl rfl Try.func19 rfl (by kernel_rfl) (rhas_any ⟨_, _, h1⟩ ((k : Int) + 1) txt) ?_
  rintro _ w1 ⟨rfl, rfl⟩
  refine ⟨_, rfl, ?_⟩
  cases hhs : has L ((k : Int) + 1) txt with
  | true =>
    repeat (first | ((with_reducible refine WL.topT ?_ ?_); omega) | ((with_reducible refine WL.topF ?_ ?_); omega) | ((with_reducible refine WL.top64 ?_ ?_); omega) | refine WC.seq ?_ | refine WC.block ?_ | refine WC.region ?_ | refine WL.nil ?_ | refine WC.skip ?_ | refine WC.exit ?_ | refine WC.ret ?_ | refine WQ.then rfl ?_ | refine WQ.thenExit ?_ | refine WQ.thenRet ?_ | refine WQ.blk ?_ | refine WQ.blkRet ?_ | refine WQ.blkHere rfl ?_ | refine WQ.blkOther rfl ?_ | refine WL.pure rfl rfl rfl rfl ?_ | refine WL.on rfl rfl ?_ | refine WL.off rfl rfl rfl ?_ | refine WC.condTrue rfl ?_ | refine WC.condFalse rfl ?_)
    exact WQ.ret1 rfl rfl (RApp.no (by unfold appC; rw [if_neg (by omega), if_neg (by omega), if_pos rfl, if_neg htf, if_neg (by rw [hnm]; simp), if_pos hhs]) (by omega) h0 b1)
  | false =>
  have hkk : ((k : Int) + 1 - 1).toNat = k := by omega
  obtain ⟨g', cap', es, -, -, hg1, hOg, d0, d1, d2, sp, c, d3, hown⟩ := tab_cells h1.own hk (h1.tab k hk)
  obtain ⟨rfl, rfl⟩ : g = g' ∧ cap = cap' := by simpa using es
  clear es
  have hbk := h.good.each k hk
  by_cases h16 : 16 ≤ (L.getD k noTb).fs.length
  · repeat (first | ((with_reducible refine WL.topT ?_ ?_); omega) | ((with_reducible refine WL.topF ?_ ?_); omega) | ((with_reducible refine WL.top64 ?_ ?_); omega) | refine WC.seq ?_ | refine WC.block ?_ | refine WC.region ?_ | refine WL.nil ?_ | refine WC.skip ?_ | refine WC.exit ?_ | refine WC.ret ?_ | refine WQ.then rfl ?_ | refine WQ.thenExit ?_ | refine WQ.thenRet ?_ | refine WQ.blk ?_ | refine WQ.blkRet ?_ | refine WQ.blkHere rfl ?_ | refine WQ.blkOther rfl ?_ | refine WL.pure rfl rfl rfl rfl ?_ | refine WL.on rfl rfl ?_ | refine WL.off rfl rfl rfl ?_ | refine WL.load rfl rfl rfl rfl rfl rfl (by assumption) ?_ | refine WC.condTrue rfl ?_ | refine WC.condFalse rfl ?_)
    exact WQ.ret1 rfl rfl (RApp.no (by unfold appC; rw [if_neg (by omega), if_neg (by omega), if_pos rfl, if_neg htf, if_neg (by rw [hnm]; simp), if_neg (by rw [hhs]; simp), if_pos (by rw [hkk]; exact h16)]) (by omega) h0 b1)
  have hc : appC L 7 txt ((k : Int) + 1) = 0 := by unfold appC; rw [if_neg (by omega), if_neg (by omega), if_pos rfl, if_neg htf, if_neg (by rw [hnm]; simp), if_neg (by rw [hhs]; simp), if_neg (by rw [hkk]; exact h16)]
  have hL : appL L 7 txt ((k : Int) + 1) = L.set k ⟨(L.getD k noTb).name, (L.getD k noTb).dropped, (L.getD k noTb).fs ++ [txt]⟩ := by unfold appL; rw [if_pos hc, if_neg (by omega), if_neg (by omega), if_pos rfl, hkk]
  have htxt : txt.size ≤ 40 := by unfold isNm at hnm; simp at hnm; omega
  have hgood : Cat.Good (L.set k ⟨(L.getD k noTb).name, (L.getD k noTb).dropped, (L.getD k noTb).fs ++ [txt]⟩) := Cat.good_set h.good hbk.1 (by show ((L.getD k noTb).fs ++ [txt]).length ≤ 16; rw [List.length_append]; show _ + 1 ≤ 16; omega) (fun f hf => by
    rcases List.mem_append.1 hf with hf | hf
    · exact hbk.2.2.1 f hf
    · obtain rfl : f = txt := by simpa using hf
      exact htxt) (fun hdr => by rw [show (⟨(L.getD k noTb).name, (L.getD k noTb).dropped, (L.getD k noTb).fs ++ [txt]⟩ : Tb).dropped = (L.getD k noTb).dropped from rfl, hnd] at hdr; cases hdr)
  have htab := h1.tab k hk
  clear hbk hhs htf hnd
  generalize L.getD k noTb = t at *
  repeat (first | ((with_reducible refine WL.topT ?_ ?_); omega) | ((with_reducible refine WL.topF ?_ ?_); omega) | ((with_reducible refine WL.top64 ?_ ?_); omega) | refine WC.seq ?_ | refine WC.block ?_ | refine WC.region ?_ | refine WL.nil ?_ | refine WC.skip ?_ | refine WC.exit ?_ | refine WC.ret ?_ | refine WQ.then rfl ?_ | refine WQ.thenExit ?_ | refine WQ.thenRet ?_ | refine WQ.blk ?_ | refine WQ.blkRet ?_ | refine WQ.blkHere rfl ?_ | refine WQ.blkOther rfl ?_ | refine WL.pure rfl rfl rfl rfl ?_ | refine WL.on rfl rfl ?_ | refine WL.off rfl rfl rfl ?_ | refine WL.load rfl rfl rfl rfl rfl rfl (by assumption) ?_ | refine WC.condTrue rfl ?_ | refine WC.condFalse rfl ?_)
  refine WC.drawn 10 (fun wx => Below w1.heap.size w1 wx) fun w3 hd3 => ?_
  have c3 : Below w1.heap.size w1 w3 := hd3.below _
  have hS := c3
  clear hd3
  have src : ∀ {wx : World}, Below w1.heap.size w1 wx → SlV wx O 1 (.slice sp t.fs.length c) t.fs.length (t.fs.map Value.string) := fun hx => hown.slV.below hx (Nat.le_refl _)
  (((first | refine WD.free 0 rfl (by kernel_rfl) rfl rfl (fun _ _ _ _ _ h => h) rfl rfl (.inr hS) ?_ | refine WD.skip 0 rfl (by kernel_rfl) rfl rfl (fun _ _ _ _ _ h => h) rfl (.inr hS) ?_); try (first | ((with_reducible refine WD.topT ?_ ?_); omega) | ((with_reducible refine WD.topF ?_ ?_); omega) | ((with_reducible refine WD.top64 ?_ ?_); omega))); ((first | refine WD.free 2 rfl (by kernel_rfl) rfl rfl (fun _ _ _ _ _ h => h) rfl rfl (.inr hS) ?_ | refine WD.skip 2 rfl (by kernel_rfl) rfl rfl (fun _ _ _ _ _ h => h) rfl (.inr hS) ?_); try (first | ((with_reducible refine WD.topT ?_ ?_); omega) | ((with_reducible refine WD.topF ?_ ?_); omega) | ((with_reducible refine WD.top64 ?_ ?_); omega))); ((first | refine WD.free 3 rfl (by kernel_rfl) rfl rfl (fun _ _ _ _ _ h => h) rfl rfl (.inr hS) ?_ | refine WD.skip 3 rfl (by kernel_rfl) rfl rfl (fun _ _ _ _ _ h => h) rfl (.inr hS) ?_); try (first | ((with_reducible refine WD.topT ?_ ?_); omega) | ((with_reducible refine WD.topF ?_ ?_); omega) | ((with_reducible refine WD.top64 ?_ ?_); omega))); ((first | refine WD.free 4 rfl (by kernel_rfl) rfl rfl (fun _ _ _ _ _ h => h) rfl rfl (.inr hS) ?_ | refine WD.skip 4 rfl (by kernel_rfl) rfl rfl (fun _ _ _ _ _ h => h) rfl (.inr hS) ?_); try (first | ((with_reducible refine WD.topT ?_ ?_); omega) | ((with_reducible refine WD.topF ?_ ?_); omega) | ((with_reducible refine WD.top64 ?_ ?_); omega))); ((first | refine WD.free 7 rfl (by kernel_rfl) rfl rfl (fun _ _ _ _ _ h => h) rfl rfl (.inr hS) ?_ | refine WD.skip 7 rfl (by kernel_rfl) rfl rfl (fun _ _ _ _ _ h => h) rfl (.inr hS) ?_); try (first | ((with_reducible refine WD.topT ?_ ?_); omega) | ((with_reducible refine WD.topF ?_ ?_); omega) | ((with_reducible refine WD.top64 ?_ ?_); omega))))
  refine WD.load 5 [6, 10] rfl (by kernel_rfl) rfl rfl (fun _ _ _ _ _ h => h) rfl rfl rfl rfl (fun wx hx => (hx.cell (p := ⟨g, k * 4 + 3, none⟩) hg1).trans d3) c3 ?_
  refine WD.load 8 [9, 10] rfl (by kernel_rfl) rfl rfl (fun _ _ _ _ _ h => h) rfl rfl rfl rfl (fun wx hx => (hx.cell (p := ⟨ge, 1, none⟩) (show ge < w1.heap.size by omega)).trans e1) c3 ?_
  refine WD.two 1 9 (by kernel_rfl) rfl rfl ?_ ?_
  · skip
    refine WL.empty rfl rfl rfl rfl rfl fun ga wa fa => ?_
    have ca : Below w1.heap.size w1 wa := c3.trans (fa.below.mono c3.size)
    have owna : OwnV stT 1 wa (fun b => w1.heap.size ≤ b) (.slice (some ⟨ga, 0, none⟩) 0 0) 0 [] := OwnV.fresh fa (fun u hu => absurd hu List.not_mem_nil) (by simp) (by omega) (by have := fa.eq; have := c3.size; omega)
    refine WL.nil (WQ.dk (.inr ca) ?_)
    refine WD.two 6 9 (by kernel_rfl) rfl rfl ?_ ?_
    · skip
      refine WL.appV rfl rfl rfl rfl elemSt rfl owna rfl (src ca) (by omega) (by omega) fun vb wb ob gb => ?_
      have cb : Below w1.heap.size w1 wb := ca.trans (gb.old ca.size fun g hg => owna.own hg)
      have ownb : OwnV stT 1 wb (fun b => w1.heap.size ≤ b) vb t.fs.length (t.fs.map Value.string) := by
        rw [Nat.zero_add, List.nil_append] at ob
        exact ob.mono fun b hb => hb.elim id fun e => by have := ca.size; omega
      refine WL.nil (WQ.dk (.inr cb) ?_)
      refine WD.one 9 (by kernel_rfl) rfl ?_
      refine WL.lit1 rfl rfl rfl rfl rfl rfl (cs := [.string txt]) rfl rfl (by omega) (by kernel_rfl) fun gl wl fl => ?_
      have cl : Below w1.heap.size w1 wl := cb.trans (fl.below.mono cb.size)
      have litL := SlV.fresh1 fl (T := stT) (fun u hu => by simp at hu; subst hu; rfl)
      have glL : gl < wl.heap.size := fl.blk.lt
      have ownl := ownb.keep (Keep.of_below fl.below) (fun g hg => ownb.lt hg)
      skip
      refine WL.nil (WQ.dk (.inr cl) ?_)
      refine WD.one 10 (by kernel_rfl) rfl ?_
      refine WL.appV rfl rfl rfl rfl elemSt rfl ownl rfl litL (by omega) (by omega) fun vd wd od gd => ?_
      have cd : Below w1.heap.size w1 wd := cl.trans (gd.old cl.size fun g hg => ownl.own hg)
      have ownd : OwnV stT 1 wd (fun b => w1.heap.size ≤ b) vd (t.fs.length + 1) ((t.fs.map Value.string) ++ [.string txt]) := od.mono fun b hb => hb.elim id fun e => by have := cl.size; omega
      refine WL.nil (WQ.dk (.inl rfl) ?_)
      (((first | refine WD.free 11 rfl (by kernel_rfl) rfl rfl (fun _ _ _ _ _ h => h) rfl rfl (.inl rfl) ?_ | refine WD.skip 11 rfl (by kernel_rfl) rfl rfl (fun _ _ _ _ _ h => h) rfl (.inl rfl) ?_); try (first | ((with_reducible refine WD.topT ?_ ?_); omega) | ((with_reducible refine WD.topF ?_ ?_); omega) | ((with_reducible refine WD.top64 ?_ ?_); omega))); ((first | refine WD.free 12 rfl (by kernel_rfl) rfl rfl (fun _ _ _ _ _ h => h) rfl rfl (.inl rfl) ?_ | refine WD.skip 12 rfl (by kernel_rfl) rfl rfl (fun _ _ _ _ _ h => h) rfl (.inl rfl) ?_); try (first | ((with_reducible refine WD.topT ?_ ?_); omega) | ((with_reducible refine WD.topF ?_ ?_); omega) | ((with_reducible refine WD.top64 ?_ ?_); omega))))
      refine WD.one 13 (by kernel_rfl) rfl ?_
      have bd := b1.trans (cd.mono z1)
      have hd1 := h1.below cd
      have d3d : wd.cell? ⟨g, k * 4 + 3, none⟩ = some (.slice sp t.fs.length c) := (cd.cell (p := ⟨g, k * 4 + 3, none⟩) hg1).trans d3
      refine WL.store rfl rfl rfl rfl rfl (OwnV.one ownd) (by kernel_rfl) d3d (OwnV.free hd1.own _) ?_
      refine WL.nil (WQ.dk (.inl rfl) ?_)
      refine WD.done (by kernel_rfl) ?_
      repeat (first | ((with_reducible refine WL.topT ?_ ?_); omega) | ((with_reducible refine WL.topF ?_ ?_); omega) | ((with_reducible refine WL.top64 ?_ ?_); omega) | refine WC.seq ?_ | refine WC.block ?_ | refine WC.region ?_ | refine WL.nil ?_ | refine WC.skip ?_ | refine WC.exit ?_ | refine WC.ret ?_ | refine WQ.then rfl ?_ | refine WQ.thenExit ?_ | refine WQ.thenRet ?_ | refine WQ.blk ?_ | refine WQ.blkRet ?_ | refine WQ.blkHere rfl ?_ | refine WQ.blkOther rfl ?_ | refine WL.pure rfl rfl rfl rfl ?_ | refine WL.on rfl rfl ?_ | refine WL.off rfl rfl rfl ?_ | refine WC.condTrue rfl ?_ | refine WC.condFalse rfl ?_)
      have o1 := OwnV.stored hd1.own (k * 4 + 3) (u := vd) (OwnV.one ownd)
      have R := hd1.place (O' := fun b => (O b ∨ w.heap.size ≤ b) ∧ b < wd.heap.size) (t := ⟨t.name, t.dropped, t.fs ++ [txt]⟩) hk (fun b _ hne => Below.heap_setCell _ _ _ b hne) o1 (fun b hh => ⟨.inl hh, Nat.lt_of_lt_of_le (h.lt b hh) bd.size⟩) (fun b hh => by simp; exact hh.2) (fun i hi j hj => by rw [Cat.getD_set_ne _ _ _ _ _ (by omega)]) ?_ hgood
      · refine WQ.ret1 rfl rfl ⟨_, by rw [hc], by rw [hL]; exact ⟨_, _, R⟩, ?_, fun b (hh : (O b ∨ w.heap.size ≤ b) ∧ _) => hh.1⟩
        exact Keep.setCell ((Keep.of_below bd).mono fun b hh => hh.1) (fun hh => hh.2 hOg) _
      · have hl := h1.own.len
        obtain ⟨i0, i1, i2, -⟩ := htab
        refine ⟨?_, ?_, ?_, ?_⟩
        · rw [Cat.getD_set_ne _ _ _ _ _ (by omega)]; exact i0
        · rw [Cat.getD_set_ne _ _ _ _ _ (by omega)]; exact i1
        · rw [Cat.getD_set_ne _ _ _ _ _ (by omega)]; exact i2
        · rw [Cat.getD_set_eq _ _ _ _ (by omega)]
          have e : (⟨t.name, t.dropped, t.fs ++ [txt]⟩ : Tb).fs.length = t.fs.length + 1 := by simp
          rw [e, show (⟨t.name, t.dropped, t.fs ++ [txt]⟩ : Tb).fs.map Value.string = t.fs.map Value.string ++ [.string txt] by simp]
          refine (OwnV.of_block (w := wd) (w' := wd.setCell ⟨g, k * 4 + 3, none⟩ vd) ⟨ownd.1, ownd.2.1, fun b hb => ⟨.inr (by have : w1.heap.size ≤ b := ownd.own hb; omega), ownd.lt hb⟩⟩ fun b hb => Below.heap_setCell _ _ _ b ?_)
          have : w1.heap.size ≤ b := ownd.own hb
          show b ≠ g
          omega
    · skip
      refine WL.lit1 rfl rfl rfl rfl rfl rfl (cs := [.string txt]) rfl rfl (by omega) (by kernel_rfl) fun gl wl fl => ?_
      have cl : Below w1.heap.size w1 wl := ca.trans (fl.below.mono ca.size)
      have litL := SlV.fresh1 fl (T := stT) (fun u hu => by simp at hu; subst hu; rfl)
      have glL : gl < wl.heap.size := fl.blk.lt
      have ownl := owna.keep (Keep.of_below fl.below) (fun g hg => owna.lt hg)
      have gne : ga ≠ gl := by have := fl.eq; have : ga < wa.heap.size := owna.lt rfl; omega
      refine WL.nil (WQ.dk (.inr cl) ?_)
      refine WD.one 6 (by kernel_rfl) rfl ?_
      refine WL.appV rfl rfl rfl rfl elemSt rfl ownl rfl (src cl) (by omega) (by omega) fun vb wb ob gb => ?_
      have cb : Below w1.heap.size w1 wb := cl.trans (gb.old cl.size fun g hg => ownl.own hg)
      have ownb : OwnV stT 1 wb (fun b => w1.heap.size ≤ b) vb t.fs.length (t.fs.map Value.string) := by
        rw [Nat.zero_add, List.nil_append] at ob
        exact ob.mono fun b hb => hb.elim id fun e => by have := cl.size; omega
      have litA := litL.keep gb.1 (fun b hb hl => ⟨hl, fun e => gne ((Option.some.inj e).trans hb)⟩)
      refine WL.nil (WQ.dk (.inr cb) ?_)
      refine WD.one 10 (by kernel_rfl) rfl ?_
      refine WL.appV rfl rfl rfl rfl elemSt rfl ownb rfl litA (by omega) (by omega) fun vd wd od gd => ?_
      have cd : Below w1.heap.size w1 wd := cb.trans (gd.old cb.size fun g hg => ownb.own hg)
      have ownd : OwnV stT 1 wd (fun b => w1.heap.size ≤ b) vd (t.fs.length + 1) ((t.fs.map Value.string) ++ [.string txt]) := od.mono fun b hb => hb.elim id fun e => by have := cb.size; omega
      refine WL.nil (WQ.dk (.inl rfl) ?_)
      (((first | refine WD.free 11 rfl (by kernel_rfl) rfl rfl (fun _ _ _ _ _ h => h) rfl rfl (.inl rfl) ?_ | refine WD.skip 11 rfl (by kernel_rfl) rfl rfl (fun _ _ _ _ _ h => h) rfl (.inl rfl) ?_); try (first | ((with_reducible refine WD.topT ?_ ?_); omega) | ((with_reducible refine WD.topF ?_ ?_); omega) | ((with_reducible refine WD.top64 ?_ ?_); omega))); ((first | refine WD.free 12 rfl (by kernel_rfl) rfl rfl (fun _ _ _ _ _ h => h) rfl rfl (.inl rfl) ?_ | refine WD.skip 12 rfl (by kernel_rfl) rfl rfl (fun _ _ _ _ _ h => h) rfl (.inl rfl) ?_); try (first | ((with_reducible refine WD.topT ?_ ?_); omega) | ((with_reducible refine WD.topF ?_ ?_); omega) | ((with_reducible refine WD.top64 ?_ ?_); omega))))
      refine WD.one 13 (by kernel_rfl) rfl ?_
      have bd := b1.trans (cd.mono z1)
      have hd1 := h1.below cd
      have d3d : wd.cell? ⟨g, k * 4 + 3, none⟩ = some (.slice sp t.fs.length c) := (cd.cell (p := ⟨g, k * 4 + 3, none⟩) hg1).trans d3
      refine WL.store rfl rfl rfl rfl rfl (OwnV.one ownd) (by kernel_rfl) d3d (OwnV.free hd1.own _) ?_
      refine WL.nil (WQ.dk (.inl rfl) ?_)
      refine WD.done (by kernel_rfl) ?_
      repeat (first | ((with_reducible refine WL.topT ?_ ?_); omega) | ((with_reducible refine WL.topF ?_ ?_); omega) | ((with_reducible refine WL.top64 ?_ ?_); omega) | refine WC.seq ?_ | refine WC.block ?_ | refine WC.region ?_ | refine WL.nil ?_ | refine WC.skip ?_ | refine WC.exit ?_ | refine WC.ret ?_ | refine WQ.then rfl ?_ | refine WQ.thenExit ?_ | refine WQ.thenRet ?_ | refine WQ.blk ?_ | refine WQ.blkRet ?_ | refine WQ.blkHere rfl ?_ | refine WQ.blkOther rfl ?_ | refine WL.pure rfl rfl rfl rfl ?_ | refine WL.on rfl rfl ?_ | refine WL.off rfl rfl rfl ?_ | refine WC.condTrue rfl ?_ | refine WC.condFalse rfl ?_)
      have o1 := OwnV.stored hd1.own (k * 4 + 3) (u := vd) (OwnV.one ownd)
      have R := hd1.place (O' := fun b => (O b ∨ w.heap.size ≤ b) ∧ b < wd.heap.size) (t := ⟨t.name, t.dropped, t.fs ++ [txt]⟩) hk (fun b _ hne => Below.heap_setCell _ _ _ b hne) o1 (fun b hh => ⟨.inl hh, Nat.lt_of_lt_of_le (h.lt b hh) bd.size⟩) (fun b hh => by simp; exact hh.2) (fun i hi j hj => by rw [Cat.getD_set_ne _ _ _ _ _ (by omega)]) ?_ hgood
      · refine WQ.ret1 rfl rfl ⟨_, by rw [hc], by rw [hL]; exact ⟨_, _, R⟩, ?_, fun b (hh : (O b ∨ w.heap.size ≤ b) ∧ _) => hh.1⟩
        exact Keep.setCell ((Keep.of_below bd).mono fun b hh => hh.1) (fun hh => hh.2 hOg) _
      · have hl := h1.own.len
        obtain ⟨i0, i1, i2, -⟩ := htab
        refine ⟨?_, ?_, ?_, ?_⟩
        · rw [Cat.getD_set_ne _ _ _ _ _ (by omega)]; exact i0
        · rw [Cat.getD_set_ne _ _ _ _ _ (by omega)]; exact i1
        · rw [Cat.getD_set_ne _ _ _ _ _ (by omega)]; exact i2
        · rw [Cat.getD_set_eq _ _ _ _ (by omega)]
          have e : (⟨t.name, t.dropped, t.fs ++ [txt]⟩ : Tb).fs.length = t.fs.length + 1 := by simp
          rw [e, show (⟨t.name, t.dropped, t.fs ++ [txt]⟩ : Tb).fs.map Value.string = t.fs.map Value.string ++ [.string txt] by simp]
          refine (OwnV.of_block (w := wd) (w' := wd.setCell ⟨g, k * 4 + 3, none⟩ vd) ⟨ownd.1, ownd.2.1, fun b hb => ⟨.inr (by have : w1.heap.size ≤ b := ownd.own hb; omega), ownd.lt hb⟩⟩ fun b hb => Below.heap_setCell _ _ _ b ?_)
          have : w1.heap.size ≤ b := ownd.own hb
          show b ≠ g
          omega
  · skip
    refine WL.lit1 rfl rfl rfl rfl rfl rfl (cs := [.string txt]) rfl rfl (by omega) (by kernel_rfl) fun gl wl fl => ?_
    have cl : Below w1.heap.size w1 wl := c3.trans (fl.below.mono c3.size)
    have litL := SlV.fresh1 fl (T := stT) (fun u hu => by simp at hu; subst hu; rfl)
    have glL : gl < wl.heap.size := fl.blk.lt
    refine WL.nil (WQ.dk (.inr cl) ?_)
    refine WD.one 1 (by kernel_rfl) rfl ?_
    refine WL.empty rfl rfl rfl rfl rfl fun ga wa fa => ?_
    have ca : Below w1.heap.size w1 wa := cl.trans (fa.below.mono cl.size)
    have owna : OwnV stT 1 wa (fun b => w1.heap.size ≤ b) (.slice (some ⟨ga, 0, none⟩) 0 0) 0 [] := OwnV.fresh fa (fun u hu => absurd hu List.not_mem_nil) (by simp) (by omega) (by have := fa.eq; have := cl.size; omega)
    have litE := litL.keep (Keep.of_below fa.below) (fun b _ hb => hb)
    have gne : ga ≠ gl := by have := fa.eq; omega
    have glE : gl < wa.heap.size := Nat.lt_of_lt_of_le glL fa.below.size
    refine WL.nil (WQ.dk (.inr ca) ?_)
    refine WD.one 6 (by kernel_rfl) rfl ?_
    refine WL.appV rfl rfl rfl rfl elemSt rfl owna rfl (src ca) (by omega) (by omega) fun vb wb ob gb => ?_
    have cb : Below w1.heap.size w1 wb := ca.trans (gb.old ca.size fun g hg => owna.own hg)
    have ownb : OwnV stT 1 wb (fun b => w1.heap.size ≤ b) vb t.fs.length (t.fs.map Value.string) := by
      rw [Nat.zero_add, List.nil_append] at ob
      exact ob.mono fun b hb => hb.elim id fun e => by have := ca.size; omega
    have litA := litE.keep gb.1 (fun b hb hl => ⟨hl, fun e => gne ((Option.some.inj e).trans hb)⟩)
    refine WL.nil (WQ.dk (.inr cb) ?_)
    refine WD.one 10 (by kernel_rfl) rfl ?_
    refine WL.appV rfl rfl rfl rfl elemSt rfl ownb rfl litA (by omega) (by omega) fun vd wd od gd => ?_
    have cd : Below w1.heap.size w1 wd := cb.trans (gd.old cb.size fun g hg => ownb.own hg)
    have ownd : OwnV stT 1 wd (fun b => w1.heap.size ≤ b) vd (t.fs.length + 1) ((t.fs.map Value.string) ++ [.string txt]) := od.mono fun b hb => hb.elim id fun e => by have := cb.size; omega
    refine WL.nil (WQ.dk (.inl rfl) ?_)
    (((first | refine WD.free 11 rfl (by kernel_rfl) rfl rfl (fun _ _ _ _ _ h => h) rfl rfl (.inl rfl) ?_ | refine WD.skip 11 rfl (by kernel_rfl) rfl rfl (fun _ _ _ _ _ h => h) rfl (.inl rfl) ?_); try (first | ((with_reducible refine WD.topT ?_ ?_); omega) | ((with_reducible refine WD.topF ?_ ?_); omega) | ((with_reducible refine WD.top64 ?_ ?_); omega))); ((first | refine WD.free 12 rfl (by kernel_rfl) rfl rfl (fun _ _ _ _ _ h => h) rfl rfl (.inl rfl) ?_ | refine WD.skip 12 rfl (by kernel_rfl) rfl rfl (fun _ _ _ _ _ h => h) rfl (.inl rfl) ?_); try (first | ((with_reducible refine WD.topT ?_ ?_); omega) | ((with_reducible refine WD.topF ?_ ?_); omega) | ((with_reducible refine WD.top64 ?_ ?_); omega))))
    refine WD.one 13 (by kernel_rfl) rfl ?_
    have bd := b1.trans (cd.mono z1)
    have hd1 := h1.below cd
    have d3d : wd.cell? ⟨g, k * 4 + 3, none⟩ = some (.slice sp t.fs.length c) := (cd.cell (p := ⟨g, k * 4 + 3, none⟩) hg1).trans d3
    refine WL.store rfl rfl rfl rfl rfl (OwnV.one ownd) (by kernel_rfl) d3d (OwnV.free hd1.own _) ?_
    refine WL.nil (WQ.dk (.inl rfl) ?_)
    refine WD.done (by kernel_rfl) ?_
    repeat (first | ((with_reducible refine WL.topT ?_ ?_); omega) | ((with_reducible refine WL.topF ?_ ?_); omega) | ((with_reducible refine WL.top64 ?_ ?_); omega) | refine WC.seq ?_ | refine WC.block ?_ | refine WC.region ?_ | refine WL.nil ?_ | refine WC.skip ?_ | refine WC.exit ?_ | refine WC.ret ?_ | refine WQ.then rfl ?_ | refine WQ.thenExit ?_ | refine WQ.thenRet ?_ | refine WQ.blk ?_ | refine WQ.blkRet ?_ | refine WQ.blkHere rfl ?_ | refine WQ.blkOther rfl ?_ | refine WL.pure rfl rfl rfl rfl ?_ | refine WL.on rfl rfl ?_ | refine WL.off rfl rfl rfl ?_ | refine WC.condTrue rfl ?_ | refine WC.condFalse rfl ?_)
    have o1 := OwnV.stored hd1.own (k * 4 + 3) (u := vd) (OwnV.one ownd)
    have R := hd1.place (O' := fun b => (O b ∨ w.heap.size ≤ b) ∧ b < wd.heap.size) (t := ⟨t.name, t.dropped, t.fs ++ [txt]⟩) hk (fun b _ hne => Below.heap_setCell _ _ _ b hne) o1 (fun b hh => ⟨.inl hh, Nat.lt_of_lt_of_le (h.lt b hh) bd.size⟩) (fun b hh => by simp; exact hh.2) (fun i hi j hj => by rw [Cat.getD_set_ne _ _ _ _ _ (by omega)]) ?_ hgood
    · refine WQ.ret1 rfl rfl ⟨_, by rw [hc], by rw [hL]; exact ⟨_, _, R⟩, ?_, fun b (hh : (O b ∨ w.heap.size ≤ b) ∧ _) => hh.1⟩
      exact Keep.setCell ((Keep.of_below bd).mono fun b hh => hh.1) (fun hh => hh.2 hOg) _
    · have hl := h1.own.len
      obtain ⟨i0, i1, i2, -⟩ := htab
      refine ⟨?_, ?_, ?_, ?_⟩
      · rw [Cat.getD_set_ne _ _ _ _ _ (by omega)]; exact i0
      · rw [Cat.getD_set_ne _ _ _ _ _ (by omega)]; exact i1
      · rw [Cat.getD_set_ne _ _ _ _ _ (by omega)]; exact i2
      · rw [Cat.getD_set_eq _ _ _ _ (by omega)]
        have e : (⟨t.name, t.dropped, t.fs ++ [txt]⟩ : Tb).fs.length = t.fs.length + 1 := by simp
        rw [e, show (⟨t.name, t.dropped, t.fs ++ [txt]⟩ : Tb).fs.map Value.string = t.fs.map Value.string ++ [.string txt] by simp]
        refine (OwnV.of_block (w := wd) (w' := wd.setCell ⟨g, k * 4 + 3, none⟩ vd) ⟨ownd.1, ownd.2.1, fun b hb => ⟨.inr (by have : w1.heap.size ≤ b := ownd.own hb; omega), ownd.lt hb⟩⟩ fun b hb => Below.heap_setCell _ _ _ b ?_)
        have : w1.heap.size ≤ b := ownd.own hb
        show b ≠ g
        omega
theorem rapply_other {w : World} {rc : Nat} {O : Nat → Prop} {L : List Tb} {cs : Array Value} {kind : Int} {txt : ByteArray} {tbl : Int} (h0 : RCat w rc O L) (hE : Ent cs kind txt tbl) (h5 : kind ≠ 5) (h6 : kind ≠ 6) (h7 : kind ≠ 7) :
    Calls Try.prog 13 #[.pointer (some ⟨rc, 0, none⟩), .agg cs] w (RApp w rc O L kind txt tbl) := by
  obtain ⟨tv, cells, h⟩ := id h0
  refine enter (args := [.pointer (some ⟨rc, 0, none⟩), .agg cs]) Try.func13 rfl Try.ntmps13 rfl ?_
  repeat (first | refine WC.seq ?_ | refine WC.block ?_ | refine WC.region ?_ | refine WL.nil ?_ | refine WC.skip ?_ | refine WC.exit ?_ | refine WC.ret ?_ | refine WQ.then rfl ?_ | refine WQ.thenExit ?_ | refine WQ.thenRet ?_ | refine WQ.blk ?_ | refine WQ.blkRet ?_ | refine WQ.blkHere rfl ?_ | refine WQ.blkOther rfl ?_)
  refine WL.box rfl rfl rfl rfl rfl fun ge w1 f1 => ?_
  have b1 : Below w.heap.size w w1 := f1.below
  obtain ⟨e0, e1, e2⟩ := ent_at hE f1.blk
  have eg := f1.eq
  have ez := f1.size
  clear f1
  have h1 := h.below b1
  have z1 := b1.size
  repeat (first | ((with_reducible refine WL.topT ?_ ?_); omega) | ((with_reducible refine WL.topF ?_ ?_); omega) | ((with_reducible refine WL.top64 ?_ ?_); omega) | refine WC.seq ?_ | refine WC.block ?_ | refine WC.region ?_ | refine WL.nil ?_ | refine WC.skip ?_ | refine WC.exit ?_ | refine WC.ret ?_ | refine WQ.then rfl ?_ | refine WQ.thenExit ?_ | refine WQ.thenRet ?_ | refine WQ.blk ?_ | refine WQ.blkRet ?_ | refine WQ.blkHere rfl ?_ | refine WQ.blkOther rfl ?_ | refine WL.pure rfl rfl rfl rfl ?_ | refine WL.on rfl rfl ?_ | refine WL.off rfl rfl rfl ?_ | refine WL.load rfl rfl rfl rfl rfl rfl (by assumption) ?_ | refine WC.condTrue rfl ?_ | refine WC.condFalse rfl ?_)
  have hc : appC L kind txt tbl = 0 := by unfold appC; rw [if_neg h5, if_neg h6, if_neg h7]
  exact WQ.ret1 rfl rfl ⟨O, by rw [hc], by unfold appL; rw [if_pos hc, if_neg h5, if_neg h6, if_neg h7]; exact ⟨_, _, h1⟩, (Keep.of_below b1).mono fun b hh => hh.1, fun b hh => .inl hh⟩
/-- Whatever the entry. -/
theorem rapply_any {w : World} {rc : Nat} {O : Nat → Prop} {L : List Tb} {cs : Array Value} {kind : Int} {txt : ByteArray} {tbl : Int} (h0 : RCat w rc O L) (hE : Ent cs kind txt tbl) :
    Calls Try.prog 13 #[.pointer (some ⟨rc, 0, none⟩), .agg cs] w (RApp w rc O L kind txt tbl) := by
  by_cases h5 : kind = 5
  · subst h5; exact rapply_table h0 hE
  by_cases h6 : kind = 6
  · subst h6; exact rapply_drop h0 hE
  by_cases h7 : kind = 7
  · subst h7; exact rapply_index h0 hE
  exact rapply_other h0 hE h5 h6 h7
end Cr
end Go.Proofs.Ytdaljjicekheiaa
