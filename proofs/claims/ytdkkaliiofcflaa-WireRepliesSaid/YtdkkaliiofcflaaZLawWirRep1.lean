/-
  For every reply the law WireReplies answers true, and the arguments read as they did. No condition.
-/
import Derived.Test.YtdkkaliiofcflaaZLawWirReq9
import Derived.ChangeMaps5
/- Any reply as a frame (chapter 25): the program's EncodeReply and the document's. -/
namespace Go.Proofs.Ytdkkaliiofcflaa
open Go.RowKit
namespace K
/-- The cells of a reply. -/
def rpC (r : Rp) (nv pv dv : Value) : List Value := [.int .i64 r.seq, .int .i64 r.err, nv, pv, dv]
/-- The reply's parts lie in memory. -/
structure IsRp (f : Nat) (w : World) (r : Rp) (nv pv dv : Value) : Prop where
  nums : Sl .i64 w nv r.nums
  r64 : R64w r.nums
  rows : IsVs f w pv r.rows
  data : Sl .u8 w dv r.data
  byt : Frm.Byt r.data
set_option maxHeartbeats 2000000 in
theorem rpenc_any {f n : Nat} {w : World} {r : Rp} {nv pv dv : Value} (h : IsRp f w r nv pv dv) (hfew : Few f r.rows n) (hd : r.data.length ≤ 5000) :
    Calls Try.prog 14 #[.agg (rpC r nv pv dv).toArray] w (FrOut w (rpE r) (rpB r)) := by
  obtain ⟨⟨seq, err, nums, rows, data⟩, rfl⟩ : ∃ r', r = r' := ⟨r, rfl⟩
  obtain ⟨hnums, h64, hpar, hdat, hdb⟩ := h
  simp only at hnums h64 hpar hdat hdb hfew hd
  obtain ⟨sn, cn, rfl, -⟩ := id hnums
  obtain ⟨sp, cp, rfl, -⟩ := id hpar
  obtain ⟨sd, cd, rfl, -⟩ := id hdat
  have hfl := hfew.len
  refine enter (args := [.agg (rpC ⟨seq, err, nums, rows, data⟩ (.slice sn nums.length cn) (.slice sp rows.length cp) (.slice sd data.length cd)).toArray]) Try.func14 rfl Try.ntmps14 rfl ?_
  generalize hr : (⟨seq, err, nums, rows, data⟩ : Rp) = r
  have hcells : rpC r (.slice sn nums.length cn) (.slice sp rows.length cp) (.slice sd data.length cd) = [.int .i64 seq, .int .i64 err, .slice sn nums.length cn, .slice sp rows.length cp, .slice sd data.length cd] := by rw [← hr]; rfl
  rw [hcells]
  repeat (first | refine WC.seq ?_ | refine WC.block ?_ | refine WC.region ?_ | refine WL.nil ?_ | refine WC.skip ?_ | refine WC.exit ?_ | refine WC.ret ?_ | refine WQ.then rfl ?_ | refine WQ.thenExit ?_ | refine WQ.thenRet ?_ | refine WQ.blk ?_ | refine WQ.blkRet ?_ | refine WQ.blkHere rfl ?_ | refine WQ.blkOther rfl ?_)
  refine WL.box rfl rfl rfl rfl rfl fun g w1 hf0 => ?_
  have hf : Fresh w g w1 45 [.int .i64 seq, .int .i64 err, .slice sn nums.length cn, .slice sp rows.length cp, .slice sd data.length cd] := hf0
  clear hf0
  have hB := hf.below
  have T1 := hf.blk
  clear hf
  have cell : ∀ {wx : World}, VBlk 45 wx g [.int .i64 seq, .int .i64 err, .slice sn nums.length cn, .slice sp rows.length cp, .slice sd data.length cd] → wx.cell? ⟨g, 0, none⟩ = some (.int .i64 seq) ∧ wx.cell? ⟨g, 1, none⟩ = some (.int .i64 err) ∧ wx.cell? ⟨g, 2, none⟩ = some (.slice sn nums.length cn) ∧ wx.cell? ⟨g, 3, none⟩ = some (.slice sp rows.length cp) ∧ wx.cell? ⟨g, 4, none⟩ = some (.slice sd data.length cd) := fun h =>
    ⟨h.cell 0 (by simp), h.cell 1 (by simp), h.cell 2 (by simp), h.cell 3 (by simp), h.cell 4 (by simp)⟩
  obtain ⟨c0, c1, c2, c3, c4⟩ := cell T1
  have bad1 : (err < 0 ∨ 100 < err ∨ seq < 0 ∨ 9007199254740992 < seq ∨ 8 < nums.length) → rpE r = 1 := fun h => by rw [← hr]; unfold rpE; rw [if_pos h]
  by_cases h1 : err < 0
  · repeat (first | ((with_reducible refine WL.topT ?_ ?_); omega) | ((with_reducible refine WL.topF ?_ ?_); omega) | ((with_reducible refine WL.top64 ?_ ?_); omega) | refine WC.seq ?_ | refine WC.block ?_ | refine WC.region ?_ | refine WL.nil ?_ | refine WC.skip ?_ | refine WC.exit ?_ | refine WC.ret ?_ | refine WQ.then rfl ?_ | refine WQ.thenExit ?_ | refine WQ.thenRet ?_ | refine WQ.blk ?_ | refine WQ.blkRet ?_ | refine WQ.blkHere rfl ?_ | refine WQ.blkOther rfl ?_ | refine WL.pure rfl rfl rfl rfl ?_ | refine WL.on rfl rfl ?_ | refine WL.off rfl rfl rfl ?_ | refine WL.load rfl rfl rfl rfl rfl rfl (by assumption) ?_ | refine WC.condTrue rfl ?_ | refine WC.condFalse rfl ?_)
    exact WQ.ret2 rfl rfl rfl (FrOut.bad (bad1 (.inl h1)) (by decide) hB)
  by_cases h2 : 100 < err
  · repeat (first | ((with_reducible refine WL.topT ?_ ?_); omega) | ((with_reducible refine WL.topF ?_ ?_); omega) | ((with_reducible refine WL.top64 ?_ ?_); omega) | refine WC.seq ?_ | refine WC.block ?_ | refine WC.region ?_ | refine WL.nil ?_ | refine WC.skip ?_ | refine WC.exit ?_ | refine WC.ret ?_ | refine WQ.then rfl ?_ | refine WQ.thenExit ?_ | refine WQ.thenRet ?_ | refine WQ.blk ?_ | refine WQ.blkRet ?_ | refine WQ.blkHere rfl ?_ | refine WQ.blkOther rfl ?_ | refine WL.pure rfl rfl rfl rfl ?_ | refine WL.on rfl rfl ?_ | refine WL.off rfl rfl rfl ?_ | refine WL.load rfl rfl rfl rfl rfl rfl (by assumption) ?_ | refine WC.condTrue rfl ?_ | refine WC.condFalse rfl ?_)
    exact WQ.ret2 rfl rfl rfl (FrOut.bad (bad1 (.inr (.inl h2))) (by decide) hB)
  by_cases h3 : seq < 0
  · repeat (first | ((with_reducible refine WL.topT ?_ ?_); omega) | ((with_reducible refine WL.topF ?_ ?_); omega) | ((with_reducible refine WL.top64 ?_ ?_); omega) | refine WC.seq ?_ | refine WC.block ?_ | refine WC.region ?_ | refine WL.nil ?_ | refine WC.skip ?_ | refine WC.exit ?_ | refine WC.ret ?_ | refine WQ.then rfl ?_ | refine WQ.thenExit ?_ | refine WQ.thenRet ?_ | refine WQ.blk ?_ | refine WQ.blkRet ?_ | refine WQ.blkHere rfl ?_ | refine WQ.blkOther rfl ?_ | refine WL.pure rfl rfl rfl rfl ?_ | refine WL.on rfl rfl ?_ | refine WL.off rfl rfl rfl ?_ | refine WL.load rfl rfl rfl rfl rfl rfl (by assumption) ?_ | refine WC.condTrue rfl ?_ | refine WC.condFalse rfl ?_)
    exact WQ.ret2 rfl rfl rfl (FrOut.bad (bad1 (.inr (.inr (.inl h3)))) (by decide) hB)
  by_cases h4 : 9007199254740992 < seq
  · repeat (first | ((with_reducible refine WL.topT ?_ ?_); omega) | ((with_reducible refine WL.topF ?_ ?_); omega) | ((with_reducible refine WL.top64 ?_ ?_); omega) | refine WC.seq ?_ | refine WC.block ?_ | refine WC.region ?_ | refine WL.nil ?_ | refine WC.skip ?_ | refine WC.exit ?_ | refine WC.ret ?_ | refine WQ.then rfl ?_ | refine WQ.thenExit ?_ | refine WQ.thenRet ?_ | refine WQ.blk ?_ | refine WQ.blkRet ?_ | refine WQ.blkHere rfl ?_ | refine WQ.blkOther rfl ?_ | refine WL.pure rfl rfl rfl rfl ?_ | refine WL.on rfl rfl ?_ | refine WL.off rfl rfl rfl ?_ | refine WL.load rfl rfl rfl rfl rfl rfl (by assumption) ?_ | refine WC.condTrue rfl ?_ | refine WC.condFalse rfl ?_)
    exact WQ.ret2 rfl rfl rfl (FrOut.bad (bad1 (.inr (.inr (.inr (.inl h4))))) (by decide) hB)
  by_cases h8 : 8 < nums.length
  · repeat (first | ((with_reducible refine WL.topT ?_ ?_); omega) | ((with_reducible refine WL.topF ?_ ?_); omega) | ((with_reducible refine WL.top64 ?_ ?_); omega) | refine WC.seq ?_ | refine WC.block ?_ | refine WC.region ?_ | refine WL.nil ?_ | refine WC.skip ?_ | refine WC.exit ?_ | refine WC.ret ?_ | refine WQ.then rfl ?_ | refine WQ.thenExit ?_ | refine WQ.thenRet ?_ | refine WQ.blk ?_ | refine WQ.blkRet ?_ | refine WQ.blkHere rfl ?_ | refine WQ.blkOther rfl ?_ | refine WL.pure rfl rfl rfl rfl ?_ | refine WL.on rfl rfl ?_ | refine WL.off rfl rfl rfl ?_ | refine WL.load rfl rfl rfl rfl rfl rfl (by assumption) ?_ | refine WC.condTrue rfl ?_ | refine WC.condFalse rfl ?_)
    exact WQ.ret2 rfl rfl rfl (FrOut.bad (bad1 (.inr (.inr (.inr (.inr h8))))) (by decide) hB)
  clear bad1
  have hno : ¬ (err < 0 ∨ 100 < err ∨ seq < 0 ∨ 9007199254740992 < seq ∨ 8 < nums.length) := by omega
  have he : rpE r = vlE rows := by rw [← hr]; unfold rpE; rw [if_neg hno, if_neg (show ¬ 4096 < rows.length by omega)]
  repeat (first | ((with_reducible refine WL.topT ?_ ?_); omega) | ((with_reducible refine WL.topF ?_ ?_); omega) | ((with_reducible refine WL.top64 ?_ ?_); omega) | refine WC.seq ?_ | refine WC.block ?_ | refine WC.region ?_ | refine WL.nil ?_ | refine WC.skip ?_ | refine WC.exit ?_ | refine WC.ret ?_ | refine WQ.then rfl ?_ | refine WQ.thenExit ?_ | refine WQ.thenRet ?_ | refine WQ.blk ?_ | refine WQ.blkRet ?_ | refine WQ.blkHere rfl ?_ | refine WQ.blkOther rfl ?_ | refine WL.pure rfl rfl rfl rfl ?_ | refine WL.on rfl rfl ?_ | refine WL.off rfl rfl rfl ?_ | refine WL.load rfl rfl rfl rfl rfl rfl (by assumption) ?_ | refine WC.condTrue rfl ?_ | refine WC.condFalse rfl ?_)
  have hw8 : IntKind.u8.wrap err = err := by rw [IntKind.wrap_u8]; omega
  obtain ⟨sq, rfl⟩ : ∃ n : Nat, seq = (n : Int) := ⟨seq.toNat, by omega⟩
  have hhl := headB_len 82 err sq nums (by omega)
  clear c0 c1 c2 c3 c4
  refine WC.drawn 10 (fun wx => VBlk 45 wx g [.int .i64 sq, .int .i64 err, .slice sn nums.length cn, .slice sp rows.length cp, .slice sd data.length cd]) fun w2 hdr => ?_
  have k2 : Below w1.heap.size w1 w2 := hdr.below _
  have hS := T1.below k2 T1.lt
  clear hdr
  (((first | refine WD.free 0 rfl (by kernel_rfl) rfl rfl (fun _ _ _ _ _ h => h) rfl rfl (.inr hS) ?_ | refine WD.skip 0 rfl (by kernel_rfl) rfl rfl (fun _ _ _ _ _ h => h) rfl (.inr hS) ?_); try (first | ((with_reducible refine WD.topT ?_ ?_); omega) | ((with_reducible refine WD.topF ?_ ?_); omega) | ((with_reducible refine WD.top64 ?_ ?_); omega))); ((first | refine WD.free 3 rfl (by kernel_rfl) rfl rfl (fun _ _ _ _ _ h => h) rfl rfl (.inr hS) ?_ | refine WD.skip 3 rfl (by kernel_rfl) rfl rfl (fun _ _ _ _ _ h => h) rfl (.inr hS) ?_); try (first | ((with_reducible refine WD.topT ?_ ?_); omega) | ((with_reducible refine WD.topF ?_ ?_); omega) | ((with_reducible refine WD.top64 ?_ ?_); omega))); ((first | refine WD.free 5 rfl (by kernel_rfl) rfl rfl (fun _ _ _ _ _ h => h) rfl rfl (.inr hS) ?_ | refine WD.skip 5 rfl (by kernel_rfl) rfl rfl (fun _ _ _ _ _ h => h) rfl (.inr hS) ?_); try (first | ((with_reducible refine WD.topT ?_ ?_); omega) | ((with_reducible refine WD.topF ?_ ?_); omega) | ((with_reducible refine WD.top64 ?_ ?_); omega))); ((first | refine WD.free 8 rfl (by kernel_rfl) rfl rfl (fun _ _ _ _ _ h => h) rfl rfl (.inr hS) ?_ | refine WD.skip 8 rfl (by kernel_rfl) rfl rfl (fun _ _ _ _ _ h => h) rfl (.inr hS) ?_); try (first | ((with_reducible refine WD.topT ?_ ?_); omega) | ((with_reducible refine WD.topF ?_ ?_); omega) | ((with_reducible refine WD.top64 ?_ ?_); omega))))
  refine WD.load 1 [2, 7, 10, 11, 12, 13, 14, 15] rfl (by kernel_rfl) rfl rfl (fun _ _ _ _ _ h => h) rfl rfl rfl rfl (fun wx hx => (cell hx).2.1) hS ?_
  refine WD.load 4 [7, 10, 11, 12, 13, 14, 15] rfl (by kernel_rfl) rfl rfl (fun _ _ _ _ _ h => h) rfl rfl rfl rfl (fun wx hx => (cell hx).1) hS ?_
  refine WD.load 6 [7, 10, 11, 12, 13, 14, 15] rfl (by kernel_rfl) rfl rfl (fun _ _ _ _ _ h => h) rfl rfl rfl rfl (fun wx hx => (cell hx).2.2.1) hS ?_
  refine WD.load 9 [10, 11, 12, 13, 14, 15] rfl (by kernel_rfl) rfl rfl (fun _ _ _ _ _ h => h) rfl rfl rfl rfl (fun wx hx => (cell hx).2.2.2.1) hS ?_
  (((first | refine WD.free 2 rfl (by kernel_rfl) rfl rfl (fun _ _ _ _ _ h => h) rfl rfl (.inr hS) ?_ | refine WD.skip 2 rfl (by kernel_rfl) rfl rfl (fun _ _ _ _ _ h => h) rfl (.inr hS) ?_); try (first | ((with_reducible refine WD.topT ?_ ?_); omega) | ((with_reducible refine WD.topF ?_ ?_); omega) | ((with_reducible refine WD.top64 ?_ ?_); omega))))
  refine WD.one 7 (by kernel_rfl) rfl ?_
  refine WL.as 39 (.int .u8 err) rfl (congrArg (Value.int .u8) hw8) ?_
  refine WL.call rfl rfl rfl rfl rfl Try.func22 rfl (by kernel_rfl) (whead_any 82 err sq (by omega) ((hnums.of_below hB).of_below k2) h64 (by omega)) ?_
  rintro _ w3 ⟨b3, rfl, q3, k3, o3⟩
  refine ⟨_, rfl, ?_⟩
  have ap3 : Apart w1 w3 b3 := ⟨k2.trans (k3.mono k2.size), fun x hx => Nat.le_trans k2.size (o3 x hx)⟩
  replace hS := T1.below ap3.below T1.lt
  refine WL.nil (WQ.dk (.inr hS) ?_)
  refine WD.one 10 (by kernel_rfl) rfl ?_
  refine WL.call rfl rfl rfl rfl rfl Try.func23 rfl (by kernel_rfl) (wvalues_any (hpar.below hB) hfew ap3 q3 (by omega)) ?_
  rintro _ w6 ⟨b6, rfl, ap6, q6⟩
  refine ⟨_, rfl, ?_⟩
  have T6 := T1.below ap6.below T1.lt
  refine WL.nil (WQ.dk (.inl rfl) ?_)
  (((first | refine WD.free 11 rfl (by kernel_rfl) rfl rfl (fun _ _ _ _ _ h => h) rfl rfl (.inl rfl) ?_ | refine WD.skip 11 rfl (by kernel_rfl) rfl rfl (fun _ _ _ _ _ h => h) rfl (.inl rfl) ?_); try (first | ((with_reducible refine WD.topT ?_ ?_); omega) | ((with_reducible refine WD.topF ?_ ?_); omega) | ((with_reducible refine WD.top64 ?_ ?_); omega))); ((first | refine WD.free 12 rfl (by kernel_rfl) rfl rfl (fun _ _ _ _ _ h => h) rfl rfl (.inl rfl) ?_ | refine WD.skip 12 rfl (by kernel_rfl) rfl rfl (fun _ _ _ _ _ h => h) rfl (.inl rfl) ?_); try (first | ((with_reducible refine WD.topT ?_ ?_); omega) | ((with_reducible refine WD.topF ?_ ?_); omega) | ((with_reducible refine WD.top64 ?_ ?_); omega))); ((first | refine WD.free 13 rfl (by kernel_rfl) rfl rfl (fun _ _ _ _ _ h => h) rfl rfl (.inl rfl) ?_ | refine WD.skip 13 rfl (by kernel_rfl) rfl rfl (fun _ _ _ _ _ h => h) rfl (.inl rfl) ?_); try (first | ((with_reducible refine WD.topT ?_ ?_); omega) | ((with_reducible refine WD.topF ?_ ?_); omega) | ((with_reducible refine WD.top64 ?_ ?_); omega))); ((first | refine WD.free 14 rfl (by kernel_rfl) rfl rfl (fun _ _ _ _ _ h => h) rfl rfl (.inl rfl) ?_ | refine WD.skip 14 rfl (by kernel_rfl) rfl rfl (fun _ _ _ _ _ h => h) rfl (.inl rfl) ?_); try (first | ((with_reducible refine WD.topT ?_ ?_); omega) | ((with_reducible refine WD.topF ?_ ?_); omega) | ((with_reducible refine WD.top64 ?_ ?_); omega))); ((first | refine WD.free 15 rfl (by kernel_rfl) rfl rfl (fun _ _ _ _ _ h => h) rfl rfl (.inl rfl) ?_ | refine WD.skip 15 rfl (by kernel_rfl) rfl rfl (fun _ _ _ _ _ h => h) rfl (.inl rfl) ?_); try (first | ((with_reducible refine WD.topT ?_ ?_); omega) | ((with_reducible refine WD.topF ?_ ?_); omega) | ((with_reducible refine WD.top64 ?_ ?_); omega))))
  refine WD.done (by kernel_rfl) ?_
  have hw6 : Below w.heap.size w w6 := hB.trans (ap6.below.mono hB.size)
  by_cases hv : vlE rows ≠ 0
  · repeat (first | ((with_reducible refine WL.topT ?_ ?_); omega) | ((with_reducible refine WL.topF ?_ ?_); omega) | ((with_reducible refine WL.top64 ?_ ?_); omega) | refine WC.seq ?_ | refine WC.block ?_ | refine WC.region ?_ | refine WL.nil ?_ | refine WC.skip ?_ | refine WC.exit ?_ | refine WC.ret ?_ | refine WQ.then rfl ?_ | refine WQ.thenExit ?_ | refine WQ.thenRet ?_ | refine WQ.blk ?_ | refine WQ.blkRet ?_ | refine WQ.blkHere rfl ?_ | refine WQ.blkOther rfl ?_ | refine WL.pure rfl rfl rfl rfl ?_ | refine WL.on rfl rfl ?_ | refine WL.off rfl rfl rfl ?_ | refine WC.condTrue rfl ?_ | refine WC.condFalse rfl ?_)
    exact WQ.ret2 rfl rfl rfl (FrOut.bad he hv hw6)
  replace hv : vlE rows = 0 := by omega
  rw [if_pos hv] at q6
  rw [hv]
  have hvl := valsB_len hfew hv
  have hvb := valsB_byt (vlE_mem hv)
  have hul := uvB_lenw data.length
  repeat (first | ((with_reducible refine WL.topT ?_ ?_); omega) | ((with_reducible refine WL.topF ?_ ?_); omega) | ((with_reducible refine WL.top64 ?_ ?_); omega) | refine WC.seq ?_ | refine WC.block ?_ | refine WC.region ?_ | refine WL.nil ?_ | refine WC.skip ?_ | refine WC.exit ?_ | refine WC.ret ?_ | refine WQ.then rfl ?_ | refine WQ.thenExit ?_ | refine WQ.thenRet ?_ | refine WQ.blk ?_ | refine WQ.blkRet ?_ | refine WQ.blkHere rfl ?_ | refine WQ.blkOther rfl ?_ | refine WL.pure rfl rfl rfl rfl ?_ | refine WL.on rfl rfl ?_ | refine WL.off rfl rfl rfl ?_ | refine WC.condTrue rfl ?_ | refine WC.condFalse rfl ?_)
  refine WC.drawn 7 (fun wx => VBlk 45 wx g [.int .i64 sq, .int .i64 err, .slice sn nums.length cn, .slice sp rows.length cp, .slice sd data.length cd]) fun w7 hdr => ?_
  have k7 : Below w6.heap.size w6 w7 := hdr.below _
  have hS := T6.below k7 T6.lt
  have q7 := q6.below k7
  have ap7 : Apart w1 w7 b6 := ap6.grow ((Grow.refl w6 b6).below k7)
  clear hdr
  (((first | refine WD.free 0 rfl (by kernel_rfl) rfl rfl (fun _ _ _ _ _ h => h) rfl rfl (.inr hS) ?_ | refine WD.skip 0 rfl (by kernel_rfl) rfl rfl (fun _ _ _ _ _ h => h) rfl (.inr hS) ?_); try (first | ((with_reducible refine WD.topT ?_ ?_); omega) | ((with_reducible refine WD.topF ?_ ?_); omega) | ((with_reducible refine WD.top64 ?_ ?_); omega))); ((first | refine WD.free 1 rfl (by kernel_rfl) rfl rfl (fun _ _ _ _ _ h => h) rfl rfl (.inr hS) ?_ | refine WD.skip 1 rfl (by kernel_rfl) rfl rfl (fun _ _ _ _ _ h => h) rfl (.inr hS) ?_); try (first | ((with_reducible refine WD.topT ?_ ?_); omega) | ((with_reducible refine WD.topF ?_ ?_); omega) | ((with_reducible refine WD.top64 ?_ ?_); omega))); ((first | refine WD.free 5 rfl (by kernel_rfl) rfl rfl (fun _ _ _ _ _ h => h) rfl rfl (.inr hS) ?_ | refine WD.skip 5 rfl (by kernel_rfl) rfl rfl (fun _ _ _ _ _ h => h) rfl (.inr hS) ?_); try (first | ((with_reducible refine WD.topT ?_ ?_); omega) | ((with_reducible refine WD.topF ?_ ?_); omega) | ((with_reducible refine WD.top64 ?_ ?_); omega))))
  refine WD.load 2 [3, 4, 7, 8, 9, 10, 11, 12] rfl (by kernel_rfl) rfl rfl (fun _ _ _ _ _ h => h) rfl rfl rfl rfl (fun wx hx => (cell hx).2.2.2.2) hS ?_
  refine WD.load 6 [7, 8, 9, 10, 11, 12] rfl (by kernel_rfl) rfl rfl (fun _ _ _ _ _ h => h) rfl rfl rfl rfl (fun wx hx => (cell hx).2.2.2.2) hS ?_
  (((first | refine WD.free 3 rfl (by kernel_rfl) rfl rfl (fun _ _ _ _ _ h => h) rfl rfl (.inr hS) ?_ | refine WD.skip 3 rfl (by kernel_rfl) rfl rfl (fun _ _ _ _ _ h => h) rfl (.inr hS) ?_); try (first | ((with_reducible refine WD.topT ?_ ?_); omega) | ((with_reducible refine WD.topF ?_ ?_); omega) | ((with_reducible refine WD.top64 ?_ ?_); omega))))
  refine WD.one 4 (by kernel_rfl) rfl ?_
  refine WL.call rfl rfl rfl rfl rfl Try.func24 rfl (by kernel_rfl) (wcount_any q7 data.length (by omega) (by rw [List.length_append]; omega)) ?_
  rintro _ w8 ⟨b8, rfl, q8, g8⟩
  refine ⟨_, rfl, ?_⟩
  have ap8 := ap7.grow g8
  replace hS := T1.below ap8.below T1.lt
  refine WL.nil (WQ.dk (.inr hS) ?_)
  refine WD.one 7 (by kernel_rfl) rfl ?_
  refine WL.app rfl rfl rfl rfl rfl q8 rfl ((hdat.of_below hB).of_below ap8.below) (by simp only [List.length_append]; omega) fun b9 w9 q9 g9 => ?_
  have ap9 := ap8.grow g9
  have hall : headB 82 err sq nums ++ valsB rows ++ uvB data.length ++ data = rpB r := by rw [← hr]; unfold rpB; simp [List.append_assoc]
  have hbytes : Frm.Byt (rpB r) := by
    rw [← hall]
    intro c hc
    simp only [List.mem_append] at hc
    rcases hc with ((h | h) | h) | h
    · exact headB_byt (by omega) (by omega) _ _ c h
    · exact hvb c h
    · exact uvB_bytw _ c h
    · exact hdb c h
  have hlen : (rpB r).length ≤ 300000 := by rw [← hall]; simp only [List.length_append]; omega
  rw [hall] at q9
  refine WL.nil (WQ.dk (.inl rfl) ?_)
  refine WD.one 8 (by kernel_rfl) rfl ?_
  refine WL.call rfl rfl rfl rfl rfl Try.func25 rfl (by kernel_rfl) (fenc_any q9.sl hbytes (by omega)) ?_
  rintro _ w10 ⟨b10, rfl, q10, k10, o10⟩
  refine ⟨_, rfl, ?_⟩
  have hw9 : Below w.heap.size w w9 := hB.trans (ap9.below.mono hB.size)
  rw [if_neg (by omega)] at q10
  rw [if_neg (by omega)]
  refine WL.nil (WQ.dk (.inl rfl) ?_)
  (((first | refine WD.free 9 rfl (by kernel_rfl) rfl rfl (fun _ _ _ _ _ h => h) rfl rfl (.inl rfl) ?_ | refine WD.skip 9 rfl (by kernel_rfl) rfl rfl (fun _ _ _ _ _ h => h) rfl (.inl rfl) ?_); try (first | ((with_reducible refine WD.topT ?_ ?_); omega) | ((with_reducible refine WD.topF ?_ ?_); omega) | ((with_reducible refine WD.top64 ?_ ?_); omega))); ((first | refine WD.free 10 rfl (by kernel_rfl) rfl rfl (fun _ _ _ _ _ h => h) rfl rfl (.inl rfl) ?_ | refine WD.skip 10 rfl (by kernel_rfl) rfl rfl (fun _ _ _ _ _ h => h) rfl (.inl rfl) ?_); try (first | ((with_reducible refine WD.topT ?_ ?_); omega) | ((with_reducible refine WD.topF ?_ ?_); omega) | ((with_reducible refine WD.top64 ?_ ?_); omega))); ((first | refine WD.free 11 rfl (by kernel_rfl) rfl rfl (fun _ _ _ _ _ h => h) rfl rfl (.inl rfl) ?_ | refine WD.skip 11 rfl (by kernel_rfl) rfl rfl (fun _ _ _ _ _ h => h) rfl (.inl rfl) ?_); try (first | ((with_reducible refine WD.topT ?_ ?_); omega) | ((with_reducible refine WD.topF ?_ ?_); omega) | ((with_reducible refine WD.top64 ?_ ?_); omega))); ((first | refine WD.free 12 rfl (by kernel_rfl) rfl rfl (fun _ _ _ _ _ h => h) rfl rfl (.inl rfl) ?_ | refine WD.skip 12 rfl (by kernel_rfl) rfl rfl (fun _ _ _ _ _ h => h) rfl (.inl rfl) ?_); try (first | ((with_reducible refine WD.topT ?_ ?_); omega) | ((with_reducible refine WD.topF ?_ ?_); omega) | ((with_reducible refine WD.top64 ?_ ?_); omega))))
  refine WD.done (by kernel_rfl) ?_
  repeat (first | ((with_reducible refine WL.topT ?_ ?_); omega) | ((with_reducible refine WL.topF ?_ ?_); omega) | ((with_reducible refine WL.top64 ?_ ?_); omega) | refine WC.seq ?_ | refine WC.block ?_ | refine WC.region ?_ | refine WL.nil ?_ | refine WC.skip ?_ | refine WC.exit ?_ | refine WC.ret ?_ | refine WQ.then rfl ?_ | refine WQ.thenExit ?_ | refine WQ.thenRet ?_ | refine WQ.blk ?_ | refine WQ.blkRet ?_ | refine WQ.blkHere rfl ?_ | refine WQ.blkOther rfl ?_ | refine WL.pure rfl rfl rfl rfl ?_ | refine WL.on rfl rfl ?_ | refine WL.off rfl rfl rfl ?_ | refine WC.condTrue rfl ?_ | refine WC.condFalse rfl ?_)
  refine WQ.ret2 rfl rfl rfl ⟨b10, ?_, ⟨hw9.trans (k10.mono hw9.size), fun x hx => Nat.le_trans hw9.size (o10 x hx)⟩, ?_⟩
  · rw [he, hv]; rfl
  · rw [if_pos (by rw [he, hv])]; exact q10
set_option maxHeartbeats 2000000 in
theorem rrpenc_any {f n : Nat} {w : World} {r : Rp} {nv pv dv : Value} (h : IsRp f w r nv pv dv) (hfew : Few f r.rows n) (hd : r.data.length ≤ 5000) :
    Calls Try.prog 15 #[.agg (rpC r nv pv dv).toArray] w (FrOut w (rpE r) (rpB r)) := by
  obtain ⟨⟨seq, err, nums, rows, data⟩, rfl⟩ : ∃ r', r = r' := ⟨r, rfl⟩
  obtain ⟨hnums, h64, hpar, hdat, hdb⟩ := h
  simp only at hnums h64 hpar hdat hdb hfew hd
  obtain ⟨sn, cn, rfl, -⟩ := id hnums
  obtain ⟨sp, cp, rfl, -⟩ := id hpar
  obtain ⟨sd, cd, rfl, -⟩ := id hdat
  have hfl := hfew.len
  refine enter (args := [.agg (rpC ⟨seq, err, nums, rows, data⟩ (.slice sn nums.length cn) (.slice sp rows.length cp) (.slice sd data.length cd)).toArray]) Try.func15 rfl Try.ntmps15 rfl ?_
  generalize hr : (⟨seq, err, nums, rows, data⟩ : Rp) = r
  have hcells : rpC r (.slice sn nums.length cn) (.slice sp rows.length cp) (.slice sd data.length cd) = [.int .i64 seq, .int .i64 err, .slice sn nums.length cn, .slice sp rows.length cp, .slice sd data.length cd] := by rw [← hr]; rfl
  rw [hcells]
  repeat (first | refine WC.seq ?_ | refine WC.block ?_ | refine WC.region ?_ | refine WL.nil ?_ | refine WC.skip ?_ | refine WC.exit ?_ | refine WC.ret ?_ | refine WQ.then rfl ?_ | refine WQ.thenExit ?_ | refine WQ.thenRet ?_ | refine WQ.blk ?_ | refine WQ.blkRet ?_ | refine WQ.blkHere rfl ?_ | refine WQ.blkOther rfl ?_)
  refine WL.box rfl rfl rfl rfl rfl fun g w1 hf0 => ?_
  have hf : Fresh w g w1 46 [.int .i64 seq, .int .i64 err, .slice sn nums.length cn, .slice sp rows.length cp, .slice sd data.length cd] := hf0
  clear hf0
  have hB := hf.below
  have T1 := hf.blk
  clear hf
  have cell : ∀ {wx : World}, VBlk 46 wx g [.int .i64 seq, .int .i64 err, .slice sn nums.length cn, .slice sp rows.length cp, .slice sd data.length cd] → wx.cell? ⟨g, 0, none⟩ = some (.int .i64 seq) ∧ wx.cell? ⟨g, 1, none⟩ = some (.int .i64 err) ∧ wx.cell? ⟨g, 2, none⟩ = some (.slice sn nums.length cn) ∧ wx.cell? ⟨g, 3, none⟩ = some (.slice sp rows.length cp) ∧ wx.cell? ⟨g, 4, none⟩ = some (.slice sd data.length cd) := fun h =>
    ⟨h.cell 0 (by simp), h.cell 1 (by simp), h.cell 2 (by simp), h.cell 3 (by simp), h.cell 4 (by simp)⟩
  obtain ⟨c0, c1, c2, c3, c4⟩ := cell T1
  have bad1 : (err < 0 ∨ 100 < err ∨ seq < 0 ∨ 9007199254740992 < seq ∨ 8 < nums.length) → rpE r = 1 := fun h => by rw [← hr]; unfold rpE; rw [if_pos h]
  by_cases h1 : err < 0
  · repeat (first | ((with_reducible refine WL.topT ?_ ?_); omega) | ((with_reducible refine WL.topF ?_ ?_); omega) | ((with_reducible refine WL.top64 ?_ ?_); omega) | refine WC.seq ?_ | refine WC.block ?_ | refine WC.region ?_ | refine WL.nil ?_ | refine WC.skip ?_ | refine WC.exit ?_ | refine WC.ret ?_ | refine WQ.then rfl ?_ | refine WQ.thenExit ?_ | refine WQ.thenRet ?_ | refine WQ.blk ?_ | refine WQ.blkRet ?_ | refine WQ.blkHere rfl ?_ | refine WQ.blkOther rfl ?_ | refine WL.pure rfl rfl rfl rfl ?_ | refine WL.on rfl rfl ?_ | refine WL.off rfl rfl rfl ?_ | refine WL.load rfl rfl rfl rfl rfl rfl (by assumption) ?_ | refine WC.condTrue rfl ?_ | refine WC.condFalse rfl ?_)
    exact WQ.ret2 rfl rfl rfl (FrOut.bad (bad1 (.inl h1)) (by decide) hB)
  by_cases h2 : 100 < err
  · repeat (first | ((with_reducible refine WL.topT ?_ ?_); omega) | ((with_reducible refine WL.topF ?_ ?_); omega) | ((with_reducible refine WL.top64 ?_ ?_); omega) | refine WC.seq ?_ | refine WC.block ?_ | refine WC.region ?_ | refine WL.nil ?_ | refine WC.skip ?_ | refine WC.exit ?_ | refine WC.ret ?_ | refine WQ.then rfl ?_ | refine WQ.thenExit ?_ | refine WQ.thenRet ?_ | refine WQ.blk ?_ | refine WQ.blkRet ?_ | refine WQ.blkHere rfl ?_ | refine WQ.blkOther rfl ?_ | refine WL.pure rfl rfl rfl rfl ?_ | refine WL.on rfl rfl ?_ | refine WL.off rfl rfl rfl ?_ | refine WL.load rfl rfl rfl rfl rfl rfl (by assumption) ?_ | refine WC.condTrue rfl ?_ | refine WC.condFalse rfl ?_)
    exact WQ.ret2 rfl rfl rfl (FrOut.bad (bad1 (.inr (.inl h2))) (by decide) hB)
  by_cases h3 : seq < 0
  · repeat (first | ((with_reducible refine WL.topT ?_ ?_); omega) | ((with_reducible refine WL.topF ?_ ?_); omega) | ((with_reducible refine WL.top64 ?_ ?_); omega) | refine WC.seq ?_ | refine WC.block ?_ | refine WC.region ?_ | refine WL.nil ?_ | refine WC.skip ?_ | refine WC.exit ?_ | refine WC.ret ?_ | refine WQ.then rfl ?_ | refine WQ.thenExit ?_ | refine WQ.thenRet ?_ | refine WQ.blk ?_ | refine WQ.blkRet ?_ | refine WQ.blkHere rfl ?_ | refine WQ.blkOther rfl ?_ | refine WL.pure rfl rfl rfl rfl ?_ | refine WL.on rfl rfl ?_ | refine WL.off rfl rfl rfl ?_ | refine WL.load rfl rfl rfl rfl rfl rfl (by assumption) ?_ | refine WC.condTrue rfl ?_ | refine WC.condFalse rfl ?_)
    exact WQ.ret2 rfl rfl rfl (FrOut.bad (bad1 (.inr (.inr (.inl h3)))) (by decide) hB)
  by_cases h4 : 9007199254740992 < seq
  · repeat (first | ((with_reducible refine WL.topT ?_ ?_); omega) | ((with_reducible refine WL.topF ?_ ?_); omega) | ((with_reducible refine WL.top64 ?_ ?_); omega) | refine WC.seq ?_ | refine WC.block ?_ | refine WC.region ?_ | refine WL.nil ?_ | refine WC.skip ?_ | refine WC.exit ?_ | refine WC.ret ?_ | refine WQ.then rfl ?_ | refine WQ.thenExit ?_ | refine WQ.thenRet ?_ | refine WQ.blk ?_ | refine WQ.blkRet ?_ | refine WQ.blkHere rfl ?_ | refine WQ.blkOther rfl ?_ | refine WL.pure rfl rfl rfl rfl ?_ | refine WL.on rfl rfl ?_ | refine WL.off rfl rfl rfl ?_ | refine WL.load rfl rfl rfl rfl rfl rfl (by assumption) ?_ | refine WC.condTrue rfl ?_ | refine WC.condFalse rfl ?_)
    exact WQ.ret2 rfl rfl rfl (FrOut.bad (bad1 (.inr (.inr (.inr (.inl h4))))) (by decide) hB)
  by_cases h8 : 8 < nums.length
  · repeat (first | ((with_reducible refine WL.topT ?_ ?_); omega) | ((with_reducible refine WL.topF ?_ ?_); omega) | ((with_reducible refine WL.top64 ?_ ?_); omega) | refine WC.seq ?_ | refine WC.block ?_ | refine WC.region ?_ | refine WL.nil ?_ | refine WC.skip ?_ | refine WC.exit ?_ | refine WC.ret ?_ | refine WQ.then rfl ?_ | refine WQ.thenExit ?_ | refine WQ.thenRet ?_ | refine WQ.blk ?_ | refine WQ.blkRet ?_ | refine WQ.blkHere rfl ?_ | refine WQ.blkOther rfl ?_ | refine WL.pure rfl rfl rfl rfl ?_ | refine WL.on rfl rfl ?_ | refine WL.off rfl rfl rfl ?_ | refine WL.load rfl rfl rfl rfl rfl rfl (by assumption) ?_ | refine WC.condTrue rfl ?_ | refine WC.condFalse rfl ?_)
    exact WQ.ret2 rfl rfl rfl (FrOut.bad (bad1 (.inr (.inr (.inr (.inr h8))))) (by decide) hB)
  clear bad1
  have hno : ¬ (err < 0 ∨ 100 < err ∨ seq < 0 ∨ 9007199254740992 < seq ∨ 8 < nums.length) := by omega
  have he : rpE r = vlE rows := by rw [← hr]; unfold rpE; rw [if_neg hno, if_neg (show ¬ 4096 < rows.length by omega)]
  repeat (first | ((with_reducible refine WL.topT ?_ ?_); omega) | ((with_reducible refine WL.topF ?_ ?_); omega) | ((with_reducible refine WL.top64 ?_ ?_); omega) | refine WC.seq ?_ | refine WC.block ?_ | refine WC.region ?_ | refine WL.nil ?_ | refine WC.skip ?_ | refine WC.exit ?_ | refine WC.ret ?_ | refine WQ.then rfl ?_ | refine WQ.thenExit ?_ | refine WQ.thenRet ?_ | refine WQ.blk ?_ | refine WQ.blkRet ?_ | refine WQ.blkHere rfl ?_ | refine WQ.blkOther rfl ?_ | refine WL.pure rfl rfl rfl rfl ?_ | refine WL.on rfl rfl ?_ | refine WL.off rfl rfl rfl ?_ | refine WL.load rfl rfl rfl rfl rfl rfl (by assumption) ?_ | refine WC.condTrue rfl ?_ | refine WC.condFalse rfl ?_)
  obtain ⟨sq, rfl⟩ : ∃ n : Nat, seq = (n : Int) := ⟨seq.toNat, by omega⟩
  have hhl := headB_len 82 err sq nums (by omega)
  clear c0 c1 c2 c3 c4
  refine WC.drawn 9 (fun wx => VBlk 46 wx g [.int .i64 sq, .int .i64 err, .slice sn nums.length cn, .slice sp rows.length cp, .slice sd data.length cd]) fun w2 hdr => ?_
  have k2 : Below w1.heap.size w1 w2 := hdr.below _
  have hS := T1.below k2 T1.lt
  clear hdr
  (((first | refine WD.free 0 rfl (by kernel_rfl) rfl rfl (fun _ _ _ _ _ h => h) rfl rfl (.inr hS) ?_ | refine WD.skip 0 rfl (by kernel_rfl) rfl rfl (fun _ _ _ _ _ h => h) rfl (.inr hS) ?_); try (first | ((with_reducible refine WD.topT ?_ ?_); omega) | ((with_reducible refine WD.topF ?_ ?_); omega) | ((with_reducible refine WD.top64 ?_ ?_); omega))); ((first | refine WD.free 2 rfl (by kernel_rfl) rfl rfl (fun _ _ _ _ _ h => h) rfl rfl (.inr hS) ?_ | refine WD.skip 2 rfl (by kernel_rfl) rfl rfl (fun _ _ _ _ _ h => h) rfl (.inr hS) ?_); try (first | ((with_reducible refine WD.topT ?_ ?_); omega) | ((with_reducible refine WD.topF ?_ ?_); omega) | ((with_reducible refine WD.top64 ?_ ?_); omega))); ((first | refine WD.free 4 rfl (by kernel_rfl) rfl rfl (fun _ _ _ _ _ h => h) rfl rfl (.inr hS) ?_ | refine WD.skip 4 rfl (by kernel_rfl) rfl rfl (fun _ _ _ _ _ h => h) rfl (.inr hS) ?_); try (first | ((with_reducible refine WD.topT ?_ ?_); omega) | ((with_reducible refine WD.topF ?_ ?_); omega) | ((with_reducible refine WD.top64 ?_ ?_); omega))); ((first | refine WD.free 7 rfl (by kernel_rfl) rfl rfl (fun _ _ _ _ _ h => h) rfl rfl (.inr hS) ?_ | refine WD.skip 7 rfl (by kernel_rfl) rfl rfl (fun _ _ _ _ _ h => h) rfl (.inr hS) ?_); try (first | ((with_reducible refine WD.topT ?_ ?_); omega) | ((with_reducible refine WD.topF ?_ ?_); omega) | ((with_reducible refine WD.top64 ?_ ?_); omega))))
  refine WD.load 1 [6, 9, 10, 11, 12, 13, 14] rfl (by kernel_rfl) rfl rfl (fun _ _ _ _ _ h => h) rfl rfl rfl rfl (fun wx hx => (cell hx).2.1) hS ?_
  refine WD.load 3 [6, 9, 10, 11, 12, 13, 14] rfl (by kernel_rfl) rfl rfl (fun _ _ _ _ _ h => h) rfl rfl rfl rfl (fun wx hx => (cell hx).1) hS ?_
  refine WD.load 5 [6, 9, 10, 11, 12, 13, 14] rfl (by kernel_rfl) rfl rfl (fun _ _ _ _ _ h => h) rfl rfl rfl rfl (fun wx hx => (cell hx).2.2.1) hS ?_
  refine WD.load 8 [9, 10, 11, 12, 13, 14] rfl (by kernel_rfl) rfl rfl (fun _ _ _ _ _ h => h) rfl rfl rfl rfl (fun wx hx => (cell hx).2.2.2.1) hS ?_
  refine WD.one 6 (by kernel_rfl) rfl ?_
  refine WL.call rfl rfl rfl rfl rfl Try.func28 rfl (by kernel_rfl) (rbegin_any 82 err (by omega) sq (by omega) ((hnums.of_below hB).of_below k2) h64 (by omega)) ?_
  rintro _ w3 ⟨b3, rfl, q3, k3, o3⟩
  refine ⟨_, rfl, ?_⟩
  have ap3 : Apart w1 w3 b3 := ⟨k2.trans (k3.mono k2.size), fun x hx => Nat.le_trans k2.size (o3 x hx)⟩
  replace hS := T1.below ap3.below T1.lt
  refine WL.nil (WQ.dk (.inr hS) ?_)
  refine WD.one 9 (by kernel_rfl) rfl ?_
  refine WL.call rfl rfl rfl rfl rfl Try.func26 rfl (by kernel_rfl) (rvalues_any (hpar.below hB) hfew ap3 q3 (by omega)) ?_
  rintro _ w6 ⟨b6, rfl, ap6, q6⟩
  refine ⟨_, rfl, ?_⟩
  have T6 := T1.below ap6.below T1.lt
  refine WL.nil (WQ.dk (.inl rfl) ?_)
  (((first | refine WD.free 10 rfl (by kernel_rfl) rfl rfl (fun _ _ _ _ _ h => h) rfl rfl (.inl rfl) ?_ | refine WD.skip 10 rfl (by kernel_rfl) rfl rfl (fun _ _ _ _ _ h => h) rfl (.inl rfl) ?_); try (first | ((with_reducible refine WD.topT ?_ ?_); omega) | ((with_reducible refine WD.topF ?_ ?_); omega) | ((with_reducible refine WD.top64 ?_ ?_); omega))); ((first | refine WD.free 11 rfl (by kernel_rfl) rfl rfl (fun _ _ _ _ _ h => h) rfl rfl (.inl rfl) ?_ | refine WD.skip 11 rfl (by kernel_rfl) rfl rfl (fun _ _ _ _ _ h => h) rfl (.inl rfl) ?_); try (first | ((with_reducible refine WD.topT ?_ ?_); omega) | ((with_reducible refine WD.topF ?_ ?_); omega) | ((with_reducible refine WD.top64 ?_ ?_); omega))); ((first | refine WD.free 12 rfl (by kernel_rfl) rfl rfl (fun _ _ _ _ _ h => h) rfl rfl (.inl rfl) ?_ | refine WD.skip 12 rfl (by kernel_rfl) rfl rfl (fun _ _ _ _ _ h => h) rfl (.inl rfl) ?_); try (first | ((with_reducible refine WD.topT ?_ ?_); omega) | ((with_reducible refine WD.topF ?_ ?_); omega) | ((with_reducible refine WD.top64 ?_ ?_); omega))); ((first | refine WD.free 13 rfl (by kernel_rfl) rfl rfl (fun _ _ _ _ _ h => h) rfl rfl (.inl rfl) ?_ | refine WD.skip 13 rfl (by kernel_rfl) rfl rfl (fun _ _ _ _ _ h => h) rfl (.inl rfl) ?_); try (first | ((with_reducible refine WD.topT ?_ ?_); omega) | ((with_reducible refine WD.topF ?_ ?_); omega) | ((with_reducible refine WD.top64 ?_ ?_); omega))); ((first | refine WD.free 14 rfl (by kernel_rfl) rfl rfl (fun _ _ _ _ _ h => h) rfl rfl (.inl rfl) ?_ | refine WD.skip 14 rfl (by kernel_rfl) rfl rfl (fun _ _ _ _ _ h => h) rfl (.inl rfl) ?_); try (first | ((with_reducible refine WD.topT ?_ ?_); omega) | ((with_reducible refine WD.topF ?_ ?_); omega) | ((with_reducible refine WD.top64 ?_ ?_); omega))))
  refine WD.done (by kernel_rfl) ?_
  have hw6 : Below w.heap.size w w6 := hB.trans (ap6.below.mono hB.size)
  by_cases hv : vlE rows ≠ 0
  · repeat (first | ((with_reducible refine WL.topT ?_ ?_); omega) | ((with_reducible refine WL.topF ?_ ?_); omega) | ((with_reducible refine WL.top64 ?_ ?_); omega) | refine WC.seq ?_ | refine WC.block ?_ | refine WC.region ?_ | refine WL.nil ?_ | refine WC.skip ?_ | refine WC.exit ?_ | refine WC.ret ?_ | refine WQ.then rfl ?_ | refine WQ.thenExit ?_ | refine WQ.thenRet ?_ | refine WQ.blk ?_ | refine WQ.blkRet ?_ | refine WQ.blkHere rfl ?_ | refine WQ.blkOther rfl ?_ | refine WL.pure rfl rfl rfl rfl ?_ | refine WL.on rfl rfl ?_ | refine WL.off rfl rfl rfl ?_ | refine WC.condTrue rfl ?_ | refine WC.condFalse rfl ?_)
    exact WQ.ret2 rfl rfl rfl (FrOut.bad he hv hw6)
  replace hv : vlE rows = 0 := by omega
  rw [if_pos hv] at q6
  rw [hv]
  have hvl := valsB_len hfew hv
  have hvb := valsB_byt (vlE_mem hv)
  have hul := uvB_lenw data.length
  have d4 : w6.cell? ⟨g, 4, none⟩ = some (.slice sd data.length cd) := (cell T6).2.2.2.2
  repeat (first | ((with_reducible refine WL.topT ?_ ?_); omega) | ((with_reducible refine WL.topF ?_ ?_); omega) | ((with_reducible refine WL.top64 ?_ ?_); omega) | refine WC.seq ?_ | refine WC.block ?_ | refine WC.region ?_ | refine WL.nil ?_ | refine WC.skip ?_ | refine WC.exit ?_ | refine WC.ret ?_ | refine WQ.then rfl ?_ | refine WQ.thenExit ?_ | refine WQ.thenRet ?_ | refine WQ.blk ?_ | refine WQ.blkRet ?_ | refine WQ.blkHere rfl ?_ | refine WQ.blkOther rfl ?_ | refine WL.pure rfl rfl rfl rfl ?_ | refine WL.on rfl rfl ?_ | refine WL.off rfl rfl rfl ?_ | refine WL.load rfl rfl rfl rfl rfl rfl (by assumption) ?_ | refine WC.condTrue rfl ?_ | refine WC.condFalse rfl ?_)
  refine WL.strOf rfl rfl rfl rfl rfl rfl rfl rfl ((hdat.of_below hB).of_below ap6.below) ?_
  have hz1 : (strOfNums data).size = data.length := strOfNums_size _
  have hz2 : bytesI (strOfNums data) = data := bytesI_strOf hdb
  refine WL.call rfl rfl rfl rfl rfl Try.func27 rfl (by kernel_rfl) (r25text_any q6 (by rw [List.length_append]; omega) (by omega)) ?_
  rintro _ w9 ⟨b9, rfl, q9, g9⟩
  refine ⟨_, rfl, ?_⟩
  rw [hz1, hz2] at q9
  have ap9 := ap6.grow g9
  have hall : headB 82 err sq nums ++ valsB rows ++ (uvB data.length ++ data) = rpB r := by rw [← hr]; unfold rpB; rfl
  have hbytes : Frm.Byt (rpB r) := by
    rw [← hall]
    intro c hc
    simp only [List.mem_append] at hc
    rcases hc with (h | h) | h | h
    · exact headB_byt (by omega) (by omega) _ _ c h
    · exact hvb c h
    · exact uvB_bytw _ c h
    · exact hdb c h
  have hlen : (rpB r).length ≤ 300000 := by rw [← hall]; simp only [List.length_append]; omega
  rw [hall] at q9
  refine WL.call rfl rfl rfl rfl rfl Try.func29 rfl (by kernel_rfl) (rfenc_any q9.sl hbytes (by omega)) ?_
  rintro _ w10 ⟨b10, rfl, q10, k10, o10⟩
  refine ⟨_, rfl, ?_⟩
  have hw9 : Below w.heap.size w w9 := hB.trans (ap9.below.mono hB.size)
  rw [if_neg (by omega)] at q10
  rw [if_neg (by omega)]
  repeat (first | ((with_reducible refine WL.topT ?_ ?_); omega) | ((with_reducible refine WL.topF ?_ ?_); omega) | ((with_reducible refine WL.top64 ?_ ?_); omega) | refine WC.seq ?_ | refine WC.block ?_ | refine WC.region ?_ | refine WL.nil ?_ | refine WC.skip ?_ | refine WC.exit ?_ | refine WC.ret ?_ | refine WQ.then rfl ?_ | refine WQ.thenExit ?_ | refine WQ.thenRet ?_ | refine WQ.blk ?_ | refine WQ.blkRet ?_ | refine WQ.blkHere rfl ?_ | refine WQ.blkOther rfl ?_ | refine WL.pure rfl rfl rfl rfl ?_ | refine WL.on rfl rfl ?_ | refine WL.off rfl rfl rfl ?_ | refine WC.condTrue rfl ?_ | refine WC.condFalse rfl ?_)
  refine WQ.ret2 rfl rfl rfl ⟨b10, ?_, ⟨hw9.trans (k10.mono hw9.size), fun x hx => Nat.le_trans hw9.size (o10 x hx)⟩, ?_⟩
  · rw [he, hv]; rfl
  · rw [if_pos (by rw [he, hv])]; exact q10
end K
end Go.Proofs.Ytdkkaliiofcflaa

/- A reply's frame is read (chapter 25): the program's DecodeReply. -/
namespace Go.Proofs.Ytdkkaliiofcflaa
open Go.RowKit
namespace K
/-- A reply that is written. -/
structure RpOk (r : Rp) : Prop where
  err : 0 ≤ r.err ∧ r.err ≤ 100
  seq : 0 ≤ r.seq ∧ r.seq ≤ 9007199254740992
  nums : r.nums.length ≤ 8
  r64 : R64w r.nums
  rows : r.rows.length ≤ 4096
  backs : Backs r.rows
  data : r.data.length ≤ 5000
  dbyt : Frm.Byt r.data
  byt : Frm.Byt (rpB r)
  len : (rpB r).length ≤ 524288
def RpDec (w : World) (r : Rp) : Ending → World → Prop := fun e w' => ∃ nv pv dv, e = .returned (.tuple #[.agg (rpC r nv pv dv).toArray, .int .i64 0]) ∧ Below w.heap.size w w' ∧ Sl .i64 w' nv r.nums ∧ IsVs 17 w' pv r.rows ∧ Sl .u8 w' dv r.data
abbrev zRep : List Value := [.int .i64 0, .int .i64 0, .slice none 0 0, .slice none 0 0, .slice none 0 0]
set_option maxHeartbeats 4000000 in
theorem wdecR_ok {w : World} {v : Value} {r : Rp} (h : RpOk r) (hv : Sl .u8 w v (Frm.frameL (rpB r))) : Calls Try.prog 17 #[v] w (RpDec w r) := by
  obtain ⟨seq, err, nums, rows, data⟩ := r
  obtain ⟨hk, hs, hn8, h64, hr4, hbk, hdl, hdb, hby, hlen⟩ := h
  simp only at hk hs hn8 h64 hr4 hbk hdl hdb
  obtain ⟨sq, rfl⟩ : ∃ n : Nat, seq = (n : Int) := ⟨seq.toNat, by omega⟩
  have hall : rpB ⟨sq, err, nums, rows, data⟩ = 82 :: err :: (uvB sq ++ (uvB nums.length ++ (nmB nums ++ (uvB rows.length ++ (vlB rows ++ (uvB data.length ++ (data ++ []))))))) := by
    unfold rpB headB valsB; simp [List.append_assoc]
  refine enter (args := [v]) Try.func17 rfl Try.ntmps17 rfl ?_
  repeat (first | refine WC.seq ?_ | refine WC.block ?_ | refine WC.region ?_ | refine WL.nil ?_ | refine WC.skip ?_ | refine WC.exit ?_ | refine WC.ret ?_ | refine WQ.then rfl ?_ | refine WQ.thenExit ?_ | refine WQ.thenRet ?_ | refine WQ.blk ?_ | refine WQ.blkRet ?_ | refine WQ.blkHere rfl ?_ | refine WQ.blkOther rfl ?_)
  refine WL.alloc (z := .agg zRep.toArray) rfl rfl rfl rfl (fun _ => by kernel_rfl) fun g1 w1 hf0 => ?_
  have hf1 : Fresh w g1 w1 45 zRep := hf0
  clear hf0
  have hB1 := hf1.below
  have hg1 := hf1.eq
  have hz1 := hf1.size
  have T1 := hf1.blk
  clear hf1
  repeat (first | ((with_reducible refine WL.topT ?_ ?_); omega) | ((with_reducible refine WL.topF ?_ ?_); omega) | ((with_reducible refine WL.top64 ?_ ?_); omega) | refine WC.seq ?_ | refine WC.block ?_ | refine WC.region ?_ | refine WL.nil ?_ | refine WC.skip ?_ | refine WC.exit ?_ | refine WC.ret ?_ | refine WQ.then rfl ?_ | refine WQ.thenExit ?_ | refine WQ.thenRet ?_ | refine WQ.blk ?_ | refine WQ.blkRet ?_ | refine WQ.blkHere rfl ?_ | refine WQ.blkOther rfl ?_ | refine WL.pure rfl rfl rfl rfl ?_ | refine WL.on rfl rfl ?_ | refine WL.off rfl rfl rfl ?_ | refine WC.condTrue rfl ?_ | refine WC.condFalse rfl ?_)
  refine WL.call rfl rfl rfl rfl rfl Try.func30 rfl (by kernel_rfl) (wopen_ok (hv.of_below hB1) hby hlen) ?_
  rintro _ w2 ⟨rb, rfl, hr2, k2, hrb⟩
  refine ⟨_, rfl, ?_⟩
  rw [hall] at hr2
  clear hall hby hlen hv
  have T2 := T1.below k2 T1.lt
  have hz2 := k2.size
  repeat (first | ((with_reducible refine WL.topT ?_ ?_); omega) | ((with_reducible refine WL.topF ?_ ?_); omega) | ((with_reducible refine WL.top64 ?_ ?_); omega) | refine WC.seq ?_ | refine WC.block ?_ | refine WC.region ?_ | refine WL.nil ?_ | refine WC.skip ?_ | refine WC.exit ?_ | refine WC.ret ?_ | refine WQ.then rfl ?_ | refine WQ.thenExit ?_ | refine WQ.thenRet ?_ | refine WQ.blk ?_ | refine WQ.blkRet ?_ | refine WQ.blkHere rfl ?_ | refine WQ.blkOther rfl ?_ | refine WL.pure rfl rfl rfl rfl ?_ | refine WL.on rfl rfl ?_ | refine WL.off rfl rfl rfl ?_ | refine WC.condTrue rfl ?_ | refine WC.condFalse rfl ?_)
  refine WL.alloc (z := .agg zRep.toArray) rfl rfl rfl rfl (fun _ => by kernel_rfl) fun gx w3 hf0 => ?_
  have hf3 : Fresh w2 gx w3 45 zRep := hf0
  clear hf0
  have hgx := hf3.eq
  have hz3 := hf3.size
  have s3 : DSt 45 w2.heap.size rb gx w3.heap.size w1 w3 _ zRep (.slice none 0 0) [] (.slice none 0 0) [] :=
    ⟨hr2.keep (Keep.of_below hf3.below) fun b hb => hb, by omega, by omega, Nat.le_refl _, hrb, hf3.blk, OwnE.nil _ _ _ _ _ _, ⟨fun _ => False, OwnE.nil _ _ _ _ _ _, fun b hb => hb.elim⟩, k2.trans (hf3.below.mono hz2)⟩
  clear hf3 hr2
  have hrg := s3.rg
  repeat (first | ((with_reducible refine WL.topT ?_ ?_); omega) | ((with_reducible refine WL.topF ?_ ?_); omega) | ((with_reducible refine WL.top64 ?_ ?_); omega) | refine WC.seq ?_ | refine WC.block ?_ | refine WC.region ?_ | refine WL.nil ?_ | refine WC.skip ?_ | refine WC.exit ?_ | refine WC.ret ?_ | refine WQ.then rfl ?_ | refine WQ.thenExit ?_ | refine WQ.thenRet ?_ | refine WQ.blk ?_ | refine WQ.blkRet ?_ | refine WQ.blkHere rfl ?_ | refine WQ.blkOther rfl ?_ | refine WL.pure rfl rfl rfl rfl ?_ | refine WL.on rfl rfl ?_ | refine WL.off rfl rfl rfl ?_ | refine WC.condTrue rfl ?_ | refine WC.condFalse rfl ?_)
  refine WL.call rfl rfl rfl rfl rfl Try.func31 rfl (by kernel_rfl) (wbyte_any s3.r) ?_
  rintro _ w4 ⟨rfl, hr4, k4⟩
  refine ⟨_, rfl, ?_⟩
  have s4 := s3.call hr4 k4
  clear s3 hr4 k4
  obtain ⟨sp4, cap4, hb4, -⟩ := s4.r.ex
  repeat (first | ((with_reducible refine WL.topT ?_ ?_); omega) | ((with_reducible refine WL.topF ?_ ?_); omega) | ((with_reducible refine WL.top64 ?_ ?_); omega) | refine WC.seq ?_ | refine WC.block ?_ | refine WC.region ?_ | refine WL.nil ?_ | refine WC.skip ?_ | refine WC.exit ?_ | refine WC.ret ?_ | refine WQ.then rfl ?_ | refine WQ.thenExit ?_ | refine WQ.thenRet ?_ | refine WQ.blk ?_ | refine WQ.blkRet ?_ | refine WQ.blkHere rfl ?_ | refine WQ.blkOther rfl ?_ | refine WL.pure rfl rfl rfl rfl ?_ | refine WL.on rfl rfl ?_ | refine WL.off rfl rfl rfl ?_ | refine WC.condTrue rfl ?_ | refine WC.condFalse rfl ?_)
  refine WL.load rfl rfl rfl rfl rfl rfl (hb4.cell 1 (by simp)) ?_
  refine WL.as 24 (.bool false) rfl rfl ?_
  repeat (first | ((with_reducible refine WL.topT ?_ ?_); omega) | ((with_reducible refine WL.topF ?_ ?_); omega) | ((with_reducible refine WL.top64 ?_ ?_); omega) | refine WC.seq ?_ | refine WC.block ?_ | refine WC.region ?_ | refine WL.nil ?_ | refine WC.skip ?_ | refine WC.exit ?_ | refine WC.ret ?_ | refine WQ.then rfl ?_ | refine WQ.thenExit ?_ | refine WQ.thenRet ?_ | refine WQ.blk ?_ | refine WQ.blkRet ?_ | refine WQ.blkHere rfl ?_ | refine WQ.blkOther rfl ?_ | refine WL.pure rfl rfl rfl rfl ?_ | refine WL.on rfl rfl ?_ | refine WL.off rfl rfl rfl ?_ | refine WC.condTrue rfl ?_ | refine WC.condFalse rfl ?_)
  refine WL.store rfl rfl rfl rfl rfl rfl (by kernel_rfl) (hb4.cell 1 (by simp)) (hb4.free 1) ?_
  have s5 := s4.bad
  generalize w4.setCell ⟨rb, 1, none⟩ (.bool false) = w5 at s5 ⊢
  clear s4 hb4
  repeat (first | ((with_reducible refine WL.topT ?_ ?_); omega) | ((with_reducible refine WL.topF ?_ ?_); omega) | ((with_reducible refine WL.top64 ?_ ?_); omega) | refine WC.seq ?_ | refine WC.block ?_ | refine WC.region ?_ | refine WL.nil ?_ | refine WC.skip ?_ | refine WC.exit ?_ | refine WC.ret ?_ | refine WQ.then rfl ?_ | refine WQ.thenExit ?_ | refine WQ.thenRet ?_ | refine WQ.blk ?_ | refine WQ.blkRet ?_ | refine WQ.blkHere rfl ?_ | refine WQ.blkOther rfl ?_ | refine WL.pure rfl rfl rfl rfl ?_ | refine WL.on rfl rfl ?_ | refine WL.off rfl rfl rfl ?_ | refine WC.condTrue rfl ?_ | refine WC.condFalse rfl ?_)
  refine WL.call rfl rfl rfl rfl rfl Try.func31 rfl (by kernel_rfl) (wbyte_any s5.r) ?_
  rintro _ w6 ⟨rfl, hr6, k6⟩
  refine ⟨_, rfl, ?_⟩
  have s6 := s5.call hr6 k6
  clear s5 hr6 k6
  repeat (first | ((with_reducible refine WL.topT ?_ ?_); omega) | ((with_reducible refine WL.topF ?_ ?_); omega) | ((with_reducible refine WL.top64 ?_ ?_); omega) | refine WC.seq ?_ | refine WC.block ?_ | refine WC.region ?_ | refine WL.nil ?_ | refine WC.skip ?_ | refine WC.exit ?_ | refine WC.ret ?_ | refine WQ.then rfl ?_ | refine WQ.thenExit ?_ | refine WQ.thenRet ?_ | refine WQ.blk ?_ | refine WQ.blkRet ?_ | refine WQ.blkHere rfl ?_ | refine WQ.blkOther rfl ?_ | refine WL.pure rfl rfl rfl rfl ?_ | refine WL.on rfl rfl ?_ | refine WL.off rfl rfl rfl ?_ | refine WC.condTrue rfl ?_ | refine WC.condFalse rfl ?_)
  refine WL.store rfl rfl rfl rfl rfl rfl (by kernel_rfl) (s6.x.cell 1 (by simp)) (s6.x.free 1) ?_
  have s7 := s6.put 1 (.int .i64 err)
  generalize w6.setCell ⟨gx, 1, none⟩ (.int .i64 err) = w7 at s7 ⊢
  clear s6
  repeat (first | ((with_reducible refine WL.topT ?_ ?_); omega) | ((with_reducible refine WL.topF ?_ ?_); omega) | ((with_reducible refine WL.top64 ?_ ?_); omega) | refine WC.seq ?_ | refine WC.block ?_ | refine WC.region ?_ | refine WL.nil ?_ | refine WC.skip ?_ | refine WC.exit ?_ | refine WC.ret ?_ | refine WQ.then rfl ?_ | refine WQ.thenExit ?_ | refine WQ.thenRet ?_ | refine WQ.blk ?_ | refine WQ.blkRet ?_ | refine WQ.blkHere rfl ?_ | refine WQ.blkOther rfl ?_ | refine WL.pure rfl rfl rfl rfl ?_ | refine WL.on rfl rfl ?_ | refine WL.off rfl rfl rfl ?_ | refine WC.condTrue rfl ?_ | refine WC.condFalse rfl ?_)
  refine WL.call rfl rfl rfl rfl rfl Try.func32 rfl (by kernel_rfl) (wupTo_any (most := 9007199254740992) s7.r (by omega) (by omega)) ?_
  rintro _ w8 ⟨rfl, hr8, k8⟩
  refine ⟨_, rfl, ?_⟩
  have s8 := s7.call hr8 k8
  clear s7 hr8 k8
  repeat (first | ((with_reducible refine WL.topT ?_ ?_); omega) | ((with_reducible refine WL.topF ?_ ?_); omega) | ((with_reducible refine WL.top64 ?_ ?_); omega) | refine WC.seq ?_ | refine WC.block ?_ | refine WC.region ?_ | refine WL.nil ?_ | refine WC.skip ?_ | refine WC.exit ?_ | refine WC.ret ?_ | refine WQ.then rfl ?_ | refine WQ.thenExit ?_ | refine WQ.thenRet ?_ | refine WQ.blk ?_ | refine WQ.blkRet ?_ | refine WQ.blkHere rfl ?_ | refine WQ.blkOther rfl ?_ | refine WL.pure rfl rfl rfl rfl ?_ | refine WL.on rfl rfl ?_ | refine WL.off rfl rfl rfl ?_ | refine WC.condTrue rfl ?_ | refine WC.condFalse rfl ?_)
  refine WL.store rfl rfl rfl rfl rfl rfl (by kernel_rfl) (s8.x.cell 0 (by simp)) (s8.x.free 0) ?_
  have s9 := s8.put 0 (.int .i64 sq)
  generalize w8.setCell ⟨gx, 0, none⟩ (.int .i64 sq) = w9 at s9 ⊢
  clear s8
  repeat (first | ((with_reducible refine WL.topT ?_ ?_); omega) | ((with_reducible refine WL.topF ?_ ?_); omega) | ((with_reducible refine WL.top64 ?_ ?_); omega) | refine WC.seq ?_ | refine WC.block ?_ | refine WC.region ?_ | refine WL.nil ?_ | refine WC.skip ?_ | refine WC.exit ?_ | refine WC.ret ?_ | refine WQ.then rfl ?_ | refine WQ.thenExit ?_ | refine WQ.thenRet ?_ | refine WQ.blk ?_ | refine WQ.blkRet ?_ | refine WQ.blkHere rfl ?_ | refine WQ.blkOther rfl ?_ | refine WL.pure rfl rfl rfl rfl ?_ | refine WL.on rfl rfl ?_ | refine WL.off rfl rfl rfl ?_ | refine WC.condTrue rfl ?_ | refine WC.condFalse rfl ?_)
  refine WL.call rfl rfl rfl rfl rfl Try.func33 rfl (by kernel_rfl) (wnums_any s9.r (by have := s9.hs; omega) hn8 h64) ?_
  rintro _ w10 ⟨nv, rfl, hN, hr10, k10⟩
  refine ⟨_, rfl, ?_⟩
  have s10' := s9.call hr10 k10
  have s10 : DSt 45 w2.heap.size rb gx w3.heap.size w1 w10 _ ((zRep.set 1 (.int .i64 err)).set 0 (.int .i64 sq)) nv nums (.slice none 0 0) [] :=
    { s10' with n := hN.keep (Keep.refl (fun _ => True) w10) (fun _ _ => trivial) (fun b hb => by have := s9.hs; omega) fun _ _ h => h }
  have hnv := hN.one
  clear s9 s10' hr10 k10 hN
  repeat (first | ((with_reducible refine WL.topT ?_ ?_); omega) | ((with_reducible refine WL.topF ?_ ?_); omega) | ((with_reducible refine WL.top64 ?_ ?_); omega) | refine WC.seq ?_ | refine WC.block ?_ | refine WC.region ?_ | refine WL.nil ?_ | refine WC.skip ?_ | refine WC.exit ?_ | refine WC.ret ?_ | refine WQ.then rfl ?_ | refine WQ.thenExit ?_ | refine WQ.thenRet ?_ | refine WQ.blk ?_ | refine WQ.blkRet ?_ | refine WQ.blkHere rfl ?_ | refine WQ.blkOther rfl ?_ | refine WL.pure rfl rfl rfl rfl ?_ | refine WL.on rfl rfl ?_ | refine WL.off rfl rfl rfl ?_ | refine WC.condTrue rfl ?_ | refine WC.condFalse rfl ?_)
  refine WL.store rfl rfl rfl rfl rfl hnv (by kernel_rfl) (s10.x.cell 2 (by simp)) (s10.x.free 2) ?_
  have s11 := s10.put 2 nv
  generalize w10.setCell ⟨gx, 2, none⟩ nv = w11 at s11 ⊢
  clear s10
  repeat (first | ((with_reducible refine WL.topT ?_ ?_); omega) | ((with_reducible refine WL.topF ?_ ?_); omega) | ((with_reducible refine WL.top64 ?_ ?_); omega) | refine WC.seq ?_ | refine WC.block ?_ | refine WC.region ?_ | refine WL.nil ?_ | refine WC.skip ?_ | refine WC.exit ?_ | refine WC.ret ?_ | refine WQ.then rfl ?_ | refine WQ.thenExit ?_ | refine WQ.thenRet ?_ | refine WQ.blk ?_ | refine WQ.blkRet ?_ | refine WQ.blkHere rfl ?_ | refine WQ.blkOther rfl ?_ | refine WL.pure rfl rfl rfl rfl ?_ | refine WL.on rfl rfl ?_ | refine WL.off rfl rfl rfl ?_ | refine WC.condTrue rfl ?_ | refine WC.condFalse rfl ?_)
  refine WL.call rfl rfl rfl rfl rfl Try.func35 rfl (by kernel_rfl) (wreadvals_any (most := 4096) s11.r (by have := s11.hs; omega) hr4 (by omega) hbk) ?_
  rintro _ w15 ⟨pv, rfl, hV, hr15, k15⟩
  refine ⟨_, rfl, ?_⟩
  have s15' := s11.call hr15 k15
  obtain ⟨q, hV, hq⟩ := hV
  have hpv := hV.one
  have s15 : DSt 45 w2.heap.size rb gx w3.heap.size w1 w15 _ (((zRep.set 1 (.int .i64 err)).set 0 (.int .i64 sq)).set 2 nv) nv nums pv rows :=
    { s15' with v := ⟨q, hV.keep (Keep.refl (fun _ => True) w15) (fun _ _ => trivial) (fun b hb => by have := s11.hs; omega) fun _ _ h => h, fun b hb => ⟨by have := (hq b hb).1; have := s11.hs; omega, (hq b hb).2⟩⟩ }
  clear s11 s15' hr15 k15 hV hq
  repeat (first | ((with_reducible refine WL.topT ?_ ?_); omega) | ((with_reducible refine WL.topF ?_ ?_); omega) | ((with_reducible refine WL.top64 ?_ ?_); omega) | refine WC.seq ?_ | refine WC.block ?_ | refine WC.region ?_ | refine WL.nil ?_ | refine WC.skip ?_ | refine WC.exit ?_ | refine WC.ret ?_ | refine WQ.then rfl ?_ | refine WQ.thenExit ?_ | refine WQ.thenRet ?_ | refine WQ.blk ?_ | refine WQ.blkRet ?_ | refine WQ.blkHere rfl ?_ | refine WQ.blkOther rfl ?_ | refine WL.pure rfl rfl rfl rfl ?_ | refine WL.on rfl rfl ?_ | refine WL.off rfl rfl rfl ?_ | refine WC.condTrue rfl ?_ | refine WC.condFalse rfl ?_)
  refine WL.store rfl rfl rfl rfl rfl hpv (by kernel_rfl) (s15.x.cell 3 (by simp)) (s15.x.free 3) ?_
  have s16 := s15.put 3 pv
  generalize w15.setCell ⟨gx, 3, none⟩ pv = w16 at s16 ⊢
  clear s15
  repeat (first | ((with_reducible refine WL.topT ?_ ?_); omega) | ((with_reducible refine WL.topF ?_ ?_); omega) | ((with_reducible refine WL.top64 ?_ ?_); omega) | refine WC.seq ?_ | refine WC.block ?_ | refine WC.region ?_ | refine WL.nil ?_ | refine WC.skip ?_ | refine WC.exit ?_ | refine WC.ret ?_ | refine WQ.then rfl ?_ | refine WQ.thenExit ?_ | refine WQ.thenRet ?_ | refine WQ.blk ?_ | refine WQ.blkRet ?_ | refine WQ.blkHere rfl ?_ | refine WQ.blkOther rfl ?_ | refine WL.pure rfl rfl rfl rfl ?_ | refine WL.on rfl rfl ?_ | refine WL.off rfl rfl rfl ?_ | refine WC.condTrue rfl ?_ | refine WC.condFalse rfl ?_)
  refine WL.call rfl rfl rfl rfl rfl Try.func32 rfl (by kernel_rfl) (wupTo_any (most := 524288) s16.r (by omega) (by omega)) ?_
  rintro _ w17 ⟨rfl, hr17, k17⟩
  refine ⟨_, rfl, ?_⟩
  have s17 := s16.call hr17 k17
  clear s16 hr17 k17
  refine WL.call rfl rfl rfl rfl rfl Try.func34 rfl (by kernel_rfl) (wtake_any (k := data.length) (A := data) s17.r rfl (by omega)) ?_
  rintro _ w18 ⟨tv, rfl, htv, hr18, k18⟩
  refine ⟨_, rfl, ?_⟩
  have s18 := s17.call hr18 k18
  clear s17 hr18 k18
  refine WL.app rfl rfl rfl rfl rfl (Bu.nil w18) rfl htv.sl (by simp only [List.length_nil]; omega) fun dv w19 hdv hgd => ?_
  rw [List.nil_append] at hdv
  have kd : Below w18.heap.size w18 w19 := hgd.old (Nat.le_refl _) (fun g h => by cases h)
  have hod : ∀ g, dv.ownBlock = some g → w18.heap.size ≤ g := fun g h => hgd.own (Nat.le_refl _) (fun g h => by cases h) g h
  have hs18 := s18.hs
  have s19 := s18.down kd
  have hdv1 := hdv.cell1
  clear s18 htv hgd kd
  have hgg := s19.hg
  repeat (first | ((with_reducible refine WL.topT ?_ ?_); omega) | ((with_reducible refine WL.topF ?_ ?_); omega) | ((with_reducible refine WL.top64 ?_ ?_); omega) | refine WC.seq ?_ | refine WC.block ?_ | refine WC.region ?_ | refine WL.nil ?_ | refine WC.skip ?_ | refine WC.exit ?_ | refine WC.ret ?_ | refine WQ.then rfl ?_ | refine WQ.thenExit ?_ | refine WQ.thenRet ?_ | refine WQ.blk ?_ | refine WQ.blkRet ?_ | refine WQ.blkHere rfl ?_ | refine WQ.blkOther rfl ?_ | refine WL.pure rfl rfl rfl rfl ?_ | refine WL.on rfl rfl ?_ | refine WL.off rfl rfl rfl ?_ | refine WC.condTrue rfl ?_ | refine WC.condFalse rfl ?_)
  refine WL.store rfl rfl rfl rfl rfl hdv1 (by kernel_rfl) (s19.x.cell 4 (by simp)) (s19.x.free 4) ?_
  have s20 := s19.put 4 dv
  have hk19 : Keep (fun b => b ≠ gx) w19 (w19.setCell ⟨gx, 4, none⟩ dv) := (Keep.refl _ w19).setCell (fun hk => hk rfl) _
  have hdv2 := hdv.keep hk19 (fun g h => by have := hod g h; omega)
  clear hk19
  generalize w19.setCell ⟨gx, 4, none⟩ dv = w20 at s20 hdv2 ⊢
  clear s19 hdv
  have hcp : (((((zRep.set 1 (.int .i64 err)).set 0 (.int .i64 sq)).set 2 nv).set 3 pv).set 4 dv) = rpC ⟨sq, err, nums, rows, data⟩ nv pv dv := rfl
  rw [hcp] at s20
  obtain ⟨sp20, cap20, hb20, -⟩ := s20.r.ex
  simp only [List.length_nil] at hb20
  have c1 : w20.cell? ⟨rb, 1, none⟩ = some (.bool false) := hb20.cell 1 (by simp)
  have c0 : w20.cell? ⟨rb, 0, none⟩ = some (.slice sp20 0 cap20) := hb20.cell 0 (by simp)
  have x1 : w20.cell? ⟨gx, 1, none⟩ = some (.int .i64 err) := s20.x.cell 1 (by simp [rpC])
  have hones : Ones (rpC ⟨sq, err, nums, rows, data⟩ nv pv dv) := by
    intro u hu
    unfold rpC at hu
    simp only [List.mem_cons, List.not_mem_nil, or_false] at hu
    rcases hu with rfl | rfl | rfl | rfl | rfl <;> first | rfl | assumption
  have T20 := T1.below s20.below T1.lt
  repeat (first | ((with_reducible refine WL.topT ?_ ?_); omega) | ((with_reducible refine WL.topF ?_ ?_); omega) | ((with_reducible refine WL.top64 ?_ ?_); omega) | refine WC.seq ?_ | refine WC.block ?_ | refine WC.region ?_ | refine WL.nil ?_ | refine WC.skip ?_ | refine WC.exit ?_ | refine WC.ret ?_ | refine WQ.then rfl ?_ | refine WQ.thenExit ?_ | refine WQ.thenRet ?_ | refine WQ.blk ?_ | refine WQ.blkRet ?_ | refine WQ.blkHere rfl ?_ | refine WQ.blkOther rfl ?_ | refine WL.pure rfl rfl rfl rfl ?_ | refine WL.on rfl rfl ?_ | refine WL.off rfl rfl rfl ?_ | refine WL.load rfl rfl rfl rfl rfl rfl (by assumption) ?_ | refine WC.condTrue rfl ?_ | refine WC.condFalse rfl ?_)
  refine WL.loadMid rfl rfl rfl rfl rfl rfl (VBlk.rangeAt s20.x) rfl ?_
  refine WL.storeRow rfl rfl rfl rfl rfl rfl T20 rfl (by rfl) hones ?_
  have hset : Keep (fun b => b ≠ g1) w20 (w20.setRow g1 (rpC ⟨sq, err, nums, rows, data⟩ nv pv dv).toArray) := Keep.setRow (Keep.refl _ w20) (fun hk => hk rfl) _
  have hkw : Below w.heap.size w (w20.setRow g1 (rpC ⟨sq, err, nums, rows, data⟩ nv pv dv).toArray) := below_setRow (hB1.trans (s20.below.mono hB1.size)) (by omega) _
  have T21 := T20.setRow (rpC ⟨sq, err, nums, rows, data⟩ nv pv dv)
  have hN := s20.n.keep (P' := intP) (O' := fun _ => True) hset (fun g hg => by have := s20.n.own hg; omega) (fun _ _ => trivial) fun _ _ h => h
  have hD := hdv2.keep hset (fun g h => by have := hod g h; omega)
  obtain ⟨q2, hV, hq2⟩ := s20.v
  have hV2 := hV.keep (P' := IsVo q2 17 (w20.setRow g1 (rpC ⟨sq, err, nums, rows, data⟩ nv pv dv).toArray)) (O' := fun _ => True) hset (fun g hg => by have := hV.own hg; omega) (fun _ _ => trivial) fun y cs hy => hy.keep hset (fun b hb _ => by have := (hq2 b hb).1; omega) fun b hb => hb
  generalize w20.setRow g1 (rpC ⟨sq, err, nums, rows, data⟩ nv pv dv).toArray = w21 at hkw T21 hN hV2 hD ⊢
  repeat (first | ((with_reducible refine WL.topT ?_ ?_); omega) | ((with_reducible refine WL.topF ?_ ?_); omega) | ((with_reducible refine WL.top64 ?_ ?_); omega) | refine WC.seq ?_ | refine WC.block ?_ | refine WC.region ?_ | refine WL.nil ?_ | refine WC.skip ?_ | refine WC.exit ?_ | refine WC.ret ?_ | refine WQ.then rfl ?_ | refine WQ.thenExit ?_ | refine WQ.thenRet ?_ | refine WQ.blk ?_ | refine WQ.blkRet ?_ | refine WQ.blkHere rfl ?_ | refine WQ.blkOther rfl ?_ | refine WL.pure rfl rfl rfl rfl ?_ | refine WL.on rfl rfl ?_ | refine WL.off rfl rfl rfl ?_ | refine WC.condTrue rfl ?_ | refine WC.condFalse rfl ?_)
  exact WQ.retCTw rfl rfl rfl rfl rfl T21 ⟨nv, pv, dv, rfl, hkw, intP_sl hN.els, elsV hV2.els, hD.sl⟩
end K
end Go.Proofs.Ytdkkaliiofcflaa

/- The laws' roomy and stands. -/
namespace Go.Proofs.Ytdkkaliiofcflaa
open Go.RowKit
namespace K

theorem roomyL_any {w : World} {v : Value} {l : List Int} (hv : Sl .u8 w v l) (hl : l.length ≤ 35184372088832) :
    Calls Try.prog 13 #[v] w fun e w' => ∃ rv, e = .returned rv ∧ Sl .u8 w' rv (l ++ [171]) ∧ Below w.heap.size w w' := by
  obtain ⟨sp, cap, rfl, -⟩ := id hv
  refine enter (args := [.slice sp l.length cap]) Try.func13 rfl Try.ntmps13 rfl ?_
  repeat (first | ((with_reducible refine WL.topT ?_ ?_); omega) | ((with_reducible refine WL.topF ?_ ?_); omega) | ((with_reducible refine WL.top64 ?_ ?_); omega) | refine WC.seq ?_ | refine WC.block ?_ | refine WC.region ?_ | refine WL.nil ?_ | refine WC.skip ?_ | refine WC.exit ?_ | refine WC.ret ?_ | refine WQ.then rfl ?_ | refine WQ.thenExit ?_ | refine WQ.thenRet ?_ | refine WQ.blk ?_ | refine WQ.blkRet ?_ | refine WQ.blkHere rfl ?_ | refine WQ.blkOther rfl ?_ | refine WL.pure rfl rfl rfl rfl ?_ | refine WL.on rfl rfl ?_ | refine WL.off rfl rfl rfl ?_ | refine WC.condTrue rfl ?_ | refine WC.condFalse rfl ?_)
  refine WL.empty rfl rfl rfl rfl rfl fun g w1 hf => ?_
  have hB1 := hf.below
  have hq1 := Bu.ofFresh hf
  have ho1 : ∀ g', (Value.slice (some ⟨g, 0, none⟩) 0 0).ownBlock = some g' → w.heap.size ≤ g' := fun g' h => by cases h; rw [hf.eq]; exact Nat.le_refl _
  clear hf
  repeat (first | ((with_reducible refine WL.topT ?_ ?_); omega) | ((with_reducible refine WL.topF ?_ ?_); omega) | ((with_reducible refine WL.top64 ?_ ?_); omega) | refine WC.seq ?_ | refine WC.block ?_ | refine WC.region ?_ | refine WL.nil ?_ | refine WC.skip ?_ | refine WC.exit ?_ | refine WC.ret ?_ | refine WQ.then rfl ?_ | refine WQ.thenExit ?_ | refine WQ.thenRet ?_ | refine WQ.blk ?_ | refine WQ.blkRet ?_ | refine WQ.blkHere rfl ?_ | refine WQ.blkOther rfl ?_ | refine WL.pure rfl rfl rfl rfl ?_ | refine WL.on rfl rfl ?_ | refine WL.off rfl rfl rfl ?_ | refine WC.condTrue rfl ?_ | refine WC.condFalse rfl ?_)
  refine WL.app rfl rfl rfl rfl rfl hq1 rfl (hv.of_below hB1) (by simp only [List.length_nil]; omega) fun b2 w2 q2 g2 => ?_
  rw [List.nil_append] at q2
  have hB2 := hB1.trans (g2.old hB1.size ho1)
  have ho2 := g2.own hB1.size ho1
  clear g2 hq1 ho1
  refine WL.push (zs := [171]) rfl rfl rfl rfl rfl rfl rfl rfl rfl rfl rfl (fun _ => rfl) rfl q2 (by simp only [List.length_singleton]; omega) fun b3 w3 q3 g3 => ?_
  have hB3 := hB2.trans (g3.old hB2.size ho2)
  have ho3 := g3.own hB2.size ho2
  clear g3 q2 ho2
  refine WL.push (zs := [171]) rfl rfl rfl rfl rfl rfl rfl rfl rfl rfl rfl (fun _ => rfl) rfl q3 (by simp only [List.length_append, List.length_singleton]; omega) fun b4 w4 q4 g4 => ?_
  have hB4 := hB3.trans (g4.old hB3.size ho3)
  clear g4 q3 ho3
  repeat (first | ((with_reducible refine WL.topT ?_ ?_); omega) | ((with_reducible refine WL.topF ?_ ?_); omega) | ((with_reducible refine WL.top64 ?_ ?_); omega) | refine WC.seq ?_ | refine WC.block ?_ | refine WC.region ?_ | refine WL.nil ?_ | refine WC.skip ?_ | refine WC.exit ?_ | refine WC.ret ?_ | refine WQ.then rfl ?_ | refine WQ.thenExit ?_ | refine WQ.thenRet ?_ | refine WQ.blk ?_ | refine WQ.blkRet ?_ | refine WQ.blkHere rfl ?_ | refine WQ.blkOther rfl ?_ | refine WL.pure rfl rfl rfl rfl ?_ | refine WL.on rfl rfl ?_ | refine WL.off rfl rfl rfl ?_ | refine WC.condTrue rfl ?_ | refine WC.condFalse rfl ?_)
  refine WL.upto rfl rfl rfl rfl rfl rfl rfl (by omega) (by simp only [List.length_append, List.length_singleton]; omega) q4.sl fun rv hrv => ?_
  repeat (first | ((with_reducible refine WL.topT ?_ ?_); omega) | ((with_reducible refine WL.topF ?_ ?_); omega) | ((with_reducible refine WL.top64 ?_ ?_); omega) | refine WC.seq ?_ | refine WC.block ?_ | refine WC.region ?_ | refine WL.nil ?_ | refine WC.skip ?_ | refine WC.exit ?_ | refine WC.ret ?_ | refine WQ.then rfl ?_ | refine WQ.thenExit ?_ | refine WQ.thenRet ?_ | refine WQ.blk ?_ | refine WQ.blkRet ?_ | refine WQ.blkHere rfl ?_ | refine WQ.blkOther rfl ?_ | refine WL.pure rfl rfl rfl rfl ?_ | refine WL.on rfl rfl ?_ | refine WL.off rfl rfl rfl ?_ | refine WC.condTrue rfl ?_ | refine WC.condFalse rfl ?_)
  refine WQ.ret1 rfl rfl ⟨rv, rfl, ?_, hB4⟩
  have e : ((l.length : Int) + 1).toNat = (l ++ [171]).length := by rw [List.length_append, List.length_singleton]; omega
  rw [e, List.take_left'] at hrv
  · exact hrv
  · rfl
theorem standsL_any {w : World} {rv v : Value} {l : List Int} (h1 : Sl .u8 w rv (l ++ [171])) (h2 : Sl .u8 w v l) (hl : l.length ≤ 35184372088832) :
    Calls Try.prog 16 #[rv, v] w fun e w' => e = .returned (.bool true) ∧ Below w.heap.size w w' := by
  have hlen : (l ++ [171]).length = l.length + 1 := by simp
  have hn : nth (l ++ [171]) l.length = 171 := by simp [nth]
  have htk : (l ++ [171]).take l.length = l := List.take_left' rfl
  generalize l ++ [171] = L at h1 hlen hn htk
  obtain ⟨sp1, cap1, rfl, -⟩ := id h1
  obtain ⟨sp2, cap2, rfl, -⟩ := id h2
  refine enter (args := [.slice sp1 L.length cap1, .slice sp2 l.length cap2]) Try.func16 rfl Try.ntmps16 rfl ?_
  repeat (first | ((with_reducible refine WL.topT ?_ ?_); omega) | ((with_reducible refine WL.topF ?_ ?_); omega) | ((with_reducible refine WL.top64 ?_ ?_); omega) | refine WC.seq ?_ | refine WC.block ?_ | refine WC.region ?_ | refine WL.nil ?_ | refine WC.skip ?_ | refine WC.exit ?_ | refine WC.ret ?_ | refine WQ.then rfl ?_ | refine WQ.thenExit ?_ | refine WQ.thenRet ?_ | refine WQ.blk ?_ | refine WQ.blkRet ?_ | refine WQ.blkHere rfl ?_ | refine WQ.blkOther rfl ?_ | refine WL.pure rfl rfl rfl rfl ?_ | refine WL.on rfl rfl ?_ | refine WL.off rfl rfl rfl ?_ | refine WC.condTrue rfl ?_ | refine WC.condFalse rfl ?_)
  refine WL.upto rfl rfl rfl rfl rfl rfl rfl (by omega) (by omega) h1 fun rv2 hrv2 => ?_
  rw [show ((l.length : Int)).toNat = l.length by omega, htk] at hrv2
  repeat (first | ((with_reducible refine WL.topT ?_ ?_); omega) | ((with_reducible refine WL.topF ?_ ?_); omega) | ((with_reducible refine WL.top64 ?_ ?_); omega) | refine WC.seq ?_ | refine WC.block ?_ | refine WC.region ?_ | refine WL.nil ?_ | refine WC.skip ?_ | refine WC.exit ?_ | refine WC.ret ?_ | refine WQ.then rfl ?_ | refine WQ.thenExit ?_ | refine WQ.thenRet ?_ | refine WQ.blk ?_ | refine WQ.blkRet ?_ | refine WQ.blkHere rfl ?_ | refine WQ.blkOther rfl ?_ | refine WL.pure rfl rfl rfl rfl ?_ | refine WL.on rfl rfl ?_ | refine WL.off rfl rfl rfl ?_ | refine WC.condTrue rfl ?_ | refine WC.condFalse rfl ?_)
  refine WL.call rfl rfl rfl rfl rfl Try.func9 rfl (by kernel_rfl) (same7_any hrv2 h2) ?_
  rintro _ w3 ⟨rfl, k3⟩
  refine ⟨_, rfl, ?_⟩
  rw [decide_eq_true (rfl : l = l)]
  repeat (first | ((with_reducible refine WL.topT ?_ ?_); omega) | ((with_reducible refine WL.topF ?_ ?_); omega) | ((with_reducible refine WL.top64 ?_ ?_); omega) | refine WC.seq ?_ | refine WC.block ?_ | refine WC.region ?_ | refine WL.nil ?_ | refine WC.skip ?_ | refine WC.exit ?_ | refine WC.ret ?_ | refine WQ.then rfl ?_ | refine WQ.thenExit ?_ | refine WQ.thenRet ?_ | refine WQ.blk ?_ | refine WQ.blkRet ?_ | refine WQ.blkHere rfl ?_ | refine WQ.blkOther rfl ?_ | refine WL.pure rfl rfl rfl rfl ?_ | refine WL.on rfl rfl ?_ | refine WL.off rfl rfl rfl ?_ | refine WC.condTrue rfl ?_ | refine WC.condFalse rfl ?_)
  refine WL.idxI l.length rfl rfl rfl rfl rfl rfl (h1.of_below k3) rfl rfl (by omega) fun p hp => ?_
  rw [hn] at hp
  repeat (first | ((with_reducible refine WL.topT ?_ ?_); omega) | ((with_reducible refine WL.topF ?_ ?_); omega) | ((with_reducible refine WL.top64 ?_ ?_); omega) | refine WC.seq ?_ | refine WC.block ?_ | refine WC.region ?_ | refine WL.nil ?_ | refine WC.skip ?_ | refine WC.exit ?_ | refine WC.ret ?_ | refine WQ.then rfl ?_ | refine WQ.thenExit ?_ | refine WQ.thenRet ?_ | refine WQ.blk ?_ | refine WQ.blkRet ?_ | refine WQ.blkHere rfl ?_ | refine WQ.blkOther rfl ?_ | refine WL.pure rfl rfl rfl rfl ?_ | refine WL.on rfl rfl ?_ | refine WL.off rfl rfl rfl ?_ | refine WL.load rfl rfl rfl rfl rfl rfl (by assumption) ?_ | refine WC.condTrue rfl ?_ | refine WC.condFalse rfl ?_)
  exact WQ.ret1 rfl rfl ⟨rfl, k3⟩
end K
end Go.Proofs.Ytdkkaliiofcflaa

/- The law WireReplies: walked. -/
namespace Go.Proofs.Ytdkkaliiofcflaa
open Go.RowKit
namespace K
theorem built_rp (T : TypeId) (hT : T = 45 ∨ T = 46) (seq err : Int) (sn sp sd : Option Addr) (ln cn lp cp ld cd : Nat) :
    Try.prog.built T [(0, .int .i64 seq), (1, .int .i64 err), (2, .slice sn ln cn), (3, .slice sp lp cp), (4, .slice sd ld cd)] = some #[.int .i64 seq, .int .i64 err, .slice sn ln cn, .slice sp lp cp, .slice sd ld cd] := by
  rcases hT with rfl | rfl <;> kernel_rfl
theorem rpOk_of {f n : Nat} {w : World} {r : Rp} {nv pv dv : Value} (h : IsRp f w r nv pv dv) (hfew : Few f r.rows n) (hd : r.data.length ≤ 5000) (he : rpE r = 0) : RpOk r := by
  obtain ⟨hnums, h64, hrows, hdat, hdb⟩ := h
  unfold rpE at he
  by_cases c1 : r.err < 0 ∨ 100 < r.err ∨ r.seq < 0 ∨ 9007199254740992 < r.seq ∨ 8 < r.nums.length
  · rw [if_pos c1] at he; cases he
  rw [if_neg c1] at he
  by_cases c2 : 4096 < r.rows.length
  · rw [if_pos c2] at he; cases he
  rw [if_neg c2] at he
  have hm := vlE_mem he
  have hbk : Backs r.rows := fun v hv => by
    obtain ⟨sp, cap, -, -, -, hrow⟩ := hrows
    obtain ⟨j, hj, rfl⟩ := List.getElem_of_mem hv
    obtain ⟨kb, ko, -, -, hcells⟩ := hrow (by omega)
    obtain ⟨c, -, hci, -⟩ := hcells j hj
    rw [show r.rows.getD j noV = r.rows[j] by simp [hj]] at hci
    obtain ⟨k1, k2, -⟩ := encR_ok (hm _ hv)
    exact ⟨back_dec hci k1 k2, encV_byt 16 k1, k2⟩
  have hvl := valsB_len hfew he
  have hhl := headB_len 82 r.err r.seq.toNat r.nums (by omega)
  have hu := uvB_lenw r.data.length
  refine ⟨by omega, by omega, by omega, h64, by omega, hbk, hd, hdb, ?_, ?_⟩
  · unfold rpB
    intro c hc
    simp only [List.mem_append] at hc
    rcases hc with (h | h) | (h | h)
    · exact headB_byt (by omega) (by omega) _ _ c h
    · exact valsB_byt hm c h
    · exact uvB_bytw _ c h
    · exact hdb c h
  · unfold rpB
    simp only [List.length_append]
    omega
set_option maxHeartbeats 1000000 in
theorem replies_any {f1 f2 : Nat} {w : World} {r : Rp} {n1 n2 p1 p2 d1 d2 : Value} (h1 : Sl .i64 w n1 r.nums) (h2 : Sl .i64 w n2 r.nums) (h3 : IsVs f1 w p1 r.rows) (h4 : IsVs f2 w p2 r.rows) (h5 : Sl .u8 w d1 r.data) (h6 : Sl .u8 w d2 r.data) :
    Calls Try.prog 18 #[.agg (rpC r n1 p1 d1).toArray, .agg (rpC r n2 p2 d2).toArray] w fun e w' => e = .returned (.bool true) ∧ Below w.heap.size w w' := by
  obtain ⟨sn1, cn1, rfl, -⟩ := id h1
  obtain ⟨sn2, cn2, rfl, -⟩ := id h2
  obtain ⟨sp1, cp1, rfl, -⟩ := id h3
  obtain ⟨sp2, cp2, rfl, -⟩ := id h4
  obtain ⟨sd1, cd1, rfl, -⟩ := id h5
  obtain ⟨sd2, cd2, rfl, -⟩ := id h6
  refine enter (args := [.agg (rpC r (.slice sn1 r.nums.length cn1) (.slice sp1 r.rows.length cp1) (.slice sd1 r.data.length cd1)).toArray, .agg (rpC r (.slice sn2 r.nums.length cn2) (.slice sp2 r.rows.length cp2) (.slice sd2 r.data.length cd2)).toArray]) Try.func18 rfl Try.ntmps18 rfl ?_
  repeat (first | refine WC.seq ?_ | refine WC.block ?_ | refine WC.region ?_ | refine WL.nil ?_ | refine WC.skip ?_ | refine WC.exit ?_ | refine WC.ret ?_ | refine WQ.then rfl ?_ | refine WQ.thenExit ?_ | refine WQ.thenRet ?_ | refine WQ.blk ?_ | refine WQ.blkRet ?_ | refine WQ.blkHere rfl ?_ | refine WQ.blkOther rfl ?_)
  refine WL.box rfl rfl rfl rfl rfl fun g1 w1 hf0 => ?_
  have hf1 : Fresh w g1 w1 45 (rpC r (.slice sn1 r.nums.length cn1) (.slice sp1 r.rows.length cp1) (.slice sd1 r.data.length cd1)) := hf0
  clear hf0
  refine WL.box rfl rfl rfl rfl rfl fun g2 w2 hf0 => ?_
  have hf2 : Fresh w1 g2 w2 46 (rpC r (.slice sn2 r.nums.length cn2) (.slice sp2 r.rows.length cp2) (.slice sd2 r.data.length cd2)) := hf0
  clear hf0
  have A := hf1.blk.below hf2.below hf1.blk.lt
  have B := hf2.blk
  have hb2 : Below w.heap.size w w2 := hf1.below.trans (hf2.below.mono hf1.below.size)
  clear hf1 hf2
  have a0 : w2.cell? ⟨g1, 0, none⟩ = some (.int .i64 r.seq) := A.cell 0 (by simp [rpC])
  have a1 : w2.cell? ⟨g1, 1, none⟩ = some (.int .i64 r.err) := A.cell 1 (by simp [rpC])
  have a2 : w2.cell? ⟨g1, 2, none⟩ = some (.slice sn1 r.nums.length cn1) := A.cell 2 (by simp [rpC])
  have b0 : w2.cell? ⟨g2, 0, none⟩ = some (.int .i64 r.seq) := B.cell 0 (by simp [rpC])
  have b1 : w2.cell? ⟨g2, 1, none⟩ = some (.int .i64 r.err) := B.cell 1 (by simp [rpC])
  have b2 : w2.cell? ⟨g2, 2, none⟩ = some (.slice sn2 r.nums.length cn2) := B.cell 2 (by simp [rpC])
  repeat (first | ((with_reducible refine WL.topT ?_ ?_); omega) | ((with_reducible refine WL.topF ?_ ?_); omega) | ((with_reducible refine WL.top64 ?_ ?_); omega) | refine WC.seq ?_ | refine WC.block ?_ | refine WC.region ?_ | refine WL.nil ?_ | refine WC.skip ?_ | refine WC.exit ?_ | refine WC.ret ?_ | refine WQ.then rfl ?_ | refine WQ.thenExit ?_ | refine WQ.thenRet ?_ | refine WQ.blk ?_ | refine WQ.blkRet ?_ | refine WQ.blkHere rfl ?_ | refine WQ.blkOther rfl ?_ | refine WL.pure rfl rfl rfl rfl ?_ | refine WL.on rfl rfl ?_ | refine WL.off rfl rfl rfl ?_ | refine WL.load rfl rfl rfl rfl rfl rfl (by assumption) ?_ | refine WC.condTrue rfl ?_ | refine WC.condFalse rfl ?_)
  refine WL.call rfl rfl rfl rfl rfl Try.func36 rfl (by kernel_rfl) (nums25_any (h1.of_below hb2) (h2.of_below hb2)) ?_
  rintro _ w3 ⟨rfl, k3⟩
  refine ⟨_, rfl, ?_⟩
  rw [decide_eq_true (rfl : r.nums = r.nums)]
  have A3 := A.below k3 A.lt
  have B3 := B.below k3 B.lt
  have hb3 : Below w.heap.size w w3 := hb2.trans (k3.mono hb2.size)
  clear a0 a1 a2 b0 b1 b2 A B
  have a3 : w3.cell? ⟨g1, 3, none⟩ = some (.slice sp1 r.rows.length cp1) := A3.cell 3 (by simp [rpC])
  have b3 : w3.cell? ⟨g2, 3, none⟩ = some (.slice sp2 r.rows.length cp2) := B3.cell 3 (by simp [rpC])
  repeat (first | ((with_reducible refine WL.topT ?_ ?_); omega) | ((with_reducible refine WL.topF ?_ ?_); omega) | ((with_reducible refine WL.top64 ?_ ?_); omega) | refine WC.seq ?_ | refine WC.block ?_ | refine WC.region ?_ | refine WL.nil ?_ | refine WC.skip ?_ | refine WC.exit ?_ | refine WC.ret ?_ | refine WQ.then rfl ?_ | refine WQ.thenExit ?_ | refine WQ.thenRet ?_ | refine WQ.blk ?_ | refine WQ.blkRet ?_ | refine WQ.blkHere rfl ?_ | refine WQ.blkOther rfl ?_ | refine WL.pure rfl rfl rfl rfl ?_ | refine WL.on rfl rfl ?_ | refine WL.off rfl rfl rfl ?_ | refine WL.load rfl rfl rfl rfl rfl rfl (by assumption) ?_ | refine WC.condTrue rfl ?_ | refine WC.condFalse rfl ?_)
  refine WL.call rfl rfl rfl rfl rfl Try.func37 rfl (by kernel_rfl) (vals25_any (h3.below hb3) (h4.below hb3)) ?_
  rintro _ w4 ⟨rfl, k4⟩
  refine ⟨_, rfl, ?_⟩
  have A4 := A3.below k4 A3.lt
  have B4 := B3.below k4 B3.lt
  have hb4 : Below w.heap.size w w4 := hb3.trans (k4.mono hb3.size)
  clear a3 b3 A3 B3
  have a4 : w4.cell? ⟨g1, 4, none⟩ = some (.slice sd1 r.data.length cd1) := A4.cell 4 (by simp [rpC])
  have b4 : w4.cell? ⟨g2, 4, none⟩ = some (.slice sd2 r.data.length cd2) := B4.cell 4 (by simp [rpC])
  repeat (first | ((with_reducible refine WL.topT ?_ ?_); omega) | ((with_reducible refine WL.topF ?_ ?_); omega) | ((with_reducible refine WL.top64 ?_ ?_); omega) | refine WC.seq ?_ | refine WC.block ?_ | refine WC.region ?_ | refine WL.nil ?_ | refine WC.skip ?_ | refine WC.exit ?_ | refine WC.ret ?_ | refine WQ.then rfl ?_ | refine WQ.thenExit ?_ | refine WQ.thenRet ?_ | refine WQ.blk ?_ | refine WQ.blkRet ?_ | refine WQ.blkHere rfl ?_ | refine WQ.blkOther rfl ?_ | refine WL.pure rfl rfl rfl rfl ?_ | refine WL.on rfl rfl ?_ | refine WL.off rfl rfl rfl ?_ | refine WL.load rfl rfl rfl rfl rfl rfl (by assumption) ?_ | refine WC.condTrue rfl ?_ | refine WC.condFalse rfl ?_)
  refine WL.call rfl rfl rfl rfl rfl Try.func9 rfl (by kernel_rfl) (same7_any (h5.of_below hb4) (h6.of_below hb4)) ?_
  rintro _ w5 ⟨rfl, k5⟩
  refine ⟨_, rfl, ?_⟩
  rw [decide_eq_true (rfl : r.data = r.data)]
  repeat (first | ((with_reducible refine WL.topT ?_ ?_); omega) | ((with_reducible refine WL.topF ?_ ?_); omega) | ((with_reducible refine WL.top64 ?_ ?_); omega) | refine WC.seq ?_ | refine WC.block ?_ | refine WC.region ?_ | refine WL.nil ?_ | refine WC.skip ?_ | refine WC.exit ?_ | refine WC.ret ?_ | refine WQ.then rfl ?_ | refine WQ.thenExit ?_ | refine WQ.thenRet ?_ | refine WQ.blk ?_ | refine WQ.blkRet ?_ | refine WQ.blkHere rfl ?_ | refine WQ.blkOther rfl ?_ | refine WL.pure rfl rfl rfl rfl ?_ | refine WL.on rfl rfl ?_ | refine WL.off rfl rfl rfl ?_ | refine WC.condTrue rfl ?_ | refine WC.condFalse rfl ?_)
  exact WQ.ret1 rfl rfl ⟨rfl, hb4.trans (k5.mono hb4.size)⟩
set_option maxHeartbeats 2000000 in
theorem wireReplies_law {f : Nat} {w : World} {r : Rp} {nv pv dv : Value} (h : IsRp f w r nv pv dv) (hsm : ∀ x ∈ r.rows, Sml f x) (hln : r.nums.length ≤ 140737488355328) :
    Calls Try.prog 4 #[.int .i64 r.seq, .int .i64 r.err, nv, pv, dv] w fun e w' => e = .returned (.bool true) ∧ Below w.heap.size w w' := by
  obtain ⟨sn, cn, rfl, -⟩ := id h.nums
  obtain ⟨sp, cp, rfl, -⟩ := id h.rows
  obtain ⟨sd, cd, rfl, -⟩ := id h.data
  refine enter (args := [.int .i64 r.seq, .int .i64 r.err, .slice sn r.nums.length cn, .slice sp r.rows.length cp, .slice sd r.data.length cd]) Try.func4 rfl Try.ntmps4 rfl ?_
  repeat (first | ((with_reducible refine WL.topT ?_ ?_); omega) | ((with_reducible refine WL.topF ?_ ?_); omega) | ((with_reducible refine WL.top64 ?_ ?_); omega) | refine WC.seq ?_ | refine WC.block ?_ | refine WC.region ?_ | refine WL.nil ?_ | refine WC.skip ?_ | refine WC.exit ?_ | refine WC.ret ?_ | refine WQ.then rfl ?_ | refine WQ.thenExit ?_ | refine WQ.thenRet ?_ | refine WQ.blk ?_ | refine WQ.blkRet ?_ | refine WQ.blkHere rfl ?_ | refine WQ.blkOther rfl ?_ | refine WL.pure rfl rfl rfl rfl ?_ | refine WL.on rfl rfl ?_ | refine WL.off rfl rfl rfl ?_ | refine WC.condTrue rfl ?_ | refine WC.condFalse rfl ?_)
  refine WL.call rfl rfl rfl rfl rfl Try.func6 rfl (by kernel_rfl) (heavy25_any (n := r.nums.length) h.rows hsm hln) ?_
  rintro _ w2 ⟨hb2, hb, rfl, hfew⟩
  refine ⟨_, rfl, ?_⟩
  cases hb with
  | true =>
    repeat (first | ((with_reducible refine WL.topT ?_ ?_); omega) | ((with_reducible refine WL.topF ?_ ?_); omega) | ((with_reducible refine WL.top64 ?_ ?_); omega) | refine WC.seq ?_ | refine WC.block ?_ | refine WC.region ?_ | refine WL.nil ?_ | refine WC.skip ?_ | refine WC.exit ?_ | refine WC.ret ?_ | refine WQ.then rfl ?_ | refine WQ.thenExit ?_ | refine WQ.thenRet ?_ | refine WQ.blk ?_ | refine WQ.blkRet ?_ | refine WQ.blkHere rfl ?_ | refine WQ.blkOther rfl ?_ | refine WL.pure rfl rfl rfl rfl ?_ | refine WL.on rfl rfl ?_ | refine WL.off rfl rfl rfl ?_ | refine WC.condTrue rfl ?_ | refine WC.condFalse rfl ?_)
    exact WQ.ret1 rfl rfl ⟨rfl, hb2⟩
  | false =>
  replace hfew := hfew rfl
  by_cases ht : 5000 < r.data.length
  · repeat (first | ((with_reducible refine WL.topT ?_ ?_); omega) | ((with_reducible refine WL.topF ?_ ?_); omega) | ((with_reducible refine WL.top64 ?_ ?_); omega) | refine WC.seq ?_ | refine WC.block ?_ | refine WC.region ?_ | refine WL.nil ?_ | refine WC.skip ?_ | refine WC.exit ?_ | refine WC.ret ?_ | refine WQ.then rfl ?_ | refine WQ.thenExit ?_ | refine WQ.thenRet ?_ | refine WQ.blk ?_ | refine WQ.blkRet ?_ | refine WQ.blkHere rfl ?_ | refine WQ.blkOther rfl ?_ | refine WL.pure rfl rfl rfl rfl ?_ | refine WL.on rfl rfl ?_ | refine WL.off rfl rfl rfl ?_ | refine WC.condTrue rfl ?_ | refine WC.condFalse rfl ?_)
    exact WQ.ret1 rfl rfl ⟨rfl, hb2⟩
  repeat (first | ((with_reducible refine WL.topT ?_ ?_); omega) | ((with_reducible refine WL.topF ?_ ?_); omega) | ((with_reducible refine WL.top64 ?_ ?_); omega) | refine WC.seq ?_ | refine WC.block ?_ | refine WC.region ?_ | refine WL.nil ?_ | refine WC.skip ?_ | refine WC.exit ?_ | refine WC.ret ?_ | refine WQ.then rfl ?_ | refine WQ.thenExit ?_ | refine WQ.thenRet ?_ | refine WQ.blk ?_ | refine WQ.blkRet ?_ | refine WQ.blkHere rfl ?_ | refine WQ.blkOther rfl ?_ | refine WL.pure rfl rfl rfl rfl ?_ | refine WL.on rfl rfl ?_ | refine WL.off rfl rfl rfl ?_ | refine WC.condTrue rfl ?_ | refine WC.condFalse rfl ?_)
  refine WL.call rfl rfl rfl rfl rfl Try.func13 rfl (by kernel_rfl) (roomyL_any (h.data.of_below hb2) (by omega)) ?_
  rintro _ w3 ⟨rv, rfl, hrv, k3⟩
  refine ⟨_, rfl, ?_⟩
  have hb3 : Below w.heap.size w w3 := hb2.trans (k3.mono hb2.size)
  clear k3
  obtain ⟨sr, cr, rfl, -⟩ := id hrv
  repeat (first | ((with_reducible refine WL.topT ?_ ?_); omega) | ((with_reducible refine WL.topF ?_ ?_); omega) | ((with_reducible refine WL.top64 ?_ ?_); omega) | refine WC.seq ?_ | refine WC.block ?_ | refine WC.region ?_ | refine WL.nil ?_ | refine WC.skip ?_ | refine WC.exit ?_ | refine WC.ret ?_ | refine WQ.then rfl ?_ | refine WQ.thenExit ?_ | refine WQ.thenRet ?_ | refine WQ.blk ?_ | refine WQ.blkRet ?_ | refine WQ.blkHere rfl ?_ | refine WQ.blkOther rfl ?_ | refine WL.pure rfl rfl rfl rfl ?_ | refine WL.on rfl rfl ?_ | refine WL.off rfl rfl rfl ?_ | refine WC.condTrue rfl ?_ | refine WC.condFalse rfl ?_)
  refine WL.upto rfl rfl rfl rfl rfl rfl rfl (by omega) (by simp only [List.length_append, List.length_singleton]; omega) hrv fun dv2 hdv2 => ?_
  rw [show ((r.data.length : Int)).toNat = r.data.length by omega, List.take_left' rfl] at hdv2
  obtain ⟨sd2, cd2, rfl, -⟩ := id hdv2
  refine WL.build (rpC r (.slice sn r.nums.length cn) (.slice sp r.rows.length cp) (.slice sd2 r.data.length cd2)) rfl rfl rfl rfl rfl (built_rp _ (.inl rfl) r.seq r.err sn sp sd2 _ cn _ cp _ cd2) ?_
  have h3 : IsRp f w3 r (.slice sn r.nums.length cn) (.slice sp r.rows.length cp) (.slice sd2 r.data.length cd2) := ⟨h.nums.of_below hb3, h.r64, h.rows.below hb3, hdv2, h.byt⟩
  refine WL.call rfl rfl rfl rfl rfl Try.func14 rfl (by kernel_rfl) (rpenc_any h3 hfew (by omega)) ?_
  rintro _ w4 ⟨b4, rfl, ap4, q4⟩
  refine ⟨_, rfl, ?_⟩
  have hrv4 := hrv.of_below ap4.below
  have hb4 : Below w.heap.size w w4 := hb3.trans (ap4.below.mono hb3.size)
  clear ap4 h3 hdv2 hrv
  repeat (first | ((with_reducible refine WL.topT ?_ ?_); omega) | ((with_reducible refine WL.topF ?_ ?_); omega) | ((with_reducible refine WL.top64 ?_ ?_); omega) | refine WC.seq ?_ | refine WC.block ?_ | refine WC.region ?_ | refine WL.nil ?_ | refine WC.skip ?_ | refine WC.exit ?_ | refine WC.ret ?_ | refine WQ.then rfl ?_ | refine WQ.thenExit ?_ | refine WQ.thenRet ?_ | refine WQ.blk ?_ | refine WQ.blkRet ?_ | refine WQ.blkHere rfl ?_ | refine WQ.blkOther rfl ?_ | refine WL.pure rfl rfl rfl rfl ?_ | refine WL.on rfl rfl ?_ | refine WL.off rfl rfl rfl ?_ | refine WC.condTrue rfl ?_ | refine WC.condFalse rfl ?_)
  refine WL.build (rpC r (.slice sn r.nums.length cn) (.slice sp r.rows.length cp) (.slice sd r.data.length cd)) rfl rfl rfl rfl rfl (built_rp _ (.inr rfl) r.seq r.err sn sp sd _ cn _ cp _ cd) ?_
  refine WL.alloc (z := .agg zRep.toArray) rfl rfl rfl rfl (fun _ => by kernel_rfl) fun gx w5 hf0 => ?_
  have hf5 : Fresh w4 gx w5 46 zRep := hf0
  clear hf0
  have hones : Ones (rpC r (.slice sn r.nums.length cn) (.slice sp r.rows.length cp) (.slice sd r.data.length cd)) := by
    intro u hu
    unfold rpC at hu
    simp only [List.mem_cons, List.not_mem_nil, or_false] at hu
    rcases hu with rfl | rfl | rfl | rfl | rfl <;> rfl
  repeat (first | ((with_reducible refine WL.topT ?_ ?_); omega) | ((with_reducible refine WL.topF ?_ ?_); omega) | ((with_reducible refine WL.top64 ?_ ?_); omega) | refine WC.seq ?_ | refine WC.block ?_ | refine WC.region ?_ | refine WL.nil ?_ | refine WC.skip ?_ | refine WC.exit ?_ | refine WC.ret ?_ | refine WQ.then rfl ?_ | refine WQ.thenExit ?_ | refine WQ.thenRet ?_ | refine WQ.blk ?_ | refine WQ.blkRet ?_ | refine WQ.blkHere rfl ?_ | refine WQ.blkOther rfl ?_ | refine WL.pure rfl rfl rfl rfl ?_ | refine WL.on rfl rfl ?_ | refine WL.off rfl rfl rfl ?_ | refine WC.condTrue rfl ?_ | refine WC.condFalse rfl ?_)
  refine WL.storeRow rfl rfl rfl rfl rfl rfl hf5.blk rfl (by rfl) hones ?_
  have k6 : Below w4.heap.size w4 (w5.setRow gx (rpC r (.slice sn r.nums.length cn) (.slice sp r.rows.length cp) (.slice sd r.data.length cd)).toArray) := below_setRow hf5.below (by rw [hf5.eq]; exact Nat.le_refl _) _
  have X6 := hf5.blk.setRow (rpC r (.slice sn r.nums.length cn) (.slice sp r.rows.length cp) (.slice sd r.data.length cd))
  clear hf5
  generalize w5.setRow gx (rpC r (.slice sn r.nums.length cn) (.slice sp r.rows.length cp) (.slice sd r.data.length cd)).toArray = w6 at k6 X6 ⊢
  have q6 := q4.below k6
  have hrv6 := hrv4.of_below k6
  have hb6 : Below w.heap.size w w6 := hb4.trans (k6.mono hb4.size)
  have h6 : IsRp f w6 r (.slice sn r.nums.length cn) (.slice sp r.rows.length cp) (.slice sd r.data.length cd) := ⟨h.nums.of_below hb6, h.r64, h.rows.below hb6, h.data.of_below hb6, h.byt⟩
  clear k6 q4 hrv4
  repeat (first | ((with_reducible refine WL.topT ?_ ?_); omega) | ((with_reducible refine WL.topF ?_ ?_); omega) | ((with_reducible refine WL.top64 ?_ ?_); omega) | refine WC.seq ?_ | refine WC.block ?_ | refine WC.region ?_ | refine WL.nil ?_ | refine WC.skip ?_ | refine WC.exit ?_ | refine WC.ret ?_ | refine WQ.then rfl ?_ | refine WQ.thenExit ?_ | refine WQ.thenRet ?_ | refine WQ.blk ?_ | refine WQ.blkRet ?_ | refine WQ.blkHere rfl ?_ | refine WQ.blkOther rfl ?_ | refine WL.pure rfl rfl rfl rfl ?_ | refine WL.on rfl rfl ?_ | refine WL.off rfl rfl rfl ?_ | refine WC.condTrue rfl ?_ | refine WC.condFalse rfl ?_)
  refine WL.loadMid rfl rfl rfl rfl rfl rfl (VBlk.rangeAt X6) rfl ?_
  refine WL.call rfl rfl rfl rfl rfl Try.func15 rfl (by kernel_rfl) (rrpenc_any h6 hfew (by omega)) ?_
  rintro _ w7 ⟨b7, rfl, ap7, q7⟩
  refine ⟨_, rfl, ?_⟩
  have X7 := X6.below ap7.below X6.lt
  have q67 := q6.below ap7.below
  have hrv7 := hrv6.of_below ap7.below
  have hb7 : Below w.heap.size w w7 := hb6.trans (ap7.below.mono hb6.size)
  clear ap7 h6 X6 q6 hrv6
  repeat (first | ((with_reducible refine WL.topT ?_ ?_); omega) | ((with_reducible refine WL.topF ?_ ?_); omega) | ((with_reducible refine WL.top64 ?_ ?_); omega) | refine WC.seq ?_ | refine WC.block ?_ | refine WC.region ?_ | refine WL.nil ?_ | refine WC.skip ?_ | refine WC.exit ?_ | refine WC.ret ?_ | refine WQ.then rfl ?_ | refine WQ.thenExit ?_ | refine WQ.thenRet ?_ | refine WQ.blk ?_ | refine WQ.blkRet ?_ | refine WQ.blkHere rfl ?_ | refine WQ.blkOther rfl ?_ | refine WL.pure rfl rfl rfl rfl ?_ | refine WL.on rfl rfl ?_ | refine WL.off rfl rfl rfl ?_ | refine WC.condTrue rfl ?_ | refine WC.condFalse rfl ?_)
  refine WL.call rfl rfl rfl rfl rfl Try.func9 rfl (by kernel_rfl) (same7_any q67.sl q7.sl) ?_
  rintro _ w8 ⟨rfl, k8⟩
  refine ⟨_, rfl, ?_⟩
  rw [decide_eq_true rfl]
  have X8 := X7.below k8 X7.lt
  have q8 := q67.below k8
  have hrv8 := hrv7.of_below k8
  have hb8 : Below w.heap.size w w8 := hb7.trans (k8.mono hb7.size)
  clear q7 q67 X7 k8 hrv7
  repeat (first | ((with_reducible refine WL.topT ?_ ?_); omega) | ((with_reducible refine WL.topF ?_ ?_); omega) | ((with_reducible refine WL.top64 ?_ ?_); omega) | refine WC.seq ?_ | refine WC.block ?_ | refine WC.region ?_ | refine WL.nil ?_ | refine WC.skip ?_ | refine WC.exit ?_ | refine WC.ret ?_ | refine WQ.then rfl ?_ | refine WQ.thenExit ?_ | refine WQ.thenRet ?_ | refine WQ.blk ?_ | refine WQ.blkRet ?_ | refine WQ.blkHere rfl ?_ | refine WQ.blkOther rfl ?_ | refine WL.pure rfl rfl rfl rfl ?_ | refine WL.on rfl rfl ?_ | refine WL.off rfl rfl rfl ?_ | refine WC.condTrue rfl ?_ | refine WC.condFalse rfl ?_)
  refine WL.call rfl rfl rfl rfl rfl Try.func16 rfl (by kernel_rfl) (standsL_any hrv8 (h.data.of_below hb8) (by omega)) ?_
  rintro _ w9 ⟨rfl, k9⟩
  refine ⟨_, rfl, ?_⟩
  have X9 := X8.below k9 X8.lt
  have q9 := q8.below k9
  have hb9 : Below w.heap.size w w9 := hb8.trans (k9.mono hb8.size)
  have h9 : IsRp f w9 r (.slice sn r.nums.length cn) (.slice sp r.rows.length cp) (.slice sd r.data.length cd) := ⟨h.nums.of_below hb9, h.r64, h.rows.below hb9, h.data.of_below hb9, h.byt⟩
  clear X8 q8 hrv8 k9
  by_cases he : rpE r ≠ 0
  · generalize rpE r = E at he ⊢
    repeat (first | ((with_reducible refine WL.topT ?_ ?_); omega) | ((with_reducible refine WL.topF ?_ ?_); omega) | ((with_reducible refine WL.top64 ?_ ?_); omega) | refine WC.seq ?_ | refine WC.block ?_ | refine WC.region ?_ | refine WL.nil ?_ | refine WC.skip ?_ | refine WC.exit ?_ | refine WC.ret ?_ | refine WQ.then rfl ?_ | refine WQ.thenExit ?_ | refine WQ.thenRet ?_ | refine WQ.blk ?_ | refine WQ.blkRet ?_ | refine WQ.blkHere rfl ?_ | refine WQ.blkOther rfl ?_ | refine WL.pure rfl rfl rfl rfl ?_ | refine WL.on rfl rfl ?_ | refine WL.off rfl rfl rfl ?_ | refine WC.condTrue rfl ?_ | refine WC.condFalse rfl ?_)
    refine WL.call rfl rfl rfl rfl rfl Try.func10 rfl (by kernel_rfl) (known_any w9) ?_
    rintro _ w10 ⟨rfl, k10⟩
    refine ⟨_, rfl, ?_⟩
    repeat (first | ((with_reducible refine WL.topT ?_ ?_); omega) | ((with_reducible refine WL.topF ?_ ?_); omega) | ((with_reducible refine WL.top64 ?_ ?_); omega) | refine WC.seq ?_ | refine WC.block ?_ | refine WC.region ?_ | refine WL.nil ?_ | refine WC.skip ?_ | refine WC.exit ?_ | refine WC.ret ?_ | refine WQ.then rfl ?_ | refine WQ.thenExit ?_ | refine WQ.thenRet ?_ | refine WQ.blk ?_ | refine WQ.blkRet ?_ | refine WQ.blkHere rfl ?_ | refine WQ.blkOther rfl ?_ | refine WL.pure rfl rfl rfl rfl ?_ | refine WL.on rfl rfl ?_ | refine WL.off rfl rfl rfl ?_ | refine WC.condTrue rfl ?_ | refine WC.condFalse rfl ?_)
    exact WQ.ret1 rfl rfl ⟨rfl, hb9.trans (k10.mono hb9.size)⟩
  replace he : rpE r = 0 := by omega
  have hok := rpOk_of h9 hfew (by omega) he
  rw [if_pos he] at q9
  rw [he]
  repeat (first | ((with_reducible refine WL.topT ?_ ?_); omega) | ((with_reducible refine WL.topF ?_ ?_); omega) | ((with_reducible refine WL.top64 ?_ ?_); omega) | refine WC.seq ?_ | refine WC.block ?_ | refine WC.region ?_ | refine WL.nil ?_ | refine WC.skip ?_ | refine WC.exit ?_ | refine WC.ret ?_ | refine WQ.then rfl ?_ | refine WQ.thenExit ?_ | refine WQ.thenRet ?_ | refine WQ.blk ?_ | refine WQ.blkRet ?_ | refine WQ.blkHere rfl ?_ | refine WQ.blkOther rfl ?_ | refine WL.pure rfl rfl rfl rfl ?_ | refine WL.on rfl rfl ?_ | refine WL.off rfl rfl rfl ?_ | refine WC.condTrue rfl ?_ | refine WC.condFalse rfl ?_)
  refine WL.call rfl rfl rfl rfl rfl Try.func17 rfl (by kernel_rfl) (wdecR_ok hok q9.sl) ?_
  rintro _ w10 ⟨nv2, pv2, dv2, rfl, k10, hn10, hp10, hd10⟩
  refine ⟨_, rfl, ?_⟩
  have X10 := X9.below k10 X9.lt
  have hb10 : Below w.heap.size w w10 := hb9.trans (k10.mono hb9.size)
  clear q9 X9 k10 h9
  obtain ⟨sn2, cn2, rfl, -⟩ := id hn10
  obtain ⟨sp2, cp2, rfl, -⟩ := id hp10
  obtain ⟨sd3, cd3, rfl, -⟩ := id hd10
  repeat (first | ((with_reducible refine WL.topT ?_ ?_); omega) | ((with_reducible refine WL.topF ?_ ?_); omega) | ((with_reducible refine WL.top64 ?_ ?_); omega) | refine WC.seq ?_ | refine WC.block ?_ | refine WC.region ?_ | refine WL.nil ?_ | refine WC.skip ?_ | refine WC.exit ?_ | refine WC.ret ?_ | refine WQ.then rfl ?_ | refine WQ.thenExit ?_ | refine WQ.thenRet ?_ | refine WQ.blk ?_ | refine WQ.blkRet ?_ | refine WQ.blkHere rfl ?_ | refine WQ.blkOther rfl ?_ | refine WL.pure rfl rfl rfl rfl ?_ | refine WL.on rfl rfl ?_ | refine WL.off rfl rfl rfl ?_ | refine WC.condTrue rfl ?_ | refine WC.condFalse rfl ?_)
  refine WL.alloc (z := .agg zRep.toArray) rfl rfl rfl rfl (fun _ => by kernel_rfl) fun g11 w11 hf0 => ?_
  have hf11 : Fresh w10 g11 w11 45 zRep := hf0
  clear hf0
  have hones' : Ones (rpC r (.slice sn2 r.nums.length cn2) (.slice sp2 r.rows.length cp2) (.slice sd3 r.data.length cd3)) := by
    intro u hu
    unfold rpC at hu
    simp only [List.mem_cons, List.not_mem_nil, or_false] at hu
    rcases hu with rfl | rfl | rfl | rfl | rfl <;> rfl
  repeat (first | ((with_reducible refine WL.topT ?_ ?_); omega) | ((with_reducible refine WL.topF ?_ ?_); omega) | ((with_reducible refine WL.top64 ?_ ?_); omega) | refine WC.seq ?_ | refine WC.block ?_ | refine WC.region ?_ | refine WL.nil ?_ | refine WC.skip ?_ | refine WC.exit ?_ | refine WC.ret ?_ | refine WQ.then rfl ?_ | refine WQ.thenExit ?_ | refine WQ.thenRet ?_ | refine WQ.blk ?_ | refine WQ.blkRet ?_ | refine WQ.blkHere rfl ?_ | refine WQ.blkOther rfl ?_ | refine WL.pure rfl rfl rfl rfl ?_ | refine WL.on rfl rfl ?_ | refine WL.off rfl rfl rfl ?_ | refine WC.condTrue rfl ?_ | refine WC.condFalse rfl ?_)
  refine WL.storeRow rfl rfl rfl rfl rfl rfl hf11.blk rfl (by rfl) hones' ?_
  have k12 : Below w10.heap.size w10 (w11.setRow g11 (rpC r (.slice sn2 r.nums.length cn2) (.slice sp2 r.rows.length cp2) (.slice sd3 r.data.length cd3)).toArray) := below_setRow hf11.below (by rw [hf11.eq]; exact Nat.le_refl _) _
  have Y12 := hf11.blk.setRow (rpC r (.slice sn2 r.nums.length cn2) (.slice sp2 r.rows.length cp2) (.slice sd3 r.data.length cd3))
  clear hf11
  generalize w11.setRow g11 (rpC r (.slice sn2 r.nums.length cn2) (.slice sp2 r.rows.length cp2) (.slice sd3 r.data.length cd3)).toArray = w12 at k12 Y12 ⊢
  have X12 := X10.below k12 X10.lt
  have hb12 : Below w.heap.size w w12 := hb10.trans (k12.mono hb10.size)
  repeat (first | ((with_reducible refine WL.topT ?_ ?_); omega) | ((with_reducible refine WL.topF ?_ ?_); omega) | ((with_reducible refine WL.top64 ?_ ?_); omega) | refine WC.seq ?_ | refine WC.block ?_ | refine WC.region ?_ | refine WL.nil ?_ | refine WC.skip ?_ | refine WC.exit ?_ | refine WC.ret ?_ | refine WQ.then rfl ?_ | refine WQ.thenExit ?_ | refine WQ.thenRet ?_ | refine WQ.blk ?_ | refine WQ.blkRet ?_ | refine WQ.blkHere rfl ?_ | refine WQ.blkOther rfl ?_ | refine WL.pure rfl rfl rfl rfl ?_ | refine WL.on rfl rfl ?_ | refine WL.off rfl rfl rfl ?_ | refine WC.condTrue rfl ?_ | refine WC.condFalse rfl ?_)
  refine WL.loadMid rfl rfl rfl rfl rfl rfl (VBlk.rangeAt Y12) rfl ?_
  repeat (first | ((with_reducible refine WL.topT ?_ ?_); omega) | ((with_reducible refine WL.topF ?_ ?_); omega) | ((with_reducible refine WL.top64 ?_ ?_); omega) | refine WC.seq ?_ | refine WC.block ?_ | refine WC.region ?_ | refine WL.nil ?_ | refine WC.skip ?_ | refine WC.exit ?_ | refine WC.ret ?_ | refine WQ.then rfl ?_ | refine WQ.thenExit ?_ | refine WQ.thenRet ?_ | refine WQ.blk ?_ | refine WQ.blkRet ?_ | refine WQ.blkHere rfl ?_ | refine WQ.blkOther rfl ?_ | refine WL.pure rfl rfl rfl rfl ?_ | refine WL.on rfl rfl ?_ | refine WL.off rfl rfl rfl ?_ | refine WC.condTrue rfl ?_ | refine WC.condFalse rfl ?_)
  refine WL.loadMid rfl rfl rfl rfl rfl rfl (VBlk.rangeAt X12) rfl ?_
  repeat (first | ((with_reducible refine WL.topT ?_ ?_); omega) | ((with_reducible refine WL.topF ?_ ?_); omega) | ((with_reducible refine WL.top64 ?_ ?_); omega) | refine WC.seq ?_ | refine WC.block ?_ | refine WC.region ?_ | refine WL.nil ?_ | refine WC.skip ?_ | refine WC.exit ?_ | refine WC.ret ?_ | refine WQ.then rfl ?_ | refine WQ.thenExit ?_ | refine WQ.thenRet ?_ | refine WQ.blk ?_ | refine WQ.blkRet ?_ | refine WQ.blkHere rfl ?_ | refine WQ.blkOther rfl ?_ | refine WL.pure rfl rfl rfl rfl ?_ | refine WL.on rfl rfl ?_ | refine WL.off rfl rfl rfl ?_ | refine WC.condTrue rfl ?_ | refine WC.condFalse rfl ?_)
  refine WL.call rfl rfl rfl rfl rfl Try.func18 rfl (by kernel_rfl) (replies_any (hn10.of_below k12) (h.nums.of_below hb12) (hp10.below k12) (h.rows.below hb12) (hd10.of_below k12) (h.data.of_below hb12)) ?_
  rintro _ w13 ⟨rfl, k13⟩
  refine ⟨_, rfl, ?_⟩
  have hb13 : Below w.heap.size w w13 := hb12.trans (k13.mono hb12.size)
  repeat (first | ((with_reducible refine WL.topT ?_ ?_); omega) | ((with_reducible refine WL.topF ?_ ?_); omega) | ((with_reducible refine WL.top64 ?_ ?_); omega) | refine WC.seq ?_ | refine WC.block ?_ | refine WC.region ?_ | refine WL.nil ?_ | refine WC.skip ?_ | refine WC.exit ?_ | refine WC.ret ?_ | refine WQ.then rfl ?_ | refine WQ.thenExit ?_ | refine WQ.thenRet ?_ | refine WQ.blk ?_ | refine WQ.blkRet ?_ | refine WQ.blkHere rfl ?_ | refine WQ.blkOther rfl ?_ | refine WL.pure rfl rfl rfl rfl ?_ | refine WL.on rfl rfl ?_ | refine WL.off rfl rfl rfl ?_ | refine WC.condTrue rfl ?_ | refine WC.condFalse rfl ?_)
  refine WL.call rfl rfl rfl rfl rfl Try.func10 rfl (by kernel_rfl) (known_any w13) ?_
  rintro _ w14 ⟨rfl, k14⟩
  refine ⟨_, rfl, ?_⟩
  repeat (first | ((with_reducible refine WL.topT ?_ ?_); omega) | ((with_reducible refine WL.topF ?_ ?_); omega) | ((with_reducible refine WL.top64 ?_ ?_); omega) | refine WC.seq ?_ | refine WC.block ?_ | refine WC.region ?_ | refine WL.nil ?_ | refine WC.skip ?_ | refine WC.exit ?_ | refine WC.ret ?_ | refine WQ.then rfl ?_ | refine WQ.thenExit ?_ | refine WQ.thenRet ?_ | refine WQ.blk ?_ | refine WQ.blkRet ?_ | refine WQ.blkHere rfl ?_ | refine WQ.blkOther rfl ?_ | refine WL.pure rfl rfl rfl rfl ?_ | refine WL.on rfl rfl ?_ | refine WL.off rfl rfl rfl ?_ | refine WC.condTrue rfl ?_ | refine WC.condFalse rfl ?_)
  exact WQ.ret1 rfl rfl ⟨rfl, hb13.trans (k14.mono hb13.size)⟩
end K
end Go.Proofs.Ytdkkaliiofcflaa

/-
  For every reply the law WireReplies answers true, and the arguments read as they did. No condition.
-/
namespace Go.Proofs.Ytdkkaliiofcflaa.wireReplies
open Go.ChangeShapes Go.WideShapes Go.ChangeAt Go.RowKit
open Go.ChangeMaps (open_string shut_string)
open Go.Proofs.Ytdkkaliiofcflaa

set_option maxRecDepth 100000 in
theorem lifted (os : Os) (started : os.Started) (H : Type) (enc : TypeId × Value → H) :
    ReturnsInHanded {} Try.checked os 4 .any (Rows.wireRepliesSpec.pre6 enc Try.prog Try.f4 Rows.wireRepliesRow.domain false) (Rows.wireRepliesSpec.post enc Try.prog Try.f4 false true false false) := by
  refine returnsInHanded_of_change_sized (C := Try.checked) Try.ownKnob started (by kernel_rfl) Try.func4
    (ChangeSpec.witness6 (enc := enc) (C := Try.checked) false ⟨#[], #[.int .i64 0, .int .i64 0, .slice none 0 0, .slice none 0 0, .slice none 0 0], []⟩ 8 (by kernel_rfl) (by kernel_rfl) (by kernel_rfl) (by kernel_rfl)) ?_
  intro W base args ds gs before hval0 hW hcnd hsz _
  have hval : ∀ (j : Nat) t v, Try.f4.params[j]? = some t → args[j]? = some v → Value.okWide Try.prog W .any base t v := hval0
  have hW' := hW
  obtain ⟨p, q, hA0, hV, rfl, hfz, hnd⟩ := hW
  have hA : DataW.TrodAll enc Try.prog W 0 (fun _ => true) true Try.f4.params.toList args.toList ds p := hA0
  rw [Try.params4] at hA hval
  obtain ⟨v0, vs0, d0, ds0, p0, q0, hargs, rfl, rfl, h0, r0⟩ := trodAll_cons hA
  obtain ⟨v1, vs1, d1, ds1, p1, q1, rfl, rfl, rfl, h1, r1⟩ := trodAll_cons r0
  obtain ⟨v2, vs2, d2, ds2, p2, q2, rfl, rfl, rfl, h2, r2⟩ := trodAll_cons r1
  obtain ⟨v3, vs3, d3, ds3, p3, q3, rfl, rfl, rfl, h3, r3⟩ := trodAll_cons r2
  obtain ⟨v4, vs4, d4, ds4, p4, q4, rfl, rfl, rfl, h4, r4⟩ := trodAll_cons r3
  obtain ⟨rfl, rfl, rfl⟩ := trodAll_nil r4
  obtain rfl : args = #[v0, v1, v2, v3, v4] := by cases args; simp_all
  obtain ⟨rfl, rfl⟩ := trodVars_none hV
  have k0 := h0
  have lt0 : ∀ x ∈ p0, x.block < W.heap.size := by obtain ⟨m, hm⟩ := k0; exact DataW.trod_lt m _ _ _ hm
  obtain ⟨x0, rfl, -, -, wx0⟩ := open_int Try.underlying3 (hval 0 3 v0 rfl rfl) h0
  have k1 := h1
  have lt1 : ∀ x ∈ p1, x.block < W.heap.size := by obtain ⟨m, hm⟩ := k1; exact DataW.trod_lt m _ _ _ hm
  obtain ⟨x1, rfl, -, -, wx1⟩ := open_int Try.underlying3 (hval 1 3 v1 rfl rfl) h1
  have k2 := h2
  have lt2 : ∀ x ∈ p2, x.block < W.heap.size := by obtain ⟨m, hm⟩ := k2; exact DataW.trod_lt m _ _ _ hm
  obtain ⟨l2, sl2, by2, ln2⟩ := K.open_intsW (hval 2 22 v2 rfl rfl) h2 (fun n hn => by have := List.all_eq_true.1 hsz n (DataW.weights_mem_each (j := 2) rfl rfl n hn); simpa using this)
  have k3 := h3
  have lt3 : ∀ x ∈ p3, x.block < W.heap.size := by obtain ⟨m, hm⟩ := k3; exact DataW.trod_lt m _ _ _ hm
  obtain ⟨f3, l3, iv3, sm3, ln3⟩ := K.open_vals (hval 3 23 v3 rfl rfl) h3 (fun n hn => by have := List.all_eq_true.1 hsz n (DataW.weights_mem_each (j := 3) rfl rfl n hn); simpa using this)
  have k4 := h4
  have lt4 : ∀ x ∈ p4, x.block < W.heap.size := by obtain ⟨m, hm⟩ := k4; exact DataW.trod_lt m _ _ _ hm
  obtain ⟨l4, sl4, by4, ln4⟩ := K.open_bytes (hval 4 27 v4 rfl rfl) h4 (fun n hn => by have := List.all_eq_true.1 hsz n (DataW.weights_mem_each (j := 4) rfl rfl n hn); simpa using this)
  clear hA0 hval0
  refine (K.wireReplies_law (f := f3) (r := ⟨x0, x1, l2, l3, l4⟩) ⟨sl2, by2, iv3, sl4, by4⟩ sm3 ln2).mono fun e W' ⟨he, bel⟩ => ?_
  subst he
  exact ⟨_, rfl, _, _, _, [], _, [], hW', trodAll_mk1 (shut_bool Try.underlying4 _), (trodAll_cons_mk (Below.trod Try.laid (by kernel_rfl) (of_decide_eq_true (by kernel_rfl)) k0 bel lt0) (trodAll_cons_mk (Below.trod Try.laid (by kernel_rfl) (of_decide_eq_true (by kernel_rfl)) k1 bel lt1) (trodAll_cons_mk (Below.trod Try.laid (by kernel_rfl) (of_decide_eq_true (by kernel_rfl)) k2 bel lt2) (trodAll_cons_mk (Below.trod Try.laid (by kernel_rfl) (of_decide_eq_true (by kernel_rfl)) k3 bel lt3) (trodAll_cons_mk (Below.trod Try.laid (by kernel_rfl) (of_decide_eq_true (by kernel_rfl)) k4 bel lt4) trodAll_mk0))))), rfl, bel.frame _, fun h => by cases h⟩

theorem over : Rows.wireRepliesRow.holds Try.pinned (OpenSpec.ofChange Rows.wireRepliesSpec) :=
  OpenClaim.holds_of_wide 4 Try.f4 rfl rfl rfl rfl rfl rfl rfl ⟨rfl, rfl, rfl, rfl, rfl⟩ rfl rfl rfl rfl rfl (by kernel_rfl) Try.func4 (by kernel_rfl)
    (of_decide_eq_true (by kernel_rfl)) (by unfold Func.isWrapper; first | (rw [if_pos (by decide +kernel)]; kernel_rfl) | (rw [if_neg (by decide +kernel)]; exact ⟨rfl, rfl⟩))
    (fun os started H enc _ => lifted os started H enc)

/-- The statement. -/
theorem proved : Rows.WireRepliesSaid := over
end Go.Proofs.Ytdkkaliiofcflaa.wireReplies
