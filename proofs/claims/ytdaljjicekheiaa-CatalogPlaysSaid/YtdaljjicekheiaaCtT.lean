/- The catalog's law: a table, in both. -/
import Derived.Test.YtdaljjicekheiaaCrB
namespace Go.Proofs.Ytdaljjicekheiaa
open Go.RowKit
namespace Cr
open K Cat
abbrev cbT : Nat := 45
abbrev ixT : Nat := 62
set_option maxHeartbeats 2000000 in
theorem tables_any {w : World} {a : Int} {t : Tb} {O1 O2 : Nat → Prop} {v1 v2 : Value} (h1 : OwnV ixT 1 w O1 v1 t.fs.length (t.fs.map Value.string)) (h2 : OwnV stT 1 w O2 v2 t.fs.length (t.fs.map Value.string)) :
    Calls Try.prog 17 #[.agg #[.int .i64 a, .string t.name, .bool t.dropped, v1], .agg #[.int .i64 a, .string t.name, .bool t.dropped, v2]] w fun e w' => e = .returned (.bool true) ∧ Below w.heap.size w w' := by
  obtain ⟨sp1, cap1, rfl, -, -⟩ := h1.slice
  obtain ⟨sp2, cap2, rfl, q2, q3⟩ := h2.slice
  refine enter (args := [.agg #[.int .i64 a, .string t.name, .bool t.dropped, .slice sp1 t.fs.length cap1], .agg #[.int .i64 a, .string t.name, .bool t.dropped, .slice sp2 t.fs.length cap2]]) Try.func17 rfl Try.ntmps17 rfl ?_
  repeat (first | refine WC.seq ?_ | refine WC.block ?_ | refine WC.region ?_ | refine WL.nil ?_ | refine WC.skip ?_ | refine WC.exit ?_ | refine WC.ret ?_ | refine WQ.then rfl ?_ | refine WQ.thenExit ?_ | refine WQ.thenRet ?_ | refine WQ.blk ?_ | refine WQ.blkRet ?_ | refine WQ.blkHere rfl ?_ | refine WQ.blkOther rfl ?_)
  refine WL.box rfl rfl rfl rfl rfl fun g2 w1 f1 => ?_
  refine WL.box rfl rfl rfl rfl rfl fun g3 w2 f2 => ?_
  have b1 := f1.below
  have b2 : Below w.heap.size w w2 := b1.trans (f2.below.mono b1.size)
  have va : VBlk cbT w2 g2 [.int .i64 a, .string t.name, .bool t.dropped, .slice sp1 t.fs.length cap1] := VBlk.below f1.blk f2.below f1.blk.lt
  have vb : VBlk rtT w2 g3 [.int .i64 a, .string t.name, .bool t.dropped, .slice sp2 t.fs.length cap2] := f2.blk
  have o1 := h1.keep (Keep.of_below b2) (fun g hg => h1.lt hg)
  have o2 := h2.keep (Keep.of_below b2) (fun g hg => h2.lt hg)
  have c20 := va.cell 0 (by simp)
  have c21 := va.cell 1 (by simp)
  have c22 := va.cell 2 (by simp)
  have c23 := va.cell 3 (by simp)
  have c30 := vb.cell 0 (by simp)
  have c31 := vb.cell 1 (by simp)
  have c32 := vb.cell 2 (by simp)
  have c33 := vb.cell 3 (by simp)
  simp only [List.getD_cons_succ, List.getD_cons_zero] at c20 c21 c22 c23 c30 c31 c32 c33
  have l2 := va.lt
  have l3 := vb.lt
  clear f1 f2 va vb h1 h2
  have dd : ∀ d : Bool, (!(d == d)) = false := by decide
  repeat (first | ((with_reducible refine WL.topT ?_ ?_); omega) | ((with_reducible refine WL.topF ?_ ?_); omega) | ((with_reducible refine WL.top64 ?_ ?_); omega) | refine WC.seq ?_ | refine WC.block ?_ | refine WC.region ?_ | refine WL.nil ?_ | refine WC.skip ?_ | refine WC.exit ?_ | refine WC.ret ?_ | refine WQ.then rfl ?_ | refine WQ.thenExit ?_ | refine WQ.thenRet ?_ | refine WQ.blk ?_ | refine WQ.blkRet ?_ | refine WQ.blkHere rfl ?_ | refine WQ.blkOther rfl ?_ | refine WL.pure rfl rfl rfl rfl ?_ | refine WL.on rfl rfl ?_ | refine WL.off rfl rfl rfl ?_ | refine WL.load rfl rfl rfl rfl rfl rfl (by assumption) ?_ | refine WC.condTrue rfl ?_ | refine WC.condFalse rfl ?_)
  refine WL.as 18 (.bool false) rfl (congrArg Value.bool (by simp)) ?_
  repeat (first | ((with_reducible refine WL.topT ?_ ?_); omega) | ((with_reducible refine WL.topF ?_ ?_); omega) | ((with_reducible refine WL.top64 ?_ ?_); omega) | refine WC.seq ?_ | refine WC.block ?_ | refine WC.region ?_ | refine WL.nil ?_ | refine WC.skip ?_ | refine WC.exit ?_ | refine WC.ret ?_ | refine WQ.then rfl ?_ | refine WQ.thenExit ?_ | refine WQ.thenRet ?_ | refine WQ.blk ?_ | refine WQ.blkRet ?_ | refine WQ.blkHere rfl ?_ | refine WQ.blkOther rfl ?_ | refine WL.pure rfl rfl rfl rfl ?_ | refine WL.on rfl rfl ?_ | refine WL.off rfl rfl rfl ?_ | refine WL.load rfl rfl rfl rfl rfl rfl (by assumption) ?_ | refine WC.condTrue rfl ?_ | refine WC.condFalse rfl ?_)
  refine WL.as 25 (.bool false) rfl (congrArg Value.bool (dd _)) ?_
  repeat (first | ((with_reducible refine WL.topT ?_ ?_); omega) | ((with_reducible refine WL.topF ?_ ?_); omega) | ((with_reducible refine WL.top64 ?_ ?_); omega) | refine WC.seq ?_ | refine WC.block ?_ | refine WC.region ?_ | refine WL.nil ?_ | refine WC.skip ?_ | refine WC.exit ?_ | refine WC.ret ?_ | refine WQ.then rfl ?_ | refine WQ.thenExit ?_ | refine WQ.thenRet ?_ | refine WQ.blk ?_ | refine WQ.blkRet ?_ | refine WQ.blkHere rfl ?_ | refine WQ.blkOther rfl ?_ | refine WL.pure rfl rfl rfl rfl ?_ | refine WL.on rfl rfl ?_ | refine WL.off rfl rfl rfl ?_ | refine WL.load rfl rfl rfl rfl rfl rfl (by assumption) ?_ | refine WC.condTrue rfl ?_ | refine WC.condFalse rfl ?_)
  refine WC.loop (fun i : Nat => [(2, .pointer (some ⟨g2, 0, none⟩)), (3, .pointer (some ⟨g3, 0, none⟩)), (5, .int .i64 i)]) (fun i w' => i ≤ t.fs.length ∧ Below w2.heap.size w2 w') (fun i => t.fs.length - i) 0 ⟨rfl, rfl, rfl, trivial⟩ ⟨Nat.zero_le _, Below.refl _ _⟩ ?_
  rintro i w3 ⟨hi, b3⟩
  have e3 := (b3.cell (p := ⟨g3, 3, none⟩) l3).trans c33
  by_cases hlt : i < t.fs.length
  · obtain ⟨ga, ca, es, x1⟩ := own_str o1 hlt
    obtain ⟨rfl, rfl⟩ : sp1 = some ⟨ga, 0, none⟩ ∧ cap1 = ca := by simpa using es
    obtain ⟨gb, cb, es, x2⟩ := own_str o2 hlt
    obtain ⟨rfl, rfl⟩ : sp2 = some ⟨gb, 0, none⟩ ∧ cap2 = cb := by simpa using es
    clear es
    have la : ga < w2.heap.size := o1.lt rfl
    have lb : gb < w2.heap.size := o2.lt rfl
    repeat (first | ((with_reducible refine WL.topT ?_ ?_); omega) | ((with_reducible refine WL.topF ?_ ?_); omega) | ((with_reducible refine WL.top64 ?_ ?_); omega) | refine WC.seq ?_ | refine WC.block ?_ | refine WC.region ?_ | refine WL.nil ?_ | refine WC.skip ?_ | refine WC.exit ?_ | refine WC.ret ?_ | refine WQ.then rfl ?_ | refine WQ.thenExit ?_ | refine WQ.thenRet ?_ | refine WQ.blk ?_ | refine WQ.blkRet ?_ | refine WQ.blkHere rfl ?_ | refine WQ.blkOther rfl ?_ | refine WL.pure rfl rfl rfl rfl ?_ | refine WL.on rfl rfl ?_ | refine WL.off rfl rfl rfl ?_ | refine WL.load rfl rfl rfl rfl rfl rfl (by assumption) ?_ | refine WC.condTrue rfl ?_ | refine WC.condFalse rfl ?_)
    refine WC.drawn 11 (fun wx => Below w2.heap.size w2 wx) fun w4 hd => ?_
    have hS : Below w2.heap.size w2 w4 := b3.trans (hd.below _)
    (((first | refine WD.free 0 rfl (by kernel_rfl) rfl rfl (fun _ _ _ _ _ h => h) rfl rfl (.inr hS) ?_ | refine WD.skip 0 rfl (by kernel_rfl) rfl rfl (fun _ _ _ _ _ h => h) rfl (.inr hS) ?_); try (first | ((with_reducible refine WD.topT ?_ ?_); omega) | ((with_reducible refine WD.topF ?_ ?_); omega) | ((with_reducible refine WD.top64 ?_ ?_); omega))); ((first | refine WD.free 2 rfl (by kernel_rfl) rfl rfl (fun _ _ _ _ _ h => h) rfl rfl (.inr hS) ?_ | refine WD.skip 2 rfl (by kernel_rfl) rfl rfl (fun _ _ _ _ _ h => h) rfl (.inr hS) ?_); try (first | ((with_reducible refine WD.topT ?_ ?_); omega) | ((with_reducible refine WD.topF ?_ ?_); omega) | ((with_reducible refine WD.top64 ?_ ?_); omega))); ((first | refine WD.free 6 rfl (by kernel_rfl) rfl rfl (fun _ _ _ _ _ h => h) rfl rfl (.inr hS) ?_ | refine WD.skip 6 rfl (by kernel_rfl) rfl rfl (fun _ _ _ _ _ h => h) rfl (.inr hS) ?_); try (first | ((with_reducible refine WD.topT ?_ ?_); omega) | ((with_reducible refine WD.topF ?_ ?_); omega) | ((with_reducible refine WD.top64 ?_ ?_); omega))); ((first | refine WD.free 8 rfl (by kernel_rfl) rfl rfl (fun _ _ _ _ _ h => h) rfl rfl (.inr hS) ?_ | refine WD.skip 8 rfl (by kernel_rfl) rfl rfl (fun _ _ _ _ _ h => h) rfl (.inr hS) ?_); try (first | ((with_reducible refine WD.topT ?_ ?_); omega) | ((with_reducible refine WD.topF ?_ ?_); omega) | ((with_reducible refine WD.top64 ?_ ?_); omega))))
    refine WD.load 1 [3, 4, 5, 11] rfl (by kernel_rfl) rfl rfl (fun _ _ _ _ _ h => h) rfl rfl rfl rfl (fun wx hx => (hx.cell (p := ⟨g2, 3, none⟩) l2).trans c23) hS ?_
    refine WD.idx 3 i i rfl (by kernel_rfl) rfl rfl (fun _ _ _ _ _ h => h) rfl rfl rfl rfl rfl rfl hlt (by omega) (.inr hS) ?_
    (((first | refine WD.free 4 rfl (by kernel_rfl) rfl rfl (fun _ _ _ _ _ h => h) rfl rfl (.inr hS) ?_ | refine WD.skip 4 rfl (by kernel_rfl) rfl rfl (fun _ _ _ _ _ h => h) rfl (.inr hS) ?_); try (first | ((with_reducible refine WD.topT ?_ ?_); omega) | ((with_reducible refine WD.topF ?_ ?_); omega) | ((with_reducible refine WD.top64 ?_ ?_); omega))))
    refine WD.load 5 [11] rfl (by kernel_rfl) rfl rfl (fun _ _ _ _ _ h => h) rfl rfl rfl rfl (fun wx hx => (hx.cell (p := ⟨ga, i, none⟩) la).trans x1) hS ?_
    refine WD.load 7 [9, 10, 11] rfl (by kernel_rfl) rfl rfl (fun _ _ _ _ _ h => h) rfl rfl rfl rfl (fun wx hx => (hx.cell (p := ⟨g3, 3, none⟩) l3).trans c33) hS ?_
    refine WD.idx 9 i i rfl (by kernel_rfl) rfl rfl (fun _ _ _ _ _ h => h) rfl rfl rfl rfl rfl rfl hlt (by omega) (.inr hS) ?_
    refine WD.load 10 [11] rfl (by kernel_rfl) rfl rfl (fun _ _ _ _ _ h => h) rfl rfl rfl rfl (fun wx hx => (hx.cell (p := ⟨gb, i, none⟩) lb).trans x2) hS ?_
    refine WD.one 11 (by kernel_rfl) rfl ?_
    refine WL.pure rfl rfl rfl rfl ?_
    refine WL.top (v' := .bool false) (congrArg Value.bool (by simp)) ?_
    refine WL.nil (WQ.dk (.inl rfl) ?_)
    refine WD.done (by kernel_rfl) ?_
    repeat (first | ((with_reducible refine WL.topT ?_ ?_); omega) | ((with_reducible refine WL.topF ?_ ?_); omega) | ((with_reducible refine WL.top64 ?_ ?_); omega) | refine WC.seq ?_ | refine WC.block ?_ | refine WC.region ?_ | refine WL.nil ?_ | refine WC.skip ?_ | refine WC.exit ?_ | refine WC.ret ?_ | refine WQ.then rfl ?_ | refine WQ.thenExit ?_ | refine WQ.thenRet ?_ | refine WQ.blk ?_ | refine WQ.blkRet ?_ | refine WQ.blkHere rfl ?_ | refine WQ.blkOther rfl ?_ | refine WL.pure rfl rfl rfl rfl ?_ | refine WL.on rfl rfl ?_ | refine WL.off rfl rfl rfl ?_ | refine WC.condTrue rfl ?_ | refine WC.condFalse rfl ?_)
    exact WQ.again (i + 1) ⟨rfl, rfl, rfl, trivial⟩ ⟨hlt, hS⟩ (by omega)
  · obtain rfl : i = t.fs.length := by omega
    repeat (first | ((with_reducible refine WL.topT ?_ ?_); omega) | ((with_reducible refine WL.topF ?_ ?_); omega) | ((with_reducible refine WL.top64 ?_ ?_); omega) | refine WC.seq ?_ | refine WC.block ?_ | refine WC.region ?_ | refine WL.nil ?_ | refine WC.skip ?_ | refine WC.exit ?_ | refine WC.ret ?_ | refine WQ.then rfl ?_ | refine WQ.thenExit ?_ | refine WQ.thenRet ?_ | refine WQ.blk ?_ | refine WQ.blkRet ?_ | refine WQ.blkHere rfl ?_ | refine WQ.blkOther rfl ?_ | refine WL.pure rfl rfl rfl rfl ?_ | refine WL.on rfl rfl ?_ | refine WL.off rfl rfl rfl ?_ | refine WL.load rfl rfl rfl rfl rfl rfl (by assumption) ?_ | refine WC.condTrue rfl ?_ | refine WC.condFalse rfl ?_)
    exact WQ.ret1 rfl rfl ⟨rfl, b2.trans (b3.mono b2.size)⟩
end Cr
end Go.Proofs.Ytdaljjicekheiaa
