/- How great values are: the laws' great, heavy (chapter 7). -/
import Derived.Test.YtnboloilljlfiaaKd
import Derived.Test.YtnboloilljlfiaaGrt
import Derived.Test.YtnboloilljlfiaaSix
namespace Go.Proofs.Ytnboloilljlfiaa
open Go.RowKit
namespace K

set_option maxHeartbeats 4000000 in
theorem great_any : ∀ (f : Nat) {w0 w : World} {v : V} {cs : List Value} {pb n : Nat}, IsV f w0 v cs → Sml f v → Below w0.heap.size w0 w → w0.heap.size ≤ pb → VBlk 3 w pb [.int .i64 n] → n ≤ 140737488355328 →
    Calls Try.prog 7 #[.agg cs.toArray, .pointer (some ⟨pb, 0, none⟩)] w fun e w' => e = .returned (.bool (decide (3000 < grt 3000 f v n))) ∧ VBlk 3 w' pb [.int .i64 (grt 3000 f v n)] ∧ Keep (fun b => b < w.heap.size ∧ b ≠ pb) w w'
  | 0, _, _, _, _, _, _, h, _, _, _, _, _ => h.elim
  | f + 1, w0, w, v, cs, pb, n, hv, hs, hbel, hpb, hblk, hn => by
    have ih := @great_any f
    obtain ⟨sn, sk, rfl, -, -, -, htz, ⟨np, nc, rfl, nl, nc2, -, -⟩, ⟨sp, cap, rfl, hcap1, hcap2, hrow⟩⟩ := hv
    obtain ⟨hsn, hsk, hsm⟩ := hs
    have hgr : grt 3000 (f + 1) v n = grtK 3000 (grt 3000 f) v.kids (n + 1 + v.t.size / 20 + v.names.length) := rfl
    rw [hgr]
    refine enter (args := [.agg (six v (.slice np v.names.length nc) (.slice sp v.kids.length cap)).toArray, .pointer (some ⟨pb, 0, none⟩)]) Try.func7 rfl Try.ntmps7 rfl ?_
    repeat (first | ((with_reducible refine WL.topT ?_ ?_); omega) | ((with_reducible refine WL.topF ?_ ?_); omega) | ((with_reducible refine WL.top64 ?_ ?_); omega) | refine WC.seq ?_ | refine WC.block ?_ | refine WC.region ?_ | refine WL.nil ?_ | refine WC.skip ?_ | refine WC.exit ?_ | refine WC.ret ?_ | refine WQ.then rfl ?_ | refine WQ.thenExit ?_ | refine WQ.thenRet ?_ | refine WQ.blk ?_ | refine WQ.blkRet ?_ | refine WQ.blkHere rfl ?_ | refine WQ.blkOther rfl ?_ | refine WL.pure rfl rfl rfl rfl ?_ | refine WL.on rfl rfl ?_ | refine WL.off rfl rfl rfl ?_ | refine WC.condTrue rfl ?_ | refine WC.condFalse rfl ?_)
    refine WL.box rfl rfl rfl rfl rfl fun g w1 hf => ?_
    have hf' : Fresh w g w1 25 (six v (.slice np v.names.length nc) (.slice sp v.kids.length cap)) := hf
    clear hf
    have hpw := hblk.lt
    have hne : g ≠ pb := by rw [hf'.eq]; omega
    have hblk1 : VBlk 3 w1 pb [.int .i64 n] := hblk.below hf'.below hpw
    have hkeep1 : Keep (fun b => b < w.heap.size ∧ b ≠ pb) w w1 := (Keep.of_below hf'.below).mono fun _ h => h.1
    repeat (first | ((with_reducible refine WL.topT ?_ ?_); omega) | ((with_reducible refine WL.topF ?_ ?_); omega) | ((with_reducible refine WL.top64 ?_ ?_); omega) | refine WC.seq ?_ | refine WC.block ?_ | refine WC.region ?_ | refine WL.nil ?_ | refine WC.skip ?_ | refine WC.exit ?_ | refine WC.ret ?_ | refine WQ.then rfl ?_ | refine WQ.thenExit ?_ | refine WQ.thenRet ?_ | refine WQ.blk ?_ | refine WQ.blkRet ?_ | refine WQ.blkHere rfl ?_ | refine WQ.blkOther rfl ?_ | refine WL.pure rfl rfl rfl rfl ?_ | refine WL.on rfl rfl ?_ | refine WL.off rfl rfl rfl ?_ | refine WC.condTrue rfl ?_ | refine WC.condFalse rfl ?_)
    refine WC.drawn 15 (fun wx => VBlk 3 wx pb [.int .i64 n] ∧ VBlk 25 wx g (six v (.slice np v.names.length nc) (.slice sp v.kids.length cap))) fun w2 hd2 => ?_
    have hS : VBlk 3 w2 pb [.int .i64 n] ∧ VBlk 25 w2 g (six v (.slice np v.names.length nc) (.slice sp v.kids.length cap)) := ⟨hblk1.below (hd2.below _) hblk1.lt, hf'.blk.below (hd2.below _) hf'.blk.lt⟩
    (((first | refine WD.free 0 rfl (by kernel_rfl) rfl rfl (fun _ _ _ _ _ h => h) rfl rfl (.inr hS) ?_ | refine WD.skip 0 rfl (by kernel_rfl) rfl rfl (fun _ _ _ _ _ h => h) rfl (.inr hS) ?_); try (first | ((with_reducible refine WD.topT ?_ ?_); omega) | ((with_reducible refine WD.topF ?_ ?_); omega) | ((with_reducible refine WD.top64 ?_ ?_); omega))); ((first | refine WD.free 1 rfl (by kernel_rfl) rfl rfl (fun _ _ _ _ _ h => h) rfl rfl (.inr hS) ?_ | refine WD.skip 1 rfl (by kernel_rfl) rfl rfl (fun _ _ _ _ _ h => h) rfl (.inr hS) ?_); try (first | ((with_reducible refine WD.topT ?_ ?_); omega) | ((with_reducible refine WD.topF ?_ ?_); omega) | ((with_reducible refine WD.top64 ?_ ?_); omega))); ((first | refine WD.free 2 rfl (by kernel_rfl) rfl rfl (fun _ _ _ _ _ h => h) rfl rfl (.inr hS) ?_ | refine WD.skip 2 rfl (by kernel_rfl) rfl rfl (fun _ _ _ _ _ h => h) rfl (.inr hS) ?_); try (first | ((with_reducible refine WD.topT ?_ ?_); omega) | ((with_reducible refine WD.topF ?_ ?_); omega) | ((with_reducible refine WD.top64 ?_ ?_); omega))))
    refine WD.load 3 [4, 9, 13, 15] rfl (by kernel_rfl) rfl rfl (fun _ _ _ _ _ h => h) rfl rfl rfl rfl (fun wx hx => hx.1.cell 0 (by simp)) hS ?_
    (((first | refine WD.free 4 rfl (by kernel_rfl) rfl rfl (fun _ _ _ _ _ h => h) rfl rfl (.inr hS) ?_ | refine WD.skip 4 rfl (by kernel_rfl) rfl rfl (fun _ _ _ _ _ h => h) rfl (.inr hS) ?_); try (first | ((with_reducible refine WD.topT ?_ ?_); omega) | ((with_reducible refine WD.topF ?_ ?_); omega) | ((with_reducible refine WD.top64 ?_ ?_); omega))); ((first | refine WD.free 5 rfl (by kernel_rfl) rfl rfl (fun _ _ _ _ _ h => h) rfl rfl (.inr hS) ?_ | refine WD.skip 5 rfl (by kernel_rfl) rfl rfl (fun _ _ _ _ _ h => h) rfl (.inr hS) ?_); try (first | ((with_reducible refine WD.topT ?_ ?_); omega) | ((with_reducible refine WD.topF ?_ ?_); omega) | ((with_reducible refine WD.top64 ?_ ?_); omega))))
    refine WD.load 6 [7, 8, 9, 13, 15] rfl (by kernel_rfl) rfl rfl (fun _ _ _ _ _ h => h) rfl rfl rfl rfl (fun wx hx => hx.2.cell 3 (by simp)) hS ?_
    (((first | refine WD.free 7 rfl (by kernel_rfl) rfl rfl (fun _ _ _ _ _ h => h) rfl rfl (.inr hS) ?_ | refine WD.skip 7 rfl (by kernel_rfl) rfl rfl (fun _ _ _ _ _ h => h) rfl (.inr hS) ?_); try (first | ((with_reducible refine WD.topT ?_ ?_); omega) | ((with_reducible refine WD.topF ?_ ?_); omega) | ((with_reducible refine WD.top64 ?_ ?_); omega))); ((first | refine WD.free 8 rfl (by kernel_rfl) rfl rfl (fun _ _ _ _ _ h => h) rfl rfl (.inr hS) ?_ | refine WD.skip 8 rfl (by kernel_rfl) rfl rfl (fun _ _ _ _ _ h => h) rfl (.inr hS) ?_); try (first | ((with_reducible refine WD.topT ?_ ?_); omega) | ((with_reducible refine WD.topF ?_ ?_); omega) | ((with_reducible refine WD.top64 ?_ ?_); omega))); ((first | refine WD.free 9 rfl (by kernel_rfl) rfl rfl (fun _ _ _ _ _ h => h) rfl rfl (.inr hS) ?_ | refine WD.skip 9 rfl (by kernel_rfl) rfl rfl (fun _ _ _ _ _ h => h) rfl (.inr hS) ?_); try (first | ((with_reducible refine WD.topT ?_ ?_); omega) | ((with_reducible refine WD.topF ?_ ?_); omega) | ((with_reducible refine WD.top64 ?_ ?_); omega))); ((first | refine WD.free 10 rfl (by kernel_rfl) rfl rfl (fun _ _ _ _ _ h => h) rfl rfl (.inr hS) ?_ | refine WD.skip 10 rfl (by kernel_rfl) rfl rfl (fun _ _ _ _ _ h => h) rfl (.inr hS) ?_); try (first | ((with_reducible refine WD.topT ?_ ?_); omega) | ((with_reducible refine WD.topF ?_ ?_); omega) | ((with_reducible refine WD.top64 ?_ ?_); omega))))
    refine WD.load 11 [12, 13, 15] rfl (by kernel_rfl) rfl rfl (fun _ _ _ _ _ h => h) rfl rfl rfl rfl (fun wx hx => hx.2.cell 4 (by simp)) hS ?_
    (((first | refine WD.free 12 rfl (by kernel_rfl) rfl rfl (fun _ _ _ _ _ h => h) rfl rfl (.inr hS) ?_ | refine WD.skip 12 rfl (by kernel_rfl) rfl rfl (fun _ _ _ _ _ h => h) rfl (.inr hS) ?_); try (first | ((with_reducible refine WD.topT ?_ ?_); omega) | ((with_reducible refine WD.topF ?_ ?_); omega) | ((with_reducible refine WD.top64 ?_ ?_); omega))); ((first | refine WD.free 13 rfl (by kernel_rfl) rfl rfl (fun _ _ _ _ _ h => h) rfl rfl (.inr hS) ?_ | refine WD.skip 13 rfl (by kernel_rfl) rfl rfl (fun _ _ _ _ _ h => h) rfl (.inr hS) ?_); try (first | ((with_reducible refine WD.topT ?_ ?_); omega) | ((with_reducible refine WD.topF ?_ ?_); omega) | ((with_reducible refine WD.top64 ?_ ?_); omega))); ((first | refine WD.free 14 rfl (by kernel_rfl) rfl rfl (fun _ _ _ _ _ h => h) rfl rfl (.inr hS) ?_ | refine WD.skip 14 rfl (by kernel_rfl) rfl rfl (fun _ _ _ _ _ h => h) rfl (.inr hS) ?_); try (first | ((with_reducible refine WD.topT ?_ ?_); omega) | ((with_reducible refine WD.topF ?_ ?_); omega) | ((with_reducible refine WD.top64 ?_ ?_); omega))))
    refine WD.one 15 (by kernel_rfl) rfl ?_
    have e : IntKind.i64.wrap ((v.t.size : Int).tdiv 20) = ((v.t.size / 20 : Nat) : Int) := by rw [Int.tdiv_eq_ediv_of_nonneg (by omega), IntKind.wrap_i64]; omega
    have e2 : IntKind.i64.wrap (IntKind.i64.wrap ((n : Int) + 1 + IntKind.i64.wrap ((v.t.size : Int).tdiv 20)) + (v.names.length : Int)) = ((n + 1 + v.t.size / 20 + v.names.length : Nat) : Int) := by
      rw [e, show IntKind.i64.wrap ((n : Int) + 1 + ((v.t.size / 20 : Nat) : Int)) = (n : Int) + 1 + ((v.t.size / 20 : Nat) : Int) from IntWalk.i64_in _ (by omega), IntWalk.i64_in _ (by omega)]; omega
    generalize n + 1 + v.t.size / 20 + v.names.length = n1 at e2 ⊢
    refine WL.store (v := .int .i64 n1) rfl rfl rfl rfl (congrArg (fun z => some (Value.int .i64 z)) e2) rfl (by kernel_rfl) (hS.1.cell 0 (by simp)) (hS.1.free 0) ?_
    have hb2 : VBlk 3 (w2.setCell ⟨pb, 0, none⟩ (.int .i64 n1)) pb [.int .i64 n1] := hS.1.set 0 (.int .i64 n1)
    have hg2 : VBlk 25 (w2.setCell ⟨pb, 0, none⟩ (.int .i64 n1)) g (six v (.slice np v.names.length nc) (.slice sp v.kids.length cap)) := hS.2.other _ _ hne
    have hk2 : Keep (fun b => b < w.heap.size ∧ b ≠ pb) w (w2.setCell ⟨pb, 0, none⟩ (.int .i64 n1)) := (hkeep1.trans ((Keep.of_below (hd2.below w1.heap.size)).mono fun b hb => Nat.lt_of_lt_of_le hb.1 hf'.below.size)).setCell (fun h => h.2 rfl) _
    generalize w2.setCell ⟨pb, 0, none⟩ (.int .i64 n1) = w3 at hb2 hg2 hk2
    refine WL.nil (WQ.dk (.inl rfl) ?_)
    refine WD.done (by kernel_rfl) ?_
    repeat (first | ((with_reducible refine WL.topT ?_ ?_); omega) | ((with_reducible refine WL.topF ?_ ?_); omega) | ((with_reducible refine WL.top64 ?_ ?_); omega) | refine WC.seq ?_ | refine WC.block ?_ | refine WC.region ?_ | refine WL.nil ?_ | refine WC.skip ?_ | refine WC.exit ?_ | refine WC.ret ?_ | refine WQ.then rfl ?_ | refine WQ.thenExit ?_ | refine WQ.thenRet ?_ | refine WQ.blk ?_ | refine WQ.blkRet ?_ | refine WQ.blkHere rfl ?_ | refine WQ.blkOther rfl ?_ | refine WL.pure rfl rfl rfl rfl ?_ | refine WL.on rfl rfl ?_ | refine WL.off rfl rfl rfl ?_ | refine WC.condTrue rfl ?_ | refine WC.condFalse rfl ?_)
    generalize hRR : grtK 3000 (grt 3000 f) v.kids n1 = RR
    have hgw : g < w3.heap.size := hg2.lt
    refine WC.loop (fun i : Nat => [(1, .pointer (some ⟨pb, 0, none⟩)), (2, .pointer (some ⟨g, 0, none⟩)), (5, .int .i64 i)])
      (fun i w' => i ≤ v.kids.length ∧ Keep (fun b => b < w3.heap.size ∧ b ≠ pb) w3 w' ∧ ∃ x : Nat, VBlk 3 w' pb [.int .i64 x] ∧ grtK 3000 (grt 3000 f) (v.kids.drop i) x = RR) (fun i => v.kids.length - i) 0
      ⟨rfl, rfl, rfl, trivial⟩ ⟨Nat.zero_le _, Keep.refl _ _, n1, hb2, hRR⟩ ?_
    rintro i wr ⟨hi, hkr, x, hbx, hx⟩
    have hgr2 : VBlk 25 wr g (six v (.slice np v.names.length nc) (.slice sp v.kids.length cap)) := hg2.keep hkr ⟨hgw, hne⟩
    have hkw : Keep (fun b => b < w.heap.size ∧ b ≠ pb) w wr := hk2.trans (hkr.mono fun b hb => ⟨Nat.lt_of_lt_of_le hb.1 hk2.size, hb.2⟩)
    have hlast : ∀ {wz : World} {xz : Nat}, VBlk 3 wz pb [.int .i64 xz] → Keep (fun b => b < w.heap.size ∧ b ≠ pb) w wz → xz = RR → (Ending.returned (.bool (decide ((3000 : Int) < (xz : Int)))) = .returned (.bool (decide (3000 < RR))) ∧ VBlk 3 wz pb [.int .i64 (RR)] ∧ Keep (fun b => b < w.heap.size ∧ b ≠ pb) w wz) :=
      fun h1 h2 h3 => ⟨by rw [← h3]; congr 2; simp only [decide_eq_decide]; omega, by rw [← h3]; exact h1, h2⟩
    repeat (first | ((with_reducible refine WL.topT ?_ ?_); omega) | ((with_reducible refine WL.topF ?_ ?_); omega) | ((with_reducible refine WL.top64 ?_ ?_); omega) | refine WC.seq ?_ | refine WC.block ?_ | refine WC.region ?_ | refine WL.nil ?_ | refine WC.skip ?_ | refine WC.exit ?_ | refine WC.ret ?_ | refine WQ.then rfl ?_ | refine WQ.thenExit ?_ | refine WQ.thenRet ?_ | refine WQ.blk ?_ | refine WQ.blkRet ?_ | refine WQ.blkHere rfl ?_ | refine WQ.blkOther rfl ?_ | refine WL.pure rfl rfl rfl rfl ?_ | refine WL.on rfl rfl ?_ | refine WL.off rfl rfl rfl ?_ | refine WC.condTrue rfl ?_ | refine WC.condFalse rfl ?_)
    refine WL.load rfl rfl rfl rfl rfl rfl (hgr2.cell 5 (by simp)) ?_
    by_cases hik : i < v.kids.length
    · have hdr : v.kids.drop i = v.kids.getD i noV :: v.kids.drop (i + 1) := by
        rw [List.drop_eq_getElem_cons hik]
        simp [hik]
      rw [hdr] at hx
      repeat (first | ((with_reducible refine WL.topT ?_ ?_); omega) | ((with_reducible refine WL.topF ?_ ?_); omega) | ((with_reducible refine WL.top64 ?_ ?_); omega) | refine WC.seq ?_ | refine WC.block ?_ | refine WC.region ?_ | refine WL.nil ?_ | refine WC.skip ?_ | refine WC.exit ?_ | refine WC.ret ?_ | refine WQ.then rfl ?_ | refine WQ.thenExit ?_ | refine WQ.thenRet ?_ | refine WQ.blk ?_ | refine WQ.blkRet ?_ | refine WQ.blkHere rfl ?_ | refine WQ.blkOther rfl ?_ | refine WL.pure rfl rfl rfl rfl ?_ | refine WL.on rfl rfl ?_ | refine WL.off rfl rfl rfl ?_ | refine WC.condTrue rfl ?_ | refine WC.condFalse rfl ?_)
      refine WL.load rfl rfl rfl rfl rfl rfl (hbx.cell 0 (by simp)) ?_
      by_cases hx2 : x ≤ 3000
      · obtain ⟨kb, ko, rfl, hkb, hcells⟩ := hrow (by omega)
        obtain ⟨c, hc6, hci, hcr⟩ := hcells i hik
        have hbelr : Below w0.heap.size w0 wr := (hbel.trans ((hkw.mono fun b hb => ⟨Nat.lt_of_lt_of_le hb hbel.size, Nat.ne_of_lt (Nat.lt_of_lt_of_le hb hpb)⟩ : Keep (fun b => b < w0.heap.size) w wr).below))
        have hcr' : wr.rangeAt kb (ko + i * 6) c := fun j u hu => by rw [hbelr.cell (p := ⟨kb, ko + i * 6 + j, none⟩) hkb]; exact hcr j u hu
        unfold grtK at hx
        rw [if_pos hx2] at hx
        repeat (first | ((with_reducible refine WL.topT ?_ ?_); omega) | ((with_reducible refine WL.topF ?_ ?_); omega) | ((with_reducible refine WL.top64 ?_ ?_); omega) | refine WC.seq ?_ | refine WC.block ?_ | refine WC.region ?_ | refine WL.nil ?_ | refine WC.skip ?_ | refine WC.exit ?_ | refine WC.ret ?_ | refine WQ.then rfl ?_ | refine WQ.thenExit ?_ | refine WQ.thenRet ?_ | refine WQ.blk ?_ | refine WQ.blkRet ?_ | refine WQ.blkHere rfl ?_ | refine WQ.blkOther rfl ?_ | refine WL.pure rfl rfl rfl rfl ?_ | refine WL.on rfl rfl ?_ | refine WL.off rfl rfl rfl ?_ | refine WC.condTrue rfl ?_ | refine WC.condFalse rfl ?_)
        refine WL.load rfl rfl rfl rfl rfl rfl (hgr2.cell 5 (by simp)) ?_
        repeat (first | ((with_reducible refine WL.topT ?_ ?_); omega) | ((with_reducible refine WL.topF ?_ ?_); omega) | ((with_reducible refine WL.top64 ?_ ?_); omega) | refine WC.seq ?_ | refine WC.block ?_ | refine WC.region ?_ | refine WL.nil ?_ | refine WC.skip ?_ | refine WC.exit ?_ | refine WC.ret ?_ | refine WQ.then rfl ?_ | refine WQ.thenExit ?_ | refine WQ.thenRet ?_ | refine WQ.blk ?_ | refine WQ.blkRet ?_ | refine WQ.blkHere rfl ?_ | refine WQ.blkOther rfl ?_ | refine WL.pure rfl rfl rfl rfl ?_ | refine WL.on rfl rfl ?_ | refine WL.off rfl rfl rfl ?_ | refine WC.condTrue rfl ?_ | refine WC.condFalse rfl ?_)
        refine WL.idx i (ko + i * 6) rfl rfl rfl rfl rfl rfl rfl rfl hik rfl ?_
        refine WL.loadMid rfl rfl rfl rfl rfl rfl hcr' hc6 ?_
        repeat (first | ((with_reducible refine WL.topT ?_ ?_); omega) | ((with_reducible refine WL.topF ?_ ?_); omega) | ((with_reducible refine WL.top64 ?_ ?_); omega) | refine WC.seq ?_ | refine WC.block ?_ | refine WC.region ?_ | refine WL.nil ?_ | refine WC.skip ?_ | refine WC.exit ?_ | refine WC.ret ?_ | refine WQ.then rfl ?_ | refine WQ.thenExit ?_ | refine WQ.thenRet ?_ | refine WQ.blk ?_ | refine WQ.blkRet ?_ | refine WQ.blkHere rfl ?_ | refine WQ.blkOther rfl ?_ | refine WL.pure rfl rfl rfl rfl ?_ | refine WL.on rfl rfl ?_ | refine WL.off rfl rfl rfl ?_ | refine WC.condTrue rfl ?_ | refine WC.condFalse rfl ?_)
        refine WL.call rfl rfl rfl rfl rfl Try.func7 rfl (by kernel_rfl) (ih (n := x) hci (hsm _ (by rw [List.getD_eq_getElem?_getD, List.getElem?_eq_getElem hik]; exact List.getElem_mem hik)) hbelr hpb hbx (by omega)) ?_
        rintro e w4 ⟨rfl, hb4, hk4⟩
        refine ⟨_, rfl, ?_⟩
        repeat (first | ((with_reducible refine WL.topT ?_ ?_); omega) | ((with_reducible refine WL.topF ?_ ?_); omega) | ((with_reducible refine WL.top64 ?_ ?_); omega) | refine WC.seq ?_ | refine WC.block ?_ | refine WC.region ?_ | refine WL.nil ?_ | refine WC.skip ?_ | refine WC.exit ?_ | refine WC.ret ?_ | refine WQ.then rfl ?_ | refine WQ.thenExit ?_ | refine WQ.thenRet ?_ | refine WQ.blk ?_ | refine WQ.blkRet ?_ | refine WQ.blkHere rfl ?_ | refine WQ.blkOther rfl ?_ | refine WL.pure rfl rfl rfl rfl ?_ | refine WL.on rfl rfl ?_ | refine WL.off rfl rfl rfl ?_ | refine WC.condTrue rfl ?_ | refine WC.condFalse rfl ?_)
        exact WQ.again (i + 1) ⟨rfl, rfl, rfl, trivial⟩ ⟨hik, hkr.trans (hk4.mono fun b hb => ⟨Nat.lt_of_lt_of_le hb.1 hkr.size, hb.2⟩), _, hb4, hx⟩ (by show v.kids.length - (i + 1) < v.kids.length - i; omega)
      · unfold grtK at hx
        rw [if_neg hx2] at hx
        repeat (first | ((with_reducible refine WL.topT ?_ ?_); omega) | ((with_reducible refine WL.topF ?_ ?_); omega) | ((with_reducible refine WL.top64 ?_ ?_); omega) | refine WC.seq ?_ | refine WC.block ?_ | refine WC.region ?_ | refine WL.nil ?_ | refine WC.skip ?_ | refine WC.exit ?_ | refine WC.ret ?_ | refine WQ.then rfl ?_ | refine WQ.thenExit ?_ | refine WQ.thenRet ?_ | refine WQ.blk ?_ | refine WQ.blkRet ?_ | refine WQ.blkHere rfl ?_ | refine WQ.blkOther rfl ?_ | refine WL.pure rfl rfl rfl rfl ?_ | refine WL.on rfl rfl ?_ | refine WL.off rfl rfl rfl ?_ | refine WC.condTrue rfl ?_ | refine WC.condFalse rfl ?_)
        refine WL.load rfl rfl rfl rfl rfl rfl (hbx.cell 0 (by simp)) ?_
        refine WL.pure rfl rfl rfl rfl ?_
        refine WL.pure rfl rfl rfl rfl ?_
        repeat (first | ((with_reducible refine WL.topT ?_ ?_); omega) | ((with_reducible refine WL.topF ?_ ?_); omega) | ((with_reducible refine WL.top64 ?_ ?_); omega) | refine WC.seq ?_ | refine WC.block ?_ | refine WC.region ?_ | refine WL.nil ?_ | refine WC.skip ?_ | refine WC.exit ?_ | refine WC.ret ?_ | refine WQ.then rfl ?_ | refine WQ.thenExit ?_ | refine WQ.thenRet ?_ | refine WQ.blk ?_ | refine WQ.blkRet ?_ | refine WQ.blkHere rfl ?_ | refine WQ.blkOther rfl ?_ | refine WL.pure rfl rfl rfl rfl ?_ | refine WL.on rfl rfl ?_ | refine WL.off rfl rfl rfl ?_ | refine WC.condTrue rfl ?_ | refine WC.condFalse rfl ?_)
        exact WQ.ret1 rfl rfl ⟨congrArg (fun b => Ending.returned (Value.bool b)) (decide_eq_true (by omega)).symm, (hlast hbx hkw hx).2⟩
    · obtain rfl : i = v.kids.length := by omega
      rw [List.drop_length] at hx
      unfold grtK at hx
      repeat (first | ((with_reducible refine WL.topT ?_ ?_); omega) | ((with_reducible refine WL.topF ?_ ?_); omega) | ((with_reducible refine WL.top64 ?_ ?_); omega) | refine WC.seq ?_ | refine WC.block ?_ | refine WC.region ?_ | refine WL.nil ?_ | refine WC.skip ?_ | refine WC.exit ?_ | refine WC.ret ?_ | refine WQ.then rfl ?_ | refine WQ.thenExit ?_ | refine WQ.thenRet ?_ | refine WQ.blk ?_ | refine WQ.blkRet ?_ | refine WQ.blkHere rfl ?_ | refine WQ.blkOther rfl ?_ | refine WL.pure rfl rfl rfl rfl ?_ | refine WL.on rfl rfl ?_ | refine WL.off rfl rfl rfl ?_ | refine WC.condTrue rfl ?_ | refine WC.condFalse rfl ?_)
      refine WL.load rfl rfl rfl rfl rfl rfl (hbx.cell 0 (by simp)) ?_
      refine WL.pure rfl rfl rfl rfl ?_
      refine WL.pure rfl rfl rfl rfl ?_
      repeat (first | ((with_reducible refine WL.topT ?_ ?_); omega) | ((with_reducible refine WL.topF ?_ ?_); omega) | ((with_reducible refine WL.top64 ?_ ?_); omega) | refine WC.seq ?_ | refine WC.block ?_ | refine WC.region ?_ | refine WL.nil ?_ | refine WC.skip ?_ | refine WC.exit ?_ | refine WC.ret ?_ | refine WQ.then rfl ?_ | refine WQ.thenExit ?_ | refine WQ.thenRet ?_ | refine WQ.blk ?_ | refine WQ.blkRet ?_ | refine WQ.blkHere rfl ?_ | refine WQ.blkOther rfl ?_ | refine WL.pure rfl rfl rfl rfl ?_ | refine WL.on rfl rfl ?_ | refine WL.off rfl rfl rfl ?_ | refine WC.condTrue rfl ?_ | refine WC.condFalse rfl ?_)
      exact WQ.ret1 rfl rfl (hlast hbx hkw hx)
end K
end Go.Proofs.Ytnboloilljlfiaa
