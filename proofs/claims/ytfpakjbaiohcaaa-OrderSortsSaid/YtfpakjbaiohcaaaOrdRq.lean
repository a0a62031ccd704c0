/- Keys (chapter 8), the document's answer: Of, Key; what is too great. -/
import Derived.Test.YtfpakjbaiohcaaaOrdRk
import Derived.Test.YtfpakjbaiohcaaaOrdK
import Derived.Test.YtfpakjbaiohcaaaRchl
import Derived.Test.YtfpakjbaiohcaaaGr
namespace Go.Proofs.Ytfpakjbaiohcaaa
open Go.RowKit
namespace K

theorem rOf_any {f : Nat} {w0 w : World} {sl : Value} {l : List V} (h : IsVs f w0 sl l) (hbel : Below w0.heap.size w0 w) (hall : ∀ j, j < l.length → chk 16 (l.getD j noV) = 0) (hm : (keysV 16 l).length ≤ 70368744177664) :
    Calls Try.prog 21 #[sl] w fun e w' => e = .returned (.string (strOfNums (keysV 16 l))) ∧ Below w0.heap.size w0 w' := by
  obtain ⟨sp, cap, rfl, hcap1, hcap2, hrow⟩ := h
  refine enter (args := [.slice sp l.length cap]) Try.func21 rfl Try.ntmps21 rfl ?_
  repeat (first | ((with_reducible refine WL.topT ?_ ?_); omega) | ((with_reducible refine WL.topF ?_ ?_); omega) | ((with_reducible refine WL.top64 ?_ ?_); omega) | refine WC.seq ?_ | refine WC.block ?_ | refine WC.region ?_ | refine WL.nil ?_ | refine WC.skip ?_ | refine WC.exit ?_ | refine WC.ret ?_ | refine WQ.then rfl ?_ | refine WQ.thenExit ?_ | refine WQ.thenRet ?_ | refine WQ.blk ?_ | refine WQ.blkRet ?_ | refine WQ.blkHere rfl ?_ | refine WQ.blkOther rfl ?_ | refine WL.pure rfl rfl rfl rfl ?_ | refine WL.on rfl rfl ?_ | refine WL.off rfl rfl rfl ?_ | refine WC.condTrue rfl ?_ | refine WC.condFalse rfl ?_)
  refine WC.loop (fun i : Nat × Value => [(0, .slice sp l.length cap), (3, i.2), (4, .int .i64 i.1)])
    (fun i w' => i.1 ≤ l.length ∧ Bu w' i.2 (keysV 16 (l.take i.1)) ∧ Apart w0 w' i.2) (fun i => l.length - i.1) (0, .slice none 0 0) ⟨rfl, rfl, rfl, trivial⟩
    ⟨Nat.zero_le _, Bu.nil _, hbel, fun g hg => by cases hg⟩ ?_
  rintro ⟨i, bb⟩ wr2 ⟨hi2, hbr, hap⟩
  simp only at hi2 hbr hap ⊢
  by_cases hik2 : i < l.length
  · obtain ⟨kb, ko, rfl, hkb, hcells⟩ := hrow (by omega)
    obtain ⟨c, hc6, hci, hcr⟩ := hcells i hik2
    have hcr' : wr2.rangeAt kb (ko + i * 6) c := fun j u hu => by rw [hap.below.cell (p := ⟨kb, ko + i * 6 + j, none⟩) hkb]; exact hcr j u hu
    have hstep : keysV 16 (l.take (i + 1)) = keysV 16 (l.take i) ++ keyV 16 (l.getD i noV) := by unfold keysV; rw [take_V hik2, List.flatMap_append]; simp
    have hle : (keysV 16 (l.take (i + 1))).length ≤ 70368744177664 := Nat.le_trans (flatMap_take_le l) hm
    rw [hstep, List.length_append] at hle
    repeat (first | ((with_reducible refine WL.topT ?_ ?_); omega) | ((with_reducible refine WL.topF ?_ ?_); omega) | ((with_reducible refine WL.top64 ?_ ?_); omega) | refine WC.seq ?_ | refine WC.block ?_ | refine WC.region ?_ | refine WL.nil ?_ | refine WC.skip ?_ | refine WC.exit ?_ | refine WC.ret ?_ | refine WQ.then rfl ?_ | refine WQ.thenExit ?_ | refine WQ.thenRet ?_ | refine WQ.blk ?_ | refine WQ.blkRet ?_ | refine WQ.blkHere rfl ?_ | refine WQ.blkOther rfl ?_ | refine WL.pure rfl rfl rfl rfl ?_ | refine WL.on rfl rfl ?_ | refine WL.off rfl rfl rfl ?_ | refine WC.condTrue rfl ?_ | refine WC.condFalse rfl ?_)
    refine WL.idx i (ko + i * 6) rfl rfl rfl rfl rfl rfl rfl rfl hik2 rfl ?_
    refine WL.loadMid rfl rfl rfl rfl rfl rfl hcr' hc6 ?_
    refine WL.call rfl rfl rfl rfl rfl Try.func35 rfl (by kernel_rfl) (rkey_all 16 hci (hall i hik2) hbr hap hle) ?_
    rintro e w4 ⟨b4, rfl, hb4, hg4⟩
    refine ⟨_, rfl, ?_⟩
    repeat (first | ((with_reducible refine WL.topT ?_ ?_); omega) | ((with_reducible refine WL.topF ?_ ?_); omega) | ((with_reducible refine WL.top64 ?_ ?_); omega) | refine WC.seq ?_ | refine WC.block ?_ | refine WC.region ?_ | refine WL.nil ?_ | refine WC.skip ?_ | refine WC.exit ?_ | refine WC.ret ?_ | refine WQ.then rfl ?_ | refine WQ.thenExit ?_ | refine WQ.thenRet ?_ | refine WQ.blk ?_ | refine WQ.blkRet ?_ | refine WQ.blkHere rfl ?_ | refine WQ.blkOther rfl ?_ | refine WL.pure rfl rfl rfl rfl ?_ | refine WL.on rfl rfl ?_ | refine WL.off rfl rfl rfl ?_ | refine WC.condTrue rfl ?_ | refine WC.condFalse rfl ?_)
    refine WQ.again (i + 1, b4) ⟨rfl, rfl, rfl, trivial⟩ ⟨hik2, ?_, hap.grow hg4⟩ (by show l.length - (i + 1) < l.length - i; omega)
    show Bu w4 b4 (keysV 16 (l.take (i + 1)))
    rw [hstep]
    exact hb4
  · obtain rfl : i = l.length := by omega
    rw [List.take_length] at hbr
    repeat (first | ((with_reducible refine WL.topT ?_ ?_); omega) | ((with_reducible refine WL.topF ?_ ?_); omega) | ((with_reducible refine WL.top64 ?_ ?_); omega) | refine WC.seq ?_ | refine WC.block ?_ | refine WC.region ?_ | refine WL.nil ?_ | refine WC.skip ?_ | refine WC.exit ?_ | refine WC.ret ?_ | refine WQ.then rfl ?_ | refine WQ.thenExit ?_ | refine WQ.thenRet ?_ | refine WQ.blk ?_ | refine WQ.blkRet ?_ | refine WQ.blkHere rfl ?_ | refine WQ.blkOther rfl ?_ | refine WL.pure rfl rfl rfl rfl ?_ | refine WL.on rfl rfl ?_ | refine WL.off rfl rfl rfl ?_ | refine WC.condTrue rfl ?_ | refine WC.condFalse rfl ?_)
    refine WL.strOf rfl rfl rfl rfl rfl rfl rfl rfl hbr.sl ?_
    repeat (first | ((with_reducible refine WL.topT ?_ ?_); omega) | ((with_reducible refine WL.topF ?_ ?_); omega) | ((with_reducible refine WL.top64 ?_ ?_); omega) | refine WC.seq ?_ | refine WC.block ?_ | refine WC.region ?_ | refine WL.nil ?_ | refine WC.skip ?_ | refine WC.exit ?_ | refine WC.ret ?_ | refine WQ.then rfl ?_ | refine WQ.thenExit ?_ | refine WQ.thenRet ?_ | refine WQ.blk ?_ | refine WQ.blkRet ?_ | refine WQ.blkHere rfl ?_ | refine WQ.blkOther rfl ?_ | refine WL.pure rfl rfl rfl rfl ?_ | refine WL.on rfl rfl ?_ | refine WL.off rfl rfl rfl ?_ | refine WC.condTrue rfl ?_ | refine WC.condFalse rfl ?_)
    exact WQ.ret1 rfl rfl ⟨rfl, hap.below⟩

theorem rKey_any {f : Nat} {w0 w : World} {sl : Value} {l : List V} (h : IsVs f w0 sl l) (hbel : Below w0.heap.size w0 w) (hl : l.length ≤ 9223372036854775807) (hm : firstBad (l.map (chk 16)) = 0 → (keysV 16 l).length ≤ 70368744177664) :
    Calls Try.prog 9 #[sl] w fun e w' => e = .returned (.tuple #[.string (keyOf l), .int .i64 (firstBad (l.map (chk 16)))]) ∧ Below w0.heap.size w0 w' := by
  have h0 := h
  obtain ⟨sp, cap, rfl, hcap1, hcap2, hrow⟩ := h
  refine enter (args := [.slice sp l.length cap]) Try.func9 rfl Try.ntmps9 rfl ?_
  repeat (first | ((with_reducible refine WL.topT ?_ ?_); omega) | ((with_reducible refine WL.topF ?_ ?_); omega) | ((with_reducible refine WL.top64 ?_ ?_); omega) | refine WC.seq ?_ | refine WC.block ?_ | refine WC.region ?_ | refine WL.nil ?_ | refine WC.skip ?_ | refine WC.exit ?_ | refine WC.ret ?_ | refine WQ.then rfl ?_ | refine WQ.thenExit ?_ | refine WQ.thenRet ?_ | refine WQ.blk ?_ | refine WQ.blkRet ?_ | refine WQ.blkHere rfl ?_ | refine WQ.blkOther rfl ?_ | refine WL.pure rfl rfl rfl rfl ?_ | refine WL.on rfl rfl ?_ | refine WL.off rfl rfl rfl ?_ | refine WC.condTrue rfl ?_ | refine WC.condFalse rfl ?_)
  refine WC.loop (fun i : Nat => [(0, .slice sp l.length cap), (4, .int .i64 i)])
    (fun i w' => i ≤ l.length ∧ Below w0.heap.size w0 w' ∧ ∀ j, j < i → chk 16 (l.getD j noV) = 0) (fun i => l.length - i) 0 ⟨rfl, rfl, trivial⟩ ⟨Nat.zero_le _, hbel, fun j hj => absurd hj (by omega)⟩ ?_
  rintro i wr ⟨hi, hbelr, hall⟩
  by_cases hik : i < l.length
  · obtain ⟨kb, ko, rfl, hkb, hcells⟩ := hrow (by omega)
    obtain ⟨c, hc6, hci, hcr⟩ := hcells i hik
    have hcr' : wr.rangeAt kb (ko + i * 6) c := fun j u hu => by rw [hbelr.cell (p := ⟨kb, ko + i * 6 + j, none⟩) hkb]; exact hcr j u hu
    repeat (first | ((with_reducible refine WL.topT ?_ ?_); omega) | ((with_reducible refine WL.topF ?_ ?_); omega) | ((with_reducible refine WL.top64 ?_ ?_); omega) | refine WC.seq ?_ | refine WC.block ?_ | refine WC.region ?_ | refine WL.nil ?_ | refine WC.skip ?_ | refine WC.exit ?_ | refine WC.ret ?_ | refine WQ.then rfl ?_ | refine WQ.thenExit ?_ | refine WQ.thenRet ?_ | refine WQ.blk ?_ | refine WQ.blkRet ?_ | refine WQ.blkHere rfl ?_ | refine WQ.blkOther rfl ?_ | refine WL.pure rfl rfl rfl rfl ?_ | refine WL.on rfl rfl ?_ | refine WL.off rfl rfl rfl ?_ | refine WC.condTrue rfl ?_ | refine WC.condFalse rfl ?_)
    refine WL.idx i (ko + i * 6) rfl rfl rfl rfl rfl rfl rfl rfl hik rfl ?_
    refine WL.loadMid rfl rfl rfl rfl rfl rfl hcr' hc6 ?_
    refine WL.call rfl rfl rfl rfl rfl Try.func20 rfl (by kernel_rfl) (rCheck_any (hci.below hbelr)) ?_
    rintro e w4 ⟨rfl, hb4⟩
    refine ⟨_, rfl, ?_⟩
    have hbel4 : Below w0.heap.size w0 w4 := hbelr.trans (hb4.mono hbelr.size)
    by_cases h0 : chk 16 (l.getD i noV) = 0
    · repeat (first | ((with_reducible refine WL.topT ?_ ?_); omega) | ((with_reducible refine WL.topF ?_ ?_); omega) | ((with_reducible refine WL.top64 ?_ ?_); omega) | refine WC.seq ?_ | refine WC.block ?_ | refine WC.region ?_ | refine WL.nil ?_ | refine WC.skip ?_ | refine WC.exit ?_ | refine WC.ret ?_ | refine WQ.then rfl ?_ | refine WQ.thenExit ?_ | refine WQ.thenRet ?_ | refine WQ.blk ?_ | refine WQ.blkRet ?_ | refine WQ.blkHere rfl ?_ | refine WQ.blkOther rfl ?_ | refine WL.pure rfl rfl rfl rfl ?_ | refine WL.on rfl rfl ?_ | refine WL.off rfl rfl rfl ?_ | refine WC.condTrue rfl ?_ | refine WC.condFalse rfl ?_)
      refine WQ.again (i + 1) ⟨rfl, rfl, trivial⟩ ⟨hik, hbel4, fun j hj => (Nat.lt_succ_iff_lt_or_eq.1 hj).elim (hall j) (fun e => by rw [e]; exact h0)⟩ (by show l.length - (i + 1) < l.length - i; omega)
    · have hfb : firstBad (l.map (chk 16)) = chk 16 (l.getD i noV) := by
        rw [firstBad_take (i := i) (by rw [List.length_map]; exact hik) (fun j hj => by rw [chk_map 16 l j (by omega)]; exact hall j hj) (by rw [chk_map 16 l i hik]; exact h0), chk_map 16 l i hik]
      repeat (first | ((with_reducible refine WL.topT ?_ ?_); omega) | ((with_reducible refine WL.topF ?_ ?_); omega) | ((with_reducible refine WL.top64 ?_ ?_); omega) | refine WC.seq ?_ | refine WC.block ?_ | refine WC.region ?_ | refine WL.nil ?_ | refine WC.skip ?_ | refine WC.exit ?_ | refine WC.ret ?_ | refine WQ.then rfl ?_ | refine WQ.thenExit ?_ | refine WQ.thenRet ?_ | refine WQ.blk ?_ | refine WQ.blkRet ?_ | refine WQ.blkHere rfl ?_ | refine WQ.blkOther rfl ?_ | refine WL.pure rfl rfl rfl rfl ?_ | refine WL.on rfl rfl ?_ | refine WL.off rfl rfl rfl ?_ | refine WC.condTrue rfl ?_ | refine WC.condFalse rfl ?_)
      refine WQ.ret2 rfl rfl rfl ⟨?_, hbel4⟩
      unfold keyOf
      rw [hfb, if_neg h0]
  · obtain rfl : i = l.length := by omega
    have hfb : firstBad (l.map (chk 16)) = 0 := firstBad_all fun j hj => by rw [List.length_map] at hj; rw [chk_map 16 l j hj]; exact hall j hj
    repeat (first | ((with_reducible refine WL.topT ?_ ?_); omega) | ((with_reducible refine WL.topF ?_ ?_); omega) | ((with_reducible refine WL.top64 ?_ ?_); omega) | refine WC.seq ?_ | refine WC.block ?_ | refine WC.region ?_ | refine WL.nil ?_ | refine WC.skip ?_ | refine WC.exit ?_ | refine WC.ret ?_ | refine WQ.then rfl ?_ | refine WQ.thenExit ?_ | refine WQ.thenRet ?_ | refine WQ.blk ?_ | refine WQ.blkRet ?_ | refine WQ.blkHere rfl ?_ | refine WQ.blkOther rfl ?_ | refine WL.pure rfl rfl rfl rfl ?_ | refine WL.on rfl rfl ?_ | refine WL.off rfl rfl rfl ?_ | refine WC.condTrue rfl ?_ | refine WC.condFalse rfl ?_)
    refine WL.call rfl rfl rfl rfl rfl Try.func21 rfl (by kernel_rfl) (rOf_any h0 hbelr hall (hm hfb)) ?_
    rintro e w4 ⟨rfl, hb4⟩
    refine ⟨_, rfl, ?_⟩
    repeat (first | ((with_reducible refine WL.topT ?_ ?_); omega) | ((with_reducible refine WL.topF ?_ ?_); omega) | ((with_reducible refine WL.top64 ?_ ?_); omega) | refine WC.seq ?_ | refine WC.block ?_ | refine WC.region ?_ | refine WL.nil ?_ | refine WC.skip ?_ | refine WC.exit ?_ | refine WC.ret ?_ | refine WQ.then rfl ?_ | refine WQ.thenExit ?_ | refine WQ.thenRet ?_ | refine WQ.blk ?_ | refine WQ.blkRet ?_ | refine WQ.blkHere rfl ?_ | refine WQ.blkOther rfl ?_ | refine WL.pure rfl rfl rfl rfl ?_ | refine WL.on rfl rfl ?_ | refine WL.off rfl rfl rfl ?_ | refine WC.condTrue rfl ?_ | refine WC.condFalse rfl ?_)
    refine WQ.ret2 rfl rfl rfl ⟨?_, hb4⟩
    unfold keyOf
    rw [hfb, if_pos rfl]

theorem heavy_any {f : Nat} {w0 w : World} {sl : Value} {l : List V} (h : IsVs f w0 sl l) (hsm : ∀ x ∈ l, Sml f x) (hbel : Below w0.heap.size w0 w) :
    Calls Try.prog 7 #[sl] w fun e w' => e = .returned (.bool (decide (2000 < grtK 2000 (grt 2000 f) l 0))) ∧ Below w0.heap.size w0 w' := by
  obtain ⟨sp, cap, rfl, hcap1, hcap2, hrow⟩ := h
  refine enter (args := [.slice sp l.length cap]) Try.func7 rfl Try.ntmps7 rfl ?_
  repeat (first | ((with_reducible refine WL.topT ?_ ?_); omega) | ((with_reducible refine WL.topF ?_ ?_); omega) | ((with_reducible refine WL.top64 ?_ ?_); omega) | refine WC.seq ?_ | refine WC.block ?_ | refine WC.region ?_ | refine WL.nil ?_ | refine WC.skip ?_ | refine WC.exit ?_ | refine WC.ret ?_ | refine WQ.then rfl ?_ | refine WQ.thenExit ?_ | refine WQ.thenRet ?_ | refine WQ.blk ?_ | refine WQ.blkRet ?_ | refine WQ.blkHere rfl ?_ | refine WQ.blkOther rfl ?_ | refine WL.pure rfl rfl rfl rfl ?_ | refine WL.on rfl rfl ?_ | refine WL.off rfl rfl rfl ?_ | refine WC.condTrue rfl ?_ | refine WC.condFalse rfl ?_)
  refine WL.alloc (z := .int .i64 0) rfl rfl rfl rfl (fun _ => by kernel_rfl) fun g w1 hf => ?_
  have hblk : VBlk 3 w1 g [.int .i64 0] := hf.blk
  have hg0 : w0.heap.size ≤ g := by rw [hf.eq]; exact hbel.size
  have hbel1 : Below w0.heap.size w0 w1 := hbel.trans (hf.below.mono hbel.size)
  refine WL.store rfl rfl rfl rfl rfl rfl (by kernel_rfl) (hblk.cell 0 (by simp)) (hblk.free 0) ?_
  have hblk2 : VBlk 3 (w1.setCell ⟨g, 0, none⟩ (.int .i64 0)) g [.int .i64 0] := hblk.set 0 (.int .i64 0)
  have hbel2 : Below w0.heap.size w0 (w1.setCell ⟨g, 0, none⟩ (.int .i64 0)) := ((Keep.of_below hbel1).setCell (Nat.not_lt.2 hg0) _).below
  generalize w1.setCell ⟨g, 0, none⟩ (.int .i64 0) = w2 at hblk2 hbel2
  repeat (first | ((with_reducible refine WL.topT ?_ ?_); omega) | ((with_reducible refine WL.topF ?_ ?_); omega) | ((with_reducible refine WL.top64 ?_ ?_); omega) | refine WC.seq ?_ | refine WC.block ?_ | refine WC.region ?_ | refine WL.nil ?_ | refine WC.skip ?_ | refine WC.exit ?_ | refine WC.ret ?_ | refine WQ.then rfl ?_ | refine WQ.thenExit ?_ | refine WQ.thenRet ?_ | refine WQ.blk ?_ | refine WQ.blkRet ?_ | refine WQ.blkHere rfl ?_ | refine WQ.blkOther rfl ?_ | refine WL.pure rfl rfl rfl rfl ?_ | refine WL.on rfl rfl ?_ | refine WL.off rfl rfl rfl ?_ | refine WC.condTrue rfl ?_ | refine WC.condFalse rfl ?_)
  refine WC.loop (fun i : Nat => [(0, .slice sp l.length cap), (3, .pointer (some ⟨g, 0, none⟩)), (4, .int .i64 i)])
    (fun i w' => i ≤ l.length ∧ Below w0.heap.size w0 w' ∧ ∃ x : Nat, x ≤ 2000 ∧ VBlk 3 w' g [.int .i64 x] ∧ grtK 2000 (grt 2000 f) (l.drop i) x = grtK 2000 (grt 2000 f) l 0) (fun i => l.length - i) 0 ⟨rfl, rfl, rfl, trivial⟩ ⟨Nat.zero_le _, hbel2, 0, by decide, hblk2, rfl⟩ ?_
  rintro i wr ⟨hi, hbelr, x, hx2, hbx, hx⟩
  generalize hRR : grtK 2000 (grt 2000 f) l 0 = RR at hx ⊢
  by_cases hik : i < l.length
  · obtain ⟨kb, ko, rfl, hkb, hcells⟩ := hrow (by omega)
    obtain ⟨c, hc6, hci, hcr⟩ := hcells i hik
    have hdr : l.drop i = l.getD i noV :: l.drop (i + 1) := by
      rw [List.drop_eq_getElem_cons hik]
      simp [hik]
    rw [hdr] at hx
    unfold grtK at hx
    rw [if_pos hx2] at hx
    have hcr' : wr.rangeAt kb (ko + i * 6) c := fun j u hu => by rw [hbelr.cell (p := ⟨kb, ko + i * 6 + j, none⟩) hkb]; exact hcr j u hu
    repeat (first | ((with_reducible refine WL.topT ?_ ?_); omega) | ((with_reducible refine WL.topF ?_ ?_); omega) | ((with_reducible refine WL.top64 ?_ ?_); omega) | refine WC.seq ?_ | refine WC.block ?_ | refine WC.region ?_ | refine WL.nil ?_ | refine WC.skip ?_ | refine WC.exit ?_ | refine WC.ret ?_ | refine WQ.then rfl ?_ | refine WQ.thenExit ?_ | refine WQ.thenRet ?_ | refine WQ.blk ?_ | refine WQ.blkRet ?_ | refine WQ.blkHere rfl ?_ | refine WQ.blkOther rfl ?_ | refine WL.pure rfl rfl rfl rfl ?_ | refine WL.on rfl rfl ?_ | refine WL.off rfl rfl rfl ?_ | refine WC.condTrue rfl ?_ | refine WC.condFalse rfl ?_)
    refine WL.idx i (ko + i * 6) rfl rfl rfl rfl rfl rfl rfl rfl hik rfl ?_
    refine WL.loadMid rfl rfl rfl rfl rfl rfl hcr' hc6 ?_
    refine WL.call rfl rfl rfl rfl rfl Try.func17 rfl (by kernel_rfl) (great_any f hci (hsm _ (by rw [List.getD_eq_getElem?_getD, List.getElem?_eq_getElem hik]; exact List.getElem_mem hik)) hbelr hg0 hbx hx2) ?_
    rintro e w4 ⟨rfl, hb4, hk4⟩
    refine ⟨_, rfl, ?_⟩
    have hbel4 : Below w0.heap.size w0 w4 := hbelr.trans (hk4.mono fun b hb => ⟨Nat.lt_of_lt_of_le hb hbelr.size, Nat.ne_of_lt (Nat.lt_of_lt_of_le hb hg0)⟩ : Keep (fun b => b < w0.heap.size) wr w4).below
    by_cases h20 : 2000 < grt 2000 f (l.getD i noV) x
    · rw [grtK_over _ h20] at hx
      repeat (first | ((with_reducible refine WL.topT ?_ ?_); omega) | ((with_reducible refine WL.topF ?_ ?_); omega) | ((with_reducible refine WL.top64 ?_ ?_); omega) | refine WC.seq ?_ | refine WC.block ?_ | refine WC.region ?_ | refine WL.nil ?_ | refine WC.skip ?_ | refine WC.exit ?_ | refine WC.ret ?_ | refine WQ.then rfl ?_ | refine WQ.thenExit ?_ | refine WQ.thenRet ?_ | refine WQ.blk ?_ | refine WQ.blkRet ?_ | refine WQ.blkHere rfl ?_ | refine WQ.blkOther rfl ?_ | refine WL.pure rfl rfl rfl rfl ?_ | refine WL.on rfl rfl ?_ | refine WL.off rfl rfl rfl ?_ | refine WC.condTrue rfl ?_ | refine WC.condFalse rfl ?_)
      refine WQ.ret1 rfl rfl ⟨congrArg (fun b => Ending.returned (Value.bool b)) (decide_eq_true ?_).symm, hbel4⟩
      rw [← hx]; exact h20
    · repeat (first | ((with_reducible refine WL.topT ?_ ?_); omega) | ((with_reducible refine WL.topF ?_ ?_); omega) | ((with_reducible refine WL.top64 ?_ ?_); omega) | refine WC.seq ?_ | refine WC.block ?_ | refine WC.region ?_ | refine WL.nil ?_ | refine WC.skip ?_ | refine WC.exit ?_ | refine WC.ret ?_ | refine WQ.then rfl ?_ | refine WQ.thenExit ?_ | refine WQ.thenRet ?_ | refine WQ.blk ?_ | refine WQ.blkRet ?_ | refine WQ.blkHere rfl ?_ | refine WQ.blkOther rfl ?_ | refine WL.pure rfl rfl rfl rfl ?_ | refine WL.on rfl rfl ?_ | refine WL.off rfl rfl rfl ?_ | refine WC.condTrue rfl ?_ | refine WC.condFalse rfl ?_)
      exact WQ.again (i + 1) ⟨rfl, rfl, rfl, trivial⟩ ⟨hik, hbel4, _, by omega, hb4, hx⟩ (by show l.length - (i + 1) < l.length - i; omega)
  · obtain rfl : i = l.length := by omega
    rw [List.drop_length] at hx
    unfold grtK at hx
    repeat (first | ((with_reducible refine WL.topT ?_ ?_); omega) | ((with_reducible refine WL.topF ?_ ?_); omega) | ((with_reducible refine WL.top64 ?_ ?_); omega) | refine WC.seq ?_ | refine WC.block ?_ | refine WC.region ?_ | refine WL.nil ?_ | refine WC.skip ?_ | refine WC.exit ?_ | refine WC.ret ?_ | refine WQ.then rfl ?_ | refine WQ.thenExit ?_ | refine WQ.thenRet ?_ | refine WQ.blk ?_ | refine WQ.blkRet ?_ | refine WQ.blkHere rfl ?_ | refine WQ.blkOther rfl ?_ | refine WL.pure rfl rfl rfl rfl ?_ | refine WL.on rfl rfl ?_ | refine WL.off rfl rfl rfl ?_ | refine WC.condTrue rfl ?_ | refine WC.condFalse rfl ?_)
    refine WQ.ret1 rfl rfl ⟨congrArg (fun b => Ending.returned (Value.bool b)) (decide_eq_false ?_).symm, hbelr⟩
    rw [← hx]; omega
end K
end Go.Proofs.Ytfpakjbaiohcaaa
