/- Keys (chapter 8), the document's answer: a value's key. -/
import Derived.Test.YtfpakjbaiohcaaaOrdRn
namespace Go.Proofs.Ytfpakjbaiohcaaa
open Go.RowKit
namespace K

set_option maxRecDepth 100000 in
set_option maxHeartbeats 8000000 in
theorem rkey_step (m : Nat) (ih : ∀ {f : Nat} {w0 w : World} {v : V} {cs : List Value} {b : Value} {l : List Int}, IsV f w0 v cs → chk m v = 0 → Bu w b l → Apart w0 w b → l.length + (keyV m v).length ≤ 70368744177664 →
      Calls Try.prog 35 #[b, .agg cs.toArray] w fun e w' => ∃ b', e = .returned b' ∧ Bu w' b' (l ++ keyV m v) ∧ Grow w b w' b') {f : Nat} {w0 w : World} {v : V} {cs : List Value} {b : Value} {l : List Int}
    (hv : IsV f w0 v cs) (hc : chk (m + 1) v = 0) (hb : Bu w b l) (ha : Apart w0 w b) (hm : l.length + (keyV (m + 1) v).length ≤ 70368744177664) :
    Calls Try.prog 35 #[b, .agg cs.toArray] w fun e w' => ∃ b', e = .returned b' ∧ Bu w' b' (l ++ keyV (m + 1) v) ∧ Grow w b w' b' := by
  obtain ⟨hk, f2, f3, f4, f5, fk, ft, f9⟩ := shp_form (chk_shp hc)
  cases f with
  | zero => exact hv.elim
  | succ f =>
  obtain ⟨sn, sk, rfl, wk, wn, ws, -, hnames, hkids⟩ := hv
  have hkey := keyV_two (m := m) (v := v)
  rw [hkey] at hm
  have hn : -9223372036854775808 ≤ v.n ∧ v.n ≤ 9223372036854775807 := by simp [Lit.wf, IntKind.min, IntKind.max, IntKind.bits, IntKind.signed] at wn; omega
  refine enter (args := [b, .agg (six v sn sk).toArray]) Try.func35 rfl Try.ntmps35 rfl ?_
  repeat (first | ((with_reducible refine WL.topT ?_ ?_); omega) | ((with_reducible refine WL.topF ?_ ?_); omega) | ((with_reducible refine WL.top64 ?_ ?_); omega) | refine WC.seq ?_ | refine WC.block ?_ | refine WC.region ?_ | refine WL.nil ?_ | refine WC.skip ?_ | refine WC.exit ?_ | refine WC.ret ?_ | refine WQ.then rfl ?_ | refine WQ.thenExit ?_ | refine WQ.thenRet ?_ | refine WQ.blk ?_ | refine WQ.blkRet ?_ | refine WQ.blkHere rfl ?_ | refine WQ.blkOther rfl ?_ | refine WL.pure rfl rfl rfl rfl ?_ | refine WL.on rfl rfl ?_ | refine WL.off rfl rfl rfl ?_ | refine WC.condTrue rfl ?_ | refine WC.condFalse rfl ?_)
  refine WL.box rfl rfl rfl rfl rfl fun g w1 hf => ?_
  have hf' : Fresh w g w1 37 (six v sn sk) := hf
  clear hf
  have hb1 : Bu w1 b l := hb.below hf'.below
  have hg1 : Grow w b w1 b := (Grow.refl w b).below hf'.below
  have ha1 : Apart w0 w1 b := ha.grow hg1
  have hR : ∀ {wk vk}, Grow w1 b wk vk → VBlk 37 wk g (six v sn sk) := fun h => hf'.stand hb h
  have hl1 : l.length + 1 ≤ 70368744177664 := by simp at hm; omega
  have c0 : w1.cell? ⟨g, 0, none⟩ = some (.int .i64 v.k) := hf'.blk.cell 0 (by simp)
  have c1 : w1.cell? ⟨g, 1, none⟩ = some (.int .i64 v.n) := hf'.blk.cell 1 (by simp)
  have c3 : w1.cell? ⟨g, 3, none⟩ = some (.string v.t) := hf'.blk.cell 3 (by simp)
  have fin : ∀ {b' w' x}, Bu w' b' (l ++ x) → Grow w1 b w' b' → (x = keyV (m + 1) v) → ∃ b'', Ending.returned b' = .returned b'' ∧ Bu w' b'' (l ++ keyV (m + 1) v) ∧ Grow w b w' b'' :=
    fun {b' w' x} h1 h2 h3 => ⟨b', rfl, by rw [← h3]; exact h1, hg1.trans h2⟩
  have hl3 : l.length + (keyV (m + 1) v).length ≤ 70368744177664 := by rw [hkey]; exact hm
  clear wk wn ws
  by_cases k1 : v.k = 1
  · have hkx : keyV (m + 1) v = [16] := by rw [hkey, k1]; rfl
    repeat (first | ((with_reducible refine WL.topT ?_ ?_); omega) | ((with_reducible refine WL.topF ?_ ?_); omega) | ((with_reducible refine WL.top64 ?_ ?_); omega) | refine WC.seq ?_ | refine WC.block ?_ | refine WC.region ?_ | refine WL.nil ?_ | refine WC.skip ?_ | refine WC.exit ?_ | refine WC.ret ?_ | refine WQ.then rfl ?_ | refine WQ.thenExit ?_ | refine WQ.thenRet ?_ | refine WQ.blk ?_ | refine WQ.blkRet ?_ | refine WQ.blkHere rfl ?_ | refine WQ.blkOther rfl ?_ | refine WL.pure rfl rfl rfl rfl ?_ | refine WL.on rfl rfl ?_ | refine WL.off rfl rfl rfl ?_ | refine WL.load rfl rfl rfl rfl rfl rfl (by assumption) ?_ | refine WC.condTrue rfl ?_ | refine WC.condFalse rfl ?_)
    refine WL.push rfl rfl rfl rfl rfl rfl rfl rfl rfl rfl rfl (fun _ => rfl) rfl hb1 (by simp; omega) fun b2 w2 hb2 hg2 => ?_
    repeat (first | ((with_reducible refine WL.topT ?_ ?_); omega) | ((with_reducible refine WL.topF ?_ ?_); omega) | ((with_reducible refine WL.top64 ?_ ?_); omega) | refine WC.seq ?_ | refine WC.block ?_ | refine WC.region ?_ | refine WL.nil ?_ | refine WC.skip ?_ | refine WC.exit ?_ | refine WC.ret ?_ | refine WQ.then rfl ?_ | refine WQ.thenExit ?_ | refine WQ.thenRet ?_ | refine WQ.blk ?_ | refine WQ.blkRet ?_ | refine WQ.blkHere rfl ?_ | refine WQ.blkOther rfl ?_ | refine WL.pure rfl rfl rfl rfl ?_ | refine WL.on rfl rfl ?_ | refine WL.off rfl rfl rfl ?_ | refine WC.condTrue rfl ?_ | refine WC.condFalse rfl ?_)
    exact WQ.ret1 rfl rfl (fin hb2 hg2 hkx.symm)
  by_cases k2 : v.k = 2
  · have hx := f2 k2
    have e8 : IntKind.u8.wrap v.n = v.n := by rw [IntKind.wrap_u8]; omega
    have hkx : keyV (m + 1) v = [32, v.n] := by rw [hkey, if_pos k2, k2]; rfl
    rw [hkx] at hl3
    simp at hl3
    repeat (first | ((with_reducible refine WL.topT ?_ ?_); omega) | ((with_reducible refine WL.topF ?_ ?_); omega) | ((with_reducible refine WL.top64 ?_ ?_); omega) | refine WC.seq ?_ | refine WC.block ?_ | refine WC.region ?_ | refine WL.nil ?_ | refine WC.skip ?_ | refine WC.exit ?_ | refine WC.ret ?_ | refine WQ.then rfl ?_ | refine WQ.thenExit ?_ | refine WQ.thenRet ?_ | refine WQ.blk ?_ | refine WQ.blkRet ?_ | refine WQ.blkHere rfl ?_ | refine WQ.blkOther rfl ?_ | refine WL.pure rfl rfl rfl rfl ?_ | refine WL.on rfl rfl ?_ | refine WL.off rfl rfl rfl ?_ | refine WL.load rfl rfl rfl rfl rfl rfl (by assumption) ?_ | refine WC.condTrue rfl ?_ | refine WC.condFalse rfl ?_)
    refine WL.push rfl rfl rfl rfl rfl rfl rfl rfl rfl rfl rfl (fun _ => rfl) rfl hb1 (by simp; omega) fun b2 w2 hb2 hg2 => ?_
    rw [e8] at hb2
    repeat (first | ((with_reducible refine WL.topT ?_ ?_); omega) | ((with_reducible refine WL.topF ?_ ?_); omega) | ((with_reducible refine WL.top64 ?_ ?_); omega) | refine WC.seq ?_ | refine WC.block ?_ | refine WC.region ?_ | refine WL.nil ?_ | refine WC.skip ?_ | refine WC.exit ?_ | refine WC.ret ?_ | refine WQ.then rfl ?_ | refine WQ.thenExit ?_ | refine WQ.thenRet ?_ | refine WQ.blk ?_ | refine WQ.blkRet ?_ | refine WQ.blkHere rfl ?_ | refine WQ.blkOther rfl ?_ | refine WL.pure rfl rfl rfl rfl ?_ | refine WL.on rfl rfl ?_ | refine WL.off rfl rfl rfl ?_ | refine WC.condTrue rfl ?_ | refine WC.condFalse rfl ?_)
    exact WQ.ret1 rfl rfl (fin hb2 hg2 hkx.symm)
  by_cases k34 : v.k = 3 ∨ v.k = 4
  · have hs : 0 ≤ v.s ∧ v.s ≤ 18 := by
      rcases k34 with h | h
      · have := f3 h; omega
      · have := f4 h; omega
    have hcl : classI v.k = 48 := by rcases k34 with h | h <;> rw [h] <;> rfl
    have hkx : keyV (m + 1) v = [48] ++ numB v.n v.s := by rw [hkey, if_neg k2, if_pos k34, hcl]; rfl
    rw [hkx] at hl3
    simp at hl3
    rcases k34 with k3 | k4
    all_goals
      repeat (first | ((with_reducible refine WL.topT ?_ ?_); omega) | ((with_reducible refine WL.topF ?_ ?_); omega) | ((with_reducible refine WL.top64 ?_ ?_); omega) | refine WC.seq ?_ | refine WC.block ?_ | refine WC.region ?_ | refine WL.nil ?_ | refine WC.skip ?_ | refine WC.exit ?_ | refine WC.ret ?_ | refine WQ.then rfl ?_ | refine WQ.thenExit ?_ | refine WQ.thenRet ?_ | refine WQ.blk ?_ | refine WQ.blkRet ?_ | refine WQ.blkHere rfl ?_ | refine WQ.blkOther rfl ?_ | refine WL.pure rfl rfl rfl rfl ?_ | refine WL.on rfl rfl ?_ | refine WL.off rfl rfl rfl ?_ | refine WL.load rfl rfl rfl rfl rfl rfl (by assumption) ?_ | refine WC.condTrue rfl ?_ | refine WC.condFalse rfl ?_)
      refine WC.drawn 4 (fun wx => VBlk 37 wx g (six v sn sk)) fun w2 hd2 => ?_
      have hS : VBlk 37 w2 g (six v sn sk) := hf'.blk.below (hd2.below _) hf'.blk.lt
      have hb2 : Bu w2 b l := hb1.below (hd2.below _)
      have hg2 : Grow w1 b w2 b := (Grow.refl w1 b).below (hd2.below _)
      (((first | refine WD.free 0 rfl (by kernel_rfl) rfl rfl (fun _ _ _ _ _ h => h) rfl rfl (.inr hS) ?_ | refine WD.skip 0 rfl (by kernel_rfl) rfl rfl (fun _ _ _ _ _ h => h) rfl (.inr hS) ?_); try (first | ((with_reducible refine WD.topT ?_ ?_); omega) | ((with_reducible refine WD.topF ?_ ?_); omega) | ((with_reducible refine WD.top64 ?_ ?_); omega))))
      refine WD.loadMid 3 [4] rfl (by kernel_rfl) rfl rfl (fun _ _ _ _ _ h => h) rfl rfl rfl rfl (fun wx hx => VBlk.rangeAt hx) rfl hS ?_
      refine WD.one 1 (by kernel_rfl) rfl ?_
      refine WL.lit rfl rfl rfl rfl rfl rfl rfl fun u5 w5 hu5 hk5 hn5 => ?_
      refine WL.nil (WQ.dk (.inr (hS.below hk5 hS.lt)) ?_)
      refine WD.one 2 (by kernel_rfl) rfl ?_
      refine WL.app rfl rfl rfl rfl rfl (hb2.below hk5) rfl hu5.sl (by simp; omega) fun b6 w6 hb6 hg6 => ?_
      have hg6' : Grow w1 b w6 b6 := (hg2.below hk5).trans hg6
      refine WL.nil (WQ.dk (.inr (hR hg6')) ?_)
      refine WD.one 4 (by kernel_rfl) rfl ?_
      refine WL.call rfl rfl rfl rfl rfl Try.func50 rfl (by kernel_rfl) (rnumber_any v sn sk w6 hn.1 hn.2 hs.1 hs.2) ?_
      rintro e w7 ⟨b7, rfl, hb7, hk7, hn7⟩
      refine ⟨_, rfl, ?_⟩
      refine WL.nil (WQ.dk (.inl rfl) ?_)
      refine WD.one 5 (by kernel_rfl) rfl ?_
      refine WL.app rfl rfl rfl rfl rfl (hb6.below hk7) rfl hb7.sl (by simp; omega) fun b8 w8 hb8 hg8 => ?_
      refine WL.nil (WQ.dk (.inl rfl) ?_)
      refine WD.one 6 (by kernel_rfl) rfl ?_
      refine WL.pure rfl rfl rfl rfl ?_
      refine WL.nil (WQ.dk (.inl rfl) ?_)
      refine WD.done (by kernel_rfl) ?_
      repeat (first | ((with_reducible refine WL.topT ?_ ?_); omega) | ((with_reducible refine WL.topF ?_ ?_); omega) | ((with_reducible refine WL.top64 ?_ ?_); omega) | refine WC.seq ?_ | refine WC.block ?_ | refine WC.region ?_ | refine WL.nil ?_ | refine WC.skip ?_ | refine WC.exit ?_ | refine WC.ret ?_ | refine WQ.then rfl ?_ | refine WQ.thenExit ?_ | refine WQ.thenRet ?_ | refine WQ.blk ?_ | refine WQ.blkRet ?_ | refine WQ.blkHere rfl ?_ | refine WQ.blkOther rfl ?_ | refine WL.pure rfl rfl rfl rfl ?_ | refine WL.on rfl rfl ?_ | refine WL.off rfl rfl rfl ?_ | refine WC.condTrue rfl ?_ | refine WC.condFalse rfl ?_)
      exact WQ.ret1 rfl rfl (fin (by rw [← List.append_assoc]; exact hb8) (hg6'.trans (((Grow.refl w6 b6).below hk7).trans hg8)) hkx.symm)
  by_cases k5 : v.k = 5
  · have hx := f5 k5
    have e8 : IntKind.u64.wrap v.n = v.n := by rw [IntKind.wrap_u64]; omega
    have hkx : keyV (m + 1) v = [64] ++ bigI v.n := by rw [hkey, if_neg k2, if_neg k34, if_pos k5, k5]; rfl
    rw [hkx] at hl3
    simp at hl3
    repeat (first | ((with_reducible refine WL.topT ?_ ?_); omega) | ((with_reducible refine WL.topF ?_ ?_); omega) | ((with_reducible refine WL.top64 ?_ ?_); omega) | refine WC.seq ?_ | refine WC.block ?_ | refine WC.region ?_ | refine WL.nil ?_ | refine WC.skip ?_ | refine WC.exit ?_ | refine WC.ret ?_ | refine WQ.then rfl ?_ | refine WQ.thenExit ?_ | refine WQ.thenRet ?_ | refine WQ.blk ?_ | refine WQ.blkRet ?_ | refine WQ.blkHere rfl ?_ | refine WQ.blkOther rfl ?_ | refine WL.pure rfl rfl rfl rfl ?_ | refine WL.on rfl rfl ?_ | refine WL.off rfl rfl rfl ?_ | refine WL.load rfl rfl rfl rfl rfl rfl (by assumption) ?_ | refine WC.condTrue rfl ?_ | refine WC.condFalse rfl ?_)
    refine WC.drawn 6 (fun wx => VBlk 37 wx g (six v sn sk)) fun w2 hd2 => ?_
    have hS : VBlk 37 w2 g (six v sn sk) := hf'.blk.below (hd2.below _) hf'.blk.lt
    have hb2 : Bu w2 b l := hb1.below (hd2.below _)
    have hg2 : Grow w1 b w2 b := (Grow.refl w1 b).below (hd2.below _)
    (((first | refine WD.free 0 rfl (by kernel_rfl) rfl rfl (fun _ _ _ _ _ h => h) rfl rfl (.inr hS) ?_ | refine WD.skip 0 rfl (by kernel_rfl) rfl rfl (fun _ _ _ _ _ h => h) rfl (.inr hS) ?_); try (first | ((with_reducible refine WD.topT ?_ ?_); omega) | ((with_reducible refine WD.topF ?_ ?_); omega) | ((with_reducible refine WD.top64 ?_ ?_); omega))); ((first | refine WD.free 3 rfl (by kernel_rfl) rfl rfl (fun _ _ _ _ _ h => h) rfl rfl (.inr hS) ?_ | refine WD.skip 3 rfl (by kernel_rfl) rfl rfl (fun _ _ _ _ _ h => h) rfl (.inr hS) ?_); try (first | ((with_reducible refine WD.topT ?_ ?_); omega) | ((with_reducible refine WD.topF ?_ ?_); omega) | ((with_reducible refine WD.top64 ?_ ?_); omega))))
    refine WD.load 4 [5, 6] rfl (by kernel_rfl) rfl rfl (fun _ _ _ _ _ h => h) rfl rfl rfl rfl (fun wx hx => hx.cell 1 (by simp)) hS ?_
    (((first | refine WD.free 5 rfl (by kernel_rfl) rfl rfl (fun _ _ _ _ _ h => h) rfl rfl (.inr hS) ?_ | refine WD.skip 5 rfl (by kernel_rfl) rfl rfl (fun _ _ _ _ _ h => h) rfl (.inr hS) ?_); try (first | ((with_reducible refine WD.topT ?_ ?_); omega) | ((with_reducible refine WD.topF ?_ ?_); omega) | ((with_reducible refine WD.top64 ?_ ?_); omega))))
    refine WD.one 1 (by kernel_rfl) rfl ?_
    refine WL.lit rfl rfl rfl rfl rfl rfl rfl fun u5 w5 hu5 hk5 hn5 => ?_
    refine WL.nil (WQ.dk (.inr (hS.below hk5 hS.lt)) ?_)
    refine WD.one 2 (by kernel_rfl) rfl ?_
    refine WL.app rfl rfl rfl rfl rfl (hb2.below hk5) rfl hu5.sl (by simp; omega) fun b6 w6 hb6 hg6 => ?_
    have hg6' : Grow w1 b w6 b6 := (hg2.below hk5).trans hg6
    refine WL.nil (WQ.dk (.inr (hR hg6')) ?_)
    refine WD.one 6 (by kernel_rfl) rfl ?_
    refine WL.call rfl rfl rfl rfl rfl Try.func51 rfl (by kernel_rfl) (by rw [e8]; exact rbig_any v.n w6 hx.1 (by omega)) ?_
    rintro e w7 ⟨b7, rfl, hb7, hk7, hn7⟩
    refine ⟨_, rfl, ?_⟩
    refine WL.nil (WQ.dk (.inl rfl) ?_)
    refine WD.one 7 (by kernel_rfl) rfl ?_
    refine WL.app rfl rfl rfl rfl rfl (hb6.below hk7) rfl hb7.sl (by simp; omega) fun b8 w8 hb8 hg8 => ?_
    refine WL.nil (WQ.dk (.inl rfl) ?_)
    refine WD.one 8 (by kernel_rfl) rfl ?_
    refine WL.pure rfl rfl rfl rfl ?_
    refine WL.nil (WQ.dk (.inl rfl) ?_)
    refine WD.done (by kernel_rfl) ?_
    repeat (first | ((with_reducible refine WL.topT ?_ ?_); omega) | ((with_reducible refine WL.topF ?_ ?_); omega) | ((with_reducible refine WL.top64 ?_ ?_); omega) | refine WC.seq ?_ | refine WC.block ?_ | refine WC.region ?_ | refine WL.nil ?_ | refine WC.skip ?_ | refine WC.exit ?_ | refine WC.ret ?_ | refine WQ.then rfl ?_ | refine WQ.thenExit ?_ | refine WQ.thenRet ?_ | refine WQ.blk ?_ | refine WQ.blkRet ?_ | refine WQ.blkHere rfl ?_ | refine WQ.blkOther rfl ?_ | refine WL.pure rfl rfl rfl rfl ?_ | refine WL.on rfl rfl ?_ | refine WL.off rfl rfl rfl ?_ | refine WC.condTrue rfl ?_ | refine WC.condFalse rfl ?_)
    exact WQ.ret1 rfl rfl (fin (by rw [← List.append_assoc]; exact hb8) (hg6'.trans (((Grow.refl w6 b6).below hk7).trans hg8)) hkx.symm)
  by_cases k67 : v.k = 6 ∨ v.k = 7
  · have hkx : keyV (m + 1) v = [classI v.k] ++ textK v.t.toList := by rw [hkey, if_neg k2, if_neg k34, if_neg k5, if_pos k67]; rfl
    rcases k67 with k6 | k6
    all_goals
      rw [k6] at hkx
      repeat (first | ((with_reducible refine WL.topT ?_ ?_); omega) | ((with_reducible refine WL.topF ?_ ?_); omega) | ((with_reducible refine WL.top64 ?_ ?_); omega) | refine WC.seq ?_ | refine WC.block ?_ | refine WC.region ?_ | refine WL.nil ?_ | refine WC.skip ?_ | refine WC.exit ?_ | refine WC.ret ?_ | refine WQ.then rfl ?_ | refine WQ.thenExit ?_ | refine WQ.thenRet ?_ | refine WQ.blk ?_ | refine WQ.blkRet ?_ | refine WQ.blkHere rfl ?_ | refine WQ.blkOther rfl ?_ | refine WL.pure rfl rfl rfl rfl ?_ | refine WL.on rfl rfl ?_ | refine WL.off rfl rfl rfl ?_ | refine WL.load rfl rfl rfl rfl rfl rfl (by assumption) ?_ | refine WC.condTrue rfl ?_ | refine WC.condFalse rfl ?_)
      refine WC.drawn 5 (fun wx => VBlk 37 wx g (six v sn sk)) fun w2 hd2 => ?_
      have hS : VBlk 37 w2 g (six v sn sk) := hf'.blk.below (hd2.below _) hf'.blk.lt
      have hb2 : Bu w2 b l := hb1.below (hd2.below _)
      have hg2 : Grow w1 b w2 b := (Grow.refl w1 b).below (hd2.below _)
      (((first | refine WD.free 0 rfl (by kernel_rfl) rfl rfl (fun _ _ _ _ _ h => h) rfl rfl (.inr hS) ?_ | refine WD.skip 0 rfl (by kernel_rfl) rfl rfl (fun _ _ _ _ _ h => h) rfl (.inr hS) ?_); try (first | ((with_reducible refine WD.topT ?_ ?_); omega) | ((with_reducible refine WD.topF ?_ ?_); omega) | ((with_reducible refine WD.top64 ?_ ?_); omega))); ((first | refine WD.free 3 rfl (by kernel_rfl) rfl rfl (fun _ _ _ _ _ h => h) rfl rfl (.inr hS) ?_ | refine WD.skip 3 rfl (by kernel_rfl) rfl rfl (fun _ _ _ _ _ h => h) rfl (.inr hS) ?_); try (first | ((with_reducible refine WD.topT ?_ ?_); omega) | ((with_reducible refine WD.topF ?_ ?_); omega) | ((with_reducible refine WD.top64 ?_ ?_); omega))))
      refine WD.load 4 [5] rfl (by kernel_rfl) rfl rfl (fun _ _ _ _ _ h => h) rfl rfl rfl rfl (fun wx hx => hx.cell 3 (by simp)) hS ?_
      refine WD.one 1 (by kernel_rfl) rfl ?_
      refine WL.lit rfl rfl rfl rfl rfl rfl rfl fun u5 w5 hu5 hk5 hn5 => ?_
      refine WL.nil (WQ.dk (.inr (hS.below hk5 hS.lt)) ?_)
      refine WD.one 2 (by kernel_rfl) rfl ?_
      refine WL.app rfl rfl rfl rfl rfl (hb2.below hk5) rfl hu5.sl (by simp; omega) fun b6 w6 hb6 hg6 => ?_
      have hg6' : Grow w1 b w6 b6 := (hg2.below hk5).trans hg6
      refine WL.nil (WQ.dk (.inr (hR hg6')) ?_)
      refine WD.one 5 (by kernel_rfl) rfl ?_
      refine WL.call rfl rfl rfl rfl rfl Try.func52 rfl (by kernel_rfl) (rtexts_any v.t hb6 (by simp; omega)) ?_
      rintro e w7 ⟨b7, rfl, hb7, hg7⟩
      refine ⟨_, rfl, ?_⟩
      refine WL.nil (WQ.dk (.inl rfl) ?_)
      refine WD.one 6 (by kernel_rfl) rfl ?_
      refine WL.pure rfl rfl rfl rfl ?_
      refine WL.nil (WQ.dk (.inl rfl) ?_)
      refine WD.done (by kernel_rfl) ?_
      repeat (first | ((with_reducible refine WL.topT ?_ ?_); omega) | ((with_reducible refine WL.topF ?_ ?_); omega) | ((with_reducible refine WL.top64 ?_ ?_); omega) | refine WC.seq ?_ | refine WC.block ?_ | refine WC.region ?_ | refine WL.nil ?_ | refine WC.skip ?_ | refine WC.exit ?_ | refine WC.ret ?_ | refine WQ.then rfl ?_ | refine WQ.thenExit ?_ | refine WQ.thenRet ?_ | refine WQ.blk ?_ | refine WQ.blkRet ?_ | refine WQ.blkHere rfl ?_ | refine WQ.blkOther rfl ?_ | refine WL.pure rfl rfl rfl rfl ?_ | refine WL.on rfl rfl ?_ | refine WL.off rfl rfl rfl ?_ | refine WC.condTrue rfl ?_ | refine WC.condFalse rfl ?_)
      refine WQ.ret1 rfl rfl (fin ?_ (hg6'.trans hg7) hkx.symm)
      rw [← List.append_assoc]
      exact hb7
  have k89 : v.k = 8 ∨ v.k = 9 := by omega
  obtain ⟨sp, cap, rfl, hcap1, hcap2, hrow⟩ := hkids
  have hkid : ∀ j, j < v.kids.length → chk m (v.kids.getD j noV) = 0 := fun j hj => chk_kid hc hj
  have round : ∀ (st : Bool) (T : Nat), ((List.range v.kids.length).flatMap (pieceK (keyV m) st v.names v.kids)).length = T → ∀ i, i + 1 ≤ v.kids.length → ((List.range i).flatMap (pieceK (keyV m) st v.names v.kids)).length + (pieceK (keyV m) st v.names v.kids i).length ≤ T := fun st T hT i hi => by
    have := range_len_le (pieceK (keyV m) st v.names v.kids) hi
    rw [range_piece, List.length_append, hT] at this
    exact this
  have c5 : w1.cell? ⟨g, 5, none⟩ = some (.slice sp v.kids.length cap) := hf'.blk.cell 5 (by simp)
  by_cases k8 : v.k = 8
  · have hkx : keyV (m + 1) v = [112] ++ ((List.range v.kids.length).flatMap (pieceK (keyV m) false v.names v.kids) ++ [0]) := by
      rw [hkey, if_neg k2, if_neg k34, if_neg k5, if_neg k67, if_pos k89, show decide (v.k = 9) = false from decide_eq_false (by omega), k8]; rfl
    rw [hkx] at hl3
    simp only [List.length_cons, List.length_append, List.length_nil] at hl3
    generalize hT : ((List.range v.kids.length).flatMap (pieceK (keyV m) false v.names v.kids)).length = T at hl3
    have hrd := round false T hT
    repeat (first | ((with_reducible refine WL.topT ?_ ?_); omega) | ((with_reducible refine WL.topF ?_ ?_); omega) | ((with_reducible refine WL.top64 ?_ ?_); omega) | refine WC.seq ?_ | refine WC.block ?_ | refine WC.region ?_ | refine WL.nil ?_ | refine WC.skip ?_ | refine WC.exit ?_ | refine WC.ret ?_ | refine WQ.then rfl ?_ | refine WQ.thenExit ?_ | refine WQ.thenRet ?_ | refine WQ.blk ?_ | refine WQ.blkRet ?_ | refine WQ.blkHere rfl ?_ | refine WQ.blkOther rfl ?_ | refine WL.pure rfl rfl rfl rfl ?_ | refine WL.on rfl rfl ?_ | refine WL.off rfl rfl rfl ?_ | refine WL.load rfl rfl rfl rfl rfl rfl (by assumption) ?_ | refine WC.condTrue rfl ?_ | refine WC.condFalse rfl ?_)
    refine WL.push rfl rfl rfl rfl rfl rfl rfl rfl rfl rfl rfl (fun _ => rfl) rfl hb1 (by simp; omega) fun b2 w2 hb2 hg2 => ?_
    clear c0 c1 c3 c5
    repeat (first | ((with_reducible refine WL.topT ?_ ?_); omega) | ((with_reducible refine WL.topF ?_ ?_); omega) | ((with_reducible refine WL.top64 ?_ ?_); omega) | refine WC.seq ?_ | refine WC.block ?_ | refine WC.region ?_ | refine WL.nil ?_ | refine WC.skip ?_ | refine WC.exit ?_ | refine WC.ret ?_ | refine WQ.then rfl ?_ | refine WQ.thenExit ?_ | refine WQ.thenRet ?_ | refine WQ.blk ?_ | refine WQ.blkRet ?_ | refine WQ.blkHere rfl ?_ | refine WQ.blkOther rfl ?_ | refine WL.pure rfl rfl rfl rfl ?_ | refine WL.on rfl rfl ?_ | refine WL.off rfl rfl rfl ?_ | refine WC.condTrue rfl ?_ | refine WC.condFalse rfl ?_)
    refine WC.loop (fun i : Nat × Value => [(0, i.2), (3, .pointer (some ⟨g, 0, none⟩)), (5, .int .i64 i.1)])
      (fun i w' => i.1 ≤ v.kids.length ∧ Bu w' i.2 (l ++ [112] ++ (List.range i.1).flatMap (pieceK (keyV m) false v.names v.kids)) ∧ Grow w1 b w' i.2) (fun i => v.kids.length - i.1) (0, b2)
      ⟨rfl, rfl, rfl, trivial⟩ ⟨Nat.zero_le _, by simpa using hb2, hg2⟩ ?_
    rintro ⟨i, bb⟩ wr ⟨hi, hbr, hgr⟩
    simp only at hi hbr hgr ⊢
    have c5 : wr.cell? ⟨g, 5, none⟩ = some (.slice sp v.kids.length cap) := (hR hgr).cell 5 (by simp)
    by_cases hik : i < v.kids.length
    · obtain ⟨kb, ko, rfl, hkb, hcells⟩ := hrow (by omega)
      obtain ⟨c, hc6, hci, hcr⟩ := hcells i hik
      clear hrow hcells
      have har := ha1.grow hgr
      have hcr' : wr.rangeAt kb (ko + i * 6) c := fun j u hu => by rw [har.below.cell (p := ⟨kb, ko + i * 6 + j, none⟩) hkb]; exact hcr j u hu
      have hpc : pieceK (keyV m) false v.names v.kids i = keyV m (v.kids.getD i noV) := rfl
      have hro := hrd i hik
      rw [hpc] at hro
      repeat (first | ((with_reducible refine WL.topT ?_ ?_); omega) | ((with_reducible refine WL.topF ?_ ?_); omega) | ((with_reducible refine WL.top64 ?_ ?_); omega) | refine WC.seq ?_ | refine WC.block ?_ | refine WC.region ?_ | refine WL.nil ?_ | refine WC.skip ?_ | refine WC.exit ?_ | refine WC.ret ?_ | refine WQ.then rfl ?_ | refine WQ.thenExit ?_ | refine WQ.thenRet ?_ | refine WQ.blk ?_ | refine WQ.blkRet ?_ | refine WQ.blkHere rfl ?_ | refine WQ.blkOther rfl ?_ | refine WL.pure rfl rfl rfl rfl ?_ | refine WL.on rfl rfl ?_ | refine WL.off rfl rfl rfl ?_ | refine WL.load rfl rfl rfl rfl rfl rfl (by assumption) ?_ | refine WC.condTrue rfl ?_ | refine WC.condFalse rfl ?_)
      refine WL.idx i (ko + i * 6) rfl rfl rfl rfl rfl rfl rfl rfl hik rfl ?_
      refine WL.loadMid rfl rfl rfl rfl rfl rfl hcr' hc6 ?_
      refine WL.call rfl rfl rfl rfl rfl Try.func35 rfl (by kernel_rfl) (ih (w0 := w0) hci (hkid i hik) hbr har (by rw [List.length_append, List.length_append]; simp only [List.length_cons, List.length_nil]; omega)) ?_
      rintro e w4 ⟨b4, rfl, hb4, hg4⟩
      refine ⟨_, rfl, ?_⟩
      repeat (first | ((with_reducible refine WL.topT ?_ ?_); omega) | ((with_reducible refine WL.topF ?_ ?_); omega) | ((with_reducible refine WL.top64 ?_ ?_); omega) | refine WC.seq ?_ | refine WC.block ?_ | refine WC.region ?_ | refine WL.nil ?_ | refine WC.skip ?_ | refine WC.exit ?_ | refine WC.ret ?_ | refine WQ.then rfl ?_ | refine WQ.thenExit ?_ | refine WQ.thenRet ?_ | refine WQ.blk ?_ | refine WQ.blkRet ?_ | refine WQ.blkHere rfl ?_ | refine WQ.blkOther rfl ?_ | refine WL.pure rfl rfl rfl rfl ?_ | refine WL.on rfl rfl ?_ | refine WL.off rfl rfl rfl ?_ | refine WC.condTrue rfl ?_ | refine WC.condFalse rfl ?_)
      refine WQ.again (i + 1, b4) ⟨rfl, rfl, rfl, trivial⟩ ⟨hik, ?_, hgr.trans hg4⟩ (by show v.kids.length - (i + 1) < v.kids.length - i; omega)
      show Bu w4 b4 (l ++ [112] ++ (List.range (i + 1)).flatMap _)
      rw [range_piece, hpc, ← List.append_assoc]
      exact hb4
    · obtain rfl : i = v.kids.length := by omega
      repeat (first | ((with_reducible refine WL.topT ?_ ?_); omega) | ((with_reducible refine WL.topF ?_ ?_); omega) | ((with_reducible refine WL.top64 ?_ ?_); omega) | refine WC.seq ?_ | refine WC.block ?_ | refine WC.region ?_ | refine WL.nil ?_ | refine WC.skip ?_ | refine WC.exit ?_ | refine WC.ret ?_ | refine WQ.then rfl ?_ | refine WQ.thenExit ?_ | refine WQ.thenRet ?_ | refine WQ.blk ?_ | refine WQ.blkRet ?_ | refine WQ.blkHere rfl ?_ | refine WQ.blkOther rfl ?_ | refine WL.pure rfl rfl rfl rfl ?_ | refine WL.on rfl rfl ?_ | refine WL.off rfl rfl rfl ?_ | refine WL.load rfl rfl rfl rfl rfl rfl (by assumption) ?_ | refine WC.condTrue rfl ?_ | refine WC.condFalse rfl ?_)
      refine WL.push rfl rfl rfl rfl rfl rfl rfl rfl rfl rfl rfl (fun _ => rfl) rfl hbr (by rw [List.length_append, List.length_append]; simp only [List.length_cons, List.length_nil]; omega) fun b3 w3 hb3 hg3 => ?_
      repeat (first | ((with_reducible refine WL.topT ?_ ?_); omega) | ((with_reducible refine WL.topF ?_ ?_); omega) | ((with_reducible refine WL.top64 ?_ ?_); omega) | refine WC.seq ?_ | refine WC.block ?_ | refine WC.region ?_ | refine WL.nil ?_ | refine WC.skip ?_ | refine WC.exit ?_ | refine WC.ret ?_ | refine WQ.then rfl ?_ | refine WQ.thenExit ?_ | refine WQ.thenRet ?_ | refine WQ.blk ?_ | refine WQ.blkRet ?_ | refine WQ.blkHere rfl ?_ | refine WQ.blkOther rfl ?_ | refine WL.pure rfl rfl rfl rfl ?_ | refine WL.on rfl rfl ?_ | refine WL.off rfl rfl rfl ?_ | refine WC.condTrue rfl ?_ | refine WC.condFalse rfl ?_)
      refine WQ.ret1 rfl rfl (fin ?_ (hgr.trans hg3) hkx.symm)
      rw [← List.append_assoc, ← List.append_assoc]; exact hb3
  have k9 : v.k = 9 := by omega
  obtain ⟨np, nc, rfl, nl, nc2, nsz, nr⟩ := hnames
  have hnk := (f9 k9).1
  have hkx : keyV (m + 1) v = [128] ++ ((List.range v.kids.length).flatMap (pieceK (keyV m) true v.names v.kids) ++ [0]) := by
    rw [hkey, if_neg k2, if_neg k34, if_neg k5, if_neg k67, if_pos k89, show decide (v.k = 9) = true from decide_eq_true k9, k9]; rfl
  rw [hkx] at hl3
  simp only [List.length_cons, List.length_append, List.length_nil] at hl3
  generalize hT : ((List.range v.kids.length).flatMap (pieceK (keyV m) true v.names v.kids)).length = T at hl3
  have hrd := round true T hT
  repeat (first | ((with_reducible refine WL.topT ?_ ?_); omega) | ((with_reducible refine WL.topF ?_ ?_); omega) | ((with_reducible refine WL.top64 ?_ ?_); omega) | refine WC.seq ?_ | refine WC.block ?_ | refine WC.region ?_ | refine WL.nil ?_ | refine WC.skip ?_ | refine WC.exit ?_ | refine WC.ret ?_ | refine WQ.then rfl ?_ | refine WQ.thenExit ?_ | refine WQ.thenRet ?_ | refine WQ.blk ?_ | refine WQ.blkRet ?_ | refine WQ.blkHere rfl ?_ | refine WQ.blkOther rfl ?_ | refine WL.pure rfl rfl rfl rfl ?_ | refine WL.on rfl rfl ?_ | refine WL.off rfl rfl rfl ?_ | refine WL.load rfl rfl rfl rfl rfl rfl (by assumption) ?_ | refine WC.condTrue rfl ?_ | refine WC.condFalse rfl ?_)
  refine WL.push rfl rfl rfl rfl rfl rfl rfl rfl rfl rfl rfl (fun _ => rfl) rfl hb1 (by simp; omega) fun b2 w2 hb2 hg2 => ?_
  clear c0 c1 c3 c5
  repeat (first | ((with_reducible refine WL.topT ?_ ?_); omega) | ((with_reducible refine WL.topF ?_ ?_); omega) | ((with_reducible refine WL.top64 ?_ ?_); omega) | refine WC.seq ?_ | refine WC.block ?_ | refine WC.region ?_ | refine WL.nil ?_ | refine WC.skip ?_ | refine WC.exit ?_ | refine WC.ret ?_ | refine WQ.then rfl ?_ | refine WQ.thenExit ?_ | refine WQ.thenRet ?_ | refine WQ.blk ?_ | refine WQ.blkRet ?_ | refine WQ.blkHere rfl ?_ | refine WQ.blkOther rfl ?_ | refine WL.pure rfl rfl rfl rfl ?_ | refine WL.on rfl rfl ?_ | refine WL.off rfl rfl rfl ?_ | refine WC.condTrue rfl ?_ | refine WC.condFalse rfl ?_)
  refine WC.loop (fun i : Nat × Value => [(0, i.2), (3, .pointer (some ⟨g, 0, none⟩)), (6, .int .i64 i.1)])
    (fun i w' => i.1 ≤ v.kids.length ∧ Bu w' i.2 (l ++ [128] ++ (List.range i.1).flatMap (pieceK (keyV m) true v.names v.kids)) ∧ Grow w1 b w' i.2) (fun i => v.kids.length - i.1) (0, b2)
    ⟨rfl, rfl, rfl, trivial⟩ ⟨Nat.zero_le _, by simpa using hb2, hg2⟩ ?_
  rintro ⟨i, bb⟩ wr ⟨hi, hbr, hgr⟩
  simp only at hi hbr hgr ⊢
  have c5 : wr.cell? ⟨g, 5, none⟩ = some (.slice sp v.kids.length cap) := (hR hgr).cell 5 (by simp)
  by_cases hik : i < v.kids.length
  · obtain ⟨kb, ko, rfl, hkb, hcells⟩ := hrow (by omega)
    obtain ⟨c, hc6, hci, hcr⟩ := hcells i hik
    obtain ⟨nb, no, rfl, hnb, hnr⟩ := nr (by omega)
    have hnc := hnr i (by omega)
    have hns : (v.names.getD i noT).size ≤ 40 := (f9 k9).2 _ (by simp [show i < v.names.length by omega])
    clear hrow hcells nr hnr nsz
    have har := ha1.grow hgr
    have hpc : pieceK (keyV m) true v.names v.kids i = 1 :: textK (v.names.getD i noT).toList ++ keyV m (v.kids.getD i noV) := rfl
    have hro := hrd i hik
    rw [hpc] at hro
    simp only [List.length_append, List.length_cons] at hro
    repeat (first | ((with_reducible refine WL.topT ?_ ?_); omega) | ((with_reducible refine WL.topF ?_ ?_); omega) | ((with_reducible refine WL.top64 ?_ ?_); omega) | refine WC.seq ?_ | refine WC.block ?_ | refine WC.region ?_ | refine WL.nil ?_ | refine WC.skip ?_ | refine WC.exit ?_ | refine WC.ret ?_ | refine WQ.then rfl ?_ | refine WQ.thenExit ?_ | refine WQ.thenRet ?_ | refine WQ.blk ?_ | refine WQ.blkRet ?_ | refine WQ.blkHere rfl ?_ | refine WQ.blkOther rfl ?_ | refine WL.pure rfl rfl rfl rfl ?_ | refine WL.on rfl rfl ?_ | refine WL.off rfl rfl rfl ?_ | refine WL.load rfl rfl rfl rfl rfl rfl (by assumption) ?_ | refine WC.condTrue rfl ?_ | refine WC.condFalse rfl ?_)
    refine WC.drawn 8 (fun wx => Below w0.heap.size w0 wx ∧ VBlk 37 wx g (six v (.slice (some ⟨nb, no, none⟩) v.names.length nc) (.slice (some ⟨kb, ko, none⟩) v.kids.length cap))) fun w4 hd4 => ?_
    have hS : Below w0.heap.size w0 w4 ∧ VBlk 37 w4 g (six v (.slice (some ⟨nb, no, none⟩) v.names.length nc) (.slice (some ⟨kb, ko, none⟩) v.kids.length cap)) := ⟨har.below.trans (hd4.below _), (hR hgr).below (hd4.below _) (hR hgr).lt⟩
    have hb4 : Bu w4 bb _ := hbr.below (hd4.below _)
    have hg4 : Grow w1 b w4 bb := hgr.below (hd4.below _)
    (((first | refine WD.free 0 rfl (by kernel_rfl) rfl rfl (fun _ _ _ _ _ h => h) rfl rfl (.inr hS) ?_ | refine WD.skip 0 rfl (by kernel_rfl) rfl rfl (fun _ _ _ _ _ h => h) rfl (.inr hS) ?_); try (first | ((with_reducible refine WD.topT ?_ ?_); omega) | ((with_reducible refine WD.topF ?_ ?_); omega) | ((with_reducible refine WD.top64 ?_ ?_); omega))); ((first | refine WD.free 3 rfl (by kernel_rfl) rfl rfl (fun _ _ _ _ _ h => h) rfl rfl (.inr hS) ?_ | refine WD.skip 3 rfl (by kernel_rfl) rfl rfl (fun _ _ _ _ _ h => h) rfl (.inr hS) ?_); try (first | ((with_reducible refine WD.topT ?_ ?_); omega) | ((with_reducible refine WD.topF ?_ ?_); omega) | ((with_reducible refine WD.top64 ?_ ?_); omega))))
    refine WD.load 4 [6, 7, 8] rfl (by kernel_rfl) rfl rfl (fun _ _ _ _ _ h => h) rfl rfl rfl rfl (fun wx hx => hx.2.cell 4 (by simp)) hS ?_
    (((first | refine WD.free 5 rfl (by kernel_rfl) rfl rfl (fun _ _ _ _ _ h => h) rfl rfl (.inr hS) ?_ | refine WD.skip 5 rfl (by kernel_rfl) rfl rfl (fun _ _ _ _ _ h => h) rfl (.inr hS) ?_); try (first | ((with_reducible refine WD.topT ?_ ?_); omega) | ((with_reducible refine WD.topF ?_ ?_); omega) | ((with_reducible refine WD.top64 ?_ ?_); omega))))
    refine WD.idx 6 i (no + i) rfl (by kernel_rfl) rfl rfl (fun _ _ _ _ _ h => h) rfl rfl rfl rfl rfl rfl (by omega) (by omega) (.inr hS) ?_
    refine WD.load 7 [8] rfl (by kernel_rfl) rfl rfl (fun _ _ _ _ _ h => h) rfl rfl rfl rfl (fun wx hx => (hx.1.cell (p := ⟨nb, no + i, none⟩) hnb).trans hnc) hS ?_
    refine WD.one 1 (by kernel_rfl) rfl ?_
    refine WL.lit rfl rfl rfl rfl rfl rfl rfl fun u5 w5 hu5 hk5 hn5 => ?_
    have hS5 : Below w0.heap.size w0 w5 ∧ VBlk 37 w5 g _ := ⟨hS.1.trans (hk5.mono hS.1.size), hS.2.below hk5 hS.2.lt⟩
    refine WL.nil (WQ.dk (.inr hS5) ?_)
    refine WD.one 2 (by kernel_rfl) rfl ?_
    refine WL.app rfl rfl rfl rfl rfl (hb4.below hk5) rfl hu5.sl (by rw [List.length_append, List.length_append]; simp only [List.length_cons, List.length_nil]; omega) fun b6 w6 hb6 hg6 => ?_
    have hg6' : Grow w1 b w6 b6 := (hg4.below hk5).trans hg6
    refine WL.nil (WQ.dk (.inr ⟨(ha1.grow hg6').below, hR hg6'⟩) ?_)
    refine WD.one 8 (by kernel_rfl) rfl ?_
    refine WL.call rfl rfl rfl rfl rfl Try.func52 rfl (by kernel_rfl) (rtexts_any (v.names.getD i noT) hb6 (by rw [List.length_append, List.length_append, List.length_append]; simp only [List.length_cons, List.length_nil]; omega)) ?_
    rintro e w7 ⟨b7, rfl, hb7, hg7⟩
    refine ⟨_, rfl, ?_⟩
    refine WL.nil (WQ.dk (.inl rfl) ?_)
    refine WD.one 9 (by kernel_rfl) rfl ?_
    refine WL.pure rfl rfl rfl rfl ?_
    refine WL.nil (WQ.dk (.inl rfl) ?_)
    refine WD.done (by kernel_rfl) ?_
    have hg7' : Grow w1 b w7 b7 := hg6'.trans hg7
    clear c5
    have c5 : w7.cell? ⟨g, 5, none⟩ = some (.slice (some ⟨kb, ko, none⟩) v.kids.length cap) := (hR hg7').cell 5 (by simp)
    have hcr' : w7.rangeAt kb (ko + i * 6) c := fun j u hu => by rw [(ha1.grow hg7').below.cell (p := ⟨kb, ko + i * 6 + j, none⟩) hkb]; exact hcr j u hu
    have hl7 : (l ++ [128] ++ (List.range i).flatMap (pieceK (keyV m) true v.names v.kids) ++ [1] ++ textK (v.names.getD i noT).toList).length + (keyV m (v.kids.getD i noV)).length ≤ 70368744177664 := by
      rw [List.length_append, List.length_append, List.length_append, List.length_append]; simp only [List.length_cons, List.length_nil]; omega
    repeat (first | ((with_reducible refine WL.topT ?_ ?_); omega) | ((with_reducible refine WL.topF ?_ ?_); omega) | ((with_reducible refine WL.top64 ?_ ?_); omega) | refine WC.seq ?_ | refine WC.block ?_ | refine WC.region ?_ | refine WL.nil ?_ | refine WC.skip ?_ | refine WC.exit ?_ | refine WC.ret ?_ | refine WQ.then rfl ?_ | refine WQ.thenExit ?_ | refine WQ.thenRet ?_ | refine WQ.blk ?_ | refine WQ.blkRet ?_ | refine WQ.blkHere rfl ?_ | refine WQ.blkOther rfl ?_ | refine WL.pure rfl rfl rfl rfl ?_ | refine WL.on rfl rfl ?_ | refine WL.off rfl rfl rfl ?_ | refine WL.load rfl rfl rfl rfl rfl rfl (by assumption) ?_ | refine WC.condTrue rfl ?_ | refine WC.condFalse rfl ?_)
    refine WL.idx i (ko + i * 6) rfl rfl rfl rfl rfl rfl rfl rfl hik rfl ?_
    refine WL.loadMid rfl rfl rfl rfl rfl rfl hcr' hc6 ?_
    refine WL.call rfl rfl rfl rfl rfl Try.func35 rfl (by kernel_rfl) (ih (w0 := w0) hci (hkid i hik) hb7 (ha1.grow hg7') hl7) ?_
    rintro e w8 ⟨b8, rfl, hb8, hg8⟩
    refine ⟨_, rfl, ?_⟩
    repeat (first | ((with_reducible refine WL.topT ?_ ?_); omega) | ((with_reducible refine WL.topF ?_ ?_); omega) | ((with_reducible refine WL.top64 ?_ ?_); omega) | refine WC.seq ?_ | refine WC.block ?_ | refine WC.region ?_ | refine WL.nil ?_ | refine WC.skip ?_ | refine WC.exit ?_ | refine WC.ret ?_ | refine WQ.then rfl ?_ | refine WQ.thenExit ?_ | refine WQ.thenRet ?_ | refine WQ.blk ?_ | refine WQ.blkRet ?_ | refine WQ.blkHere rfl ?_ | refine WQ.blkOther rfl ?_ | refine WL.pure rfl rfl rfl rfl ?_ | refine WL.on rfl rfl ?_ | refine WL.off rfl rfl rfl ?_ | refine WC.condTrue rfl ?_ | refine WC.condFalse rfl ?_)
    refine WQ.again (i + 1, b8) ⟨rfl, rfl, rfl, trivial⟩ ⟨hik, ?_, hg7'.trans hg8⟩ (by show v.kids.length - (i + 1) < v.kids.length - i; omega)
    show Bu w8 b8 (l ++ [128] ++ (List.range (i + 1)).flatMap _)
    rw [range_piece, hpc]
    simpa using hb8
  · obtain rfl : i = v.kids.length := by omega
    repeat (first | ((with_reducible refine WL.topT ?_ ?_); omega) | ((with_reducible refine WL.topF ?_ ?_); omega) | ((with_reducible refine WL.top64 ?_ ?_); omega) | refine WC.seq ?_ | refine WC.block ?_ | refine WC.region ?_ | refine WL.nil ?_ | refine WC.skip ?_ | refine WC.exit ?_ | refine WC.ret ?_ | refine WQ.then rfl ?_ | refine WQ.thenExit ?_ | refine WQ.thenRet ?_ | refine WQ.blk ?_ | refine WQ.blkRet ?_ | refine WQ.blkHere rfl ?_ | refine WQ.blkOther rfl ?_ | refine WL.pure rfl rfl rfl rfl ?_ | refine WL.on rfl rfl ?_ | refine WL.off rfl rfl rfl ?_ | refine WL.load rfl rfl rfl rfl rfl rfl (by assumption) ?_ | refine WC.condTrue rfl ?_ | refine WC.condFalse rfl ?_)
    refine WL.push rfl rfl rfl rfl rfl rfl rfl rfl rfl rfl rfl (fun _ => rfl) rfl hbr (by rw [List.length_append, List.length_append]; simp only [List.length_cons, List.length_nil]; omega) fun b3 w3 hb3 hg3 => ?_
    repeat (first | ((with_reducible refine WL.topT ?_ ?_); omega) | ((with_reducible refine WL.topF ?_ ?_); omega) | ((with_reducible refine WL.top64 ?_ ?_); omega) | refine WC.seq ?_ | refine WC.block ?_ | refine WC.region ?_ | refine WL.nil ?_ | refine WC.skip ?_ | refine WC.exit ?_ | refine WC.ret ?_ | refine WQ.then rfl ?_ | refine WQ.thenExit ?_ | refine WQ.thenRet ?_ | refine WQ.blk ?_ | refine WQ.blkRet ?_ | refine WQ.blkHere rfl ?_ | refine WQ.blkOther rfl ?_ | refine WL.pure rfl rfl rfl rfl ?_ | refine WL.on rfl rfl ?_ | refine WL.off rfl rfl rfl ?_ | refine WC.condTrue rfl ?_ | refine WC.condFalse rfl ?_)
    refine WQ.ret1 rfl rfl (fin ?_ (hgr.trans hg3) hkx.symm)
    rw [← List.append_assoc, ← List.append_assoc]; exact hb3
theorem rkey_all : ∀ (m : Nat) {f : Nat} {w0 w : World} {v : V} {cs : List Value} {b : Value} {l : List Int}, IsV f w0 v cs → chk m v = 0 → Bu w b l → Apart w0 w b → l.length + (keyV m v).length ≤ 70368744177664 →
      Calls Try.prog 35 #[b, .agg cs.toArray] w fun e w' => ∃ b', e = .returned b' ∧ Bu w' b' (l ++ keyV m v) ∧ Grow w b w' b'
  | 0, _, _, _, _, _, _, _, _, h, _, _, _ => by cases h
  | m + 1, _, _, _, _, _, _, _, hv, hc, hb, ha, hm => rkey_step m (rkey_all m) hv hc hb ha hm
end K
end Go.Proofs.Ytfpakjbaiohcaaa
