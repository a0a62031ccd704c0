/- Texts for LawBlkOne, part 3 of 6. -/
import Derived.Test.YtlamdhekjlnccaaZLawBlkOne2
import Derived.StillTailTactics
import Derived.Deep.RegionLaw
import Derived.DeepKeys
/- Values as bytes (chapter 7): lay. -/
namespace Go.Proofs.Ytlamdhekjlnccaa
open Go.RowKit
namespace K

theorem encV_two {m : Nat} {v : V} : encV (m + 1) v = v.k ::
    (if v.k = 2 then [v.n] else if v.k = 3 then uvB (zig v.n) else if v.k = 4 then uvB (zig v.n) ++ [v.s] else if v.k = 5 then uvB v.n.toNat
     else if v.k = 6 ∨ v.k = 7 then uvB v.t.size ++ byI v.t
     else if v.k = 8 ∨ v.k = 9 then uvB v.kids.length ++ (List.range v.kids.length).flatMap (pieceE (encV m) (decide (v.k = 9)) v.names v.kids) else []) := rfl
theorem below_setRow' {w w2 : World} (h : Below w.heap.size w w2) (g : Nat) (hg : w.heap.size ≤ g) (a : Array Value) : Below w.heap.size w (w2.setRow g a) := below_setRow h hg _

set_option maxHeartbeats 16000000 in
theorem clay_any (m : Nat) (ih : ∀ {f : Nat} {w0 w : World} {v : V} {cs : List Value} {b : Value} {l : List Int}, IsV f w0 v cs → chk m v = 0 → Bu w b l → Apart w0 w b → l.length + (encV m v).length ≤ 70368744177664 →
      Calls Try.prog 46 #[b, .agg cs.toArray] w fun e w' => ∃ b', e = .returned b' ∧ Bu w' b' (l ++ encV m v) ∧ Grow w b w' b') {f : Nat} {w0 w : World} {v : V} {cs : List Value} {b : Value} {l : List Int}
    (hv : IsV f w0 v cs) (hc : chk (m + 1) v = 0) (hb : Bu w b l) (ha : Apart w0 w b) (hm : l.length + (encV (m + 1) v).length ≤ 70368744177664) :
    Calls Try.prog 46 #[b, .agg cs.toArray] w fun e w' => ∃ b', e = .returned b' ∧ Bu w' b' (l ++ encV (m + 1) v) ∧ Grow w b w' b' := by
  obtain ⟨hk, f2, f3, f4, f5, fk, ft, f9⟩ := shp_form (chk_shp hc)
  cases f with
  | zero => exact hv.elim
  | succ f =>
  obtain ⟨sn, sk, rfl, wk, wn, ws, -, hnames, hkids⟩ := hv
  have hkey := encV_two (m := m) (v := v)
  rw [hkey] at hm
  have hn : -9223372036854775808 ≤ v.n ∧ v.n ≤ 9223372036854775807 := by simp [Lit.wf, IntKind.min, IntKind.max, IntKind.bits, IntKind.signed] at wn; omega
  have hzl := zig_lt hn
  refine enter (args := [b, .agg (six v sn sk).toArray]) Try.func46 rfl Try.ntmps46 rfl ?_
  repeat (first | ((with_reducible refine WL.topT ?_ ?_); omega) | ((with_reducible refine WL.topF ?_ ?_); omega) | ((with_reducible refine WL.top64 ?_ ?_); omega) | refine WC.seq ?_ | refine WC.block ?_ | refine WC.region ?_ | refine WL.nil ?_ | refine WC.skip ?_ | refine WC.exit ?_ | refine WC.ret ?_ | refine WQ.then rfl ?_ | refine WQ.thenExit ?_ | refine WQ.thenRet ?_ | refine WQ.blk ?_ | refine WQ.blkRet ?_ | refine WQ.blkHere rfl ?_ | refine WQ.blkOther rfl ?_ | refine WL.pure rfl rfl rfl rfl ?_ | refine WL.on rfl rfl ?_ | refine WL.off rfl rfl rfl ?_ | refine WC.condTrue rfl ?_ | refine WC.condFalse rfl ?_)
  refine WL.box rfl rfl rfl rfl rfl fun bb w1 hf => ?_
  have hfb : Fresh w bb w1 29 [b] := by obtain ⟨sp, c, rfl, -, -⟩ := hb.form; exact hf
  clear hf
  have hbb : bb = w.heap.size := hfb.eq
  refine WL.box rfl rfl rfl rfl rfl fun g w2 hf => ?_
  have hfg : Fresh w1 g w2 45 (six v sn sk) := hf
  clear hf
  have hgb : g = bb + 1 := by rw [hfg.eq, hfb.size, hbb]
  have hbw : ∀ x, b.ownBlock = some x → x < w.heap.size := hb.lt
  have hbx : Bx bb w2 b l := ⟨(hfb.blk.below hfg.below hfb.blk.lt), (hb.below hfb.below).below hfg.below, fun e => by have := hbw _ e; omega⟩
  have hblk : VBlk 45 w2 g (six v sn sk) := hfg.blk
  have hgo : b.ownBlock ≠ some g := fun e => by have := hbw _ e; omega
  have hw12 : Below w.heap.size w w2 := hfb.below.trans (hfg.below.mono hfb.below.size)
  have hsz2 : w2.heap.size = w.heap.size + 2 := by rw [hfg.size, hfb.size]
  clear hfb hfg
  -- what stands while the own row grows
  have hR : ∀ {wk vk}, GrowB bb w2 b wk vk → VBlk 45 wk g (six v sn sk) := fun h => (Bx.keep h hblk hgo (by omega)).1
  have hA : ∀ {wk vk}, GrowB bb w2 b wk vk → Apart w0 wk vk := fun {wk vk} h => by
    refine ⟨?_, fun x hx => (h.2 x hx).elim (fun h2 => ha.own x h2) (fun h2 => by have := ha.below.size; omega)⟩
    have h1 : Below w0.heap.size w0 w2 := ha.below.trans (hw12.mono ha.below.size)
    refine h1.trans ((h.1.mono fun x (hx : x < w0.heap.size) => ⟨Nat.lt_of_lt_of_le hx h1.size, fun e => by have := ha.own x e; omega, by have := ha.below.size; omega⟩).below)
  have hG : ∀ {wk vk}, GrowB bb w2 b wk vk → Grow w b wk vk := fun {wk vk} h => by
    refine ⟨?_, fun x hx => (h.2 x hx).imp id (fun h2 => by omega)⟩
    have h1 : Keep (fun x => x < w.heap.size ∧ b.ownBlock ≠ some x) w w2 := (Keep.of_below hw12).mono fun _ h => h.1
    exact h1.trans (h.1.mono fun x hx => ⟨by omega, hx.2, by omega⟩)
  have g0 : GrowB bb w2 b w2 b := GrowB.refl _ _ _
  have fin : ∀ {b' w' x}, Bu w' b' (l ++ v.k :: x) → GrowB bb w2 b w' b' → (v.k :: x = encV (m + 1) v) → ∃ b'', Ending.returned b' = .returned b'' ∧ Bu w' b'' (l ++ encV (m + 1) v) ∧ Grow w b w' b'' :=
    fun {b' w' x} h1 h2 h3 => ⟨b', rfl, by rw [← h3]; exact h1, hG h2⟩
  have e8 : IntKind.u8.wrap v.k = v.k := by rw [IntKind.wrap_u8]; omega
  have hl1 : l.length + 1 ≤ 70368744177664 := by simp at hm; omega
  repeat (first | ((with_reducible refine WL.topT ?_ ?_); omega) | ((with_reducible refine WL.topF ?_ ?_); omega) | ((with_reducible refine WL.top64 ?_ ?_); omega) | refine WC.seq ?_ | refine WC.block ?_ | refine WC.region ?_ | refine WL.nil ?_ | refine WC.skip ?_ | refine WC.exit ?_ | refine WC.ret ?_ | refine WQ.then rfl ?_ | refine WQ.thenExit ?_ | refine WQ.thenRet ?_ | refine WQ.blk ?_ | refine WQ.blkRet ?_ | refine WQ.blkHere rfl ?_ | refine WQ.blkOther rfl ?_ | refine WL.pure rfl rfl rfl rfl ?_ | refine WL.on rfl rfl ?_ | refine WL.off rfl rfl rfl ?_ | refine WC.condTrue rfl ?_ | refine WC.condFalse rfl ?_)
  refine WL.fn (caps := [.tmp 2]) rfl rfl rfl rfl rfl ?_
  repeat (first | ((with_reducible refine WL.topT ?_ ?_); omega) | ((with_reducible refine WL.topF ?_ ?_); omega) | ((with_reducible refine WL.top64 ?_ ?_); omega) | refine WC.seq ?_ | refine WC.block ?_ | refine WC.region ?_ | refine WL.nil ?_ | refine WC.skip ?_ | refine WC.exit ?_ | refine WC.ret ?_ | refine WQ.then rfl ?_ | refine WQ.thenExit ?_ | refine WQ.thenRet ?_ | refine WQ.blk ?_ | refine WQ.blkRet ?_ | refine WQ.blkHere rfl ?_ | refine WQ.blkOther rfl ?_ | refine WL.pure rfl rfl rfl rfl ?_ | refine WL.on rfl rfl ?_ | refine WL.off rfl rfl rfl ?_ | refine WC.condTrue rfl ?_ | refine WC.condFalse rfl ?_)
  refine WL.load rfl rfl rfl rfl rfl rfl (hbx.blk.cell 0 (by simp)) ?_
  repeat (first | ((with_reducible refine WL.topT ?_ ?_); omega) | ((with_reducible refine WL.topF ?_ ?_); omega) | ((with_reducible refine WL.top64 ?_ ?_); omega) | refine WC.seq ?_ | refine WC.block ?_ | refine WC.region ?_ | refine WL.nil ?_ | refine WC.skip ?_ | refine WC.exit ?_ | refine WC.ret ?_ | refine WQ.then rfl ?_ | refine WQ.thenExit ?_ | refine WQ.thenRet ?_ | refine WQ.blk ?_ | refine WQ.blkRet ?_ | refine WQ.blkHere rfl ?_ | refine WQ.blkOther rfl ?_ | refine WL.pure rfl rfl rfl rfl ?_ | refine WL.on rfl rfl ?_ | refine WL.off rfl rfl rfl ?_ | refine WC.condTrue rfl ?_ | refine WC.condFalse rfl ?_)
  refine WL.load rfl rfl rfl rfl rfl rfl ((hR g0).cell 0 (by simp)) ?_
  repeat (first | ((with_reducible refine WL.topT ?_ ?_); omega) | ((with_reducible refine WL.topF ?_ ?_); omega) | ((with_reducible refine WL.top64 ?_ ?_); omega) | refine WC.seq ?_ | refine WC.block ?_ | refine WC.region ?_ | refine WL.nil ?_ | refine WC.skip ?_ | refine WC.exit ?_ | refine WC.ret ?_ | refine WQ.then rfl ?_ | refine WQ.thenExit ?_ | refine WQ.thenRet ?_ | refine WQ.blk ?_ | refine WQ.blkRet ?_ | refine WQ.blkHere rfl ?_ | refine WQ.blkOther rfl ?_ | refine WL.pure rfl rfl rfl rfl ?_ | refine WL.on rfl rfl ?_ | refine WL.off rfl rfl rfl ?_ | refine WC.condTrue rfl ?_ | refine WC.condFalse rfl ?_)
  refine WL.push rfl rfl rfl rfl rfl rfl rfl rfl rfl rfl rfl (fun _ => rfl) rfl hbx.bu (by simp; omega) fun b2 w3 hb2 hg2 => ?_
  obtain ⟨hblk3, hbx3, g3⟩ := hbx.put hb2 hg2
  refine WL.store rfl rfl rfl rfl rfl hb2.cell1 (by kernel_rfl) (hblk3.cell 0 (by simp)) (hblk3.free 0) ?_
  generalize w3.setCell ⟨bb, 0, none⟩ b2 = w4 at hbx3 g3
  clear hblk3 hg2 hb2
  rw [e8] at hbx3
  repeat (first | ((with_reducible refine WL.topT ?_ ?_); omega) | ((with_reducible refine WL.topF ?_ ?_); omega) | ((with_reducible refine WL.top64 ?_ ?_); omega) | refine WC.seq ?_ | refine WC.block ?_ | refine WC.region ?_ | refine WL.nil ?_ | refine WC.skip ?_ | refine WC.exit ?_ | refine WC.ret ?_ | refine WQ.then rfl ?_ | refine WQ.thenExit ?_ | refine WQ.thenRet ?_ | refine WQ.blk ?_ | refine WQ.blkRet ?_ | refine WQ.blkHere rfl ?_ | refine WQ.blkOther rfl ?_ | refine WL.pure rfl rfl rfl rfl ?_ | refine WL.on rfl rfl ?_ | refine WL.off rfl rfl rfl ?_ | refine WC.condTrue rfl ?_ | refine WC.condFalse rfl ?_)
  refine WL.load rfl rfl rfl rfl rfl rfl ((hR g3).cell 0 (by simp)) ?_
  have hl2 : (l ++ [v.k]).length = l.length + 1 := by simp
  have hL0 : ∀ x, l ++ v.k :: x = (l ++ [v.k]) ++ x := fun x => by simp
  generalize hL : l ++ [v.k] = L at hbx3 hl2 hL0
  have hl3 : L.length + (encV (m + 1) v).length ≤ 70368744177664 + 1 := by rw [hkey]; simp at hm ⊢; omega
  by_cases k1 : v.k = 1
  · repeat (first | ((with_reducible refine WL.topT ?_ ?_); omega) | ((with_reducible refine WL.topF ?_ ?_); omega) | ((with_reducible refine WL.top64 ?_ ?_); omega) | refine WC.seq ?_ | refine WC.block ?_ | refine WC.region ?_ | refine WL.nil ?_ | refine WC.skip ?_ | refine WC.exit ?_ | refine WC.ret ?_ | refine WQ.then rfl ?_ | refine WQ.thenExit ?_ | refine WQ.thenRet ?_ | refine WQ.blk ?_ | refine WQ.blkRet ?_ | refine WQ.blkHere rfl ?_ | refine WQ.blkOther rfl ?_ | refine WL.pure rfl rfl rfl rfl ?_ | refine WL.on rfl rfl ?_ | refine WL.off rfl rfl rfl ?_ | refine WC.condTrue rfl ?_ | refine WC.condFalse rfl ?_)
    refine WL.load rfl rfl rfl rfl rfl rfl (hbx3.blk.cell 0 (by simp)) ?_
    repeat (first | ((with_reducible refine WL.topT ?_ ?_); omega) | ((with_reducible refine WL.topF ?_ ?_); omega) | ((with_reducible refine WL.top64 ?_ ?_); omega) | refine WC.seq ?_ | refine WC.block ?_ | refine WC.region ?_ | refine WL.nil ?_ | refine WC.skip ?_ | refine WC.exit ?_ | refine WC.ret ?_ | refine WQ.then rfl ?_ | refine WQ.thenExit ?_ | refine WQ.thenRet ?_ | refine WQ.blk ?_ | refine WQ.blkRet ?_ | refine WQ.blkHere rfl ?_ | refine WQ.blkOther rfl ?_ | refine WL.pure rfl rfl rfl rfl ?_ | refine WL.on rfl rfl ?_ | refine WL.off rfl rfl rfl ?_ | refine WC.condTrue rfl ?_ | refine WC.condFalse rfl ?_)
    refine WQ.ret1 rfl rfl (fin (x := []) (by rw [hL0, List.append_nil]; exact hbx3.bu) g3 ?_)
    rw [hkey]; simp [k1]
  by_cases k2 : v.k = 2
  · have hx := f2 k2
    have e8 : IntKind.u8.wrap v.n = v.n := by rw [IntKind.wrap_u8]; omega
    have hkx : encV (m + 1) v = v.k :: [v.n] := by rw [hkey, if_pos k2]
    rw [hkx] at hl3
    simp at hl3
    repeat (first | ((with_reducible refine WL.topT ?_ ?_); omega) | ((with_reducible refine WL.topF ?_ ?_); omega) | ((with_reducible refine WL.top64 ?_ ?_); omega) | refine WC.seq ?_ | refine WC.block ?_ | refine WC.region ?_ | refine WL.nil ?_ | refine WC.skip ?_ | refine WC.exit ?_ | refine WC.ret ?_ | refine WQ.then rfl ?_ | refine WQ.thenExit ?_ | refine WQ.thenRet ?_ | refine WQ.blk ?_ | refine WQ.blkRet ?_ | refine WQ.blkHere rfl ?_ | refine WQ.blkOther rfl ?_ | refine WL.pure rfl rfl rfl rfl ?_ | refine WL.on rfl rfl ?_ | refine WL.off rfl rfl rfl ?_ | refine WC.condTrue rfl ?_ | refine WC.condFalse rfl ?_)
    refine WL.load rfl rfl rfl rfl rfl rfl (hbx3.blk.cell 0 (by simp)) ?_
    repeat (first | ((with_reducible refine WL.topT ?_ ?_); omega) | ((with_reducible refine WL.topF ?_ ?_); omega) | ((with_reducible refine WL.top64 ?_ ?_); omega) | refine WC.seq ?_ | refine WC.block ?_ | refine WC.region ?_ | refine WL.nil ?_ | refine WC.skip ?_ | refine WC.exit ?_ | refine WC.ret ?_ | refine WQ.then rfl ?_ | refine WQ.thenExit ?_ | refine WQ.thenRet ?_ | refine WQ.blk ?_ | refine WQ.blkRet ?_ | refine WQ.blkHere rfl ?_ | refine WQ.blkOther rfl ?_ | refine WL.pure rfl rfl rfl rfl ?_ | refine WL.on rfl rfl ?_ | refine WL.off rfl rfl rfl ?_ | refine WC.condTrue rfl ?_ | refine WC.condFalse rfl ?_)
    refine WL.load rfl rfl rfl rfl rfl rfl ((hR g3).cell 1 (by simp)) ?_
    repeat (first | ((with_reducible refine WL.topT ?_ ?_); omega) | ((with_reducible refine WL.topF ?_ ?_); omega) | ((with_reducible refine WL.top64 ?_ ?_); omega) | refine WC.seq ?_ | refine WC.block ?_ | refine WC.region ?_ | refine WL.nil ?_ | refine WC.skip ?_ | refine WC.exit ?_ | refine WC.ret ?_ | refine WQ.then rfl ?_ | refine WQ.thenExit ?_ | refine WQ.thenRet ?_ | refine WQ.blk ?_ | refine WQ.blkRet ?_ | refine WQ.blkHere rfl ?_ | refine WQ.blkOther rfl ?_ | refine WL.pure rfl rfl rfl rfl ?_ | refine WL.on rfl rfl ?_ | refine WL.off rfl rfl rfl ?_ | refine WC.condTrue rfl ?_ | refine WC.condFalse rfl ?_)
    refine WL.push rfl rfl rfl rfl rfl rfl rfl rfl rfl rfl rfl (fun _ => rfl) rfl hbx3.bu (by simp; omega) fun b3 w5 hb3 hg3 => ?_
    obtain ⟨hblk4, hbx4, g4⟩ := hbx3.put hb3 hg3
    refine WL.store rfl rfl rfl rfl rfl hb3.cell1 (by kernel_rfl) (hblk4.cell 0 (by simp)) (hblk4.free 0) ?_
    generalize w5.setCell ⟨bb, 0, none⟩ b3 = w6 at hbx4 g4
    repeat (first | ((with_reducible refine WL.topT ?_ ?_); omega) | ((with_reducible refine WL.topF ?_ ?_); omega) | ((with_reducible refine WL.top64 ?_ ?_); omega) | refine WC.seq ?_ | refine WC.block ?_ | refine WC.region ?_ | refine WL.nil ?_ | refine WC.skip ?_ | refine WC.exit ?_ | refine WC.ret ?_ | refine WQ.then rfl ?_ | refine WQ.thenExit ?_ | refine WQ.thenRet ?_ | refine WQ.blk ?_ | refine WQ.blkRet ?_ | refine WQ.blkHere rfl ?_ | refine WQ.blkOther rfl ?_ | refine WL.pure rfl rfl rfl rfl ?_ | refine WL.on rfl rfl ?_ | refine WL.off rfl rfl rfl ?_ | refine WC.condTrue rfl ?_ | refine WC.condFalse rfl ?_)
    refine WL.load rfl rfl rfl rfl rfl rfl (hbx4.blk.cell 0 (by simp)) ?_
    repeat (first | ((with_reducible refine WL.topT ?_ ?_); omega) | ((with_reducible refine WL.topF ?_ ?_); omega) | ((with_reducible refine WL.top64 ?_ ?_); omega) | refine WC.seq ?_ | refine WC.block ?_ | refine WC.region ?_ | refine WL.nil ?_ | refine WC.skip ?_ | refine WC.exit ?_ | refine WC.ret ?_ | refine WQ.then rfl ?_ | refine WQ.thenExit ?_ | refine WQ.thenRet ?_ | refine WQ.blk ?_ | refine WQ.blkRet ?_ | refine WQ.blkHere rfl ?_ | refine WQ.blkOther rfl ?_ | refine WL.pure rfl rfl rfl rfl ?_ | refine WL.on rfl rfl ?_ | refine WL.off rfl rfl rfl ?_ | refine WC.condTrue rfl ?_ | refine WC.condFalse rfl ?_)
    refine WQ.ret1 rfl rfl (fin (x := [v.n]) ?_ (g3.trans g4) hkx.symm)
    rw [hL0, ← e8]; exact hbx4.bu
  by_cases k3 : v.k = 3
  · have hkx : encV (m + 1) v = v.k :: uvB (zig v.n) := by rw [hkey, if_neg k2, if_pos k3]
    rw [hkx] at hl3
    simp at hl3
    repeat (first | ((with_reducible refine WL.topT ?_ ?_); omega) | ((with_reducible refine WL.topF ?_ ?_); omega) | ((with_reducible refine WL.top64 ?_ ?_); omega) | refine WC.seq ?_ | refine WC.block ?_ | refine WC.region ?_ | refine WL.nil ?_ | refine WC.skip ?_ | refine WC.exit ?_ | refine WC.ret ?_ | refine WQ.then rfl ?_ | refine WQ.thenExit ?_ | refine WQ.thenRet ?_ | refine WQ.blk ?_ | refine WQ.blkRet ?_ | refine WQ.blkHere rfl ?_ | refine WQ.blkOther rfl ?_ | refine WL.pure rfl rfl rfl rfl ?_ | refine WL.on rfl rfl ?_ | refine WL.off rfl rfl rfl ?_ | refine WC.condTrue rfl ?_ | refine WC.condFalse rfl ?_)
    refine WL.load rfl rfl rfl rfl rfl rfl ((hR g3).cell 1 (by simp)) ?_
    repeat (first | ((with_reducible refine WL.topT ?_ ?_); omega) | ((with_reducible refine WL.topF ?_ ?_); omega) | ((with_reducible refine WL.top64 ?_ ?_); omega) | refine WC.seq ?_ | refine WC.block ?_ | refine WC.region ?_ | refine WL.nil ?_ | refine WC.skip ?_ | refine WC.exit ?_ | refine WC.ret ?_ | refine WQ.then rfl ?_ | refine WQ.thenExit ?_ | refine WQ.thenRet ?_ | refine WQ.blk ?_ | refine WQ.blkRet ?_ | refine WQ.blkHere rfl ?_ | refine WQ.blkOther rfl ?_ | refine WL.pure rfl rfl rfl rfl ?_ | refine WL.on rfl rfl ?_ | refine WL.off rfl rfl rfl ?_ | refine WC.condTrue rfl ?_ | refine WC.condFalse rfl ?_)
    refine WL.call rfl rfl rfl rfl rfl Try.func60 rfl (by kernel_rfl) (zig_any v.n hn w4) ?_
    rintro e _ ⟨rfl, rfl⟩
    refine ⟨_, rfl, ?_⟩
    refine WL.callF (args := [.tmp 30]) rfl rfl rfl rfl rfl rfl Try.func59 rfl (by kernel_rfl) (lay1_any hzl hbx3 (by omega)) ?_
    rintro e w6 ⟨rfl, b4, hbx4, g4⟩
    refine ⟨_, rfl, ?_⟩
    repeat (first | ((with_reducible refine WL.topT ?_ ?_); omega) | ((with_reducible refine WL.topF ?_ ?_); omega) | ((with_reducible refine WL.top64 ?_ ?_); omega) | refine WC.seq ?_ | refine WC.block ?_ | refine WC.region ?_ | refine WL.nil ?_ | refine WC.skip ?_ | refine WC.exit ?_ | refine WC.ret ?_ | refine WQ.then rfl ?_ | refine WQ.thenExit ?_ | refine WQ.thenRet ?_ | refine WQ.blk ?_ | refine WQ.blkRet ?_ | refine WQ.blkHere rfl ?_ | refine WQ.blkOther rfl ?_ | refine WL.pure rfl rfl rfl rfl ?_ | refine WL.on rfl rfl ?_ | refine WL.off rfl rfl rfl ?_ | refine WC.condTrue rfl ?_ | refine WC.condFalse rfl ?_)
    refine WL.load rfl rfl rfl rfl rfl rfl (hbx4.blk.cell 0 (by simp)) ?_
    repeat (first | ((with_reducible refine WL.topT ?_ ?_); omega) | ((with_reducible refine WL.topF ?_ ?_); omega) | ((with_reducible refine WL.top64 ?_ ?_); omega) | refine WC.seq ?_ | refine WC.block ?_ | refine WC.region ?_ | refine WL.nil ?_ | refine WC.skip ?_ | refine WC.exit ?_ | refine WC.ret ?_ | refine WQ.then rfl ?_ | refine WQ.thenExit ?_ | refine WQ.thenRet ?_ | refine WQ.blk ?_ | refine WQ.blkRet ?_ | refine WQ.blkHere rfl ?_ | refine WQ.blkOther rfl ?_ | refine WL.pure rfl rfl rfl rfl ?_ | refine WL.on rfl rfl ?_ | refine WL.off rfl rfl rfl ?_ | refine WC.condTrue rfl ?_ | refine WC.condFalse rfl ?_)
    exact WQ.ret1 rfl rfl (fin (by rw [hL0]; exact hbx4.bu) (g3.trans g4) hkx.symm)
  by_cases k4 : v.k = 4
  · have hx := f4 k4
    have e8 : IntKind.u8.wrap v.s = v.s := by rw [IntKind.wrap_u8]; omega
    have hkx : encV (m + 1) v = v.k :: (uvB (zig v.n) ++ [v.s]) := by rw [hkey, if_neg k2, if_neg k3, if_pos k4]
    rw [hkx] at hl3
    simp at hl3
    repeat (first | ((with_reducible refine WL.topT ?_ ?_); omega) | ((with_reducible refine WL.topF ?_ ?_); omega) | ((with_reducible refine WL.top64 ?_ ?_); omega) | refine WC.seq ?_ | refine WC.block ?_ | refine WC.region ?_ | refine WL.nil ?_ | refine WC.skip ?_ | refine WC.exit ?_ | refine WC.ret ?_ | refine WQ.then rfl ?_ | refine WQ.thenExit ?_ | refine WQ.thenRet ?_ | refine WQ.blk ?_ | refine WQ.blkRet ?_ | refine WQ.blkHere rfl ?_ | refine WQ.blkOther rfl ?_ | refine WL.pure rfl rfl rfl rfl ?_ | refine WL.on rfl rfl ?_ | refine WL.off rfl rfl rfl ?_ | refine WC.condTrue rfl ?_ | refine WC.condFalse rfl ?_)
    refine WL.load rfl rfl rfl rfl rfl rfl ((hR g3).cell 1 (by simp)) ?_
    repeat (first | ((with_reducible refine WL.topT ?_ ?_); omega) | ((with_reducible refine WL.topF ?_ ?_); omega) | ((with_reducible refine WL.top64 ?_ ?_); omega) | refine WC.seq ?_ | refine WC.block ?_ | refine WC.region ?_ | refine WL.nil ?_ | refine WC.skip ?_ | refine WC.exit ?_ | refine WC.ret ?_ | refine WQ.then rfl ?_ | refine WQ.thenExit ?_ | refine WQ.thenRet ?_ | refine WQ.blk ?_ | refine WQ.blkRet ?_ | refine WQ.blkHere rfl ?_ | refine WQ.blkOther rfl ?_ | refine WL.pure rfl rfl rfl rfl ?_ | refine WL.on rfl rfl ?_ | refine WL.off rfl rfl rfl ?_ | refine WC.condTrue rfl ?_ | refine WC.condFalse rfl ?_)
    refine WL.call rfl rfl rfl rfl rfl Try.func60 rfl (by kernel_rfl) (zig_any v.n hn w4) ?_
    rintro e _ ⟨rfl, rfl⟩
    refine ⟨_, rfl, ?_⟩
    refine WL.callF (args := [.tmp 37]) rfl rfl rfl rfl rfl rfl Try.func59 rfl (by kernel_rfl) (lay1_any hzl hbx3 (by omega)) ?_
    rintro e w6 ⟨rfl, b4, hbx4, g4⟩
    refine ⟨_, rfl, ?_⟩
    have g34 := g3.trans g4
    repeat (first | ((with_reducible refine WL.topT ?_ ?_); omega) | ((with_reducible refine WL.topF ?_ ?_); omega) | ((with_reducible refine WL.top64 ?_ ?_); omega) | refine WC.seq ?_ | refine WC.block ?_ | refine WC.region ?_ | refine WL.nil ?_ | refine WC.skip ?_ | refine WC.exit ?_ | refine WC.ret ?_ | refine WQ.then rfl ?_ | refine WQ.thenExit ?_ | refine WQ.thenRet ?_ | refine WQ.blk ?_ | refine WQ.blkRet ?_ | refine WQ.blkHere rfl ?_ | refine WQ.blkOther rfl ?_ | refine WL.pure rfl rfl rfl rfl ?_ | refine WL.on rfl rfl ?_ | refine WL.off rfl rfl rfl ?_ | refine WC.condTrue rfl ?_ | refine WC.condFalse rfl ?_)
    refine WL.load rfl rfl rfl rfl rfl rfl (hbx4.blk.cell 0 (by simp)) ?_
    repeat (first | ((with_reducible refine WL.topT ?_ ?_); omega) | ((with_reducible refine WL.topF ?_ ?_); omega) | ((with_reducible refine WL.top64 ?_ ?_); omega) | refine WC.seq ?_ | refine WC.block ?_ | refine WC.region ?_ | refine WL.nil ?_ | refine WC.skip ?_ | refine WC.exit ?_ | refine WC.ret ?_ | refine WQ.then rfl ?_ | refine WQ.thenExit ?_ | refine WQ.thenRet ?_ | refine WQ.blk ?_ | refine WQ.blkRet ?_ | refine WQ.blkHere rfl ?_ | refine WQ.blkOther rfl ?_ | refine WL.pure rfl rfl rfl rfl ?_ | refine WL.on rfl rfl ?_ | refine WL.off rfl rfl rfl ?_ | refine WC.condTrue rfl ?_ | refine WC.condFalse rfl ?_)
    refine WL.load rfl rfl rfl rfl rfl rfl ((hR g34).cell 2 (by simp)) ?_
    repeat (first | ((with_reducible refine WL.topT ?_ ?_); omega) | ((with_reducible refine WL.topF ?_ ?_); omega) | ((with_reducible refine WL.top64 ?_ ?_); omega) | refine WC.seq ?_ | refine WC.block ?_ | refine WC.region ?_ | refine WL.nil ?_ | refine WC.skip ?_ | refine WC.exit ?_ | refine WC.ret ?_ | refine WQ.then rfl ?_ | refine WQ.thenExit ?_ | refine WQ.thenRet ?_ | refine WQ.blk ?_ | refine WQ.blkRet ?_ | refine WQ.blkHere rfl ?_ | refine WQ.blkOther rfl ?_ | refine WL.pure rfl rfl rfl rfl ?_ | refine WL.on rfl rfl ?_ | refine WL.off rfl rfl rfl ?_ | refine WC.condTrue rfl ?_ | refine WC.condFalse rfl ?_)
    refine WL.push rfl rfl rfl rfl rfl rfl rfl rfl rfl rfl rfl (fun _ => rfl) rfl hbx4.bu (by simp; omega) fun b5 w7 hb5 hg5 => ?_
    obtain ⟨hblk5, hbx5, g5⟩ := hbx4.put hb5 hg5
    refine WL.store rfl rfl rfl rfl rfl hb5.cell1 (by kernel_rfl) (hblk5.cell 0 (by simp)) (hblk5.free 0) ?_
    generalize w7.setCell ⟨bb, 0, none⟩ b5 = w8 at hbx5 g5
    repeat (first | ((with_reducible refine WL.topT ?_ ?_); omega) | ((with_reducible refine WL.topF ?_ ?_); omega) | ((with_reducible refine WL.top64 ?_ ?_); omega) | refine WC.seq ?_ | refine WC.block ?_ | refine WC.region ?_ | refine WL.nil ?_ | refine WC.skip ?_ | refine WC.exit ?_ | refine WC.ret ?_ | refine WQ.then rfl ?_ | refine WQ.thenExit ?_ | refine WQ.thenRet ?_ | refine WQ.blk ?_ | refine WQ.blkRet ?_ | refine WQ.blkHere rfl ?_ | refine WQ.blkOther rfl ?_ | refine WL.pure rfl rfl rfl rfl ?_ | refine WL.on rfl rfl ?_ | refine WL.off rfl rfl rfl ?_ | refine WC.condTrue rfl ?_ | refine WC.condFalse rfl ?_)
    refine WL.load rfl rfl rfl rfl rfl rfl (hbx5.blk.cell 0 (by simp)) ?_
    repeat (first | ((with_reducible refine WL.topT ?_ ?_); omega) | ((with_reducible refine WL.topF ?_ ?_); omega) | ((with_reducible refine WL.top64 ?_ ?_); omega) | refine WC.seq ?_ | refine WC.block ?_ | refine WC.region ?_ | refine WL.nil ?_ | refine WC.skip ?_ | refine WC.exit ?_ | refine WC.ret ?_ | refine WQ.then rfl ?_ | refine WQ.thenExit ?_ | refine WQ.thenRet ?_ | refine WQ.blk ?_ | refine WQ.blkRet ?_ | refine WQ.blkHere rfl ?_ | refine WQ.blkOther rfl ?_ | refine WL.pure rfl rfl rfl rfl ?_ | refine WL.on rfl rfl ?_ | refine WL.off rfl rfl rfl ?_ | refine WC.condTrue rfl ?_ | refine WC.condFalse rfl ?_)
    refine WQ.ret1 rfl rfl (fin (x := uvB (zig v.n) ++ [v.s]) ?_ (g34.trans g5) hkx.symm)
    rw [hL0, ← List.append_assoc, ← e8]; exact hbx5.bu
  by_cases k5 : v.k = 5
  · have hx := f5 k5
    have e8 : IntKind.u64.wrap v.n = (v.n.toNat : Int) := by rw [IntKind.wrap_u64]; omega
    have hkx : encV (m + 1) v = v.k :: uvB v.n.toNat := by rw [hkey, if_neg k2, if_neg k3, if_neg k4, if_pos k5]
    rw [hkx] at hl3
    simp at hl3
    repeat (first | ((with_reducible refine WL.topT ?_ ?_); omega) | ((with_reducible refine WL.topF ?_ ?_); omega) | ((with_reducible refine WL.top64 ?_ ?_); omega) | refine WC.seq ?_ | refine WC.block ?_ | refine WC.region ?_ | refine WL.nil ?_ | refine WC.skip ?_ | refine WC.exit ?_ | refine WC.ret ?_ | refine WQ.then rfl ?_ | refine WQ.thenExit ?_ | refine WQ.thenRet ?_ | refine WQ.blk ?_ | refine WQ.blkRet ?_ | refine WQ.blkHere rfl ?_ | refine WQ.blkOther rfl ?_ | refine WL.pure rfl rfl rfl rfl ?_ | refine WL.on rfl rfl ?_ | refine WL.off rfl rfl rfl ?_ | refine WC.condTrue rfl ?_ | refine WC.condFalse rfl ?_)
    refine WL.load rfl rfl rfl rfl rfl rfl ((hR g3).cell 1 (by simp)) ?_
    repeat (first | ((with_reducible refine WL.topT ?_ ?_); omega) | ((with_reducible refine WL.topF ?_ ?_); omega) | ((with_reducible refine WL.top64 ?_ ?_); omega) | refine WC.seq ?_ | refine WC.block ?_ | refine WC.region ?_ | refine WL.nil ?_ | refine WC.skip ?_ | refine WC.exit ?_ | refine WC.ret ?_ | refine WQ.then rfl ?_ | refine WQ.thenExit ?_ | refine WQ.thenRet ?_ | refine WQ.blk ?_ | refine WQ.blkRet ?_ | refine WQ.blkHere rfl ?_ | refine WQ.blkOther rfl ?_ | refine WL.pure rfl rfl rfl rfl ?_ | refine WL.on rfl rfl ?_ | refine WL.off rfl rfl rfl ?_ | refine WC.condTrue rfl ?_ | refine WC.condFalse rfl ?_)
    refine WL.callF (args := [.tmp 50]) rfl rfl rfl rfl rfl rfl Try.func59 rfl (by kernel_rfl) (by rw [e8]; exact lay1_any (by omega) hbx3 (by omega)) ?_
    rintro e w6 ⟨rfl, b4, hbx4, g4⟩
    refine ⟨_, rfl, ?_⟩
    repeat (first | ((with_reducible refine WL.topT ?_ ?_); omega) | ((with_reducible refine WL.topF ?_ ?_); omega) | ((with_reducible refine WL.top64 ?_ ?_); omega) | refine WC.seq ?_ | refine WC.block ?_ | refine WC.region ?_ | refine WL.nil ?_ | refine WC.skip ?_ | refine WC.exit ?_ | refine WC.ret ?_ | refine WQ.then rfl ?_ | refine WQ.thenExit ?_ | refine WQ.thenRet ?_ | refine WQ.blk ?_ | refine WQ.blkRet ?_ | refine WQ.blkHere rfl ?_ | refine WQ.blkOther rfl ?_ | refine WL.pure rfl rfl rfl rfl ?_ | refine WL.on rfl rfl ?_ | refine WL.off rfl rfl rfl ?_ | refine WC.condTrue rfl ?_ | refine WC.condFalse rfl ?_)
    refine WL.load rfl rfl rfl rfl rfl rfl (hbx4.blk.cell 0 (by simp)) ?_
    repeat (first | ((with_reducible refine WL.topT ?_ ?_); omega) | ((with_reducible refine WL.topF ?_ ?_); omega) | ((with_reducible refine WL.top64 ?_ ?_); omega) | refine WC.seq ?_ | refine WC.block ?_ | refine WC.region ?_ | refine WL.nil ?_ | refine WC.skip ?_ | refine WC.exit ?_ | refine WC.ret ?_ | refine WQ.then rfl ?_ | refine WQ.thenExit ?_ | refine WQ.thenRet ?_ | refine WQ.blk ?_ | refine WQ.blkRet ?_ | refine WQ.blkHere rfl ?_ | refine WQ.blkOther rfl ?_ | refine WL.pure rfl rfl rfl rfl ?_ | refine WL.on rfl rfl ?_ | refine WL.off rfl rfl rfl ?_ | refine WC.condTrue rfl ?_ | refine WC.condFalse rfl ?_)
    exact WQ.ret1 rfl rfl (fin (by rw [hL0]; exact hbx4.bu) (g3.trans g4) hkx.symm)
  by_cases k67 : v.k = 6 ∨ v.k = 7
  · have e8 : IntKind.u64.wrap (v.t.size : Int) = ((v.t.size : Nat) : Int) := by rw [IntKind.wrap_u64]; omega
    have hkx : encV (m + 1) v = v.k :: (uvB v.t.size ++ byI v.t) := by rw [hkey, if_neg k2, if_neg k3, if_neg k4, if_neg k5, if_pos k67]
    have hbl := byI_len v.t
    rw [hkx] at hl3
    simp only [List.length_cons, List.length_append] at hl3
    rcases k67 with k6 | k7
    all_goals
      repeat (first | ((with_reducible refine WL.topT ?_ ?_); omega) | ((with_reducible refine WL.topF ?_ ?_); omega) | ((with_reducible refine WL.top64 ?_ ?_); omega) | refine WC.seq ?_ | refine WC.block ?_ | refine WC.region ?_ | refine WL.nil ?_ | refine WC.skip ?_ | refine WC.exit ?_ | refine WC.ret ?_ | refine WQ.then rfl ?_ | refine WQ.thenExit ?_ | refine WQ.thenRet ?_ | refine WQ.blk ?_ | refine WQ.blkRet ?_ | refine WQ.blkHere rfl ?_ | refine WQ.blkOther rfl ?_ | refine WL.pure rfl rfl rfl rfl ?_ | refine WL.on rfl rfl ?_ | refine WL.off rfl rfl rfl ?_ | refine WC.condTrue rfl ?_ | refine WC.condFalse rfl ?_)
      refine WL.load rfl rfl rfl rfl rfl rfl ((hR g3).cell 3 (by simp)) ?_
      repeat (first | ((with_reducible refine WL.topT ?_ ?_); omega) | ((with_reducible refine WL.topF ?_ ?_); omega) | ((with_reducible refine WL.top64 ?_ ?_); omega) | refine WC.seq ?_ | refine WC.block ?_ | refine WC.region ?_ | refine WL.nil ?_ | refine WC.skip ?_ | refine WC.exit ?_ | refine WC.ret ?_ | refine WQ.then rfl ?_ | refine WQ.thenExit ?_ | refine WQ.thenRet ?_ | refine WQ.blk ?_ | refine WQ.blkRet ?_ | refine WQ.blkHere rfl ?_ | refine WQ.blkOther rfl ?_ | refine WL.pure rfl rfl rfl rfl ?_ | refine WL.on rfl rfl ?_ | refine WL.off rfl rfl rfl ?_ | refine WC.condTrue rfl ?_ | refine WC.condFalse rfl ?_)
      refine WL.callF (args := [.tmp 59]) rfl rfl rfl rfl rfl rfl Try.func59 rfl (by kernel_rfl) (by rw [e8]; exact lay1_any (by omega) hbx3 (by omega)) ?_
      rintro e w6 ⟨rfl, b4, hbx4, g4⟩
      refine ⟨_, rfl, ?_⟩
      have g34 := g3.trans g4
      repeat (first | ((with_reducible refine WL.topT ?_ ?_); omega) | ((with_reducible refine WL.topF ?_ ?_); omega) | ((with_reducible refine WL.top64 ?_ ?_); omega) | refine WC.seq ?_ | refine WC.block ?_ | refine WC.region ?_ | refine WL.nil ?_ | refine WC.skip ?_ | refine WC.exit ?_ | refine WC.ret ?_ | refine WQ.then rfl ?_ | refine WQ.thenExit ?_ | refine WQ.thenRet ?_ | refine WQ.blk ?_ | refine WQ.blkRet ?_ | refine WQ.blkHere rfl ?_ | refine WQ.blkOther rfl ?_ | refine WL.pure rfl rfl rfl rfl ?_ | refine WL.on rfl rfl ?_ | refine WL.off rfl rfl rfl ?_ | refine WC.condTrue rfl ?_ | refine WC.condFalse rfl ?_)
      refine WL.load rfl rfl rfl rfl rfl rfl (hbx4.blk.cell 0 (by simp)) ?_
      repeat (first | ((with_reducible refine WL.topT ?_ ?_); omega) | ((with_reducible refine WL.topF ?_ ?_); omega) | ((with_reducible refine WL.top64 ?_ ?_); omega) | refine WC.seq ?_ | refine WC.block ?_ | refine WC.region ?_ | refine WL.nil ?_ | refine WC.skip ?_ | refine WC.exit ?_ | refine WC.ret ?_ | refine WQ.then rfl ?_ | refine WQ.thenExit ?_ | refine WQ.thenRet ?_ | refine WQ.blk ?_ | refine WQ.blkRet ?_ | refine WQ.blkHere rfl ?_ | refine WQ.blkOther rfl ?_ | refine WL.pure rfl rfl rfl rfl ?_ | refine WL.on rfl rfl ?_ | refine WL.off rfl rfl rfl ?_ | refine WC.condTrue rfl ?_ | refine WC.condFalse rfl ?_)
      refine WL.load rfl rfl rfl rfl rfl rfl ((hR g34).cell 3 (by simp)) ?_
      refine WL.appS rfl rfl rfl rfl rfl hbx4.bu rfl (by rw [List.length_append]; omega) fun b5 w7 hb5 hg5 => ?_
      obtain ⟨hblk5, hbx5, g5⟩ := hbx4.put hb5 hg5
      refine WL.store rfl rfl rfl rfl rfl hb5.cell1 (by kernel_rfl) (hblk5.cell 0 (by simp)) (hblk5.free 0) ?_
      generalize w7.setCell ⟨bb, 0, none⟩ b5 = w8 at hbx5 g5
      repeat (first | ((with_reducible refine WL.topT ?_ ?_); omega) | ((with_reducible refine WL.topF ?_ ?_); omega) | ((with_reducible refine WL.top64 ?_ ?_); omega) | refine WC.seq ?_ | refine WC.block ?_ | refine WC.region ?_ | refine WL.nil ?_ | refine WC.skip ?_ | refine WC.exit ?_ | refine WC.ret ?_ | refine WQ.then rfl ?_ | refine WQ.thenExit ?_ | refine WQ.thenRet ?_ | refine WQ.blk ?_ | refine WQ.blkRet ?_ | refine WQ.blkHere rfl ?_ | refine WQ.blkOther rfl ?_ | refine WL.pure rfl rfl rfl rfl ?_ | refine WL.on rfl rfl ?_ | refine WL.off rfl rfl rfl ?_ | refine WC.condTrue rfl ?_ | refine WC.condFalse rfl ?_)
      refine WL.load rfl rfl rfl rfl rfl rfl (hbx5.blk.cell 0 (by simp)) ?_
      repeat (first | ((with_reducible refine WL.topT ?_ ?_); omega) | ((with_reducible refine WL.topF ?_ ?_); omega) | ((with_reducible refine WL.top64 ?_ ?_); omega) | refine WC.seq ?_ | refine WC.block ?_ | refine WC.region ?_ | refine WL.nil ?_ | refine WC.skip ?_ | refine WC.exit ?_ | refine WC.ret ?_ | refine WQ.then rfl ?_ | refine WQ.thenExit ?_ | refine WQ.thenRet ?_ | refine WQ.blk ?_ | refine WQ.blkRet ?_ | refine WQ.blkHere rfl ?_ | refine WQ.blkOther rfl ?_ | refine WL.pure rfl rfl rfl rfl ?_ | refine WL.on rfl rfl ?_ | refine WL.off rfl rfl rfl ?_ | refine WC.condTrue rfl ?_ | refine WC.condFalse rfl ?_)
      refine WQ.ret1 rfl rfl (fin (x := uvB v.t.size ++ byI v.t) ?_ (g34.trans g5) hkx.symm)
      rw [hL0, ← List.append_assoc]; exact hbx5.bu
  have k89 : v.k = 8 ∨ v.k = 9 := by omega
  obtain ⟨sp, cap, rfl, hcap1, hcap2, hrow⟩ := hkids
  have hkx : encV (m + 1) v = v.k :: (uvB v.kids.length ++ (List.range v.kids.length).flatMap (pieceE (encV m) (decide (v.k = 9)) v.names v.kids)) := by rw [hkey, if_neg k2, if_neg k3, if_neg k4, if_neg k5, if_neg k67, if_pos k89]
  rw [hkx] at hl3
  simp only [List.length_cons, List.length_append] at hl3
  have hkid : ∀ j, j < v.kids.length → chk m (v.kids.getD j noV) = 0 := fun j hj => chk_kid hc hj
  have round : ∀ i, i + 1 ≤ v.kids.length → ((List.range i).flatMap (pieceE (encV m) (decide (v.k = 9)) v.names v.kids)).length + (pieceE (encV m) (decide (v.k = 9)) v.names v.kids i).length ≤ ((List.range v.kids.length).flatMap (pieceE (encV m) (decide (v.k = 9)) v.names v.kids)).length := fun i hi => by
    have := range_len_le (pieceE (encV m) (decide (v.k = 9)) v.names v.kids) hi
    rw [range_piece, List.length_append] at this
    exact this
  have eK : IntKind.u64.wrap (v.kids.length : Int) = ((v.kids.length : Nat) : Int) := by rw [IntKind.wrap_u64]; omega
  have huk : (uvB v.kids.length).length ≤ 10 := uvF_len 10 _
  have hL1 : ∀ x, l ++ v.k :: (uvB v.kids.length ++ x) = (L ++ uvB v.kids.length) ++ x := fun x => by rw [hL0, List.append_assoc]
  rcases k89 with k8 | k9
  · rw [show decide (v.k = 9) = false from decide_eq_false (by omega)] at hkx hl3 round
    repeat (first | ((with_reducible refine WL.topT ?_ ?_); omega) | ((with_reducible refine WL.topF ?_ ?_); omega) | ((with_reducible refine WL.top64 ?_ ?_); omega) | refine WC.seq ?_ | refine WC.block ?_ | refine WC.region ?_ | refine WL.nil ?_ | refine WC.skip ?_ | refine WC.exit ?_ | refine WC.ret ?_ | refine WQ.then rfl ?_ | refine WQ.thenExit ?_ | refine WQ.thenRet ?_ | refine WQ.blk ?_ | refine WQ.blkRet ?_ | refine WQ.blkHere rfl ?_ | refine WQ.blkOther rfl ?_ | refine WL.pure rfl rfl rfl rfl ?_ | refine WL.on rfl rfl ?_ | refine WL.off rfl rfl rfl ?_ | refine WC.condTrue rfl ?_ | refine WC.condFalse rfl ?_)
    refine WL.load rfl rfl rfl rfl rfl rfl ((hR g3).cell 5 (by simp)) ?_
    repeat (first | ((with_reducible refine WL.topT ?_ ?_); omega) | ((with_reducible refine WL.topF ?_ ?_); omega) | ((with_reducible refine WL.top64 ?_ ?_); omega) | refine WC.seq ?_ | refine WC.block ?_ | refine WC.region ?_ | refine WL.nil ?_ | refine WC.skip ?_ | refine WC.exit ?_ | refine WC.ret ?_ | refine WQ.then rfl ?_ | refine WQ.thenExit ?_ | refine WQ.thenRet ?_ | refine WQ.blk ?_ | refine WQ.blkRet ?_ | refine WQ.blkHere rfl ?_ | refine WQ.blkOther rfl ?_ | refine WL.pure rfl rfl rfl rfl ?_ | refine WL.on rfl rfl ?_ | refine WL.off rfl rfl rfl ?_ | refine WC.condTrue rfl ?_ | refine WC.condFalse rfl ?_)
    refine WL.callF (args := [.tmp 72]) rfl rfl rfl rfl rfl rfl Try.func59 rfl (by kernel_rfl) (by rw [eK]; exact lay1_any (by omega) hbx3 (by omega)) ?_
    rintro e w6 ⟨rfl, b4, hbx4, g4⟩
    refine ⟨_, rfl, ?_⟩
    have g34 := g3.trans g4
    have hLl : (L ++ uvB v.kids.length).length = L.length + (uvB v.kids.length).length := List.length_append
    generalize L ++ uvB v.kids.length = M at hbx4 hL1 hLl
    repeat (first | ((with_reducible refine WL.topT ?_ ?_); omega) | ((with_reducible refine WL.topF ?_ ?_); omega) | ((with_reducible refine WL.top64 ?_ ?_); omega) | refine WC.seq ?_ | refine WC.block ?_ | refine WC.region ?_ | refine WL.nil ?_ | refine WC.skip ?_ | refine WC.exit ?_ | refine WC.ret ?_ | refine WQ.then rfl ?_ | refine WQ.thenExit ?_ | refine WQ.thenRet ?_ | refine WQ.blk ?_ | refine WQ.blkRet ?_ | refine WQ.blkHere rfl ?_ | refine WQ.blkOther rfl ?_ | refine WL.pure rfl rfl rfl rfl ?_ | refine WL.on rfl rfl ?_ | refine WL.off rfl rfl rfl ?_ | refine WC.condTrue rfl ?_ | refine WC.condFalse rfl ?_)
    refine WL.load rfl rfl rfl rfl rfl rfl ((hR g34).cell 5 (by simp)) ?_
    repeat (first | ((with_reducible refine WL.topT ?_ ?_); omega) | ((with_reducible refine WL.topF ?_ ?_); omega) | ((with_reducible refine WL.top64 ?_ ?_); omega) | refine WC.seq ?_ | refine WC.block ?_ | refine WC.region ?_ | refine WL.nil ?_ | refine WC.skip ?_ | refine WC.exit ?_ | refine WC.ret ?_ | refine WQ.then rfl ?_ | refine WQ.thenExit ?_ | refine WQ.thenRet ?_ | refine WQ.blk ?_ | refine WQ.blkRet ?_ | refine WQ.blkHere rfl ?_ | refine WQ.blkOther rfl ?_ | refine WL.pure rfl rfl rfl rfl ?_ | refine WL.on rfl rfl ?_ | refine WL.off rfl rfl rfl ?_ | refine WC.condTrue rfl ?_ | refine WC.condFalse rfl ?_)
    refine WC.loop (fun i : Nat × Value => [(2, .pointer (some ⟨bb, 0, none⟩)), (3, .pointer (some ⟨g, 0, none⟩)), (5, .func (.func 59) #[] #[.pointer (some ⟨bb, 0, none⟩)]), (75, .slice sp v.kids.length cap), (76, .int .i64 v.kids.length), (77, .int .i64 i.1)])
      (fun i w' => i.1 ≤ v.kids.length ∧ Bx bb w' i.2 (M ++ (List.range i.1).flatMap (pieceE (encV m) false v.names v.kids)) ∧ GrowB bb w2 b w' i.2) (fun i => v.kids.length - i.1) (0, b4)
      ⟨rfl, rfl, rfl, rfl, rfl, rfl, trivial⟩ ⟨Nat.zero_le _, by simpa using hbx4, g34⟩ ?_
    rintro ⟨i, br⟩ wr ⟨hi, hbr, hgr⟩
    simp only at hi hbr hgr ⊢
    by_cases hik : i < v.kids.length
    · obtain ⟨kb, ko, rfl, hkb, hcells⟩ := hrow (by omega)
      obtain ⟨c, hc6, hci, hcr⟩ := hcells i hik
      have har := hA hgr
      have hcr' : wr.rangeAt kb (ko + i * 6) c := fun j u hu => by rw [har.below.cell (p := ⟨kb, ko + i * 6 + j, none⟩) hkb]; exact hcr j u hu
      have hro := round i hik
      repeat (first | ((with_reducible refine WL.topT ?_ ?_); omega) | ((with_reducible refine WL.topF ?_ ?_); omega) | ((with_reducible refine WL.top64 ?_ ?_); omega) | refine WC.seq ?_ | refine WC.block ?_ | refine WC.region ?_ | refine WL.nil ?_ | refine WC.skip ?_ | refine WC.exit ?_ | refine WC.ret ?_ | refine WQ.then rfl ?_ | refine WQ.thenExit ?_ | refine WQ.thenRet ?_ | refine WQ.blk ?_ | refine WQ.blkRet ?_ | refine WQ.blkHere rfl ?_ | refine WQ.blkOther rfl ?_ | refine WL.pure rfl rfl rfl rfl ?_ | refine WL.on rfl rfl ?_ | refine WL.off rfl rfl rfl ?_ | refine WC.condTrue rfl ?_ | refine WC.condFalse rfl ?_)
      refine WL.idx i (ko + i * 6) rfl rfl rfl rfl rfl rfl rfl rfl hik rfl ?_
      refine WL.loadMid rfl rfl rfl rfl rfl rfl hcr' hc6 ?_
      refine WL.alloc (z := .agg #[.int .i64 0, .int .i64 0, .int .i64 0, .string ByteArray.empty, .slice none 0 0, .slice none 0 0]) rfl rfl rfl rfl (fun _ => by kernel_rfl) fun g2 w7 hf2 => ?_
      repeat (first | ((with_reducible refine WL.topT ?_ ?_); omega) | ((with_reducible refine WL.topF ?_ ?_); omega) | ((with_reducible refine WL.top64 ?_ ?_); omega) | refine WC.seq ?_ | refine WC.block ?_ | refine WC.region ?_ | refine WL.nil ?_ | refine WC.skip ?_ | refine WC.exit ?_ | refine WC.ret ?_ | refine WQ.then rfl ?_ | refine WQ.thenExit ?_ | refine WQ.thenRet ?_ | refine WQ.blk ?_ | refine WQ.blkRet ?_ | refine WQ.blkHere rfl ?_ | refine WQ.blkOther rfl ?_ | refine WL.pure rfl rfl rfl rfl ?_ | refine WL.on rfl rfl ?_ | refine WL.off rfl rfl rfl ?_ | refine WC.condTrue rfl ?_ | refine WC.condFalse rfl ?_)
      refine WL.storeRow rfl rfl rfl rfl rfl rfl hf2.blk hc6 rfl (IsV.one hci) ?_
      have hb3 : Below wr.heap.size wr (w7.setRow g2 c.toArray) := below_setRow hf2.below (by rw [hf2.eq]; exact Nat.le_refl _) _
      have hblk7 : VBlk 45 (w7.setRow g2 c.toArray) g2 c := hf2.blk.setRow c
      have hg2e := hf2.eq
      generalize w7.setRow g2 c.toArray = w8 at hb3 hblk7
      have hbx8 : Bx bb w8 br _ := hbr.below hb3
      have hg8 : GrowB bb w2 b w8 br := hgr.below hb3
      have hg2o : br.ownBlock ≠ some g2 := fun e => by have := hbr.bu.lt _ e; omega
      have hg2b : g2 ≠ bb := by have := hbr.blk.lt; omega
      repeat (first | ((with_reducible refine WL.topT ?_ ?_); omega) | ((with_reducible refine WL.topF ?_ ?_); omega) | ((with_reducible refine WL.top64 ?_ ?_); omega) | refine WC.seq ?_ | refine WC.block ?_ | refine WC.region ?_ | refine WL.nil ?_ | refine WC.skip ?_ | refine WC.exit ?_ | refine WC.ret ?_ | refine WQ.then rfl ?_ | refine WQ.thenExit ?_ | refine WQ.thenRet ?_ | refine WQ.blk ?_ | refine WQ.blkRet ?_ | refine WQ.blkHere rfl ?_ | refine WQ.blkOther rfl ?_ | refine WL.pure rfl rfl rfl rfl ?_ | refine WL.on rfl rfl ?_ | refine WL.off rfl rfl rfl ?_ | refine WC.condTrue rfl ?_ | refine WC.condFalse rfl ?_)
      refine WL.load rfl rfl rfl rfl rfl rfl ((hR hg8).cell 0 (by simp)) ?_
      have hpc : pieceE (encV m) false v.names v.kids i = encV m (v.kids.getD i noV) := rfl
      rw [hpc] at hro
      repeat (first | ((with_reducible refine WL.topT ?_ ?_); omega) | ((with_reducible refine WL.topF ?_ ?_); omega) | ((with_reducible refine WL.top64 ?_ ?_); omega) | refine WC.seq ?_ | refine WC.block ?_ | refine WC.region ?_ | refine WL.nil ?_ | refine WC.skip ?_ | refine WC.exit ?_ | refine WC.ret ?_ | refine WQ.then rfl ?_ | refine WQ.thenExit ?_ | refine WQ.thenRet ?_ | refine WQ.blk ?_ | refine WQ.blkRet ?_ | refine WQ.blkHere rfl ?_ | refine WQ.blkOther rfl ?_ | refine WL.pure rfl rfl rfl rfl ?_ | refine WL.on rfl rfl ?_ | refine WL.off rfl rfl rfl ?_ | refine WC.condTrue rfl ?_ | refine WC.condFalse rfl ?_)
      refine WL.load rfl rfl rfl rfl rfl rfl (hbx8.blk.cell 0 (by simp)) ?_
      refine WL.loadMid rfl rfl rfl rfl rfl rfl (VBlk.rangeAt hblk7) hc6 ?_
      refine WL.call rfl rfl rfl rfl rfl Try.func46 rfl (by kernel_rfl) (ih (w0 := w0) hci (hkid i hik) hbx8.bu (hA hg8) (by rw [List.length_append]; omega)) ?_
      rintro e w13 ⟨b13, rfl, hb13, hg13⟩
      refine ⟨_, rfl, ?_⟩
      obtain ⟨hblk13, hbx14, hg14⟩ := hbx8.put hb13 hg13
      refine WL.store rfl rfl rfl rfl rfl hb13.cell1 (by kernel_rfl) (hblk13.cell 0 (by simp)) (hblk13.free 0) ?_
      generalize w13.setCell ⟨bb, 0, none⟩ b13 = w14 at hbx14 hg14
      repeat (first | ((with_reducible refine WL.topT ?_ ?_); omega) | ((with_reducible refine WL.topF ?_ ?_); omega) | ((with_reducible refine WL.top64 ?_ ?_); omega) | refine WC.seq ?_ | refine WC.block ?_ | refine WC.region ?_ | refine WL.nil ?_ | refine WC.skip ?_ | refine WC.exit ?_ | refine WC.ret ?_ | refine WQ.then rfl ?_ | refine WQ.thenExit ?_ | refine WQ.thenRet ?_ | refine WQ.blk ?_ | refine WQ.blkRet ?_ | refine WQ.blkHere rfl ?_ | refine WQ.blkOther rfl ?_ | refine WL.pure rfl rfl rfl rfl ?_ | refine WL.on rfl rfl ?_ | refine WL.off rfl rfl rfl ?_ | refine WC.condTrue rfl ?_ | refine WC.condFalse rfl ?_)
      refine WQ.again (i + 1, b13) ⟨rfl, rfl, rfl, rfl, rfl, rfl, trivial⟩ ⟨hik, ?_, hg8.trans hg14⟩ (by show v.kids.length - (i + 1) < v.kids.length - i; omega)
      show Bx bb w14 b13 (M ++ (List.range (i + 1)).flatMap _)
      rw [range_piece, hpc, ← List.append_assoc]
      exact hbx14
    · obtain rfl : i = v.kids.length := by omega
      repeat (first | ((with_reducible refine WL.topT ?_ ?_); omega) | ((with_reducible refine WL.topF ?_ ?_); omega) | ((with_reducible refine WL.top64 ?_ ?_); omega) | refine WC.seq ?_ | refine WC.block ?_ | refine WC.region ?_ | refine WL.nil ?_ | refine WC.skip ?_ | refine WC.exit ?_ | refine WC.ret ?_ | refine WQ.then rfl ?_ | refine WQ.thenExit ?_ | refine WQ.thenRet ?_ | refine WQ.blk ?_ | refine WQ.blkRet ?_ | refine WQ.blkHere rfl ?_ | refine WQ.blkOther rfl ?_ | refine WL.pure rfl rfl rfl rfl ?_ | refine WL.on rfl rfl ?_ | refine WL.off rfl rfl rfl ?_ | refine WC.condTrue rfl ?_ | refine WC.condFalse rfl ?_)
      refine WL.load rfl rfl rfl rfl rfl rfl (hbr.blk.cell 0 (by simp)) ?_
      repeat (first | ((with_reducible refine WL.topT ?_ ?_); omega) | ((with_reducible refine WL.topF ?_ ?_); omega) | ((with_reducible refine WL.top64 ?_ ?_); omega) | refine WC.seq ?_ | refine WC.block ?_ | refine WC.region ?_ | refine WL.nil ?_ | refine WC.skip ?_ | refine WC.exit ?_ | refine WC.ret ?_ | refine WQ.then rfl ?_ | refine WQ.thenExit ?_ | refine WQ.thenRet ?_ | refine WQ.blk ?_ | refine WQ.blkRet ?_ | refine WQ.blkHere rfl ?_ | refine WQ.blkOther rfl ?_ | refine WL.pure rfl rfl rfl rfl ?_ | refine WL.on rfl rfl ?_ | refine WL.off rfl rfl rfl ?_ | refine WC.condTrue rfl ?_ | refine WC.condFalse rfl ?_)
      exact WQ.ret1 rfl rfl (fin (by rw [hL1]; exact hbr.bu) hgr hkx.symm)
  · rw [show decide (v.k = 9) = true from decide_eq_true k9] at hkx hl3 round
    obtain ⟨np, nc, rfl, nl, nc2, nsz, nr⟩ := hnames
    have hnk := (f9 k9).1
    repeat (first | ((with_reducible refine WL.topT ?_ ?_); omega) | ((with_reducible refine WL.topF ?_ ?_); omega) | ((with_reducible refine WL.top64 ?_ ?_); omega) | refine WC.seq ?_ | refine WC.block ?_ | refine WC.region ?_ | refine WL.nil ?_ | refine WC.skip ?_ | refine WC.exit ?_ | refine WC.ret ?_ | refine WQ.then rfl ?_ | refine WQ.thenExit ?_ | refine WQ.thenRet ?_ | refine WQ.blk ?_ | refine WQ.blkRet ?_ | refine WQ.blkHere rfl ?_ | refine WQ.blkOther rfl ?_ | refine WL.pure rfl rfl rfl rfl ?_ | refine WL.on rfl rfl ?_ | refine WL.off rfl rfl rfl ?_ | refine WC.condTrue rfl ?_ | refine WC.condFalse rfl ?_)
    refine WL.load rfl rfl rfl rfl rfl rfl ((hR g3).cell 5 (by simp)) ?_
    repeat (first | ((with_reducible refine WL.topT ?_ ?_); omega) | ((with_reducible refine WL.topF ?_ ?_); omega) | ((with_reducible refine WL.top64 ?_ ?_); omega) | refine WC.seq ?_ | refine WC.block ?_ | refine WC.region ?_ | refine WL.nil ?_ | refine WC.skip ?_ | refine WC.exit ?_ | refine WC.ret ?_ | refine WQ.then rfl ?_ | refine WQ.thenExit ?_ | refine WQ.thenRet ?_ | refine WQ.blk ?_ | refine WQ.blkRet ?_ | refine WQ.blkHere rfl ?_ | refine WQ.blkOther rfl ?_ | refine WL.pure rfl rfl rfl rfl ?_ | refine WL.on rfl rfl ?_ | refine WL.off rfl rfl rfl ?_ | refine WC.condTrue rfl ?_ | refine WC.condFalse rfl ?_)
    refine WL.callF (args := [.tmp 72]) rfl rfl rfl rfl rfl rfl Try.func59 rfl (by kernel_rfl) (by rw [eK]; exact lay1_any (by omega) hbx3 (by omega)) ?_
    rintro e w6 ⟨rfl, b4, hbx4, g4⟩
    refine ⟨_, rfl, ?_⟩
    have g34 := g3.trans g4
    have hLl : (L ++ uvB v.kids.length).length = L.length + (uvB v.kids.length).length := List.length_append
    generalize L ++ uvB v.kids.length = M at hbx4 hL1 hLl
    repeat (first | ((with_reducible refine WL.topT ?_ ?_); omega) | ((with_reducible refine WL.topF ?_ ?_); omega) | ((with_reducible refine WL.top64 ?_ ?_); omega) | refine WC.seq ?_ | refine WC.block ?_ | refine WC.region ?_ | refine WL.nil ?_ | refine WC.skip ?_ | refine WC.exit ?_ | refine WC.ret ?_ | refine WQ.then rfl ?_ | refine WQ.thenExit ?_ | refine WQ.thenRet ?_ | refine WQ.blk ?_ | refine WQ.blkRet ?_ | refine WQ.blkHere rfl ?_ | refine WQ.blkOther rfl ?_ | refine WL.pure rfl rfl rfl rfl ?_ | refine WL.on rfl rfl ?_ | refine WL.off rfl rfl rfl ?_ | refine WC.condTrue rfl ?_ | refine WC.condFalse rfl ?_)
    refine WL.load rfl rfl rfl rfl rfl rfl ((hR g34).cell 5 (by simp)) ?_
    repeat (first | ((with_reducible refine WL.topT ?_ ?_); omega) | ((with_reducible refine WL.topF ?_ ?_); omega) | ((with_reducible refine WL.top64 ?_ ?_); omega) | refine WC.seq ?_ | refine WC.block ?_ | refine WC.region ?_ | refine WL.nil ?_ | refine WC.skip ?_ | refine WC.exit ?_ | refine WC.ret ?_ | refine WQ.then rfl ?_ | refine WQ.thenExit ?_ | refine WQ.thenRet ?_ | refine WQ.blk ?_ | refine WQ.blkRet ?_ | refine WQ.blkHere rfl ?_ | refine WQ.blkOther rfl ?_ | refine WL.pure rfl rfl rfl rfl ?_ | refine WL.on rfl rfl ?_ | refine WL.off rfl rfl rfl ?_ | refine WC.condTrue rfl ?_ | refine WC.condFalse rfl ?_)
    refine WC.loop (fun i : Nat × Value => [(2, .pointer (some ⟨bb, 0, none⟩)), (3, .pointer (some ⟨g, 0, none⟩)), (5, .func (.func 59) #[] #[.pointer (some ⟨bb, 0, none⟩)]), (75, .slice sp v.kids.length cap), (76, .int .i64 v.kids.length), (77, .int .i64 i.1)])
      (fun i w' => i.1 ≤ v.kids.length ∧ Bx bb w' i.2 (M ++ (List.range i.1).flatMap (pieceE (encV m) true v.names v.kids)) ∧ GrowB bb w2 b w' i.2) (fun i => v.kids.length - i.1) (0, b4)
      ⟨rfl, rfl, rfl, rfl, rfl, rfl, trivial⟩ ⟨Nat.zero_le _, by simpa using hbx4, g34⟩ ?_
    rintro ⟨i, br⟩ wr ⟨hi, hbr, hgr⟩
    simp only at hi hbr hgr ⊢
    by_cases hik : i < v.kids.length
    · obtain ⟨kb, ko, rfl, hkb, hcells⟩ := hrow (by omega)
      obtain ⟨c, hc6, hci, hcr⟩ := hcells i hik
      have har := hA hgr
      have hcr' : wr.rangeAt kb (ko + i * 6) c := fun j u hu => by rw [har.below.cell (p := ⟨kb, ko + i * 6 + j, none⟩) hkb]; exact hcr j u hu
      have hro := round i hik
      repeat (first | ((with_reducible refine WL.topT ?_ ?_); omega) | ((with_reducible refine WL.topF ?_ ?_); omega) | ((with_reducible refine WL.top64 ?_ ?_); omega) | refine WC.seq ?_ | refine WC.block ?_ | refine WC.region ?_ | refine WL.nil ?_ | refine WC.skip ?_ | refine WC.exit ?_ | refine WC.ret ?_ | refine WQ.then rfl ?_ | refine WQ.thenExit ?_ | refine WQ.thenRet ?_ | refine WQ.blk ?_ | refine WQ.blkRet ?_ | refine WQ.blkHere rfl ?_ | refine WQ.blkOther rfl ?_ | refine WL.pure rfl rfl rfl rfl ?_ | refine WL.on rfl rfl ?_ | refine WL.off rfl rfl rfl ?_ | refine WC.condTrue rfl ?_ | refine WC.condFalse rfl ?_)
      refine WL.idx i (ko + i * 6) rfl rfl rfl rfl rfl rfl rfl rfl hik rfl ?_
      refine WL.loadMid rfl rfl rfl rfl rfl rfl hcr' hc6 ?_
      refine WL.alloc (z := .agg #[.int .i64 0, .int .i64 0, .int .i64 0, .string ByteArray.empty, .slice none 0 0, .slice none 0 0]) rfl rfl rfl rfl (fun _ => by kernel_rfl) fun g2 w7 hf2 => ?_
      repeat (first | ((with_reducible refine WL.topT ?_ ?_); omega) | ((with_reducible refine WL.topF ?_ ?_); omega) | ((with_reducible refine WL.top64 ?_ ?_); omega) | refine WC.seq ?_ | refine WC.block ?_ | refine WC.region ?_ | refine WL.nil ?_ | refine WC.skip ?_ | refine WC.exit ?_ | refine WC.ret ?_ | refine WQ.then rfl ?_ | refine WQ.thenExit ?_ | refine WQ.thenRet ?_ | refine WQ.blk ?_ | refine WQ.blkRet ?_ | refine WQ.blkHere rfl ?_ | refine WQ.blkOther rfl ?_ | refine WL.pure rfl rfl rfl rfl ?_ | refine WL.on rfl rfl ?_ | refine WL.off rfl rfl rfl ?_ | refine WC.condTrue rfl ?_ | refine WC.condFalse rfl ?_)
      refine WL.storeRow rfl rfl rfl rfl rfl rfl hf2.blk hc6 rfl (IsV.one hci) ?_
      have hb3 : Below wr.heap.size wr (w7.setRow g2 c.toArray) := below_setRow hf2.below (by rw [hf2.eq]; exact Nat.le_refl _) _
      have hblk7 : VBlk 45 (w7.setRow g2 c.toArray) g2 c := hf2.blk.setRow c
      have hg2e := hf2.eq
      generalize w7.setRow g2 c.toArray = w8 at hb3 hblk7
      have hbx8 : Bx bb w8 br _ := hbr.below hb3
      have hg8 : GrowB bb w2 b w8 br := hgr.below hb3
      have hg2o : br.ownBlock ≠ some g2 := fun e => by have := hbr.bu.lt _ e; omega
      have hg2b : g2 ≠ bb := by have := hbr.blk.lt; omega
      repeat (first | ((with_reducible refine WL.topT ?_ ?_); omega) | ((with_reducible refine WL.topF ?_ ?_); omega) | ((with_reducible refine WL.top64 ?_ ?_); omega) | refine WC.seq ?_ | refine WC.block ?_ | refine WC.region ?_ | refine WL.nil ?_ | refine WC.skip ?_ | refine WC.exit ?_ | refine WC.ret ?_ | refine WQ.then rfl ?_ | refine WQ.thenExit ?_ | refine WQ.thenRet ?_ | refine WQ.blk ?_ | refine WQ.blkRet ?_ | refine WQ.blkHere rfl ?_ | refine WQ.blkOther rfl ?_ | refine WL.pure rfl rfl rfl rfl ?_ | refine WL.on rfl rfl ?_ | refine WL.off rfl rfl rfl ?_ | refine WC.condTrue rfl ?_ | refine WC.condFalse rfl ?_)
      refine WL.load rfl rfl rfl rfl rfl rfl ((hR hg8).cell 0 (by simp)) ?_
      obtain ⟨nb, no, rfl, hnb, hnr⟩ := nr (by omega)
      have hnc := hnr i (by omega)
      have hns : (v.names.getD i noT).size ≤ 40 := (f9 k9).2 _ (by simp [show i < v.names.length by omega])
      have hpc : pieceE (encV m) true v.names v.kids i = (uvB (v.names.getD i noT).size ++ byI (v.names.getD i noT)) ++ encV m (v.kids.getD i noV) := rfl
      rw [hpc] at hro
      have hbl := byI_len (v.names.getD i noT)
      simp only [List.length_append] at hro
      have eN : IntKind.u64.wrap ((v.names.getD i noT).size : Int) = (((v.names.getD i noT).size : Nat) : Int) := by rw [IntKind.wrap_u64]; omega
      have hA8 := hA hg8
      repeat (first | ((with_reducible refine WL.topT ?_ ?_); omega) | ((with_reducible refine WL.topF ?_ ?_); omega) | ((with_reducible refine WL.top64 ?_ ?_); omega) | refine WC.seq ?_ | refine WC.block ?_ | refine WC.region ?_ | refine WL.nil ?_ | refine WC.skip ?_ | refine WC.exit ?_ | refine WC.ret ?_ | refine WQ.then rfl ?_ | refine WQ.thenExit ?_ | refine WQ.thenRet ?_ | refine WQ.blk ?_ | refine WQ.blkRet ?_ | refine WQ.blkHere rfl ?_ | refine WQ.blkOther rfl ?_ | refine WL.pure rfl rfl rfl rfl ?_ | refine WL.on rfl rfl ?_ | refine WL.off rfl rfl rfl ?_ | refine WC.condTrue rfl ?_ | refine WC.condFalse rfl ?_)
      refine WL.load rfl rfl rfl rfl rfl rfl ((hR hg8).cell 4 (by simp)) ?_
      repeat (first | ((with_reducible refine WL.topT ?_ ?_); omega) | ((with_reducible refine WL.topF ?_ ?_); omega) | ((with_reducible refine WL.top64 ?_ ?_); omega) | refine WC.seq ?_ | refine WC.block ?_ | refine WC.region ?_ | refine WL.nil ?_ | refine WC.skip ?_ | refine WC.exit ?_ | refine WC.ret ?_ | refine WQ.then rfl ?_ | refine WQ.thenExit ?_ | refine WQ.thenRet ?_ | refine WQ.blk ?_ | refine WQ.blkRet ?_ | refine WQ.blkHere rfl ?_ | refine WQ.blkOther rfl ?_ | refine WL.pure rfl rfl rfl rfl ?_ | refine WL.on rfl rfl ?_ | refine WL.off rfl rfl rfl ?_ | refine WC.condTrue rfl ?_ | refine WC.condFalse rfl ?_)
      refine WL.idx i (no + i) rfl rfl rfl rfl rfl rfl rfl rfl (by omega) (by omega) ?_
      refine WL.load rfl rfl rfl rfl rfl rfl ((hA8.below.cell (p := ⟨nb, no + i, none⟩) hnb).trans hnc) ?_
      repeat (first | ((with_reducible refine WL.topT ?_ ?_); omega) | ((with_reducible refine WL.topF ?_ ?_); omega) | ((with_reducible refine WL.top64 ?_ ?_); omega) | refine WC.seq ?_ | refine WC.block ?_ | refine WC.region ?_ | refine WL.nil ?_ | refine WC.skip ?_ | refine WC.exit ?_ | refine WC.ret ?_ | refine WQ.then rfl ?_ | refine WQ.thenExit ?_ | refine WQ.thenRet ?_ | refine WQ.blk ?_ | refine WQ.blkRet ?_ | refine WQ.blkHere rfl ?_ | refine WQ.blkOther rfl ?_ | refine WL.pure rfl rfl rfl rfl ?_ | refine WL.on rfl rfl ?_ | refine WL.off rfl rfl rfl ?_ | refine WC.condTrue rfl ?_ | refine WC.condFalse rfl ?_)
      refine WL.callF (args := [.tmp 92]) rfl rfl rfl rfl rfl rfl Try.func59 rfl (by kernel_rfl) (by rw [eN]; exact lay1_any (by omega) hbx8 (by rw [List.length_append]; omega)) ?_
      rintro e w9 ⟨rfl, b9, hbx9, g9⟩
      refine ⟨_, rfl, ?_⟩
      have hg9 := hg8.trans g9
      obtain ⟨hblk9, ho9⟩ := Bx.keep g9 hblk7 hg2o hg2b
      have hA9 := hA hg9
      repeat (first | ((with_reducible refine WL.topT ?_ ?_); omega) | ((with_reducible refine WL.topF ?_ ?_); omega) | ((with_reducible refine WL.top64 ?_ ?_); omega) | refine WC.seq ?_ | refine WC.block ?_ | refine WC.region ?_ | refine WL.nil ?_ | refine WC.skip ?_ | refine WC.exit ?_ | refine WC.ret ?_ | refine WQ.then rfl ?_ | refine WQ.thenExit ?_ | refine WQ.thenRet ?_ | refine WQ.blk ?_ | refine WQ.blkRet ?_ | refine WQ.blkHere rfl ?_ | refine WQ.blkOther rfl ?_ | refine WL.pure rfl rfl rfl rfl ?_ | refine WL.on rfl rfl ?_ | refine WL.off rfl rfl rfl ?_ | refine WC.condTrue rfl ?_ | refine WC.condFalse rfl ?_)
      refine WC.drawn 7 (fun wx => Below w0.heap.size w0 wx ∧ VBlk 29 wx bb [b9] ∧ VBlk 45 wx g (six v (.slice (some ⟨nb, no, none⟩) v.names.length nc) (.slice (some ⟨kb, ko, none⟩) v.kids.length cap))) fun w10 hd10 => ?_
      have hS : Below w0.heap.size w0 w10 ∧ VBlk 29 w10 bb [b9] ∧ VBlk 45 w10 g (six v (.slice (some ⟨nb, no, none⟩) v.names.length nc) (.slice (some ⟨kb, ko, none⟩) v.kids.length cap)) :=
        ⟨hA9.below.trans (hd10.below _), hbx9.blk.below (hd10.below _) hbx9.blk.lt, (hR hg9).below (hd10.below _) (hR hg9).lt⟩
      have hbx10 : Bx bb w10 b9 _ := hbx9.below (hd10.below _)
      have hg10 := hg9.below (hd10.below _)
      have hblk10 : VBlk 45 w10 g2 c := hblk9.below (hd10.below _) hblk9.lt
      refine WD.load 0 [6, 7] rfl (by kernel_rfl) rfl rfl (fun _ _ _ _ _ h => h) rfl rfl rfl rfl (fun wx hx => hx.2.1.cell 0 (by simp)) hS ?_
      (((first | refine WD.free 1 rfl (by kernel_rfl) rfl rfl (fun _ _ _ _ _ h => h) rfl rfl (.inr hS) ?_ | refine WD.skip 1 rfl (by kernel_rfl) rfl rfl (fun _ _ _ _ _ h => h) rfl (.inr hS) ?_); try (first | ((with_reducible refine WD.topT ?_ ?_); omega) | ((with_reducible refine WD.topF ?_ ?_); omega) | ((with_reducible refine WD.top64 ?_ ?_); omega))))
      refine WD.load 2 [4, 5, 6, 7] rfl (by kernel_rfl) rfl rfl (fun _ _ _ _ _ h => h) rfl rfl rfl rfl (fun wx hx => hx.2.2.cell 4 (by simp)) hS ?_
      (((first | refine WD.free 3 rfl (by kernel_rfl) rfl rfl (fun _ _ _ _ _ h => h) rfl rfl (.inr hS) ?_ | refine WD.skip 3 rfl (by kernel_rfl) rfl rfl (fun _ _ _ _ _ h => h) rfl (.inr hS) ?_); try (first | ((with_reducible refine WD.topT ?_ ?_); omega) | ((with_reducible refine WD.topF ?_ ?_); omega) | ((with_reducible refine WD.top64 ?_ ?_); omega))))
      refine WD.idx 4 i (no + i) rfl (by kernel_rfl) rfl rfl (fun _ _ _ _ _ h => h) rfl rfl rfl rfl rfl rfl (by omega) (by omega) (.inr hS) ?_
      refine WD.load 5 [6, 7] rfl (by kernel_rfl) rfl rfl (fun _ _ _ _ _ h => h) rfl rfl rfl rfl (fun wx hx => (hx.1.cell (p := ⟨nb, no + i, none⟩) hnb).trans hnc) hS ?_
      refine WD.one 6 (by kernel_rfl) rfl ?_
      refine WL.appS rfl rfl rfl rfl rfl hbx10.bu rfl (by rw [List.length_append, List.length_append]; omega) fun b11 w11 hb11 hg11 => ?_
      obtain ⟨hblk11, hbx12, hg12⟩ := hbx10.put hb11 hg11
      have hg11' : GrowB bb w10 b9 w11 b11 := hg11.box
      refine WL.nil (WQ.dk (.inr ⟨(hA (hg10.trans hg11')).below, hblk11, hR (hg10.trans hg11')⟩) ?_)
      refine WD.one 7 (by kernel_rfl) rfl ?_
      refine WL.store rfl rfl rfl rfl rfl hb11.cell1 (by kernel_rfl) (hblk11.cell 0 (by simp)) (hblk11.free 0) ?_
      refine WL.nil (WQ.dk (.inl rfl) ?_)
      refine WD.done (by kernel_rfl) ?_
      obtain ⟨hblk12, ho12⟩ := Bx.keep hg12 hblk10 ho9 hg2b
      have hg12' := hg10.trans hg12
      generalize w11.setCell ⟨bb, 0, none⟩ b11 = w12 at hbx12 hg12 hblk12 hg12'
      repeat (first | ((with_reducible refine WL.topT ?_ ?_); omega) | ((with_reducible refine WL.topF ?_ ?_); omega) | ((with_reducible refine WL.top64 ?_ ?_); omega) | refine WC.seq ?_ | refine WC.block ?_ | refine WC.region ?_ | refine WL.nil ?_ | refine WC.skip ?_ | refine WC.exit ?_ | refine WC.ret ?_ | refine WQ.then rfl ?_ | refine WQ.thenExit ?_ | refine WQ.thenRet ?_ | refine WQ.blk ?_ | refine WQ.blkRet ?_ | refine WQ.blkHere rfl ?_ | refine WQ.blkOther rfl ?_ | refine WL.pure rfl rfl rfl rfl ?_ | refine WL.on rfl rfl ?_ | refine WL.off rfl rfl rfl ?_ | refine WC.condTrue rfl ?_ | refine WC.condFalse rfl ?_)
      refine WL.load rfl rfl rfl rfl rfl rfl (hbx12.blk.cell 0 (by simp)) ?_
      refine WL.loadMid rfl rfl rfl rfl rfl rfl (VBlk.rangeAt hblk12) hc6 ?_
      refine WL.call rfl rfl rfl rfl rfl Try.func46 rfl (by kernel_rfl) (ih (w0 := w0) hci (hkid i hik) hbx12.bu (hA hg12') (by rw [List.length_append, List.length_append, List.length_append, bytesI_len]; omega)) ?_
      rintro e w13 ⟨b13, rfl, hb13, hg13⟩
      refine ⟨_, rfl, ?_⟩
      obtain ⟨hblk13, hbx14, hg14⟩ := hbx12.put hb13 hg13
      refine WL.store rfl rfl rfl rfl rfl hb13.cell1 (by kernel_rfl) (hblk13.cell 0 (by simp)) (hblk13.free 0) ?_
      generalize w13.setCell ⟨bb, 0, none⟩ b13 = w14 at hbx14 hg14
      repeat (first | ((with_reducible refine WL.topT ?_ ?_); omega) | ((with_reducible refine WL.topF ?_ ?_); omega) | ((with_reducible refine WL.top64 ?_ ?_); omega) | refine WC.seq ?_ | refine WC.block ?_ | refine WC.region ?_ | refine WL.nil ?_ | refine WC.skip ?_ | refine WC.exit ?_ | refine WC.ret ?_ | refine WQ.then rfl ?_ | refine WQ.thenExit ?_ | refine WQ.thenRet ?_ | refine WQ.blk ?_ | refine WQ.blkRet ?_ | refine WQ.blkHere rfl ?_ | refine WQ.blkOther rfl ?_ | refine WL.pure rfl rfl rfl rfl ?_ | refine WL.on rfl rfl ?_ | refine WL.off rfl rfl rfl ?_ | refine WC.condTrue rfl ?_ | refine WC.condFalse rfl ?_)
      refine WQ.again (i + 1, b13) ⟨rfl, rfl, rfl, rfl, rfl, rfl, trivial⟩ ⟨hik, ?_, hg12'.trans hg14⟩ (by show v.kids.length - (i + 1) < v.kids.length - i; omega)
      show Bx bb w14 b13 (M ++ (List.range (i + 1)).flatMap _)
      rw [range_piece, hpc]
      simpa [List.append_assoc, bytesI, byI] using hbx14
    · obtain rfl : i = v.kids.length := by omega
      repeat (first | ((with_reducible refine WL.topT ?_ ?_); omega) | ((with_reducible refine WL.topF ?_ ?_); omega) | ((with_reducible refine WL.top64 ?_ ?_); omega) | refine WC.seq ?_ | refine WC.block ?_ | refine WC.region ?_ | refine WL.nil ?_ | refine WC.skip ?_ | refine WC.exit ?_ | refine WC.ret ?_ | refine WQ.then rfl ?_ | refine WQ.thenExit ?_ | refine WQ.thenRet ?_ | refine WQ.blk ?_ | refine WQ.blkRet ?_ | refine WQ.blkHere rfl ?_ | refine WQ.blkOther rfl ?_ | refine WL.pure rfl rfl rfl rfl ?_ | refine WL.on rfl rfl ?_ | refine WL.off rfl rfl rfl ?_ | refine WC.condTrue rfl ?_ | refine WC.condFalse rfl ?_)
      refine WL.load rfl rfl rfl rfl rfl rfl (hbr.blk.cell 0 (by simp)) ?_
      repeat (first | ((with_reducible refine WL.topT ?_ ?_); omega) | ((with_reducible refine WL.topF ?_ ?_); omega) | ((with_reducible refine WL.top64 ?_ ?_); omega) | refine WC.seq ?_ | refine WC.block ?_ | refine WC.region ?_ | refine WL.nil ?_ | refine WC.skip ?_ | refine WC.exit ?_ | refine WC.ret ?_ | refine WQ.then rfl ?_ | refine WQ.thenExit ?_ | refine WQ.thenRet ?_ | refine WQ.blk ?_ | refine WQ.blkRet ?_ | refine WQ.blkHere rfl ?_ | refine WQ.blkOther rfl ?_ | refine WL.pure rfl rfl rfl rfl ?_ | refine WL.on rfl rfl ?_ | refine WL.off rfl rfl rfl ?_ | refine WC.condTrue rfl ?_ | refine WC.condFalse rfl ?_)
      exact WQ.ret1 rfl rfl (fin (by rw [hL1]; exact hbr.bu) hgr hkx.symm)
/-- A value's bytes, laid behind an own row. -/
theorem clay_all : ∀ (m : Nat) {f : Nat} {w0 w : World} {v : V} {cs : List Value} {b : Value} {l : List Int}, IsV f w0 v cs → chk m v = 0 → Bu w b l → Apart w0 w b → l.length + (encV m v).length ≤ 70368744177664 →
      Calls Try.prog 46 #[b, .agg cs.toArray] w fun e w' => ∃ b', e = .returned b' ∧ Bu w' b' (l ++ encV m v) ∧ Grow w b w' b'
  | 0, _, _, _, _, _, _, _, _, h, _, _, _ => by cases h
  | m + 1, _, _, _, _, _, _, _, hv, hc, hb, ha, hm => clay_any m (clay_all m) hv hc hb ha hm
end K
end Go.Proofs.Ytlamdhekjlnccaa

/- How great values are (the laws' great). -/
namespace Go.Proofs.Ytlamdhekjlnccaa
namespace K

/-- One by one, as long as it is not too much. -/
def grtK (B : Nat) (g : V → Nat → Nat) : List V → Nat → Nat
  | [], n => n
  | k :: r, n => if n ≤ B then grtK B g r (g k n) else n
/-- How great a value is, so many levels deep. -/
def grt (B : Nat) : Nat → V → Nat → Nat
  | 0, _, n => n
  | f + 1, v, n => grtK B (grt B f) v.kids (n + 1 + v.t.size / 20 + v.names.length)
/-- A value is f deep at most, and its lists are as memory can hold them. -/
def Sml : Nat → V → Prop
  | 0, _ => False
  | f + 1, v => v.names.length ≤ 140737488355328 ∧ v.kids.length ≤ 140737488355328 ∧ ∀ x ∈ v.kids, Sml f x

theorem grtK_over {B : Nat} {g : V → Nat → Nat} {n : Nat} (l : List V) (h : B < n) : grtK B g l n = n := by
  cases l with
  | nil => rfl
  | cons k r => unfold grtK; rw [if_neg (by omega)]
end K
end Go.Proofs.Ytlamdhekjlnccaa

/- The document's Equal (chapter 5). -/
namespace Go.Proofs.Ytlamdhekjlnccaa
open Go.RowKit
namespace K

theorem take_snoc_eq {α : Type} {a b : List α} {i : Nat} (h : a.take i = b.take i) (ha : i < a.length) (hb : i < b.length) (he : a[i] = b[i]) : a.take (i + 1) = b.take (i + 1) := by
  rw [List.take_add_one, List.take_add_one, h, List.getElem?_eq_getElem ha, List.getElem?_eq_getElem hb, he]
theorem V.ext' {a b : V} (h1 : a.k = b.k) (h2 : a.n = b.n) (h3 : a.s = b.s) (h4 : a.t = b.t) (h5 : a.names = b.names) (h6 : a.kids = b.kids) : a = b := by
  cases a; cases b
  simp only [V.k, V.n, V.s, V.t, V.names, V.kids] at h1 h2 h3 h4 h5 h6
  subst h1; subst h2; subst h3; subst h4; subst h5; subst h6
  rfl
theorem bytes_ne {a b : ByteArray} (h : ¬ a = b) : ¬ a.toList = b.toList := fun e => h (by
  rw [ByteArray.toList_eq, ByteArray.toList_eq] at e
  exact ByteArray.ext (Array.toList_inj.1 e))

set_option maxHeartbeats 8000000 in
theorem equal_any : ∀ (f : Nat) {f2 : Nat} {w : World} {v1 v2 : V} {c1 c2 : List Value}, IsV f w v1 c1 → IsV f2 w v2 c2 →
    Calls Try.prog 53 #[.agg c1.toArray, .agg c2.toArray] w fun e w' => (∃ b, e = .returned (.bool b) ∧ (b = true ↔ v1 = v2)) ∧ Below w.heap.size w w'
  | 0, _, _, _, _, _, _, h, _ => h.elim
  | _ + 1, 0, _, _, _, _, _, _, h => h.elim
  | f + 1, f2 + 1, w, v1, v2, c1, c2, h1, h2 => by
    obtain ⟨sn1, sk1, rfl, -, -, -, -, hn1, hk1⟩ := h1
    obtain ⟨sn2, sk2, rfl, -, -, -, -, hn2, hk2⟩ := h2
    obtain ⟨np1, nc1, rfl, nl1, nm1, -, nr1⟩ := hn1
    obtain ⟨np2, nc2, rfl, nl2, nm2, -, nr2⟩ := hn2
    obtain ⟨kp1, kc1, rfl, kl1, km1, kr1⟩ := hk1
    obtain ⟨kp2, kc2, rfl, kl2, km2, kr2⟩ := hk2
    refine enter (args := [.agg (six v1 (.slice np1 v1.names.length nc1) (.slice kp1 v1.kids.length kc1)).toArray, .agg (six v2 (.slice np2 v2.names.length nc2) (.slice kp2 v2.kids.length kc2)).toArray]) Try.func53 rfl Try.ntmps53 rfl ?_
    repeat (first | ((with_reducible refine WL.topT ?_ ?_); omega) | ((with_reducible refine WL.topF ?_ ?_); omega) | ((with_reducible refine WL.top64 ?_ ?_); omega) | refine WC.seq ?_ | refine WC.block ?_ | refine WC.region ?_ | refine WL.nil ?_ | refine WC.skip ?_ | refine WC.exit ?_ | refine WC.ret ?_ | refine WQ.then rfl ?_ | refine WQ.thenExit ?_ | refine WQ.thenRet ?_ | refine WQ.blk ?_ | refine WQ.blkRet ?_ | refine WQ.blkHere rfl ?_ | refine WQ.blkOther rfl ?_ | refine WL.pure rfl rfl rfl rfl ?_ | refine WL.on rfl rfl ?_ | refine WL.off rfl rfl rfl ?_ | refine WC.condTrue rfl ?_ | refine WC.condFalse rfl ?_)
    refine WL.box rfl rfl rfl rfl rfl fun g1 w1 hf1 => ?_
    have hf1' : Fresh w g1 w1 45 (six v1 (.slice np1 v1.names.length nc1) (.slice kp1 v1.kids.length kc1)) := hf1
    clear hf1
    refine WL.box rfl rfl rfl rfl rfl fun g2 w2 hf2 => ?_
    have hf2' : Fresh w1 g2 w2 45 (six v2 (.slice np2 v2.names.length nc2) (.slice kp2 v2.kids.length kc2)) := hf2
    clear hf2
    have hb2 : Below w.heap.size w w2 := hf1'.below.trans (hf2'.below.mono hf1'.below.size)
    have B1 := hf1'.blk.below hf2'.below hf1'.blk.lt
    have B2 := hf2'.blk
    clear hf1' hf2'
    have no : ∀ {wx : World}, Below w.heap.size w wx → ¬ v1 = v2 → (∃ b, Ending.returned (Value.bool false) = .returned (.bool b) ∧ (b = true ↔ v1 = v2)) ∧ Below w.heap.size w wx := fun h1 h2 => ⟨⟨false, rfl, by simp [h2]⟩, h1⟩
    repeat (first | ((with_reducible refine WL.topT ?_ ?_); omega) | ((with_reducible refine WL.topF ?_ ?_); omega) | ((with_reducible refine WL.top64 ?_ ?_); omega) | refine WC.seq ?_ | refine WC.block ?_ | refine WC.region ?_ | refine WL.nil ?_ | refine WC.skip ?_ | refine WC.exit ?_ | refine WC.ret ?_ | refine WQ.then rfl ?_ | refine WQ.thenExit ?_ | refine WQ.thenRet ?_ | refine WQ.blk ?_ | refine WQ.blkRet ?_ | refine WQ.blkHere rfl ?_ | refine WQ.blkOther rfl ?_ | refine WL.pure rfl rfl rfl rfl ?_ | refine WL.on rfl rfl ?_ | refine WL.off rfl rfl rfl ?_ | refine WC.condTrue rfl ?_ | refine WC.condFalse rfl ?_)
    refine WL.load rfl rfl rfl rfl rfl rfl (B1.cell 0 (by simp)) ?_
    repeat (first | ((with_reducible refine WL.topT ?_ ?_); omega) | ((with_reducible refine WL.topF ?_ ?_); omega) | ((with_reducible refine WL.top64 ?_ ?_); omega) | refine WC.seq ?_ | refine WC.block ?_ | refine WC.region ?_ | refine WL.nil ?_ | refine WC.skip ?_ | refine WC.exit ?_ | refine WC.ret ?_ | refine WQ.then rfl ?_ | refine WQ.thenExit ?_ | refine WQ.thenRet ?_ | refine WQ.blk ?_ | refine WQ.blkRet ?_ | refine WQ.blkHere rfl ?_ | refine WQ.blkOther rfl ?_ | refine WL.pure rfl rfl rfl rfl ?_ | refine WL.on rfl rfl ?_ | refine WL.off rfl rfl rfl ?_ | refine WC.condTrue rfl ?_ | refine WC.condFalse rfl ?_)
    refine WL.load rfl rfl rfl rfl rfl rfl (B2.cell 0 (by simp)) ?_
    by_cases e1 : v1.k = v2.k
    rotate_left
    · repeat (first | ((with_reducible refine WL.topT ?_ ?_); omega) | ((with_reducible refine WL.topF ?_ ?_); omega) | ((with_reducible refine WL.top64 ?_ ?_); omega) | refine WC.seq ?_ | refine WC.block ?_ | refine WC.region ?_ | refine WL.nil ?_ | refine WC.skip ?_ | refine WC.exit ?_ | refine WC.ret ?_ | refine WQ.then rfl ?_ | refine WQ.thenExit ?_ | refine WQ.thenRet ?_ | refine WQ.blk ?_ | refine WQ.blkRet ?_ | refine WQ.blkHere rfl ?_ | refine WQ.blkOther rfl ?_ | refine WL.pure rfl rfl rfl rfl ?_ | refine WL.on rfl rfl ?_ | refine WL.off rfl rfl rfl ?_ | refine WC.condTrue rfl ?_ | refine WC.condFalse rfl ?_)
      exact WQ.ret1 rfl rfl (no hb2 fun e => e1 (by rw [e]))
    repeat (first | ((with_reducible refine WL.topT ?_ ?_); omega) | ((with_reducible refine WL.topF ?_ ?_); omega) | ((with_reducible refine WL.top64 ?_ ?_); omega) | refine WC.seq ?_ | refine WC.block ?_ | refine WC.region ?_ | refine WL.nil ?_ | refine WC.skip ?_ | refine WC.exit ?_ | refine WC.ret ?_ | refine WQ.then rfl ?_ | refine WQ.thenExit ?_ | refine WQ.thenRet ?_ | refine WQ.blk ?_ | refine WQ.blkRet ?_ | refine WQ.blkHere rfl ?_ | refine WQ.blkOther rfl ?_ | refine WL.pure rfl rfl rfl rfl ?_ | refine WL.on rfl rfl ?_ | refine WL.off rfl rfl rfl ?_ | refine WC.condTrue rfl ?_ | refine WC.condFalse rfl ?_)
    refine WL.load rfl rfl rfl rfl rfl rfl (B1.cell 1 (by simp)) ?_
    repeat (first | ((with_reducible refine WL.topT ?_ ?_); omega) | ((with_reducible refine WL.topF ?_ ?_); omega) | ((with_reducible refine WL.top64 ?_ ?_); omega) | refine WC.seq ?_ | refine WC.block ?_ | refine WC.region ?_ | refine WL.nil ?_ | refine WC.skip ?_ | refine WC.exit ?_ | refine WC.ret ?_ | refine WQ.then rfl ?_ | refine WQ.thenExit ?_ | refine WQ.thenRet ?_ | refine WQ.blk ?_ | refine WQ.blkRet ?_ | refine WQ.blkHere rfl ?_ | refine WQ.blkOther rfl ?_ | refine WL.pure rfl rfl rfl rfl ?_ | refine WL.on rfl rfl ?_ | refine WL.off rfl rfl rfl ?_ | refine WC.condTrue rfl ?_ | refine WC.condFalse rfl ?_)
    refine WL.load rfl rfl rfl rfl rfl rfl (B2.cell 1 (by simp)) ?_
    by_cases e2 : v1.n = v2.n
    rotate_left
    · repeat (first | ((with_reducible refine WL.topT ?_ ?_); omega) | ((with_reducible refine WL.topF ?_ ?_); omega) | ((with_reducible refine WL.top64 ?_ ?_); omega) | refine WC.seq ?_ | refine WC.block ?_ | refine WC.region ?_ | refine WL.nil ?_ | refine WC.skip ?_ | refine WC.exit ?_ | refine WC.ret ?_ | refine WQ.then rfl ?_ | refine WQ.thenExit ?_ | refine WQ.thenRet ?_ | refine WQ.blk ?_ | refine WQ.blkRet ?_ | refine WQ.blkHere rfl ?_ | refine WQ.blkOther rfl ?_ | refine WL.pure rfl rfl rfl rfl ?_ | refine WL.on rfl rfl ?_ | refine WL.off rfl rfl rfl ?_ | refine WC.condTrue rfl ?_ | refine WC.condFalse rfl ?_)
      exact WQ.ret1 rfl rfl (no hb2 fun e => e2 (by rw [e]))
    repeat (first | ((with_reducible refine WL.topT ?_ ?_); omega) | ((with_reducible refine WL.topF ?_ ?_); omega) | ((with_reducible refine WL.top64 ?_ ?_); omega) | refine WC.seq ?_ | refine WC.block ?_ | refine WC.region ?_ | refine WL.nil ?_ | refine WC.skip ?_ | refine WC.exit ?_ | refine WC.ret ?_ | refine WQ.then rfl ?_ | refine WQ.thenExit ?_ | refine WQ.thenRet ?_ | refine WQ.blk ?_ | refine WQ.blkRet ?_ | refine WQ.blkHere rfl ?_ | refine WQ.blkOther rfl ?_ | refine WL.pure rfl rfl rfl rfl ?_ | refine WL.on rfl rfl ?_ | refine WL.off rfl rfl rfl ?_ | refine WC.condTrue rfl ?_ | refine WC.condFalse rfl ?_)
    refine WL.load rfl rfl rfl rfl rfl rfl (B1.cell 2 (by simp)) ?_
    repeat (first | ((with_reducible refine WL.topT ?_ ?_); omega) | ((with_reducible refine WL.topF ?_ ?_); omega) | ((with_reducible refine WL.top64 ?_ ?_); omega) | refine WC.seq ?_ | refine WC.block ?_ | refine WC.region ?_ | refine WL.nil ?_ | refine WC.skip ?_ | refine WC.exit ?_ | refine WC.ret ?_ | refine WQ.then rfl ?_ | refine WQ.thenExit ?_ | refine WQ.thenRet ?_ | refine WQ.blk ?_ | refine WQ.blkRet ?_ | refine WQ.blkHere rfl ?_ | refine WQ.blkOther rfl ?_ | refine WL.pure rfl rfl rfl rfl ?_ | refine WL.on rfl rfl ?_ | refine WL.off rfl rfl rfl ?_ | refine WC.condTrue rfl ?_ | refine WC.condFalse rfl ?_)
    refine WL.load rfl rfl rfl rfl rfl rfl (B2.cell 2 (by simp)) ?_
    by_cases e3 : v1.s = v2.s
    rotate_left
    · repeat (first | ((with_reducible refine WL.topT ?_ ?_); omega) | ((with_reducible refine WL.topF ?_ ?_); omega) | ((with_reducible refine WL.top64 ?_ ?_); omega) | refine WC.seq ?_ | refine WC.block ?_ | refine WC.region ?_ | refine WL.nil ?_ | refine WC.skip ?_ | refine WC.exit ?_ | refine WC.ret ?_ | refine WQ.then rfl ?_ | refine WQ.thenExit ?_ | refine WQ.thenRet ?_ | refine WQ.blk ?_ | refine WQ.blkRet ?_ | refine WQ.blkHere rfl ?_ | refine WQ.blkOther rfl ?_ | refine WL.pure rfl rfl rfl rfl ?_ | refine WL.on rfl rfl ?_ | refine WL.off rfl rfl rfl ?_ | refine WC.condTrue rfl ?_ | refine WC.condFalse rfl ?_)
      exact WQ.ret1 rfl rfl (no hb2 fun e => e3 (by rw [e]))
    repeat (first | ((with_reducible refine WL.topT ?_ ?_); omega) | ((with_reducible refine WL.topF ?_ ?_); omega) | ((with_reducible refine WL.top64 ?_ ?_); omega) | refine WC.seq ?_ | refine WC.block ?_ | refine WC.region ?_ | refine WL.nil ?_ | refine WC.skip ?_ | refine WC.exit ?_ | refine WC.ret ?_ | refine WQ.then rfl ?_ | refine WQ.thenExit ?_ | refine WQ.thenRet ?_ | refine WQ.blk ?_ | refine WQ.blkRet ?_ | refine WQ.blkHere rfl ?_ | refine WQ.blkOther rfl ?_ | refine WL.pure rfl rfl rfl rfl ?_ | refine WL.on rfl rfl ?_ | refine WL.off rfl rfl rfl ?_ | refine WC.condTrue rfl ?_ | refine WC.condFalse rfl ?_)
    refine WL.load rfl rfl rfl rfl rfl rfl (B1.cell 3 (by simp)) ?_
    repeat (first | ((with_reducible refine WL.topT ?_ ?_); omega) | ((with_reducible refine WL.topF ?_ ?_); omega) | ((with_reducible refine WL.top64 ?_ ?_); omega) | refine WC.seq ?_ | refine WC.block ?_ | refine WC.region ?_ | refine WL.nil ?_ | refine WC.skip ?_ | refine WC.exit ?_ | refine WC.ret ?_ | refine WQ.then rfl ?_ | refine WQ.thenExit ?_ | refine WQ.thenRet ?_ | refine WQ.blk ?_ | refine WQ.blkRet ?_ | refine WQ.blkHere rfl ?_ | refine WQ.blkOther rfl ?_ | refine WL.pure rfl rfl rfl rfl ?_ | refine WL.on rfl rfl ?_ | refine WL.off rfl rfl rfl ?_ | refine WC.condTrue rfl ?_ | refine WC.condFalse rfl ?_)
    refine WL.load rfl rfl rfl rfl rfl rfl (B2.cell 3 (by simp)) ?_
    by_cases e4 : v1.t = v2.t
    rotate_left
    · refine WL.on rfl rfl ?_
      refine WL.pureAs (.bool true) rfl rfl rfl rfl (by simp [bytes_ne e4]) ?_
      repeat (first | ((with_reducible refine WL.topT ?_ ?_); omega) | ((with_reducible refine WL.topF ?_ ?_); omega) | ((with_reducible refine WL.top64 ?_ ?_); omega) | refine WC.seq ?_ | refine WC.block ?_ | refine WC.region ?_ | refine WL.nil ?_ | refine WC.skip ?_ | refine WC.exit ?_ | refine WC.ret ?_ | refine WQ.then rfl ?_ | refine WQ.thenExit ?_ | refine WQ.thenRet ?_ | refine WQ.blk ?_ | refine WQ.blkRet ?_ | refine WQ.blkHere rfl ?_ | refine WQ.blkOther rfl ?_ | refine WL.pure rfl rfl rfl rfl ?_ | refine WL.on rfl rfl ?_ | refine WL.off rfl rfl rfl ?_ | refine WC.condTrue rfl ?_ | refine WC.condFalse rfl ?_)
      exact WQ.ret1 rfl rfl (no hb2 fun e => e4 (by rw [e]))
    refine WL.on rfl rfl ?_
    refine WL.pureAs (.bool false) rfl rfl rfl rfl (by simp [e4]) ?_
    repeat (first | ((with_reducible refine WL.topT ?_ ?_); omega) | ((with_reducible refine WL.topF ?_ ?_); omega) | ((with_reducible refine WL.top64 ?_ ?_); omega) | refine WC.seq ?_ | refine WC.block ?_ | refine WC.region ?_ | refine WL.nil ?_ | refine WC.skip ?_ | refine WC.exit ?_ | refine WC.ret ?_ | refine WQ.then rfl ?_ | refine WQ.thenExit ?_ | refine WQ.thenRet ?_ | refine WQ.blk ?_ | refine WQ.blkRet ?_ | refine WQ.blkHere rfl ?_ | refine WQ.blkOther rfl ?_ | refine WL.pure rfl rfl rfl rfl ?_ | refine WL.on rfl rfl ?_ | refine WL.off rfl rfl rfl ?_ | refine WC.condTrue rfl ?_ | refine WC.condFalse rfl ?_)
    refine WL.load rfl rfl rfl rfl rfl rfl (B1.cell 4 (by simp)) ?_
    repeat (first | ((with_reducible refine WL.topT ?_ ?_); omega) | ((with_reducible refine WL.topF ?_ ?_); omega) | ((with_reducible refine WL.top64 ?_ ?_); omega) | refine WC.seq ?_ | refine WC.block ?_ | refine WC.region ?_ | refine WL.nil ?_ | refine WC.skip ?_ | refine WC.exit ?_ | refine WC.ret ?_ | refine WQ.then rfl ?_ | refine WQ.thenExit ?_ | refine WQ.thenRet ?_ | refine WQ.blk ?_ | refine WQ.blkRet ?_ | refine WQ.blkHere rfl ?_ | refine WQ.blkOther rfl ?_ | refine WL.pure rfl rfl rfl rfl ?_ | refine WL.on rfl rfl ?_ | refine WL.off rfl rfl rfl ?_ | refine WC.condTrue rfl ?_ | refine WC.condFalse rfl ?_)
    refine WL.load rfl rfl rfl rfl rfl rfl (B2.cell 4 (by simp)) ?_
    by_cases e5 : v1.names.length = v2.names.length
    rotate_left
    · repeat (first | ((with_reducible refine WL.topT ?_ ?_); omega) | ((with_reducible refine WL.topF ?_ ?_); omega) | ((with_reducible refine WL.top64 ?_ ?_); omega) | refine WC.seq ?_ | refine WC.block ?_ | refine WC.region ?_ | refine WL.nil ?_ | refine WC.skip ?_ | refine WC.exit ?_ | refine WC.ret ?_ | refine WQ.then rfl ?_ | refine WQ.thenExit ?_ | refine WQ.thenRet ?_ | refine WQ.blk ?_ | refine WQ.blkRet ?_ | refine WQ.blkHere rfl ?_ | refine WQ.blkOther rfl ?_ | refine WL.pure rfl rfl rfl rfl ?_ | refine WL.on rfl rfl ?_ | refine WL.off rfl rfl rfl ?_ | refine WC.condTrue rfl ?_ | refine WC.condFalse rfl ?_)
      exact WQ.ret1 rfl rfl (no hb2 fun e => e5 (by rw [e]))
    repeat (first | ((with_reducible refine WL.topT ?_ ?_); omega) | ((with_reducible refine WL.topF ?_ ?_); omega) | ((with_reducible refine WL.top64 ?_ ?_); omega) | refine WC.seq ?_ | refine WC.block ?_ | refine WC.region ?_ | refine WL.nil ?_ | refine WC.skip ?_ | refine WC.exit ?_ | refine WC.ret ?_ | refine WQ.then rfl ?_ | refine WQ.thenExit ?_ | refine WQ.thenRet ?_ | refine WQ.blk ?_ | refine WQ.blkRet ?_ | refine WQ.blkHere rfl ?_ | refine WQ.blkOther rfl ?_ | refine WL.pure rfl rfl rfl rfl ?_ | refine WL.on rfl rfl ?_ | refine WL.off rfl rfl rfl ?_ | refine WC.condTrue rfl ?_ | refine WC.condFalse rfl ?_)
    refine WL.load rfl rfl rfl rfl rfl rfl (B1.cell 5 (by simp)) ?_
    repeat (first | ((with_reducible refine WL.topT ?_ ?_); omega) | ((with_reducible refine WL.topF ?_ ?_); omega) | ((with_reducible refine WL.top64 ?_ ?_); omega) | refine WC.seq ?_ | refine WC.block ?_ | refine WC.region ?_ | refine WL.nil ?_ | refine WC.skip ?_ | refine WC.exit ?_ | refine WC.ret ?_ | refine WQ.then rfl ?_ | refine WQ.thenExit ?_ | refine WQ.thenRet ?_ | refine WQ.blk ?_ | refine WQ.blkRet ?_ | refine WQ.blkHere rfl ?_ | refine WQ.blkOther rfl ?_ | refine WL.pure rfl rfl rfl rfl ?_ | refine WL.on rfl rfl ?_ | refine WL.off rfl rfl rfl ?_ | refine WC.condTrue rfl ?_ | refine WC.condFalse rfl ?_)
    refine WL.load rfl rfl rfl rfl rfl rfl (B2.cell 5 (by simp)) ?_
    by_cases e6 : v1.kids.length = v2.kids.length
    rotate_left
    · repeat (first | ((with_reducible refine WL.topT ?_ ?_); omega) | ((with_reducible refine WL.topF ?_ ?_); omega) | ((with_reducible refine WL.top64 ?_ ?_); omega) | refine WC.seq ?_ | refine WC.block ?_ | refine WC.region ?_ | refine WL.nil ?_ | refine WC.skip ?_ | refine WC.exit ?_ | refine WC.ret ?_ | refine WQ.then rfl ?_ | refine WQ.thenExit ?_ | refine WQ.thenRet ?_ | refine WQ.blk ?_ | refine WQ.blkRet ?_ | refine WQ.blkHere rfl ?_ | refine WQ.blkOther rfl ?_ | refine WL.pure rfl rfl rfl rfl ?_ | refine WL.on rfl rfl ?_ | refine WL.off rfl rfl rfl ?_ | refine WC.condTrue rfl ?_ | refine WC.condFalse rfl ?_)
      exact WQ.ret1 rfl rfl (no hb2 fun e => e6 (by rw [e]))
    have hz2 := hb2.size
    repeat (first | ((with_reducible refine WL.topT ?_ ?_); omega) | ((with_reducible refine WL.topF ?_ ?_); omega) | ((with_reducible refine WL.top64 ?_ ?_); omega) | refine WC.seq ?_ | refine WC.region ?_ | refine WL.nil ?_ | refine WC.skip ?_ | refine WC.exit ?_ | refine WC.ret ?_ | refine WQ.then rfl ?_ | refine WQ.thenExit ?_ | refine WQ.thenRet ?_ | refine WQ.blk ?_ | refine WQ.blkRet ?_ | refine WQ.blkHere rfl ?_ | refine WQ.blkOther rfl ?_ | refine WL.pure rfl rfl rfl rfl ?_ | refine WL.on rfl rfl ?_ | refine WL.off rfl rfl rfl ?_ | refine WL.load rfl rfl rfl rfl rfl rfl (by assumption) ?_ | refine WC.condTrue rfl ?_ | refine WC.condFalse rfl ?_)
    refine WC.mid (fun _ : Unit => [(2, .pointer (some ⟨g1, 0, none⟩)), (3, .pointer (some ⟨g2, 0, none⟩))]) (fun _ wx => v1.names = v2.names ∧ Below w2.heap.size w2 wx) rfl ?_ ?_
    · repeat (first | ((with_reducible refine WL.topT ?_ ?_); omega) | ((with_reducible refine WL.topF ?_ ?_); omega) | ((with_reducible refine WL.top64 ?_ ?_); omega) | refine WC.seq ?_ | refine WC.block ?_ | refine WC.region ?_ | refine WL.nil ?_ | refine WC.skip ?_ | refine WC.exit ?_ | refine WC.ret ?_ | refine WQ.then rfl ?_ | refine WQ.thenExit ?_ | refine WQ.thenRet ?_ | refine WQ.blk ?_ | refine WQ.blkRet ?_ | refine WQ.blkHere rfl ?_ | refine WQ.blkOther rfl ?_ | refine WL.pure rfl rfl rfl rfl ?_ | refine WL.on rfl rfl ?_ | refine WL.off rfl rfl rfl ?_ | refine WC.condTrue rfl ?_ | refine WC.condFalse rfl ?_)
      refine WC.loop (fun i : Nat => [(2, .pointer (some ⟨g1, 0, none⟩)), (3, .pointer (some ⟨g2, 0, none⟩)), (5, .int .i64 i)]) (fun i wx => i ≤ v1.names.length ∧ v1.names.take i = v2.names.take i ∧ Below w2.heap.size w2 wx) (fun i => v1.names.length - i) 0 ⟨rfl, rfl, rfl, trivial⟩ ⟨Nat.zero_le _, by simp, Below.refl _ _⟩ ?_
      rintro i wr ⟨hi, ht, hbr⟩
      have R1 := B1.below hbr B1.lt
      have R2 := B2.below hbr B2.lt
      repeat (first | ((with_reducible refine WL.topT ?_ ?_); omega) | ((with_reducible refine WL.topF ?_ ?_); omega) | ((with_reducible refine WL.top64 ?_ ?_); omega) | refine WC.seq ?_ | refine WC.block ?_ | refine WC.region ?_ | refine WL.nil ?_ | refine WC.skip ?_ | refine WC.exit ?_ | refine WC.ret ?_ | refine WQ.then rfl ?_ | refine WQ.thenExit ?_ | refine WQ.thenRet ?_ | refine WQ.blk ?_ | refine WQ.blkRet ?_ | refine WQ.blkHere rfl ?_ | refine WQ.blkOther rfl ?_ | refine WL.pure rfl rfl rfl rfl ?_ | refine WL.on rfl rfl ?_ | refine WL.off rfl rfl rfl ?_ | refine WC.condTrue rfl ?_ | refine WC.condFalse rfl ?_)
      refine WL.load rfl rfl rfl rfl rfl rfl (R1.cell 4 (by simp)) ?_
      by_cases hik : i < v1.names.length
      · obtain ⟨b1, o1, rfl, hlt1, hc1⟩ := nr1 (by omega)
        obtain ⟨b2, o2, rfl, hlt2, hc2⟩ := nr2 (by omega)
        have hc1 := hc1 i hik
        have hc2 := hc2 i (by omega)
        have hbw : Below w.heap.size w wr := hb2.trans (hbr.mono hz2)
        repeat (first | ((with_reducible refine WL.topT ?_ ?_); omega) | ((with_reducible refine WL.topF ?_ ?_); omega) | ((with_reducible refine WL.top64 ?_ ?_); omega) | refine WC.seq ?_ | refine WC.block ?_ | refine WC.region ?_ | refine WL.nil ?_ | refine WC.skip ?_ | refine WC.exit ?_ | refine WC.ret ?_ | refine WQ.then rfl ?_ | refine WQ.thenExit ?_ | refine WQ.thenRet ?_ | refine WQ.blk ?_ | refine WQ.blkRet ?_ | refine WQ.blkHere rfl ?_ | refine WQ.blkOther rfl ?_ | refine WL.pure rfl rfl rfl rfl ?_ | refine WL.on rfl rfl ?_ | refine WL.off rfl rfl rfl ?_ | refine WC.condTrue rfl ?_ | refine WC.condFalse rfl ?_)
        refine WC.drawn 10 (fun wx => wx.heap = wr.heap) fun w3 hd => ?_
        have hS : w3.heap = wr.heap := hd.heap
        have hb3 : Below w2.heap.size w2 w3 := hbr.trans (hd.below _)
        (((first | refine WD.free 0 rfl (by kernel_rfl) rfl rfl (fun _ _ _ _ _ h => h) rfl rfl (.inr hS) ?_ | refine WD.skip 0 rfl (by kernel_rfl) rfl rfl (fun _ _ _ _ _ h => h) rfl (.inr hS) ?_); try (first | ((with_reducible refine WD.topT ?_ ?_); omega) | ((with_reducible refine WD.topF ?_ ?_); omega) | ((with_reducible refine WD.top64 ?_ ?_); omega))))
        refine WD.load 1 [3, 4, 10] rfl (by kernel_rfl) rfl rfl (fun _ _ _ _ _ h => h) rfl rfl rfl rfl (fun wx hx => (heap_cell hx _).trans (R1.cell 4 (by simp))) hS ?_
        (((first | refine WD.free 2 rfl (by kernel_rfl) rfl rfl (fun _ _ _ _ _ h => h) rfl rfl (.inr hS) ?_ | refine WD.skip 2 rfl (by kernel_rfl) rfl rfl (fun _ _ _ _ _ h => h) rfl (.inr hS) ?_); try (first | ((with_reducible refine WD.topT ?_ ?_); omega) | ((with_reducible refine WD.topF ?_ ?_); omega) | ((with_reducible refine WD.top64 ?_ ?_); omega))))
        refine WD.idx 3 i (o1 + i) rfl (by kernel_rfl) rfl rfl (fun _ _ _ _ _ h => h) rfl rfl rfl rfl rfl rfl hik (by omega) (.inr hS) ?_
        refine WD.load 4 [10] rfl (by kernel_rfl) rfl rfl (fun _ _ _ _ _ h => h) rfl rfl rfl rfl (fun wx hx => (heap_cell hx _).trans ((hbw.cell (p := ⟨b1, o1 + i, none⟩) hlt1).trans hc1)) hS ?_
        (((first | refine WD.free 5 rfl (by kernel_rfl) rfl rfl (fun _ _ _ _ _ h => h) rfl rfl (.inr hS) ?_ | refine WD.skip 5 rfl (by kernel_rfl) rfl rfl (fun _ _ _ _ _ h => h) rfl (.inr hS) ?_); try (first | ((with_reducible refine WD.topT ?_ ?_); omega) | ((with_reducible refine WD.topF ?_ ?_); omega) | ((with_reducible refine WD.top64 ?_ ?_); omega))))
        refine WD.load 6 [8, 9, 10] rfl (by kernel_rfl) rfl rfl (fun _ _ _ _ _ h => h) rfl rfl rfl rfl (fun wx hx => (heap_cell hx _).trans (R2.cell 4 (by simp))) hS ?_
        (((first | refine WD.free 7 rfl (by kernel_rfl) rfl rfl (fun _ _ _ _ _ h => h) rfl rfl (.inr hS) ?_ | refine WD.skip 7 rfl (by kernel_rfl) rfl rfl (fun _ _ _ _ _ h => h) rfl (.inr hS) ?_); try (first | ((with_reducible refine WD.topT ?_ ?_); omega) | ((with_reducible refine WD.topF ?_ ?_); omega) | ((with_reducible refine WD.top64 ?_ ?_); omega))))
        refine WD.idx 8 i (o2 + i) rfl (by kernel_rfl) rfl rfl (fun _ _ _ _ _ h => h) rfl rfl rfl rfl rfl rfl (by omega) (by omega) (.inr hS) ?_
        refine WD.load 9 [10] rfl (by kernel_rfl) rfl rfl (fun _ _ _ _ _ h => h) rfl rfl rfl rfl (fun wx hx => (heap_cell hx _).trans ((hbw.cell (p := ⟨b2, o2 + i, none⟩) hlt2).trans hc2)) hS ?_
        refine WD.one 10 (by kernel_rfl) rfl ?_
        refine WL.pure rfl rfl rfl rfl ?_
        refine WL.nil (WQ.dk (.inl rfl) ?_)
        refine WD.done (by kernel_rfl) ?_
        repeat (first | ((with_reducible refine WL.topT ?_ ?_); omega) | ((with_reducible refine WL.topF ?_ ?_); omega) | ((with_reducible refine WL.top64 ?_ ?_); omega) | refine WC.seq ?_ | refine WC.block ?_ | refine WC.region ?_ | refine WL.nil ?_ | refine WC.skip ?_ | refine WC.exit ?_ | refine WC.ret ?_ | refine WQ.then rfl ?_ | refine WQ.thenExit ?_ | refine WQ.thenRet ?_ | refine WQ.blk ?_ | refine WQ.blkRet ?_ | refine WQ.blkHere rfl ?_ | refine WQ.blkOther rfl ?_ | refine WL.pure rfl rfl rfl rfl ?_ | refine WL.on rfl rfl ?_ | refine WL.off rfl rfl rfl ?_ | refine WC.condTrue rfl ?_ | refine WC.condFalse rfl ?_)
        have hg1 : v1.names.getD i noT = v1.names[i] := by simp [hik]
        have hg2 : v2.names.getD i noT = v2.names[i] := by simp [show i < v2.names.length by omega]
        refine WC.condB rfl (fun hne => ?_) fun heq => ?_
        · repeat (first | ((with_reducible refine WL.topT ?_ ?_); omega) | ((with_reducible refine WL.topF ?_ ?_); omega) | ((with_reducible refine WL.top64 ?_ ?_); omega) | refine WC.seq ?_ | refine WC.block ?_ | refine WC.region ?_ | refine WL.nil ?_ | refine WC.skip ?_ | refine WC.exit ?_ | refine WC.ret ?_ | refine WQ.then rfl ?_ | refine WQ.thenExit ?_ | refine WQ.thenRet ?_ | refine WQ.blk ?_ | refine WQ.blkRet ?_ | refine WQ.blkHere rfl ?_ | refine WQ.blkOther rfl ?_ | refine WL.pure rfl rfl rfl rfl ?_ | refine WL.on rfl rfl ?_ | refine WL.off rfl rfl rfl ?_ | refine WC.condTrue rfl ?_ | refine WC.condFalse rfl ?_)
          refine WQ.ret1 rfl rfl (no (hb2.trans (hb3.mono hz2)) fun e => ?_)
          have h := congrArg (fun v => v.names.getD i noT) e
          rw [h] at hne
          simp at hne
        · repeat (first | ((with_reducible refine WL.topT ?_ ?_); omega) | ((with_reducible refine WL.topF ?_ ?_); omega) | ((with_reducible refine WL.top64 ?_ ?_); omega) | refine WC.seq ?_ | refine WC.block ?_ | refine WC.region ?_ | refine WL.nil ?_ | refine WC.skip ?_ | refine WC.exit ?_ | refine WC.ret ?_ | refine WQ.then rfl ?_ | refine WQ.thenExit ?_ | refine WQ.thenRet ?_ | refine WQ.blk ?_ | refine WQ.blkRet ?_ | refine WQ.blkHere rfl ?_ | refine WQ.blkOther rfl ?_ | refine WL.pure rfl rfl rfl rfl ?_ | refine WL.on rfl rfl ?_ | refine WL.off rfl rfl rfl ?_ | refine WC.condTrue rfl ?_ | refine WC.condFalse rfl ?_)
          refine WQ.again (i + 1) ⟨rfl, rfl, rfl, trivial⟩ ⟨hik, take_snoc_eq ht hik (by omega) ?_, hb3⟩ (by show v1.names.length - (i + 1) < v1.names.length - i; omega)
          rw [← hg1, ← hg2]
          refine Classical.byContradiction fun hne => ?_
          exact bytes_ne hne (by simpa using heq)
      · obtain rfl : i = v1.names.length := by omega
        repeat (first | ((with_reducible refine WL.topT ?_ ?_); omega) | ((with_reducible refine WL.topF ?_ ?_); omega) | ((with_reducible refine WL.top64 ?_ ?_); omega) | refine WC.seq ?_ | refine WC.block ?_ | refine WC.region ?_ | refine WL.nil ?_ | refine WC.skip ?_ | refine WC.exit ?_ | refine WC.ret ?_ | refine WQ.then rfl ?_ | refine WQ.thenExit ?_ | refine WQ.thenRet ?_ | refine WQ.blk ?_ | refine WQ.blkRet ?_ | refine WQ.blkHere rfl ?_ | refine WQ.blkOther rfl ?_ | refine WL.pure rfl rfl rfl rfl ?_ | refine WL.on rfl rfl ?_ | refine WL.off rfl rfl rfl ?_ | refine WC.condTrue rfl ?_ | refine WC.condFalse rfl ?_)
        exact WQ.meet () ⟨rfl, rfl, trivial⟩ ⟨by rw [List.take_length, e5, List.take_length] at ht; exact ht, hbr⟩
    rintro _ w5 ⟨e7, hb5⟩
    repeat (first | ((with_reducible refine WL.topT ?_ ?_); omega) | ((with_reducible refine WL.topF ?_ ?_); omega) | ((with_reducible refine WL.top64 ?_ ?_); omega) | refine WC.seq ?_ | refine WC.block ?_ | refine WC.region ?_ | refine WL.nil ?_ | refine WC.skip ?_ | refine WC.exit ?_ | refine WC.ret ?_ | refine WQ.then rfl ?_ | refine WQ.thenExit ?_ | refine WQ.thenRet ?_ | refine WQ.blk ?_ | refine WQ.blkRet ?_ | refine WQ.blkHere rfl ?_ | refine WQ.blkOther rfl ?_ | refine WL.pure rfl rfl rfl rfl ?_ | refine WL.on rfl rfl ?_ | refine WL.off rfl rfl rfl ?_ | refine WC.condTrue rfl ?_ | refine WC.condFalse rfl ?_)
    refine WC.loop (fun i : Nat => [(2, .pointer (some ⟨g1, 0, none⟩)), (3, .pointer (some ⟨g2, 0, none⟩)), (6, .int .i64 i)]) (fun i wx => i ≤ v1.kids.length ∧ v1.kids.take i = v2.kids.take i ∧ Below w2.heap.size w2 wx) (fun i => v1.kids.length - i) 0 ⟨rfl, rfl, rfl, trivial⟩ ⟨Nat.zero_le _, by simp, hb5⟩ ?_
    rintro i wr ⟨hi, ht, hbr⟩
    have R1 := B1.below hbr B1.lt
    have R2 := B2.below hbr B2.lt
    repeat (first | ((with_reducible refine WL.topT ?_ ?_); omega) | ((with_reducible refine WL.topF ?_ ?_); omega) | ((with_reducible refine WL.top64 ?_ ?_); omega) | refine WC.seq ?_ | refine WC.block ?_ | refine WC.region ?_ | refine WL.nil ?_ | refine WC.skip ?_ | refine WC.exit ?_ | refine WC.ret ?_ | refine WQ.then rfl ?_ | refine WQ.thenExit ?_ | refine WQ.thenRet ?_ | refine WQ.blk ?_ | refine WQ.blkRet ?_ | refine WQ.blkHere rfl ?_ | refine WQ.blkOther rfl ?_ | refine WL.pure rfl rfl rfl rfl ?_ | refine WL.on rfl rfl ?_ | refine WL.off rfl rfl rfl ?_ | refine WC.condTrue rfl ?_ | refine WC.condFalse rfl ?_)
    refine WL.load rfl rfl rfl rfl rfl rfl (R1.cell 5 (by simp)) ?_
    by_cases hik : i < v1.kids.length
    · obtain ⟨b1, o1, rfl, hlt1, hc1⟩ := kr1 (by omega)
      obtain ⟨b2, o2, rfl, hlt2, hc2⟩ := kr2 (by omega)
      obtain ⟨cs1, hl1, hv1, ha1⟩ := hc1 i hik
      obtain ⟨cs2, hl2, hv2, ha2⟩ := hc2 i (by omega)
      have hbw : Below w.heap.size w wr := hb2.trans (hbr.mono hz2)
      have ha1' : ∀ {wx : World}, wx.heap = wr.heap → wx.rangeAt b1 (o1 + i * 6) cs1 := fun hx j u hu => (heap_cell hx _).trans ((hbw.cell (p := ⟨b1, o1 + i * 6 + j, none⟩) hlt1).trans (ha1 j u hu))
      have ha2' : ∀ {wx : World}, wx.heap = wr.heap → wx.rangeAt b2 (o2 + i * 6) cs2 := fun hx j u hu => (heap_cell hx _).trans ((hbw.cell (p := ⟨b2, o2 + i * 6 + j, none⟩) hlt2).trans (ha2 j u hu))
      repeat (first | ((with_reducible refine WL.topT ?_ ?_); omega) | ((with_reducible refine WL.topF ?_ ?_); omega) | ((with_reducible refine WL.top64 ?_ ?_); omega) | refine WC.seq ?_ | refine WC.block ?_ | refine WC.region ?_ | refine WL.nil ?_ | refine WC.skip ?_ | refine WC.exit ?_ | refine WC.ret ?_ | refine WQ.then rfl ?_ | refine WQ.thenExit ?_ | refine WQ.thenRet ?_ | refine WQ.blk ?_ | refine WQ.blkRet ?_ | refine WQ.blkHere rfl ?_ | refine WQ.blkOther rfl ?_ | refine WL.pure rfl rfl rfl rfl ?_ | refine WL.on rfl rfl ?_ | refine WL.off rfl rfl rfl ?_ | refine WC.condTrue rfl ?_ | refine WC.condFalse rfl ?_)
      refine WC.drawn 10 (fun wx => wx.heap = wr.heap) fun w3 hd => ?_
      have hS : w3.heap = wr.heap := hd.heap
      have hb3 : Below w2.heap.size w2 w3 := hbr.trans (hd.below _)
      (((first | refine WD.free 0 rfl (by kernel_rfl) rfl rfl (fun _ _ _ _ _ h => h) rfl rfl (.inr hS) ?_ | refine WD.skip 0 rfl (by kernel_rfl) rfl rfl (fun _ _ _ _ _ h => h) rfl (.inr hS) ?_); try (first | ((with_reducible refine WD.topT ?_ ?_); omega) | ((with_reducible refine WD.topF ?_ ?_); omega) | ((with_reducible refine WD.top64 ?_ ?_); omega))))
      refine WD.load 1 [3, 4, 10, 11] rfl (by kernel_rfl) rfl rfl (fun _ _ _ _ _ h => h) rfl rfl rfl rfl (fun wx hx => (heap_cell hx _).trans (R1.cell 5 (by simp))) hS ?_
      (((first | refine WD.free 2 rfl (by kernel_rfl) rfl rfl (fun _ _ _ _ _ h => h) rfl rfl (.inr hS) ?_ | refine WD.skip 2 rfl (by kernel_rfl) rfl rfl (fun _ _ _ _ _ h => h) rfl (.inr hS) ?_); try (first | ((with_reducible refine WD.topT ?_ ?_); omega) | ((with_reducible refine WD.topF ?_ ?_); omega) | ((with_reducible refine WD.top64 ?_ ?_); omega))))
      refine WD.idx 3 i (o1 + i * 6) rfl (by kernel_rfl) rfl rfl (fun _ _ _ _ _ h => h) rfl rfl rfl rfl rfl rfl hik rfl (.inr hS) ?_
      refine WD.loadMid 4 [10, 11] rfl (by kernel_rfl) rfl rfl (fun _ _ _ _ _ h => h) rfl rfl rfl rfl (fun wx hx => ha1' hx) hl1 hS ?_
      (((first | refine WD.free 5 rfl (by kernel_rfl) rfl rfl (fun _ _ _ _ _ h => h) rfl rfl (.inr hS) ?_ | refine WD.skip 5 rfl (by kernel_rfl) rfl rfl (fun _ _ _ _ _ h => h) rfl (.inr hS) ?_); try (first | ((with_reducible refine WD.topT ?_ ?_); omega) | ((with_reducible refine WD.topF ?_ ?_); omega) | ((with_reducible refine WD.top64 ?_ ?_); omega))))
      refine WD.load 6 [8, 9, 10, 11] rfl (by kernel_rfl) rfl rfl (fun _ _ _ _ _ h => h) rfl rfl rfl rfl (fun wx hx => (heap_cell hx _).trans (R2.cell 5 (by simp))) hS ?_
      (((first | refine WD.free 7 rfl (by kernel_rfl) rfl rfl (fun _ _ _ _ _ h => h) rfl rfl (.inr hS) ?_ | refine WD.skip 7 rfl (by kernel_rfl) rfl rfl (fun _ _ _ _ _ h => h) rfl (.inr hS) ?_); try (first | ((with_reducible refine WD.topT ?_ ?_); omega) | ((with_reducible refine WD.topF ?_ ?_); omega) | ((with_reducible refine WD.top64 ?_ ?_); omega))))
      refine WD.idx 8 i (o2 + i * 6) rfl (by kernel_rfl) rfl rfl (fun _ _ _ _ _ h => h) rfl rfl rfl rfl rfl rfl (by omega) rfl (.inr hS) ?_
      refine WD.loadMid 9 [10, 11] rfl (by kernel_rfl) rfl rfl (fun _ _ _ _ _ h => h) rfl rfl rfl rfl (fun wx hx => ha2' hx) hl2 hS ?_
      refine WD.one 10 (by kernel_rfl) rfl ?_
      have hbw3 : Below w.heap.size w w3 := hb2.trans (hb3.mono hz2)
      refine WL.call rfl rfl rfl rfl rfl Try.func53 rfl (by kernel_rfl) (equal_any f (hv1.below hbw3) (hv2.below hbw3)) ?_
      rintro _ w4 ⟨⟨b, rfl, hb⟩, hb4⟩
      refine ⟨_, rfl, ?_⟩
      have hb4' : Below w2.heap.size w2 w4 := hb3.trans (hb4.mono hb3.size)
      refine WL.nil (WQ.dk (.inl rfl) ?_)
      refine WD.one 11 (by kernel_rfl) rfl ?_
      refine WL.pure rfl rfl rfl rfl ?_
      refine WL.nil (WQ.dk (.inl rfl) ?_)
      refine WD.done (by kernel_rfl) ?_
      repeat (first | ((with_reducible refine WL.topT ?_ ?_); omega) | ((with_reducible refine WL.topF ?_ ?_); omega) | ((with_reducible refine WL.top64 ?_ ?_); omega) | refine WC.seq ?_ | refine WC.block ?_ | refine WC.region ?_ | refine WL.nil ?_ | refine WC.skip ?_ | refine WC.exit ?_ | refine WC.ret ?_ | refine WQ.then rfl ?_ | refine WQ.thenExit ?_ | refine WQ.thenRet ?_ | refine WQ.blk ?_ | refine WQ.blkRet ?_ | refine WQ.blkHere rfl ?_ | refine WQ.blkOther rfl ?_ | refine WL.pure rfl rfl rfl rfl ?_ | refine WL.on rfl rfl ?_ | refine WL.off rfl rfl rfl ?_ | refine WC.condTrue rfl ?_ | refine WC.condFalse rfl ?_)
      have hg1 : v1.kids.getD i noV = v1.kids[i] := by simp [hik]
      have hg2 : v2.kids.getD i noV = v2.kids[i] := by simp [show i < v2.kids.length by omega]
      refine WC.condB rfl (fun hne => ?_) fun heq => ?_
      · repeat (first | ((with_reducible refine WL.topT ?_ ?_); omega) | ((with_reducible refine WL.topF ?_ ?_); omega) | ((with_reducible refine WL.top64 ?_ ?_); omega) | refine WC.seq ?_ | refine WC.block ?_ | refine WC.region ?_ | refine WL.nil ?_ | refine WC.skip ?_ | refine WC.exit ?_ | refine WC.ret ?_ | refine WQ.then rfl ?_ | refine WQ.thenExit ?_ | refine WQ.thenRet ?_ | refine WQ.blk ?_ | refine WQ.blkRet ?_ | refine WQ.blkHere rfl ?_ | refine WQ.blkOther rfl ?_ | refine WL.pure rfl rfl rfl rfl ?_ | refine WL.on rfl rfl ?_ | refine WL.off rfl rfl rfl ?_ | refine WC.condTrue rfl ?_ | refine WC.condFalse rfl ?_)
        refine WQ.ret1 rfl rfl (no (hb2.trans (hb4'.mono hz2)) fun e => ?_)
        have := hb.2 (by rw [e])
        simp [this] at hne
      · repeat (first | ((with_reducible refine WL.topT ?_ ?_); omega) | ((with_reducible refine WL.topF ?_ ?_); omega) | ((with_reducible refine WL.top64 ?_ ?_); omega) | refine WC.seq ?_ | refine WC.block ?_ | refine WC.region ?_ | refine WL.nil ?_ | refine WC.skip ?_ | refine WC.exit ?_ | refine WC.ret ?_ | refine WQ.then rfl ?_ | refine WQ.thenExit ?_ | refine WQ.thenRet ?_ | refine WQ.blk ?_ | refine WQ.blkRet ?_ | refine WQ.blkHere rfl ?_ | refine WQ.blkOther rfl ?_ | refine WL.pure rfl rfl rfl rfl ?_ | refine WL.on rfl rfl ?_ | refine WL.off rfl rfl rfl ?_ | refine WC.condTrue rfl ?_ | refine WC.condFalse rfl ?_)
        refine WQ.again (i + 1) ⟨rfl, rfl, rfl, trivial⟩ ⟨hik, take_snoc_eq ht hik (by omega) ?_, hb4'⟩ (by show v1.kids.length - (i + 1) < v1.kids.length - i; omega)
        rw [← hg1, ← hg2]
        exact hb.1 (by simpa using heq)
    · obtain rfl : i = v1.kids.length := by omega
      repeat (first | ((with_reducible refine WL.topT ?_ ?_); omega) | ((with_reducible refine WL.topF ?_ ?_); omega) | ((with_reducible refine WL.top64 ?_ ?_); omega) | refine WC.seq ?_ | refine WC.block ?_ | refine WC.region ?_ | refine WL.nil ?_ | refine WC.skip ?_ | refine WC.exit ?_ | refine WC.ret ?_ | refine WQ.then rfl ?_ | refine WQ.thenExit ?_ | refine WQ.thenRet ?_ | refine WQ.blk ?_ | refine WQ.blkRet ?_ | refine WQ.blkHere rfl ?_ | refine WQ.blkOther rfl ?_ | refine WL.pure rfl rfl rfl rfl ?_ | refine WL.on rfl rfl ?_ | refine WL.off rfl rfl rfl ?_ | refine WC.condTrue rfl ?_ | refine WC.condFalse rfl ?_)
      refine WQ.ret1 rfl rfl ⟨⟨true, rfl, ⟨fun _ => ?_, fun _ => rfl⟩⟩, hb2.trans (hbr.mono hz2)⟩
      rw [List.take_length, e6, List.take_length] at ht
      exact V.ext' e1 e2 e3 e4 e7 ht
end K
end Go.Proofs.Ytlamdhekjlnccaa

/- Encode (chapter 7); how long its bytes are; what was laid is read. -/
namespace Go.Proofs.Ytlamdhekjlnccaa
open Go.RowKit
namespace K

/-- What Encode tells. -/
def encR (v : V) : List Int × Int := if chk 16 v ≠ 0 then ([], chk 16 v) else if 65536 < (encV 16 v).length then ([], 5) else (encV 16 v, 0)
def EncPost (w : World) (v : V) (e : Ending) (w' : World) : Prop := ∃ b, e = .returned (.tuple #[b, .int .i64 (encR v).2]) ∧ Bu w' b (encR v).1 ∧ Below w.heap.size w w' ∧ ∀ g, b.ownBlock = some g → w.heap.size ≤ g
theorem encode_any {f : Nat} {w : World} {v : V} {cs : List Value} (h : IsV f w v cs) (hlen : chk 16 v = 0 → (encV 16 v).length ≤ 70368744177664) :
    Calls Try.prog 31 #[.agg cs.toArray] w (EncPost w v) := by
  have hcs := h.len
  refine enter (args := [.agg cs.toArray]) Try.func31 rfl Try.ntmps31 rfl ?_
  repeat (first | ((with_reducible refine WL.topT ?_ ?_); omega) | ((with_reducible refine WL.topF ?_ ?_); omega) | ((with_reducible refine WL.top64 ?_ ?_); omega) | refine WC.seq ?_ | refine WC.block ?_ | refine WC.region ?_ | refine WL.nil ?_ | refine WC.skip ?_ | refine WC.exit ?_ | refine WC.ret ?_ | refine WQ.then rfl ?_ | refine WQ.thenExit ?_ | refine WQ.thenRet ?_ | refine WQ.blk ?_ | refine WQ.blkRet ?_ | refine WQ.blkHere rfl ?_ | refine WQ.blkOther rfl ?_ | refine WL.pure rfl rfl rfl rfl ?_ | refine WL.on rfl rfl ?_ | refine WL.off rfl rfl rfl ?_ | refine WC.condTrue rfl ?_ | refine WC.condFalse rfl ?_)
  refine WL.box rfl rfl rfl rfl rfl fun g w1 hf => ?_
  have hf' : Fresh w g w1 45 cs := hf
  clear hf
  have hz1 := hf'.size
  have h1 := h.below hf'.below
  repeat (first | ((with_reducible refine WL.topT ?_ ?_); omega) | ((with_reducible refine WL.topF ?_ ?_); omega) | ((with_reducible refine WL.top64 ?_ ?_); omega) | refine WC.seq ?_ | refine WC.block ?_ | refine WC.region ?_ | refine WL.nil ?_ | refine WC.skip ?_ | refine WC.exit ?_ | refine WC.ret ?_ | refine WQ.then rfl ?_ | refine WQ.thenExit ?_ | refine WQ.thenRet ?_ | refine WQ.blk ?_ | refine WQ.blkRet ?_ | refine WQ.blkHere rfl ?_ | refine WQ.blkOther rfl ?_ | refine WL.pure rfl rfl rfl rfl ?_ | refine WL.on rfl rfl ?_ | refine WL.off rfl rfl rfl ?_ | refine WC.condTrue rfl ?_ | refine WC.condFalse rfl ?_)
  refine WL.loadMid rfl rfl rfl rfl rfl rfl (VBlk.rangeAt hf'.blk) hcs ?_
  refine WL.call rfl rfl rfl rfl rfl Try.func45 rfl (by kernel_rfl) (Vl.Check_any h1) ?_
  rintro _ w2 ⟨rfl, hb2⟩
  refine ⟨_, rfl, ?_⟩
  have hw2 : Below w.heap.size w w2 := hf'.below.trans (hb2.mono (by omega))
  by_cases hc : chk 16 v = 0
  · repeat (first | ((with_reducible refine WL.topT ?_ ?_); omega) | ((with_reducible refine WL.topF ?_ ?_); omega) | ((with_reducible refine WL.top64 ?_ ?_); omega) | refine WC.seq ?_ | refine WC.block ?_ | refine WC.region ?_ | refine WL.nil ?_ | refine WC.skip ?_ | refine WC.exit ?_ | refine WC.ret ?_ | refine WQ.then rfl ?_ | refine WQ.thenExit ?_ | refine WQ.thenRet ?_ | refine WQ.blk ?_ | refine WQ.blkRet ?_ | refine WQ.blkHere rfl ?_ | refine WQ.blkOther rfl ?_ | refine WL.pure rfl rfl rfl rfl ?_ | refine WL.on rfl rfl ?_ | refine WL.off rfl rfl rfl ?_ | refine WC.condTrue rfl ?_ | refine WC.condFalse rfl ?_)
    refine WL.loadMid rfl rfl rfl rfl rfl rfl (VBlk.rangeAt (hf'.blk.below hb2 hf'.blk.lt)) hcs ?_
    refine WL.call rfl rfl rfl rfl rfl Try.func46 rfl (by kernel_rfl) (clay_all 16 (h1.below hb2) hc (Bu.nil w2) ⟨Below.refl _ _, fun g hg => by cases hg⟩ (by have := hlen hc; simp only [List.length_nil]; omega)) ?_
    rintro _ w3 ⟨b, rfl, hb, hg⟩
    refine ⟨_, rfl, ?_⟩
    rw [List.nil_append] at hb
    obtain ⟨sp, cap, rfl, hl1, hl2⟩ := hb.form
    have hw3 : Below w.heap.size w w3 := hw2.trans (hg.old (B := w.heap.size) (hw2.size) fun g h => by cases h)
    by_cases hbig : 65536 < (encV 16 v).length
    · have hr : encR v = ([], 5) := by unfold encR; rw [if_neg (by simpa using hc), if_pos hbig]
      repeat (first | ((with_reducible refine WL.topT ?_ ?_); omega) | ((with_reducible refine WL.topF ?_ ?_); omega) | ((with_reducible refine WL.top64 ?_ ?_); omega) | refine WC.seq ?_ | refine WC.block ?_ | refine WC.region ?_ | refine WL.nil ?_ | refine WC.skip ?_ | refine WC.exit ?_ | refine WC.ret ?_ | refine WQ.then rfl ?_ | refine WQ.thenExit ?_ | refine WQ.thenRet ?_ | refine WQ.blk ?_ | refine WQ.blkRet ?_ | refine WQ.blkHere rfl ?_ | refine WQ.blkOther rfl ?_ | refine WL.pure rfl rfl rfl rfl ?_ | refine WL.on rfl rfl ?_ | refine WL.off rfl rfl rfl ?_ | refine WC.condTrue rfl ?_ | refine WC.condFalse rfl ?_)
      exact WQ.ret2 rfl rfl rfl ⟨_, by rw [hr], by rw [hr]; exact Bu.nil _, hw3, fun g hg => by cases hg⟩
    · have hr : encR v = (encV 16 v, 0) := by unfold encR; rw [if_neg (by simpa using hc), if_neg hbig]
      repeat (first | ((with_reducible refine WL.topT ?_ ?_); omega) | ((with_reducible refine WL.topF ?_ ?_); omega) | ((with_reducible refine WL.top64 ?_ ?_); omega) | refine WC.seq ?_ | refine WC.block ?_ | refine WC.region ?_ | refine WL.nil ?_ | refine WC.skip ?_ | refine WC.exit ?_ | refine WC.ret ?_ | refine WQ.then rfl ?_ | refine WQ.thenExit ?_ | refine WQ.thenRet ?_ | refine WQ.blk ?_ | refine WQ.blkRet ?_ | refine WQ.blkHere rfl ?_ | refine WQ.blkOther rfl ?_ | refine WL.pure rfl rfl rfl rfl ?_ | refine WL.on rfl rfl ?_ | refine WL.off rfl rfl rfl ?_ | refine WC.condTrue rfl ?_ | refine WC.condFalse rfl ?_)
      exact WQ.ret2 rfl rfl rfl ⟨_, by rw [hr], by rw [hr]; exact hb, hw3, fun g h => (hg.2 g h).elim (fun h2 => by cases h2) fun h2 => by have := hw2.size; omega⟩
  · have hr : encR v = ([], chk 16 v) := by unfold encR; rw [if_pos hc]
    repeat (first | ((with_reducible refine WL.topT ?_ ?_); omega) | ((with_reducible refine WL.topF ?_ ?_); omega) | ((with_reducible refine WL.top64 ?_ ?_); omega) | refine WC.seq ?_ | refine WC.block ?_ | refine WC.region ?_ | refine WL.nil ?_ | refine WC.skip ?_ | refine WC.exit ?_ | refine WC.ret ?_ | refine WQ.then rfl ?_ | refine WQ.thenExit ?_ | refine WQ.thenRet ?_ | refine WQ.blk ?_ | refine WQ.blkRet ?_ | refine WQ.blkHere rfl ?_ | refine WQ.blkOther rfl ?_ | refine WL.pure rfl rfl rfl rfl ?_ | refine WL.on rfl rfl ?_ | refine WL.off rfl rfl rfl ?_ | refine WC.condTrue rfl ?_ | refine WC.condFalse rfl ?_)
    exact WQ.ret2 rfl rfl rfl ⟨_, by rw [hr], by rw [hr]; exact Bu.nil _, hw2, fun g hg => by cases hg⟩

theorem uvB_len (u : Nat) : (uvB u).length ≤ 10 := uvF_len 10 u
theorem enc_pieces (ky : V → List Int) (st : Bool) (names : List ByteArray) (kids : List V) (hn : st = true → names.length = kids.length ∧ ∀ s ∈ names, s.size ≤ 40) :
    ((List.range kids.length).flatMap (pieceE ky st names kids)).length ≤ 50 * names.length + (kids.flatMap ky).length := by
  have key : ∀ i, i ≤ kids.length → ((List.range i).flatMap (pieceE ky st names kids)).length ≤ (if st then 50 * i else 0) + ((kids.take i).flatMap ky).length := by
    intro i
    induction i with
    | zero => intro _; simp
    | succ i ih =>
      intro hi
      have h1 := ih (by omega)
      have ht : kids.take (i + 1) = kids.take i ++ [kids.getD i noV] := by
        rw [List.take_add_one]
        simp [show i < kids.length by omega]
      rw [range_piece, List.length_append, ht, List.flatMap_append, List.length_append]
      have h2 : (pieceE ky st names kids i).length ≤ (if st then 50 else 0) + ([kids.getD i noV].flatMap ky).length := by
        unfold pieceE
        rw [List.length_append]
        cases st with
        | false => simp
        | true =>
          have hs : (names.getD i noT).size ≤ 40 := (hn rfl).2 _ (by have := (hn rfl).1; simp [show i < names.length by omega])
          have hu := uvB_len (names.getD i noT).size
          have hb := byI_len (names.getD i noT)
          generalize names.getD i noT = nm at hs hu hb ⊢
          generalize kids.getD i noV = kd
          simp
          omega
      generalize ((List.range i).flatMap (pieceE ky st names kids)).length = a1 at h1 ⊢
      generalize (pieceE ky st names kids i).length = a2 at h2 ⊢
      generalize ((kids.take i).flatMap ky).length = a3 at h1 ⊢
      generalize ([kids.getD i noV].flatMap ky).length = a4 at h2 ⊢
      cases st with
      | false => rw [if_neg (by simp)] at h1 h2 ⊢; omega
      | true => rw [if_pos rfl] at h1 h2 ⊢; omega
  have := key kids.length (Nat.le_refl _)
  rw [List.take_length] at this
  cases st with
  | false => rw [if_neg (by simp)] at this; omega
  | true => have h := (hn rfl).1; rw [if_pos rfl] at this; omega
theorem grtK_enc {B f m : Nat} (ih : ∀ (v : V) (n : Nat), Sml f v → chk m v = 0 → grt B f v n ≤ B → n ≤ grt B f v n ∧ (encV m v).length + 80 * n ≤ 80 * grt B f v n) :
    ∀ (l : List V) (n : Nat), (∀ x ∈ l, Sml f x ∧ chk m x = 0) → grtK B (grt B f) l n ≤ B → n ≤ grtK B (grt B f) l n ∧ (l.flatMap (encV m)).length + 80 * n ≤ 80 * grtK B (grt B f) l n
  | [], n, _, _ => by simp [grtK]
  | k :: r, n, h, hB => by
    unfold grtK at hB ⊢
    by_cases hn : n ≤ B
    · rw [if_pos hn] at hB ⊢
      have hk := h k List.mem_cons_self
      have hle : grt B f k n ≤ B := by
        rcases Nat.lt_or_ge B (grt B f k n) with h1 | h1
        · rw [grtK_over r h1] at hB; omega
        · exact h1
      have h1 := ih k n hk.1 hk.2 hle
      have h2 := grtK_enc ih r (grt B f k n) (fun x hx => h x (List.mem_cons_of_mem _ hx)) hB
      rw [List.flatMap_cons, List.length_append]
      omega
    · rw [if_neg hn] at hB; omega
theorem grt_enc {B : Nat} : ∀ (f m : Nat) (v : V) (n : Nat), Sml f v → chk m v = 0 → grt B f v n ≤ B → n ≤ grt B f v n ∧ (encV m v).length + 80 * n ≤ 80 * grt B f v n
  | 0, _, _, _, h, _, _ => h.elim
  | _ + 1, 0, _, _, _, h, _ => by cases h
  | f + 1, m + 1, v, n, hs, hc, hB => by
    obtain ⟨-, -, hsk⟩ := hs
    have hk : ∀ x ∈ v.kids, Sml f x ∧ chk m x = 0 := fun x hx => ⟨hsk _ hx, chk_mem hc hx⟩
    unfold grt at hB ⊢
    have h1 := grtK_enc (grt_enc f m) v.kids _ hk hB
    obtain ⟨-, -, -, -, -, -, -, f9⟩ := shp_form (chk_shp hc)
    refine ⟨by omega, ?_⟩
    have hbody : (encV (m + 1) v).length ≤ 40 + 20 * (v.t.size / 20) + 50 * v.names.length + (v.kids.flatMap (encV m)).length := by
      rw [encV_two, List.length_cons]
      have hu1 := uvB_len (zig v.n)
      have hu2 := uvB_len v.n.toNat
      have hu3 := uvB_len v.t.size
      have hu4 := uvB_len v.kids.length
      have hb := byI_len v.t
      have hp := enc_pieces (encV m) (decide (v.k = 9)) v.names v.kids fun h => f9 (of_decide_eq_true h)
      split
      · simp; omega
      split
      · omega
      split
      · simp; omega
      split
      · omega
      split
      · rw [List.length_append]; omega
      split
      · rw [List.length_append]; omega
      · simp; omega
    omega
theorem IsV.rng {w : World} : ∀ {f : Nat} {v : V} {cs : List Value}, IsV f w v cs → Rng f v
  | 0, _, _, h => h
  | f + 1, v, _, h => by
    obtain ⟨sn, sk, -, -, wn, -, -, -, hk⟩ := h
    refine ⟨by simp [Lit.wf, IntKind.min, IntKind.max, IntKind.bits, IntKind.signed] at wn; omega, fun x hx => ?_⟩
    obtain ⟨j, hj, rfl⟩ := List.getElem_of_mem hx
    obtain ⟨sp, cap, -, -, -, hr⟩ := hk
    obtain ⟨b, o, -, -, hc⟩ := hr (by omega)
    obtain ⟨cs, -, hp, -⟩ := hc j hj
    have := IsV.rng hp
    simpa [hj] using this
/-- What was laid is read, whatever stands behind. -/
theorem rd_enc {f : Nat} {w : World} {v : V} {cs : List Value} (h : IsV f w v cs) (hc : chk 16 v = 0) (r : List Int) : rdV 16 (encV 16 v ++ r) = .ok v r := rdV_enc 16 r hc (IsV.rng h)
theorem encR_ok {v : V} (h : (encR v).2 = 0) : chk 16 v = 0 ∧ (encV 16 v).length ≤ 65536 ∧ (encR v).1 = encV 16 v := by
  unfold encR at h ⊢
  by_cases hc : chk 16 v = 0
  · rw [if_neg (by simpa using hc)] at h ⊢
    by_cases hb : 65536 < (encV 16 v).length
    · rw [if_pos hb] at h; cases h
    · rw [if_neg hb]; exact ⟨hc, by omega, rfl⟩
  · rw [if_pos hc] at h; exact absurd h hc
theorem enc_len {f : Nat} {v : V} {n : Nat} (hs : Sml f v) (h : ¬ 3000 < grt 3000 f v n) (hc : chk 16 v = 0) : (encV 16 v).length ≤ 70368744177664 := by
  have := (grt_enc (B := 3000) f 16 v n hs hc (by omega)).2
  omega
theorem bits_mask (x : Int) (m : Nat) (hm : m < 4611686018427387904) : ∃ r : Nat, r ≤ m ∧ bits .and .i64 x (m : Int) = (r : Int) := by
  refine ⟨(BitVec.ofInt 64 x).toNat &&& m, Nat.and_le_right, ?_⟩
  have h2 : (BitVec.ofInt 64 (m : Int)).toNat = m := by
    rw [BitVec.ofInt_natCast, BitVec.toNat_ofNat]; exact Nat.mod_eq_of_lt (by omega)
  have h3 : (BitVec.ofInt 64 x).toNat &&& m ≤ m := Nat.and_le_right
  show IntKind.i64.wrap ((BitVec.ofInt 64 x &&& BitVec.ofInt 64 (m : Int)).toNat : Int) = _
  rw [BitVec.toNat_and, h2]
  exact IntWalk.i64_in _ (by omega)
theorem Byt.nil : Byt [] := fun c h => by cases h
theorem Byt.one {c : Int} (h : 0 ≤ c ∧ c ≤ 255) : Byt [c] := fun x hx => by simp at hx; rw [hx]; exact h
theorem Byt.cons {c : Int} {l : List Int} (h : 0 ≤ c ∧ c ≤ 255) (hl : Byt l) : Byt (c :: l) := fun x hx => (List.mem_cons.1 hx).elim (fun e => by rw [e]; exact h) (hl x)
theorem uvF_byt : ∀ (f u : Nat), Byt (uvF f u)
  | 0, _ => Byt.nil
  | f + 1, u => by
    unfold uvF
    split
    · exact Byt.one (by omega)
    · exact Byt.cons (by omega) (uvF_byt f (u / 128))
theorem uvB_byt (u : Nat) : Byt (uvB u) := uvF_byt 10 u
theorem byI_byt (s : ByteArray) : Byt (byI s) := fun c hc => by
  unfold byI at hc
  obtain ⟨x, -, rfl⟩ := List.mem_map.1 hc
  have := x.toNat_lt
  omega
theorem encV_byt : ∀ (m : Nat) {v : V}, chk m v = 0 → Byt (encV m v)
  | 0, _, h => by cases h
  | m + 1, v, h => by
    obtain ⟨hk, f2, f3, f4, f5, fk, ft, f9⟩ := shp_form (chk_shp h)
    rw [encV_two]
    refine Byt.cons (by omega) ?_
    split
    · exact Byt.one (by have := f2 (by assumption); omega)
    split
    · exact uvB_byt _
    split
    · exact (uvB_byt _).app (Byt.one (by have := f4 (by assumption); omega))
    split
    · exact uvB_byt _
    split
    · exact (uvB_byt _).app (byI_byt _)
    split
    · refine (uvB_byt _).app fun c hc => ?_
      obtain ⟨j, hj, hc⟩ := List.mem_flatMap.1 hc
      have hj := List.mem_range.1 hj
      unfold pieceE at hc
      rcases List.mem_append.1 hc with hc | hc
      · split at hc
        · exact (uvB_byt _).app (byI_byt _) c hc
        · cases hc
      · exact encV_byt m (chk_kid h hj) c hc
    · exact Byt.nil
/-- A part of what was laid is refused. -/
theorem cut_short {f : Nat} {w : World} {v : V} {cs : List Value} (h : IsV f w v cs) (hc : chk 16 v = 0) {k : Nat} (hk : k < (encV 16 v).length) : readV true ((encV 16 v).take k) = .bad 2 := by
  have h1 := ext_rdV 16 ((encV 16 v).take k) ((encV 16 v).drop k)
  have h2 := rd_enc h hc []
  rw [List.append_nil] at h2
  rw [List.take_append_drop, h2] at h1
  unfold readV
  cases hq : rdV 16 ((encV 16 v).take k) with
  | ok a r =>
    rw [hq] at h1
    injection h1 with _ h1
    have := congrArg List.length h1
    simp at this
    omega
  | bad e =>
    rw [hq] at h1
    rcases h1 with rfl | h1
    · rfl
    · cases h1
theorem cut_more {f : Nat} {w : World} {v : V} {cs : List Value} (h : IsV f w v cs) (hc : chk 16 v = 0) : readV true (encV 16 v ++ [0]) = .bad 3 := by
  unfold readV
  rw [rd_enc h hc [0]]
  simp only
  rw [if_neg (by simpa using hc), if_pos (by simp)]
theorem encV_pos {v : V} : 0 < (encV 16 v).length := by rw [encV_two]; simp

theorem grtK_le {B : Nat} {g : V → Nat → Nat} (hg : ∀ v n, n ≤ g v n) : ∀ (l : List V) (n : Nat), n ≤ grtK B g l n
  | [], n => Nat.le_refl n
  | k :: r, n => by
    unfold grtK
    split
    · exact Nat.le_trans (hg k n) (grtK_le hg r _)
    · exact Nat.le_refl n
theorem grt_le {B : Nat} : ∀ (f : Nat) (v : V) (n : Nat), n ≤ grt B f v n
  | 0, _, n => Nat.le_refl n
  | f + 1, v, n => by
    unfold grt
    exact Nat.le_trans (by omega) (grtK_le (grt_le f) v.kids _)
theorem back_dec {f : Nat} {w : World} {v : V} {cs : List Value} (h : IsV f w v cs) (hc : chk 16 v = 0) (hl : (encV 16 v).length ≤ 65536) : readV true (encV 16 v) = .ok v [] := by
  have := rd_enc h hc []
  rw [List.append_nil] at this
  unfold readV
  rw [this]
  simp only
  rw [if_neg (by simpa using hc), if_neg (by simp), if_neg (by simp; omega)]
theorem back_read {f : Nat} {w : World} {v : V} {cs : List Value} (h : IsV f w v cs) (hc : chk 16 v = 0) (hl : (encV 16 v).length ≤ 65536) (r : List Int) : readV false (encV 16 v ++ r) = .ok v r := by
  unfold readV
  rw [rd_enc h hc r]
  simp only
  rw [if_neg (by simpa using hc), if_neg (by simp), if_neg (by simp; omega)]
theorem read_can {l : List Int} {z : V} {r : List Int} (hb : Byt l) (h : readV true l = .ok z r) : chk 16 z = 0 ∧ encV 16 z = l ∧ l.length ≤ 65536 := by
  unfold readV at h
  cases hq : rdV 16 l with
  | bad e => rw [hq] at h; cases h
  | ok v r' =>
    rw [hq] at h
    simp only at h
    by_cases hc : chk 16 v = 0
    · rw [if_neg (by simpa using hc)] at h
      by_cases h1 : 0 < r'.length
      · rw [if_pos ⟨trivial, h1⟩] at h; cases h
      rw [if_neg (by simp; simpa using h1)] at h
      obtain rfl : r' = [] := by cases r' with
        | nil => rfl
        | cons a b => simp at h1
      by_cases h2 : 65536 < l.length - ([] : List Int).length
      · rw [if_pos h2] at h; cases h
      rw [if_neg h2] at h
      cases h
      have := rdV_can 16 hq hc hb
      rw [List.append_nil] at this
      exact ⟨hc, this.symm, by simpa using h2⟩
    · rw [if_pos hc] at h; cases h
end K
end Go.Proofs.Ytlamdhekjlnccaa

/- The words of the digest: a word turned, a word out of four bytes; in the program and in the reference. -/
namespace Go.Proofs.Ytlamdhekjlnccaa
open Go.RowKit
namespace Dig

/-- x turned n digits to the right, as the model reckons it. -/
def rotr (x n : Int) : Int := bits .or .u32 (x / 2 ^ n.toNat) (x * 2 ^ (32 - n).toNat % 4294967296)
/-- The word of four bytes. -/
def word (a b c d : Int) : Int :=
  bits .or .u32 (bits .or .u32 (bits .or .u32 (a % 4294967296 * 16777216 % 4294967296) (b % 4294967296 * 65536 % 4294967296)) (c % 4294967296 * 256 % 4294967296)) (d % 4294967296)

set_option maxHeartbeats 400000 in
theorem turn_any (x n : Int) (w : World) (hn : 0 ≤ n) (hn2 : n ≤ 32) :
    Calls Try.prog 84 #[.int .u32 x, .int .u64 n] w fun e w' => e = .returned (.int .u32 (rotr x n)) ∧ w = w' := by
  go_enter Try.func84, Try.ntmps84
  go_wp2
  go_ret
  exact ⟨rfl, rfl⟩

set_option maxHeartbeats 400000 in
theorem word_any (b o len cap : Nat) (x0 x1 x2 x3 : Int) (w : World) (hl : 4 ≤ len)
   (h0 : w.cell? ⟨b, o, none⟩ = some (.int .u8 x0)) (h1 : w.cell? ⟨b, o + 1, none⟩ = some (.int .u8 x1))
   (h2 : w.cell? ⟨b, o + 2, none⟩ = some (.int .u8 x2)) (h3 : w.cell? ⟨b, o + 3, none⟩ = some (.int .u8 x3)) :
    Calls Try.prog 83 #[.slice (some ⟨b, o, none⟩) len cap] w fun e w' => e = .returned (.int .u32 (word x0 x1 x2 x3)) ∧ Drawn w w' := by
  have a0 : (0 : Int) < len := by omega
  have a1 : (1 : Int) < len := by omega
  have a2 : (2 : Int) < len := by omega
  have a3 : (3 : Int) < len := by omega
  go_enter Try.func83, Try.ntmps83
  go_wp2
  go_quiet (fail)
  go_wp2
  go_ret
  exact ⟨rfl, Drawn.mk _ _⟩

end Dig
end Go.Proofs.Ytlamdhekjlnccaa

/- digest: the program's function that takes a block in. -/
namespace Go.Proofs.Ytlamdhekjlnccaa
open Go.RowKit
namespace Dig

/-- The word at byte j. -/
def wordAt (by_ : List Int) (j : Nat) : Int := word (nth by_ j) (nth by_ (j + 1)) (nth by_ (j + 2)) (nth by_ (j + 3))
/-- The first n words of a block laid into sixty-four cells. -/
def load (by_ : List Int) : Nat → List Int
  | 0 => List.replicate 64 0
  | n + 1 => (load by_ n).set n (wordAt by_ (4 * n))
theorem load_length (by_ : List Int) (n : Nat) : (load by_ n).length = 64 := by
  induction n with
  | zero => rfl
  | succ n ih => rw [load, List.length_set, ih]

def sig0 (x : Int) : Int := bits .xor .u32 (bits .xor .u32 (rotr x 7) (rotr x 18)) (x / 8)
def sig1 (x : Int) : Int := bits .xor .u32 (bits .xor .u32 (rotr x 17) (rotr x 19)) (x / 1024)
/-- The further words: n of them behind the sixteen. -/
def sched (l : List Int) : Nat → List Int
  | 0 => l
  | n + 1 => (sched l n).set (16 + n) ((nth (sched l n) n + sig0 (nth (sched l n) (n + 1)) + nth (sched l n) (n + 9) + sig1 (nth (sched l n) (n + 14))) % 4294967296)
theorem sched_length (l : List Int) (n : Nat) : (sched l n).length = l.length := by
  induction n with
  | zero => rfl
  | succ n ih => rw [sched, List.length_set, ih]

theorem eight (l : List Int) (h : l.length = 8) : l = [nth l 0, nth l 1, nth l 2, nth l 3, nth l 4, nth l 5, nth l 6, nth l 7] := by
  match l, h with
  | [a, b, c, d, e, f, g, i], _ => rfl
theorem mk8 (w : World) (l : List Int) (h : l.length = 8) :
    IBlk .u32 112 (w.alloc (.cells #[.int .u32 (nth l 0), .int .u32 (nth l 1), .int .u32 (nth l 2), .int .u32 (nth l 3), .int .u32 (nth l 4), .int .u32 (nth l 5), .int .u32 (nth l 6), .int .u32 (nth l 7)] 112)) w.heap.size l := by
  have := VBlk.mk w (l.map (Value.int .u32)) 112
  match l, h with
  | [a, b, c, d, e, f, g, i], _ => exact this
/-- The round's two sums, and the eight words behind it. -/
def rt (kk W v : List Int) (i : Nat) : Int :=
  nth v 7 + bits .xor .u32 (bits .xor .u32 (rotr (nth v 4) 6) (rotr (nth v 4) 11)) (rotr (nth v 4) 25) +
    bits .xor .u32 (bits .and .u32 (nth v 4) (nth v 5)) (bits .and .u32 (bits .xor .u32 IntKind.u32.max (nth v 4)) (nth v 6)) + nth kk i + nth W i
def ru (v : List Int) : Int :=
  bits .xor .u32 (bits .xor .u32 (rotr (nth v 0) 2) (rotr (nth v 0) 13)) (rotr (nth v 0) 22) +
    bits .xor .u32 (bits .xor .u32 (bits .and .u32 (nth v 0) (nth v 1)) (bits .and .u32 (nth v 0) (nth v 2))) (bits .and .u32 (nth v 1) (nth v 2))
def rnd (kk W v : List Int) (i : Nat) : List Int :=
  [(rt kk W v i + ru v) % 4294967296, nth v 0, nth v 1, nth v 2, (nth v 3 + rt kk W v i) % 4294967296, nth v 4, nth v 5, nth v 6]
def rounds (kk W v : List Int) : Nat → List Int
  | 0 => v
  | n + 1 => rnd kk W (rounds kk W v n) n
theorem rounds_length (kk W v : List Int) (n : Nat) (h : v.length = 8) : (rounds kk W v n).length = 8 := by
  cases n with
  | zero => exact h
  | succ n => rfl
theorem set8 {k : IntKind} {T : TypeId} {w : World} {b : Nat} {l : List Int} (h : IBlk k T w b l) (hl : l.length = 8) (x0 x1 x2 x3 x4 x5 x6 x7 : Int) :
    IBlk k T ((((((((w.setCell ⟨b, 0, none⟩ (.int k x0)).setCell ⟨b, 1, none⟩ (.int k x1)).setCell ⟨b, 2, none⟩ (.int k x2)).setCell ⟨b, 3, none⟩ (.int k x3)).setCell ⟨b, 4, none⟩ (.int k x4)).setCell ⟨b, 5, none⟩ (.int k x5)).setCell ⟨b, 6, none⟩ (.int k x6)).setCell ⟨b, 7, none⟩ (.int k x7)) b [x0, x1, x2, x3, x4, x5, x6, x7] := by
  have := (((((((h.set 0 x0).set 1 x1).set 2 x2).set 3 x3).set 4 x4).set 5 x5).set 6 x6).set 7 x7
  match l, hl with
  | [a, b, c, d, e, f, g, i], _ => exact this
theorem oth8 {K : Nat → Prop} {w w' : World} {b : Nat} (h : Keep K w w') (hK : ¬ K b) (x0 x1 x2 x3 x4 x5 x6 x7 : Value) :
    Keep K w ((((((((w'.setCell ⟨b, 0, none⟩ x0).setCell ⟨b, 1, none⟩ x1).setCell ⟨b, 2, none⟩ x2).setCell ⟨b, 3, none⟩ x3).setCell ⟨b, 4, none⟩ x4).setCell ⟨b, 5, none⟩ x5).setCell ⟨b, 6, none⟩ x6).setCell ⟨b, 7, none⟩ x7) :=
  (((((((h.setCell hK x0).setCell hK x1).setCell hK x2).setCell hK x3).setCell hK x4).setCell hK x5).setCell hK x6).setCell hK x7
/-- The words of the state, each with one added. -/
def addInto (st v : List Int) : Nat → List Int
  | 0 => st
  | n + 1 => (addInto st v n).set n ((nth (addInto st v n) n + nth v n) % 4294967296)
theorem addInto_length (st v : List Int) (n : Nat) : (addInto st v n).length = st.length := by
  induction n with
  | zero => rfl
  | succ n ih => rw [addInto, List.length_set, ih]
/-- What taking a block in makes of the eight words. -/
def compress (kk by_ st : List Int) : List Int := addInto st (rounds kk (sched (load by_ 16) 48) st 64) 8

set_option maxRecDepth 100000 in
set_option maxHeartbeats 1000000 in
theorem take_any (bs bb ob n cap bk : Nat) (st by_ kk : List Int) (T T' : TypeId) (w : World) (hn : 64 ≤ n) (hn2 : n ≤ 9223372036854775807) (hcap : n ≤ cap)
    (hbb : bb < w.heap.size) 
    (hst : IBlk .u32 T w bs st) (hby : Row .u8 w bb ob by_) (hkk : IBlk .u32 T' w bk kk) (hl1 : st.length = 8) (hl2 : 64 ≤ by_.length) (hl3 : kk.length = 64) :
    Calls Try.prog 79 #[.pointer (some ⟨bs, 0, none⟩), .slice (some ⟨bb, ob, none⟩) n cap, .pointer (some ⟨bk, 0, none⟩)] w
      fun e w' => e = .returned (.tuple #[]) ∧ IBlk .u32 T w' bs (compress kk by_ st) ∧ Keep (fun k => k < w.heap.size ∧ k ≠ bs) w w' := by
  have hbs := hst.lt
  have hbk := hkk.lt
  go_enter Try.func79, Try.ntmps79
  go_wp2
  have hW : IBlk .u32 113 (w.alloc (.cells ((List.replicate 64 (0:Int)).map (Value.int .u32)).toArray 113)) w.heap.size (load by_ 0) := VBlk.mk w _ _
  have hB : Below w.heap.size w (w.alloc (.cells ((List.replicate 64 (0:Int)).map (Value.int .u32)).toArray 113)) := (Below.refl _ _).alloc (Nat.le_refl _) _
  simp only [List.replicate, List.map] at hW hB
  generalize w.alloc _ = w1 at hW hB ⊢
  go_loopw [20] (fun c wr => ∃ i : Nat, i ≤ 16 ∧ c = .int .i64 i ∧ IBlk .u32 113 wr w.heap.size (load by_ i) ∧ Below w.heap.size w wr)
    (fun c _ => 16 - (intOf c).toNat)
  case atStart => exact ⟨0, by omega, rfl, hW, hB⟩
  case round =>
    obtain ⟨i, hi, rfl, hWr, hBr⟩ := hrel
    have hlw := load_length by_ i
    by_cases h16 : i < 16
    · have hbyr := hby.below hBr hbb
      have c0 := hWr.cell i (by omega)
      have f0 := hWr.free i
      go_wp2_with (go_at_call 83; refine (word_any bb (ob + 4 * i) _ _ _ _ _ _ _ (by omega) (hbyr.at (4 * i) (by omega)) (hbyr.at' (4 * i + 1) _ (by omega) (by omega)) (hbyr.at' (4 * i + 2) _ (by omega) (by omega)) (hbyr.at' (4 * i + 3) _ (by omega) (by omega))).mono ?_; rintro e w' ⟨rfl, nq, rfl⟩)
      go_roundw
      case rel => exact ⟨i + 1, by omega, by go_num, (hWr.drewN nq).set _ _, (hBr.trans (Keep.below ((Keep.refl _ _).drewN nq))).setCell (Nat.le_refl _) _⟩
      case measure => simp [intOf]; omega
    · have e16 : i = 16 := by omega
      have hWf : IBlk .u32 113 wr w.heap.size (load by_ 16) := by rw [← e16]; exact hWr
      clear e16 hWr
      go_wp2
      go_loopw [8] (fun c wr => ∃ i : Nat, i ≤ 48 ∧ c = .int .i64 (16 + (i : Int)) ∧ IBlk .u32 113 wr w.heap.size (sched (load by_ 16) i) ∧ Below w.heap.size w wr)
        (fun c _ => 64 - (intOf c).toNat)
      case atStart => exact ⟨0, by omega, rfl, hWf, hBr⟩
      case round =>
        clear hWf hBr hlw
        obtain ⟨i, hi2, rfl, hWr, hBr⟩ := hrel
        have hlw := (sched_length (load by_ 16) i).trans (load_length by_ 16)
        by_cases h48 : i < 48
        · have c0 := hWr.cell (16 + i) (by omega)
          have c1 := hWr.cell' (16 + i - 15) (i + 1) (by omega) (by omega)
          have c2 := hWr.cell' (16 + i - 2) (i + 14) (by omega) (by omega)
          have c3 := hWr.cell i (by omega)
          have c4 := hWr.cell' (16 + i - 7) (i + 9) (by omega) (by omega)
          have f0 := hWr.free (16 + i)
          go_wp2_with fail
          go_quiet (fail)
          go_wp2_with (go_at_call 84; refine (turn_any _ _ _ (by omega) (by omega)).mono ?_; rintro e w' ⟨rfl, rfl⟩)
          go_region
          go_wp2
          go_roundw
          case rel =>
            exact ⟨i + 1, by omega, by go_num, (hWr.drewN _).set _ _, ((Keep.of_below hBr).drewN _).below.setCell (Nat.le_refl _) _⟩
          case measure => simp [intOf]; omega
        · have e48 : i = 48 := by omega
          have hWf : IBlk .u32 113 wr w.heap.size (sched (load by_ 16) 48) := by rw [← e48]; exact hWr
          clear e48 hWr hlw
          have hstr : IBlk .u32 T wr bs st := hst.below hBr hbs
          have hkkr : IBlk .u32 T' wr bk kk := hkk.below hBr hbk
          have d0 := hstr.cell 0 (by omega)
          have d1 := hstr.cell 1 (by omega)
          have d2 := hstr.cell 2 (by omega)
          have d3 := hstr.cell 3 (by omega)
          have d4 := hstr.cell 4 (by omega)
          have d5 := hstr.cell 5 (by omega)
          have d6 := hstr.cell 6 (by omega)
          have d7 := hstr.cell 7 (by omega)
          go_wp2
          have hV := mk8 wr st hl1
          have hBz : w.heap.size < wr.heap.size := hWf.lt
          have hB2 : Below w.heap.size w _ := hBr.alloc (Nat.le_of_lt hBz) (.cells #[.int .u32 (nth st 0), .int .u32 (nth st 1), .int .u32 (nth st 2), .int .u32 (nth st 3), .int .u32 (nth st 4), .int .u32 (nth st 5), .int .u32 (nth st 6), .int .u32 (nth st 7)] 112)
          have hW2 := hWf.alloc (.cells #[.int .u32 (nth st 0), .int .u32 (nth st 1), .int .u32 (nth st 2), .int .u32 (nth st 3), .int .u32 (nth st 4), .int .u32 (nth st 5), .int .u32 (nth st 6), .int .u32 (nth st 7)] 112)
          generalize wr.alloc _ = w2 at hV hB2 hW2 ⊢
          clear d0 d1 d2 d3 d4 d5 d6 d7 hWf hBr hstr hkkr
          generalize wr.heap.size = Bv at hV hBz ⊢
          have hlW : (sched (load by_ 16) 48).length = 64 := (sched_length (load by_ 16) 48).trans (load_length by_ 16)
          obtain ⟨W, hWW⟩ : ∃ W, W = sched (load by_ 16) 48 := ⟨_, rfl⟩
          rw [← hWW] at hW2 hlW
          have HW := Lib.hid hWW
          clear hWW
          go_loopw [77] (fun c wr => ∃ i : Nat, i ≤ 64 ∧ c = .int .i64 i ∧ IBlk .u32 113 wr w.heap.size W ∧ IBlk .u32 112 wr Bv (rounds kk W st i) ∧ Below w.heap.size w wr)
            (fun c _ => 64 - (intOf c).toNat)
          case atStart => exact ⟨0, by omega, rfl, hW2, hV, hB2⟩
          case round =>
            clear hW2 hV hB2
            obtain ⟨r, hr, rfl, hWr, hVr, hBr⟩ := hrel
            have hlv := rounds_length kk W st r hl1
            obtain ⟨v, hvv⟩ : ∃ v, v = rounds kk W st r := ⟨_, rfl⟩
            rw [← hvv] at hVr hlv
            have Hv := Lib.hid hvv
            clear hvv
            by_cases hr64 : r < 64
            · have hkkr : IBlk .u32 T' wr bk kk := hkk.below hBr hbk
              have d0 := hVr.cell 0 (by omega)
              have d1 := hVr.cell 1 (by omega)
              have d2 := hVr.cell 2 (by omega)
              have d3 := hVr.cell 3 (by omega)
              have d4 := hVr.cell 4 (by omega)
              have d5 := hVr.cell 5 (by omega)
              have d6 := hVr.cell 6 (by omega)
              have d7 := hVr.cell 7 (by omega)
              have f0 := hVr.free
              have k0 := hkkr.cell r (by omega)
              have w0 := hWr.cell r (by omega)
              go_wp2_with fail
              go_quiet (fail)
              go_wp2_with fail
              go_quiet ((go_at_call 84; exact quiet_add_left (turn_any _ _ _ (by omega) (by omega))))
              go_wp2_with fail
              go_quiet ((go_at_call 84; exact quiet_add_left (turn_any _ _ _ (by omega) (by omega))))
              go_wp2
              go_roundw
              case rel =>
                refine ⟨r + 1, by omega, by go_num, hWr.keep (oth8 ((Keep.refl (fun k => k < Bv) wr).drewN _) (Nat.lt_irrefl _) _ _ _ _ _ _ _ _) hBz, ?_, ?_⟩
                · rw [rounds, ← Hv.out]
                  exact set8 (hVr.drewN _) hlv _ _ _ _ _ _ _ _
                · exact (oth8 ((Keep.of_below hBr).drewN _) (Nat.not_lt.2 (Nat.le_of_lt hBz)) _ _ _ _ _ _ _ _).below
              case measure => simp [intOf]; omega
            · have e64 : r = 64 := by omega
              have hVf : IBlk .u32 112 wr Bv (rounds kk W st 64) := by rw [← e64, ← Hv.out]; exact hVr
              have hstr : IBlk .u32 T wr bs st := hst.below hBr hbs
              have hl8 := rounds_length kk W st 64 hl1
              have hres : compress kk by_ st = addInto st (rounds kk W st 64) 8 := by rw [HW.out]; rfl
              have Hres := Lib.hid hres
              clear hres e64 hVr hWr hlv Hv HW hlW
              obtain ⟨z, hz⟩ : ∃ z, z = rounds kk W st 64 := ⟨_, rfl⟩
              rw [← hz] at hVf hl8
              have Hz := Lib.hid hz
              clear hz
              have hBz2 : Keep (fun k => k < w.heap.size ∧ k ≠ bs) w wr := (Keep.of_below hBr).mono fun _ h => h.1
              go_wp2
              go_loopw [161] (fun c wr => ∃ i : Nat, i ≤ 8 ∧ c = .int .i64 i ∧ IBlk .u32 112 wr Bv z ∧ IBlk .u32 T wr bs (addInto st z i) ∧ Keep (fun k => k < w.heap.size ∧ k ≠ bs) w wr)
                (fun c _ => 8 - (intOf c).toNat)
              case atStart => exact ⟨0, by omega, rfl, hVf, hstr, hBz2⟩
              case round =>
                clear hVf hstr hBz2 hBr
                obtain ⟨q, hq, rfl, hVr, hSr, hKr⟩ := hrel
                have hls := (addInto_length st z q).trans hl1
                by_cases h8 : q < 8
                · have s0 := hSr.cell q (by omega)
                  have v0 := hVr.cell q (by omega)
                  have f0 := hSr.free q
                  go_wp2_with fail
                  go_region
                  go_wp2
                  go_roundw
                  case rel =>
                    refine ⟨q + 1, by omega, by go_num, ?_, ?_, ?_⟩
                    · exact hVr.other _ _ (by show Bv ≠ bs; omega)
                    · exact hSr.set _ _
                    · exact (hKr.setCell (fun h => h.2 rfl) _).drewN 1
                  case measure => simp [intOf]; omega
                · have e8 : q = 8 := by omega
                  have hSf : IBlk .u32 T wr bs (compress kk by_ st) := by rw [Hres.out, ← Hz.out, ← e8]; exact hSr
                  clear e8 hSr hVr Hres Hz hls
                  go_wp2
                  go_end0
                  exact ⟨rfl, hSf, hKr⟩

end Dig
end Go.Proofs.Ytlamdhekjlnccaa

/- digest: the rounds' numbers. -/
namespace Go.Proofs.Ytlamdhekjlnccaa
open Go.RowKit
namespace Dig

/-- The rounds' numbers. -/
def K : List Int := [
  0x428a2f98, 0x71374491, 0xb5c0fbcf, 0xe9b5dba5, 0x3956c25b, 0x59f111f1, 0x923f82a4, 0xab1c5ed5,
  0xd807aa98, 0x12835b01, 0x243185be, 0x550c7dc3, 0x72be5d74, 0x80deb1fe, 0x9bdc06a7, 0xc19bf174,
  0xe49b69c1, 0xefbe4786, 0x0fc19dc6, 0x240ca1cc, 0x2de92c6f, 0x4a7484aa, 0x5cb0a9dc, 0x76f988da,
  0x983e5152, 0xa831c66d, 0xb00327c8, 0xbf597fc7, 0xc6e00bf3, 0xd5a79147, 0x06ca6351, 0x14292967,
  0x27b70a85, 0x2e1b2138, 0x4d2c6dfc, 0x53380d13, 0x650a7354, 0x766a0abb, 0x81c2c92e, 0x92722c85,
  0xa2bfe8a1, 0xa81a664b, 0xc24b8b70, 0xc76c51a3, 0xd192e819, 0xd6990624, 0xf40e3585, 0x106aa070,
  0x19a4c116, 0x1e376c08, 0x2748774c, 0x34b0bcb5, 0x391c0cb3, 0x4ed8aa4a, 0x5b9cca4f, 0x682e6ff3,
  0x748f82ee, 0x78a5636f, 0x84c87814, 0x8cc70208, 0x90befffa, 0xa4506ceb, 0xbef9a3f7, 0xc67178f2]

set_option maxRecDepth 100000 in
set_option maxHeartbeats 1000000 in
theorem numbers_any (w : World) :
    Calls Try.prog 78 #[] w fun e w' => e = .returned (.agg (K.map (Value.int .u32)).toArray) ∧ Below w.heap.size w w' := by
  go_enter Try.func78, Try.ntmps78
  go_wp2_with (first | (refine wpList_build_to rfl 113 _ rfl (K.map (Value.int .u32)).toArray (by kernel_rfl) ?_) | (refine wpList_store_row rfl 113 _ _ rfl w.heap.size (K.map (Value.int .u32)).toArray rfl rfl 113 _ (heap_alloc_new _ _) (by kernel_rfl) (by kernel_rfl) (by kernel_rfl) ?_))
  refine bodyPost_ret (results_cell_row rfl _ _ w.heap.size 113 (K.map (Value.int .u32)).toArray (0, 0) _ rfl (setRow_heap _ _ _ _ _ _ (heap_alloc_new _ _)) Try.underlying113 rfl (by kernel_rfl)) rfl ⟨rfl, ?_⟩
  exact below_setRow ((Below.refl _ _).alloc (Nat.le_refl _) _) (Nat.le_refl _) _

end Dig
end Go.Proofs.Ytlamdhekjlnccaa

/- digest: the program's Sum. -/
namespace Go.Proofs.Ytlamdhekjlnccaa
open Go.RowKit
namespace Dig

/-- The words that a digest begins with. -/
def H0 : List Int := [0x6a09e667, 0xbb67ae85, 0x3c6ef372, 0xa54ff53a, 0x510e527f, 0x9b05688c, 0x1f83d9ab, 0x5be0cd19]
/-- The state behind j blocks of l. -/
def absorb (l st : List Int) : Nat → List Int
  | 0 => st
  | j + 1 => compress K (l.drop (64 * j)) (absorb l st j)
theorem compress_length (kk by_ st : List Int) : (compress kk by_ st).length = st.length := addInto_length st _ 8
theorem absorb_length (l st : List Int) (j : Nat) : (absorb l st j).length = st.length := by
  induction j with
  | zero => rfl
  | succ j ih => rw [absorb, compress_length, ih]

/-- The last n bytes of e: a length in digits, the i last of eight laid. -/
def putLen (p : List Int) (e n : Nat) : Nat → List Int
  | 0 => p
  | i + 1 => (putLen p e n i).set (e - 1 - i) ((n : Int) * 8 / 2 ^ (8 * i) % 256)
theorem putLen_length (p : List Int) (e n i : Nat) : (putLen p e n i).length = p.length := by
  induction i with
  | zero => rfl
  | succ i ih => rw [putLen, List.length_set, ih]
/-- The words as bytes, i of them laid. -/
def outH (st : List Int) : Nat → List Int
  | 0 => List.replicate 32 0
  | i + 1 => ((((outH st i).set (4 * i) (nth st i / 16777216 % 256)).set (4 * i + 1) (nth st i / 65536 % 256)).set (4 * i + 2) (nth st i / 256 % 256)).set (4 * i + 3) (nth st i % 256)
theorem outH_length (st : List Int) (i : Nat) : (outH st i).length = 32 := by
  induction i with
  | zero => rfl
  | succ i ih => simp [outH, ih]
/-- The digest, as the program reckons it. -/
def sumL (l : List Int) : List Int :=
  let j := l.length / 64
  let rl := l.drop (64 * j)
  let p0 := (rl ++ List.replicate (128 - rl.length) 0).set rl.length 128
  outH (if 56 ≤ rl.length then absorb (putLen p0 128 l.length 8) (absorb l H0 j) 2 else absorb (putLen p0 64 l.length 8) (absorb l H0 j) 1) 8
theorem sumL_length (l : List Int) : (sumL l).length = 32 := outH_length _ _
theorem Try.infoU32 : (Try.prog.info? 110).map (fun i => (i.zero, i.size, i.bytes)) = some (some (.int .u32 0), 1, 4) := by kernel_rfl

theorem pick8 (st : List Int) (i : Nat) (h : i < 8) :
    (#[.int .u32 (nth st 0), .int .u32 (nth st 1), .int .u32 (nth st 2), .int .u32 (nth st 3), .int .u32 (nth st 4), .int .u32 (nth st 5), .int .u32 (nth st 6), .int .u32 (nth st 7)] : Array Value)[i]? = some (.int .u32 (nth st i)) := by
  match i, h with
  | 0, _ => rfl
  | 1, _ => rfl
  | 2, _ => rfl
  | 3, _ => rfl
  | 4, _ => rfl
  | 5, _ => rfl
  | 6, _ => rfl
  | 7, _ => rfl

theorem index42 (st : List Int) (i : Nat) (h : i < 8) (W : World) :
    (Instr.index 112 (.agg #[.int .u32 (nth st 0), .int .u32 (nth st 1), .int .u32 (nth st 2), .int .u32 (nth st 3), .int .u32 (nth st 4), .int .u32 (nth st 5), .int .u32 (nth st 6), .int .u32 (nth st 7)]) (.int .i64 (i : Int))).run Try.prog W = .ok (.int .u32 (nth st i)) W := by
  obtain ⟨it, hit, -, hit2, -⟩ := info_parts Try.infoU32
  exact run_index_arr W _ _ 8 _ it Try.underlying112 hit hit2 Try.underlying110 rfl _ .i64 i h _ (pick8 st i h)

/-- A hundred and twenty-eight bytes, all nought. -/
def Z128 : List Value := List.replicate 128 (.int .u8 0)
theorem zero47 (w : World) : (zeroValue 117).run Try.prog w = .ok (.agg Z128.toArray) w := by kernel_rfl

set_option maxRecDepth 100000 in
set_option maxHeartbeats 1000000 in
theorem sum_any (v : Value) (l : List Int) (w : World) (hv : Sl .u8 w v l) (hn : l.length ≤ 1152921504606846975) :
    Calls Try.prog 70 #[v] w fun e w' => e = .returned (.agg ((sumL l).map (Value.int .u8)).toArray) ∧ Below w.heap.size w w' := by
  obtain ⟨sp, cap, rfl, hc1, hc2, hrow, -⟩ := hv
  go_enter Try.func70, Try.ntmps70
  go_wp2_with fail
  refine (numbers_any _).mono ?_
  rintro e w1 ⟨rfl, hb1⟩
  obtain ⟨hB0, hB1, hb, hsz⟩ := two_alloc hb1
  clear hb1
  go_wp2_with (refine wpList_store_row rfl 113 _ _ rfl w1.heap.size (K.map (Value.int .u32)).toArray rfl rfl 113 _ (heap_alloc_new _ _) (by kernel_rfl) (by kernel_rfl) (by kernel_rfl) ?_)
  have hKb := setRow_heap _ w1.heap.size _ (K.map (Value.int .u32)).toArray 113 (0, 0) (heap_alloc_new w1 (.cells ((List.replicate 64 (0 : Int)).map (Value.int .u32)).toArray 113))
  have hkeep : Below w1.heap.size w1 ((w1.alloc (.cells ((List.replicate 64 (0 : Int)).map (Value.int .u32)).toArray 113)).setRow w1.heap.size (K.map (Value.int .u32)).toArray) :=
    below_setRow ((Below.refl _ _).alloc (Nat.le_refl _) _) (Nat.le_refl _) _
  simp only [List.replicate, List.map_cons, List.map_nil] at hKb hkeep
  generalize World.setRow _ _ _ = w2 at hKb hkeep ⊢
  have hz2 : w1.heap.size < w2.heap.size := lt_of_block hKb
  have hKk : IBlk .u32 113 w2 w1.heap.size K := hKb
  have hHh : IBlk .u8 23 w2 w.heap.size (List.replicate 32 0) := (hkeep.block w.heap.size (by omega)).trans hB0
  have hSs : IBlk .u32 112 w2 (w.heap.size + 1) H0 := (hkeep.block (w.heap.size + 1) (by omega)).trans hB1
  have hbel : Below w.heap.size w w2 := hb.trans (hkeep.mono (by omega))
  clear hKb hkeep hB0 hB1
  obtain ⟨BK, hBK⟩ : ∃ BK, BK = w1.heap.size := ⟨_, rfl⟩
  rw [← hBK] at hKk hz2 hsz ⊢
  clear hBK hb
  have hrow0 : 0 < l.length → ∃ b o, sp = some ⟨b, o, none⟩ ∧ b < w.heap.size ∧ Row .u8 w b o (l.drop (64 * 0)) := hrow
  go_loopw [5] (fun r wr => ∃ j m sq rc, m + 64 * j = l.length ∧ m ≤ rc ∧ rc ≤ 9223372036854775807 ∧ r = .slice sq m rc ∧
      (0 < m → ∃ b o, sq = some ⟨b, o, none⟩ ∧ b < w.heap.size ∧ Row .u8 w b o (l.drop (64 * j))) ∧
      IBlk .u32 113 wr BK K ∧ IBlk .u8 23 wr w.heap.size (List.replicate 32 0) ∧ IBlk .u32 112 wr (w.heap.size + 1) (absorb l H0 j) ∧ Below w.heap.size w wr)
    (fun r _ => lenOf r)
  case atStart => exact ⟨0, l.length, sp, cap, by omega, hc1, hc2, rfl, hrow0, hKk, hHh, hSs, hbel⟩
  case round =>
    clear hKk hHh hSs hbel hz2 hrow0
    obtain ⟨j, m, sq, rc, hm, hrc1, hrc2, rfl, hsq, hKk, hHh, hSs, hbel⟩ := hrel
    have hls : (absorb l H0 j).length = 8 := absorb_length l H0 j
    have hbsz := hbel.size
    by_cases h64 : 64 ≤ m
    · obtain ⟨b, o, rfl, hbw, hrw⟩ := hsq (by omega)
      have hrwr : Row .u8 wr b o (l.drop (64 * j)) := hrw.below hbel hbw
      have hstep : ∀ w', IBlk .u32 112 w' (w.heap.size + 1) (compress K (l.drop (64 * j)) (absorb l H0 j)) → Keep (fun k => k < wr.heap.size ∧ k ≠ w.heap.size + 1) wr w' →
          IBlk .u32 113 w' BK K ∧ IBlk .u8 23 w' w.heap.size (List.replicate 32 0) ∧ IBlk .u32 112 w' (w.heap.size + 1) (absorb l H0 (j + 1)) ∧ Below w.heap.size w w' := by
        intro w' hS hKp
        exact ⟨hKk.keep hKp ⟨hKk.lt, by omega⟩, hHh.keep hKp ⟨hHh.lt, by omega⟩, hS, hbel.trans (hKp.mono (fun k hk => ⟨by omega, by omega⟩)).below⟩
      have hdrop : 64 ≤ (l.drop (64 * j)).length := by rw [List.length_drop]; omega
      by_cases hcap : rc = 64
      · have hm64 : m = 64 := by omega
        subst hm64
        subst hcap
        go_wp2_with fail
        refine (take_any (w.heap.size + 1) b o 64 64 BK (absorb l H0 j) (l.drop (64 * j)) K 112 113 _ (Nat.le_refl _) (by omega) (Nat.le_refl _) (by omega) hSs hrwr hKk hls hdrop rfl).mono ?_
        rintro e w' ⟨rfl, hS', hK'⟩
        have hfin := hstep w' hS' hK'
        clear hstep hS' hK' hSs hKk hHh hbel hrwr hrw hsq
        go_wp2
        go_roundw
        case rel => exact ⟨j + 1, 0, _, 0, by omega, by omega, by omega, rfl, fun h => absurd h (by omega), hfin⟩
        case measure => simp [lenOf]
      · go_wp2_with fail
        refine (take_any (w.heap.size + 1) b o m rc BK (absorb l H0 j) (l.drop (64 * j)) K 112 113 _ h64 (by omega) hrc1 (by omega) hSs hrwr hKk hls hdrop rfl).mono ?_
        rintro e w' ⟨rfl, hS', hK'⟩
        have hfin := hstep w' hS' hK'
        have hrw2 : Row .u8 w b (o + 64) (l.drop (64 * (j + 1))) := by
          have := row_drop hrw 64; rw [List.drop_drop] at this; rwa [Nat.mul_add]
        clear hstep hS' hK' hSs hKk hHh hbel hrwr hrw hsq
        go_wp2
        go_roundw
        case rel => exact ⟨j + 1, m - 64, _, rc - 64, by omega, by omega, by omega, rfl, fun _ => ⟨b, o + 64, rfl, hbw, hrw2⟩, hfin⟩
        case measure => simp [lenOf]; omega
    · have hml : m < 64 := by omega
      have hrl : (l.drop (64 * j)).length = m := by rw [List.length_drop]; omega
      obtain ⟨rl, hrl2⟩ : ∃ rl, rl = l.drop (64 * j) := ⟨_, rfl⟩
      rw [← hrl2] at hsq hrl
      have Hrl := Lib.hid hrl2
      clear hrl2
      have hZ : VBlk 117 (wr.alloc (.cells Z128.toArray 117)) wr.heap.size Z128 := VBlk.mk wr _ _
      have hZk : Below wr.heap.size wr (wr.alloc (.cells Z128.toArray 117)) := (Below.refl _ _).alloc (Nat.le_refl _) _
      obtain ⟨cs, hcs⟩ : ∃ cs, cs = rl.map (Value.int .u8) := ⟨_, rfl⟩
      have Hcs := Lib.hid hcs
      have hcl : cs.length = m := by rw [hcs]; simpa using hrl
      have hcone : ∀ v ∈ cs, v.oneCell' = true := by rw [hcs]; intro v hv; simp at hv; obtain ⟨_, _, rfl⟩ := hv; rfl
      have hsrc : 0 < cs.length → some (⟨wr.heap.size, 0, none⟩ : Addr) = some ⟨wr.heap.size, 0, none⟩ ∧ ∃ ad, sq = some ad ∧ ∀ j v, cs[j]? = some v → wr.cell? (ad.add j) = some v := by
        intro h0
        refine ⟨rfl, ?_⟩
        obtain ⟨b, o, hsq', hbw, hr⟩ := hsq (by omega)
        refine ⟨_, hsq', fun i v hv => ?_⟩
        rw [hcs] at hv
        have hi : i < rl.length := by
          rcases Nat.lt_or_ge i rl.length with h | h
          · exact h
          · simp [h] at hv
        have := (hr.below hbel hbw) i hi
        rw [addr_add, this]
        simpa [nth, hi] using hv
      clear hcs
      have hsrc2 : 0 < cs.length → ∃ ad, sq = some ad ∧ ∀ j v, cs[j]? = some v → (wr.alloc (.cells Z128.toArray 117)).cell? (ad.add j) = some v := by
        intro h0
        obtain ⟨_, ad, e, h⟩ := hsrc h0
        exact ⟨ad, e, fun j v hv => by have := h j v hv; rw [← this]; exact World.cell?_alloc_lt _ _ _ (block_lt_of_cell this)⟩
      clear hsrc
      have HCL := Lib.hid hcl
      clear hcl
      have hz47 : ∀ w : World, (zeroValue 117).run Try.prog w = .ok (.agg Z128.toArray) w := zero47
      go_wp2_with (refine wpList_copy_splice rfl (.tmp 24) (.tmp 25) 29 29 rfl 5 Try.underlying29 (by kernel_rfl) _ _ _ _ _ _ rfl rfl wr.heap.size 0 Z128 117 hZ cs ?hn ?hpos ?hfit hcone wr.heap.size wr hZk (Nat.le_refl _) ?hh)
      case hn => rw [HCL.out]; exact (Nat.min_eq_left (by omega)).symm
      case hpos => first | exact fun h => ⟨rfl, hsrc2 h⟩ | exact hsrc2
      case hfit => rw [HCL.out]; show 0 + m ≤ 128; omega
      case hh =>
        intro w3 HG3 hB3
        rw [HCL.out]
        have hL : IBlk .u8 117 w3 wr.heap.size (rl ++ List.replicate (128 - m) 0) := by
          have e : splice Z128 0 cs = (rl ++ List.replicate (128 - m) 0).map (Value.int .u8) := by
            rw [splice_zero _ _ (by rw [HCL.out]; show m ≤ 128; omega), HCL.out, Hcs.out]
            rw [List.map_append, List.map_replicate]; unfold Z128; rw [List.drop_replicate]
          have := HG3.out
          rw [e] at this
          exact this
        have hKk3 := hKk.below hB3 hKk.lt
        have hHh3 := hHh.below hB3 hHh.lt
        have hSs3 := hSs.below hB3 hSs.lt
        have hbel3 : Below w.heap.size w w3 := hbel.trans (hB3.mono hbsz)
        have hBLK : BK ≠ wr.heap.size := by have := hKk.lt; omega
        have hBLS : w.heap.size + 1 < wr.heap.size := hSs.lt
        obtain ⟨BL, hBL⟩ : ∃ BL, BL = wr.heap.size := ⟨_, rfl⟩
        rw [← hBL] at hL hBLK hBLS ⊢
        clear hBL HG3 hB3 hKk hHh hSs hbel hbsz hsrc2 hZ hZk hcone Hcs HCL hz47 hsq
        have hLl : (rl ++ List.replicate (128 - m) 0).length = 128 := by simp [hrl]; omega
        have c0 := hL.cell m (by omega)
        have f0 := hL.free m
        by_cases h56 : 56 ≤ m
        · have h56i : (56 : Int) ≤ (m : Int) := by omega
          go_wp2_with fail
          have hP0 := hL.set m 128
          have hk4 : Keep (fun k => k ≠ BL) w3 (w3.setCell ⟨BL, m, none⟩ (.int .u8 128)) := (Keep.refl _ _).setCell (fun h => h rfl) _
          generalize World.setCell _ _ _ = w4 at hP0 hk4 ⊢
          have hKk4 := hKk3.keep hk4 hBLK
          have hHh4 := hHh3.keep hk4 (by omega)
          have hSs4 := hSs3.keep hk4 (by omega)
          have hbel4 : Below w.heap.size w w4 := hbel3.trans (hk4.mono (fun k (hk : k < w.heap.size) => by omega)).below
          clear hKk3 hHh3 hSs3 hbel3 hk4 hL hLl c0 f0
          obtain ⟨p0, hp0⟩ : ∃ p0, p0 = (rl ++ List.replicate (128 - m) 0).set m 128 := ⟨_, rfl⟩
          rw [← hp0] at hP0
          have hpl : p0.length = 128 := by rw [hp0]; simp [hrl]; omega
          have Hp0 := Lib.hid hp0
          clear hp0
          go_loopw [35] (fun c wr => ∃ i : Nat, i ≤ 8 ∧ c = .int .i64 i ∧ IBlk .u8 117 wr BL (putLen p0 128 l.length i) ∧ Keep (fun k => k ≠ BL) w4 wr) (fun c _ => 8 - (intOf c).toNat)
          case atStart => exact ⟨0, by omega, rfl, hP0, Keep.refl _ _⟩
          case round =>
            clear hP0
            obtain ⟨i, hi, rfl, hPr, hKr⟩ := hrel
            have hql : (putLen p0 128 l.length i).length = 128 := (putLen_length p0 128 l.length i).trans hpl
            by_cases h8 : i < 8
            · have c0 := hPr.cell (127 - i) (by omega)
              have f0 := hPr.free (127 - i)
              go_wp2_with fail
              go_roundw
              case rel => exact ⟨i + 1, by omega, by go_num, hPr.set _ _, hKr.setCell (fun h => h rfl) _⟩
              case measure => simp [intOf]; omega
            · have e8 : i = 8 := by omega
              rw [e8] at hPr hql
              clear e8
              have hKk5 := hKk4.keep hKr hBLK
              have hHh5 := hHh4.keep hKr (by omega)
              have hSs5 := hSs4.keep hKr (by omega)
              have hbel5 : Below w.heap.size w wr := hbel4.trans (hKr.mono (fun k (hk : k < w.heap.size) => by omega)).below
              obtain ⟨PL, hPL⟩ : ∃ PL, PL = putLen p0 128 l.length 8 := ⟨_, rfl⟩
              rw [← hPL] at hPr hql
              have HPL := Lib.hid hPL
              clear hKk4 hHh4 hSs4 hbel4 hKr hPL
              obtain ⟨S0, hS0⟩ : ∃ S0, S0 = absorb l H0 j := ⟨_, rfl⟩
              rw [← hS0] at hSs5 hls
              have HS0 := Lib.hid hS0
              clear hS0
              obtain ⟨w5, hw5⟩ : ∃ w5, w5 = wr := ⟨_, rfl⟩
              rw [← hw5] at hKk5 hHh5 hSs5 hbel5 hPr ⊢
              clear hw5
              go_wp2_with fail
              go_loopw [11] (fun c wr => ∃ i : Nat, i ≤ 2 ∧ c = .int .i64 (64 * (i : Int)) ∧ IBlk .u32 112 wr (w.heap.size + 1) (absorb PL S0 i) ∧ Keep (fun k => k < w5.heap.size ∧ k ≠ w.heap.size + 1) w5 wr) (fun c _ => 128 - (intOf c).toNat)
              case atStart => exact ⟨0, by omega, rfl, hSs5, Keep.refl _ _⟩
              case round =>
                clear hSs5
                obtain ⟨q, hq, rfl, hSr, hKr⟩ := hrel
                have hsl : (absorb PL S0 q).length = 8 := (absorb_length PL S0 q).trans hls
                have hPq := hPr.keep hKr ⟨hPr.lt, by omega⟩
                have hKq := hKk5.keep hKr ⟨hKk5.lt, by omega⟩
                by_cases hqn : q < 2
                · have hrow := row_drop hPq.row (64 * q)
                  rw [Nat.zero_add] at hrow
                  have hdl : 64 ≤ (PL.drop (64 * q)).length := by rw [List.length_drop]; omega
                  have b0 : 0 ≤ 64 * (q : Int) := by omega
                  have b1 : 64 * (q : Int) ≤ 128 := by omega
                  go_wp2_with fail
                  refine (take_any (w.heap.size + 1) BL (64 * q) (128 - 64 * q) (128 - 64 * q) BK (absorb PL S0 q) (PL.drop (64 * q)) K 112 113 _ (by omega) (by omega) (by omega) hPq.lt hSr hrow hKq hsl hdl rfl).mono ?_
                  rintro e w' ⟨rfl, hS', hK'⟩
                  have hsz' := hKr.size
                  have hK2 : Keep (fun k => k < w5.heap.size ∧ k ≠ w.heap.size + 1) w5 w' := hKr.trans (hK'.mono (fun k hk => ⟨Nat.lt_of_lt_of_le hk.1 hsz', hk.2⟩))
                  have hS2 : IBlk .u32 112 w' (w.heap.size + 1) (absorb PL S0 (q + 1)) := hS'
                  clear hS' hK' hKr hSr hPq hKq hrow
                  go_wp2_with fail
                  go_roundw
                  case rel => exact ⟨q + 1, by omega, by go_num, hS2, hK2⟩
                  case measure => simp [intOf]; omega
                · have eq2 : q = 2 := by omega
                  rw [eq2] at hSr hsl
                  clear eq2
                  have hHq := hHh5.keep hKr ⟨hHh5.lt, by omega⟩
                  have hbelq : Below w.heap.size w wr := hbel5.trans (hKr.mono (fun k (hk : k < w.heap.size) => ⟨Nat.lt_of_lt_of_le hk hbel5.size, by omega⟩)).below
                  obtain ⟨st, hst⟩ : ∃ st, st = absorb PL S0 2 := ⟨_, rfl⟩
                  rw [← hst] at hSr hsl
                  have hres : sumL l = outH st 8 := by
                    have ej : j = l.length / 64 := by omega
                    have erl : l.drop (64 * j) = rl := Hrl.out.symm
                    unfold sumL
                    simp only [← ej, erl, hrl]
                    rw [hst, HPL.out, Hp0.out, HS0.out]
                    first | (rw [if_pos h56]) | (rw [if_neg h56])
                  have Hres := Hid2.mk hres
                  clear hres hst hPq hKq hKr hPr hKk5 hHh5 hbel5
                  obtain ⟨w6, hw6⟩ : ∃ w6, w6 = wr := ⟨_, rfl⟩
                  rw [← hw6] at hSr hHq hbelq ⊢
                  clear hw6
                  have hgS : w6.heap[w.heap.size + 1]? = some (.cells (st.map (Value.int .u32)).toArray 112 (0, 0)) := hSr
                  have d0 := hSr.cell 0 (by omega)
                  have d1 := hSr.cell 1 (by omega)
                  have d2 := hSr.cell 2 (by omega)
                  have d3 := hSr.cell 3 (by omega)
                  have d4 := hSr.cell 4 (by omega)
                  have d5 := hSr.cell 5 (by omega)
                  have d6 := hSr.cell 6 (by omega)
                  have d7 := hSr.cell 7 (by omega)
                  clear hgS
                  go_wp2_with fail
                  clear d0 d1 d2 d3 d4 d5 d6 d7
                  go_loopw [58] (fun c wr => ∃ i : Nat, i ≤ 8 ∧ c = .int .i64 i ∧ IBlk .u8 23 wr w.heap.size (outH st i) ∧ Keep (fun k => k ≠ w.heap.size) w6 wr) (fun c _ => 8 - (intOf c).toNat)
                  case atStart => exact ⟨0, by omega, rfl, hHq, Keep.refl _ _⟩
                  case round =>
                    clear hHq hSr
                    obtain ⟨i, hi, rfl, hOr, hKr⟩ := hrel
                    have hol := outH_length st i
                    by_cases hi8 : i < 8
                    · have c0 := hOr.cell (4 * i) (by omega)
                      have c1 := hOr.cell (4 * i + 1) (by omega)
                      have c2 := hOr.cell (4 * i + 2) (by omega)
                      have c3 := hOr.cell (4 * i + 3) (by omega)
                      have f0 := hOr.free (4 * i)
                      have f1 := hOr.free (4 * i + 1)
                      have f2 := hOr.free (4 * i + 2)
                      have f3 := hOr.free (4 * i + 3)
                      have hix := index42 st i hi8
                      go_wp2_with fail
                      go_roundw
                      case rel => exact ⟨i + 1, by omega, by go_num, (((hOr.set _ _).set _ _).set _ _).set _ _, (((hKr.setCell (fun h => h rfl) _).setCell (fun h => h rfl) _).setCell (fun h => h rfl) _).setCell (fun h => h rfl) _⟩
                      case measure => simp [intOf]; omega
                    · have e9 : i = 8 := by omega
                      rw [e9] at hOr
                      clear e9
                      obtain ⟨hh, hhe⟩ : ∃ hh, hh = sumL l := ⟨_, rfl⟩
                      have hsl32 : hh.length = 32 := by rw [hhe]; exact sumL_length l
                      rw [← Hres.out, ← hhe] at hOr
                      have Hhe := Hid2.mk hhe
                      clear hhe
                      have hg0 : wr.heap[w.heap.size]? = some (.cells (hh.map (Value.int .u8)).toArray 23 (0, 0)) := hOr
                      have hbelf : Below w.heap.size w wr := hbelq.trans (hKr.mono (fun k (hk : k < w.heap.size) => by omega)).below
                      clear hOr hol hKr Hres hbelq
                      have hi25 : (Try.prog.info? 23).map (·.size) = some (hh.map (Value.int .u8)).toArray.size := by
                        rw [List.size_toArray, List.length_map, hsl32]; kernel_rfl
                      have hone : (hh.map (Value.int .u8)).toArray.all (·.oneCell') = true := by simp [Value.oneCell']
                      have Hi25 := Hid2.mk hi25
                      have Hone := Hid2.mk hone
                      have Hg0 := Hid2.mk hg0
                      clear hi25 hone hg0 hsl32
                      go_wp2_with (first | (refine wpList_load_row rfl 23 (.tmp 2) rfl w.heap.size rfl 23 (hh.map (Value.int .u8)).toArray (0, 0) _ Hg0.out Try.underlying23 rfl Hi25.out ?_) | (refine wpList_store_row rfl 23 (.tmp 2) (.tmp 89) rfl w.heap.size (hh.map (Value.int .u8)).toArray rfl rfl 23 (hh.map (Value.int .u8)).toArray Hg0.out Hi25.out rfl Hone.out ?_))
                      refine bodyPost_ret (results_cell_row rfl _ _ w.heap.size 23 (hh.map (Value.int .u8)).toArray (0, 0) _ rfl (setRow_heap _ _ _ _ _ _ Hg0.out) Try.underlying23 rfl Hi25.out) rfl ⟨by rw [Hhe.out], ?_⟩
                      exact below_setRow hbelf (Nat.le_refl _) _
        · have h56i : decide ((56 : Int) ≤ (m : Int)) = false := decide_eq_false (by omega)
          go_wp2_with fail
          have hP0 := hL.set m 128
          have hk4 : Keep (fun k => k ≠ BL) w3 (w3.setCell ⟨BL, m, none⟩ (.int .u8 128)) := (Keep.refl _ _).setCell (fun h => h rfl) _
          generalize World.setCell _ _ _ = w4 at hP0 hk4 ⊢
          have hKk4 := hKk3.keep hk4 hBLK
          have hHh4 := hHh3.keep hk4 (by omega)
          have hSs4 := hSs3.keep hk4 (by omega)
          have hbel4 : Below w.heap.size w w4 := hbel3.trans (hk4.mono (fun k (hk : k < w.heap.size) => by omega)).below
          clear hKk3 hHh3 hSs3 hbel3 hk4 hL hLl c0 f0
          obtain ⟨p0, hp0⟩ : ∃ p0, p0 = (rl ++ List.replicate (128 - m) 0).set m 128 := ⟨_, rfl⟩
          rw [← hp0] at hP0
          have hpl : p0.length = 128 := by rw [hp0]; simp [hrl]; omega
          have Hp0 := Lib.hid hp0
          clear hp0
          go_loopw [35] (fun c wr => ∃ i : Nat, i ≤ 8 ∧ c = .int .i64 i ∧ IBlk .u8 117 wr BL (putLen p0 64 l.length i) ∧ Keep (fun k => k ≠ BL) w4 wr) (fun c _ => 8 - (intOf c).toNat)
          case atStart => exact ⟨0, by omega, rfl, hP0, Keep.refl _ _⟩
          case round =>
            clear hP0
            obtain ⟨i, hi, rfl, hPr, hKr⟩ := hrel
            have hql : (putLen p0 64 l.length i).length = 128 := (putLen_length p0 64 l.length i).trans hpl
            by_cases h8 : i < 8
            · have c0 := hPr.cell (63 - i) (by omega)
              have f0 := hPr.free (63 - i)
              go_wp2_with fail
              go_roundw
              case rel => exact ⟨i + 1, by omega, by go_num, hPr.set _ _, hKr.setCell (fun h => h rfl) _⟩
              case measure => simp [intOf]; omega
            · have e8 : i = 8 := by omega
              rw [e8] at hPr hql
              clear e8
              have hKk5 := hKk4.keep hKr hBLK
              have hHh5 := hHh4.keep hKr (by omega)
              have hSs5 := hSs4.keep hKr (by omega)
              have hbel5 : Below w.heap.size w wr := hbel4.trans (hKr.mono (fun k (hk : k < w.heap.size) => by omega)).below
              obtain ⟨PL, hPL⟩ : ∃ PL, PL = putLen p0 64 l.length 8 := ⟨_, rfl⟩
              rw [← hPL] at hPr hql
              have HPL := Lib.hid hPL
              clear hKk4 hHh4 hSs4 hbel4 hKr hPL
              obtain ⟨S0, hS0⟩ : ∃ S0, S0 = absorb l H0 j := ⟨_, rfl⟩
              rw [← hS0] at hSs5 hls
              have HS0 := Lib.hid hS0
              clear hS0
              obtain ⟨w5, hw5⟩ : ∃ w5, w5 = wr := ⟨_, rfl⟩
              rw [← hw5] at hKk5 hHh5 hSs5 hbel5 hPr ⊢
              clear hw5
              go_wp2_with fail
              go_loopw [11] (fun c wr => ∃ i : Nat, i ≤ 1 ∧ c = .int .i64 (64 * (i : Int)) ∧ IBlk .u32 112 wr (w.heap.size + 1) (absorb PL S0 i) ∧ Keep (fun k => k < w5.heap.size ∧ k ≠ w.heap.size + 1) w5 wr) (fun c _ => 64 - (intOf c).toNat)
              case atStart => exact ⟨0, by omega, rfl, hSs5, Keep.refl _ _⟩
              case round =>
                clear hSs5
                obtain ⟨q, hq, rfl, hSr, hKr⟩ := hrel
                have hsl : (absorb PL S0 q).length = 8 := (absorb_length PL S0 q).trans hls
                have hPq := hPr.keep hKr ⟨hPr.lt, by omega⟩
                have hKq := hKk5.keep hKr ⟨hKk5.lt, by omega⟩
                by_cases hqn : q < 1
                · have hrow := row_drop hPq.row (64 * q)
                  rw [Nat.zero_add] at hrow
                  have hdl : 64 ≤ (PL.drop (64 * q)).length := by rw [List.length_drop]; omega
                  have b0 : 0 ≤ 64 * (q : Int) := by omega
                  have b1 : 64 * (q : Int) ≤ 128 := by omega
                  go_wp2_with fail
                  refine (take_any (w.heap.size + 1) BL (64 * q) (128 - 64 * q) (128 - 64 * q) BK (absorb PL S0 q) (PL.drop (64 * q)) K 112 113 _ (by omega) (by omega) (by omega) hPq.lt hSr hrow hKq hsl hdl rfl).mono ?_
                  rintro e w' ⟨rfl, hS', hK'⟩
                  have hsz' := hKr.size
                  have hK2 : Keep (fun k => k < w5.heap.size ∧ k ≠ w.heap.size + 1) w5 w' := hKr.trans (hK'.mono (fun k hk => ⟨Nat.lt_of_lt_of_le hk.1 hsz', hk.2⟩))
                  have hS2 : IBlk .u32 112 w' (w.heap.size + 1) (absorb PL S0 (q + 1)) := hS'
                  clear hS' hK' hKr hSr hPq hKq hrow
                  go_wp2_with fail
                  go_roundw
                  case rel => exact ⟨q + 1, by omega, by go_num, hS2, hK2⟩
                  case measure => simp [intOf]; omega
                · have eq2 : q = 1 := by omega
                  rw [eq2] at hSr hsl
                  clear eq2
                  have hHq := hHh5.keep hKr ⟨hHh5.lt, by omega⟩
                  have hbelq : Below w.heap.size w wr := hbel5.trans (hKr.mono (fun k (hk : k < w.heap.size) => ⟨Nat.lt_of_lt_of_le hk hbel5.size, by omega⟩)).below
                  obtain ⟨st, hst⟩ : ∃ st, st = absorb PL S0 1 := ⟨_, rfl⟩
                  rw [← hst] at hSr hsl
                  have hres : sumL l = outH st 8 := by
                    have ej : j = l.length / 64 := by omega
                    have erl : l.drop (64 * j) = rl := Hrl.out.symm
                    unfold sumL
                    simp only [← ej, erl, hrl]
                    rw [hst, HPL.out, Hp0.out, HS0.out]
                    first | (rw [if_pos h56]) | (rw [if_neg h56])
                  have Hres := Hid2.mk hres
                  clear hres hst hPq hKq hKr hPr hKk5 hHh5 hbel5
                  obtain ⟨w6, hw6⟩ : ∃ w6, w6 = wr := ⟨_, rfl⟩
                  rw [← hw6] at hSr hHq hbelq ⊢
                  clear hw6
                  have hgS : w6.heap[w.heap.size + 1]? = some (.cells (st.map (Value.int .u32)).toArray 112 (0, 0)) := hSr
                  have d0 := hSr.cell 0 (by omega)
                  have d1 := hSr.cell 1 (by omega)
                  have d2 := hSr.cell 2 (by omega)
                  have d3 := hSr.cell 3 (by omega)
                  have d4 := hSr.cell 4 (by omega)
                  have d5 := hSr.cell 5 (by omega)
                  have d6 := hSr.cell 6 (by omega)
                  have d7 := hSr.cell 7 (by omega)
                  clear hgS
                  go_wp2_with fail
                  clear d0 d1 d2 d3 d4 d5 d6 d7
                  go_loopw [58] (fun c wr => ∃ i : Nat, i ≤ 8 ∧ c = .int .i64 i ∧ IBlk .u8 23 wr w.heap.size (outH st i) ∧ Keep (fun k => k ≠ w.heap.size) w6 wr) (fun c _ => 8 - (intOf c).toNat)
                  case atStart => exact ⟨0, by omega, rfl, hHq, Keep.refl _ _⟩
                  case round =>
                    clear hHq hSr
                    obtain ⟨i, hi, rfl, hOr, hKr⟩ := hrel
                    have hol := outH_length st i
                    by_cases hi8 : i < 8
                    · have c0 := hOr.cell (4 * i) (by omega)
                      have c1 := hOr.cell (4 * i + 1) (by omega)
                      have c2 := hOr.cell (4 * i + 2) (by omega)
                      have c3 := hOr.cell (4 * i + 3) (by omega)
                      have f0 := hOr.free (4 * i)
                      have f1 := hOr.free (4 * i + 1)
                      have f2 := hOr.free (4 * i + 2)
                      have f3 := hOr.free (4 * i + 3)
                      have hix := index42 st i hi8
                      go_wp2_with fail
                      go_roundw
                      case rel => exact ⟨i + 1, by omega, by go_num, (((hOr.set _ _).set _ _).set _ _).set _ _, (((hKr.setCell (fun h => h rfl) _).setCell (fun h => h rfl) _).setCell (fun h => h rfl) _).setCell (fun h => h rfl) _⟩
                      case measure => simp [intOf]; omega
                    · have e9 : i = 8 := by omega
                      rw [e9] at hOr
                      clear e9
                      obtain ⟨hh, hhe⟩ : ∃ hh, hh = sumL l := ⟨_, rfl⟩
                      have hsl32 : hh.length = 32 := by rw [hhe]; exact sumL_length l
                      rw [← Hres.out, ← hhe] at hOr
                      have Hhe := Hid2.mk hhe
                      clear hhe
                      have hg0 : wr.heap[w.heap.size]? = some (.cells (hh.map (Value.int .u8)).toArray 23 (0, 0)) := hOr
                      have hbelf : Below w.heap.size w wr := hbelq.trans (hKr.mono (fun k (hk : k < w.heap.size) => by omega)).below
                      clear hOr hol hKr Hres hbelq
                      have hi25 : (Try.prog.info? 23).map (·.size) = some (hh.map (Value.int .u8)).toArray.size := by
                        rw [List.size_toArray, List.length_map, hsl32]; kernel_rfl
                      have hone : (hh.map (Value.int .u8)).toArray.all (·.oneCell') = true := by simp [Value.oneCell']
                      have Hi25 := Hid2.mk hi25
                      have Hone := Hid2.mk hone
                      have Hg0 := Hid2.mk hg0
                      clear hi25 hone hg0 hsl32
                      go_wp2_with (first | (refine wpList_load_row rfl 23 (.tmp 2) rfl w.heap.size rfl 23 (hh.map (Value.int .u8)).toArray (0, 0) _ Hg0.out Try.underlying23 rfl Hi25.out ?_) | (refine wpList_store_row rfl 23 (.tmp 2) (.tmp 89) rfl w.heap.size (hh.map (Value.int .u8)).toArray rfl rfl 23 (hh.map (Value.int .u8)).toArray Hg0.out Hi25.out rfl Hone.out ?_))
                      refine bodyPost_ret (results_cell_row rfl _ _ w.heap.size 23 (hh.map (Value.int .u8)).toArray (0, 0) _ rfl (setRow_heap _ _ _ _ _ _ Hg0.out) Try.underlying23 rfl Hi25.out) rfl ⟨by rw [Hhe.out], ?_⟩
                      exact below_setRow hbelf (Nat.le_refl _) _

end Dig
end Go.Proofs.Ytlamdhekjlnccaa

/- digest's reference: its small functions, and what a block is taken in by. -/
namespace Go.Proofs.Ytlamdhekjlnccaa
open Go.RowKit
namespace Dig

set_option maxHeartbeats 400000 in
theorem r_any (x n : Int) (w : World) (hn : 0 ≤ n) (hn2 : n ≤ 32) :
    Calls Try.prog 86 #[.int .u32 x, .int .u64 n] w fun e w' => e = .returned (.int .u32 (rotr x n)) ∧ w = w' := by
  go_enter Try.func86, Try.ntmps86
  go_wp2
  go_ret
  exact ⟨rfl, rfl⟩
theorem r_same (x n : Int) (w : World) (hn : 0 ≤ n) (hn2 : n ≤ 32) :
    Calls Try.prog 86 #[.int .u32 x, .int .u64 n] w fun e w' => e = .returned (.int .u32 (rotr x n)) ∧ w' = w :=
  (r_any x n w hn hn2).mono fun _ _ ⟨a, b⟩ => ⟨a, b.symm⟩

set_option maxRecDepth 100000 in
set_option maxHeartbeats 1000000 in
theorem k_any (w : World) :
    Calls Try.prog 81 #[] w fun e w' => e = .returned (.agg (K.map (Value.int .u32)).toArray) ∧ Below w.heap.size w w' := by
  go_enter Try.func81, Try.ntmps81
  go_wp2_with (first | (refine wpList_build_to rfl 113 _ rfl (K.map (Value.int .u32)).toArray (by kernel_rfl) ?_) | (refine wpList_store_row rfl 113 _ _ rfl w.heap.size (K.map (Value.int .u32)).toArray rfl rfl 113 _ (heap_alloc_new _ _) (by kernel_rfl) (by kernel_rfl) (by kernel_rfl) ?_))
  refine bodyPost_ret (results_cell_row rfl _ _ w.heap.size 113 (K.map (Value.int .u32)).toArray (0, 0) _ rfl (setRow_heap _ _ _ _ _ _ (heap_alloc_new _ _)) Try.underlying113 rfl (by kernel_rfl)) rfl ⟨rfl, ?_⟩
  exact below_setRow ((Below.refl _ _).alloc (Nat.le_refl _) _) (Nat.le_refl _) _

/-- Sixty-four words, all nought. -/
def Z64 : List Int := List.replicate 64 0
theorem zero43 (w : World) : (zeroValue 113).run Try.prog w = .ok (.agg (Z64.map (Value.int .u32)).toArray) w := by kernel_rfl
def Z8 : List Int := List.replicate 8 0
theorem zero41 (w : World) : (zeroValue 111).run Try.prog w = .ok (.agg (Z8.map (Value.int .u32)).toArray) w := by kernel_rfl

theorem mk8' (T : TypeId) (w : World) (l : List Int) (h : l.length = 8) :
    IBlk .u32 T (w.alloc (.cells #[.int .u32 (nth l 0), .int .u32 (nth l 1), .int .u32 (nth l 2), .int .u32 (nth l 3), .int .u32 (nth l 4), .int .u32 (nth l 5), .int .u32 (nth l 6), .int .u32 (nth l 7)] T)) w.heap.size l := by
  have := VBlk.mk w (l.map (Value.int .u32)) T
  match l, h with
  | [a, b, c, d, e, f, g, i], _ => exact this

set_option maxRecDepth 100000 in
set_option maxHeartbeats 2000000 in
theorem block_any (bb ob n cap bk : Nat) (st by_ kk : List Int) (T' : TypeId) (w : World) (hn : 64 ≤ n) (hn2 : n ≤ 9223372036854775807)
    (hbb : bb < w.heap.size) (hby : Row .u8 w bb ob by_) (hkk : IBlk .u32 T' w bk kk) (hl1 : st.length = 8) (hl2 : 64 ≤ by_.length) (hl3 : kk.length = 64) :
    Calls Try.prog 82 #[.agg (st.map (Value.int .u32)).toArray, .slice (some ⟨bb, ob, none⟩) n cap, .pointer (some ⟨bk, 0, none⟩)] w
      fun e w' => e = .returned (.agg ((compress kk by_ st).map (Value.int .u32)).toArray) ∧ Below w.heap.size w w' := by
  have hbk := hkk.lt
  have hz43 := zero43
  have hz41 := zero41
  go_enter Try.func82, Try.ntmps82
  go_wp2
  clear hz43 hz41
  obtain ⟨hA, hB, hC, hbel, hsz⟩ := three_alloc w (.cells (st.map (Value.int .u32)).toArray 111) (.cells (Z8.map (Value.int .u32)).toArray 111) (.cells (Z64.map (Value.int .u32)).toArray 113)
  generalize World.alloc _ _ = w0 at hA hB hC hbel hsz ⊢
  have hS : IBlk .u32 111 w0 w.heap.size st := hA
  have hR : IBlk .u32 111 w0 (w.heap.size + 1) Z8 := hB
  have hW : IBlk .u32 113 w0 (w.heap.size + 1 + 1) (load by_ 0) := hC
  clear hA hB hC
  go_loopw [8] (fun c wr => ∃ i : Nat, i ≤ 16 ∧ c = .int .i64 i ∧ IBlk .u32 113 wr (w.heap.size + 1 + 1) (load by_ i) ∧ Keep (fun k => k ≠ w.heap.size + 1 + 1) w0 wr)
    (fun c _ => 16 - (intOf c).toNat)
  case atStart => exact ⟨0, by omega, rfl, hW, Keep.refl _ _⟩
  case round =>
    clear hW
    obtain ⟨i, hi, rfl, hWr, hKr⟩ := hrel
    have hlw := load_length by_ i
    by_cases h16 : i < 16
    · have hrow : Row .u8 wr bb ob by_ := (hby.below hbel hbb).keep hKr (by omega)
      have c0 := hWr.cell i (by omega)
      have f0 := hWr.free i
      have a0 := hrow.at (4 * i) (by omega)
      have a1 := hrow.at' (4 * i + 1) (ob + (4 * i + 1)) (by omega) (by omega)
      have a2 := hrow.at' (4 * i + 2) (ob + (4 * i + 2)) (by omega) (by omega)
      have a3 := hrow.at' (4 * i + 3) (ob + (4 * i + 3)) (by omega) (by omega)
      have b0 : 4 * (i : Int) < n := by omega
      have b1 : 4 * (i : Int) + 1 < n := by omega
      have b2 : 4 * (i : Int) + 2 < n := by omega
      have b3 : 4 * (i : Int) + 3 < n := by omega
      go_wp2_with fail
      go_region
      go_wp2
      go_roundw
      case rel => exact ⟨i + 1, by omega, by go_num, hWr.set _ _, (hKr.setCell (fun h => h rfl) _).drewN 1⟩
      case measure => simp [intOf]; omega
    · have e16 : i = 16 := by omega
      rw [e16] at hWr
      clear e16 hlw
      have hi16 : decide ((i : Int) < 16) = false := decide_eq_false (by omega)
      go_wp2
      go_loopw [9] (fun c wr => ∃ i : Nat, i ≤ 48 ∧ c = .int .i64 (16 + (i : Int)) ∧ IBlk .u32 113 wr (w.heap.size + 1 + 1) (sched (load by_ 16) i) ∧ Keep (fun k => k ≠ w.heap.size + 1 + 1) w0 wr)
        (fun c _ => 64 - (intOf c).toNat)
      case atStart => exact ⟨0, by omega, rfl, hWr, hKr⟩
      case round =>
        clear hWr hKr
        obtain ⟨i, hi2, rfl, hWr, hKr⟩ := hrel
        have hlw : (sched (load by_ 16) i).length = 64 := (sched_length (load by_ 16) i).trans (load_length by_ 16)
        by_cases h48 : i < 48
        · have c0 := hWr.cell (16 + i) (by omega)
          have c1 := hWr.cell' (16 + i - 15) (i + 1) (by omega) (by omega)
          have c2 := hWr.cell' (16 + i - 2) (i + 14) (by omega) (by omega)
          have c3 := hWr.cell i (by omega)
          have c4 := hWr.cell' (16 + i - 7) (i + 9) (by omega) (by omega)
          have f0 := hWr.free (16 + i)
          go_wp2_with fail
          refine wp_region_still_tail 29 (by kernel_rfl) (by kernel_rfl) ?_
          simp only [List.take_succ_cons, List.take_zero, List.drop_succ_cons, List.drop_zero]
          rw [show ({ heap := wr.heap, tape := wr.tape, drawn := wr.drawn + 1, os := wr.os, output := wr.output } : World) = wr.drew from rfl]
          have g0 : (i : Int) < 64 := by omega
          have g9 : (i : Int) + 9 < 64 := by omega
          have g1 : (16 + (i : Int)) < 64 := by omega
          have g16 : 0 ≤ (16 + (i : Int)) := by omega
          have gt : (16 + (i : Int)).toNat = 16 + i := by omega
          have e1 : IntKind.i64.wrap (16 + (i : Int) - 16) = (i : Int) := (IntWalk.i64_in _ (by omega)).trans (by omega)
          have e2 : IntKind.i64.wrap (16 + (i : Int) - 7) = (i : Int) + 9 := (IntWalk.i64_in _ (by omega)).trans (by omega)
          have p9 : 0 ≤ (i : Int) + 9 := by omega
          have t9 : ((i : Int) + 9).toNat = i + 9 := by omega
          have c9 := hWr.cell (i + 9) (by omega)
          repeat (first | still_step | still_call (r_same _ _ _ (by decide) (by decide)))
          clear e1 e2 gt
          refine wpStill_nil ?_
          go_wp2
          go_roundw
          case rel => exact ⟨i + 1, by omega, by go_num, hWr.set _ _, (hKr.setCell (fun h => h rfl) _).drewN 1⟩
          case measure => simp [intOf]; omega
        · have e48 : i = 48 := by omega
          rw [e48] at hWr hlw
          clear e48
          have hd48 : decide (16 + (i : Int) < 64) = false := decide_eq_false (by omega)
          have hSr := hS.keep hKr (by omega)
          have hRr := hR.keep hKr (by omega)
          have hkr : IBlk .u32 T' wr bk kk := (hkk.below hbel hbk).keep hKr (by omega)
          have hbelr : Below w.heap.size w wr := hbel.trans (hKr.mono (fun k (hk : k < w.heap.size) => by omega)).below
          have hBz : w.heap.size + 1 + 1 < wr.heap.size := hWr.lt
          have d0 := hSr.cell 0 (by omega)
          have d1 := hSr.cell 1 (by omega)
          have d2 := hSr.cell 2 (by omega)
          have d3 := hSr.cell 3 (by omega)
          have d4 := hSr.cell 4 (by omega)
          have d5 := hSr.cell 5 (by omega)
          have d6 := hSr.cell 6 (by omega)
          have d7 := hSr.cell 7 (by omega)
          go_wp2
          have hV := mk8' 111 wr st hl1
          have hK2 : Keep (fun k => k < wr.heap.size) wr _ := Keep.of_below ((Below.refl wr.heap.size wr).alloc (Nat.le_refl _) (.cells #[.int .u32 (nth st 0), .int .u32 (nth st 1), .int .u32 (nth st 2), .int .u32 (nth st 3), .int .u32 (nth st 4), .int .u32 (nth st 5), .int .u32 (nth st 6), .int .u32 (nth st 7)] 111))
          generalize World.alloc _ _ = w2 at hV hK2 ⊢
          clear d0 d1 d2 d3 d4 d5 d6 d7 hS hR hbel
          have hS2 := hSr.keep hK2 hSr.lt
          have hR2 := hRr.keep hK2 hRr.lt
          have hk2 := hkr.keep hK2 hkr.lt
          have hW2 := hWr.keep hK2 hWr.lt
          have hbel2 : Below w.heap.size w w2 := hbelr.trans (hK2.mono (fun k (hk : k < w.heap.size) => by omega)).below
          clear hSr hRr hkr hWr hbelr hK2 hKr
          generalize wr.heap.size = Bv at hV hBz ⊢
          obtain ⟨W, hWW⟩ : ∃ W, W = sched (load by_ 16) 48 := ⟨_, rfl⟩
          rw [← hWW] at hW2 hlw
          have HW := Hid2.mk hWW
          clear hWW
          go_loopw [13] (fun c wr => ∃ i : Nat, i ≤ 64 ∧ c = .int .i64 i ∧ IBlk .u32 111 wr Bv (rounds kk W st i) ∧ Keep (fun k => k ≠ Bv) w2 wr)
            (fun c _ => 64 - (intOf c).toNat)
          case atStart => exact ⟨0, by omega, rfl, hV, Keep.refl _ _⟩
          case round =>
            clear hV
            obtain ⟨r, hr, rfl, hVr, hKr⟩ := hrel
            have hlv := rounds_length kk W st r hl1
            obtain ⟨v, hvv⟩ : ∃ v, v = rounds kk W st r := ⟨_, rfl⟩
            rw [← hvv] at hVr hlv
            have Hv := Hid2.mk hvv
            clear hvv
            by_cases hr64 : r < 64
            · have hkkr := hk2.keep hKr (by omega)
              have hWr := hW2.keep hKr (by omega)
              have d0 := hVr.cell 0 (by omega)
              have d1 := hVr.cell 1 (by omega)
              have d2 := hVr.cell 2 (by omega)
              have d3 := hVr.cell 3 (by omega)
              have d4 := hVr.cell 4 (by omega)
              have d5 := hVr.cell 5 (by omega)
              have d6 := hVr.cell 6 (by omega)
              have d7 := hVr.cell 7 (by omega)
              have f0 := hVr.free
              have k0 := hkkr.cell r (by omega)
              have w0 := hWr.cell r (by omega)
              go_wp2_with fail
              go_quiet (fail)
              go_wp2_with fail
              go_quiet ((go_at_call 86; exact quiet_add_left (r_any _ _ _ (by omega) (by omega))))
              go_wp2_with fail
              go_quiet ((go_at_call 86; exact quiet_add_left (r_any _ _ _ (by omega) (by omega))))
              go_wp2
              go_roundw
              case rel =>
                refine ⟨r + 1, by omega, by go_num, ?_, oth8 (hKr.drewN _) (fun h => h rfl) _ _ _ _ _ _ _ _⟩
                rw [rounds, ← Hv.out]
                exact set8 (hVr.drewN _) hlv _ _ _ _ _ _ _ _
              case measure => simp [intOf]; omega
            · have e64 : r = 64 := by omega
              have hd64 : decide ((r : Int) < 64) = false := decide_eq_false (by omega)
              have hVf : IBlk .u32 111 wr Bv (rounds kk W st 64) := by rw [← e64, ← Hv.out]; exact hVr
              have hSr := hS2.keep hKr (by omega)
              have hRr := hR2.keep hKr (by omega)
              have hbelr : Below w.heap.size w wr := hbel2.trans (hKr.mono (fun k (hk : k < w.heap.size) => by omega)).below
              have hl8 := rounds_length kk W st 64 hl1
              have hres : compress kk by_ st = addInto st (rounds kk W st 64) 8 := by rw [HW.out]; rfl
              have Hres := Hid2.mk hres
              obtain ⟨z, hz⟩ : ∃ z, z = rounds kk W st 64 := ⟨_, rfl⟩
              rw [← hz] at hVf hl8
              have Hz := Hid2.mk hz
              clear hz hres e64 hVr hlv Hv HW hKr hS2 hR2 hbel2 hW2 hk2 hlw
              go_wp2
              obtain ⟨w3, hw3⟩ : ∃ w3, w3 = wr := ⟨_, rfl⟩
              rw [← hw3] at hVf hSr hRr hbelr ⊢
              clear hw3
              go_loopw [18] (fun c wr => ∃ i : Nat, i ≤ 8 ∧ c = .int .i64 i ∧ IBlk .u32 111 wr w.heap.size (addInto st z i) ∧ Keep (fun k => k ≠ w.heap.size) w3 wr)
                (fun c _ => 8 - (intOf c).toNat)
              case atStart => exact ⟨0, by omega, rfl, hSr, Keep.refl _ _⟩
              case round =>
                clear hSr
                obtain ⟨q, hq, rfl, hSr, hKr⟩ := hrel
                have hls : (addInto st z q).length = 8 := (addInto_length st z q).trans hl1
                by_cases h8 : q < 8
                · have hVr := hVf.keep hKr (by omega)
                  have s0 := hSr.cell q (by omega)
                  have v0 := hVr.cell q (by omega)
                  have f0 := hSr.free q
                  go_wp2_with fail
                  go_region
                  go_wp2
                  go_roundw
                  case rel => exact ⟨q + 1, by omega, by go_num, hSr.set _ _, (hKr.setCell (fun h => h rfl) _).drewN 1⟩
                  case measure => simp [intOf]; omega
                · have e8 : q = 8 := by omega
                  have hd8 : decide ((q : Int) < 8) = false := decide_eq_false (by omega)
                  obtain ⟨hh, hhe⟩ : ∃ hh, hh = compress kk by_ st := ⟨_, rfl⟩
                  have hSf : IBlk .u32 111 wr w.heap.size hh := by rw [hhe, Hres.out, ← Hz.out, ← e8]; exact hSr
                  have hhl : hh.length = 8 := by rw [hhe, compress_length, hl1]
                  have Hhe := Hid2.mk hhe
                  have hRr2 := hRr.keep hKr (by omega)
                  have hbelf : Below w.heap.size w wr := hbelr.trans (hKr.mono (fun k (hk : k < w.heap.size) => by omega)).below
                  clear hhe e8 hSr hVf Hres Hz hls hRr hbelr hKr
                  have d0 := hSf.cell 0 (by omega)
                  have d1 := hSf.cell 1 (by omega)
                  have d2 := hSf.cell 2 (by omega)
                  have d3 := hSf.cell 3 (by omega)
                  have d4 := hSf.cell 4 (by omega)
                  have d5 := hSf.cell 5 (by omega)
                  have d6 := hSf.cell 6 (by omega)
                  have d7 := hSf.cell 7 (by omega)
                  have hg1 : wr.heap[w.heap.size + 1]? = some (.cells (Z8.map (Value.int .u32)).toArray 111 (0, 0)) := hRr2
                  have eq8 : (#[.int .u32 (nth hh 0), .int .u32 (nth hh 1), .int .u32 (nth hh 2), .int .u32 (nth hh 3), .int .u32 (nth hh 4), .int .u32 (nth hh 5), .int .u32 (nth hh 6), .int .u32 (nth hh 7)] : Array Value) = (hh.map (Value.int .u32)).toArray := by
                    conv => rhs; rw [eight hh hhl]
                    rfl
                  have hone : (#[.int .u32 (nth hh 0), .int .u32 (nth hh 1), .int .u32 (nth hh 2), .int .u32 (nth hh 3), .int .u32 (nth hh 4), .int .u32 (nth hh 5), .int .u32 (nth hh 6), .int .u32 (nth hh 7)] : Array Value).all (·.oneCell') = true := by rw [eq8]; simp [Value.oneCell']
                  have Hone := Hid2.mk hone
                  clear hone
                  have Eq8 := Hid2.mk eq8
                  have Hg1 := Hid2.mk hg1
                  clear eq8 hg1
                  go_wp2_with (refine wpList_store_row rfl 111 (.tmp 6) (.tmp 195) rfl (w.heap.size + 1) (#[.int .u32 (nth hh 0), .int .u32 (nth hh 1), .int .u32 (nth hh 2), .int .u32 (nth hh 3), .int .u32 (nth hh 4), .int .u32 (nth hh 5), .int .u32 (nth hh 6), .int .u32 (nth hh 7)]) rfl rfl 111 (Z8.map (Value.int .u32)).toArray Hg1.out (by kernel_rfl) rfl Hone.out ?_)
                  refine bodyPost_ret (results_cell_row rfl _ _ (w.heap.size + 1) 111 _ (0, 0) _ rfl (setRow_heap _ _ _ _ _ _ Hg1.out) Try.underlying111 rfl (by kernel_rfl)) rfl ⟨by rw [Eq8.out, Hhe.out], ?_⟩
                  exact below_setRow hbelf (by omega) _

end Dig
end Go.Proofs.Ytlamdhekjlnccaa

/- digest's reference: Sum. -/
namespace Go.Proofs.Ytlamdhekjlnccaa
open Go.RowKit
namespace Dig

theorem elemBytes : Elem Try.prog 29 5 1 := Elem.mk' (k := .u8) (x := 0) Try.underlying29 (by kernel_rfl)

/-- n noughts behind a list. -/
def zs (n : Nat) : List Int := List.replicate n 0
/-- The length in digits, its i first bytes. -/
def lenB (n : Nat) : Nat → List Int
  | 0 => []
  | i + 1 => lenB n i ++ [(n : Int) * 8 / 2 ^ (8 * (7 - i)) % 256]
theorem lenB_length (n i : Nat) : (lenB n i).length = i := by
  induction i with
  | zero => rfl
  | succ i ih => simp [lenB, ih]

def Z32 : List Int := List.replicate 32 0
theorem zero25 (w : World) : (zeroValue 23).run Try.prog w = .ok (.agg (Z32.map (Value.int .u8)).toArray) w := by kernel_rfl

/-- How many noughts are laid behind n bytes and the mark. -/
def padN (n : Nat) : Nat := (119 - n % 64) % 64
theorem padN_stop (n z : Nat) (hz : z ≤ padN n) : ((n + 1 + z) % 64 = 56) ↔ z = padN n := by unfold padN at *; omega
/-- The padded message. -/
def padded (l : List Int) : List Int := l ++ [128] ++ zs (padN l.length) ++ lenB l.length 8
/-- The words as bytes, n bytes laid. -/
def outR (st : List Int) : Nat → List Int
  | 0 => Z32
  | i + 1 => (outR st i).set i (nth st (i / 4) / 2 ^ (24 - 8 * (i % 4)) % 256)
theorem outR_length (st : List Int) (i : Nat) : (outR st i).length = 32 := by
  induction i with
  | zero => rfl
  | succ i ih => simp [outR, ih]
/-- The digest, as the reference reckons it. -/
def refL (l : List Int) : List Int := outR (absorb (padded l) H0 ((padded l).length / 64)) 32

theorem buf_open {k : IntKind} {e : TypeId} {w : World} {base n c : Nat} {sp : Option Addr} {l : List Int} (h : Buf k e w base (.slice sp n c) l) (h0 : 0 < l.length) :
    ∃ g, sp = some ⟨g, 0, none⟩ ∧ n = l.length ∧ base ≤ g ∧ g < w.heap.size ∧ l.length ≤ c ∧ c ≤ 9223372036854775807 ∧ Row k w g 0 l := by
  rcases h.block with ⟨e1, e2⟩ | ⟨g, cap, rest, e1, hg, h1, h2, hb, -⟩
  · rw [e2] at h0; simp at h0
  · injection e1 with e1 e2 e3
    subst e1 e2 e3
    exact ⟨g, rfl, rfl, hg, hb.lt, h1, by unfold maxLen at h2; exact h2, h.row⟩
theorem keep_setRow {K : Nat → Prop} {a w : World} (h : Keep K a w) {g : Nat} (hg : ¬ K g) (cs : Array Value) : Keep K a (w.setRow g cs) :=
  h.trans ⟨rfl, rfl, rfl, by simp, fun k hk => setRow_other w g k cs (fun e => hg (e ▸ hk))⟩
theorem one_alloc {w w1 : World} {A : Obj} (hb : Below (w.alloc A).heap.size (w.alloc A) w1) :
    w1.heap[w.heap.size]? = some A ∧ Below w.heap.size w w1 ∧ w.heap.size + 1 ≤ w1.heap.size := by
  have hs : (w.alloc A).heap.size = w.heap.size + 1 := by simp
  refine ⟨?_, ?_, ?_⟩
  · rw [hb.block _ (by rw [hs]; omega), heap_alloc_new]
  · exact ((Below.refl _ _).alloc (Nat.le_refl _) _).trans (hb.mono (by rw [hs]; omega))
  · rw [← hs]; exact hb.size

theorem block_any8 (bb ob n cap bk : Nat) (st by_ kk : List Int) (T' : TypeId) (w : World) (hn : 64 ≤ n) (hn2 : n ≤ 9223372036854775807)
    (hbb : bb < w.heap.size) (hby : Row .u8 w bb ob by_) (hkk : IBlk .u32 T' w bk kk) (hl1 : st.length = 8) (hl2 : 64 ≤ by_.length) (hl3 : kk.length = 64) :
    Calls Try.prog 82 #[.agg #[.int .u32 (nth st 0), .int .u32 (nth st 1), .int .u32 (nth st 2), .int .u32 (nth st 3), .int .u32 (nth st 4), .int .u32 (nth st 5), .int .u32 (nth st 6), .int .u32 (nth st 7)], .slice (some ⟨bb, ob, none⟩) n cap, .pointer (some ⟨bk, 0, none⟩)] w
      fun e w' => e = .returned (.agg ((compress kk by_ st).map (Value.int .u32)).toArray) ∧ Below w.heap.size w w' := by
  have e : (#[.int .u32 (nth st 0), .int .u32 (nth st 1), .int .u32 (nth st 2), .int .u32 (nth st 3), .int .u32 (nth st 4), .int .u32 (nth st 5), .int .u32 (nth st 6), .int .u32 (nth st 7)] : Array Value) = (st.map (Value.int .u32)).toArray := by
    conv => rhs; rw [eight st hl1]
    rfl
  rw [e]
  exact block_any bb ob n cap bk st by_ kk T' w hn hn2 hbb hby hkk hl1 hl2 hl3

set_option maxRecDepth 100000 in
set_option maxHeartbeats 2000000 in
theorem refSum_any (v : Value) (l : List Int) (w : World) (hv : Sl .u8 w v l) (hn : l.length ≤ 35184372088832) :
    Calls Try.prog 72 #[v] w fun e w' => e = .returned (.agg ((refL l).map (Value.int .u8)).toArray) ∧ Below w.heap.size w w' := by
  have hv2 := hv
  obtain ⟨sp, cap, rfl, -, -, -, -⟩ := hv2
  have hz25 := zero25
  have hE0 : Buf .u8 5 ((w.alloc (.cells (Z32.map (Value.int .u8)).toArray 23)).alloc (.cells #[] 5)) (w.heap.size + 1) (.slice (some ⟨w.heap.size + 1, 0, none⟩) 0 0) [] := by
    have := Buf.empty (k := .u8) (e := 5) (w := w.alloc (.cells (Z32.map (Value.int .u8)).toArray 23)) (base := w.heap.size + 1) (by simp)
    simpa using this
  have hBe : Below w.heap.size w ((w.alloc (.cells (Z32.map (Value.int .u8)).toArray 23)).alloc (.cells #[] 5)) := ((Below.refl _ w).alloc (Nat.le_refl _) _).alloc (by simp) _
  have hSe := hv.of_below hBe
  have hHe : IBlk .u8 23 ((w.alloc (.cells (Z32.map (Value.int .u8)).toArray 23)).alloc (.cells #[] 5)) w.heap.size Z32 := IBlk.alloc (VBlk.mk w _ _) _
  have hze : ((w.alloc (.cells (Z32.map (Value.int .u8)).toArray 23)).alloc (.cells #[] 5)).heap.size = w.heap.size + 2 := by simp
  obtain ⟨W0, hW0⟩ : ∃ W0, W0 = ((w.alloc (.cells (Z32.map (Value.int .u8)).toArray 23)).alloc (.cells #[] 5)) := ⟨_, rfl⟩
  have hE1 := hE0
  rw [← hW0] at hHe hBe hze hE0 hSe
  have HE1 := Hid2.mk hE1
  have HW0 := Hid2.mk hW0
  clear hE1 hW0
  go_enter Try.func72, Try.ntmps72
  go_wp2_with (refine wpList_app rfl (.tmp 11) (.tmp 12) 29 rfl elemBytes (w.heap.size + 1) _ [] rfl HE1.out _ l rfl (by rw [← HW0.out]; exact hSe) l.length ?h1 ?h2 ?h3 ?h4 ?h5)
  case h1 => simp
  case h2 => unfold maxLen; omega
  case h3 => omega
  case h4 => simp
  case h5 =>
    intro sp1 c1 w1 hb1 hk1
    try rw [List.nil_append] at hb1
    rw [← HW0.out] at hk1
    have hs1 := hk1.size
    go_wp2_with (refine wpList_app rfl (.tmp 13) (.tmp 14) 29 rfl elemBytes (w.heap.size + 1) _ l rfl (hb1.alloc _) _ [128] rfl (Sl.one .u8 w1 128 5) (l.length + 1) ?h1 ?h2 ?h3 ?h4 ?h5)
    case h1 => simp
    case h2 => unfold maxLen; omega
    case h3 => omega
    case h4 => simp; omega
    case h5 =>
      intro sp2 c2 w2 hb2 hk2
      have hk02 : Keep (fun k => k < w.heap.size + 1) W0 w2 := (hk1.trans ((Keep.refl _ w1).alloc (fun k (hk : k < w.heap.size + 1) => by omega) _)).trans hk2
      have hbz : 0 ≤ padN l.length := Nat.zero_le _
      have hpz : padN l.length ≤ 63 := by unfold padN; omega
      clear hb1 hk1 hk2 hs1
      have hb20 : Buf .u8 5 w2 (w.heap.size + 1) (.slice sp2 (l.length + 1) c2) (l ++ [128] ++ zs 0) := by simpa [zs] using hb2
      clear hb2
      obtain ⟨M0, hM0⟩ : ∃ M0 : List Int, M0 = l ++ [128] := ⟨_, rfl⟩
      have hM0l : M0.length = l.length + 1 := by rw [hM0]; simp
      rw [← hM0] at hb20
      have HM0 := Hid2.mk hM0
      have HM0l := Hid2.mk hM0l
      clear hM0 hM0l
      go_wp2_with fail
      go_loopw [3] (fun v wr => ∃ z n sp c, z ≤ padN l.length ∧ n = l.length + 1 + z ∧ v = .slice sp n c ∧ Buf .u8 5 wr (w.heap.size + 1) (.slice sp n c) (M0 ++ zs z) ∧ Keep (fun k => k < w.heap.size + 1) W0 wr)
        (fun v _ => l.length + 65 - lenOf v)
      case atStart => exact ⟨0, _, _, _, by omega, rfl, rfl, hb20, hk02⟩
      case round =>
        clear hb20 hk02
        obtain ⟨z, n, sp3, c3, hz, hn1, rfl, hbr, hkr⟩ := hrel
        have Hn1 := Hid2.mk hn1
        have hnb : n ≤ l.length + 64 := by omega
        have hsr := hkr.size
        by_cases hzp : z = padN l.length
        · have ht : (((n : Int) % 64) != 56) = false := by
            have := (padN_stop l.length z hz).2 hzp
            rw [← hn1] at this
            rw [bne_eq_false_iff_eq]; omega
          have hn2 : n = l.length + 1 + padN l.length := by rw [hn1, hzp]
          have hbr2 : Buf .u8 5 wr (w.heap.size + 1) (.slice sp3 n c3) (M0 ++ zs (padN l.length) ++ lenB l.length 0) := by
            rw [← hzp]; simpa [lenB] using hbr
          have Hn2 := Hid2.mk hn2
          have hMl : (M0 ++ zs (padN l.length)).length = n := by rw [List.length_append, HM0l.out, hn2]; simp [zs]
          clear hn1 hzp Hn1 hbr hn2
          obtain ⟨M1, hM1⟩ : ∃ M1 : List Int, M1 = M0 ++ zs (padN l.length) := ⟨_, rfl⟩
          rw [← hM1] at hbr2 hMl
          have HM1 := Hid2.mk hM1
          have HM1l := Hid2.mk hMl
          clear hM1 hMl
          go_wp2_with fail
          go_loopw [3, 5] (fun v i wr => ∃ j nn sp c, j ≤ 8 ∧ nn = n + j ∧ i = .int .i64 (7 - (j : Int)) ∧ v = .slice sp nn c ∧ Buf .u8 5 wr (w.heap.size + 1) (.slice sp nn c) (M1 ++ lenB l.length j) ∧ Keep (fun k => k < w.heap.size + 1) W0 wr)
            (fun _ i _ => (intOf i + 1).toNat)
          case atStart => exact ⟨0, n, sp3, c3, by omega, rfl, rfl, rfl, hbr2, hkr⟩
          case round =>
            clear hbr2 hkr hsr
            obtain ⟨j, nn, sp4, c4, hj, hnn, rfl, rfl, hbr, hkr⟩ := hrel
            have Hnn := Hid2.mk hnn
            have hnb2 : nn ≤ l.length + 72 := by omega
            have hsr := hkr.size
            by_cases hj8 : j < 8
            · clear hnn
              go_wp2_with (refine wpList_app rfl (.tmp 31) (.tmp 38) 29 rfl elemBytes (w.heap.size + 1) _ (M1 ++ lenB l.length j) rfl (hbr.alloc _) _ [(l.length : Int) * 8 / 2 ^ (8 * (7 - j)) % 256] rfl (Sl.one .u8 wr _ 5) (nn + 1) ?g1 ?g2 ?g3 ?g4 ?g5)
              case g1 => rw [List.length_append, HM1l.out, lenB_length, Hnn.out]; rfl
              case g2 => unfold maxLen; omega
              case g3 => omega
              case g4 => simp; omega
              case g5 =>
                intro sp5 c5 w5 hb5 hk5
                have hb6 : Buf .u8 5 w5 (w.heap.size + 1) (.slice sp5 (nn + 1) c5) (M1 ++ lenB l.length (j + 1)) := by
                  rw [lenB]; first | exact hb5 | (rw [← List.append_assoc]; exact hb5)
                have hk6 : Keep (fun k => k < w.heap.size + 1) W0 w5 := (hkr.trans ((Keep.refl _ wr).alloc (fun k (hk : k < w.heap.size + 1) => by omega) _)).trans hk5
                clear hb5 hk5 hbr hkr hsr
                go_wp2_with fail
                go_roundw
                case rel => exact ⟨j + 1, nn + 1, sp5, c5, by omega, by rw [Hnn.out]; rfl, by go_num, rfl, hb6, hk6⟩
                case measure => simp [intOf]; omega
            · have e8 : j = 8 := by omega
              have hdj : decide ((j : Int) ≤ 7) = false := decide_eq_false (by omega)
              rw [e8] at hbr
              clear hnn
              have hnn8 : nn = n + 8 := by rw [Hnn.out, e8]
              obtain ⟨M, hM⟩ : ∃ M : List Int, M = M1 ++ lenB l.length 8 := ⟨_, rfl⟩
              rw [← hM] at hbr
              have hpad : M = padded l := by rw [hM, HM1.out, HM0.out]; rfl
              have hMl : M.length = nn := by rw [hM, List.length_append, HM1l.out, lenB_length, hnn8]
              have hN64 : nn = 64 * (nn / 64) := by
                have := (padN_stop l.length (padN l.length) (Nat.le_refl _)).2 rfl
                have := Hn2.out
                omega
              obtain ⟨q, hq⟩ : ∃ q, q = nn / 64 := ⟨_, rfl⟩
              rw [← hq] at hN64
              rw [← hMl] at hbr
              obtain ⟨g, rfl, -, hgB, hgl, hc4, hc4', hrowM⟩ := buf_open hbr (by omega)
              have hHr := hHe.keep hkr (by omega)
              have hbelr : Below w.heap.size w wr := hBe.trans (hkr.mono (fun k (hk : k < w.heap.size) => by omega)).below
              have Hpad := Hid2.mk hpad
              have HMl := Hid2.mk hMl
              have HN64 := Hid2.mk hN64
              have Hq := Hid2.mk hq
              clear hM hMl hpad hN64 hq hnn8 e8 hbr hkr hsr HM0 HM1 hHe hBe hSe hE0 HE1 hv
              go_wp2_with fail
              refine (k_any _).mono ?_
              rintro e w6 ⟨rfl, hk6⟩
              obtain ⟨hSb, hb6, hz6⟩ := one_alloc hk6
              clear hk6
              have hz43 := zero43
              go_wp2_with (refine wpList_store_row rfl 113 (.tmp 7) (.tmp 41) rfl w6.heap.size (K.map (Value.int .u32)).toArray rfl rfl 113 _ (heap_alloc_new _ _) (by kernel_rfl) (by kernel_rfl) (by kernel_rfl) ?_)
              have hKb : IBlk .u32 113 _ w6.heap.size K := setRow_heap _ w6.heap.size _ (K.map (Value.int .u32)).toArray 113 (0, 0) (heap_alloc_new w6 (.cells (Z64.map (Value.int .u32)).toArray 113))
              have hkeep : Below w6.heap.size w6 ((w6.alloc (.cells (Z64.map (Value.int .u32)).toArray 113)).setRow w6.heap.size (K.map (Value.int .u32)).toArray) :=
                below_setRow ((Below.refl _ _).alloc (Nat.le_refl _) _) (Nat.le_refl _) _
              generalize World.setRow _ _ _ = w7 at hKb hkeep ⊢
              have hS7 : IBlk .u32 111 w7 wr.heap.size H0 := (hkeep.block wr.heap.size (by omega)).trans hSb
              have hM7 : Row .u8 w7 g 0 M := (hrowM.below hb6 hgl).below hkeep (by omega)
              have hH7 : IBlk .u8 23 w7 w.heap.size Z32 := (hHr.below hb6 hHr.lt).below hkeep (by have := hHr.lt; omega)
              have hbel7 : Below w.heap.size w w7 := hbelr.trans ((hb6.mono hbelr.size).trans (hkeep.mono (by have := hbelr.size; omega)))
              have hg7 : g < w7.heap.size := by have := hkeep.size; omega
              have hBSg : g < wr.heap.size := hgl
              have hBKl : wr.heap.size < w6.heap.size := by omega
              have hBKz : w6.heap.size < w7.heap.size := hKb.lt
              have hBw : w.heap.size < g := by omega
              clear hSb hkeep hrowM hHr hbelr hb6 hz6 hz43 hz25 hgl
              generalize w6.heap.size = BK at hKb hBKl hBKz ⊢
              generalize wr.heap.size = BS at hS7 hBSg hBKl ⊢
              have Hn := HMl.out
              have hq1 : nn ≤ 64 * q := by have := HN64.out; omega
              have hq2 : 64 * q ≤ nn := by have := HN64.out; omega
              rw [Hn] at hc4
              clear Hn
              go_loopw [8] (fun c wr => ∃ i : Nat, i ≤ q ∧ c = .int .i64 (64 * (i : Int)) ∧ IBlk .u32 111 wr BS (absorb M H0 i) ∧ Keep (fun k => k < w7.heap.size ∧ k ≠ BS) w7 wr) (fun c _ => 64 * q - (intOf c).toNat)
              case atStart => exact ⟨0, by omega, rfl, hS7, Keep.refl _ _⟩
              case round =>
                clear hS7
                obtain ⟨i, hi, rfl, hSr, hKr⟩ := hrel
                have hsl : (absorb M H0 i).length = 8 := absorb_length M H0 i
                have hMr := hM7.keep hKr ⟨hg7, by omega⟩
                have hKbr := hKb.keep hKr ⟨hBKz, by omega⟩
                by_cases hiq : i < q
                · have hrow := row_drop hMr (64 * i)
                  rw [Nat.zero_add] at hrow
                  have hdl : 64 ≤ (M.drop (64 * i)).length := by rw [List.length_drop, HMl.out]; omega
                  have b0 : 0 ≤ 64 * (i : Int) := by omega
                  have b1 : 64 * (i : Int) + 64 ≤ c4 := by omega
                  have hil : (64 * (i : Int)) < (nn : Int) := by omega
                  have d0 := hSr.cell 0 (by omega)
                  have d1 := hSr.cell 1 (by omega)
                  have d2 := hSr.cell 2 (by omega)
                  have d3 := hSr.cell 3 (by omega)
                  have d4 := hSr.cell 4 (by omega)
                  have d5 := hSr.cell 5 (by omega)
                  have d6 := hSr.cell 6 (by omega)
                  have d7 := hSr.cell 7 (by omega)
                  go_wp2_with fail
                  refine wp_region_still_tail 6 (by kernel_rfl) (by kernel_rfl) ?_
                  simp only [List.take_succ_cons, List.take_zero, List.drop_succ_cons, List.drop_zero]
                  rw [show ({ heap := wr.heap, tape := wr.tape, drawn := wr.drawn + 1, os := wr.os, output := wr.output } : World) = wr.drew from rfl]
                  have g1 : 64 * (i : Int) ≤ 64 * (i : Int) + 64 := by omega
                  have g2 : 0 ≤ 64 * (i : Int) + 64 := by omega
                  have t1 : (64 * (i : Int)).toNat = 64 * i := by omega
                  have t2 : (64 * (i : Int) + 64).toNat = 64 * i + 64 := by omega
                  have t3 : ¬ c4 = 64 * i := by omega
                  have e1 : IntKind.i64.wrap (64 * (i : Int) + 64) = 64 * (i : Int) + 64 := IntWalk.i64_in _ (by omega)
                  repeat still_step
                  clear e1 t1 t2 t3
                  try refine wpStill_nil ?_
                  have hMd : Row .u8 wr.drew g (64 * i) (M.drop (64 * i)) := hrow
                  have hKd : IBlk .u32 113 wr.drew BK K := hKbr
                  have hgd : g < wr.drew.heap.size := by have := hKr.size; show g < wr.heap.size; omega
                  go_wp2_with fail
                  refine (block_any8 g (64 * i) 64 (c4 - 64 * i) BK (absorb M H0 i) (M.drop (64 * i)) K 113 _ (Nat.le_refl _) (by omega) hgd hMd hKd hsl hdl rfl).mono ?_
                  rintro e w' ⟨rfl, hb'⟩
                  have hBSw : BS < wr.heap.size := hSr.lt
                  have hS' : IBlk .u32 111 w' BS (absorb M H0 i) := hSr.of_block (hb'.block BS hBSw)
                  have hgS : w'.heap[BS]? = some (.cells ((absorb M H0 i).map (Value.int .u32)).toArray 111 (0, 0)) := hS'
                  have hsz8 : (Try.prog.info? 111).map (·.size) = some ((compress K (M.drop (64 * i)) (absorb M H0 i)).map (Value.int .u32)).toArray.size := by
                    rw [List.size_toArray, List.length_map, compress_length, hsl]; kernel_rfl
                  have hsz9 : ((absorb M H0 i).map (Value.int .u32)).toArray.size = ((compress K (M.drop (64 * i)) (absorb M H0 i)).map (Value.int .u32)).toArray.size := by
                    rw [List.size_toArray, List.length_map, List.size_toArray, List.length_map, compress_length]
                  have hone : ((compress K (M.drop (64 * i)) (absorb M H0 i)).map (Value.int .u32)).toArray.all (·.oneCell') = true := by simp [Value.oneCell']
                  have HgS := Hid2.mk hgS
                  have Hsz8 := Hid2.mk hsz8
                  have Hsz9 := Hid2.mk hsz9
                  have Hone := Hid2.mk hone
                  have hKp : Keep (fun k => k < w7.heap.size ∧ k ≠ BS) w7 w' := hKr.trans (((Keep.refl _ wr).drewN 1).trans ((Keep.of_below hb').mono (fun k hk => by have := hKr.size; show k < wr.heap.size; omega)))
                  clear hgS hsz8 hsz9 hone hMd hKd hgd d0 d1 d2 d3 d4 d5 d6 d7 hb' hrow hMr hKbr hKr hSr
                  go_wp2_with (refine wpList_store_row rfl 111 (.tmp 6) (.tmp 54) rfl BS _ rfl rfl 111 _ HgS.out Hsz8.out Hsz9.out Hone.out ?_)
                  have hS2 : IBlk .u32 111 (w'.setRow BS ((compress K (M.drop (64 * i)) (absorb M H0 i)).map (Value.int .u32)).toArray) BS (absorb M H0 (i + 1)) := setRow_heap _ _ _ _ _ _ HgS.out
                  have hKp2 : Keep (fun k => k < w7.heap.size ∧ k ≠ BS) w7 (w'.setRow BS ((compress K (M.drop (64 * i)) (absorb M H0 i)).map (Value.int .u32)).toArray) := keep_setRow hKp (fun h => h.2 rfl) _
                  clear hKp HgS Hsz8 Hsz9 Hone hS'
                  go_wp2_with fail
                  go_roundw
                  case rel => exact ⟨i + 1, by omega, by go_num, hS2, hKp2⟩
                  case measure => simp [intOf]; omega
                · have eiq : i = q := by omega
                  have hil : decide ((64 * (i : Int)) < (nn : Int)) = false := decide_eq_false (by omega)
                  rw [eiq] at hSr
                  have hHr := hH7.keep hKr ⟨hH7.lt, by omega⟩
                  have hbelr : Below w.heap.size w wr := hbel7.trans (hKr.mono (fun k (hk : k < w.heap.size) => ⟨Nat.lt_of_lt_of_le hk hbel7.size, by omega⟩)).below
                  obtain ⟨st, hst⟩ : ∃ st, st = absorb M H0 q := ⟨_, rfl⟩
                  have hstl : st.length = 8 := by rw [hst]; exact absorb_length M H0 q
                  rw [← hst] at hSr
                  have hres : outR st 32 = refL l := by
                    have e1 : M.length / 64 = q := by rw [HMl.out, Hq.out]
                    rw [hst, ← e1, Hpad.out]; rfl
                  have Hres := Hid2.mk hres
                  clear hres hst hMr hKbr hKr hsl eiq hKb hM7 hH7 hbel7 Hpad
                  have hz25 := zero25
                  go_wp2_with fail
                  clear hz25
                  have hO := VBlk.mk wr (Z32.map (Value.int .u8)) 23
                  have hKo : Below wr.heap.size wr (wr.alloc (.cells (Z32.map (Value.int .u8)).toArray 23)) := (Below.refl _ _).alloc (Nat.le_refl _) _
                  generalize World.alloc _ _ = w8 at hO hKo ⊢
                  have hO8 : IBlk .u8 23 w8 wr.heap.size (outR st 0) := hO
                  have hS8 := hSr.below hKo hSr.lt
                  have hH8 := hHr.below hKo hHr.lt
                  have hbel8 : Below w.heap.size w w8 := hbelr.trans (hKo.mono hbelr.size)
                  have hBO : BS < wr.heap.size := hSr.lt
                  have hHO : w.heap.size < wr.heap.size := hHr.lt
                  clear hO hKo hSr hHr hbelr
                  generalize wr.heap.size = BO at hO8 hBO hHO ⊢
                  go_loopw [10] (fun c wr => ∃ i : Nat, i ≤ 32 ∧ c = .int .i64 i ∧ IBlk .u8 23 wr BO (outR st i) ∧ Keep (fun k => k ≠ BO) w8 wr) (fun c _ => 32 - (intOf c).toNat)
                  case atStart => exact ⟨0, by omega, rfl, hO8, Keep.refl _ _⟩
                  case round =>
                    clear hO8
                    obtain ⟨i, hi, rfl, hOr, hKr⟩ := hrel
                    have hol := outR_length st i
                    by_cases hi32 : i < 32
                    · have hSr := hS8.keep hKr (by omega)
                      have c0 := hSr.cell (i / 4) (by omega)
                      have c1 := hOr.cell i (by omega)
                      have f1 := hOr.free i
                      have b4 : (i : Int) / 4 < 8 := by omega
                      have b5 : (i : Int) % 4 ≤ 3 := by omega
                      have b6 : 0 ≤ (i : Int) % 4 := by omega
                      go_wp2_with fail
                      go_roundw
                      case rel => exact ⟨i + 1, by omega, by go_num, hOr.set _ _, hKr.setCell (fun h => h rfl) _⟩
                      case measure => simp [intOf]; omega
                    · have e9 : i = 32 := by omega
                      have hd32 : decide ((i : Int) < 32) = false := decide_eq_false (by omega)
                      rw [e9, Hres.out] at hOr
                      clear e9
                      obtain ⟨hh, hhe⟩ : ∃ hh, hh = refL l := ⟨_, rfl⟩
                      rw [← hhe] at hOr
                      have hhl : hh.length = 32 := by rw [hhe]; exact outR_length _ _
                      have Hhe := Hid2.mk hhe
                      have hHr := hH8.keep hKr (by omega)
                      have hbelf : Below w.heap.size w wr := hbel8.trans (hKr.mono (fun k (hk : k < w.heap.size) => by omega)).below
                      have hgO : wr.heap[BO]? = some (.cells (hh.map (Value.int .u8)).toArray 23 (0, 0)) := hOr
                      have hgH : wr.heap[w.heap.size]? = some (.cells (Z32.map (Value.int .u8)).toArray 23 (0, 0)) := hHr
                      have hi25 : (Try.prog.info? 23).map (·.size) = some (hh.map (Value.int .u8)).toArray.size := by
                        rw [List.size_toArray, List.length_map, hhl]; kernel_rfl
                      have hi26 : (Z32.map (Value.int .u8)).toArray.size = (hh.map (Value.int .u8)).toArray.size := by
                        rw [List.size_toArray, List.length_map, List.size_toArray, List.length_map, hhl]; rfl
                      have hone : (hh.map (Value.int .u8)).toArray.all (·.oneCell') = true := by simp [Value.oneCell']
                      have HgO := Hid2.mk hgO
                      have HgH := Hid2.mk hgH
                      have Hi25 := Hid2.mk hi25
                      have Hi26 := Hid2.mk hi26
                      have Hone := Hid2.mk hone
                      clear hhe hOr hHr hH8 hS8 hbel8 hKr hgO hgH hi25 hi26 hone hol hhl Hres
                      go_wp2_with (first | (refine wpList_load_row rfl 23 (.tmp 9) rfl BO rfl 23 (hh.map (Value.int .u8)).toArray (0, 0) _ HgO.out Try.underlying23 rfl Hi25.out ?_) | (refine wpList_store_row rfl 23 (.tmp 2) (.tmp 72) rfl w.heap.size (hh.map (Value.int .u8)).toArray rfl rfl 23 (Z32.map (Value.int .u8)).toArray HgH.out Hi25.out Hi26.out Hone.out ?_))
                      refine bodyPost_ret (results_cell_row rfl _ _ w.heap.size 23 (hh.map (Value.int .u8)).toArray (0, 0) _ rfl (setRow_heap _ _ _ _ _ _ HgH.out) Try.underlying23 rfl Hi25.out) rfl ⟨by rw [Hhe.out], ?_⟩
                      exact below_setRow hbelf (Nat.le_refl _) _
        · have ht : (((n : Int) % 64) != 56) = true := by
            have : ¬ n % 64 = 56 := fun h => hzp ((padN_stop l.length z hz).1 (by rw [← hn1]; exact h))
            rw [bne_iff_ne]; omega
          have hzlt : z < padN l.length := by omega
          have hMl : (M0 ++ zs z).length = n := by rw [List.length_append, HM0l.out, hn1]; simp [zs]
          have HMl := Hid2.mk hMl
          clear hMl hn1 hzp
          go_wp2_with (refine wpList_app rfl (.tmp 20) (.tmp 21) 29 rfl elemBytes (w.heap.size + 1) _ (M0 ++ zs z) rfl (hbr.alloc _) _ [0] rfl (Sl.one .u8 wr 0 5) (n + 1) ?g1 ?g2 ?g3 ?g4 ?g5)
          case g1 => rw [HMl.out]; rfl
          case g2 => unfold maxLen; omega
          case g3 => omega
          case g4 => simp; omega
          case g5 =>
            intro sp5 c5 w5 hb5 hk5
            have hb6 : Buf .u8 5 w5 (w.heap.size + 1) (.slice sp5 (n + 1) c5) (M0 ++ zs (z + 1)) := by
              have e : M0 ++ zs (z + 1) = M0 ++ (zs z ++ [0]) := by unfold zs; rw [List.replicate_succ']
              rw [e]; first | exact hb5 | (rw [← List.append_assoc]; exact hb5)
            have hk6 : Keep (fun k => k < w.heap.size + 1) W0 w5 := (hkr.trans ((Keep.refl _ wr).alloc (fun k (hk : k < w.heap.size + 1) => by omega) _)).trans hk5
            clear hb5 hk5 hbr hkr hsr
            go_wp2_with fail
            go_roundw
            case rel => exact ⟨z + 1, n + 1, sp5, c5, by omega, by rw [Hn1.out]; rfl, rfl, hb6, hk6⟩
            case measure => simp [lenOf]; omega

end Dig
end Go.Proofs.Ytlamdhekjlnccaa

/- digest: what the program reckons and what the reference reckons are one. Plain lists: no walk. -/
namespace Go.Proofs.Ytlamdhekjlnccaa
namespace Dig

theorem ext_nth (a b : List Int) (hl : a.length = b.length) (h : ∀ i, i < a.length → nth a i = nth b i) : a = b := by
  apply List.ext_getElem hl
  intro i h1 h2
  have := h i h1
  simpa [nth, h1, h2] using this
theorem nth_outR (st : List Int) (n i : Nat) (hi : i < n) (hn : n ≤ 32) : nth (outR st n) i = nth st (i / 4) / 2 ^ (24 - 8 * (i % 4)) % 256 := by
  induction n with
  | zero => omega
  | succ n ih =>
    rw [outR]
    by_cases h : i = n
    · subst h; exact nth_set_eq _ _ _ (by rw [outR_length]; omega)
    · rw [nth_set_ne _ _ _ _ h]; exact ih (by omega) (by omega)
theorem nth_outH (st : List Int) (n i : Nat) (hi : i < 4 * n) (hn : n ≤ 8) : nth (outH st n) i = nth st (i / 4) / 2 ^ (24 - 8 * (i % 4)) % 256 := by
  induction n with
  | zero => omega
  | succ n ih =>
    rw [outH]
    have hl := outH_length st n
    by_cases h3 : i = 4 * n + 3
    · subst h3
      rw [nth_set_eq _ _ _ (by simp [hl]; omega), show (4 * n + 3) / 4 = n from by omega, show (4 * n + 3) % 4 = 3 from by omega]
      simp
    · rw [nth_set_ne _ _ _ _ h3]
      by_cases h2 : i = 4 * n + 2
      · subst h2
        rw [nth_set_eq _ _ _ (by simp [hl]; omega), show (4 * n + 2) / 4 = n from by omega, show (4 * n + 2) % 4 = 2 from by omega]
        rfl
      · rw [nth_set_ne _ _ _ _ h2]
        by_cases h1 : i = 4 * n + 1
        · subst h1
          rw [nth_set_eq _ _ _ (by simp [hl]; omega), show (4 * n + 1) / 4 = n from by omega, show (4 * n + 1) % 4 = 1 from by omega]
          rfl
        · rw [nth_set_ne _ _ _ _ h1]
          by_cases h0 : i = 4 * n
          · subst h0
            rw [nth_set_eq _ _ _ (by simp [hl]; omega), show (4 * n) / 4 = n from by omega, show (4 * n) % 4 = 0 from by omega]
            rfl
          · rw [nth_set_ne _ _ _ _ h0]; exact ih (by omega) (by omega)
theorem outR_eq (st : List Int) : outR st 32 = outH st 8 :=
  ext_nth _ _ (by rw [outR_length, outH_length]) (fun i hi => by
    rw [outR_length] at hi
    rw [nth_outR st 32 i hi (Nat.le_refl _), nth_outH st 8 i (by omega) (Nat.le_refl _)])

theorem nth_left (a b : List Int) (i : Nat) (h : i < a.length) : nth (a ++ b) i = nth a i := by
  simp [nth, List.getElem?_append_left h]
theorem nth_right (a b : List Int) (i : Nat) (h : a.length ≤ i) : nth (a ++ b) i = nth b (i - a.length) := by
  simp [nth, List.getElem?_append_right h]
theorem nth_drop (a : List Int) (n i : Nat) : nth (a.drop n) i = nth a (n + i) := by simp [nth]
theorem nth_zs (n i : Nat) : nth (zs n) i = 0 := by
  unfold nth zs
  by_cases h : i < n
  · simp [h]
  · simp [List.getElem?_eq_none (show (List.replicate n (0 : Int)).length ≤ i by simp; omega)]

theorem load_congr (a b : List Int) (n : Nat) (hn : n ≤ 16) (h : ∀ i, i < 64 → nth a i = nth b i) : load a n = load b n := by
  induction n with
  | zero => rfl
  | succ n ih =>
    rw [load, load, ih (by omega)]
    unfold wordAt
    rw [h _ (by omega), h _ (by omega), h _ (by omega), h _ (by omega)]
theorem compress_congr (kk a b st : List Int) (h : ∀ i, i < 64 → nth a i = nth b i) : compress kk a st = compress kk b st := by
  unfold compress; rw [load_congr a b 16 (Nat.le_refl _) h]
theorem absorb_congr (a b st : List Int) (e : Nat) (h : ∀ i, i < 64 * e → nth a i = nth b i) : absorb a st e = absorb b st e := by
  induction e with
  | zero => rfl
  | succ e ih =>
    rw [absorb, absorb, ih (fun i hi => h i (by omega))]
    exact compress_congr _ _ _ _ (fun i hi => by rw [nth_drop, nth_drop]; exact h _ (by omega))
theorem absorb_add (a st : List Int) (j e : Nat) : absorb a st (j + e) = absorb (a.drop (64 * j)) (absorb a st j) e := by
  induction e with
  | zero => rfl
  | succ e ih =>
    rw [← Nat.add_assoc, absorb, absorb, ih, List.drop_drop, Nat.mul_add]

theorem nth_lenB (n i t : Nat) (h : t < i) : nth (lenB n i) t = (n : Int) * 8 / 2 ^ (8 * (7 - t)) % 256 := by
  induction i with
  | zero => omega
  | succ i ih =>
    rw [lenB]
    by_cases ht : t < i
    · rw [nth_left _ _ _ (by rw [lenB_length]; exact ht)]; exact ih ht
    · have : t = i := by omega
      subst this
      rw [nth_right _ _ _ (by rw [lenB_length]; exact Nat.le_refl _), lenB_length, Nat.sub_self]
      rfl
theorem nth_putLen (p : List Int) (E n i x : Nat) (hE : E ≤ p.length) (hi : i ≤ E) :
    nth (putLen p E n i) x = if E - i ≤ x ∧ x < E then (n : Int) * 8 / 2 ^ (8 * (E - 1 - x)) % 256 else nth p x := by
  induction i with
  | zero => rw [if_neg (by omega)]; rfl
  | succ i ih =>
    rw [putLen]
    by_cases hx : x = E - 1 - i
    · rw [if_pos (by omega), hx, nth_set_eq _ _ _ (by rw [putLen_length]; omega)]
      rw [show E - 1 - (E - 1 - i) = i from by omega]
    · rw [nth_set_ne _ _ _ _ hx, ih (by omega)]
      by_cases h1 : E - i ≤ x ∧ x < E
      · rw [if_pos h1, if_pos (by omega)]
      · rw [if_neg h1, if_neg (by omega)]

theorem zs_length (n : Nat) : (zs n).length = n := by simp [zs]
theorem padded_length (l : List Int) : (padded l).length = l.length + 1 + padN l.length + 8 := by
  unfold padded; rw [List.length_append, List.length_append, List.length_append, lenB_length, zs_length]; rfl
theorem padded_lo (l : List Int) (y : Nat) (h : y < l.length) : nth (padded l) y = nth l y := by
  unfold padded; rw [List.append_assoc, List.append_assoc, nth_left _ _ _ h]
theorem padded_at (l : List Int) (y : Nat) (h : y = l.length) : nth (padded l) y = 128 := by
  unfold padded; rw [List.append_assoc, List.append_assoc, nth_right _ _ _ (by omega), h, Nat.sub_self]; rfl
theorem padded_mid (l : List Int) (y : Nat) (h : l.length < y) (h2 : y < l.length + 1 + padN l.length) : nth (padded l) y = 0 := by
  unfold padded
  have h1 : (l ++ [128]).length = l.length + 1 := by simp
  rw [List.append_assoc (l ++ [128]), nth_right _ _ _ (by omega), nth_left _ _ _ (by rw [zs_length]; omega), nth_zs]
theorem padded_hi (l : List Int) (y t : Nat) (h : y = l.length + 1 + padN l.length + t) (ht : t < 8) : nth (padded l) y = (l.length : Int) * 8 / 2 ^ (8 * (7 - t)) % 256 := by
  unfold padded
  have h1 : (l ++ [128] ++ zs (padN l.length)).length = l.length + 1 + padN l.length := by rw [List.length_append, zs_length]; simp
  rw [nth_right _ _ _ (by omega), h1, h, Nat.add_sub_cancel_left, nth_lenB _ _ _ ht]

theorem refL_eq (l : List Int) : refL l = sumL l := by
  have hrl : (l.drop (64 * (l.length / 64))).length = l.length % 64 := by rw [List.length_drop]; omega
  have hpl := padded_length l
  have hpre : ∀ i, i ≤ l.length / 64 → absorb (padded l) H0 i = absorb l H0 i := fun i hi =>
    absorb_congr _ _ _ _ (fun x hx => padded_lo l x (by omega))
  have key : ∀ e, (padded l).length / 64 = l.length / 64 + e → e ≤ 2 → l.length % 64 + 1 + padN l.length + 8 = 64 * e →
      refL l = outH (absorb (putLen ((l.drop (64 * (l.length / 64)) ++ List.replicate (128 - l.length % 64) 0).set (l.length % 64) 128) (64 * e) l.length 8) (absorb l H0 (l.length / 64)) e) 8 := by
    intro e he he2 hlen
    unfold refL
    rw [outR_eq, he, absorb_add, hpre _ (Nat.le_refl _)]
    congr 1
    refine absorb_congr _ _ _ _ (fun x hx => ?_)
    obtain ⟨rl, hrle⟩ : ∃ rl, rl = l.drop (64 * (l.length / 64)) := ⟨_, rfl⟩
    have hrx : ∀ y, nth rl y = nth l (64 * (l.length / 64) + y) := fun y => by rw [hrle, nth_drop]
    rw [← hrle] at hrl ⊢
    have hbl : (rl ++ List.replicate (128 - l.length % 64) (0 : Int)).length = 128 := by
      rw [List.length_append, hrl, List.length_replicate]; omega
    rw [nth_drop, nth_putLen _ _ _ _ _ (by rw [List.length_set, hbl]; omega) (by omega)]
    by_cases h1 : x < l.length % 64
    · rw [if_neg (by omega), nth_set_ne _ _ _ _ (by omega), nth_left _ _ _ (by rw [hrl]; exact h1), hrx]
      exact padded_lo l _ (by omega)
    · by_cases h2 : x = l.length % 64
      · rw [if_neg (by omega), h2, nth_set_eq _ _ _ (by rw [hbl]; omega)]
        exact padded_at l _ (by omega)
      · by_cases h3 : x < 64 * e - 8
        · rw [if_neg (by omega), nth_set_ne _ _ _ _ h2, nth_right _ _ _ (by rw [hrl]; omega), padded_mid l _ (by omega) (by omega)]
          exact (nth_zs _ _).symm
        · rw [if_pos (by omega), padded_hi l _ (x - (64 * e - 8)) (by omega) (by omega), show 7 - (x - (64 * e - 8)) = 64 * e - 1 - x from by omega]
  unfold sumL
  simp only [hrl]
  by_cases h56 : 56 ≤ l.length % 64
  · rw [if_pos h56]
    exact key 2 (by unfold padN at hpl; omega) (by omega) (by unfold padN; omega)
  · rw [if_neg h56]
    exact key 1 (by unfold padN at hpl; omega) (by omega) (by unfold padN; omega)

theorem outH_range (st : List Int) : ∀ i, i < 32 → 0 ≤ nth (outH st 8) i ∧ nth (outH st 8) i ≤ 255 := by
  intro i hi
  rw [nth_outH st 8 i (by omega) (Nat.le_refl _)]
  omega
theorem sumL_range (l : List Int) : ∀ i, i < 32 → 0 ≤ nth (sumL l) i ∧ nth (sumL l) i ≤ 255 := outH_range _

end Dig
end Go.Proofs.Ytlamdhekjlnccaa

/- append onto a slice of the call's own, as one step of a region that draws its order. -/
namespace Go.Proofs.Ytlamdhekjlnccaa
open Go.RowKit

theorem wp_app {P : Program} {w : World} {o : Oper} {a : Act} {K : Act → World → Prop} {Q : Exit → Act → World → Prop} (s x : Operand) (t : TypeId)
    (ho : o.op = .call { callee := .builtin .append, args := #[s, x], argTypes := #[t, t] }) {e : TypeId} {k : IntKind} {bytes : Nat} (E : Elem P t e bytes)
    (base : Nat) (v : Value) (l : List Int) (hs : a.eval s = v) (hown : Buf k e w base v l) (xv : Value) (l2 : List Int) (hx : a.eval x = xv) (hsl : Sl k w xv l2)
    (n : Nat) (hn : l.length + l2.length = n) (hb1 : n ≤ maxLen) (hb2 : n * bytes ≤ 140737488355328) (hbase : base ≤ w.heap.size)
    (h : ∀ sp c w', Buf k e w' base (.slice sp n c) (l ++ l2) → Keep (fun b => b < base) w w' → K (a.put o.dst (.slice sp n c)) w') : o.wp P a w K Q := by
  subst hn
  obtain ⟨i, z, hi, hz, hz1, hz2, hz3⟩ := E.ex
  obtain ⟨sp, cap, rfl, hc1, hc2, hrow, hnil⟩ := hsl
  have go : ∀ v' w', w'.ownsRow base e 1 v' (l.length + l2.length) (l.map (Value.int k) ++ l2.map (Value.int k)) → w.grownBy w' v.ownBlock → K (a.put o.dst v') w' := by
    intro v' w' h1 h2
    have h1' : Buf k e w' base v' (l ++ l2) := by
      unfold Buf; rw [List.map_append, List.length_append]; exact h1
    have hk := keep_grown h2 (fun g hg => (hown.own g hg).1) hbase
    rcases h1'.block with ⟨e1, e2⟩ | ⟨g, c, r, e1, -⟩
    · subst e1
      have e3 : l.length + l2.length = 0 := by rw [← List.length_append, e2]; rfl
      rw [e3] at h
      exact h none 0 w' h1' hk
    · subst e1
      rw [List.length_append] at h1' ⊢
      exact h _ c w' h1' hk
  by_cases h0 : sp = none
  · subst h0
    have hc0 := hnil rfl
    subst hc0
    have hl2 : l2 = [] := List.eq_nil_of_length_eq_zero (by omega)
    subst hl2
    have hrun := run_append_owned_none (P := P) (w := w) base t o.type e i 1 E.ht hi v l.length _ hown
    have hgo := go v w (by unfold Buf at hown; simpa using hown) (World.grownBy.refl _ _)
    have hx' : a.eval x = .slice none 0 0 := hx
    unfold Oper.wp
    simp [execOp, ho, resolve, invoke, builtin, hs, hx', hrun, Result.andThen]
    exact hgo
  · obtain ⟨ad, had⟩ := Option.ne_none_iff_exists'.1 h0
    refine wp_append_own w s x t ho base e i z 1 bytes E.ht hi hz hz1 hz2 hz3 (by decide) v l.length _ hs hown ad l2.length cap (l2.map (Value.int k)) (by rw [hx, had]) (by simp) ?_ ?_ hb1 hb2 hbase (fun v' w' h1 h2 _ => go v' w' h1 h2)
    · intro j u hu
      have hj : j < l2.length := by
        rcases Nat.lt_or_ge j l2.length with h | h
        · exact h
        · simp [h] at hu
      obtain ⟨b, o, e1, hlt, hr⟩ := hrow (by omega)
      rw [e1] at had
      cases had
      rw [addr_add, hr j hj]
      simpa [nth, hj] using hu
    · intro u hu
      obtain ⟨_, _, rfl⟩ := List.mem_map.1 hu
      rfl

theorem step_app {P : Program} {ops : Array Oper} {w : World} {o : Oper} {a : Act} {K : Act → World → Prop} {Q : Exit → Act → World → Prop} {F : Prop} (hgd : o.guard = none) (s x : Operand) (t : TypeId)
    (ho : o.op = .call { callee := .builtin .append, args := #[s, x], argTypes := #[t, t] }) {e : TypeId} {k : IntKind} {bytes : Nat} (E : Elem P t e bytes)
    (base : Nat) (v : Value) (l : List Int) (hs : a.eval s = v) (hown : Buf k e w base v l) (xv : Value) (l2 : List Int) (hx : a.eval x = xv) (hsl : Sl k w xv l2)
    (n : Nat) (hn : l.length + l2.length = n) (hb1 : n ≤ maxLen) (hb2 : n * bytes ≤ 140737488355328) (hbase : base ≤ w.heap.size)
    (h : ∀ sp c w', Buf k e w' base (.slice sp n c) (l ++ l2) → Keep (fun b => b < base) w w' → K (a.put o.dst (.slice sp n c)) w') :
    if Region.wanted o (yielded ops a.tmps) = true then Oper.wp P o a w K Q else F := by
  rw [if_pos (by simp [Region.wanted, hgd])]
  exact wp_app s x t ho E base v l hs hown xv l2 hx hsl n hn hb1 hb2 hbase h

end Go.Proofs.Ytlamdhekjlnccaa

/- digest.Sum and the reference's, as one; marks. -/
namespace Go.Proofs.Ytlamdhekjlnccaa
open Go.RowKit
namespace Dig

theorem refSum_s (v : Value) (l : List Int) (w : World) (hv : Sl .u8 w v l) (hn : l.length ≤ 35184372088832) :
    Calls Try.prog 72 #[v] w fun e w' => e = .returned (.agg ((sumL l).map (Value.int .u8)).toArray) ∧ Below w.heap.size w w' := by
  rw [← refL_eq]; exact refSum_any v l w hv hn
theorem progSum_s (v : Value) (l : List Int) (w : World) (hv : Sl .u8 w v l) (hn : l.length ≤ 35184372088832) :
    Calls Try.prog 70 #[v] w fun e w' => e = .returned (.agg ((sumL l).map (Value.int .u8)).toArray) ∧ Below w.heap.size w w' :=
  sum_any v l w hv (by omega)
/-- A mark ahead, in a new block. -/
theorem mark_buf (W : World) (m : Int) : Buf .u8 5 (W.alloc (.cells #[.int .u8 m] 5)) W.heap.size (.slice (some ⟨W.heap.size, 0, none⟩) 1 1) [m] :=
  Buf.mk (k := .u8) (e := 5) (w := W) [m] [] (Nat.le_refl _) (by unfold maxLen; simp)
theorem blk_sl {W : World} {b : Nat} {l : List Int} (h : IBlk .u8 23 W b l) (hl : l.length = 32) : Sl .u8 W (.slice (some ⟨b, 0, none⟩) 32 32) l := by
  have := Sl.mk (k := .u8) (w := W) (b := b) (o := 0) (cap := 32) (l := l) (by omega) (by omega) h.lt h.row
  rw [hl] at this; exact this
theorem info25 (l : List Int) (hl : l.length = 32) : (Try.prog.info? 23).map (·.size) = some (l.map (Value.int .u8)).toArray.size := by
  rw [List.size_toArray, List.length_map, hl]; kernel_rfl
theorem size25 (l : List Int) (hl : l.length = 32) : (Z32.map (Value.int .u8)).toArray.size = (l.map (Value.int .u8)).toArray.size := by
  rw [List.size_toArray, List.length_map, List.size_toArray, List.length_map, hl]; rfl
theorem one25 (l : List Int) : (l.map (Value.int .u8)).toArray.all (·.oneCell') = true := by simp [Value.oneCell']
theorem sum_named (l : List Int) : ∃ hh : List Int, Hid2 (hh = sumL l) ∧ Hid2 (hh.length = 32) := ⟨sumL l, Hid2.mk rfl, Hid2.mk (sumL_length l)⟩
theorem step_store_row {P : Program} {ops : Array Oper} {o : Oper} {a : Act} {w : World} {K : Act → World → Prop} {Q : Exit → Act → World → Prop} {F : Prop} (hgd : o.guard = none) (ty : TypeId) (x y : Operand) (ho : o.op = .store ty x y)
    (g : Nat) (cells : Array Value) (hx : a.eval x = .pointer (some ⟨g, 0, none⟩)) (hy : a.eval y = .agg cells)
    (t : TypeId) (old : Array Value) (hg : w.heap[g]? = some (.cells old t (0, 0))) (hi : (P.info? ty).map (·.size) = some cells.size)
    (hold : old.size = cells.size) (h1 : cells.all (·.oneCell') = true)
    (h : K (a.put o.dst undef) (w.setRow g cells)) : if Region.wanted o (yielded ops a.tmps) = true then Oper.wp P o a w K Q else F := by
  rw [if_pos (by simp [Region.wanted, hgd])]
  exact wp_store_row ty x y ho g cells hx hy t old hg hi hold h1 h

end Dig
end Go.Proofs.Ytlamdhekjlnccaa

/- Equality of arrays of integers. -/
namespace Go.Proofs.Ytlamdhekjlnccaa
open Go.RowKit

theorem part_int {P : Program} (w : World) {e : TypeId} {k : IntKind} (he : P.underlying e = some (.int k)) (l : List Int) (i : Nat) (hi : i < l.length) :
    (part e (l.map (Value.int k)).toArray i).run P w = .ok (.int k (nth l i)) w := by
  have hagg : (isAgg e).run P w = .ok false w := by
    unfold isAgg; rw [Sem.run_bind, run_underlying he w]; rfl
  have hc : (l.map (Value.int k)).toArray[i]? = some (.int k (nth l i)) := by simp [nth, hi]
  simp [part, Sem.run_bind, hagg, hc]
theorem eqItems_ints {P : Program} (w : World) (d : Nat) {e : TypeId} {k : IntKind} (he : P.underlying e = some (.int k)) (xs ys : List Int) :
    ∀ is : List Nat, (∀ i ∈ is, i < xs.length ∧ i < ys.length) → (Op.eqItems (d + 1) e 1 (xs.map (Value.int k)).toArray (ys.map (Value.int k)).toArray is).run P w = .ok (is.all fun i => nth xs i == nth ys i) w
  | [], _ => by simp [Op.eqItems]
  | i :: is, h => by
    obtain ⟨h1, h2⟩ := h i (by simp)
    have ih := eqItems_ints w d he xs ys is (fun j hj => h j (by simp [hj]))
    simp only [Op.eqItems, Sem.run_bind, Nat.mul_one, part_int w he xs i h1, part_int w he ys i h2, Result.andThen_ok, run_equalIn_int w d e k k (nth xs i) (nth ys i) he, List.all_cons]
    by_cases hx : (nth xs i == nth ys i) = true
    · simp [hx, ih]
    · simp [hx]
theorem all_nth (xs ys : List Int) (n : Nat) (ha : xs.length = n) (hb : ys.length = n) : ((List.range n).all fun i => nth xs i == nth ys i) = decide (xs = ys) := by
  rw [Bool.eq_iff_iff]
  simp only [List.all_eq_true, List.mem_range, beq_iff_eq, decide_eq_true_eq]
  constructor
  · intro h
    apply List.ext_getElem (ha.trans hb.symm)
    intro i h1 h2
    have := h i (by omega)
    simpa [nth, h1, h2] using this
  · intro h i _; rw [h]
theorem run_eql_ints {P : Program} (w : World) {t e : TypeId} {k : IntKind} {n : Nat} {i : TypeInfo} (hu : P.underlying t = some (.array n e)) (he : P.underlying e = some (.int k)) (hi : P.info? e = some i) (hs : i.size = 1)
    (xs ys : List Int) (ha : xs.length = n) (hb : ys.length = n) :
    (binOp .eql t (.agg (xs.map (Value.int k)).toArray) (.agg (ys.map (Value.int k)).toArray)).run P w = .ok (.bool (decide (xs = ys))) w := by
  have hc : P.cellsOf e = 1 := by simp [Program.cellsOf, hi, hs]
  have h1 : (Op.equalIn (9999 + 1) t (.agg (xs.map (Value.int k)).toArray) (.agg (ys.map (Value.int k)).toArray)).run P w = .ok (decide (xs = ys)) w := by
    rw [run_equalIn_array w 9999 _ _ hu hi, hc, eqItems_ints w 9998 he xs ys (List.range n) (fun j hj => by simp at hj; omega), all_nth xs ys n ha hb]
  have hg : (binOp .eql t (.agg (xs.map (Value.int k)).toArray) (.agg (ys.map (Value.int k)).toArray)).run P w = ((Op.equalIn 10000 t (.agg (xs.map (Value.int k)).toArray) (.agg (ys.map (Value.int k)).toArray)).run P w).andThen fun b w' => .ok (.bool b) w' := run_eql_struct w t _ _
  rw [hg, h1]; rfl

end Go.Proofs.Ytlamdhekjlnccaa

/- Digests of values (chapters 2, 7): Leaf, Hash; two digests compared. -/
namespace Go.Proofs.Ytlamdhekjlnccaa
open Go.RowKit
namespace K
abbrev hashC (h : List Int) : List Value := h.map (Value.int .u8)
theorem hash_eql (a b : List Int) (ha : a.length = 32) (hb : b.length = 32) (W : World) : (binOp .eql 23 (.agg (hashC a).toArray) (.agg (hashC b).toArray)).run Try.prog W = .ok (.bool (decide (a = b))) W := by
  have hq : (Try.prog.info? 5).map (fun i => (i.zero, i.size, i.bytes)) = some (some (.int .u8 0), 1, 1) := by kernel_rfl
  obtain ⟨ie, hie, he⟩ := Option.map_eq_some_iff.1 hq
  obtain ⟨-, he2⟩ := Prod.mk.inj he
  exact run_eql_ints W Try.underlying23 Try.underlying5 hie (Prod.mk.inj he2).1 a b ha hb
theorem hash_guard (x y : Operand) (a b : Array Value) (W : World) : (eqGuard .eql 23 x y (.agg a) (.agg b)).run Try.prog W = .ok () W := by
  have h : Try.prog.eqGuardType Try.prog.depth 23 = false := by kernel_rfl
  simp [eqGuard, h]
section
variable {n : Nat} {Q : Exit → Act → World → Prop} {l : Env} {w w' : World} {ops : Array Oper} {o : Oper} {rest : List Oper} {d : Nat}
/-- Two digests, compared. -/
theorem WL.eqlH {x y : Operand} {t2 : Nat} {a b : List Int} (hg : o.guard = none) (hd : o.dst = some d) (hn : Nat.blt d n = true) (ho : o.op = .binOp .eql 23 x y t2) (hx : evl l x = some (.agg (hashC a).toArray)) (hy : evl l y = some (.agg (hashC b).toArray))
    (ha : a.length = 32) (hb : b.length = 32) (h : WL n ops Q rest ((d, .bool (decide (a = b))) :: l) w) : WL n ops Q (o :: rest) l w :=
  WL.step hg hd hn (fun c hc => by
    unfold execOp
    rw [ho]
    simp only [hc.eval hx, hc.eval hy, Sem.run_bind, hash_guard, Result.andThen_ok, hash_eql a b ha hb w]
    rfl) h
end
theorem leaf_any {w : World} {v : Value} {l : List Int} (hv : Sl .u8 w v l) (hn : l.length ≤ 17592186044416) :
    Calls Try.prog 57 #[v] w fun e w' => e = .returned (.agg (hashC (Dig.sumL (0 :: l))).toArray) ∧ Below w.heap.size w w' := by
  refine enter (args := [v]) Try.func57 rfl Try.ntmps57 rfl ?_
  repeat (first | ((with_reducible refine WL.topT ?_ ?_); omega) | ((with_reducible refine WL.topF ?_ ?_); omega) | ((with_reducible refine WL.top64 ?_ ?_); omega) | refine WC.seq ?_ | refine WC.block ?_ | refine WC.region ?_ | refine WL.nil ?_ | refine WC.skip ?_ | refine WC.exit ?_ | refine WC.ret ?_ | refine WQ.then rfl ?_ | refine WQ.thenExit ?_ | refine WQ.thenRet ?_ | refine WQ.blk ?_ | refine WQ.blkRet ?_ | refine WQ.blkHere rfl ?_ | refine WQ.blkOther rfl ?_ | refine WL.pure rfl rfl rfl rfl ?_ | refine WL.on rfl rfl ?_ | refine WL.off rfl rfl rfl ?_ | refine WC.condTrue rfl ?_ | refine WC.condFalse rfl ?_)
  refine WL.alloc (z := .agg (hashC Dig.Z32).toArray) rfl rfl rfl rfl (Dig.zero25) fun g w1 hf => ?_
  have hf' : Fresh w g w1 23 (hashC Dig.Z32) := hf
  clear hf
  have hz := hf'.size
  have he := hf'.eq
  repeat (first | ((with_reducible refine WL.topT ?_ ?_); omega) | ((with_reducible refine WL.topF ?_ ?_); omega) | ((with_reducible refine WL.top64 ?_ ?_); omega) | refine WC.seq ?_ | refine WC.block ?_ | refine WC.region ?_ | refine WL.nil ?_ | refine WC.skip ?_ | refine WC.exit ?_ | refine WC.ret ?_ | refine WQ.then rfl ?_ | refine WQ.thenExit ?_ | refine WQ.thenRet ?_ | refine WQ.blk ?_ | refine WQ.blkRet ?_ | refine WQ.blkHere rfl ?_ | refine WQ.blkOther rfl ?_ | refine WL.pure rfl rfl rfl rfl ?_ | refine WL.on rfl rfl ?_ | refine WL.off rfl rfl rfl ?_ | refine WC.condTrue rfl ?_ | refine WC.condFalse rfl ?_)
  refine WL.lit rfl rfl rfl rfl rfl rfl rfl fun b2 w2 hb2 hk2 hg2 => ?_
  have hw2 : Below w.heap.size w w2 := hf'.below.trans (hk2.mono (by omega))
  repeat (first | ((with_reducible refine WL.topT ?_ ?_); omega) | ((with_reducible refine WL.topF ?_ ?_); omega) | ((with_reducible refine WL.top64 ?_ ?_); omega) | refine WC.seq ?_ | refine WC.block ?_ | refine WC.region ?_ | refine WL.nil ?_ | refine WC.skip ?_ | refine WC.exit ?_ | refine WC.ret ?_ | refine WQ.then rfl ?_ | refine WQ.thenExit ?_ | refine WQ.thenRet ?_ | refine WQ.blk ?_ | refine WQ.blkRet ?_ | refine WQ.blkHere rfl ?_ | refine WQ.blkOther rfl ?_ | refine WL.pure rfl rfl rfl rfl ?_ | refine WL.on rfl rfl ?_ | refine WL.off rfl rfl rfl ?_ | refine WC.condTrue rfl ?_ | refine WC.condFalse rfl ?_)
  refine WL.app rfl rfl rfl rfl rfl hb2 rfl (hv.of_below hw2) (by simp only [List.length_cons, List.length_nil]; omega) fun b3 w3 hb3 hg3 => ?_
  have hk3 : Below w1.heap.size w1 w3 := hk2.trans (hg3.old hk2.size hg2)
  refine WL.call rfl rfl rfl rfl rfl Try.func70 rfl (by kernel_rfl) (Dig.progSum_s b3 _ w3 hb3.sl (by rw [List.length_append]; simp only [List.length_cons, List.length_nil]; omega)) ?_
  rintro _ w4 ⟨rfl, hk4⟩
  refine ⟨_, rfl, ?_⟩
  have hk4' : Below w1.heap.size w1 w4 := hk3.trans (hk4.mono hk3.size)
  have B4 := hf'.blk.below hk4' hf'.blk.lt
  have hlen : (hashC (Dig.sumL (0 :: l))).length = 32 := by rw [List.length_map]; exact Dig.sumL_length _
  refine WL.storeRow rfl rfl rfl rfl rfl rfl B4 hlen (by rfl) (Ones.int _ _) ?_
  repeat (first | ((with_reducible refine WL.topT ?_ ?_); omega) | ((with_reducible refine WL.topF ?_ ?_); omega) | ((with_reducible refine WL.top64 ?_ ?_); omega) | refine WC.seq ?_ | refine WC.block ?_ | refine WC.region ?_ | refine WL.nil ?_ | refine WC.skip ?_ | refine WC.exit ?_ | refine WC.ret ?_ | refine WQ.then rfl ?_ | refine WQ.thenExit ?_ | refine WQ.thenRet ?_ | refine WQ.blk ?_ | refine WQ.blkRet ?_ | refine WQ.blkHere rfl ?_ | refine WQ.blkOther rfl ?_ | refine WL.pure rfl rfl rfl rfl ?_ | refine WL.on rfl rfl ?_ | refine WL.off rfl rfl rfl ?_ | refine WC.condTrue rfl ?_ | refine WC.condFalse rfl ?_)
  exact WQ.retC rfl rfl rfl hlen (B4.setRow _) ⟨rfl, below_setRow (hf'.below.trans (hk4'.mono (by omega))) (by omega) _⟩
/-- A value's digest. -/
def hashR (v : V) : List Int := if (encR v).2 ≠ 0 then Dig.Z32 else Dig.sumL (0 :: (encR v).1)
theorem hashR_len (v : V) : (hashR v).length = 32 := by unfold hashR; split; rfl; exact Dig.sumL_length _
def HashPost (w : World) (v : V) (e : Ending) (w' : World) : Prop := e = .returned (.tuple #[.agg (hashC (hashR v)).toArray, .int .i64 (encR v).2]) ∧ Below w.heap.size w w'
theorem hash_any {f : Nat} {w : World} {v : V} {cs : List Value} (h : IsV f w v cs) (hlen : chk 16 v = 0 → (encV 16 v).length ≤ 70368744177664) :
    Calls Try.prog 43 #[.agg cs.toArray] w (HashPost w v) := by
  have hcs := h.len
  refine enter (args := [.agg cs.toArray]) Try.func43 rfl Try.ntmps43 rfl ?_
  repeat (first | ((with_reducible refine WL.topT ?_ ?_); omega) | ((with_reducible refine WL.topF ?_ ?_); omega) | ((with_reducible refine WL.top64 ?_ ?_); omega) | refine WC.seq ?_ | refine WC.block ?_ | refine WC.region ?_ | refine WL.nil ?_ | refine WC.skip ?_ | refine WC.exit ?_ | refine WC.ret ?_ | refine WQ.then rfl ?_ | refine WQ.thenExit ?_ | refine WQ.thenRet ?_ | refine WQ.blk ?_ | refine WQ.blkRet ?_ | refine WQ.blkHere rfl ?_ | refine WQ.blkOther rfl ?_ | refine WL.pure rfl rfl rfl rfl ?_ | refine WL.on rfl rfl ?_ | refine WL.off rfl rfl rfl ?_ | refine WC.condTrue rfl ?_ | refine WC.condFalse rfl ?_)
  refine WL.box rfl rfl rfl rfl rfl fun g w1 hf => ?_
  have hf' : Fresh w g w1 45 cs := hf
  clear hf
  refine WL.alloc (z := .agg (hashC Dig.Z32).toArray) rfl rfl rfl rfl (Dig.zero25) fun g2 w2 hf2 => ?_
  have hf2' : Fresh w1 g2 w2 23 (hashC Dig.Z32) := hf2
  clear hf2
  have hz1 := hf'.size
  have hz2 := hf2'.size
  have he1 := hf'.eq
  have he2 := hf2'.eq
  have hw2 : Below w.heap.size w w2 := hf'.below.trans (hf2'.below.mono (by omega))
  have B1 := hf'.blk.below hf2'.below hf'.blk.lt
  repeat (first | ((with_reducible refine WL.topT ?_ ?_); omega) | ((with_reducible refine WL.topF ?_ ?_); omega) | ((with_reducible refine WL.top64 ?_ ?_); omega) | refine WC.seq ?_ | refine WC.block ?_ | refine WC.region ?_ | refine WL.nil ?_ | refine WC.skip ?_ | refine WC.exit ?_ | refine WC.ret ?_ | refine WQ.then rfl ?_ | refine WQ.thenExit ?_ | refine WQ.thenRet ?_ | refine WQ.blk ?_ | refine WQ.blkRet ?_ | refine WQ.blkHere rfl ?_ | refine WQ.blkOther rfl ?_ | refine WL.pure rfl rfl rfl rfl ?_ | refine WL.on rfl rfl ?_ | refine WL.off rfl rfl rfl ?_ | refine WC.condTrue rfl ?_ | refine WC.condFalse rfl ?_)
  refine WL.loadMid rfl rfl rfl rfl rfl rfl (VBlk.rangeAt B1) hcs ?_
  refine WL.call rfl rfl rfl rfl rfl Try.func31 rfl (by kernel_rfl) (encode_any (h.below hw2) hlen) ?_
  rintro _ w3 ⟨b, rfl, hb, hk3, -⟩
  refine ⟨_, rfl, ?_⟩
  have hw3 : Below w.heap.size w w3 := hw2.trans (hk3.mono (by omega))
  have B23 := hf2'.blk.below hk3 hf2'.blk.lt
  have hz3 := hk3.size
  by_cases he : (encR v).2 = 0
  · have hR : hashR v = Dig.sumL (0 :: (encR v).1) := by unfold hashR; rw [if_neg (by simpa using he)]
    have hl65 := (encR_ok he).2.1
    rw [← (encR_ok he).2.2] at hl65
    repeat (first | ((with_reducible refine WL.topT ?_ ?_); omega) | ((with_reducible refine WL.topF ?_ ?_); omega) | ((with_reducible refine WL.top64 ?_ ?_); omega) | refine WC.seq ?_ | refine WC.block ?_ | refine WC.region ?_ | refine WL.nil ?_ | refine WC.skip ?_ | refine WC.exit ?_ | refine WC.ret ?_ | refine WQ.then rfl ?_ | refine WQ.thenExit ?_ | refine WQ.thenRet ?_ | refine WQ.blk ?_ | refine WQ.blkRet ?_ | refine WQ.blkHere rfl ?_ | refine WQ.blkOther rfl ?_ | refine WL.pure rfl rfl rfl rfl ?_ | refine WL.on rfl rfl ?_ | refine WL.off rfl rfl rfl ?_ | refine WC.condTrue rfl ?_ | refine WC.condFalse rfl ?_)
    refine WL.call rfl rfl rfl rfl rfl Try.func57 rfl (by kernel_rfl) (leaf_any hb.sl (by omega)) ?_
    rintro _ w4 ⟨rfl, hk4⟩
    refine ⟨_, rfl, ?_⟩
    have hlen2 : (hashC (Dig.sumL (0 :: (encR v).1))).length = 32 := by rw [List.length_map]; exact Dig.sumL_length _
    have B24 := B23.below hk4 B23.lt
    refine WL.storeRow rfl rfl rfl rfl rfl rfl B24 hlen2 (by rfl) (Ones.int _ _) ?_
    repeat (first | ((with_reducible refine WL.topT ?_ ?_); omega) | ((with_reducible refine WL.topF ?_ ?_); omega) | ((with_reducible refine WL.top64 ?_ ?_); omega) | refine WC.seq ?_ | refine WC.block ?_ | refine WC.region ?_ | refine WL.nil ?_ | refine WC.skip ?_ | refine WC.exit ?_ | refine WC.ret ?_ | refine WQ.then rfl ?_ | refine WQ.thenExit ?_ | refine WQ.thenRet ?_ | refine WQ.blk ?_ | refine WQ.blkRet ?_ | refine WQ.blkHere rfl ?_ | refine WQ.blkOther rfl ?_ | refine WL.pure rfl rfl rfl rfl ?_ | refine WL.on rfl rfl ?_ | refine WL.off rfl rfl rfl ?_ | refine WC.condTrue rfl ?_ | refine WC.condFalse rfl ?_)
    exact WQ.retCT rfl rfl rfl rfl hlen2 (B24.setRow _) ⟨by rw [hR, he], below_setRow (hw3.trans (hk4.mono (by omega))) (by omega) _⟩
  · have hR : hashR v = Dig.Z32 := by unfold hashR; rw [if_pos he]
    repeat (first | ((with_reducible refine WL.topT ?_ ?_); omega) | ((with_reducible refine WL.topF ?_ ?_); omega) | ((with_reducible refine WL.top64 ?_ ?_); omega) | refine WC.seq ?_ | refine WC.block ?_ | refine WC.region ?_ | refine WL.nil ?_ | refine WC.skip ?_ | refine WC.exit ?_ | refine WC.ret ?_ | refine WQ.then rfl ?_ | refine WQ.thenExit ?_ | refine WQ.thenRet ?_ | refine WQ.blk ?_ | refine WQ.blkRet ?_ | refine WQ.blkHere rfl ?_ | refine WQ.blkOther rfl ?_ | refine WL.pure rfl rfl rfl rfl ?_ | refine WL.on rfl rfl ?_ | refine WL.off rfl rfl rfl ?_ | refine WC.condTrue rfl ?_ | refine WC.condFalse rfl ?_)
    refine WL.build (hashC Dig.Z32) rfl rfl rfl rfl rfl (by kernel_rfl) ?_
    repeat (first | ((with_reducible refine WL.topT ?_ ?_); omega) | ((with_reducible refine WL.topF ?_ ?_); omega) | ((with_reducible refine WL.top64 ?_ ?_); omega) | refine WC.seq ?_ | refine WC.block ?_ | refine WC.region ?_ | refine WL.nil ?_ | refine WC.skip ?_ | refine WC.exit ?_ | refine WC.ret ?_ | refine WQ.then rfl ?_ | refine WQ.thenExit ?_ | refine WQ.thenRet ?_ | refine WQ.blk ?_ | refine WQ.blkRet ?_ | refine WQ.blkHere rfl ?_ | refine WQ.blkOther rfl ?_ | refine WL.pure rfl rfl rfl rfl ?_ | refine WL.on rfl rfl ?_ | refine WL.off rfl rfl rfl ?_ | refine WC.condTrue rfl ?_ | refine WC.condFalse rfl ?_)
    refine WL.storeRow rfl rfl rfl rfl rfl rfl B23 (by rfl) (by rfl) (Ones.int _ _) ?_
    repeat (first | ((with_reducible refine WL.topT ?_ ?_); omega) | ((with_reducible refine WL.topF ?_ ?_); omega) | ((with_reducible refine WL.top64 ?_ ?_); omega) | refine WC.seq ?_ | refine WC.block ?_ | refine WC.region ?_ | refine WL.nil ?_ | refine WC.skip ?_ | refine WC.exit ?_ | refine WC.ret ?_ | refine WQ.then rfl ?_ | refine WQ.thenExit ?_ | refine WQ.thenRet ?_ | refine WQ.blk ?_ | refine WQ.blkRet ?_ | refine WQ.blkHere rfl ?_ | refine WQ.blkOther rfl ?_ | refine WL.pure rfl rfl rfl rfl ?_ | refine WL.on rfl rfl ?_ | refine WL.off rfl rfl rfl ?_ | refine WC.condTrue rfl ?_ | refine WC.condFalse rfl ?_)
    exact WQ.retCT rfl rfl rfl rfl (by rfl) (B23.setRow _) ⟨by rw [hR]; rfl, below_setRow hw3 (by omega) _⟩
end K
end Go.Proofs.Ytlamdhekjlnccaa
