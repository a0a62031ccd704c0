/- Texts for LawWirReq, part 4 of 9. -/
import Derived.Test.YtdkkaliiofcflaaZLawWirReq3
/- Reading (chapter 7): the reader's value. -/
namespace Go.Proofs.Ytdkkaliiofcflaa
open Go.RowKit
namespace K
theorem elemV6 : ElemV Try.prog 23 60 6 88 := ElemV.mk' (z := .agg #[.int .i64 0, .int .i64 0, .int .i64 0, .string ByteArray.empty, .slice none 0 0, .slice none 0 0]) Try.underlying23 (by kernel_rfl) rfl (by omega)
theorem elemS1 : ElemV Try.prog 58 9 1 16 := ElemV.mk' (z := .string ByteArray.empty) Try.underlying58 (by kernel_rfl) rfl (by omega)

theorem zag_range {u : Nat} (h : u < 18446744073709551616) : -9223372036854775808 ≤ zag u ∧ zag u ≤ 9223372036854775807 := by unfold zag; split <;> omega
/-- What value promises. -/
def ValPost (m B rb : Nat) (w : World) (l : List Int) (e : Int) (r : Ending) (w' : World) : Prop :=
  ∃ v cs l' e', r = .returned (.agg cs.toArray) ∧ IsVo (fun b => w.heap.size ≤ b) (m + 1) w' v cs ∧ RS B w' rb l' e' ∧ KeepR rb w w' ∧ Out (rdV m) l e v l' e'

theorem Out.gv {m : Nat} {l l1 l2 : List Int} {e e1 e2 c : Int} {v : V} (h1 : Out rdB l e c l1 e1) (h2 : Out (GV m c) l1 e1 v l2 e2) : Out (rdV (m + 1)) l e v l2 e2 := by rw [rdV_GV]; exact h1.bind h2

set_option maxHeartbeats 16000000 in
theorem value_step (m : Nat) (ih : ∀ {B rb : Nat} {w : World} {l : List Int} {e : Int} (d : Int), d = 17 - (m : Int) → RS B w rb l e → B ≤ w.heap.size → Calls Try.prog 81 #[.pointer (some ⟨rb, 0, none⟩), .int .i64 d] w (ValPost m B rb w l e))
    {B rb : Nat} {w : World} {l : List Int} {e : Int} (d : Int) (hd : d = 17 - ((m + 1 : Nat) : Int)) (hm : m + 1 ≤ 16) (h : RS B w rb l e) (hB : B ≤ w.heap.size) :
    Calls Try.prog 81 #[.pointer (some ⟨rb, 0, none⟩), .int .i64 d] w (ValPost (m + 1) B rb w l e) := by
  refine enter (args := [.pointer (some ⟨rb, 0, none⟩), .int .i64 d]) Try.func81 rfl Try.ntmps81 rfl ?_
  repeat (first | ((with_reducible refine WL.topT ?_ ?_); omega) | ((with_reducible refine WL.topF ?_ ?_); omega) | ((with_reducible refine WL.top64 ?_ ?_); omega) | refine WC.seq ?_ | refine WC.block ?_ | refine WC.region ?_ | refine WL.nil ?_ | refine WC.skip ?_ | refine WC.exit ?_ | refine WC.ret ?_ | refine WQ.then rfl ?_ | refine WQ.thenExit ?_ | refine WQ.thenRet ?_ | refine WQ.blk ?_ | refine WQ.blkRet ?_ | refine WQ.blkHere rfl ?_ | refine WQ.blkOther rfl ?_ | refine WL.pure rfl rfl rfl rfl ?_ | refine WL.on rfl rfl ?_ | refine WL.off rfl rfl rfl ?_ | refine WC.condTrue rfl ?_ | refine WC.condFalse rfl ?_)
  refine WL.alloc (z := .agg #[.int .i64 0, .int .i64 0, .int .i64 0, .string ByteArray.empty, .slice none 0 0, .slice none 0 0]) rfl rfl rfl rfl (fun _ => by kernel_rfl) fun vb w1 hf => ?_
  have hf' : Fresh w vb w1 60 [.int .i64 0, .int .i64 0, .int .i64 0, .string ByteArray.empty, .slice none 0 0, .slice none 0 0] := hf
  clear hf
  have hvbe := hf'.eq
  have hrB := h.rlt
  have h1 : RS B w1 rb l e := h.keep (Keep.of_below hf'.below) fun b hb => Nat.lt_of_lt_of_le hb hB
  have hk1 : KeepR rb w w1 := KeepR.below hf'.below
  have hblk1 := hf'.blk
  have hsz1 := hf'.size
  clear hf'
  repeat (first | ((with_reducible refine WL.topT ?_ ?_); omega) | ((with_reducible refine WL.topF ?_ ?_); omega) | ((with_reducible refine WL.top64 ?_ ?_); omega) | refine WC.seq ?_ | refine WC.block ?_ | refine WC.region ?_ | refine WL.nil ?_ | refine WC.skip ?_ | refine WC.exit ?_ | refine WC.ret ?_ | refine WQ.then rfl ?_ | refine WQ.thenExit ?_ | refine WQ.thenRet ?_ | refine WQ.blk ?_ | refine WQ.blkRet ?_ | refine WQ.blkHere rfl ?_ | refine WQ.blkOther rfl ?_ | refine WL.pure rfl rfl rfl rfl ?_ | refine WL.on rfl rfl ?_ | refine WL.off rfl rfl rfl ?_ | refine WC.condTrue rfl ?_ | refine WC.condFalse rfl ?_)
  refine WL.call rfl rfl rfl rfl rfl Try.func88 rfl (by kernel_rfl) (byte_any h1) ?_
  rintro _ w2 ⟨c, l2, e2, rfl, hc0, hc1, h2, hk2, ho2⟩
  refine ⟨_, rfl, ?_⟩
  have hblk2 := hblk1.keep hk2 ⟨hblk1.lt, by omega⟩
  repeat (first | ((with_reducible refine WL.topT ?_ ?_); omega) | ((with_reducible refine WL.topF ?_ ?_); omega) | ((with_reducible refine WL.top64 ?_ ?_); omega) | refine WC.seq ?_ | refine WC.block ?_ | refine WC.region ?_ | refine WL.nil ?_ | refine WC.skip ?_ | refine WC.exit ?_ | refine WC.ret ?_ | refine WQ.then rfl ?_ | refine WQ.thenExit ?_ | refine WQ.thenRet ?_ | refine WQ.blk ?_ | refine WQ.blkRet ?_ | refine WQ.blkHere rfl ?_ | refine WQ.blkOther rfl ?_ | refine WL.pure rfl rfl rfl rfl ?_ | refine WL.on rfl rfl ?_ | refine WL.off rfl rfl rfl ?_ | refine WC.condTrue rfl ?_ | refine WC.condFalse rfl ?_)
  refine WL.store (v := .int .i64 c) rfl rfl rfl rfl rfl rfl (by kernel_rfl) (hblk2.cell 0 (by simp)) (hblk2.free 0) ?_
  -- the store into the box
  have stB : ∀ {wx : World} {i : Nat} (u : Value) {lx : List Int} {ex : Int}, RS B wx rb lx ex → KeepR rb w wx → RS B (wx.setCell ⟨vb, i, none⟩ u) rb lx ex ∧ KeepR rb w (wx.setCell ⟨vb, i, none⟩ u) := fun {wx i} u {lx ex} hr hk =>
    ⟨hr.keep (K := fun b => b ≠ vb) ((Keep.refl _ wx).setCell (fun hk => hk rfl) _) (fun b hb => by omega), Keep.setCell hk (fun hk => by have := hk.1; simp only at this; omega) _⟩
  obtain ⟨h3, hk3⟩ := stB (i := 0) (.int .i64 c) h2 (hk1.trans hk2)
  have hblk3 := hblk2.set 0 (.int .i64 c)
  generalize w2.setCell ⟨vb, 0, none⟩ (.int .i64 c) = w3 at h3 hk3 hblk3
  clear hblk2 h2 hk2 hblk1 hk1 h1
  simp only [List.set_cons_zero] at hblk3
  repeat (first | ((with_reducible refine WL.topT ?_ ?_); omega) | ((with_reducible refine WL.topF ?_ ?_); omega) | ((with_reducible refine WL.top64 ?_ ?_); omega) | refine WC.seq ?_ | refine WC.region ?_ | refine WL.nil ?_ | refine WC.skip ?_ | refine WC.exit ?_ | refine WC.ret ?_ | refine WQ.then rfl ?_ | refine WQ.thenExit ?_ | refine WQ.thenRet ?_ | refine WQ.blk ?_ | refine WQ.blkRet ?_ | refine WQ.blkHere rfl ?_ | refine WQ.blkOther rfl ?_ | refine WL.pure rfl rfl rfl rfl ?_ | refine WL.on rfl rfl ?_ | refine WL.off rfl rfl rfl ?_ | refine WL.load rfl rfl rfl rfl rfl rfl (by assumption) ?_ | refine WC.condTrue rfl ?_ | refine WC.condFalse rfl ?_)
  refine WL.load rfl rfl rfl rfl rfl rfl (hblk3.cell 0 (by simp)) ?_
  repeat (first | ((with_reducible refine WL.topT ?_ ?_); omega) | ((with_reducible refine WL.topF ?_ ?_); omega) | ((with_reducible refine WL.top64 ?_ ?_); omega) | refine WC.seq ?_ | refine WC.region ?_ | refine WL.nil ?_ | refine WC.skip ?_ | refine WC.exit ?_ | refine WC.ret ?_ | refine WQ.then rfl ?_ | refine WQ.thenExit ?_ | refine WQ.thenRet ?_ | refine WQ.blk ?_ | refine WQ.blkRet ?_ | refine WQ.blkHere rfl ?_ | refine WQ.blkOther rfl ?_ | refine WL.pure rfl rfl rfl rfl ?_ | refine WL.on rfl rfl ?_ | refine WL.off rfl rfl rfl ?_ | refine WL.load rfl rfl rfl rfl rfl rfl (by assumption) ?_ | refine WC.condTrue rfl ?_ | refine WC.condFalse rfl ?_)
  refine WC.mid (fun _ : V × List Value × List Int × Int => [(4, .pointer (some ⟨vb, 0, none⟩))])
    (fun i w' => VBlk 60 w' vb i.2.1 ∧ IsVo (fun b => w.heap.size ≤ b ∧ b ≠ vb) (m + 1 + 1) w' i.1 i.2.1 ∧ RS B w' rb i.2.2.1 i.2.2.2 ∧ KeepR rb w w' ∧ Out (rdV (m + 1)) l e i.1 i.2.2.1 i.2.2.2) rfl ?_ ?_
  rotate_left
  · rintro ⟨v, cs, l4, e4⟩ w4 ⟨hb4, hv4, hr4, hk4, ho4⟩
    simp only at hb4 hv4 hr4 hk4 ho4 ⊢
    have hcs := hv4.len
    repeat (first | ((with_reducible refine WL.topT ?_ ?_); omega) | ((with_reducible refine WL.topF ?_ ?_); omega) | ((with_reducible refine WL.top64 ?_ ?_); omega) | refine WC.seq ?_ | refine WC.block ?_ | refine WC.region ?_ | refine WL.nil ?_ | refine WC.skip ?_ | refine WC.exit ?_ | refine WC.ret ?_ | refine WQ.then rfl ?_ | refine WQ.thenExit ?_ | refine WQ.thenRet ?_ | refine WQ.blk ?_ | refine WQ.blkRet ?_ | refine WQ.blkHere rfl ?_ | refine WQ.blkOther rfl ?_ | refine WL.pure rfl rfl rfl rfl ?_ | refine WL.on rfl rfl ?_ | refine WL.off rfl rfl rfl ?_ | refine WC.condTrue rfl ?_ | refine WC.condFalse rfl ?_)
    refine WL.loadMid rfl rfl rfl rfl rfl rfl (VBlk.rangeAt hb4) hcs ?_
    refine WL.storeRow rfl rfl rfl rfl rfl rfl hb4 hcs hcs hv4.one ?_
    repeat (first | ((with_reducible refine WL.topT ?_ ?_); omega) | ((with_reducible refine WL.topF ?_ ?_); omega) | ((with_reducible refine WL.top64 ?_ ?_); omega) | refine WC.seq ?_ | refine WC.block ?_ | refine WC.region ?_ | refine WL.nil ?_ | refine WC.skip ?_ | refine WC.exit ?_ | refine WC.ret ?_ | refine WQ.then rfl ?_ | refine WQ.thenExit ?_ | refine WQ.thenRet ?_ | refine WQ.blk ?_ | refine WQ.blkRet ?_ | refine WQ.blkHere rfl ?_ | refine WQ.blkOther rfl ?_ | refine WL.pure rfl rfl rfl rfl ?_ | refine WL.on rfl rfl ?_ | refine WL.off rfl rfl rfl ?_ | refine WC.condTrue rfl ?_ | refine WC.condFalse rfl ?_)
    have hset : Keep (fun b => b ≠ vb) w4 (w4.setRow vb cs.toArray) := Keep.setRow (Keep.refl _ w4) (fun hk => hk rfl) _
    exact WQ.retC rfl rfl rfl hcs (hb4.setRow cs) ⟨v, cs, l4, e4, rfl, hv4.keep hset (fun b hb _ => hb.2) (fun b hb => hb.1), hr4.keep hset (fun b hb => by omega), Keep.setRow hk4 (fun hk => by have := hk.1; omega) _, ho4⟩
  by_cases k1 : c = 1
  · subst k1
    repeat (first | ((with_reducible refine WL.topT ?_ ?_); omega) | ((with_reducible refine WL.topF ?_ ?_); omega) | ((with_reducible refine WL.top64 ?_ ?_); omega) | refine WC.seq ?_ | refine WC.block ?_ | refine WC.region ?_ | refine WL.nil ?_ | refine WC.skip ?_ | refine WC.exit ?_ | refine WC.ret ?_ | refine WQ.then rfl ?_ | refine WQ.thenExit ?_ | refine WQ.thenRet ?_ | refine WQ.blk ?_ | refine WQ.blkRet ?_ | refine WQ.blkHere rfl ?_ | refine WQ.blkOther rfl ?_ | refine WL.pure rfl rfl rfl rfl ?_ | refine WL.on rfl rfl ?_ | refine WL.off rfl rfl rfl ?_ | refine WC.condTrue rfl ?_ | refine WC.condFalse rfl ?_)
    exact WQ.meet (.mk 1 0 0 noT [] [], _, l2, e2) ⟨rfl, trivial⟩ ⟨hblk3, isVo_leaf (by omega) (by omega) (by omega) (by decide), h3, hk3, ho2.gv (Out.congr (Out.pure _) (by unfold GV; rw [if_pos rfl]))⟩
  by_cases k2 : c = 2
  · subst k2
    repeat (first | ((with_reducible refine WL.topT ?_ ?_); omega) | ((with_reducible refine WL.topF ?_ ?_); omega) | ((with_reducible refine WL.top64 ?_ ?_); omega) | refine WC.seq ?_ | refine WC.block ?_ | refine WC.region ?_ | refine WL.nil ?_ | refine WC.skip ?_ | refine WC.exit ?_ | refine WC.ret ?_ | refine WQ.then rfl ?_ | refine WQ.thenExit ?_ | refine WQ.thenRet ?_ | refine WQ.blk ?_ | refine WQ.blkRet ?_ | refine WQ.blkHere rfl ?_ | refine WQ.blkOther rfl ?_ | refine WL.pure rfl rfl rfl rfl ?_ | refine WL.on rfl rfl ?_ | refine WL.off rfl rfl rfl ?_ | refine WC.condTrue rfl ?_ | refine WC.condFalse rfl ?_)
    refine WL.call rfl rfl rfl rfl rfl Try.func88 rfl (by kernel_rfl) (byte_any h3) ?_
    rintro _ w4 ⟨c2, l4, e4, rfl, hc20, hc21, h4, hk4, ho4⟩
    refine ⟨_, rfl, ?_⟩
    have hblk4 := hblk3.keep hk4 ⟨hblk3.lt, by omega⟩
    repeat (first | ((with_reducible refine WL.topT ?_ ?_); omega) | ((with_reducible refine WL.topF ?_ ?_); omega) | ((with_reducible refine WL.top64 ?_ ?_); omega) | refine WC.seq ?_ | refine WC.block ?_ | refine WC.region ?_ | refine WL.nil ?_ | refine WC.skip ?_ | refine WC.exit ?_ | refine WC.ret ?_ | refine WQ.then rfl ?_ | refine WQ.thenExit ?_ | refine WQ.thenRet ?_ | refine WQ.blk ?_ | refine WQ.blkRet ?_ | refine WQ.blkHere rfl ?_ | refine WQ.blkOther rfl ?_ | refine WL.pure rfl rfl rfl rfl ?_ | refine WL.on rfl rfl ?_ | refine WL.off rfl rfl rfl ?_ | refine WC.condTrue rfl ?_ | refine WC.condFalse rfl ?_)
    refine WL.store (v := .int .i64 c2) rfl rfl rfl rfl rfl rfl (by kernel_rfl) (hblk4.cell 1 (by simp)) (hblk4.free 1) ?_
    obtain ⟨h5, hk5⟩ := stB (i := 1) (.int .i64 c2) h4 (hk3.trans hk4)
    have hblk5 := hblk4.set 1 (.int .i64 c2)
    generalize w4.setCell ⟨vb, 1, none⟩ (.int .i64 c2) = w5 at h5 hk5 hblk5
    simp only [List.set_cons_zero, List.set_cons_succ] at hblk5
    repeat (first | ((with_reducible refine WL.topT ?_ ?_); omega) | ((with_reducible refine WL.topF ?_ ?_); omega) | ((with_reducible refine WL.top64 ?_ ?_); omega) | refine WC.seq ?_ | refine WC.block ?_ | refine WC.region ?_ | refine WL.nil ?_ | refine WC.skip ?_ | refine WC.exit ?_ | refine WC.ret ?_ | refine WQ.then rfl ?_ | refine WQ.thenExit ?_ | refine WQ.thenRet ?_ | refine WQ.blk ?_ | refine WQ.blkRet ?_ | refine WQ.blkHere rfl ?_ | refine WQ.blkOther rfl ?_ | refine WL.pure rfl rfl rfl rfl ?_ | refine WL.on rfl rfl ?_ | refine WL.off rfl rfl rfl ?_ | refine WC.condTrue rfl ?_ | refine WC.condFalse rfl ?_)
    refine WL.load rfl rfl rfl rfl rfl rfl (hblk5.cell 1 (by simp)) ?_
    by_cases hb2 : 1 < c2
    · repeat (first | ((with_reducible refine WL.topT ?_ ?_); omega) | ((with_reducible refine WL.topF ?_ ?_); omega) | ((with_reducible refine WL.top64 ?_ ?_); omega) | refine WC.seq ?_ | refine WC.block ?_ | refine WC.region ?_ | refine WL.nil ?_ | refine WC.skip ?_ | refine WC.exit ?_ | refine WC.ret ?_ | refine WQ.then rfl ?_ | refine WQ.thenExit ?_ | refine WQ.thenRet ?_ | refine WQ.blk ?_ | refine WQ.blkRet ?_ | refine WQ.blkHere rfl ?_ | refine WQ.blkOther rfl ?_ | refine WL.pure rfl rfl rfl rfl ?_ | refine WL.on rfl rfl ?_ | refine WL.off rfl rfl rfl ?_ | refine WC.condTrue rfl ?_ | refine WC.condFalse rfl ?_)
      refine WL.call rfl rfl rfl rfl rfl Try.func82 rfl (by kernel_rfl) (fail_any h5 3) ?_
      rintro _ w6 ⟨rfl, h6, hk6⟩
      refine ⟨_, rfl, ?_⟩
      repeat (first | ((with_reducible refine WL.topT ?_ ?_); omega) | ((with_reducible refine WL.topF ?_ ?_); omega) | ((with_reducible refine WL.top64 ?_ ?_); omega) | refine WC.seq ?_ | refine WC.block ?_ | refine WC.region ?_ | refine WL.nil ?_ | refine WC.skip ?_ | refine WC.exit ?_ | refine WC.ret ?_ | refine WQ.then rfl ?_ | refine WQ.thenExit ?_ | refine WQ.thenRet ?_ | refine WQ.blk ?_ | refine WQ.blkRet ?_ | refine WQ.blkHere rfl ?_ | refine WQ.blkOther rfl ?_ | refine WL.pure rfl rfl rfl rfl ?_ | refine WL.on rfl rfl ?_ | refine WL.off rfl rfl rfl ?_ | refine WC.condTrue rfl ?_ | refine WC.condFalse rfl ?_)
      refine WQ.meet (.mk 2 c2 0 noT [] [], _, l4, _) ⟨rfl, trivial⟩ ⟨hblk5.keep hk6 ⟨hblk5.lt, by omega⟩, isVo_leaf (by omega) (by omega) (by omega) (by decide), h6, hk5.trans hk6, ho2.gv (Out.congr (ho4.bind (Out.congr (Out.fail 3 (by omega)) ?_)) (by unfold GV; rw [if_neg k1, if_pos rfl]))⟩
      rw [if_pos hb2]
    · repeat (first | ((with_reducible refine WL.topT ?_ ?_); omega) | ((with_reducible refine WL.topF ?_ ?_); omega) | ((with_reducible refine WL.top64 ?_ ?_); omega) | refine WC.seq ?_ | refine WC.block ?_ | refine WC.region ?_ | refine WL.nil ?_ | refine WC.skip ?_ | refine WC.exit ?_ | refine WC.ret ?_ | refine WQ.then rfl ?_ | refine WQ.thenExit ?_ | refine WQ.thenRet ?_ | refine WQ.blk ?_ | refine WQ.blkRet ?_ | refine WQ.blkHere rfl ?_ | refine WQ.blkOther rfl ?_ | refine WL.pure rfl rfl rfl rfl ?_ | refine WL.on rfl rfl ?_ | refine WL.off rfl rfl rfl ?_ | refine WC.condTrue rfl ?_ | refine WC.condFalse rfl ?_)
      refine WQ.meet (.mk 2 c2 0 noT [] [], _, l4, _) ⟨rfl, trivial⟩ ⟨hblk5, isVo_leaf (by omega) (by omega) (by omega) (by decide), h5, hk5, ho2.gv (Out.congr (ho4.bind (Out.congr (Out.pure _) ?_)) (by unfold GV; rw [if_neg k1, if_pos rfl]))⟩
      rw [if_neg hb2]
  by_cases k3 : c = 3
  · subst k3
    repeat (first | ((with_reducible refine WL.topT ?_ ?_); omega) | ((with_reducible refine WL.topF ?_ ?_); omega) | ((with_reducible refine WL.top64 ?_ ?_); omega) | refine WC.seq ?_ | refine WC.block ?_ | refine WC.region ?_ | refine WL.nil ?_ | refine WC.skip ?_ | refine WC.exit ?_ | refine WC.ret ?_ | refine WQ.then rfl ?_ | refine WQ.thenExit ?_ | refine WQ.thenRet ?_ | refine WQ.blk ?_ | refine WQ.blkRet ?_ | refine WQ.blkHere rfl ?_ | refine WQ.blkOther rfl ?_ | refine WL.pure rfl rfl rfl rfl ?_ | refine WL.on rfl rfl ?_ | refine WL.off rfl rfl rfl ?_ | refine WC.condTrue rfl ?_ | refine WC.condFalse rfl ?_)
    refine WL.call rfl rfl rfl rfl rfl Try.func89 rfl (by kernel_rfl) (number_any h3) ?_
    rintro _ w4 ⟨u, l4, e4, rfl, hu, h4, hk4, ho4⟩
    refine ⟨_, rfl, ?_⟩
    refine WL.call rfl rfl rfl rfl rfl Try.func57 rfl (by kernel_rfl) (zag_any u hu w4) ?_
    rintro _ w4 ⟨rfl, rfl⟩
    refine ⟨_, rfl, ?_⟩
    have hz := zag_range hu
    have hblk4 := hblk3.keep hk4 ⟨hblk3.lt, by omega⟩
    repeat (first | ((with_reducible refine WL.topT ?_ ?_); omega) | ((with_reducible refine WL.topF ?_ ?_); omega) | ((with_reducible refine WL.top64 ?_ ?_); omega) | refine WC.seq ?_ | refine WC.block ?_ | refine WC.region ?_ | refine WL.nil ?_ | refine WC.skip ?_ | refine WC.exit ?_ | refine WC.ret ?_ | refine WQ.then rfl ?_ | refine WQ.thenExit ?_ | refine WQ.thenRet ?_ | refine WQ.blk ?_ | refine WQ.blkRet ?_ | refine WQ.blkHere rfl ?_ | refine WQ.blkOther rfl ?_ | refine WL.pure rfl rfl rfl rfl ?_ | refine WL.on rfl rfl ?_ | refine WL.off rfl rfl rfl ?_ | refine WC.condTrue rfl ?_ | refine WC.condFalse rfl ?_)
    refine WL.store (v := .int .i64 (zag u)) rfl rfl rfl rfl rfl rfl (by kernel_rfl) (hblk4.cell 1 (by simp)) (hblk4.free 1) ?_
    obtain ⟨h5, hk5⟩ := stB (i := 1) (.int .i64 (zag u)) h4 (hk3.trans hk4)
    have hblk5 := hblk4.set 1 (.int .i64 (zag u))
    repeat (first | ((with_reducible refine WL.topT ?_ ?_); omega) | ((with_reducible refine WL.topF ?_ ?_); omega) | ((with_reducible refine WL.top64 ?_ ?_); omega) | refine WC.seq ?_ | refine WC.block ?_ | refine WC.region ?_ | refine WL.nil ?_ | refine WC.skip ?_ | refine WC.exit ?_ | refine WC.ret ?_ | refine WQ.then rfl ?_ | refine WQ.thenExit ?_ | refine WQ.thenRet ?_ | refine WQ.blk ?_ | refine WQ.blkRet ?_ | refine WQ.blkHere rfl ?_ | refine WQ.blkOther rfl ?_ | refine WL.pure rfl rfl rfl rfl ?_ | refine WL.on rfl rfl ?_ | refine WL.off rfl rfl rfl ?_ | refine WC.condTrue rfl ?_ | refine WC.condFalse rfl ?_)
    exact WQ.meet (.mk 3 (zag u) 0 noT [] [], _, l4, _) ⟨rfl, trivial⟩ ⟨hblk5, isVo_leaf (by omega) hz (by omega) (by decide), h5, hk5, ho2.gv (Out.congr (ho4.bind (Out.pure (V.mk 3 (zag u) 0 noT [] []))) (by unfold GV; rw [if_neg k1, if_neg k2, if_pos rfl]))⟩
  by_cases k4 : c = 4
  · subst k4
    repeat (first | ((with_reducible refine WL.topT ?_ ?_); omega) | ((with_reducible refine WL.topF ?_ ?_); omega) | ((with_reducible refine WL.top64 ?_ ?_); omega) | refine WC.seq ?_ | refine WC.block ?_ | refine WC.region ?_ | refine WL.nil ?_ | refine WC.skip ?_ | refine WC.exit ?_ | refine WC.ret ?_ | refine WQ.then rfl ?_ | refine WQ.thenExit ?_ | refine WQ.thenRet ?_ | refine WQ.blk ?_ | refine WQ.blkRet ?_ | refine WQ.blkHere rfl ?_ | refine WQ.blkOther rfl ?_ | refine WL.pure rfl rfl rfl rfl ?_ | refine WL.on rfl rfl ?_ | refine WL.off rfl rfl rfl ?_ | refine WC.condTrue rfl ?_ | refine WC.condFalse rfl ?_)
    refine WL.call rfl rfl rfl rfl rfl Try.func89 rfl (by kernel_rfl) (number_any h3) ?_
    rintro _ w4 ⟨u, l4, e4, rfl, hu, h4, hk4, ho4⟩
    refine ⟨_, rfl, ?_⟩
    refine WL.call rfl rfl rfl rfl rfl Try.func57 rfl (by kernel_rfl) (zag_any u hu w4) ?_
    rintro _ w4 ⟨rfl, rfl⟩
    refine ⟨_, rfl, ?_⟩
    have hz := zag_range hu
    have hblk4 := hblk3.keep hk4 ⟨hblk3.lt, by omega⟩
    repeat (first | ((with_reducible refine WL.topT ?_ ?_); omega) | ((with_reducible refine WL.topF ?_ ?_); omega) | ((with_reducible refine WL.top64 ?_ ?_); omega) | refine WC.seq ?_ | refine WC.block ?_ | refine WC.region ?_ | refine WL.nil ?_ | refine WC.skip ?_ | refine WC.exit ?_ | refine WC.ret ?_ | refine WQ.then rfl ?_ | refine WQ.thenExit ?_ | refine WQ.thenRet ?_ | refine WQ.blk ?_ | refine WQ.blkRet ?_ | refine WQ.blkHere rfl ?_ | refine WQ.blkOther rfl ?_ | refine WL.pure rfl rfl rfl rfl ?_ | refine WL.on rfl rfl ?_ | refine WL.off rfl rfl rfl ?_ | refine WC.condTrue rfl ?_ | refine WC.condFalse rfl ?_)
    refine WL.store (v := .int .i64 (zag u)) rfl rfl rfl rfl rfl rfl (by kernel_rfl) (hblk4.cell 1 (by simp)) (hblk4.free 1) ?_
    obtain ⟨h5, hk5⟩ := stB (i := 1) (.int .i64 (zag u)) h4 (hk3.trans hk4)
    have hblk5 := hblk4.set 1 (.int .i64 (zag u))
    generalize w4.setCell ⟨vb, 1, none⟩ (.int .i64 (zag u)) = w5 at h5 hk5 hblk5
    simp only [List.set_cons_zero, List.set_cons_succ] at hblk5
    repeat (first | ((with_reducible refine WL.topT ?_ ?_); omega) | ((with_reducible refine WL.topF ?_ ?_); omega) | ((with_reducible refine WL.top64 ?_ ?_); omega) | refine WC.seq ?_ | refine WC.block ?_ | refine WC.region ?_ | refine WL.nil ?_ | refine WC.skip ?_ | refine WC.exit ?_ | refine WC.ret ?_ | refine WQ.then rfl ?_ | refine WQ.thenExit ?_ | refine WQ.thenRet ?_ | refine WQ.blk ?_ | refine WQ.blkRet ?_ | refine WQ.blkHere rfl ?_ | refine WQ.blkOther rfl ?_ | refine WL.pure rfl rfl rfl rfl ?_ | refine WL.on rfl rfl ?_ | refine WL.off rfl rfl rfl ?_ | refine WC.condTrue rfl ?_ | refine WC.condFalse rfl ?_)
    refine WL.call rfl rfl rfl rfl rfl Try.func88 rfl (by kernel_rfl) (byte_any h5) ?_
    rintro _ w6 ⟨c2, l6, e6, rfl, hc20, hc21, h6, hk6, ho6⟩
    refine ⟨_, rfl, ?_⟩
    have hblk6 := hblk5.keep hk6 ⟨hblk5.lt, by omega⟩
    repeat (first | ((with_reducible refine WL.topT ?_ ?_); omega) | ((with_reducible refine WL.topF ?_ ?_); omega) | ((with_reducible refine WL.top64 ?_ ?_); omega) | refine WC.seq ?_ | refine WC.block ?_ | refine WC.region ?_ | refine WL.nil ?_ | refine WC.skip ?_ | refine WC.exit ?_ | refine WC.ret ?_ | refine WQ.then rfl ?_ | refine WQ.thenExit ?_ | refine WQ.thenRet ?_ | refine WQ.blk ?_ | refine WQ.blkRet ?_ | refine WQ.blkHere rfl ?_ | refine WQ.blkOther rfl ?_ | refine WL.pure rfl rfl rfl rfl ?_ | refine WL.on rfl rfl ?_ | refine WL.off rfl rfl rfl ?_ | refine WC.condTrue rfl ?_ | refine WC.condFalse rfl ?_)
    refine WL.store (v := .int .i64 c2) rfl rfl rfl rfl rfl rfl (by kernel_rfl) (hblk6.cell 2 (by simp)) (hblk6.free 2) ?_
    obtain ⟨h7, hk7⟩ := stB (i := 2) (.int .i64 c2) h6 (hk5.trans hk6)
    have hblk7 := hblk6.set 2 (.int .i64 c2)
    repeat (first | ((with_reducible refine WL.topT ?_ ?_); omega) | ((with_reducible refine WL.topF ?_ ?_); omega) | ((with_reducible refine WL.top64 ?_ ?_); omega) | refine WC.seq ?_ | refine WC.block ?_ | refine WC.region ?_ | refine WL.nil ?_ | refine WC.skip ?_ | refine WC.exit ?_ | refine WC.ret ?_ | refine WQ.then rfl ?_ | refine WQ.thenExit ?_ | refine WQ.thenRet ?_ | refine WQ.blk ?_ | refine WQ.blkRet ?_ | refine WQ.blkHere rfl ?_ | refine WQ.blkOther rfl ?_ | refine WL.pure rfl rfl rfl rfl ?_ | refine WL.on rfl rfl ?_ | refine WL.off rfl rfl rfl ?_ | refine WC.condTrue rfl ?_ | refine WC.condFalse rfl ?_)
    exact WQ.meet (.mk 4 (zag u) c2 noT [] [], _, l6, _) ⟨rfl, trivial⟩ ⟨hblk7, isVo_leaf (by omega) hz (by omega) (by decide), h7, hk7, ho2.gv (Out.congr (ho4.bind (ho6.bind (Out.pure (V.mk 4 (zag u) c2 noT [] [])))) (by unfold GV; rw [if_neg k1, if_neg k2, if_neg k3, if_pos rfl]))⟩
  by_cases k5 : c = 5
  · subst k5
    repeat (first | ((with_reducible refine WL.topT ?_ ?_); omega) | ((with_reducible refine WL.topF ?_ ?_); omega) | ((with_reducible refine WL.top64 ?_ ?_); omega) | refine WC.seq ?_ | refine WC.block ?_ | refine WC.region ?_ | refine WL.nil ?_ | refine WC.skip ?_ | refine WC.exit ?_ | refine WC.ret ?_ | refine WQ.then rfl ?_ | refine WQ.thenExit ?_ | refine WQ.thenRet ?_ | refine WQ.blk ?_ | refine WQ.blkRet ?_ | refine WQ.blkHere rfl ?_ | refine WQ.blkOther rfl ?_ | refine WL.pure rfl rfl rfl rfl ?_ | refine WL.on rfl rfl ?_ | refine WL.off rfl rfl rfl ?_ | refine WC.condTrue rfl ?_ | refine WC.condFalse rfl ?_)
    refine WL.call rfl rfl rfl rfl rfl Try.func89 rfl (by kernel_rfl) (number_any h3) ?_
    rintro _ w4 ⟨u, l4, e4, rfl, hu, h4, hk4, ho4⟩
    refine ⟨_, rfl, ?_⟩
    have hz : -9223372036854775808 ≤ IntKind.i64.wrap (u : Int) ∧ IntKind.i64.wrap (u : Int) ≤ 9223372036854775807 := by rw [IntKind.wrap_i64]; omega
    have hblk4 := hblk3.keep hk4 ⟨hblk3.lt, by omega⟩
    refine WL.pure rfl rfl rfl rfl ?_
    refine WL.pure rfl rfl rfl rfl ?_
    refine WL.store (v := .int .i64 (IntKind.i64.wrap (u : Int))) rfl rfl rfl rfl rfl rfl (by kernel_rfl) (hblk4.cell 1 (by simp)) (hblk4.free 1) ?_
    obtain ⟨h5, hk5⟩ := stB (i := 1) (.int .i64 (IntKind.i64.wrap (u : Int))) h4 (hk3.trans hk4)
    have hblk5 := hblk4.set 1 (.int .i64 (IntKind.i64.wrap (u : Int)))
    repeat (first | ((with_reducible refine WL.topT ?_ ?_); omega) | ((with_reducible refine WL.topF ?_ ?_); omega) | ((with_reducible refine WL.top64 ?_ ?_); omega) | refine WC.seq ?_ | refine WC.block ?_ | refine WC.region ?_ | refine WL.nil ?_ | refine WC.skip ?_ | refine WC.exit ?_ | refine WC.ret ?_ | refine WQ.then rfl ?_ | refine WQ.thenExit ?_ | refine WQ.thenRet ?_ | refine WQ.blk ?_ | refine WQ.blkRet ?_ | refine WQ.blkHere rfl ?_ | refine WQ.blkOther rfl ?_ | refine WL.pure rfl rfl rfl rfl ?_ | refine WL.on rfl rfl ?_ | refine WL.off rfl rfl rfl ?_ | refine WC.condTrue rfl ?_ | refine WC.condFalse rfl ?_)
    exact WQ.meet (.mk 5 (IntKind.i64.wrap (u : Int)) 0 noT [] [], _, l4, _) ⟨rfl, trivial⟩ ⟨hblk5, isVo_leaf (by omega) hz (by omega) (by decide), h5, hk5, ho2.gv (Out.congr (ho4.bind (Out.pure (V.mk 5 (IntKind.i64.wrap (u : Int)) 0 noT [] []))) (by unfold GV; rw [if_neg k1, if_neg k2, if_neg k3, if_neg k4, if_pos rfl]))⟩
  by_cases k67 : c = 6 ∨ c = 7
  · have hg : GV m c = fun r => (rdT r).bind fun t r => .ok (.mk c 0 0 t [] []) r := by funext r; unfold GV; rw [if_neg k1, if_neg k2, if_neg k3, if_neg k4, if_neg k5, if_pos k67]
    rcases k67 with k6 | k7
    all_goals
      repeat (first | ((with_reducible refine WL.topT ?_ ?_); omega) | ((with_reducible refine WL.topF ?_ ?_); omega) | ((with_reducible refine WL.top64 ?_ ?_); omega) | refine WC.seq ?_ | refine WC.block ?_ | refine WC.region ?_ | refine WL.nil ?_ | refine WC.skip ?_ | refine WC.exit ?_ | refine WC.ret ?_ | refine WQ.then rfl ?_ | refine WQ.thenExit ?_ | refine WQ.thenRet ?_ | refine WQ.blk ?_ | refine WQ.blkRet ?_ | refine WQ.blkHere rfl ?_ | refine WQ.blkOther rfl ?_ | refine WL.pure rfl rfl rfl rfl ?_ | refine WL.on rfl rfl ?_ | refine WL.off rfl rfl rfl ?_ | refine WC.condTrue rfl ?_ | refine WC.condFalse rfl ?_)
      refine WL.call rfl rfl rfl rfl rfl Try.func90 rfl (by kernel_rfl) (text_any h3) ?_
      rintro _ w4 ⟨t, l4, e4, rfl, ht, h4, hk4, ho4⟩
      refine ⟨_, rfl, ?_⟩
      have hblk4 := hblk3.keep hk4 ⟨hblk3.lt, by omega⟩
      repeat (first | ((with_reducible refine WL.topT ?_ ?_); omega) | ((with_reducible refine WL.topF ?_ ?_); omega) | ((with_reducible refine WL.top64 ?_ ?_); omega) | refine WC.seq ?_ | refine WC.block ?_ | refine WC.region ?_ | refine WL.nil ?_ | refine WC.skip ?_ | refine WC.exit ?_ | refine WC.ret ?_ | refine WQ.then rfl ?_ | refine WQ.thenExit ?_ | refine WQ.thenRet ?_ | refine WQ.blk ?_ | refine WQ.blkRet ?_ | refine WQ.blkHere rfl ?_ | refine WQ.blkOther rfl ?_ | refine WL.pure rfl rfl rfl rfl ?_ | refine WL.on rfl rfl ?_ | refine WL.off rfl rfl rfl ?_ | refine WC.condTrue rfl ?_ | refine WC.condFalse rfl ?_)
      refine WL.store (v := .string t) rfl rfl rfl rfl rfl rfl (by kernel_rfl) (hblk4.cell 3 (by simp)) (hblk4.free 3) ?_
      obtain ⟨h5, hk5⟩ := stB (i := 3) (.string t) h4 (hk3.trans hk4)
      have hblk5 := hblk4.set 3 (.string t)
      repeat (first | ((with_reducible refine WL.topT ?_ ?_); omega) | ((with_reducible refine WL.topF ?_ ?_); omega) | ((with_reducible refine WL.top64 ?_ ?_); omega) | refine WC.seq ?_ | refine WC.block ?_ | refine WC.region ?_ | refine WL.nil ?_ | refine WC.skip ?_ | refine WC.exit ?_ | refine WC.ret ?_ | refine WQ.then rfl ?_ | refine WQ.thenExit ?_ | refine WQ.thenRet ?_ | refine WQ.blk ?_ | refine WQ.blkRet ?_ | refine WQ.blkHere rfl ?_ | refine WQ.blkOther rfl ?_ | refine WL.pure rfl rfl rfl rfl ?_ | refine WL.on rfl rfl ?_ | refine WL.off rfl rfl rfl ?_ | refine WC.condTrue rfl ?_ | refine WC.condFalse rfl ?_)
      exact WQ.meet (.mk c 0 0 t [] [], _, l4, _) ⟨rfl, trivial⟩ ⟨hblk5, isVo_leaf (by omega) (by omega) (by omega) (by omega), h5, hk5, ho2.gv (by rw [hg]; exact ho4.bind (Out.pure (V.mk c 0 0 t [] [])))⟩
  by_cases k89 : c = 8 ∨ c = 9
  · have hg : GV m c = fun r => (rdC r).bind fun n r => (rdK (rdV m) (decide (c = 9)) n [] [] r).bind fun p r => .ok (.mk c 0 0 noT p.1 p.2) r := by
      funext r; unfold GV; rw [if_neg k1, if_neg k2, if_neg k3, if_neg k4, if_neg k5, if_neg k67, if_pos k89]
    rcases k89 with k8 | k9
    · repeat (first | ((with_reducible refine WL.topT ?_ ?_); omega) | ((with_reducible refine WL.topF ?_ ?_); omega) | ((with_reducible refine WL.top64 ?_ ?_); omega) | refine WC.seq ?_ | refine WC.block ?_ | refine WC.region ?_ | refine WL.nil ?_ | refine WC.skip ?_ | refine WC.exit ?_ | refine WC.ret ?_ | refine WQ.then rfl ?_ | refine WQ.thenExit ?_ | refine WQ.thenRet ?_ | refine WQ.blk ?_ | refine WQ.blkRet ?_ | refine WQ.blkHere rfl ?_ | refine WQ.blkOther rfl ?_ | refine WL.pure rfl rfl rfl rfl ?_ | refine WL.on rfl rfl ?_ | refine WL.off rfl rfl rfl ?_ | refine WC.condTrue rfl ?_ | refine WC.condFalse rfl ?_)
      refine WL.call rfl rfl rfl rfl rfl Try.func91 rfl (by kernel_rfl) (count_any h3) ?_
      rintro _ w4 ⟨n, l4, e4, rfl, hn, h4, hk4, ho4⟩
      refine ⟨_, rfl, ?_⟩
      have hblk4 := hblk3.keep hk4 ⟨hblk3.lt, by omega⟩
      rw [show decide (c = 9) = false by simp [k8]] at hg
      repeat (first | ((with_reducible refine WL.topT ?_ ?_); omega) | ((with_reducible refine WL.topF ?_ ?_); omega) | ((with_reducible refine WL.top64 ?_ ?_); omega) | refine WC.seq ?_ | refine WC.block ?_ | refine WC.region ?_ | refine WL.nil ?_ | refine WC.skip ?_ | refine WC.exit ?_ | refine WC.ret ?_ | refine WQ.then rfl ?_ | refine WQ.thenExit ?_ | refine WQ.thenRet ?_ | refine WQ.blk ?_ | refine WQ.blkRet ?_ | refine WQ.blkHere rfl ?_ | refine WQ.blkOther rfl ?_ | refine WL.pure rfl rfl rfl rfl ?_ | refine WL.on rfl rfl ?_ | refine WL.off rfl rfl rfl ?_ | refine WC.condTrue rfl ?_ | refine WC.condFalse rfl ?_)
      refine WC.loop (fun i : Nat × List ByteArray × List V × List Int × Int => [(0, .pointer (some ⟨rb, 0, none⟩)), (1, .int .i64 d), (4, .pointer (some ⟨vb, 0, none⟩)), (63, .int .i64 n), (64, .int .i64 i.1)])
        (fun i wr => i.1 ≤ n ∧ i.2.1.length ≤ i.1 ∧ i.2.2.1.length ≤ i.1 ∧ (∃ sn sk q, KidsW rb vb (m + 1) c w wr i.2.1 i.2.2.1 sn sk q) ∧ RS B wr rb i.2.2.2.1 i.2.2.2.2 ∧
          ∀ p l' e', Out (rdK (rdV m) false (n - i.1) i.2.1 i.2.2.1) i.2.2.2.1 i.2.2.2.2 p l' e' → Out (rdK (rdV m) false n [] []) l4 e4 p l' e') (fun i => n - i.1) (0, [], [], l4, e4)
        ⟨rfl, rfl, rfl, rfl, rfl, trivial⟩ ⟨Nat.zero_le _, Nat.le_refl _, Nat.le_refl _, ⟨_, _, fun _ => False, hblk4, OwnE.nil _ _ _ _ _ _, OwnE.nil _ _ _ _ _ _, (fun g hg => by cases hg), (fun b hb => hb.elim), hk3.trans hk4, hvbe, by omega⟩, h4, fun _ _ _ h => h⟩ ?_
      rintro ⟨i, ns, ks, li, ei⟩ wr ⟨hi, hnl, hkl, ⟨sn, sk, q, hK⟩, hr, hcont⟩
      simp only at hi hnl hkl hK hr hcont ⊢
      have hend : ∀ {wx : World} {sn sk : Value} {ns : List ByteArray} {ks : List V} {q : Nat → Prop} {li : List Int} {ei : Int}, KidsW rb vb (m + 1) c w wx ns ks sn sk q → RS B wx rb li ei → Out (rdK (rdV m) false n [] []) l4 e4 (ns, ks) li ei →
          VBlk 60 wx vb [.int .i64 c, .int .i64 0, .int .i64 0, .string ByteArray.empty, sn, sk] ∧ IsVo (fun b => w.heap.size ≤ b ∧ b ≠ vb) (m + 1 + 1) wx (.mk c 0 0 noT ns ks) [.int .i64 c, .int .i64 0, .int .i64 0, .string ByteArray.empty, sn, sk] ∧ RS B wx rb li ei ∧ KeepR rb w wx ∧ Out (rdV (m + 1)) l e (.mk c 0 0 noT ns ks) li ei :=
        fun {wx sn sk ns ks q li ei} h1 h2 h3 => ⟨h1.blk, ⟨sn, sk, rfl, wf_i64 (by show -9223372036854775808 ≤ c ∧ c ≤ _; omega), wf_i64 (by show -9223372036854775808 ≤ (0 : Int) ∧ (0 : Int) ≤ _; omega), wf_i64 (by show -9223372036854775808 ≤ (0 : Int) ∧ (0 : Int) ≤ _; omega), by show ByteArray.empty.size ≤ _; decide, h1.names.els, h1.kids.els.mono (fun _ h => h) fun x cs hx => hx.mono fun b hb => ⟨(h1.qs b hb).1, (h1.qs b hb).2.2.1⟩⟩, h2, h1.keep,
          ho2.gv (by rw [hg]; exact ho4.bind (h3.bind (Out.pure (V.mk c 0 0 noT ns ks))))⟩
      by_cases hin : i < n
      · obtain ⟨rsp, rcap, hrb, -⟩ := hr.ex
        repeat (first | ((with_reducible refine WL.topT ?_ ?_); omega) | ((with_reducible refine WL.topF ?_ ?_); omega) | ((with_reducible refine WL.top64 ?_ ?_); omega) | refine WC.seq ?_ | refine WC.block ?_ | refine WC.region ?_ | refine WL.nil ?_ | refine WC.skip ?_ | refine WC.exit ?_ | refine WC.ret ?_ | refine WQ.then rfl ?_ | refine WQ.thenExit ?_ | refine WQ.thenRet ?_ | refine WQ.blk ?_ | refine WQ.blkRet ?_ | refine WQ.blkHere rfl ?_ | refine WQ.blkOther rfl ?_ | refine WL.pure rfl rfl rfl rfl ?_ | refine WL.on rfl rfl ?_ | refine WL.off rfl rfl rfl ?_ | refine WC.condTrue rfl ?_ | refine WC.condFalse rfl ?_)
        refine WL.load rfl rfl rfl rfl rfl rfl (hrb.cell 1 (by simp)) ?_
        by_cases hei : ei = 0
        · subst hei
          have hni : n - i = (n - (i + 1)) + 1 := by omega
          rw [hni] at hcont
          have hwr := hK.keep.size
          repeat (first | ((with_reducible refine WL.topT ?_ ?_); omega) | ((with_reducible refine WL.topF ?_ ?_); omega) | ((with_reducible refine WL.top64 ?_ ?_); omega) | refine WC.seq ?_ | refine WC.block ?_ | refine WC.region ?_ | refine WL.nil ?_ | refine WC.skip ?_ | refine WC.exit ?_ | refine WC.ret ?_ | refine WQ.then rfl ?_ | refine WQ.thenExit ?_ | refine WQ.thenRet ?_ | refine WQ.blk ?_ | refine WQ.blkRet ?_ | refine WQ.blkHere rfl ?_ | refine WQ.blkOther rfl ?_ | refine WL.pure rfl rfl rfl rfl ?_ | refine WL.on rfl rfl ?_ | refine WL.off rfl rfl rfl ?_ | refine WC.condTrue rfl ?_ | refine WC.condFalse rfl ?_)
          refine WL.load rfl rfl rfl rfl rfl rfl (hK.blk.cell 0 (by simp)) ?_
          repeat (first | ((with_reducible refine WL.topT ?_ ?_); omega) | ((with_reducible refine WL.topF ?_ ?_); omega) | ((with_reducible refine WL.top64 ?_ ?_); omega) | refine WC.seq ?_ | refine WC.block ?_ | refine WC.region ?_ | refine WL.nil ?_ | refine WC.skip ?_ | refine WC.exit ?_ | refine WC.ret ?_ | refine WQ.then rfl ?_ | refine WQ.thenExit ?_ | refine WQ.thenRet ?_ | refine WQ.blk ?_ | refine WQ.blkRet ?_ | refine WQ.blkHere rfl ?_ | refine WQ.blkOther rfl ?_ | refine WL.pure rfl rfl rfl rfl ?_ | refine WL.on rfl rfl ?_ | refine WL.off rfl rfl rfl ?_ | refine WC.condTrue rfl ?_ | refine WC.condFalse rfl ?_)
          refine WL.load rfl rfl rfl rfl rfl rfl (hrb.cell 1 (by simp)) ?_
          repeat (first | ((with_reducible refine WL.topT ?_ ?_); omega) | ((with_reducible refine WL.topF ?_ ?_); omega) | ((with_reducible refine WL.top64 ?_ ?_); omega) | refine WC.seq ?_ | refine WC.block ?_ | refine WC.region ?_ | refine WL.nil ?_ | refine WC.skip ?_ | refine WC.exit ?_ | refine WC.ret ?_ | refine WQ.then rfl ?_ | refine WQ.thenExit ?_ | refine WQ.thenRet ?_ | refine WQ.blk ?_ | refine WQ.blkRet ?_ | refine WQ.blkHere rfl ?_ | refine WQ.blkOther rfl ?_ | refine WL.pure rfl rfl rfl rfl ?_ | refine WL.on rfl rfl ?_ | refine WL.off rfl rfl rfl ?_ | refine WC.condTrue rfl ?_ | refine WC.condFalse rfl ?_)
          refine WC.drawn 9 (fun wx => VBlk 60 wx vb [.int .i64 c, .int .i64 0, .int .i64 0, .string ByteArray.empty, sn, sk]) fun w5 hd5 => ?_
          have hK5 := hK.below (hd5.below _)
          have hr5 := hr.keep (Keep.of_below (hd5.below wr.heap.size)) fun b hb => by omega
          have hsz5 : wr.heap.size ≤ w5.heap.size := (hd5.below 0).size
          have hS := hK5.blk
          (((first | refine WD.free 0 rfl (by kernel_rfl) rfl rfl (fun _ _ _ _ _ h => h) rfl rfl (.inr hS) ?_ | refine WD.skip 0 rfl (by kernel_rfl) rfl rfl (fun _ _ _ _ _ h => h) rfl (.inr hS) ?_); try (first | ((with_reducible refine WD.topT ?_ ?_); omega) | ((with_reducible refine WD.topF ?_ ?_); omega) | ((with_reducible refine WD.top64 ?_ ?_); omega))))
          refine WD.load 1 [7, 8, 9] rfl (by kernel_rfl) rfl rfl (fun _ _ _ _ _ h => h) rfl rfl rfl rfl (fun wx hx => hx.cell 5 (by simp)) hS ?_
          (((first | refine WD.free 2 rfl (by kernel_rfl) rfl rfl (fun _ _ _ _ _ h => h) rfl rfl (.inr hS) ?_ | refine WD.skip 2 rfl (by kernel_rfl) rfl rfl (fun _ _ _ _ _ h => h) rfl (.inr hS) ?_); try (first | ((with_reducible refine WD.topT ?_ ?_); omega) | ((with_reducible refine WD.topF ?_ ?_); omega) | ((with_reducible refine WD.top64 ?_ ?_); omega))); ((first | refine WD.free 3 rfl (by kernel_rfl) rfl rfl (fun _ _ _ _ _ h => h) rfl rfl (.inr hS) ?_ | refine WD.skip 3 rfl (by kernel_rfl) rfl rfl (fun _ _ _ _ _ h => h) rfl (.inr hS) ?_); try (first | ((with_reducible refine WD.topT ?_ ?_); omega) | ((with_reducible refine WD.topF ?_ ?_); omega) | ((with_reducible refine WD.top64 ?_ ?_); omega))); ((first | refine WD.free 4 rfl (by kernel_rfl) rfl rfl (fun _ _ _ _ _ h => h) rfl rfl (.inr hS) ?_ | refine WD.skip 4 rfl (by kernel_rfl) rfl rfl (fun _ _ _ _ _ h => h) rfl (.inr hS) ?_); try (first | ((with_reducible refine WD.topT ?_ ?_); omega) | ((with_reducible refine WD.topF ?_ ?_); omega) | ((with_reducible refine WD.top64 ?_ ?_); omega))))
          refine WD.one 5 (by kernel_rfl) rfl ?_
          refine WL.call rfl rfl rfl rfl rfl Try.func81 rfl (by kernel_rfl) (ih (d + 1) (by omega) hr5 (by omega)) ?_
          rintro _ w6 ⟨v, cs, l6, e6, rfl, hv6, hr6, hk6, ho6⟩
          refine ⟨_, rfl, ?_⟩
          have hvb5 := hK5.blk.lt
          have hsn5 : ∀ g, (sn).ownBlock = some g → g < w5.heap.size := fun g hg => hK5.names.lt hg
          have hsk5 : ∀ g, sk.ownBlock = some g → g < w5.heap.size := fun g hg => hK5.kids.lt hg
          have hK6 := hK5.read hk6
          refine WL.nil (WQ.dk (.inr hK6.blk) ?_)
          refine WD.one 6 (by kernel_rfl) rfl ?_
          refine WL.lit1 rfl rfl rfl rfl rfl rfl rfl hv6.len ⟨by omega, by omega⟩ (by kernel_rfl) fun g7 w7 hf7 => ?_
          have hK7 := (hK6.below hf7.below).widen (S := w5.heap.size) (by have := hK5.keep.size; omega) hvb5 hsn5 hsk5
          have hr7 := hr6.keep (Keep.of_below hf7.below) fun b hb => by have := hk6.size; omega
          have hv7 := hv6.there.keep (O' := fun b => q b ∨ (w5.heap.size ≤ b ∧ b < w7.heap.size)) (Keep.of_below hf7.below) (fun b _ h => h) fun b hb => .inr ⟨hb.1, by have := hf7.size; omega⟩
          refine WL.nil (WQ.dk (.inr hK7.blk) ?_)
          refine WD.one 7 (by kernel_rfl) rfl ?_
          refine WL.snoc rfl rfl rfl rfl elemV6 rfl hK7.kids rfl hf7.blk hv6.one hv6.len hv7 (by omega) (by omega) fun sk8 w8 ho8 hg8 => ?_
          obtain ⟨hb8, hK9⟩ := hK7.setK ho8 hg8
          refine WL.nil (WQ.dk (.inr hb8) ?_)
          have hsk8 : sk8.oneCell' = true := ho8.one
          refine WD.one 8 (by kernel_rfl) rfl ?_
          refine WL.pure rfl rfl rfl rfl ?_
          refine WL.nil (WQ.dk (.inr hb8) ?_)
          refine WD.one 9 (by kernel_rfl) rfl ?_
          refine WL.store rfl rfl rfl rfl rfl hsk8 (by kernel_rfl) (hb8.cell 5 (by simp)) (hb8.free 5) ?_
          have hr9 : RS B (w8.setCell ⟨vb, 5, none⟩ sk8) rb l6 e6 := (hr7.keep hg8.1 fun b hb => ⟨by have := hr7.ex; have := hf7.size; have := hk6.size; omega, fun e => by have := (hK7.kids.own e).1; omega⟩).keep (K := fun b => b ≠ vb) ((Keep.refl _ w8).setCell (fun hk => hk rfl) _) fun b hb => by omega
          generalize w8.setCell ⟨vb, 5, none⟩ sk8 = w9 at hK9 hr9
          refine WL.nil (WQ.dk (.inl rfl) ?_)
          refine WD.done (by kernel_rfl) ?_
          repeat (first | ((with_reducible refine WL.topT ?_ ?_); omega) | ((with_reducible refine WL.topF ?_ ?_); omega) | ((with_reducible refine WL.top64 ?_ ?_); omega) | refine WC.seq ?_ | refine WC.block ?_ | refine WC.region ?_ | refine WL.nil ?_ | refine WC.skip ?_ | refine WC.exit ?_ | refine WC.ret ?_ | refine WQ.then rfl ?_ | refine WQ.thenExit ?_ | refine WQ.thenRet ?_ | refine WQ.blk ?_ | refine WQ.blkRet ?_ | refine WQ.blkHere rfl ?_ | refine WQ.blkOther rfl ?_ | refine WL.pure rfl rfl rfl rfl ?_ | refine WL.on rfl rfl ?_ | refine WL.off rfl rfl rfl ?_ | refine WC.condTrue rfl ?_ | refine WC.condFalse rfl ?_)
          refine WQ.again (i + 1, ns, ks ++ [v], l6, e6) ⟨rfl, rfl, rfl, rfl, rfl, trivial⟩ ⟨hin, by show ns.length ≤ i + 1; omega, by simp only [List.length_append, List.length_cons, List.length_nil]; omega, ⟨sn, sk8, _, hK9⟩, hr9, fun p l' e' ho => ?_⟩ (by show n - (i + 1) < n - i; omega)
          refine hcont p l' e' (Out.congr (ho6.bind (g := fun v r' => rdK (rdV m) false (n - (i + 1)) ns (ks ++ [v]) r') ho) ?_)
          rw [rdK, if_neg (by simp)]
        · repeat (first | ((with_reducible refine WL.topT ?_ ?_); omega) | ((with_reducible refine WL.topF ?_ ?_); omega) | ((with_reducible refine WL.top64 ?_ ?_); omega) | refine WC.seq ?_ | refine WC.block ?_ | refine WC.region ?_ | refine WL.nil ?_ | refine WC.skip ?_ | refine WC.exit ?_ | refine WC.ret ?_ | refine WQ.then rfl ?_ | refine WQ.thenExit ?_ | refine WQ.thenRet ?_ | refine WQ.blk ?_ | refine WQ.blkRet ?_ | refine WQ.blkHere rfl ?_ | refine WQ.blkOther rfl ?_ | refine WL.pure rfl rfl rfl rfl ?_ | refine WL.on rfl rfl ?_ | refine WL.off rfl rfl rfl ?_ | refine WC.condTrue rfl ?_ | refine WC.condFalse rfl ?_)
          exact WQ.meet (.mk c 0 0 noT ns ks, _, li, ei) ⟨rfl, trivial⟩ (hend hK hr (hcont _ _ _ (.ofBad hei)))
      · obtain rfl : i = n := by omega
        repeat (first | ((with_reducible refine WL.topT ?_ ?_); omega) | ((with_reducible refine WL.topF ?_ ?_); omega) | ((with_reducible refine WL.top64 ?_ ?_); omega) | refine WC.seq ?_ | refine WC.block ?_ | refine WC.region ?_ | refine WL.nil ?_ | refine WC.skip ?_ | refine WC.exit ?_ | refine WC.ret ?_ | refine WQ.then rfl ?_ | refine WQ.thenExit ?_ | refine WQ.thenRet ?_ | refine WQ.blk ?_ | refine WQ.blkRet ?_ | refine WQ.blkHere rfl ?_ | refine WQ.blkOther rfl ?_ | refine WL.pure rfl rfl rfl rfl ?_ | refine WL.on rfl rfl ?_ | refine WL.off rfl rfl rfl ?_ | refine WC.condTrue rfl ?_ | refine WC.condFalse rfl ?_)
        exact WQ.meet (.mk c 0 0 noT ns ks, _, li, ei) ⟨rfl, trivial⟩ (hend hK hr (hcont _ _ _ (Out.congr (Out.pure _) (by rw [Nat.sub_self]; rfl))))
    · repeat (first | ((with_reducible refine WL.topT ?_ ?_); omega) | ((with_reducible refine WL.topF ?_ ?_); omega) | ((with_reducible refine WL.top64 ?_ ?_); omega) | refine WC.seq ?_ | refine WC.block ?_ | refine WC.region ?_ | refine WL.nil ?_ | refine WC.skip ?_ | refine WC.exit ?_ | refine WC.ret ?_ | refine WQ.then rfl ?_ | refine WQ.thenExit ?_ | refine WQ.thenRet ?_ | refine WQ.blk ?_ | refine WQ.blkRet ?_ | refine WQ.blkHere rfl ?_ | refine WQ.blkOther rfl ?_ | refine WL.pure rfl rfl rfl rfl ?_ | refine WL.on rfl rfl ?_ | refine WL.off rfl rfl rfl ?_ | refine WC.condTrue rfl ?_ | refine WC.condFalse rfl ?_)
      refine WL.call rfl rfl rfl rfl rfl Try.func91 rfl (by kernel_rfl) (count_any h3) ?_
      rintro _ w4 ⟨n, l4, e4, rfl, hn, h4, hk4, ho4⟩
      refine ⟨_, rfl, ?_⟩
      have hblk4 := hblk3.keep hk4 ⟨hblk3.lt, by omega⟩
      rw [show decide (c = 9) = true by simp [k9]] at hg
      repeat (first | ((with_reducible refine WL.topT ?_ ?_); omega) | ((with_reducible refine WL.topF ?_ ?_); omega) | ((with_reducible refine WL.top64 ?_ ?_); omega) | refine WC.seq ?_ | refine WC.block ?_ | refine WC.region ?_ | refine WL.nil ?_ | refine WC.skip ?_ | refine WC.exit ?_ | refine WC.ret ?_ | refine WQ.then rfl ?_ | refine WQ.thenExit ?_ | refine WQ.thenRet ?_ | refine WQ.blk ?_ | refine WQ.blkRet ?_ | refine WQ.blkHere rfl ?_ | refine WQ.blkOther rfl ?_ | refine WL.pure rfl rfl rfl rfl ?_ | refine WL.on rfl rfl ?_ | refine WL.off rfl rfl rfl ?_ | refine WC.condTrue rfl ?_ | refine WC.condFalse rfl ?_)
      refine WC.loop (fun i : Nat × List ByteArray × List V × List Int × Int => [(0, .pointer (some ⟨rb, 0, none⟩)), (1, .int .i64 d), (4, .pointer (some ⟨vb, 0, none⟩)), (63, .int .i64 n), (64, .int .i64 i.1)])
        (fun i wr => i.1 ≤ n ∧ i.2.1.length ≤ i.1 ∧ i.2.2.1.length ≤ i.1 ∧ (∃ sn sk q, KidsW rb vb (m + 1) c w wr i.2.1 i.2.2.1 sn sk q) ∧ RS B wr rb i.2.2.2.1 i.2.2.2.2 ∧
          ∀ p l' e', Out (rdK (rdV m) true (n - i.1) i.2.1 i.2.2.1) i.2.2.2.1 i.2.2.2.2 p l' e' → Out (rdK (rdV m) true n [] []) l4 e4 p l' e') (fun i => n - i.1) (0, [], [], l4, e4)
        ⟨rfl, rfl, rfl, rfl, rfl, trivial⟩ ⟨Nat.zero_le _, Nat.le_refl _, Nat.le_refl _, ⟨_, _, fun _ => False, hblk4, OwnE.nil _ _ _ _ _ _, OwnE.nil _ _ _ _ _ _, (fun g hg => by cases hg), (fun b hb => hb.elim), hk3.trans hk4, hvbe, by omega⟩, h4, fun _ _ _ h => h⟩ ?_
      rintro ⟨i, ns, ks, li, ei⟩ wr ⟨hi, hnl, hkl, ⟨sn, sk, q, hK⟩, hr, hcont⟩
      simp only at hi hnl hkl hK hr hcont ⊢
      have hend : ∀ {wx : World} {sn sk : Value} {ns : List ByteArray} {ks : List V} {q : Nat → Prop} {li : List Int} {ei : Int}, KidsW rb vb (m + 1) c w wx ns ks sn sk q → RS B wx rb li ei → Out (rdK (rdV m) true n [] []) l4 e4 (ns, ks) li ei →
          VBlk 60 wx vb [.int .i64 c, .int .i64 0, .int .i64 0, .string ByteArray.empty, sn, sk] ∧ IsVo (fun b => w.heap.size ≤ b ∧ b ≠ vb) (m + 1 + 1) wx (.mk c 0 0 noT ns ks) [.int .i64 c, .int .i64 0, .int .i64 0, .string ByteArray.empty, sn, sk] ∧ RS B wx rb li ei ∧ KeepR rb w wx ∧ Out (rdV (m + 1)) l e (.mk c 0 0 noT ns ks) li ei :=
        fun {wx sn sk ns ks q li ei} h1 h2 h3 => ⟨h1.blk, ⟨sn, sk, rfl, wf_i64 (by show -9223372036854775808 ≤ c ∧ c ≤ _; omega), wf_i64 (by show -9223372036854775808 ≤ (0 : Int) ∧ (0 : Int) ≤ _; omega), wf_i64 (by show -9223372036854775808 ≤ (0 : Int) ∧ (0 : Int) ≤ _; omega), by show ByteArray.empty.size ≤ _; decide, h1.names.els, h1.kids.els.mono (fun _ h => h) fun x cs hx => hx.mono fun b hb => ⟨(h1.qs b hb).1, (h1.qs b hb).2.2.1⟩⟩, h2, h1.keep,
          ho2.gv (by rw [hg]; exact ho4.bind (h3.bind (Out.pure (V.mk c 0 0 noT ns ks))))⟩
      by_cases hin : i < n
      · obtain ⟨rsp, rcap, hrb, -⟩ := hr.ex
        repeat (first | ((with_reducible refine WL.topT ?_ ?_); omega) | ((with_reducible refine WL.topF ?_ ?_); omega) | ((with_reducible refine WL.top64 ?_ ?_); omega) | refine WC.seq ?_ | refine WC.block ?_ | refine WC.region ?_ | refine WL.nil ?_ | refine WC.skip ?_ | refine WC.exit ?_ | refine WC.ret ?_ | refine WQ.then rfl ?_ | refine WQ.thenExit ?_ | refine WQ.thenRet ?_ | refine WQ.blk ?_ | refine WQ.blkRet ?_ | refine WQ.blkHere rfl ?_ | refine WQ.blkOther rfl ?_ | refine WL.pure rfl rfl rfl rfl ?_ | refine WL.on rfl rfl ?_ | refine WL.off rfl rfl rfl ?_ | refine WC.condTrue rfl ?_ | refine WC.condFalse rfl ?_)
        refine WL.load rfl rfl rfl rfl rfl rfl (hrb.cell 1 (by simp)) ?_
        by_cases hei : ei = 0
        · subst hei
          have hni : n - i = (n - (i + 1)) + 1 := by omega
          rw [hni] at hcont
          have hwr := hK.keep.size
          repeat (first | ((with_reducible refine WL.topT ?_ ?_); omega) | ((with_reducible refine WL.topF ?_ ?_); omega) | ((with_reducible refine WL.top64 ?_ ?_); omega) | refine WC.seq ?_ | refine WC.block ?_ | refine WC.region ?_ | refine WL.nil ?_ | refine WC.skip ?_ | refine WC.exit ?_ | refine WC.ret ?_ | refine WQ.then rfl ?_ | refine WQ.thenExit ?_ | refine WQ.thenRet ?_ | refine WQ.blk ?_ | refine WQ.blkRet ?_ | refine WQ.blkHere rfl ?_ | refine WQ.blkOther rfl ?_ | refine WL.pure rfl rfl rfl rfl ?_ | refine WL.on rfl rfl ?_ | refine WL.off rfl rfl rfl ?_ | refine WC.condTrue rfl ?_ | refine WC.condFalse rfl ?_)
          refine WL.load rfl rfl rfl rfl rfl rfl (hK.blk.cell 0 (by simp)) ?_
          repeat (first | ((with_reducible refine WL.topT ?_ ?_); omega) | ((with_reducible refine WL.topF ?_ ?_); omega) | ((with_reducible refine WL.top64 ?_ ?_); omega) | refine WC.seq ?_ | refine WC.block ?_ | refine WC.region ?_ | refine WL.nil ?_ | refine WC.skip ?_ | refine WC.exit ?_ | refine WC.ret ?_ | refine WQ.then rfl ?_ | refine WQ.thenExit ?_ | refine WQ.thenRet ?_ | refine WQ.blk ?_ | refine WQ.blkRet ?_ | refine WQ.blkHere rfl ?_ | refine WQ.blkOther rfl ?_ | refine WL.pure rfl rfl rfl rfl ?_ | refine WL.on rfl rfl ?_ | refine WL.off rfl rfl rfl ?_ | refine WC.condTrue rfl ?_ | refine WC.condFalse rfl ?_)
          refine WC.drawn 7 (fun wx => VBlk 60 wx vb [.int .i64 c, .int .i64 0, .int .i64 0, .string ByteArray.empty, sn, sk]) fun w5 hd5 => ?_
          have hK5 := hK.below (hd5.below _)
          have hr5 := hr.keep (Keep.of_below (hd5.below wr.heap.size)) fun b hb => by omega
          have hsz5 : wr.heap.size ≤ w5.heap.size := (hd5.below 0).size
          have hS := hK5.blk
          (((first | refine WD.free 0 rfl (by kernel_rfl) rfl rfl (fun _ _ _ _ _ h => h) rfl rfl (.inr hS) ?_ | refine WD.skip 0 rfl (by kernel_rfl) rfl rfl (fun _ _ _ _ _ h => h) rfl (.inr hS) ?_); try (first | ((with_reducible refine WD.topT ?_ ?_); omega) | ((with_reducible refine WD.topF ?_ ?_); omega) | ((with_reducible refine WD.top64 ?_ ?_); omega))))
          refine WD.load 1 [5, 6, 7] rfl (by kernel_rfl) rfl rfl (fun _ _ _ _ _ h => h) rfl rfl rfl rfl (fun wx hx => hx.cell 4 (by simp)) hS ?_
          (((first | refine WD.free 2 rfl (by kernel_rfl) rfl rfl (fun _ _ _ _ _ h => h) rfl rfl (.inr hS) ?_ | refine WD.skip 2 rfl (by kernel_rfl) rfl rfl (fun _ _ _ _ _ h => h) rfl (.inr hS) ?_); try (first | ((with_reducible refine WD.topT ?_ ?_); omega) | ((with_reducible refine WD.topF ?_ ?_); omega) | ((with_reducible refine WD.top64 ?_ ?_); omega))))
          refine WD.one 3 (by kernel_rfl) rfl ?_
          refine WL.call rfl rfl rfl rfl rfl Try.func90 rfl (by kernel_rfl) (text_any hr5) ?_
          rintro _ w6 ⟨t, lt, et, rfl, ht, hr6, hk6, hot⟩
          refine ⟨_, rfl, ?_⟩
          have hK6 := hK5.read hk6
          refine WL.nil (WQ.dk (.inr hK6.blk) ?_)
          refine WD.one 4 (by kernel_rfl) rfl ?_
          refine WL.lit1 (cs := [.string t]) rfl rfl rfl rfl rfl rfl rfl rfl ⟨by omega, by omega⟩ (by kernel_rfl) fun g7 w7 hf7 => ?_
          have hK7 := hK6.below hf7.below
          have hr7 := hr6.keep (Keep.of_below hf7.below) fun b hb => by have := hk6.size; omega
          refine WL.nil (WQ.dk (.inr hK7.blk) ?_)
          refine WD.one 5 (by kernel_rfl) rfl ?_
          refine WL.snoc (y := t) rfl rfl rfl rfl elemS1 rfl hK7.names rfl hf7.blk (by intro u hu; simp at hu; rw [hu]; rfl) rfl ⟨rfl, by omega⟩ (by omega) (by omega) fun sn8 w8 ho8 hg8 => ?_
          obtain ⟨hb8, hK9⟩ := hK7.setN ho8 hg8
          refine WL.nil (WQ.dk (.inr hb8) ?_)
          have hsn8 : sn8.oneCell' = true := ho8.one
          refine WD.one 6 (by kernel_rfl) rfl ?_
          refine WL.pure rfl rfl rfl rfl ?_
          refine WL.nil (WQ.dk (.inr hb8) ?_)
          refine WD.one 7 (by kernel_rfl) rfl ?_
          refine WL.store rfl rfl rfl rfl rfl hsn8 (by kernel_rfl) (hb8.cell 4 (by simp)) (hb8.free 4) ?_
          have hr9 : RS B (w8.setCell ⟨vb, 4, none⟩ sn8) rb lt et := (hr7.keep hg8.1 fun b hb => ⟨by have := hf7.size; have := hk6.size; omega, fun e => by have := (hK7.names.own e).1; omega⟩).keep (K := fun b => b ≠ vb) ((Keep.refl _ w8).setCell (fun hk => hk rfl) _) fun b hb => by omega
          generalize w8.setCell ⟨vb, 4, none⟩ sn8 = w9 at hK9 hr9
          refine WL.nil (WQ.dk (.inl rfl) ?_)
          refine WD.done (by kernel_rfl) ?_
          obtain ⟨rsp9, rcap9, hrb9, -⟩ := hr9.ex
          clear hK7 hr7 hb8 hK6 hr6 hK5 hr5 hS hk6 ho8 hg8
          repeat (first | ((with_reducible refine WL.topT ?_ ?_); omega) | ((with_reducible refine WL.topF ?_ ?_); omega) | ((with_reducible refine WL.top64 ?_ ?_); omega) | refine WC.seq ?_ | refine WC.block ?_ | refine WC.region ?_ | refine WL.nil ?_ | refine WC.skip ?_ | refine WC.exit ?_ | refine WC.ret ?_ | refine WQ.then rfl ?_ | refine WQ.thenExit ?_ | refine WQ.thenRet ?_ | refine WQ.blk ?_ | refine WQ.blkRet ?_ | refine WQ.blkHere rfl ?_ | refine WQ.blkOther rfl ?_ | refine WL.pure rfl rfl rfl rfl ?_ | refine WL.on rfl rfl ?_ | refine WL.off rfl rfl rfl ?_ | refine WC.condTrue rfl ?_ | refine WC.condFalse rfl ?_)
          refine WL.load rfl rfl rfl rfl rfl rfl (hrb9.cell 1 (by simp)) ?_
          by_cases het : et = 0
          · subst het
            have hwr := hK9.keep.size
            repeat (first | ((with_reducible refine WL.topT ?_ ?_); omega) | ((with_reducible refine WL.topF ?_ ?_); omega) | ((with_reducible refine WL.top64 ?_ ?_); omega) | refine WC.seq ?_ | refine WC.block ?_ | refine WC.region ?_ | refine WL.nil ?_ | refine WC.skip ?_ | refine WC.exit ?_ | refine WC.ret ?_ | refine WQ.then rfl ?_ | refine WQ.thenExit ?_ | refine WQ.thenRet ?_ | refine WQ.blk ?_ | refine WQ.blkRet ?_ | refine WQ.blkHere rfl ?_ | refine WQ.blkOther rfl ?_ | refine WL.pure rfl rfl rfl rfl ?_ | refine WL.on rfl rfl ?_ | refine WL.off rfl rfl rfl ?_ | refine WC.condTrue rfl ?_ | refine WC.condFalse rfl ?_)
            refine WC.drawn 9 (fun wx => VBlk 60 wx vb [.int .i64 c, .int .i64 0, .int .i64 0, .string ByteArray.empty, sn8, sk]) fun w15 hd5 => ?_
            have hK5 := hK9.below (hd5.below _)
            have hr5 := hr9.keep (Keep.of_below (hd5.below w9.heap.size)) fun b hb => by omega
            have hsz5 : w9.heap.size ≤ w15.heap.size := (hd5.below 0).size
            have hS := hK5.blk
            (((first | refine WD.free 0 rfl (by kernel_rfl) rfl rfl (fun _ _ _ _ _ h => h) rfl rfl (.inr hS) ?_ | refine WD.skip 0 rfl (by kernel_rfl) rfl rfl (fun _ _ _ _ _ h => h) rfl (.inr hS) ?_); try (first | ((with_reducible refine WD.topT ?_ ?_); omega) | ((with_reducible refine WD.topF ?_ ?_); omega) | ((with_reducible refine WD.top64 ?_ ?_); omega))))
            refine WD.load 1 [7, 8, 9] rfl (by kernel_rfl) rfl rfl (fun _ _ _ _ _ h => h) rfl rfl rfl rfl (fun wx hx => hx.cell 5 (by simp)) hS ?_
            (((first | refine WD.free 2 rfl (by kernel_rfl) rfl rfl (fun _ _ _ _ _ h => h) rfl rfl (.inr hS) ?_ | refine WD.skip 2 rfl (by kernel_rfl) rfl rfl (fun _ _ _ _ _ h => h) rfl (.inr hS) ?_); try (first | ((with_reducible refine WD.topT ?_ ?_); omega) | ((with_reducible refine WD.topF ?_ ?_); omega) | ((with_reducible refine WD.top64 ?_ ?_); omega))); ((first | refine WD.free 3 rfl (by kernel_rfl) rfl rfl (fun _ _ _ _ _ h => h) rfl rfl (.inr hS) ?_ | refine WD.skip 3 rfl (by kernel_rfl) rfl rfl (fun _ _ _ _ _ h => h) rfl (.inr hS) ?_); try (first | ((with_reducible refine WD.topT ?_ ?_); omega) | ((with_reducible refine WD.topF ?_ ?_); omega) | ((with_reducible refine WD.top64 ?_ ?_); omega))); ((first | refine WD.free 4 rfl (by kernel_rfl) rfl rfl (fun _ _ _ _ _ h => h) rfl rfl (.inr hS) ?_ | refine WD.skip 4 rfl (by kernel_rfl) rfl rfl (fun _ _ _ _ _ h => h) rfl (.inr hS) ?_); try (first | ((with_reducible refine WD.topT ?_ ?_); omega) | ((with_reducible refine WD.topF ?_ ?_); omega) | ((with_reducible refine WD.top64 ?_ ?_); omega))))
            refine WD.one 5 (by kernel_rfl) rfl ?_
            refine WL.call rfl rfl rfl rfl rfl Try.func81 rfl (by kernel_rfl) (ih (d + 1) (by omega) hr5 (by omega)) ?_
            rintro _ w16 ⟨v, cs, l6, e6, rfl, hv6, hr6, hk6, ho6⟩
            refine ⟨_, rfl, ?_⟩
            have hvb5 := hK5.blk.lt
            have hsn5 : ∀ g, (sn8).ownBlock = some g → g < w15.heap.size := fun g hg => hK5.names.lt hg
            have hsk5 : ∀ g, sk.ownBlock = some g → g < w15.heap.size := fun g hg => hK5.kids.lt hg
            have hK6 := hK5.read hk6
            refine WL.nil (WQ.dk (.inr hK6.blk) ?_)
            refine WD.one 6 (by kernel_rfl) rfl ?_
            refine WL.lit1 rfl rfl rfl rfl rfl rfl rfl hv6.len ⟨by omega, by omega⟩ (by kernel_rfl) fun g7 w17 hf7 => ?_
            have hK7 := (hK6.below hf7.below).widen (S := w15.heap.size) (by have := hK5.keep.size; omega) hvb5 hsn5 hsk5
            have hr7 := hr6.keep (Keep.of_below hf7.below) fun b hb => by have := hk6.size; omega
            have hv7 := hv6.there.keep (O' := fun b => q b ∨ (w15.heap.size ≤ b ∧ b < w17.heap.size)) (Keep.of_below hf7.below) (fun b _ h => h) fun b hb => .inr ⟨hb.1, by have := hf7.size; omega⟩
            refine WL.nil (WQ.dk (.inr hK7.blk) ?_)
            refine WD.one 7 (by kernel_rfl) rfl ?_
            refine WL.snoc rfl rfl rfl rfl elemV6 rfl hK7.kids rfl hf7.blk hv6.one hv6.len hv7 (by omega) (by omega) fun sk8 w18 ho8 hg8 => ?_
            obtain ⟨hb8, hK9⟩ := hK7.setK ho8 hg8
            refine WL.nil (WQ.dk (.inr hb8) ?_)
            have hsk8 : sk8.oneCell' = true := ho8.one
            refine WD.one 8 (by kernel_rfl) rfl ?_
            refine WL.pure rfl rfl rfl rfl ?_
            refine WL.nil (WQ.dk (.inr hb8) ?_)
            refine WD.one 9 (by kernel_rfl) rfl ?_
            refine WL.store rfl rfl rfl rfl rfl hsk8 (by kernel_rfl) (hb8.cell 5 (by simp)) (hb8.free 5) ?_
            have hr9 : RS B (w18.setCell ⟨vb, 5, none⟩ sk8) rb l6 e6 := (hr7.keep hg8.1 fun b hb => ⟨by have := hr7.ex; have := hf7.size; have := hk6.size; omega, fun e => by have := (hK7.kids.own e).1; omega⟩).keep (K := fun b => b ≠ vb) ((Keep.refl _ w18).setCell (fun hk => hk rfl) _) fun b hb => by omega
            generalize w18.setCell ⟨vb, 5, none⟩ sk8 = w19 at hK9 hr9
            refine WL.nil (WQ.dk (.inl rfl) ?_)
            refine WD.done (by kernel_rfl) ?_
            repeat (first | ((with_reducible refine WL.topT ?_ ?_); omega) | ((with_reducible refine WL.topF ?_ ?_); omega) | ((with_reducible refine WL.top64 ?_ ?_); omega) | refine WC.seq ?_ | refine WC.block ?_ | refine WC.region ?_ | refine WL.nil ?_ | refine WC.skip ?_ | refine WC.exit ?_ | refine WC.ret ?_ | refine WQ.then rfl ?_ | refine WQ.thenExit ?_ | refine WQ.thenRet ?_ | refine WQ.blk ?_ | refine WQ.blkRet ?_ | refine WQ.blkHere rfl ?_ | refine WQ.blkOther rfl ?_ | refine WL.pure rfl rfl rfl rfl ?_ | refine WL.on rfl rfl ?_ | refine WL.off rfl rfl rfl ?_ | refine WC.condTrue rfl ?_ | refine WC.condFalse rfl ?_)
            refine WQ.again (i + 1, (ns ++ [t]), ks ++ [v], l6, e6) ⟨rfl, rfl, rfl, rfl, rfl, trivial⟩ ⟨hin, by simp only [List.length_append, List.length_cons, List.length_nil]; omega, by simp only [List.length_append, List.length_cons, List.length_nil]; omega, ⟨sn8, sk8, _, hK9⟩, hr9, fun p l' e' ho => ?_⟩ (by show n - (i + 1) < n - i; omega)
            refine hcont p l' e' (Out.congr (hot.bind (g := fun s r => (rdV m r).bind fun v r' => rdK (rdV m) true (n - (i + 1)) (ns ++ [s]) (ks ++ [v]) r') (ho6.bind (g := fun v r' => rdK (rdV m) true (n - (i + 1)) (ns ++ [t]) (ks ++ [v]) r') ho)) ?_)
            rw [rdK, if_pos rfl]
          · repeat (first | ((with_reducible refine WL.topT ?_ ?_); omega) | ((with_reducible refine WL.topF ?_ ?_); omega) | ((with_reducible refine WL.top64 ?_ ?_); omega) | refine WC.seq ?_ | refine WC.block ?_ | refine WC.region ?_ | refine WL.nil ?_ | refine WC.skip ?_ | refine WC.exit ?_ | refine WC.ret ?_ | refine WQ.then rfl ?_ | refine WQ.thenExit ?_ | refine WQ.thenRet ?_ | refine WQ.blk ?_ | refine WQ.blkRet ?_ | refine WQ.blkHere rfl ?_ | refine WQ.blkOther rfl ?_ | refine WL.pure rfl rfl rfl rfl ?_ | refine WL.on rfl rfl ?_ | refine WL.off rfl rfl rfl ?_ | refine WC.condTrue rfl ?_ | refine WC.condFalse rfl ?_)
            refine WQ.again (i + 1, ns ++ [t], ks, lt, et) ⟨rfl, rfl, rfl, rfl, rfl, trivial⟩ ⟨hin, by simp only [List.length_append, List.length_cons, List.length_nil]; omega, by show ks.length ≤ i + 1; omega, ⟨sn8, sk, q, hK9⟩, hr9, fun p l' e' ho => ?_⟩ (by show n - (i + 1) < n - i; omega)
            obtain rfl : e' = et := ho.bad het
            refine hcont p l' e' (Out.congr (Out.stop (g := fun s r => (rdV m r).bind fun v r' => rdK (rdV m) true (n - (i + 1)) (ns ++ [s]) (ks ++ [v]) r') hot het ho.len) ?_)
            rw [rdK, if_pos rfl]
        · repeat (first | ((with_reducible refine WL.topT ?_ ?_); omega) | ((with_reducible refine WL.topF ?_ ?_); omega) | ((with_reducible refine WL.top64 ?_ ?_); omega) | refine WC.seq ?_ | refine WC.block ?_ | refine WC.region ?_ | refine WL.nil ?_ | refine WC.skip ?_ | refine WC.exit ?_ | refine WC.ret ?_ | refine WQ.then rfl ?_ | refine WQ.thenExit ?_ | refine WQ.thenRet ?_ | refine WQ.blk ?_ | refine WQ.blkRet ?_ | refine WQ.blkHere rfl ?_ | refine WQ.blkOther rfl ?_ | refine WL.pure rfl rfl rfl rfl ?_ | refine WL.on rfl rfl ?_ | refine WL.off rfl rfl rfl ?_ | refine WC.condTrue rfl ?_ | refine WC.condFalse rfl ?_)
          exact WQ.meet (.mk c 0 0 noT ns ks, _, li, ei) ⟨rfl, trivial⟩ (hend hK hr (hcont _ _ _ (.ofBad hei)))
      · obtain rfl : i = n := by omega
        repeat (first | ((with_reducible refine WL.topT ?_ ?_); omega) | ((with_reducible refine WL.topF ?_ ?_); omega) | ((with_reducible refine WL.top64 ?_ ?_); omega) | refine WC.seq ?_ | refine WC.block ?_ | refine WC.region ?_ | refine WL.nil ?_ | refine WC.skip ?_ | refine WC.exit ?_ | refine WC.ret ?_ | refine WQ.then rfl ?_ | refine WQ.thenExit ?_ | refine WQ.thenRet ?_ | refine WQ.blk ?_ | refine WQ.blkRet ?_ | refine WQ.blkHere rfl ?_ | refine WQ.blkOther rfl ?_ | refine WL.pure rfl rfl rfl rfl ?_ | refine WL.on rfl rfl ?_ | refine WL.off rfl rfl rfl ?_ | refine WC.condTrue rfl ?_ | refine WC.condFalse rfl ?_)
        exact WQ.meet (.mk c 0 0 noT ns ks, _, li, ei) ⟨rfl, trivial⟩ (hend hK hr (hcont _ _ _ (Out.congr (Out.pure _) (by rw [Nat.sub_self]; rfl))))
  · have hg : GV m c = fun _ => .bad 3 := by
      funext r; unfold GV; rw [if_neg k1, if_neg k2, if_neg k3, if_neg k4, if_neg k5, if_neg k67, if_neg k89]
    repeat (first | ((with_reducible refine WL.topT ?_ ?_); omega) | ((with_reducible refine WL.topF ?_ ?_); omega) | ((with_reducible refine WL.top64 ?_ ?_); omega) | refine WC.seq ?_ | refine WC.block ?_ | refine WC.region ?_ | refine WL.nil ?_ | refine WC.skip ?_ | refine WC.exit ?_ | refine WC.ret ?_ | refine WQ.then rfl ?_ | refine WQ.thenExit ?_ | refine WQ.thenRet ?_ | refine WQ.blk ?_ | refine WQ.blkRet ?_ | refine WQ.blkHere rfl ?_ | refine WQ.blkOther rfl ?_ | refine WL.pure rfl rfl rfl rfl ?_ | refine WL.on rfl rfl ?_ | refine WL.off rfl rfl rfl ?_ | refine WC.condTrue rfl ?_ | refine WC.condFalse rfl ?_)
    refine WL.call rfl rfl rfl rfl rfl Try.func82 rfl (by kernel_rfl) (fail_any h3 3) ?_
    rintro _ w4 ⟨rfl, h4, hk4⟩
    refine ⟨_, rfl, ?_⟩
    repeat (first | ((with_reducible refine WL.topT ?_ ?_); omega) | ((with_reducible refine WL.topF ?_ ?_); omega) | ((with_reducible refine WL.top64 ?_ ?_); omega) | refine WC.seq ?_ | refine WC.block ?_ | refine WC.region ?_ | refine WL.nil ?_ | refine WC.skip ?_ | refine WC.exit ?_ | refine WC.ret ?_ | refine WQ.then rfl ?_ | refine WQ.thenExit ?_ | refine WQ.thenRet ?_ | refine WQ.blk ?_ | refine WQ.blkRet ?_ | refine WQ.blkHere rfl ?_ | refine WQ.blkOther rfl ?_ | refine WL.pure rfl rfl rfl rfl ?_ | refine WL.on rfl rfl ?_ | refine WL.off rfl rfl rfl ?_ | refine WC.condTrue rfl ?_ | refine WC.condFalse rfl ?_)
    exact WQ.meet (.mk c 0 0 noT [] [], _, l2, _) ⟨rfl, trivial⟩ ⟨hblk3.keep hk4 ⟨hblk3.lt, by omega⟩, isVo_leaf (by omega) (by omega) (by omega) (by decide), h4, hk3.trans hk4, ho2.gv (by rw [hg]; exact Out.fail 3 (by omega))⟩

/-- The reader's value, so many levels deep. -/
theorem value_any : ∀ (m : Nat) {B rb : Nat} {w : World} {l : List Int} {e : Int} (d : Int), d = 17 - (m : Int) → m ≤ 16 → RS B w rb l e → B ≤ w.heap.size → Calls Try.prog 81 #[.pointer (some ⟨rb, 0, none⟩), .int .i64 d] w (ValPost m B rb w l e)
  | 0, B, rb, w, l, e, d, hd, _, h, hB => by
    refine enter (args := [.pointer (some ⟨rb, 0, none⟩), .int .i64 d]) Try.func81 rfl Try.ntmps81 rfl ?_
    repeat (first | ((with_reducible refine WL.topT ?_ ?_); omega) | ((with_reducible refine WL.topF ?_ ?_); omega) | ((with_reducible refine WL.top64 ?_ ?_); omega) | refine WC.seq ?_ | refine WC.block ?_ | refine WC.region ?_ | refine WL.nil ?_ | refine WC.skip ?_ | refine WC.exit ?_ | refine WC.ret ?_ | refine WQ.then rfl ?_ | refine WQ.thenExit ?_ | refine WQ.thenRet ?_ | refine WQ.blk ?_ | refine WQ.blkRet ?_ | refine WQ.blkHere rfl ?_ | refine WQ.blkOther rfl ?_ | refine WL.pure rfl rfl rfl rfl ?_ | refine WL.on rfl rfl ?_ | refine WL.off rfl rfl rfl ?_ | refine WC.condTrue rfl ?_ | refine WC.condFalse rfl ?_)
    refine WL.alloc (z := .agg #[.int .i64 0, .int .i64 0, .int .i64 0, .string ByteArray.empty, .slice none 0 0, .slice none 0 0]) rfl rfl rfl rfl (fun _ => by kernel_rfl) fun vb w1 hf => ?_
    have hf' : Fresh w vb w1 60 [.int .i64 0, .int .i64 0, .int .i64 0, .string ByteArray.empty, .slice none 0 0, .slice none 0 0] := hf
    clear hf
    have hvbe := hf'.eq
    have hrB := h.rlt
    have h1 : RS B w1 rb l e := h.keep (Keep.of_below hf'.below) fun b hb => Nat.lt_of_lt_of_le hb hB
    have hk1 : KeepR rb w w1 := KeepR.below hf'.below
    repeat (first | ((with_reducible refine WL.topT ?_ ?_); omega) | ((with_reducible refine WL.topF ?_ ?_); omega) | ((with_reducible refine WL.top64 ?_ ?_); omega) | refine WC.seq ?_ | refine WC.block ?_ | refine WC.region ?_ | refine WL.nil ?_ | refine WC.skip ?_ | refine WC.exit ?_ | refine WC.ret ?_ | refine WQ.then rfl ?_ | refine WQ.thenExit ?_ | refine WQ.thenRet ?_ | refine WQ.blk ?_ | refine WQ.blkRet ?_ | refine WQ.blkHere rfl ?_ | refine WQ.blkOther rfl ?_ | refine WL.pure rfl rfl rfl rfl ?_ | refine WL.on rfl rfl ?_ | refine WL.off rfl rfl rfl ?_ | refine WC.condTrue rfl ?_ | refine WC.condFalse rfl ?_)
    refine WL.call rfl rfl rfl rfl rfl Try.func82 rfl (by kernel_rfl) (fail_any h1 9) ?_
    rintro _ w2 ⟨rfl, h2, hk2⟩
    refine ⟨_, rfl, ?_⟩
    have hblk := hf'.blk.keep hk2 ⟨hf'.blk.lt, by omega⟩
    have hv : IsVo (fun b => w.heap.size ≤ b) 1 w2 (.mk 0 0 0 noT [] []) _ := isVo_leaf (k := 0) (n := 0) (s := 0) (t := noT) (by omega) (by omega) (by omega) (by decide)
    repeat (first | ((with_reducible refine WL.topT ?_ ?_); omega) | ((with_reducible refine WL.topF ?_ ?_); omega) | ((with_reducible refine WL.top64 ?_ ?_); omega) | refine WC.seq ?_ | refine WC.block ?_ | refine WC.region ?_ | refine WL.nil ?_ | refine WC.skip ?_ | refine WC.exit ?_ | refine WC.ret ?_ | refine WQ.then rfl ?_ | refine WQ.thenExit ?_ | refine WQ.thenRet ?_ | refine WQ.blk ?_ | refine WQ.blkRet ?_ | refine WQ.blkHere rfl ?_ | refine WQ.blkOther rfl ?_ | refine WL.pure rfl rfl rfl rfl ?_ | refine WL.on rfl rfl ?_ | refine WL.off rfl rfl rfl ?_ | refine WC.condTrue rfl ?_ | refine WC.condFalse rfl ?_)
    refine WL.loadMid rfl rfl rfl rfl rfl rfl (VBlk.rangeAt hblk) rfl ?_
    refine WL.storeRow rfl rfl rfl rfl rfl rfl hblk rfl rfl hv.one ?_
    repeat (first | ((with_reducible refine WL.topT ?_ ?_); omega) | ((with_reducible refine WL.topF ?_ ?_); omega) | ((with_reducible refine WL.top64 ?_ ?_); omega) | refine WC.seq ?_ | refine WC.block ?_ | refine WC.region ?_ | refine WL.nil ?_ | refine WC.skip ?_ | refine WC.exit ?_ | refine WC.ret ?_ | refine WQ.then rfl ?_ | refine WQ.thenExit ?_ | refine WQ.thenRet ?_ | refine WQ.blk ?_ | refine WQ.blkRet ?_ | refine WQ.blkHere rfl ?_ | refine WQ.blkOther rfl ?_ | refine WL.pure rfl rfl rfl rfl ?_ | refine WL.on rfl rfl ?_ | refine WL.off rfl rfl rfl ?_ | refine WC.condTrue rfl ?_ | refine WC.condFalse rfl ?_)
    have hset : ∀ a, Keep (fun b => b ≠ vb) w2 (w2.setRow vb a) := fun a => Keep.setRow (Keep.refl _ w2) (fun hk => hk rfl) a
    exact WQ.retC rfl rfl rfl rfl (hblk.setRow _) ⟨.mk 0 0 0 noT [] [], _, l, _, rfl, isVo_leaf (k := 0) (n := 0) (s := 0) (t := noT) (by omega) (by omega) (by omega) (by decide), h2.keep (hset _) (fun b hb => by omega), Keep.setRow (hk1.trans hk2) (fun hk => by have := hk.1; omega) _, Out.fail 9 (by omega)⟩
  | m + 1, _, _, _, _, _, d, hd, hm, h, hB => value_step m (fun d hd h hB => value_any m d hd (by omega) h hB) d hd hm h hB
end K
end Go.Proofs.Ytdkkaliiofcflaa

/- Values: isName, fields. -/
namespace Go.Proofs.Ytdkkaliiofcflaa
open Go.RowKit
namespace Vl

set_option maxHeartbeats 400000 in
theorem isName_any (s : ByteArray) (w : World) : Calls Try.prog 93 #[.string s] w fun e w' => e = .returned (.bool (isNameB s)) ∧ w = w' := by
  by_cases h1 : 1 ≤ s.size
  · have h1' : (1 : Int) ≤ s.size := by omega
    go_enter Try.func93, Try.ntmps93
    go_wp2
    go_ret
    exact ⟨by simp [isNameB, h1]; omega, rfl⟩
  · have h1' : decide ((1 : Int) ≤ s.size) = false := decide_eq_false (by omega)
    go_enter Try.func93, Try.ntmps93
    go_wp2
    go_ret
    exact ⟨by simp [isNameB, h1], rfl⟩

theorem leq_not : ∀ (a p : List UInt8), (Op.bytesLess a p || a == p) = !Op.bytesLess p a
  | [], [] => rfl
  | [], _ :: _ => by simp [Op.bytesLess]
  | _ :: _, [] => by simp [Op.bytesLess]
  | x :: a, y :: p => by
    have ih := leq_not a p
    unfold Op.bytesLess
    rcases Nat.lt_trichotomy x.toNat y.toNat with h | h | h
    · have h1 : x < y := UInt8.lt_iff_toNat_lt.2 h
      have h2 : ¬ y < x := fun e => by have := UInt8.lt_iff_toNat_lt.1 e; omega
      have h3 : ¬ y = x := fun e => by subst e; omega
      simp [h1, h2, h3]
    · obtain rfl : x = y := UInt8.toNat.inj h
      simpa using ih
    · have h1 : y < x := UInt8.lt_iff_toNat_lt.2 h
      have h2 : ¬ x < y := fun e => by have := UInt8.lt_iff_toNat_lt.1 e; omega
      have h3 : ¬ x = y := fun e => by subst e; omega
      simp [h1, h2, h3]

theorem ret_bool {b b' : Bool} (h : b = b') : Ending.returned (.bool b) = Ending.returned (.bool b') := by rw [h]
/-- The six cells. -/
abbrev six (v : V) (sn sk : Value) : List Value := [.int .i64 v.k, .int .i64 v.n, .int .i64 v.s, .string v.t, sn, sk]
/-- The i-th name is one, and above the one ahead of it. -/
def okN (l : List ByteArray) (i : Nat) : Bool := isNameB (l.getD i noT) && (decide (i = 0) || Op.bytesLess (l.getD (i - 1) noT).toList (l.getD i noT).toList)
theorem fields_iff (v : V) : fieldsB v = true ↔ (∀ i, i < v.names.length → okN v.names i = true) ∧ v.names.length = v.kids.length := by
  unfold fieldsB
  rw [Bool.and_eq_true, Bool.and_eq_true, rises_iff, List.all_eq_true, decide_eq_true_iff, and_congr_left_iff]
  intro _
  constructor
  · rintro ⟨h1, h2⟩ i hi
    unfold okN
    rw [Bool.and_eq_true, Bool.or_eq_true, decide_eq_true_iff]
    refine ⟨h1 _ (by simp [hi]), ?_⟩
    cases i with
    | zero => exact .inl rfl
    | succ i => exact .inr (h2 i hi)
  · intro h
    constructor
    · intro x hx
      obtain ⟨j, hj, rfl⟩ := List.getElem_of_mem hx
      have := h j hj
      unfold okN at this
      rw [Bool.and_eq_true] at this
      simpa [hj] using this.1
    · intro i hi
      have := h (i + 1) hi
      unfold okN at this
      rw [Bool.and_eq_true, Bool.or_eq_true, decide_eq_true_iff] at this
      exact this.2.resolve_left (by omega)

set_option maxHeartbeats 8000000 in
theorem fields_any {f : Nat} {w : World} {v : V} {cs : List Value} (h : IsV f w v cs) :
    Calls Try.prog 92 #[.agg cs.toArray] w fun e w' => e = .returned (.bool (fieldsB v)) ∧ Below w.heap.size w w' := by
  cases f with
  | zero => exact h.elim
  | succ f =>
  obtain ⟨sn, sk, rfl, -, -, -, -, hn, kp, kc, rfl, kl, kc2, -⟩ := h
  have hbel : Below w.heap.size w (w.alloc (.cells (six v sn (.slice kp v.kids.length kc)).toArray 60)) := (Below.refl _ w).alloc (Nat.le_refl _) _
  have hR : VBlk 60 (w.alloc (.cells (six v sn (.slice kp v.kids.length kc)).toArray 60)) w.heap.size (six v sn (.slice kp v.kids.length kc)) := VBlk.mk w _ _
  have hn1 := hn.below hbel
  obtain ⟨np, nc, rfl, nl, nc2, nsz, nr⟩ := hn1
  have c4 := hR.cell 4 (by simp)
  have c5 := hR.cell 5 (by simp)
  simp only [List.getD_cons_zero, List.getD_cons_succ] at c4 c5
  have Hnr := Hid2.mk nr
  have Hsz := Hid2.mk nsz
  have HB := Hid2.mk hbel
  have Hfi := Hid2.mk (fields_iff v)
  clear hbel hn hR nr nsz
  generalize hN : v.names.length = N at nl c4 c5 HB Hnr Hsz Hfi ⊢
  generalize hK : v.kids.length = K at kl c4 c5 Hnr Hsz HB Hfi ⊢
  generalize v.names = nm at Hnr Hsz Hfi hN ⊢
  clear hN hK
  go_enter Try.func92, Try.ntmps92
  go_wp2_with fail
  go_loopw [8] (fun i wr => ∃ k : Nat, k ≤ N ∧ i = .int .i64 (k : Nat) ∧ (∃ n, wr = (w.alloc (.cells (six v (.slice np N nc) (.slice kp K kc)).toArray 60)).drewN n) ∧ ∀ j, j < k → okN nm j = true) (fun i _ => N - (intOf i).toNat)
  case atStart => exact ⟨0, Nat.zero_le _, rfl, ⟨0, rfl⟩, fun j hj => absurd hj (by omega)⟩
  case round =>
    obtain ⟨k, hk, rfl, ⟨n, rfl⟩, hall⟩ := hrel
    by_cases hkN : k < N
    · have hkz : (k : Int) < (N : Int) := by omega
      obtain ⟨b, o, rfl, hb, hr⟩ := Hnr.out (by omega)
      have ck := hr k hkN
      have hka := Hsz.out k hkN
      have Hok := Hid2.mk (show okN nm k = (isNameB (nm.getD k noT) && (decide (k = 0) || Op.bytesLess (nm.getD (k - 1) noT).toList (nm.getD k noT).toList)) from rfl)
      have Hall := Hid2.mk hall
      by_cases hk0 : k = 0
      · have hk0' : ((k : Int) == 0) = true := by simp [hk0]
        have hk0'' : ¬ (0 : Int) < (k : Int) := by omega
        have hk00 := decide_eq_true hk0
        rw [hk00] at Hok
        clear hr hall hk0 hk00
        generalize nm.getD k noT = a at ck hka Hok
        generalize nm.getD (k - 1) noT = p at Hok
        cases ha : isNameB a with
        | true =>
          rw [ha] at Hok
          have Ha := Hid2.mk ha
          clear ha
          go_wp2_with (go_fit (isName_any a _); rw [Ha.out]; rintro e w' ⟨rfl, rfl⟩)
          refine ⟨⟨k + 1, by omega, rfl, ⟨_, rfl⟩, fun j hj => (Nat.lt_succ_iff_lt_or_eq.1 hj).elim (Hall.out j) (fun e => by rw [e, Hok.out]; rfl)⟩, by show N - ((k : Int) + 1).toNat < N - ((k : Int)).toNat; omega⟩
        | false =>
          rw [ha] at Hok
          have Ha := Hid2.mk ha
          clear ha
          go_wp2_with (go_fit (isName_any a _); rw [Ha.out]; rintro e w' ⟨rfl, rfl⟩)
          go_ret
          refine ⟨ret_bool (b := false) (Bool.eq_false_iff.2 fun h => ?_).symm, belowN HB.out _⟩
          have := (Hfi.out.1 h).1 k hkN
          rw [Hok.out] at this
          cases this
      · obtain ⟨m, rfl⟩ : ∃ m, k = m + 1 := ⟨k - 1, by omega⟩
        have cm := hr m (by omega)
        have hkm : IntKind.i64.wrap (((m + 1 : Nat) : Int) - 1) = (m : Nat) := by rw [IntWalk.i64_in _ (by omega)]; omega
        have hk0'' : (0 : Int) < ((m + 1 : Nat) : Int) := by omega
        have hk00 := decide_eq_false hk0
        rw [hk00, Nat.add_sub_cancel] at Hok
        clear hr hall hk0 hk00
        generalize nm.getD (m + 1) noT = a at ck hka Hok
        generalize nm.getD m noT = p at cm Hok
        cases ha : isNameB a with
        | true =>
          cases hp : Op.bytesLess p.toList a.toList with
          | true =>
            have hle : (Op.bytesLess a.toList p.toList || a.toList == p.toList) = false := by rw [leq_not, hp]; rfl
            rw [ha, hp] at Hok
            have Ha := Hid2.mk ha
            have Hp := Hid2.mk hp
            clear ha hp
            go_wp2_with (go_fit (isName_any a _); rw [Ha.out]; rintro e w' ⟨rfl, rfl⟩)
            refine ⟨⟨m + 2, by omega, rfl, ⟨_, rfl⟩, fun j hj => (Nat.lt_succ_iff_lt_or_eq.1 hj).elim (Hall.out j) (fun e => by rw [e, Hok.out]; rfl)⟩, by show N - ((m : Int) + 1 + 1).toNat < N - (((m + 1 : Nat) : Int)).toNat; omega⟩
          | false =>
            have hle : (Op.bytesLess a.toList p.toList || a.toList == p.toList) = true := by rw [leq_not, hp]; rfl
            rw [ha, hp] at Hok
            have Ha := Hid2.mk ha
            have Hp := Hid2.mk hp
            clear ha hp
            go_wp2_with (go_fit (isName_any a _); rw [Ha.out]; rintro e w' ⟨rfl, rfl⟩)
            go_ret
            refine ⟨ret_bool (b := false) (Bool.eq_false_iff.2 fun h => ?_).symm, belowN HB.out _⟩
            have := (Hfi.out.1 h).1 _ hkN
            rw [Hok.out] at this
            cases this
        | false =>
          rw [ha] at Hok
          have Ha := Hid2.mk ha
          clear ha
          go_wp2_with (go_fit (isName_any a _); rw [Ha.out]; rintro e w' ⟨rfl, rfl⟩)
          go_ret
          refine ⟨ret_bool (b := false) (Bool.eq_false_iff.2 fun h => ?_).symm, belowN HB.out _⟩
          have := (Hfi.out.1 h).1 _ hkN
          rw [Hok.out] at this
          cases this
    · obtain rfl : k = N := by omega
      have hd : (k : Int) ≤ k := by omega
      have Hall := Hid2.mk hall
      clear hall
      go_wp2_with fail
      go_ret
      refine ⟨ret_bool (b := (k : Int) == K) ?_, belowN HB.out _⟩
      cases hf : fieldsB v with
      | true => have := (Hfi.out.1 hf).2; simp [this]
      | false =>
        refine beq_eq_false_iff_ne.2 fun e => ?_
        have := Hfi.out.2 ⟨Hall.out, by omega⟩
        rw [hf] at this
        cases this
end Vl
end Go.Proofs.Ytdkkaliiofcflaa

/- Values: shape. -/
namespace Go.Proofs.Ytdkkaliiofcflaa
open Go.RowKit
namespace Vl

/-- Is a value's form one of those of its kind? (E: no text, N0: no names, B, P: bare, plain.) -/
def formC (k n s : Int) (B P E N0 : Bool) : Bool :=
  if k = 1 then B && P && E
  else if k = 2 then decide (n / 2 = 0) && decide (s = 0) && P && E
  else if k = 3 then decide (s = 0) && P && E
  else if k = 4 then decide (1 ≤ s) && decide (s ≤ 18) && decide (¬ n.tmod 10 = 0) && P && E
  else if k = 5 then decide (0 ≤ n) && decide (n ≤ 9007199254740992) && decide (s = 0) && P && E
  else if k = 6 ∨ k = 7 then B && P
  else if k = 8 then B && N0 && E
  else if k = 9 then B && E
  else false
theorem formB_eq (v : V) : formB v = formC v.k v.n v.s (bareB v) (plainB v) (noTextB v) (decide (v.names.length = 0)) := by
  have h : (decide (0 ≤ v.n) && decide (v.n ≤ 1)) = decide (v.n / 2 = 0) := by
    by_cases h : v.n / 2 = 0
    · simp [h]; omega
    · rw [decide_eq_false h, Bool.and_eq_false_iff, decide_eq_false_iff_not, decide_eq_false_iff_not]; omega
  unfold formB formC
  rw [h]

theorem IsV.open {f : Nat} {w : World} {v : V} {cs : List Value} (h : IsV f w v cs) :
    ∃ np nc kp kc, cs = [.int .i64 v.k, .int .i64 v.n, .int .i64 v.s, .string v.t, .slice np v.names.length nc, .slice kp v.kids.length kc] ∧
      (-9223372036854775808 ≤ v.n ∧ v.n ≤ 9223372036854775807) ∧ v.t.size ≤ 140737488355328 ∧ v.names.length ≤ nc ∧ nc ≤ 9223372036854775807 ∧ v.kids.length ≤ kc ∧ kc ≤ 9223372036854775807 := by
  cases f with
  | zero => exact h.elim
  | succ f =>
    obtain ⟨sn, sk, rfl, -, hn, -, ht, ⟨np, nc, rfl, nl, nc2, -⟩, ⟨kp, kc, rfl, kl, kc2, -⟩⟩ := h
    refine ⟨np, nc, kp, kc, rfl, ?_, ht, nl, nc2, kl, kc2⟩
    simp [Lit.wf, IntKind.min, IntKind.max, IntKind.bits, IntKind.signed] at hn
    omega
theorem infoValue : (Try.prog.info? 60).map (·.size) = some 6 := by kernel_rfl

theorem empty_iff (t : ByteArray) : (t.toList == []) = decide (t.size = 0) := by
  have h : t.toList.length = t.size := by rw [ByteArray.toList_eq]; rfl
  cases hl : t.toList with
  | nil => rw [hl] at h; simp at h; simp [← h]
  | cons a l => rw [hl] at h; simp at h; simp [← h]

set_option maxRecDepth 100000 in
set_option maxHeartbeats 8000000 in
theorem shape_B {f : Nat} {w : World} {v : V} {cs : List Value} (h : IsV f w v cs) (hk : v.k = 1 ∨ v.k = 2 ∨ v.k = 3) :
    Calls Try.prog 87 #[.agg cs.toArray] w fun e w' => e = .returned (.int .i64 (shp v)) ∧ Below w.heap.size w w' := by
  obtain ⟨np, nc, kp, kc, hcs, hnn, ht, nl, nc2, kl, kc2⟩ := IsV.open h
  have hform := formB_eq v
  have hB : bareB v = (decide (v.n = 0) && decide (v.s = 0)) := rfl
  have hP : plainB v = (decide (v.names.length = 0) && decide (v.kids.length = 0)) := rfl
  have hE : noTextB v = decide (v.t.size = 0) := rfl
  have hem := empty_iff v.t
  have hshp : shp v = if formB v = false then 3 else if 16384 < v.t.size ∨ 200 < v.kids.length then 5 else if v.k = 9 ∧ fieldsB v = false then 3 else 0 := rfl
  rw [← hE] at hem
  generalize formB v = F at hform hshp
  generalize bareB v = B at hform hB
  generalize plainB v = P at hform hP
  generalize noTextB v = E at hform hE hem
  generalize hG : fieldsB v = G at hshp
  generalize shp v = R at hshp ⊢
  generalize hN0 : decide (v.names.length = 0) = N0 at hform hP
  generalize v.k = k at hk hcs hform hshp
  generalize v.n = n at hcs hform hB hnn
  generalize v.s = s at hcs hform hB
  generalize v.t = t at hcs hE hem ht hshp
  generalize v.names.length = N at hcs hN0 nl
  generalize v.kids.length = K at hcs hP kl hshp
  have hbel : Below w.heap.size w (w.alloc (.cells cs.toArray 60)) := (Below.refl _ w).alloc (Nat.le_refl _) _
  have hR : VBlk 60 (w.alloc (.cells cs.toArray 60)) w.heap.size cs := VBlk.mk w _ _
  have h1 := h.below hbel
  have HF := Hid2.mk (fun m => fields_any (f := f) (v := v) (h1.below (belowN (Below.refl _ _) m)))
  rw [hG] at HF
  have HR := Hid2.mk hR
  have HB := Hid2.mk hbel
  have Hshp := Hid2.mk hshp
  have Hform := Hid2.mk hform
  have hBv := Hid2.mk hB
  have hPv := Hid2.mk hP
  have hEv := Hid2.mk hE
  have hN0v := Hid2.mk hN0
  have c0 := hR.cell 0 (by subst hcs; simp)
  have c1 := hR.cell 1 (by subst hcs; simp)
  have c2 := hR.cell 2 (by subst hcs; simp)
  have c3 := hR.cell 3 (by subst hcs; simp)
  have c4 := hR.cell 4 (by subst hcs; simp)
  have c5 := hR.cell 5 (by subst hcs; simp)
  clear h hform hB hP hE hshp hG hbel hR h1 hN0
  subst hcs
  simp only [List.getD_cons_zero, List.getD_cons_succ] at c0 c1 c2 c3 c4 c5
  have Hk := Hid2.mk hk
  clear hk
  go_enter Try.func87, Try.ntmps87
  go_upto_region 1 with fail
  generalize hw1 : World.alloc _ _ = w1 at c0 c1 c2 c3 c4 c5 HF HR HB ⊢
  go_cut [3] (fun b wx => b = .bool B ∧ ∃ m, wx = w1.drewN m)
  case first =>
    by_cases h0 : n = 0
    · obtain rfl := h0
      go_wp2_with fail
      go_meet
      exact ⟨congrArg Value.bool (by rw [hBv.out]; by_cases e : s = 0 <;> simp [e]), 0, rfl⟩
    · have h0' : (n == 0) = false := beq_eq_false_iff_ne.2 h0
      go_wp2_with fail
      go_meet
      exact ⟨congrArg Value.bool (by rw [hBv.out]; simp [h0]), 0, rfl⟩
  case rest =>
  obtain ⟨rfl, m1, rfl⟩ := hcut
  go_upto_region 2 with fail
  go_cut [4] (fun b wx => b = .bool P ∧ ∃ m, wx = w1.drewN m)
  case first =>
    by_cases h0 : N = 0
    · obtain rfl := h0
      go_wp2_with fail
      go_meet
      exact ⟨congrArg Value.bool (by rw [hPv.out, ← hN0v.out]; by_cases e : K = 0 <;> simp [e]), m1, rfl⟩
    · have h0' : ((N : Int) == 0) = false := beq_eq_false_iff_ne.2 (by omega)
      go_wp2_with fail
      go_meet
      exact ⟨congrArg Value.bool (by rw [hPv.out, ← hN0v.out]; simp [h0]), m1, rfl⟩
  case rest =>
  obtain ⟨rfl, m2, rfl⟩ := hcut
  go_upto_block 0 with fail
  go_cut [5] (fun b wx => b = .bool F ∧ ∃ m, wx = w1.drewN m)
  case first =>
    clear Hshp HF HR HB hBv hPv hEv hnn
    by_cases k1 : k = 1
    · obtain rfl := k1
      cases B
      · (go_wp2_with fail; go_meet; exact ⟨congrArg Value.bool (by rw [Hid2.out Hform, ← Hid2.out hN0v]; simp [formC, *]), m2, rfl⟩)
      ·
        cases P
        · (go_wp2_with fail; go_meet; exact ⟨congrArg Value.bool (by rw [Hid2.out Hform, ← Hid2.out hN0v]; simp [formC, *]), m2, rfl⟩)
        ·
          (go_wp2_with fail; go_meet; exact ⟨congrArg Value.bool (by rw [Hid2.out Hform, ← Hid2.out hN0v]; simp [formC, *]), m2, rfl⟩)
    have q1 : (k == 1) = false := beq_eq_false_iff_ne.2 k1
    by_cases k2 : k = 2
    · obtain rfl := k2
      by_cases c3 : n / 2 = 0
      ·
        by_cases c2 : s = 0
        · obtain rfl := c2
          cases P
          · (go_wp2_with fail; go_meet; exact ⟨congrArg Value.bool (by rw [Hid2.out Hform, ← Hid2.out hN0v]; simp [formC, *]), m2, rfl⟩)
          ·
            (go_wp2_with fail; go_meet; exact ⟨congrArg Value.bool (by rw [Hid2.out Hform, ← Hid2.out hN0v]; simp [formC, *]), m2, rfl⟩)
        · have : (s == 0) = false := beq_eq_false_iff_ne.2 c2
          (go_wp2_with fail; go_meet; exact ⟨congrArg Value.bool (by rw [Hid2.out Hform, ← Hid2.out hN0v]; simp [formC, *]), m2, rfl⟩)
      · have : (n / 2 == 0) = false := beq_eq_false_iff_ne.2 c3
        (go_wp2_with fail; go_meet; exact ⟨congrArg Value.bool (by rw [Hid2.out Hform, ← Hid2.out hN0v]; simp [formC, *]), m2, rfl⟩)
    have q2 : (k == 2) = false := beq_eq_false_iff_ne.2 k2
    by_cases k3 : k = 3
    · obtain rfl := k3
      by_cases c2 : s = 0
      · obtain rfl := c2
        cases P
        · (go_wp2_with fail; go_meet; exact ⟨congrArg Value.bool (by rw [Hid2.out Hform, ← Hid2.out hN0v]; simp [formC, *]), m2, rfl⟩)
        ·
          (go_wp2_with fail; go_meet; exact ⟨congrArg Value.bool (by rw [Hid2.out Hform, ← Hid2.out hN0v]; simp [formC, *]), m2, rfl⟩)
      · have : (s == 0) = false := beq_eq_false_iff_ne.2 c2
        (go_wp2_with fail; go_meet; exact ⟨congrArg Value.bool (by rw [Hid2.out Hform, ← Hid2.out hN0v]; simp [formC, *]), m2, rfl⟩)
    have q3 : (k == 3) = false := beq_eq_false_iff_ne.2 k3
    exact absurd Hk.out (by omega)
  case rest =>
  obtain ⟨rfl, m3, rfl⟩ := hcut
  clear Hform hBv hPv hEv hN0v hnn
  cases F
  · have Hr := Hid2.mk (show R = 3 by rw [Hshp.out]; rfl)
    clear Hshp
    go_wp2_with fail
    go_ret
    exact ⟨by rw [Hr.out]; rfl, belowN HB.out _⟩
  by_cases d1 : 16384 < t.size
  · have d1' : (16384 : Int) < t.size := by omega
    have Hr := Hid2.mk (show R = 5 by rw [Hshp.out]; simp [d1])
    clear Hshp
    go_wp2_with fail
    go_ret
    exact ⟨by rw [Hr.out]; rfl, belowN HB.out _⟩
  have d1' : decide ((16384 : Int) < t.size) = false := decide_eq_false (by omega)
  by_cases d2 : 200 < K
  · have d2' : (200 : Int) < K := by omega
    have Hr := Hid2.mk (show R = 5 by rw [Hshp.out]; simp [d2])
    clear Hshp
    go_wp2_with fail
    go_ret
    exact ⟨by rw [Hr.out]; rfl, belowN HB.out _⟩
  have d2' : decide ((200 : Int) < K) = false := decide_eq_false (by omega)
  by_cases d3 : k = 9
  · have Hr := Hid2.mk (show R = if G = false then 3 else 0 by rw [Hshp.out]; simp [d1, d2, d3])
    clear Hshp
    subst d3
    exact absurd Hk.out (by omega)
  have d3' : (k == 9) = false := beq_eq_false_iff_ne.2 d3
  have Hr := Hid2.mk (show R = 0 by rw [Hshp.out]; simp [d1, d2, d3])
  clear Hshp
  go_wp2_with fail
  go_ret
  exact ⟨by rw [Hr.out]; rfl, belowN HB.out _⟩
end Vl
end Go.Proofs.Ytdkkaliiofcflaa

/- Values: shape. -/
namespace Go.Proofs.Ytdkkaliiofcflaa
open Go.RowKit
namespace Vl

set_option maxRecDepth 100000 in
set_option maxHeartbeats 8000000 in
theorem shape_C {f : Nat} {w : World} {v : V} {cs : List Value} (h : IsV f w v cs) (hk : v.k = 4) :
    Calls Try.prog 87 #[.agg cs.toArray] w fun e w' => e = .returned (.int .i64 (shp v)) ∧ Below w.heap.size w w' := by
  obtain ⟨np, nc, kp, kc, hcs, hnn, ht, nl, nc2, kl, kc2⟩ := IsV.open h
  have hform := formB_eq v
  have hB : bareB v = (decide (v.n = 0) && decide (v.s = 0)) := rfl
  have hP : plainB v = (decide (v.names.length = 0) && decide (v.kids.length = 0)) := rfl
  have hE : noTextB v = decide (v.t.size = 0) := rfl
  have hem := empty_iff v.t
  have hshp : shp v = if formB v = false then 3 else if 16384 < v.t.size ∨ 200 < v.kids.length then 5 else if v.k = 9 ∧ fieldsB v = false then 3 else 0 := rfl
  rw [← hE] at hem
  generalize formB v = F at hform hshp
  generalize bareB v = B at hform hB
  generalize plainB v = P at hform hP
  generalize noTextB v = E at hform hE hem
  generalize hG : fieldsB v = G at hshp
  generalize shp v = R at hshp ⊢
  generalize hN0 : decide (v.names.length = 0) = N0 at hform hP
  generalize v.k = k at hk hcs hform hshp
  generalize v.n = n at hcs hform hB hnn
  generalize v.s = s at hcs hform hB
  generalize v.t = t at hcs hE hem ht hshp
  generalize v.names.length = N at hcs hN0 nl
  generalize v.kids.length = K at hcs hP kl hshp
  have hbel : Below w.heap.size w (w.alloc (.cells cs.toArray 60)) := (Below.refl _ w).alloc (Nat.le_refl _) _
  have hR : VBlk 60 (w.alloc (.cells cs.toArray 60)) w.heap.size cs := VBlk.mk w _ _
  have h1 := h.below hbel
  have HF := Hid2.mk (fun m => fields_any (f := f) (v := v) (h1.below (belowN (Below.refl _ _) m)))
  rw [hG] at HF
  have HR := Hid2.mk hR
  have HB := Hid2.mk hbel
  have Hshp := Hid2.mk hshp
  have Hform := Hid2.mk hform
  have hBv := Hid2.mk hB
  have hPv := Hid2.mk hP
  have hEv := Hid2.mk hE
  have hN0v := Hid2.mk hN0
  have c0 := hR.cell 0 (by subst hcs; simp)
  have c1 := hR.cell 1 (by subst hcs; simp)
  have c2 := hR.cell 2 (by subst hcs; simp)
  have c3 := hR.cell 3 (by subst hcs; simp)
  have c4 := hR.cell 4 (by subst hcs; simp)
  have c5 := hR.cell 5 (by subst hcs; simp)
  clear h hform hB hP hE hshp hG hbel hR h1 hN0
  subst hcs
  simp only [List.getD_cons_zero, List.getD_cons_succ] at c0 c1 c2 c3 c4 c5
  have q1 : (k == 1) = false := beq_eq_false_iff_ne.2 (by omega)
  have q2 : (k == 2) = false := beq_eq_false_iff_ne.2 (by omega)
  have q3 : (k == 3) = false := beq_eq_false_iff_ne.2 (by omega)
  have Hk := Hid2.mk hk
  clear hk
  go_enter Try.func87, Try.ntmps87
  go_upto_region 1 with fail
  generalize hw1 : World.alloc _ _ = w1 at c0 c1 c2 c3 c4 c5 HF HR HB ⊢
  go_cut [3] (fun b wx => b = .bool B ∧ ∃ m, wx = w1.drewN m)
  case first =>
    by_cases h0 : n = 0
    · obtain rfl := h0
      go_wp2_with fail
      go_meet
      exact ⟨congrArg Value.bool (by rw [hBv.out]; by_cases e : s = 0 <;> simp [e]), 0, rfl⟩
    · have h0' : (n == 0) = false := beq_eq_false_iff_ne.2 h0
      go_wp2_with fail
      go_meet
      exact ⟨congrArg Value.bool (by rw [hBv.out]; simp [h0]), 0, rfl⟩
  case rest =>
  obtain ⟨rfl, m1, rfl⟩ := hcut
  go_upto_region 2 with fail
  go_cut [4] (fun b wx => b = .bool P ∧ ∃ m, wx = w1.drewN m)
  case first =>
    by_cases h0 : N = 0
    · obtain rfl := h0
      go_wp2_with fail
      go_meet
      exact ⟨congrArg Value.bool (by rw [hPv.out, ← hN0v.out]; by_cases e : K = 0 <;> simp [e]), m1, rfl⟩
    · have h0' : ((N : Int) == 0) = false := beq_eq_false_iff_ne.2 (by omega)
      go_wp2_with fail
      go_meet
      exact ⟨congrArg Value.bool (by rw [hPv.out, ← hN0v.out]; simp [h0]), m1, rfl⟩
  case rest =>
  obtain ⟨rfl, m2, rfl⟩ := hcut
  go_upto_block 0 with fail
  go_cut [5] (fun b wx => b = .bool F ∧ ∃ m, wx = w1.drewN m)
  case first =>
    clear Hshp HF HR HB hBv hPv hEv hnn
    by_cases k4 : k = 4
    · obtain rfl := k4
      by_cases c4 : 1 ≤ s
      ·
        by_cases c3 : s ≤ 18
        ·
          by_cases c2 : n.tmod 10 = 0
          · have : (n.tmod 10 != 0) = false := by simp [c2]
            (go_wp2_with fail; go_meet; exact ⟨congrArg Value.bool (by rw [Hid2.out Hform, ← Hid2.out hN0v]; simp [formC, *]), m2, rfl⟩)
          · have : (n.tmod 10 != 0) = true := by simp [c2]
            cases P
            · (go_wp2_with fail; go_meet; exact ⟨congrArg Value.bool (by rw [Hid2.out Hform, ← Hid2.out hN0v]; simp [formC, *]), m2, rfl⟩)
            ·
              (go_wp2_with fail; go_meet; exact ⟨congrArg Value.bool (by rw [Hid2.out Hform, ← Hid2.out hN0v]; simp [formC, *]), m2, rfl⟩)
        · have : decide (s ≤ 18) = false := decide_eq_false c3
          (go_wp2_with fail; go_meet; exact ⟨congrArg Value.bool (by rw [Hid2.out Hform, ← Hid2.out hN0v]; simp [formC, *]), m2, rfl⟩)
      · have : decide (1 ≤ s) = false := decide_eq_false c4
        (go_wp2_with fail; go_meet; exact ⟨congrArg Value.bool (by rw [Hid2.out Hform, ← Hid2.out hN0v]; simp [formC, *]), m2, rfl⟩)
    have q4 : (k == 4) = false := beq_eq_false_iff_ne.2 k4
    exact absurd Hk.out (by omega)
  case rest =>
  obtain ⟨rfl, m3, rfl⟩ := hcut
  clear Hform hBv hPv hEv hN0v hnn
  cases F
  · have Hr := Hid2.mk (show R = 3 by rw [Hshp.out]; rfl)
    clear Hshp
    go_wp2_with fail
    go_ret
    exact ⟨by rw [Hr.out]; rfl, belowN HB.out _⟩
  by_cases d1 : 16384 < t.size
  · have d1' : (16384 : Int) < t.size := by omega
    have Hr := Hid2.mk (show R = 5 by rw [Hshp.out]; simp [d1])
    clear Hshp
    go_wp2_with fail
    go_ret
    exact ⟨by rw [Hr.out]; rfl, belowN HB.out _⟩
  have d1' : decide ((16384 : Int) < t.size) = false := decide_eq_false (by omega)
  by_cases d2 : 200 < K
  · have d2' : (200 : Int) < K := by omega
    have Hr := Hid2.mk (show R = 5 by rw [Hshp.out]; simp [d2])
    clear Hshp
    go_wp2_with fail
    go_ret
    exact ⟨by rw [Hr.out]; rfl, belowN HB.out _⟩
  have d2' : decide ((200 : Int) < K) = false := decide_eq_false (by omega)
  by_cases d3 : k = 9
  · have Hr := Hid2.mk (show R = if G = false then 3 else 0 by rw [Hshp.out]; simp [d1, d2, d3])
    clear Hshp
    subst d3
    exact absurd Hk.out (by omega)
  have d3' : (k == 9) = false := beq_eq_false_iff_ne.2 d3
  have Hr := Hid2.mk (show R = 0 by rw [Hshp.out]; simp [d1, d2, d3])
  clear Hshp
  go_wp2_with fail
  go_ret
  exact ⟨by rw [Hr.out]; rfl, belowN HB.out _⟩
end Vl
end Go.Proofs.Ytdkkaliiofcflaa

/- Values: shape. -/
namespace Go.Proofs.Ytdkkaliiofcflaa
open Go.RowKit
namespace Vl

set_option maxRecDepth 100000 in
set_option maxHeartbeats 8000000 in
theorem shape_D {f : Nat} {w : World} {v : V} {cs : List Value} (h : IsV f w v cs) (hk : v.k = 5) :
    Calls Try.prog 87 #[.agg cs.toArray] w fun e w' => e = .returned (.int .i64 (shp v)) ∧ Below w.heap.size w w' := by
  obtain ⟨np, nc, kp, kc, hcs, hnn, ht, nl, nc2, kl, kc2⟩ := IsV.open h
  have hform := formB_eq v
  have hB : bareB v = (decide (v.n = 0) && decide (v.s = 0)) := rfl
  have hP : plainB v = (decide (v.names.length = 0) && decide (v.kids.length = 0)) := rfl
  have hE : noTextB v = decide (v.t.size = 0) := rfl
  have hem := empty_iff v.t
  have hshp : shp v = if formB v = false then 3 else if 16384 < v.t.size ∨ 200 < v.kids.length then 5 else if v.k = 9 ∧ fieldsB v = false then 3 else 0 := rfl
  rw [← hE] at hem
  generalize formB v = F at hform hshp
  generalize bareB v = B at hform hB
  generalize plainB v = P at hform hP
  generalize noTextB v = E at hform hE hem
  generalize hG : fieldsB v = G at hshp
  generalize shp v = R at hshp ⊢
  generalize hN0 : decide (v.names.length = 0) = N0 at hform hP
  generalize v.k = k at hk hcs hform hshp
  generalize v.n = n at hcs hform hB hnn
  generalize v.s = s at hcs hform hB
  generalize v.t = t at hcs hE hem ht hshp
  generalize v.names.length = N at hcs hN0 nl
  generalize v.kids.length = K at hcs hP kl hshp
  have hbel : Below w.heap.size w (w.alloc (.cells cs.toArray 60)) := (Below.refl _ w).alloc (Nat.le_refl _) _
  have hR : VBlk 60 (w.alloc (.cells cs.toArray 60)) w.heap.size cs := VBlk.mk w _ _
  have h1 := h.below hbel
  have HF := Hid2.mk (fun m => fields_any (f := f) (v := v) (h1.below (belowN (Below.refl _ _) m)))
  rw [hG] at HF
  have HR := Hid2.mk hR
  have HB := Hid2.mk hbel
  have Hshp := Hid2.mk hshp
  have Hform := Hid2.mk hform
  have hBv := Hid2.mk hB
  have hPv := Hid2.mk hP
  have hEv := Hid2.mk hE
  have hN0v := Hid2.mk hN0
  have c0 := hR.cell 0 (by subst hcs; simp)
  have c1 := hR.cell 1 (by subst hcs; simp)
  have c2 := hR.cell 2 (by subst hcs; simp)
  have c3 := hR.cell 3 (by subst hcs; simp)
  have c4 := hR.cell 4 (by subst hcs; simp)
  have c5 := hR.cell 5 (by subst hcs; simp)
  clear h hform hB hP hE hshp hG hbel hR h1 hN0
  subst hcs
  simp only [List.getD_cons_zero, List.getD_cons_succ] at c0 c1 c2 c3 c4 c5
  have q1 : (k == 1) = false := beq_eq_false_iff_ne.2 (by omega)
  have q2 : (k == 2) = false := beq_eq_false_iff_ne.2 (by omega)
  have q3 : (k == 3) = false := beq_eq_false_iff_ne.2 (by omega)
  have q4 : (k == 4) = false := beq_eq_false_iff_ne.2 (by omega)
  have Hk := Hid2.mk hk
  clear hk
  go_enter Try.func87, Try.ntmps87
  go_upto_region 1 with fail
  generalize hw1 : World.alloc _ _ = w1 at c0 c1 c2 c3 c4 c5 HF HR HB ⊢
  go_cut [3] (fun b wx => b = .bool B ∧ ∃ m, wx = w1.drewN m)
  case first =>
    by_cases h0 : n = 0
    · obtain rfl := h0
      go_wp2_with fail
      go_meet
      exact ⟨congrArg Value.bool (by rw [hBv.out]; by_cases e : s = 0 <;> simp [e]), 0, rfl⟩
    · have h0' : (n == 0) = false := beq_eq_false_iff_ne.2 h0
      go_wp2_with fail
      go_meet
      exact ⟨congrArg Value.bool (by rw [hBv.out]; simp [h0]), 0, rfl⟩
  case rest =>
  obtain ⟨rfl, m1, rfl⟩ := hcut
  go_upto_region 2 with fail
  go_cut [4] (fun b wx => b = .bool P ∧ ∃ m, wx = w1.drewN m)
  case first =>
    by_cases h0 : N = 0
    · obtain rfl := h0
      go_wp2_with fail
      go_meet
      exact ⟨congrArg Value.bool (by rw [hPv.out, ← hN0v.out]; by_cases e : K = 0 <;> simp [e]), m1, rfl⟩
    · have h0' : ((N : Int) == 0) = false := beq_eq_false_iff_ne.2 (by omega)
      go_wp2_with fail
      go_meet
      exact ⟨congrArg Value.bool (by rw [hPv.out, ← hN0v.out]; simp [h0]), m1, rfl⟩
  case rest =>
  obtain ⟨rfl, m2, rfl⟩ := hcut
  go_upto_block 0 with fail
  go_cut [5] (fun b wx => b = .bool F ∧ ∃ m, wx = w1.drewN m)
  case first =>
    clear Hshp HF HR HB hBv hPv hEv hnn
    by_cases k5 : k = 5
    · obtain rfl := k5
      by_cases c4 : 0 ≤ n
      ·
        by_cases c3 : n ≤ 9007199254740992
        ·
          by_cases c2 : s = 0
          · obtain rfl := c2
            cases P
            · (go_wp2_with fail; go_meet; exact ⟨congrArg Value.bool (by rw [Hid2.out Hform, ← Hid2.out hN0v]; simp [formC, *]), m2, rfl⟩)
            ·
              (go_wp2_with fail; go_meet; exact ⟨congrArg Value.bool (by rw [Hid2.out Hform, ← Hid2.out hN0v]; simp [formC, *]), m2, rfl⟩)
          · have : (s == 0) = false := beq_eq_false_iff_ne.2 c2
            (go_wp2_with fail; go_meet; exact ⟨congrArg Value.bool (by rw [Hid2.out Hform, ← Hid2.out hN0v]; simp [formC, *]), m2, rfl⟩)
        · have : decide (n ≤ 9007199254740992) = false := decide_eq_false c3
          (go_wp2_with fail; go_meet; exact ⟨congrArg Value.bool (by rw [Hid2.out Hform, ← Hid2.out hN0v]; simp [formC, *]), m2, rfl⟩)
      · have : decide (0 ≤ n) = false := decide_eq_false c4
        (go_wp2_with fail; go_meet; exact ⟨congrArg Value.bool (by rw [Hid2.out Hform, ← Hid2.out hN0v]; simp [formC, *]), m2, rfl⟩)
    have q5 : (k == 5) = false := beq_eq_false_iff_ne.2 k5
    exact absurd Hk.out (by omega)
  case rest =>
  obtain ⟨rfl, m3, rfl⟩ := hcut
  clear Hform hBv hPv hEv hN0v hnn
  cases F
  · have Hr := Hid2.mk (show R = 3 by rw [Hshp.out]; rfl)
    clear Hshp
    go_wp2_with fail
    go_ret
    exact ⟨by rw [Hr.out]; rfl, belowN HB.out _⟩
  by_cases d1 : 16384 < t.size
  · have d1' : (16384 : Int) < t.size := by omega
    have Hr := Hid2.mk (show R = 5 by rw [Hshp.out]; simp [d1])
    clear Hshp
    go_wp2_with fail
    go_ret
    exact ⟨by rw [Hr.out]; rfl, belowN HB.out _⟩
  have d1' : decide ((16384 : Int) < t.size) = false := decide_eq_false (by omega)
  by_cases d2 : 200 < K
  · have d2' : (200 : Int) < K := by omega
    have Hr := Hid2.mk (show R = 5 by rw [Hshp.out]; simp [d2])
    clear Hshp
    go_wp2_with fail
    go_ret
    exact ⟨by rw [Hr.out]; rfl, belowN HB.out _⟩
  have d2' : decide ((200 : Int) < K) = false := decide_eq_false (by omega)
  by_cases d3 : k = 9
  · have Hr := Hid2.mk (show R = if G = false then 3 else 0 by rw [Hshp.out]; simp [d1, d2, d3])
    clear Hshp
    subst d3
    exact absurd Hk.out (by omega)
  have d3' : (k == 9) = false := beq_eq_false_iff_ne.2 d3
  have Hr := Hid2.mk (show R = 0 by rw [Hshp.out]; simp [d1, d2, d3])
  clear Hshp
  go_wp2_with fail
  go_ret
  exact ⟨by rw [Hr.out]; rfl, belowN HB.out _⟩
end Vl
end Go.Proofs.Ytdkkaliiofcflaa

/- Values: shape. -/
namespace Go.Proofs.Ytdkkaliiofcflaa
open Go.RowKit
namespace Vl

set_option maxRecDepth 100000 in
set_option maxHeartbeats 8000000 in
theorem shape_E {f : Nat} {w : World} {v : V} {cs : List Value} (h : IsV f w v cs) (hk : ¬ v.k = 1 ∧ ¬ v.k = 2 ∧ ¬ v.k = 3 ∧ ¬ v.k = 4 ∧ ¬ v.k = 5) :
    Calls Try.prog 87 #[.agg cs.toArray] w fun e w' => e = .returned (.int .i64 (shp v)) ∧ Below w.heap.size w w' := by
  obtain ⟨np, nc, kp, kc, hcs, hnn, ht, nl, nc2, kl, kc2⟩ := IsV.open h
  have hform := formB_eq v
  have hB : bareB v = (decide (v.n = 0) && decide (v.s = 0)) := rfl
  have hP : plainB v = (decide (v.names.length = 0) && decide (v.kids.length = 0)) := rfl
  have hE : noTextB v = decide (v.t.size = 0) := rfl
  have hem := empty_iff v.t
  have hshp : shp v = if formB v = false then 3 else if 16384 < v.t.size ∨ 200 < v.kids.length then 5 else if v.k = 9 ∧ fieldsB v = false then 3 else 0 := rfl
  rw [← hE] at hem
  generalize formB v = F at hform hshp
  generalize bareB v = B at hform hB
  generalize plainB v = P at hform hP
  generalize noTextB v = E at hform hE hem
  generalize hG : fieldsB v = G at hshp
  generalize shp v = R at hshp ⊢
  generalize hN0 : decide (v.names.length = 0) = N0 at hform hP
  generalize v.k = k at hk hcs hform hshp
  generalize v.n = n at hcs hform hB hnn
  generalize v.s = s at hcs hform hB
  generalize v.t = t at hcs hE hem ht hshp
  generalize v.names.length = N at hcs hN0 nl
  generalize v.kids.length = K at hcs hP kl hshp
  have hbel : Below w.heap.size w (w.alloc (.cells cs.toArray 60)) := (Below.refl _ w).alloc (Nat.le_refl _) _
  have hR : VBlk 60 (w.alloc (.cells cs.toArray 60)) w.heap.size cs := VBlk.mk w _ _
  have h1 := h.below hbel
  have HF := Hid2.mk (fun m => fields_any (f := f) (v := v) (h1.below (belowN (Below.refl _ _) m)))
  rw [hG] at HF
  have HR := Hid2.mk hR
  have HB := Hid2.mk hbel
  have Hshp := Hid2.mk hshp
  have Hform := Hid2.mk hform
  have hBv := Hid2.mk hB
  have hPv := Hid2.mk hP
  have hEv := Hid2.mk hE
  have hN0v := Hid2.mk hN0
  have c0 := hR.cell 0 (by subst hcs; simp)
  have c1 := hR.cell 1 (by subst hcs; simp)
  have c2 := hR.cell 2 (by subst hcs; simp)
  have c3 := hR.cell 3 (by subst hcs; simp)
  have c4 := hR.cell 4 (by subst hcs; simp)
  have c5 := hR.cell 5 (by subst hcs; simp)
  clear h hform hB hP hE hshp hG hbel hR h1 hN0
  subst hcs
  simp only [List.getD_cons_zero, List.getD_cons_succ] at c0 c1 c2 c3 c4 c5
  have q1 : (k == 1) = false := beq_eq_false_iff_ne.2 (by omega)
  have q2 : (k == 2) = false := beq_eq_false_iff_ne.2 (by omega)
  have q3 : (k == 3) = false := beq_eq_false_iff_ne.2 (by omega)
  have q4 : (k == 4) = false := beq_eq_false_iff_ne.2 (by omega)
  have q5 : (k == 5) = false := beq_eq_false_iff_ne.2 (by omega)
  have Hk := Hid2.mk hk
  clear hk
  go_enter Try.func87, Try.ntmps87
  go_upto_region 1 with fail
  generalize hw1 : World.alloc _ _ = w1 at c0 c1 c2 c3 c4 c5 HF HR HB ⊢
  go_cut [3] (fun b wx => b = .bool B ∧ ∃ m, wx = w1.drewN m)
  case first =>
    by_cases h0 : n = 0
    · obtain rfl := h0
      go_wp2_with fail
      go_meet
      exact ⟨congrArg Value.bool (by rw [hBv.out]; by_cases e : s = 0 <;> simp [e]), 0, rfl⟩
    · have h0' : (n == 0) = false := beq_eq_false_iff_ne.2 h0
      go_wp2_with fail
      go_meet
      exact ⟨congrArg Value.bool (by rw [hBv.out]; simp [h0]), 0, rfl⟩
  case rest =>
  obtain ⟨rfl, m1, rfl⟩ := hcut
  go_upto_region 2 with fail
  go_cut [4] (fun b wx => b = .bool P ∧ ∃ m, wx = w1.drewN m)
  case first =>
    by_cases h0 : N = 0
    · obtain rfl := h0
      go_wp2_with fail
      go_meet
      exact ⟨congrArg Value.bool (by rw [hPv.out, ← hN0v.out]; by_cases e : K = 0 <;> simp [e]), m1, rfl⟩
    · have h0' : ((N : Int) == 0) = false := beq_eq_false_iff_ne.2 (by omega)
      go_wp2_with fail
      go_meet
      exact ⟨congrArg Value.bool (by rw [hPv.out, ← hN0v.out]; simp [h0]), m1, rfl⟩
  case rest =>
  obtain ⟨rfl, m2, rfl⟩ := hcut
  go_upto_block 0 with fail
  go_cut [5] (fun b wx => b = .bool F ∧ ∃ m, wx = w1.drewN m)
  case first =>
    clear Hshp HF HR HB hBv hPv hEv hnn
    by_cases k6 : k = 6
    · obtain rfl := k6
      cases B
      · (go_wp2_with fail; go_meet; exact ⟨congrArg Value.bool (by rw [Hid2.out Hform, ← Hid2.out hN0v]; simp [formC, *]), m2, rfl⟩)
      ·
        (go_wp2_with fail; go_meet; exact ⟨congrArg Value.bool (by rw [Hid2.out Hform, ← Hid2.out hN0v]; simp [formC, *]), m2, rfl⟩)
    have q6 : (k == 6) = false := beq_eq_false_iff_ne.2 k6
    by_cases k7 : k = 7
    · obtain rfl := k7
      cases B
      · (go_wp2_with fail; go_meet; exact ⟨congrArg Value.bool (by rw [Hid2.out Hform, ← Hid2.out hN0v]; simp [formC, *]), m2, rfl⟩)
      ·
        (go_wp2_with fail; go_meet; exact ⟨congrArg Value.bool (by rw [Hid2.out Hform, ← Hid2.out hN0v]; simp [formC, *]), m2, rfl⟩)
    have q7 : (k == 7) = false := beq_eq_false_iff_ne.2 k7
    by_cases k8 : k = 8
    · obtain rfl := k8
      cases B
      · (go_wp2_with fail; go_meet; exact ⟨congrArg Value.bool (by rw [Hid2.out Hform, ← Hid2.out hN0v]; simp [formC, *]), m2, rfl⟩)
      ·
        by_cases c1 : N = 0
        · obtain rfl := c1
          (go_wp2_with fail; go_meet; exact ⟨congrArg Value.bool (by rw [Hid2.out Hform, ← Hid2.out hN0v]; simp [formC, *]), m2, rfl⟩)
        · have : ((N : Int) == 0) = false := beq_eq_false_iff_ne.2 (by omega)
          (go_wp2_with fail; go_meet; exact ⟨congrArg Value.bool (by rw [Hid2.out Hform, ← Hid2.out hN0v]; simp [formC, *]), m2, rfl⟩)
    have q8 : (k == 8) = false := beq_eq_false_iff_ne.2 k8
    by_cases k9 : k = 9
    · obtain rfl := k9
      cases B
      · (go_wp2_with fail; go_meet; exact ⟨congrArg Value.bool (by rw [Hid2.out Hform, ← Hid2.out hN0v]; simp [formC, *]), m2, rfl⟩)
      ·
        (go_wp2_with fail; go_meet; exact ⟨congrArg Value.bool (by rw [Hid2.out Hform, ← Hid2.out hN0v]; simp [formC, *]), m2, rfl⟩)
    have q9 : (k == 9) = false := beq_eq_false_iff_ne.2 k9
    go_wp2_with fail
    go_meet
    exact ⟨congrArg Value.bool (by rw [Hform.out]; have hk := Hk.out; simp [formC, k6, k7, k8, k9, hk.1, hk.2.1, hk.2.2.1, hk.2.2.2.1, hk.2.2.2.2]), m2, rfl⟩
  case rest =>
  obtain ⟨rfl, m3, rfl⟩ := hcut
  clear Hform hBv hPv hEv hN0v hnn
  cases F
  · have Hr := Hid2.mk (show R = 3 by rw [Hshp.out]; rfl)
    clear Hshp
    go_wp2_with fail
    go_ret
    exact ⟨by rw [Hr.out]; rfl, belowN HB.out _⟩
  by_cases d1 : 16384 < t.size
  · have d1' : (16384 : Int) < t.size := by omega
    have Hr := Hid2.mk (show R = 5 by rw [Hshp.out]; simp [d1])
    clear Hshp
    go_wp2_with fail
    go_ret
    exact ⟨by rw [Hr.out]; rfl, belowN HB.out _⟩
  have d1' : decide ((16384 : Int) < t.size) = false := decide_eq_false (by omega)
  by_cases d2 : 200 < K
  · have d2' : (200 : Int) < K := by omega
    have Hr := Hid2.mk (show R = 5 by rw [Hshp.out]; simp [d2])
    clear Hshp
    go_wp2_with fail
    go_ret
    exact ⟨by rw [Hr.out]; rfl, belowN HB.out _⟩
  have d2' : decide ((200 : Int) < K) = false := decide_eq_false (by omega)
  by_cases d3 : k = 9
  · have Hr := Hid2.mk (show R = if G = false then 3 else 0 by rw [Hshp.out]; simp [d1, d2, d3])
    clear Hshp
    subst d3
    cases G <;>
    (go_wp2_with (first | (refine Ld.load_on (by rfl) 60 (.tmp 1) rfl w.heap.size rfl 60 _ (0, 0) _ HR.out Try.underlying60 rfl infoValue ?_) | (go_fit (HF.out _); rintro e w' ⟨rfl, hbw⟩))
     go_ret
     exact ⟨by rw [Hr.out]; rfl, (belowN HB.out _).trans (hbw.mono HB.out.size)⟩)
  have d3' : (k == 9) = false := beq_eq_false_iff_ne.2 d3
  have Hr := Hid2.mk (show R = 0 by rw [Hshp.out]; simp [d1, d2, d3])
  clear Hshp
  go_wp2_with fail
  go_ret
  exact ⟨by rw [Hr.out]; rfl, belowN HB.out _⟩
end Vl
end Go.Proofs.Ytdkkaliiofcflaa

/- Values: shape, of every kind; check; Check. -/
namespace Go.Proofs.Ytdkkaliiofcflaa
open Go.RowKit
namespace Vl

theorem shape_any {f : Nat} {w : World} {v : V} {cs : List Value} (h : IsV f w v cs) :
    Calls Try.prog 87 #[.agg cs.toArray] w fun e w' => e = .returned (.int .i64 (shp v)) ∧ Below w.heap.size w w' := by
  by_cases h1 : v.k = 1 ∨ v.k = 2 ∨ v.k = 3
  · exact shape_B h h1
  by_cases h4 : v.k = 4
  · exact shape_C h h4
  by_cases h5 : v.k = 5
  · exact shape_D h h5
  exact shape_E h ⟨fun e => h1 (.inl e), fun e => h1 (.inr (.inl e)), fun e => h1 (.inr (.inr e)), h4, h5⟩

/-- The kids that came in: each is one, and lies where the slice says. -/
theorem IsV.kids {f : Nat} {w : World} {v : V} {cs : List Value} (h : IsV (f + 1) w v cs) :
    ∃ sn kp kc, cs = [.int .i64 v.k, .int .i64 v.n, .int .i64 v.s, .string v.t, sn, .slice kp v.kids.length kc] ∧ v.kids.length ≤ kc ∧ kc ≤ 9223372036854775807 ∧
      (0 < v.kids.length → ∃ b o, kp = some ⟨b, o, none⟩ ∧ b < w.heap.size ∧ ∀ j, j < v.kids.length → ∃ c, c.length = 6 ∧ IsV f w (v.kids.getD j noV) c ∧ w.rangeAt b (o + j * 6) c) := by
  obtain ⟨sn, sk, rfl, -, -, -, -, -, ⟨kp, kc, rfl, kl, kc2, kr⟩⟩ := h
  exact ⟨sn, kp, kc, rfl, kl, kc2, kr⟩

theorem IsV.ones {f : Nat} {w : World} {v : V} {cs : List Value} (h : IsV f w v cs) : cs.toArray.all (·.oneCell') = true := by
  obtain ⟨np, nc, kp, kc, rfl, -⟩ := IsV.open h
  simp [Value.oneCell']
/-- Six cells of nothing. -/
abbrev zero6 : List Value := [.int .i64 0, .int .i64 0, .int .i64 0, .string ByteArray.empty, .slice none 0 0, .slice none 0 0]

set_option maxRecDepth 100000 in
set_option maxHeartbeats 8000000 in
theorem check_any : ∀ {f : Nat} {w : World} {v : V} {cs : List Value} (m : Nat) (d : Int), IsV f w v cs → m ≤ 16 → d = 17 - (m : Int) →
    Calls Try.prog 77 #[.agg cs.toArray, .int .i64 d] w fun e w' => e = .returned (.int .i64 (chk m v)) ∧ Below w.heap.size w w'
  | 0, _, _, _, _, _, h, _, _ => h.elim
  | f + 1, w, v, cs, m, d, h, hm, hd => by
    have ih : ∀ {w : World} {v : V} {cs : List Value} (m : Nat) (d : Int), IsV f w v cs → m ≤ 16 → d = 17 - (m : Int) → Calls Try.prog 77 #[.agg cs.toArray, .int .i64 d] w fun e w' => e = .returned (.int .i64 (chk m v)) ∧ Below w.heap.size w w' := @check_any f
    obtain ⟨sn, kp, kc, hcs, kl, kc2, kr⟩ := IsV.kids h
    have hlen := h.len
    have hbel : Below w.heap.size w (w.alloc (.cells cs.toArray 60)) := (Below.refl _ w).alloc (Nat.le_refl _) _
    have hR : VBlk 60 (w.alloc (.cells cs.toArray 60)) w.heap.size cs := VBlk.mk w _ _
    have h1 := h.below hbel
    have HF := Hid2.mk (shape_any (f := f + 1) (v := v) h1)
    have HR := Hid2.mk hR
    have HB := Hid2.mk hbel
    have Hkr := Hid2.mk kr
    have c5 := hR.cell 5 (by subst hcs; simp)
    have hinf : (Try.prog.info? 60).map (·.size) = some cs.toArray.size := by rw [infoValue]; simp [hlen]
    have Hih := Hid2.mk @ih
    clear h hbel hR h1 kr ih
    cases m with
    | zero =>
      have hd1 : 16 < d := by omega
      clear hd
      clear hinf HF Hih
      subst hcs
      simp only [List.getD_cons_zero, List.getD_cons_succ] at c5
      go_enter Try.func77, Try.ntmps77
      go_wp2_with fail
      go_ret
      exact ⟨rfl, HB.out⟩
    | succ m =>
      have hd1 : d ≤ 16 := by omega
      have hd2 : 1 ≤ d := by omega
      have hd3 : d + 1 = 17 - (m : Int) := by omega
      have Hd3 := Hid2.mk hd3
      have Hm := Hid2.mk (show m ≤ 16 by omega)
      have Hchk := Hid2.mk (show chk (m + 1) v = if shp v = 0 then firstBad (v.kids.map (chk m)) else shp v from rfl)
      have Hcl := Hid2.mk hcs
      clear hd hm hd3
      subst hcs
      simp only [List.getD_cons_zero, List.getD_cons_succ] at c5
      generalize hS : shp v = S at HF Hchk
      generalize chk (m + 1) v = R at Hchk ⊢
      clear hS
      by_cases h0 : S = 0
      · have Hr := Hid2.mk (show R = firstBad (v.kids.map (chk m)) by rw [Hchk.out, if_pos h0])
        clear Hchk
        rw [h0] at HF
        clear h0
        go_enter Try.func77, Try.ntmps77
        generalize hw1 : World.alloc _ _ = w1 at c5 HF HR HB ⊢
        go_wp2_with (first | (refine Ld.load_on (by rfl) 60 (.tmp 2) rfl w.heap.size rfl 60 _ (0, 0) _ HR.out Try.underlying60 rfl hinf ?_) | (go_fit HF.out; rintro e w' ⟨rfl, hbw⟩; have c5' := (hbw.cell (p := ⟨w.heap.size, 5, none⟩) (VBlk.lt HR.out)).trans c5))
        have Hbw := Hid2.mk (HB.out.trans (hbw.mono HB.out.size))
        have Hkr1 := Hid2.mk (fun h0 => Hkr.out h0)
        clear hbw c5 c5' HR hinf
        go_loopw [19] (fun i wr => ∃ k : Nat, k ≤ v.kids.length ∧ i = .int .i64 (k : Nat) ∧ Below w.heap.size w wr ∧ ∀ j, j < k → chk m (v.kids.getD j noV) = 0) (fun i _ => v.kids.length - (intOf i).toNat)
        case atStart => exact ⟨0, Nat.zero_le _, rfl, Hbw.out, fun j hj => absurd hj (by omega)⟩
        case round =>
          clear Hbw
          obtain ⟨k, hk, rfl, hbr, hall⟩ := hrel
          have Hbr := Hid2.mk hbr
          have Hall := Hid2.mk hall
          clear hbr hall
          by_cases hkN : k < v.kids.length
          · have hkz : (k : Int) < (v.kids.length : Int) := by omega
            obtain ⟨b, o, rfl, hb, hr⟩ := Hkr.out (by omega)
            obtain ⟨c, hc6, hci, hcr⟩ := hr k hkN
            have Hc1 := Hid2.mk (show wr.rangeAt b (o + k * 6) c from fun i u hu => by rw [Hbr.out.cell (p := ⟨b, o + k * 6 + i, none⟩) hb]; exact hcr i u hu)
            have Hci := Hid2.mk hci
            have hic : (Try.prog.info? 60).map (·.size) = some c.length := by rw [infoValue, hc6]
            have hone := IsV.ones hci
            have hinf2 : (Try.prog.info? 60).map (·.size) = some c.toArray.size := by rw [infoValue]; simp [hc6]
            have hZ : VBlk 60 (wr.alloc (.cells zero6.toArray 60)) wr.heap.size zero6 := VBlk.mk wr _ _
            have hZ2 : VBlk 60 ((wr.alloc (.cells zero6.toArray 60)).setRow wr.heap.size c.toArray) wr.heap.size c := hZ.setRow c
            have hbz : Below w.heap.size w ((wr.alloc (.cells zero6.toArray 60)).setRow wr.heap.size c.toArray) := below_setRow (Hbr.out.alloc Hbr.out.size _) Hbr.out.size _
            have Hca := Hid2.mk (Hih.out m (d + 1) (hci.below hbz) Hm.out Hd3.out)
            have HZ := Hid2.mk hZ
            have HZ2 := Hid2.mk hZ2
            have Hbz := Hid2.mk hbz
            have Hck := Hid2.mk (show (v.kids.map (chk m)).getD k 0 = chk m (v.kids.getD k noV) from chk_map m v.kids k hkN)
            generalize hx : chk m (v.kids.getD k noV) = x at Hca Hck
            have Hx := Hid2.mk hx
            clear hr hcr hci Hkr Hkr1 hZ hZ2 hbz hx
            by_cases hx0 : x = 0
            · obtain rfl := hx0
              go_wp2_with (first | (refine wpList_load_mid rfl 60 (.tmp 21) rfl b (o + k * 6) rfl c _ Hc1.out Try.underlying60 rfl hic ?_) | (refine wpList_store_row rfl 60 (.tmp 7) (.tmp 22) rfl wr.heap.size c.toArray rfl rfl 60 zero6.toArray HZ.out hinf2 (by simp [hc6]) hone ?_) | (refine Ld.load_on (by rfl) 60 (.tmp 7) rfl wr.heap.size rfl 60 _ (0, 0) _ HZ2.out Try.underlying60 rfl hinf2 ?_) | (go_fit Hca.out; rintro e w' ⟨rfl, hbw⟩))
              refine ⟨⟨k + 1, by omega, rfl, Hbz.out.trans (hbw.mono Hbz.out.size), fun j hj => (Nat.lt_succ_iff_lt_or_eq.1 hj).elim (Hall.out j) (fun e => by rw [e]; exact Hx.out)⟩, ?_⟩
              show v.kids.length - ((k : Int) + 1).toNat < v.kids.length - (k : Int).toNat
              omega
            · have hx0' : (x == 0) = false := beq_eq_false_iff_ne.2 hx0
              go_wp2_with (first | (refine wpList_load_mid rfl 60 (.tmp 21) rfl b (o + k * 6) rfl c _ Hc1.out Try.underlying60 rfl hic ?_) | (refine wpList_store_row rfl 60 (.tmp 7) (.tmp 22) rfl wr.heap.size c.toArray rfl rfl 60 zero6.toArray HZ.out hinf2 (by simp [hc6]) hone ?_) | (refine Ld.load_on (by rfl) 60 (.tmp 7) rfl wr.heap.size rfl 60 _ (0, 0) _ HZ2.out Try.underlying60 rfl hinf2 ?_) | (go_fit Hca.out; rintro e w' ⟨rfl, hbw⟩))
              go_ret
              refine ⟨?_, Hbz.out.trans (hbw.mono Hbz.out.size)⟩
              rw [Hr.out, firstBad_take (i := k) (by rw [List.length_map]; exact hkN) (fun j hj => by rw [chk_map m v.kids j (by omega)]; exact Hall.out j hj) (by rw [Hck.out]; exact hx0), Hck.out]
              rfl
          · obtain rfl : k = v.kids.length := by omega
            have hkz : (v.kids.length : Int) ≤ (v.kids.length : Int) := by omega
            have Hr2 := Hid2.mk (show R = 0 by rw [Hr.out]; exact firstBad_all fun j hj => by rw [List.length_map] at hj; rw [chk_map m v.kids j hj]; exact Hall.out j hj)
            go_wp2_with fail
            go_ret
            exact ⟨by rw [Hr2.out]; rfl, Hbr.out⟩
      · have Hr := Hid2.mk (show R = S by rw [Hchk.out, if_neg h0])
        have h0' : (S == 0) = false := beq_eq_false_iff_ne.2 h0
        go_enter Try.func77, Try.ntmps77
        go_wp2_with (first | (refine Ld.load_on (by rfl) 60 (.tmp 2) rfl w.heap.size rfl 60 _ (0, 0) _ HR.out Try.underlying60 rfl hinf ?_) | (go_fit HF.out; rintro e w' ⟨rfl, hbw⟩))
        go_ret
        exact ⟨by rw [Hr.out]; rfl, HB.out.trans (hbw.mono HB.out.size)⟩

set_option maxHeartbeats 800000 in
theorem Check_any {f : Nat} {w : World} {v : V} {cs : List Value} (h : IsV f w v cs) :
    Calls Try.prog 64 #[.agg cs.toArray] w fun e w' => e = .returned (.int .i64 (chk 16 v)) ∧ Below w.heap.size w w' := by
  have hlen := h.len
  have hbel : Below w.heap.size w (w.alloc (.cells cs.toArray 60)) := (Below.refl _ w).alloc (Nat.le_refl _) _
  have hR : VBlk 60 (w.alloc (.cells cs.toArray 60)) w.heap.size cs := VBlk.mk w _ _
  have HF := Hid2.mk (check_any (f := f) (v := v) 16 1 (h.below hbel) (by omega) (by omega))
  have HR := Hid2.mk hR
  have HB := Hid2.mk hbel
  have hinf : (Try.prog.info? 60).map (·.size) = some cs.toArray.size := by rw [infoValue]; simp [hlen]
  clear h hbel hR hlen
  go_enter Try.func64, Try.ntmps64
  go_wp2_with (first | (refine Ld.load_on (by rfl) 60 (.tmp 1) rfl w.heap.size rfl 60 _ (0, 0) _ HR.out Try.underlying60 rfl hinf ?_) | (go_fit HF.out; rintro e w' ⟨rfl, hbw⟩))
  go_ret
  exact ⟨rfl, HB.out.trans (hbw.mono HB.out.size)⟩
end Vl
end Go.Proofs.Ytdkkaliiofcflaa

/- Reading (chapter 7): read, Decode, Read. -/
namespace Go.Proofs.Ytdkkaliiofcflaa
open Go.RowKit
namespace K
section
variable {n : Nat} {l : Env} {w : World} {fn : Func} {R : Ending → World → Prop}
theorem WQ.retCT {p q g T m : Nat} {ty' : TypeId} {cs : List Value} {x : Value} (hr : fn.results = #[.cell p ty', .tmp q]) (hl : look l p = some (.pointer (some ⟨g, 0, none⟩))) (hq : look l q = some x) (ht : cellsN (tyOf ty ty') = some m) (hm : cs.length = m) (hb : VBlk T w g cs)
    (h : R (.returned (.tuple #[.agg cs.toArray, x])) w) : WQ n (bodyPost Try.prog fn R) .ret l w :=
  ⟨fun a ha => ⟨ha.defers, _, by
    obtain ⟨_, hu, hdd, hsz⟩ := cellsN_ok tyOk ht
    have hp := ha.getD hl
    have hx := ha.getD hq
    simp only [Array.getD_eq_getD_getElem?] at hp hx
    have := run_loadVar_mid (P := Try.prog) w g 0 ty' cs _ (VBlk.rangeAt hb) hu hdd (by rw [hsz, hm])
    simp [results, hr, hp, hx, asAddr, this], h⟩⟩
theorem WQ.retCTT {p q q2 g T m : Nat} {ty' : TypeId} {cs : List Value} {x x2 : Value} (hr : fn.results = #[.cell p ty', .tmp q, .tmp q2]) (hl : look l p = some (.pointer (some ⟨g, 0, none⟩))) (hq : look l q = some x) (hq2 : look l q2 = some x2) (ht : cellsN (tyOf ty ty') = some m) (hm : cs.length = m) (hb : VBlk T w g cs)
    (h : R (.returned (.tuple #[.agg cs.toArray, x, x2])) w) : WQ n (bodyPost Try.prog fn R) .ret l w :=
  ⟨fun a ha => ⟨ha.defers, _, by
    obtain ⟨_, hu, hdd, hsz⟩ := cellsN_ok tyOk ht
    have hp := ha.getD hl
    have hx := ha.getD hq
    have hx2 := ha.getD hq2
    simp only [Array.getD_eq_getD_getElem?] at hp hx hx2
    have := run_loadVar_mid (P := Try.prog) w g 0 ty' cs _ (VBlk.rangeAt hb) hu hdd (by rw [hsz, hm])
    simp [results, hr, hp, hx, hx2, asAddr, this], h⟩⟩
end
section
variable {n : Nat} {Q : Exit → Act → World → Prop} {l : Env} {w : World} {ops : Array Oper} {d : Nat} {S : World → Prop} {m fuel : Nat} {listed : Array Bool}
/-- A struct of parts, taken first. -/
theorem WD.build {oi : Oper} {t : Nat} {parts : List (Nat × Operand)} {ps : List (Nat × Value)} (cells : List Value) (i : Nat) (hi : ops[i]? = some oi) (hs : mayB ops listed i m = true) (hd : oi.dst = some d) (hn : Nat.blt d n = true)
    (hQ : Passes Q) (hw : wants ops l oi = some true) (ho : oi.op = .build t parts.toArray) (hp : evlParts l parts = some ps) (hf : Try.prog.built t ps = some cells.toArray) (hS : listed.getD m false = true ∨ S w)
    (h : WD n ops Q S m fuel (listed.setIfInBounds i true) ((d, .agg cells.toArray) :: l) w) : WD n ops Q S m (fuel + 1) listed l w :=
  WD.first i hi hs hd hn hQ (fun a ha => .inl ⟨wants_run ha hw, fun w _ => by
    unfold execOp
    rw [ho]
    have := run_build (P := Try.prog) w t (parts.toArray.map fun (i, x) => (i, a.eval x)) cells.toArray (by
      rw [show (parts.toArray.map fun (x : Nat × Operand) => (x.1, a.eval x.2)).toList = ps by rw [Array.toList_map]; exact evlParts_map ha hp]
      exact hf)
    simp only [Sem.run_bind, this, Result.andThen_ok]
    rfl⟩) hS h
end

/-- A value of nothing. -/
def zV : V := .mk 0 0 0 noT [] []
def zCells : List Value := [.int .i64 0, .int .i64 0, .int .i64 0, .string ByteArray.empty, .slice none 0 0, .slice none 0 0]
theorem zV_is (O : Nat → Prop) (f : Nat) (w : World) : IsVo O (f + 1) w zV zCells := isVo_leaf (k := 0) (n := 0) (s := 0) (t := noT) (by omega) (by omega) (by omega) (by decide)
/-- What read tells (en: nothing may stand behind). -/
def readV (en : Bool) (l : List Int) : Rd V := match rdV 16 l with
  | .bad e => .bad e
  | .ok v r => if chk 16 v ≠ 0 then .bad (chk 16 v) else if en = true ∧ 0 < r.length then .bad 3 else if 65536 < l.length - r.length then .bad 5 else .ok v r
def ReadPost (en : Bool) (w : World) (l : List Int) (r : Ending) (w' : World) : Prop :=
  Below w.heap.size w w' ∧ ∃ (x : V) (cs : List Value) (n : Nat) (e : Int), r = .returned (.tuple #[.agg cs.toArray, .int .i64 n, .int .i64 e]) ∧ IsVo (fun b => w.heap.size ≤ b) 17 w' x cs ∧
    match readV en l with
    | .ok y q => x = y ∧ n = l.length - q.length ∧ e = 0
    | .bad z => x = zV ∧ n = 0 ∧ e = z ∧ z ≠ 0

structure RdSt (w0 : World) (vb rb xb : Nat) (l3 : List Int) (x : V) (cs : List Value) (e : Int) (wx : World) : Prop where
  rs : RS (rb + 1) wx rb l3 e
  vblk : VBlk 60 wx vb zCells
  xblk : VBlk 60 wx xb cs
  val : IsVo (fun b => w0.heap.size ≤ b ∧ b ≠ rb ∧ b ≠ vb) 17 wx x cs
  below : Below w0.heap.size w0 wx
  ne : vb ≠ rb ∧ xb ≠ rb ∧ w0.heap.size ≤ rb ∧ w0.heap.size ≤ vb
section
variable {w0 wx wy : World} {vb rb xb : Nat} {l3 : List Int} {x : V} {cs : List Value} {e e' : Int}
theorem RdSt.fail (h : RdSt w0 vb rb xb l3 x cs e wx) (hr : RS (rb + 1) wy rb l3 e') (hk : KeepR rb wx wy) : RdSt w0 vb rb xb l3 x cs e' wy := by
  have hb := h.below.size
  have hne := h.ne
  exact ⟨hr, h.vblk.keep hk ⟨h.vblk.lt, hne.1⟩, h.xblk.keep hk ⟨h.xblk.lt, hne.2.1⟩, h.val.keep hk (fun b hb hlt => ⟨hlt, hb.2.1⟩) fun b hb => hb, h.below.trans (Keep.below (Keep.mono hk fun b (hb : b < w0.heap.size) => ⟨by omega, by omega⟩)), hne⟩
theorem RdSt.step (h : RdSt w0 vb rb xb l3 x cs e wx) (hk : Below wx.heap.size wx wy) : RdSt w0 vb rb xb l3 x cs e wy := by
  obtain ⟨sp, cap, h1, h2⟩ := h.rs.ex
  exact h.fail (h.rs.keep (Keep.of_below hk) fun b hb => by have := h1.lt; omega) (KeepR.below hk)
end

set_option maxHeartbeats 4000000 in
theorem read_any {w : World} {v : Value} {l : List Int} (en : Bool) (hs : Sl .u8 w v l) (hb : Byt l) (hl : l.length ≤ 140737488355328) :
    Calls Try.prog 73 #[v, .bool en] w (ReadPost en w l) := by
  refine enter (args := [v, .bool en]) Try.func73 rfl Try.ntmps73 rfl ?_
  have hs0 := SlB.of_sl hs
  obtain ⟨sp, cap, rfl, -⟩ := hs
  repeat (first | ((with_reducible refine WL.topT ?_ ?_); omega) | ((with_reducible refine WL.topF ?_ ?_); omega) | ((with_reducible refine WL.top64 ?_ ?_); omega) | refine WC.seq ?_ | refine WC.block ?_ | refine WC.region ?_ | refine WL.nil ?_ | refine WC.skip ?_ | refine WC.exit ?_ | refine WC.ret ?_ | refine WQ.then rfl ?_ | refine WQ.thenExit ?_ | refine WQ.thenRet ?_ | refine WQ.blk ?_ | refine WQ.blkRet ?_ | refine WQ.blkHere rfl ?_ | refine WQ.blkOther rfl ?_ | refine WL.pure rfl rfl rfl rfl ?_ | refine WL.on rfl rfl ?_ | refine WL.off rfl rfl rfl ?_ | refine WC.condTrue rfl ?_ | refine WC.condFalse rfl ?_)
  refine WL.alloc (z := .agg zCells.toArray) rfl rfl rfl rfl (fun _ => by kernel_rfl) fun vb w1 hf1 => ?_
  have hf1' : Fresh w vb w1 60 zCells := hf1
  clear hf1
  repeat (first | ((with_reducible refine WL.topT ?_ ?_); omega) | ((with_reducible refine WL.topF ?_ ?_); omega) | ((with_reducible refine WL.top64 ?_ ?_); omega) | refine WC.seq ?_ | refine WC.block ?_ | refine WC.region ?_ | refine WL.nil ?_ | refine WC.skip ?_ | refine WC.exit ?_ | refine WC.ret ?_ | refine WQ.then rfl ?_ | refine WQ.thenExit ?_ | refine WQ.thenRet ?_ | refine WQ.blk ?_ | refine WQ.blkRet ?_ | refine WQ.blkHere rfl ?_ | refine WQ.blkOther rfl ?_ | refine WL.pure rfl rfl rfl rfl ?_ | refine WL.on rfl rfl ?_ | refine WL.off rfl rfl rfl ?_ | refine WC.condTrue rfl ?_ | refine WC.condFalse rfl ?_)
  refine WL.build [.slice sp l.length cap, .int .i64 0] rfl rfl rfl rfl rfl (by kernel_rfl) ?_
  refine WL.box rfl rfl rfl rfl rfl fun rb w2 hf2 => ?_
  have hf2' : Fresh w1 rb w2 135 [.slice sp l.length cap, .int .i64 0] := hf2
  clear hf2
  have hz1 := hf1'.size
  have hz2 := hf2'.size
  have hvb := hf1'.eq
  have hrb := hf2'.eq
  have hw12 : Below w.heap.size w w2 := hf1'.below.trans (hf2'.below.mono (by omega))
  have hr2 : RS (rb + 1) w2 rb l 0 := ⟨Nat.lt_succ_self _, hb, sp, cap, hf2'.blk, (hs0.keep (Keep.of_below hw12) fun b hb => hb).mono fun b hb => by omega⟩
  have hblk2 : VBlk 60 w2 vb zCells := hf1'.blk.below hf2'.below hf1'.blk.lt
  clear hf1' hf2'
  repeat (first | ((with_reducible refine WL.topT ?_ ?_); omega) | ((with_reducible refine WL.topF ?_ ?_); omega) | ((with_reducible refine WL.top64 ?_ ?_); omega) | refine WC.seq ?_ | refine WC.block ?_ | refine WC.region ?_ | refine WL.nil ?_ | refine WC.skip ?_ | refine WC.exit ?_ | refine WC.ret ?_ | refine WQ.then rfl ?_ | refine WQ.thenExit ?_ | refine WQ.thenRet ?_ | refine WQ.blk ?_ | refine WQ.blkRet ?_ | refine WQ.blkHere rfl ?_ | refine WQ.blkOther rfl ?_ | refine WL.pure rfl rfl rfl rfl ?_ | refine WL.on rfl rfl ?_ | refine WL.off rfl rfl rfl ?_ | refine WC.condTrue rfl ?_ | refine WC.condFalse rfl ?_)
  refine WL.call rfl rfl rfl rfl rfl Try.func81 rfl (by kernel_rfl) (value_any 16 1 rfl (by omega) hr2 (by omega)) ?_
  rintro _ w3 ⟨x, cs, l3, e3, rfl, hv3, hr3, hk3, ho3⟩
  refine ⟨_, rfl, ?_⟩
  have hblk3 := hblk2.keep hk3 ⟨hblk2.lt, by omega⟩
  refine WL.alloc (z := .agg zCells.toArray) rfl rfl rfl rfl (fun _ => by kernel_rfl) fun xb w4 hf4 => ?_
  have hf4' : Fresh w3 xb w4 60 zCells := hf4
  clear hf4
  have hcs := hv3.len
  refine WL.storeRow rfl rfl rfl rfl rfl rfl hf4'.blk hcs rfl hv3.one ?_
  have hz3 := hk3.size
  have hxb := hf4'.eq
  have hz4 := hf4'.size
  have hb4 : Below w3.heap.size w3 (w4.setRow xb cs.toArray) := below_setRow hf4'.below (by omega) _
  have hx4 : VBlk 60 (w4.setRow xb cs.toArray) xb cs := hf4'.blk.setRow cs
  have hz5 : (w4.setRow xb cs.toArray).heap.size = w3.heap.size + 1 := by simpa using hz4
  generalize w4.setRow xb cs.toArray = w5 at hb4 hx4 hz5
  have hv5 : IsVo (fun b => w.heap.size ≤ b ∧ b ≠ rb ∧ b ≠ vb) 17 w5 x cs := (hv3.there.keep (Keep.of_below hb4) (fun b _ h => h) fun b hb => hb).mono fun b hb => by have := hb.1; omega
  have hr5 : RS (rb + 1) w5 rb l3 e3 := hr3.keep (Keep.of_below hb4) fun b hb => by omega
  have hblk5 : VBlk 60 w5 vb zCells := hblk3.below hb4 hblk3.lt
  have hw5 : Below w.heap.size w w5 := by
    refine hw12.trans (Below.trans (Keep.below (Keep.mono hk3 fun b (hb : b < w.heap.size) => ⟨by omega, by omega⟩)) (hb4.mono (by omega)))
  have hne : vb ≠ rb ∧ xb ≠ rb ∧ w.heap.size ≤ rb ∧ w.heap.size ≤ vb := by omega
  have hst : RdSt w vb rb xb l3 x cs e3 w5 := ⟨hr5, hblk5, hx4, hv5, hw5, hne⟩
  obtain ⟨rsp, rcap, hrc, -⟩ := hr5.ex
  have hlen := ho3.len
  clear hf4' hv3 hk3 hr3 hr5 hblk5 hx4 hv5 hw5 hblk3 hb4 hz5 hr2 hblk2 hw12 hs0
  repeat (first | ((with_reducible refine WL.topT ?_ ?_); omega) | ((with_reducible refine WL.topF ?_ ?_); omega) | ((with_reducible refine WL.top64 ?_ ?_); omega) | refine WC.seq ?_ | refine WC.block ?_ | refine WC.region ?_ | refine WL.nil ?_ | refine WC.skip ?_ | refine WC.exit ?_ | refine WC.ret ?_ | refine WQ.then rfl ?_ | refine WQ.thenExit ?_ | refine WQ.thenRet ?_ | refine WQ.blk ?_ | refine WQ.blkRet ?_ | refine WQ.blkHere rfl ?_ | refine WQ.blkOther rfl ?_ | refine WL.pure rfl rfl rfl rfl ?_ | refine WL.on rfl rfl ?_ | refine WL.off rfl rfl rfl ?_ | refine WC.condTrue rfl ?_ | refine WC.condFalse rfl ?_)
  refine WL.load rfl rfl rfl rfl rfl rfl (hrc.cell 1 (by simp)) ?_
  repeat (first | ((with_reducible refine WL.topT ?_ ?_); omega) | ((with_reducible refine WL.topF ?_ ?_); omega) | ((with_reducible refine WL.top64 ?_ ?_); omega) | refine WC.seq ?_ | refine WC.block ?_ | refine WC.region ?_ | refine WL.nil ?_ | refine WC.skip ?_ | refine WC.exit ?_ | refine WC.ret ?_ | refine WQ.then rfl ?_ | refine WQ.thenExit ?_ | refine WQ.thenRet ?_ | refine WQ.blk ?_ | refine WQ.blkRet ?_ | refine WQ.blkHere rfl ?_ | refine WQ.blkOther rfl ?_ | refine WL.pure rfl rfl rfl rfl ?_ | refine WL.on rfl rfl ?_ | refine WL.off rfl rfl rfl ?_ | refine WC.condTrue rfl ?_ | refine WC.condFalse rfl ?_)
  refine WC.mid (fun _ : Int => [(0, .slice sp l.length cap), (1, .bool en), (4, .pointer (some ⟨vb, 0, none⟩)), (7, .pointer (some ⟨rb, 0, none⟩)), (8, .pointer (some ⟨xb, 0, none⟩))]) (fun e4 wx => e4 = (if e3 = 0 then chk 16 x else e3) ∧ RdSt w vb rb xb l3 x cs e4 wx) rfl ?_ ?_
  · by_cases he : e3 = 0
    · refine WC.condT rfl he ?_
      repeat (first | ((with_reducible refine WL.topT ?_ ?_); omega) | ((with_reducible refine WL.topF ?_ ?_); omega) | ((with_reducible refine WL.top64 ?_ ?_); omega) | refine WC.seq ?_ | refine WC.block ?_ | refine WC.region ?_ | refine WL.nil ?_ | refine WC.skip ?_ | refine WC.exit ?_ | refine WC.ret ?_ | refine WQ.then rfl ?_ | refine WQ.thenExit ?_ | refine WQ.thenRet ?_ | refine WQ.blk ?_ | refine WQ.blkRet ?_ | refine WQ.blkHere rfl ?_ | refine WQ.blkOther rfl ?_ | refine WL.pure rfl rfl rfl rfl ?_ | refine WL.on rfl rfl ?_ | refine WL.off rfl rfl rfl ?_ | refine WC.condTrue rfl ?_ | refine WC.condFalse rfl ?_)
      refine WL.loadMid rfl rfl rfl rfl rfl rfl (VBlk.rangeAt hst.xblk) hcs ?_
      refine WL.call rfl rfl rfl rfl rfl Try.func64 rfl (by kernel_rfl) (Vl.Check_any hst.val.isV) ?_
      rintro _ w6 ⟨rfl, hb6⟩
      refine ⟨_, rfl, ?_⟩
      have hst6 := hst.step hb6
      refine WL.call rfl rfl rfl rfl rfl Try.func82 rfl (by kernel_rfl) (fail_any hst6.rs _) ?_
      rintro _ w7 ⟨rfl, hr7, hk7⟩
      refine ⟨_, rfl, ?_⟩
      repeat (first | ((with_reducible refine WL.topT ?_ ?_); omega) | ((with_reducible refine WL.topF ?_ ?_); omega) | ((with_reducible refine WL.top64 ?_ ?_); omega) | refine WC.seq ?_ | refine WC.block ?_ | refine WC.region ?_ | refine WL.nil ?_ | refine WC.skip ?_ | refine WC.exit ?_ | refine WC.ret ?_ | refine WQ.then rfl ?_ | refine WQ.thenExit ?_ | refine WQ.thenRet ?_ | refine WQ.blk ?_ | refine WQ.blkRet ?_ | refine WQ.blkHere rfl ?_ | refine WQ.blkOther rfl ?_ | refine WL.pure rfl rfl rfl rfl ?_ | refine WL.on rfl rfl ?_ | refine WL.off rfl rfl rfl ?_ | refine WC.condTrue rfl ?_ | refine WC.condFalse rfl ?_)
      rw [if_pos he] at hr7
      exact WQ.meet _ ⟨rfl, rfl, rfl, rfl, rfl, trivial⟩ ⟨by rw [if_pos he], hst6.fail hr7 hk7⟩
    · refine WC.condF rfl he ?_
      repeat (first | ((with_reducible refine WL.topT ?_ ?_); omega) | ((with_reducible refine WL.topF ?_ ?_); omega) | ((with_reducible refine WL.top64 ?_ ?_); omega) | refine WC.seq ?_ | refine WC.block ?_ | refine WC.region ?_ | refine WL.nil ?_ | refine WC.skip ?_ | refine WC.exit ?_ | refine WC.ret ?_ | refine WQ.then rfl ?_ | refine WQ.thenExit ?_ | refine WQ.thenRet ?_ | refine WQ.blk ?_ | refine WQ.blkRet ?_ | refine WQ.blkHere rfl ?_ | refine WQ.blkOther rfl ?_ | refine WL.pure rfl rfl rfl rfl ?_ | refine WL.on rfl rfl ?_ | refine WL.off rfl rfl rfl ?_ | refine WC.condTrue rfl ?_ | refine WC.condFalse rfl ?_)
      exact WQ.meet _ ⟨rfl, rfl, rfl, rfl, rfl, trivial⟩ ⟨by rw [if_neg he], hst⟩
  rintro e4 w6 ⟨he4, hst6⟩
  clear hrc hst
  obtain ⟨rsp, rcap, hrc, -⟩ := hst6.rs.ex
  repeat (first | refine WC.seq ?_ | refine WC.block ?_ | refine WC.region ?_ | refine WL.nil ?_ | refine WC.skip ?_ | refine WC.exit ?_ | refine WC.ret ?_ | refine WQ.then rfl ?_ | refine WQ.thenExit ?_ | refine WQ.thenRet ?_ | refine WQ.blk ?_ | refine WQ.blkRet ?_ | refine WQ.blkHere rfl ?_ | refine WQ.blkOther rfl ?_)
  refine WL.mid (fun b : Bool => [(0, .slice sp l.length cap), (4, .pointer (some ⟨vb, 0, none⟩)), (7, .pointer (some ⟨rb, 0, none⟩)), (8, .pointer (some ⟨xb, 0, none⟩)), (32, .bool b)]) (fun b wx => b = decide (en = true ∧ 0 < l3.length) ∧ wx = w6) rfl ?_ ?_
  · cases en with
    | true =>
      repeat (first | ((with_reducible refine WL.topT ?_ ?_); omega) | ((with_reducible refine WL.topF ?_ ?_); omega) | ((with_reducible refine WL.top64 ?_ ?_); omega) | refine WC.seq ?_ | refine WC.block ?_ | refine WC.region ?_ | refine WL.nil ?_ | refine WC.skip ?_ | refine WC.exit ?_ | refine WC.ret ?_ | refine WQ.then rfl ?_ | refine WQ.thenExit ?_ | refine WQ.thenRet ?_ | refine WQ.blk ?_ | refine WQ.blkRet ?_ | refine WQ.blkHere rfl ?_ | refine WQ.blkOther rfl ?_ | refine WL.pure rfl rfl rfl rfl ?_ | refine WL.on rfl rfl ?_ | refine WL.off rfl rfl rfl ?_ | refine WC.condTrue rfl ?_ | refine WC.condFalse rfl ?_)
      refine WL.load rfl rfl rfl rfl rfl rfl (hrc.cell 0 (by simp)) ?_
      by_cases h0 : 0 < l3.length
      · repeat (first | ((with_reducible refine WL.topT ?_ ?_); omega) | ((with_reducible refine WL.topF ?_ ?_); omega) | ((with_reducible refine WL.top64 ?_ ?_); omega) | refine WC.seq ?_ | refine WC.block ?_ | refine WC.region ?_ | refine WL.nil ?_ | refine WC.skip ?_ | refine WC.exit ?_ | refine WC.ret ?_ | refine WQ.then rfl ?_ | refine WQ.thenExit ?_ | refine WQ.thenRet ?_ | refine WQ.blk ?_ | refine WQ.blkRet ?_ | refine WQ.blkHere rfl ?_ | refine WQ.blkOther rfl ?_ | refine WL.pure rfl rfl rfl rfl ?_ | refine WL.on rfl rfl ?_ | refine WL.off rfl rfl rfl ?_ | refine WC.condTrue rfl ?_ | refine WC.condFalse rfl ?_)
        exact WQ.meet true ⟨rfl, rfl, rfl, rfl, rfl, trivial⟩ ⟨by simp [h0], rfl⟩
      · repeat (first | ((with_reducible refine WL.topT ?_ ?_); omega) | ((with_reducible refine WL.topF ?_ ?_); omega) | ((with_reducible refine WL.top64 ?_ ?_); omega) | refine WC.seq ?_ | refine WC.block ?_ | refine WC.region ?_ | refine WL.nil ?_ | refine WC.skip ?_ | refine WC.exit ?_ | refine WC.ret ?_ | refine WQ.then rfl ?_ | refine WQ.thenExit ?_ | refine WQ.thenRet ?_ | refine WQ.blk ?_ | refine WQ.blkRet ?_ | refine WQ.blkHere rfl ?_ | refine WQ.blkOther rfl ?_ | refine WL.pure rfl rfl rfl rfl ?_ | refine WL.on rfl rfl ?_ | refine WL.off rfl rfl rfl ?_ | refine WC.condTrue rfl ?_ | refine WC.condFalse rfl ?_)
        exact WQ.meet false ⟨rfl, rfl, rfl, rfl, rfl, trivial⟩ ⟨by simp [h0], rfl⟩
    | false =>
      repeat (first | ((with_reducible refine WL.topT ?_ ?_); omega) | ((with_reducible refine WL.topF ?_ ?_); omega) | ((with_reducible refine WL.top64 ?_ ?_); omega) | refine WC.seq ?_ | refine WC.block ?_ | refine WC.region ?_ | refine WL.nil ?_ | refine WC.skip ?_ | refine WC.exit ?_ | refine WC.ret ?_ | refine WQ.then rfl ?_ | refine WQ.thenExit ?_ | refine WQ.thenRet ?_ | refine WQ.blk ?_ | refine WQ.blkRet ?_ | refine WQ.blkHere rfl ?_ | refine WQ.blkOther rfl ?_ | refine WL.pure rfl rfl rfl rfl ?_ | refine WL.on rfl rfl ?_ | refine WL.off rfl rfl rfl ?_ | refine WC.condTrue rfl ?_ | refine WC.condFalse rfl ?_)
      exact WQ.meet false ⟨rfl, rfl, rfl, rfl, rfl, trivial⟩ ⟨by simp, rfl⟩
  rintro b _ ⟨hb5, rfl⟩
  refine WC.mid (fun _ : Int => [(0, .slice sp l.length cap), (4, .pointer (some ⟨vb, 0, none⟩)), (7, .pointer (some ⟨rb, 0, none⟩)), (8, .pointer (some ⟨xb, 0, none⟩))]) (fun e5 wx => e5 = (if e4 = 0 then (if en = true ∧ 0 < l3.length then 3 else 0) else e4) ∧ RdSt w vb rb xb l3 x cs e5 wx) rfl ?_ ?_
  · cases b with
    | true =>
      repeat (first | ((with_reducible refine WL.topT ?_ ?_); omega) | ((with_reducible refine WL.topF ?_ ?_); omega) | ((with_reducible refine WL.top64 ?_ ?_); omega) | refine WC.seq ?_ | refine WC.block ?_ | refine WC.region ?_ | refine WL.nil ?_ | refine WC.skip ?_ | refine WC.exit ?_ | refine WC.ret ?_ | refine WQ.then rfl ?_ | refine WQ.thenExit ?_ | refine WQ.thenRet ?_ | refine WQ.blk ?_ | refine WQ.blkRet ?_ | refine WQ.blkHere rfl ?_ | refine WQ.blkOther rfl ?_ | refine WL.pure rfl rfl rfl rfl ?_ | refine WL.on rfl rfl ?_ | refine WL.off rfl rfl rfl ?_ | refine WC.condTrue rfl ?_ | refine WC.condFalse rfl ?_)
      refine WL.call rfl rfl rfl rfl rfl Try.func82 rfl (by kernel_rfl) (fail_any hst6.rs 3) ?_
      rintro _ w7 ⟨rfl, hr7, hk7⟩
      refine ⟨_, rfl, ?_⟩
      repeat (first | ((with_reducible refine WL.topT ?_ ?_); omega) | ((with_reducible refine WL.topF ?_ ?_); omega) | ((with_reducible refine WL.top64 ?_ ?_); omega) | refine WC.seq ?_ | refine WC.block ?_ | refine WC.region ?_ | refine WL.nil ?_ | refine WC.skip ?_ | refine WC.exit ?_ | refine WC.ret ?_ | refine WQ.then rfl ?_ | refine WQ.thenExit ?_ | refine WQ.thenRet ?_ | refine WQ.blk ?_ | refine WQ.blkRet ?_ | refine WQ.blkHere rfl ?_ | refine WQ.blkOther rfl ?_ | refine WL.pure rfl rfl rfl rfl ?_ | refine WL.on rfl rfl ?_ | refine WL.off rfl rfl rfl ?_ | refine WC.condTrue rfl ?_ | refine WC.condFalse rfl ?_)
      refine WQ.meet _ ⟨rfl, rfl, rfl, rfl, trivial⟩ ⟨?_, hst6.fail hr7 hk7⟩
      rw [if_pos (of_decide_eq_true hb5.symm)]
    | false =>
      repeat (first | ((with_reducible refine WL.topT ?_ ?_); omega) | ((with_reducible refine WL.topF ?_ ?_); omega) | ((with_reducible refine WL.top64 ?_ ?_); omega) | refine WC.seq ?_ | refine WC.block ?_ | refine WC.region ?_ | refine WL.nil ?_ | refine WC.skip ?_ | refine WC.exit ?_ | refine WC.ret ?_ | refine WQ.then rfl ?_ | refine WQ.thenExit ?_ | refine WQ.thenRet ?_ | refine WQ.blk ?_ | refine WQ.blkRet ?_ | refine WQ.blkHere rfl ?_ | refine WQ.blkOther rfl ?_ | refine WL.pure rfl rfl rfl rfl ?_ | refine WL.on rfl rfl ?_ | refine WL.off rfl rfl rfl ?_ | refine WC.condTrue rfl ?_ | refine WC.condFalse rfl ?_)
      refine WQ.meet e4 ⟨rfl, rfl, rfl, rfl, trivial⟩ ⟨?_, hst6⟩
      rw [if_neg (of_decide_eq_false hb5.symm)]
      split <;> omega
  rintro e5 w7 ⟨he5, hst7⟩
  clear hrc hst6 hb5
  obtain ⟨rsp, rcap, hrc, -⟩ := hst7.rs.ex
  repeat (first | ((with_reducible refine WL.topT ?_ ?_); omega) | ((with_reducible refine WL.topF ?_ ?_); omega) | ((with_reducible refine WL.top64 ?_ ?_); omega) | refine WC.seq ?_ | refine WC.block ?_ | refine WC.region ?_ | refine WL.nil ?_ | refine WC.skip ?_ | refine WC.exit ?_ | refine WC.ret ?_ | refine WQ.then rfl ?_ | refine WQ.thenExit ?_ | refine WQ.thenRet ?_ | refine WQ.blk ?_ | refine WQ.blkRet ?_ | refine WQ.blkHere rfl ?_ | refine WQ.blkOther rfl ?_ | refine WL.pure rfl rfl rfl rfl ?_ | refine WL.on rfl rfl ?_ | refine WL.off rfl rfl rfl ?_ | refine WC.condTrue rfl ?_ | refine WC.condFalse rfl ?_)
  refine WL.load rfl rfl rfl rfl rfl rfl (hrc.cell 0 (by simp)) ?_
  repeat (first | ((with_reducible refine WL.topT ?_ ?_); omega) | ((with_reducible refine WL.topF ?_ ?_); omega) | ((with_reducible refine WL.top64 ?_ ?_); omega) | refine WC.seq ?_ | refine WC.block ?_ | refine WC.region ?_ | refine WL.nil ?_ | refine WC.skip ?_ | refine WC.exit ?_ | refine WC.ret ?_ | refine WQ.then rfl ?_ | refine WQ.thenExit ?_ | refine WQ.thenRet ?_ | refine WQ.blk ?_ | refine WQ.blkRet ?_ | refine WQ.blkHere rfl ?_ | refine WQ.blkOther rfl ?_ | refine WL.pure rfl rfl rfl rfl ?_ | refine WL.on rfl rfl ?_ | refine WL.off rfl rfl rfl ?_ | refine WC.condTrue rfl ?_ | refine WC.condFalse rfl ?_)
  refine WC.mid (fun _ : Int => [(9, .int .i64 ((l.length : Int) - (l3.length : Int))), (0, .slice sp l.length cap), (4, .pointer (some ⟨vb, 0, none⟩)), (7, .pointer (some ⟨rb, 0, none⟩)), (8, .pointer (some ⟨xb, 0, none⟩))]) (fun e6 wx => e6 = (if e5 = 0 then (if 65536 < l.length - l3.length then 5 else 0) else e5) ∧ RdSt w vb rb xb l3 x cs e6 wx) rfl ?_ ?_
  · by_cases hbig : 65536 < l.length - l3.length
    · refine WC.condT rfl (by omega) ?_
      repeat (first | ((with_reducible refine WL.topT ?_ ?_); omega) | ((with_reducible refine WL.topF ?_ ?_); omega) | ((with_reducible refine WL.top64 ?_ ?_); omega) | refine WC.seq ?_ | refine WC.block ?_ | refine WC.region ?_ | refine WL.nil ?_ | refine WC.skip ?_ | refine WC.exit ?_ | refine WC.ret ?_ | refine WQ.then rfl ?_ | refine WQ.thenExit ?_ | refine WQ.thenRet ?_ | refine WQ.blk ?_ | refine WQ.blkRet ?_ | refine WQ.blkHere rfl ?_ | refine WQ.blkOther rfl ?_ | refine WL.pure rfl rfl rfl rfl ?_ | refine WL.on rfl rfl ?_ | refine WL.off rfl rfl rfl ?_ | refine WC.condTrue rfl ?_ | refine WC.condFalse rfl ?_)
      refine WL.call rfl rfl rfl rfl rfl Try.func82 rfl (by kernel_rfl) (fail_any hst7.rs 5) ?_
      rintro _ w8 ⟨rfl, hr8, hk8⟩
      refine ⟨_, rfl, ?_⟩
      repeat (first | ((with_reducible refine WL.topT ?_ ?_); omega) | ((with_reducible refine WL.topF ?_ ?_); omega) | ((with_reducible refine WL.top64 ?_ ?_); omega) | refine WC.seq ?_ | refine WC.block ?_ | refine WC.region ?_ | refine WL.nil ?_ | refine WC.skip ?_ | refine WC.exit ?_ | refine WC.ret ?_ | refine WQ.then rfl ?_ | refine WQ.thenExit ?_ | refine WQ.thenRet ?_ | refine WQ.blk ?_ | refine WQ.blkRet ?_ | refine WQ.blkHere rfl ?_ | refine WQ.blkOther rfl ?_ | refine WL.pure rfl rfl rfl rfl ?_ | refine WL.on rfl rfl ?_ | refine WL.off rfl rfl rfl ?_ | refine WC.condTrue rfl ?_ | refine WC.condFalse rfl ?_)
      refine WQ.meet _ ⟨rfl, rfl, rfl, rfl, rfl, trivial⟩ ⟨?_, hst7.fail hr8 hk8⟩
      rw [if_pos hbig]
    · refine WC.condF rfl (by omega) ?_
      repeat (first | ((with_reducible refine WL.topT ?_ ?_); omega) | ((with_reducible refine WL.topF ?_ ?_); omega) | ((with_reducible refine WL.top64 ?_ ?_); omega) | refine WC.seq ?_ | refine WC.block ?_ | refine WC.region ?_ | refine WL.nil ?_ | refine WC.skip ?_ | refine WC.exit ?_ | refine WC.ret ?_ | refine WQ.then rfl ?_ | refine WQ.thenExit ?_ | refine WQ.thenRet ?_ | refine WQ.blk ?_ | refine WQ.blkRet ?_ | refine WQ.blkHere rfl ?_ | refine WQ.blkOther rfl ?_ | refine WL.pure rfl rfl rfl rfl ?_ | refine WL.on rfl rfl ?_ | refine WL.off rfl rfl rfl ?_ | refine WC.condTrue rfl ?_ | refine WC.condFalse rfl ?_)
      refine WQ.meet e5 ⟨rfl, rfl, rfl, rfl, rfl, trivial⟩ ⟨?_, hst7⟩
      rw [if_neg hbig]
      split <;> omega
  rintro e6 w8 ⟨he6, hst8⟩
  clear hrc hst7
  obtain ⟨rsp, rcap, hrc, -⟩ := hst8.rs.ex
  -- what read tells
  have hout : match readV en l with
      | .ok y q => e6 = 0 ∧ x = y ∧ l3 = q
      | .bad z => e6 = z ∧ z ≠ 0 := by
    have h3 := ho3.ok rfl
    unfold readV
    cases hq : rdV 16 l with
    | bad z =>
      rw [hq] at h3
      obtain ⟨rfl, hz⟩ := h3
      rw [if_neg hz] at he4
      subst he4
      rw [if_neg hz] at he5
      subst he5
      rw [if_neg hz] at he6
      subst he6
      exact ⟨rfl, hz⟩
    | ok y q =>
      rw [hq] at h3
      obtain ⟨rfl, rfl, rfl⟩ := h3
      rw [if_pos rfl] at he4
      simp only
      by_cases hc : chk 16 x = 0
      · rw [if_neg (by simpa using hc)]
        rw [he4, if_pos hc] at he5
        by_cases h1 : en = true ∧ 0 < l3.length
        · rw [if_pos h1] at he5 ⊢
          rw [he5] at he6
          simp at he6
          exact ⟨he6, by omega⟩
        · rw [if_neg h1] at he5 ⊢
          rw [he5, if_pos rfl] at he6
          by_cases h2 : 65536 < l.length - l3.length
          · rw [if_pos h2] at he6 ⊢
            exact ⟨he6, by omega⟩
          · rw [if_neg h2] at he6 ⊢
            exact ⟨he6, rfl, rfl⟩
      · rw [if_pos hc]
        rw [he4, if_neg hc] at he5
        rw [he5, if_neg hc] at he6
        exact ⟨he6, hc⟩
  repeat (first | ((with_reducible refine WL.topT ?_ ?_); omega) | ((with_reducible refine WL.topF ?_ ?_); omega) | ((with_reducible refine WL.top64 ?_ ?_); omega) | refine WC.seq ?_ | refine WC.block ?_ | refine WC.region ?_ | refine WL.nil ?_ | refine WC.skip ?_ | refine WC.exit ?_ | refine WC.ret ?_ | refine WQ.then rfl ?_ | refine WQ.thenExit ?_ | refine WQ.thenRet ?_ | refine WQ.blk ?_ | refine WQ.blkRet ?_ | refine WQ.blkHere rfl ?_ | refine WQ.blkOther rfl ?_ | refine WL.pure rfl rfl rfl rfl ?_ | refine WL.on rfl rfl ?_ | refine WL.off rfl rfl rfl ?_ | refine WC.condTrue rfl ?_ | refine WC.condFalse rfl ?_)
  refine WL.load rfl rfl rfl rfl rfl rfl (hrc.cell 1 (by simp)) ?_
  by_cases h6 : e6 = 0
  · repeat (first | ((with_reducible refine WL.topT ?_ ?_); omega) | ((with_reducible refine WL.topF ?_ ?_); omega) | ((with_reducible refine WL.top64 ?_ ?_); omega) | refine WC.seq ?_ | refine WC.block ?_ | refine WC.region ?_ | refine WL.nil ?_ | refine WC.skip ?_ | refine WC.exit ?_ | refine WC.ret ?_ | refine WQ.then rfl ?_ | refine WQ.thenExit ?_ | refine WQ.thenRet ?_ | refine WQ.blk ?_ | refine WQ.blkRet ?_ | refine WQ.blkHere rfl ?_ | refine WQ.blkOther rfl ?_ | refine WL.pure rfl rfl rfl rfl ?_ | refine WL.on rfl rfl ?_ | refine WL.off rfl rfl rfl ?_ | refine WC.condTrue rfl ?_ | refine WC.condFalse rfl ?_)
    refine WL.loadMid rfl rfl rfl rfl rfl rfl (VBlk.rangeAt hst8.xblk) hcs ?_
    repeat (first | ((with_reducible refine WL.topT ?_ ?_); omega) | ((with_reducible refine WL.topF ?_ ?_); omega) | ((with_reducible refine WL.top64 ?_ ?_); omega) | refine WC.seq ?_ | refine WC.block ?_ | refine WC.region ?_ | refine WL.nil ?_ | refine WC.skip ?_ | refine WC.exit ?_ | refine WC.ret ?_ | refine WQ.then rfl ?_ | refine WQ.thenExit ?_ | refine WQ.thenRet ?_ | refine WQ.blk ?_ | refine WQ.blkRet ?_ | refine WQ.blkHere rfl ?_ | refine WQ.blkOther rfl ?_ | refine WL.pure rfl rfl rfl rfl ?_ | refine WL.on rfl rfl ?_ | refine WL.off rfl rfl rfl ?_ | refine WC.condTrue rfl ?_ | refine WC.condFalse rfl ?_)
    refine WL.storeRow rfl rfl rfl rfl rfl rfl hst8.vblk hcs rfl hst8.val.one ?_
    repeat (first | ((with_reducible refine WL.topT ?_ ?_); omega) | ((with_reducible refine WL.topF ?_ ?_); omega) | ((with_reducible refine WL.top64 ?_ ?_); omega) | refine WC.seq ?_ | refine WC.block ?_ | refine WC.region ?_ | refine WL.nil ?_ | refine WC.skip ?_ | refine WC.exit ?_ | refine WC.ret ?_ | refine WQ.then rfl ?_ | refine WQ.thenExit ?_ | refine WQ.thenRet ?_ | refine WQ.blk ?_ | refine WQ.blkRet ?_ | refine WQ.blkHere rfl ?_ | refine WQ.blkOther rfl ?_ | refine WL.pure rfl rfl rfl rfl ?_ | refine WL.on rfl rfl ?_ | refine WL.off rfl rfl rfl ?_ | refine WC.condTrue rfl ?_ | refine WC.condFalse rfl ?_)
    have hset : Keep (fun b => b ≠ vb) w8 (w8.setRow vb cs.toArray) := Keep.setRow (Keep.refl _ w8) (fun hk => hk rfl) _
    refine WQ.retCTT rfl rfl rfl rfl rfl hcs (hst8.vblk.setRow cs) ⟨Keep.below (Keep.setRow (Keep.of_below hst8.below) (fun hk => by omega) _), x, cs, l.length - l3.length, 0, ?_, (hst8.val.keep hset (fun b hb _ => hb.2.2) fun b hb => hb.1), ?_⟩
    · rw [show ((l.length - l3.length : Nat) : Int) = (l.length : Int) - (l3.length : Int) by omega]
    · cases hq : readV en l with
      | ok y q => rw [hq] at hout; obtain ⟨-, rfl, rfl⟩ := hout; exact ⟨rfl, rfl, rfl⟩
      | bad z => rw [hq] at hout; exact absurd (hout.1.symm.trans h6) hout.2
  · repeat (first | ((with_reducible refine WL.topT ?_ ?_); omega) | ((with_reducible refine WL.topF ?_ ?_); omega) | ((with_reducible refine WL.top64 ?_ ?_); omega) | refine WC.seq ?_ | refine WC.block ?_ | refine WC.region ?_ | refine WL.nil ?_ | refine WC.skip ?_ | refine WC.exit ?_ | refine WC.ret ?_ | refine WQ.then rfl ?_ | refine WQ.thenExit ?_ | refine WQ.thenRet ?_ | refine WQ.blk ?_ | refine WQ.blkRet ?_ | refine WQ.blkHere rfl ?_ | refine WQ.blkOther rfl ?_ | refine WL.pure rfl rfl rfl rfl ?_ | refine WL.on rfl rfl ?_ | refine WL.off rfl rfl rfl ?_ | refine WC.condTrue rfl ?_ | refine WC.condFalse rfl ?_)
    refine WC.drawn 7 (fun wx => VBlk 135 wx rb [.slice rsp l3.length rcap, .int .i64 e6]) fun w9 hd9 => ?_
    have hst9 := hst8.step (hd9.below _)
    have hS : VBlk 135 w9 rb [.slice rsp l3.length rcap, .int .i64 e6] := hrc.below (hd9.below _) hrc.lt
    refine WD.build zCells 0 rfl (by kernel_rfl) rfl rfl (fun _ _ _ _ _ h => h) rfl rfl rfl (by kernel_rfl) (.inr hS) ?_
    (((first | refine WD.free 1 rfl (by kernel_rfl) rfl rfl (fun _ _ _ _ _ h => h) rfl rfl (.inr hS) ?_ | refine WD.skip 1 rfl (by kernel_rfl) rfl rfl (fun _ _ _ _ _ h => h) rfl (.inr hS) ?_); try (first | ((with_reducible refine WD.topT ?_ ?_); omega) | ((with_reducible refine WD.topF ?_ ?_); omega) | ((with_reducible refine WD.top64 ?_ ?_); omega))); ((first | refine WD.free 2 rfl (by kernel_rfl) rfl rfl (fun _ _ _ _ _ h => h) rfl rfl (.inr hS) ?_ | refine WD.skip 2 rfl (by kernel_rfl) rfl rfl (fun _ _ _ _ _ h => h) rfl (.inr hS) ?_); try (first | ((with_reducible refine WD.topT ?_ ?_); omega) | ((with_reducible refine WD.topF ?_ ?_); omega) | ((with_reducible refine WD.top64 ?_ ?_); omega))); ((first | refine WD.free 3 rfl (by kernel_rfl) rfl rfl (fun _ _ _ _ _ h => h) rfl rfl (.inr hS) ?_ | refine WD.skip 3 rfl (by kernel_rfl) rfl rfl (fun _ _ _ _ _ h => h) rfl (.inr hS) ?_); try (first | ((with_reducible refine WD.topT ?_ ?_); omega) | ((with_reducible refine WD.topF ?_ ?_); omega) | ((with_reducible refine WD.top64 ?_ ?_); omega))))
    refine WD.load 4 [7] rfl (by kernel_rfl) rfl rfl (fun _ _ _ _ _ h => h) rfl rfl rfl rfl (fun wx hx => hx.cell 1 (by simp)) hS ?_
    refine WD.one 5 (by kernel_rfl) rfl ?_
    refine WL.storeRow rfl rfl rfl rfl rfl rfl hst9.vblk rfl rfl (zV_is (fun _ => True) 0 w9).one ?_
    have hne2 := hst9.ne
    have hS2 : VBlk 135 (w9.setRow vb zCells.toArray) rb [.slice rsp l3.length rcap, .int .i64 e6] := hS.setRow_other _ (by omega)
    have hvb2 := hst9.vblk.setRow zCells
    have hbel2 : Below w.heap.size w (w9.setRow vb zCells.toArray) := Keep.below (Keep.setRow (Keep.of_below hst9.below) (fun hk => by omega) _)
    generalize w9.setRow vb zCells.toArray = w10 at hS2 hvb2 hbel2
    refine WL.nil (WQ.dk (.inr hS2) ?_)
    refine WD.one 6 (by kernel_rfl) rfl ?_
    refine WL.pure rfl rfl rfl rfl ?_
    refine WL.nil (WQ.dk (.inr hS2) ?_)
    refine WD.one 7 (by kernel_rfl) rfl ?_
    refine WL.pure rfl rfl rfl rfl ?_
    refine WL.nil (WQ.dk (.inl rfl) ?_)
    refine WD.done (by kernel_rfl) ?_
    repeat (first | ((with_reducible refine WL.topT ?_ ?_); omega) | ((with_reducible refine WL.topF ?_ ?_); omega) | ((with_reducible refine WL.top64 ?_ ?_); omega) | refine WC.seq ?_ | refine WC.block ?_ | refine WC.region ?_ | refine WL.nil ?_ | refine WC.skip ?_ | refine WC.exit ?_ | refine WC.ret ?_ | refine WQ.then rfl ?_ | refine WQ.thenExit ?_ | refine WQ.thenRet ?_ | refine WQ.blk ?_ | refine WQ.blkRet ?_ | refine WQ.blkHere rfl ?_ | refine WQ.blkOther rfl ?_ | refine WL.pure rfl rfl rfl rfl ?_ | refine WL.on rfl rfl ?_ | refine WL.off rfl rfl rfl ?_ | refine WC.condTrue rfl ?_ | refine WC.condFalse rfl ?_)
    refine WQ.retCTT rfl rfl rfl rfl rfl rfl hvb2 ⟨hbel2, zV, zCells, 0, e6, rfl, zV_is _ _ _, ?_⟩
    cases hq : readV en l with
    | ok y q => rw [hq] at hout; exact absurd hout.1 h6
    | bad z => rw [hq] at hout; exact ⟨rfl, rfl, hout.1, hout.2⟩

/-- What Decode promises. -/
def DecPost (w : World) (l : List Int) (r : Ending) (w' : World) : Prop :=
  Below w.heap.size w w' ∧ ∃ (x : V) (cs : List Value) (e : Int), r = .returned (.tuple #[.agg cs.toArray, .int .i64 e]) ∧ IsVo (fun b => w.heap.size ≤ b) 17 w' x cs ∧
    match readV true l with
    | .ok y _ => x = y ∧ e = 0
    | .bad z => x = zV ∧ e = z ∧ z ≠ 0
theorem decode_any {w : World} {v : Value} {l : List Int} (hs : Sl .u8 w v l) (hb : Byt l) (hl : l.length ≤ 140737488355328) :
    Calls Try.prog 58 #[v] w (DecPost w l) := by
  refine enter (args := [v]) Try.func58 rfl Try.ntmps58 rfl ?_
  repeat (first | ((with_reducible refine WL.topT ?_ ?_); omega) | ((with_reducible refine WL.topF ?_ ?_); omega) | ((with_reducible refine WL.top64 ?_ ?_); omega) | refine WC.seq ?_ | refine WC.block ?_ | refine WC.region ?_ | refine WL.nil ?_ | refine WC.skip ?_ | refine WC.exit ?_ | refine WC.ret ?_ | refine WQ.then rfl ?_ | refine WQ.thenExit ?_ | refine WQ.thenRet ?_ | refine WQ.blk ?_ | refine WQ.blkRet ?_ | refine WQ.blkHere rfl ?_ | refine WQ.blkOther rfl ?_ | refine WL.pure rfl rfl rfl rfl ?_ | refine WL.on rfl rfl ?_ | refine WL.off rfl rfl rfl ?_ | refine WC.condTrue rfl ?_ | refine WC.condFalse rfl ?_)
  refine WL.alloc (z := .agg zCells.toArray) rfl rfl rfl rfl (fun _ => by kernel_rfl) fun vb w1 hf1 => ?_
  have hf1' : Fresh w vb w1 60 zCells := hf1
  clear hf1
  have hz1 := hf1'.size
  have hvb := hf1'.eq
  have hb1 := hf1'.below
  have hblk1 := hf1'.blk
  clear hf1'
  repeat (first | ((with_reducible refine WL.topT ?_ ?_); omega) | ((with_reducible refine WL.topF ?_ ?_); omega) | ((with_reducible refine WL.top64 ?_ ?_); omega) | refine WC.seq ?_ | refine WC.block ?_ | refine WC.region ?_ | refine WL.nil ?_ | refine WC.skip ?_ | refine WC.exit ?_ | refine WC.ret ?_ | refine WQ.then rfl ?_ | refine WQ.thenExit ?_ | refine WQ.thenRet ?_ | refine WQ.blk ?_ | refine WQ.blkRet ?_ | refine WQ.blkHere rfl ?_ | refine WQ.blkOther rfl ?_ | refine WL.pure rfl rfl rfl rfl ?_ | refine WL.on rfl rfl ?_ | refine WL.off rfl rfl rfl ?_ | refine WC.condTrue rfl ?_ | refine WC.condFalse rfl ?_)
  refine WL.call rfl rfl rfl rfl rfl Try.func73 rfl (by kernel_rfl) (read_any true (hs.of_below hb1) hb hl) ?_
  rintro _ w2 ⟨hb2, x, cs, n, e, rfl, hv2, hout⟩
  refine ⟨_, rfl, ?_⟩
  have hcs := hv2.len
  have hblk2 := hblk1.below hb2 hblk1.lt
  have hz2 := hb2.size
  repeat (first | ((with_reducible refine WL.topT ?_ ?_); omega) | ((with_reducible refine WL.topF ?_ ?_); omega) | ((with_reducible refine WL.top64 ?_ ?_); omega) | refine WC.seq ?_ | refine WC.block ?_ | refine WC.region ?_ | refine WL.nil ?_ | refine WC.skip ?_ | refine WC.exit ?_ | refine WC.ret ?_ | refine WQ.then rfl ?_ | refine WQ.thenExit ?_ | refine WQ.thenRet ?_ | refine WQ.blk ?_ | refine WQ.blkRet ?_ | refine WQ.blkHere rfl ?_ | refine WQ.blkOther rfl ?_ | refine WL.pure rfl rfl rfl rfl ?_ | refine WL.on rfl rfl ?_ | refine WL.off rfl rfl rfl ?_ | refine WC.condTrue rfl ?_ | refine WC.condFalse rfl ?_)
  refine WL.alloc (z := .agg zCells.toArray) rfl rfl rfl rfl (fun _ => by kernel_rfl) fun xb w3 hf3 => ?_
  have hf3' : Fresh w2 xb w3 60 zCells := hf3
  clear hf3
  refine WL.storeRow rfl rfl rfl rfl rfl rfl hf3'.blk hcs rfl hv2.one ?_
  have hxb := hf3'.eq
  have hb4 : Below w2.heap.size w2 (w3.setRow xb cs.toArray) := below_setRow hf3'.below (by omega) _
  have hx4 : VBlk 60 (w3.setRow xb cs.toArray) xb cs := hf3'.blk.setRow cs
  generalize w3.setRow xb cs.toArray = w4 at hb4 hx4
  clear hf3'
  have hblk4 := hblk2.below hb4 hblk2.lt
  have hw4 : Below w.heap.size w w4 := hb1.trans ((hb2.mono (by omega)).trans (hb4.mono (by omega)))
  have hv4 : IsVo (fun b => w.heap.size ≤ b ∧ b ≠ vb) 17 w4 x cs := hv2.keep (Keep.of_below hb4) (fun b _ h => h) fun b hb => by omega
  repeat (first | ((with_reducible refine WL.topT ?_ ?_); omega) | ((with_reducible refine WL.topF ?_ ?_); omega) | ((with_reducible refine WL.top64 ?_ ?_); omega) | refine WC.seq ?_ | refine WC.block ?_ | refine WC.region ?_ | refine WL.nil ?_ | refine WC.skip ?_ | refine WC.exit ?_ | refine WC.ret ?_ | refine WQ.then rfl ?_ | refine WQ.thenExit ?_ | refine WQ.thenRet ?_ | refine WQ.blk ?_ | refine WQ.blkRet ?_ | refine WQ.blkHere rfl ?_ | refine WQ.blkOther rfl ?_ | refine WL.pure rfl rfl rfl rfl ?_ | refine WL.on rfl rfl ?_ | refine WL.off rfl rfl rfl ?_ | refine WC.condTrue rfl ?_ | refine WC.condFalse rfl ?_)
  refine WL.loadMid rfl rfl rfl rfl rfl rfl (VBlk.rangeAt hx4) hcs ?_
  repeat (first | ((with_reducible refine WL.topT ?_ ?_); omega) | ((with_reducible refine WL.topF ?_ ?_); omega) | ((with_reducible refine WL.top64 ?_ ?_); omega) | refine WC.seq ?_ | refine WC.block ?_ | refine WC.region ?_ | refine WL.nil ?_ | refine WC.skip ?_ | refine WC.exit ?_ | refine WC.ret ?_ | refine WQ.then rfl ?_ | refine WQ.thenExit ?_ | refine WQ.thenRet ?_ | refine WQ.blk ?_ | refine WQ.blkRet ?_ | refine WQ.blkHere rfl ?_ | refine WQ.blkOther rfl ?_ | refine WL.pure rfl rfl rfl rfl ?_ | refine WL.on rfl rfl ?_ | refine WL.off rfl rfl rfl ?_ | refine WC.condTrue rfl ?_ | refine WC.condFalse rfl ?_)
  refine WL.storeRow rfl rfl rfl rfl rfl rfl hblk4 hcs rfl hv4.one ?_
  repeat (first | ((with_reducible refine WL.topT ?_ ?_); omega) | ((with_reducible refine WL.topF ?_ ?_); omega) | ((with_reducible refine WL.top64 ?_ ?_); omega) | refine WC.seq ?_ | refine WC.block ?_ | refine WC.region ?_ | refine WL.nil ?_ | refine WC.skip ?_ | refine WC.exit ?_ | refine WC.ret ?_ | refine WQ.then rfl ?_ | refine WQ.thenExit ?_ | refine WQ.thenRet ?_ | refine WQ.blk ?_ | refine WQ.blkRet ?_ | refine WQ.blkHere rfl ?_ | refine WQ.blkOther rfl ?_ | refine WL.pure rfl rfl rfl rfl ?_ | refine WL.on rfl rfl ?_ | refine WL.off rfl rfl rfl ?_ | refine WC.condTrue rfl ?_ | refine WC.condFalse rfl ?_)
  have hset : Keep (fun b => b ≠ vb) w4 (w4.setRow vb cs.toArray) := Keep.setRow (Keep.refl _ w4) (fun hk => hk rfl) _
  refine WQ.retCT rfl rfl rfl rfl hcs (hblk4.setRow cs) ⟨Keep.below (Keep.setRow (Keep.of_below hw4) (fun hk => by omega) _), x, cs, e, rfl, hv4.keep hset (fun b hb _ => hb.2) (fun b hb => hb.1), ?_⟩
  cases hq : readV true l with
  | ok y q => rw [hq] at hout; exact ⟨hout.1, hout.2.2⟩
  | bad z => rw [hq] at hout; exact ⟨hout.1, hout.2.2⟩
end K
end Go.Proofs.Ytdkkaliiofcflaa
