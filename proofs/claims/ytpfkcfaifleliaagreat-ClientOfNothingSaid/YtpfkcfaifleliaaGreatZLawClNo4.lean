/- Texts for LawClNo, part 4 of 5. -/
import Derived.Test.YtpfkcfaifleliaaGreatZLawClNo3
import Derived.Laws.OwnMore
import Derived.SizedLaws
import Derived.DataOpen
import Derived.ChangeMaps5
namespace Go.Proofs.YtpfkcfaifleliaaGreat
open Go.RowKit
namespace K
def ValPost7 (m B rb : Nat) (w : World) (l : List Int) (e : Int) (r : Ending) (w' : World) : Prop :=
  ∃ v cs l' e', r = .returned (.agg cs.toArray) ∧ IsVo (fun b => w.heap.size ≤ b) (m + 1) w' v cs ∧ RS7 B w' rb l' e' ∧ KeepR rb w w' ∧ Out (rdV m) l e v l' e'
abbrev zeroC : List Value := [.int .i64 0, .int .i64 0, .int .i64 0, .string ByteArray.empty, .slice none 0 0, .slice none 0 0]
theorem zero_isVo (O : Nat → Prop) (f : Nat) (w : World) : IsVo O (f + 1) w (.mk 0 0 0 noT [] []) zeroC := isVo_leaf (k := 0) (n := 0) (s := 0) (t := noT) (by omega) (by omega) (by omega) (by decide)
set_option maxHeartbeats 16000000 in
theorem value7_step (m : Nat) (ih : ∀ {B rb : Nat} {w : World} {l : List Int} {e : Int} (d : Int), d = 17 - (m : Int) → RS7 B w rb l e → B ≤ w.heap.size → Calls Tryz.prog 95 #[.pointer (some ⟨rb, 0, none⟩), .int .i64 d] w (ValPost7 m B rb w l e))
    {B rb : Nat} {w0 : World} {l : List Int} {e : Int} (d : Int) (hd : d = 17 - ((m + 1 : Nat) : Int)) (hm : m + 1 ≤ 16) (h : RS7 B w0 rb l e) (hB0 : B ≤ w0.heap.size) :
    Calls Tryz.prog 95 #[.pointer (some ⟨rb, 0, none⟩), .int .i64 d] w0 (ValPost7 (m + 1) B rb w0 l e) := by
  refine enter (args := [.pointer (some ⟨rb, 0, none⟩), .int .i64 d]) Tryz.func95 rfl Tryz.ntmps95 rfl ?_; refine K.kgo ?_; refine WL.alloc (z := .agg zeroC.toArray) rfl rfl rfl rfl (fun _ => by kernel_rfl) fun gb w1 hf => ?_; have hf' : Fresh w0 gb w1 82 zeroC := hf; clear hf; have hgbe := hf'.eq; have hrB := h.rlt; have h1 : RS7 B w1 rb l e := h.keep (Keep.of_below hf'.below) fun b hb => Nat.lt_of_lt_of_le hb hB0; have hk1 : KeepR rb w0 w1 := KeepR.below hf'.below; have hg1 := hf'.blk; have hsz1 := hf'.size; clear hf'; obtain ⟨sp1, cap1, hc1, -⟩ := h1.ex
  -- the end with nothing
  have hzero : ∀ {wx : World} {l' : List Int} {e' : Int}, RS7 B wx rb l' e' → KeepR rb w0 wx → VBlk 82 wx gb zeroC → Out (rdV (m + 1)) l e (.mk 0 0 0 noT [] []) l' e' → ValPost7 (m + 1) B rb w0 l e (.returned (.agg zeroC.toArray)) (wx.setRow gb zeroC.toArray) := fun {wx l' e'} hr hk _ ho =>
    ⟨.mk 0 0 0 noT [] [], zeroC, l', e', rfl, zero_isVo _ _ _, hr.keep (K := fun b => b ≠ gb) (Keep.setRow (Keep.refl _ wx) (fun hk => hk rfl) _) (fun b hb => by omega), Keep.setRow hk (fun hk => by have := hk.1; omega) _, ho⟩
  refine K.kgo ?_; refine WL.load rfl rfl rfl rfl rfl rfl (hc1.cell 1 (by simp)) ?_
  by_cases he0 : e = 0
  rotate_left
  · refine K.kgo ?_
    refine WL.build zeroC rfl rfl rfl rfl rfl (by kernel_rfl) ?_; refine WL.storeRow rfl rfl rfl rfl rfl rfl hg1 rfl rfl (zero_isVo (fun _ => True) 0 w1).one ?_; refine K.kgo ?_; exact WQ.retC rfl rfl rfl rfl (hg1.setRow zeroC) (hzero h1 hk1 hg1 (.ofBad he0))
  refine K.kgo ?_; refine WL.call rfl rfl rfl rfl rfl Tryz.func124 rfl (by kernel_rfl) (one7_any h1) ?_; rintro _ w ⟨c, l2, e2, rfl, hc0, hc1b, h2, hk2, ho2, -⟩; refine ⟨_, rfl, ?_⟩; have hg2 := hg1.keep hk2 ⟨hg1.lt, by omega⟩; have hkA : KeepR rb w0 w := hk1.trans hk2; have hszA := hkA.size; have hB : B ≤ w.heap.size := by omega
  have hgb2 := hg2.lt; clear hk1 hk2 h1 hg1 hc1; refine K.kgo ?_; refine WL.build [.int .i64 c, .int .i64 0, .int .i64 0, .string ByteArray.empty, .slice none 0 0, .slice none 0 0] rfl rfl rfl rfl rfl (by kernel_rfl) ?_; refine WL.alloc (z := .agg zeroC.toArray) rfl rfl rfl rfl (fun _ => by kernel_rfl) fun vb w2 hf => ?_; have hf' : Fresh w vb w2 82 zeroC := hf; clear hf; have hvbe := hf'.eq; have hsz2 := hf'.size; have hcv : IsVo (fun _ => True) 1 w2 (.mk c 0 0 noT [] []) [.int .i64 c, .int .i64 0, .int .i64 0, .string ByteArray.empty, .slice none 0 0, .slice none 0 0] := isVo_leaf (k := c) (n := 0) (s := 0) (t := noT) (by omega) (by omega) (by omega) (by decide); refine WL.storeRow rfl rfl rfl rfl rfl rfl hf'.blk rfl rfl hcv.one ?_; have hblk3 := hf'.blk.setRow [.int .i64 c, .int .i64 0, .int .i64 0, .string ByteArray.empty, .slice none 0 0, .slice none 0 0]; have hb3 : Below w.heap.size w (w2.setRow vb (List.toArray [.int .i64 c, .int .i64 0, .int .i64 0, .string ByteArray.empty, .slice none 0 0, .slice none 0 0])) := below_setRow hf'.below (by omega) _; generalize w2.setRow vb (List.toArray [.int .i64 c, .int .i64 0, .int .i64 0, .string ByteArray.empty, .slice none 0 0, .slice none 0 0]) = w3 at hblk3 hb3 ⊢; clear hf' hcv hsz2; have h3 := h2.keep (Keep.of_below hb3) fun b hb => Nat.lt_of_lt_of_le hb hB; have hk3 : KeepR rb w w3 := KeepR.below hb3; have hg3 := hg2.below hb3 hgb2; obtain ⟨sp3, cap3, hr3, -⟩ := h3.ex; refine K.kgo ?_; refine WL.load rfl rfl rfl rfl rfl rfl (hr3.cell 1 (by simp)) ?_
  by_cases he2 : e2 = 0
  rotate_left
  · refine K.kgo ?_
    refine WL.build zeroC rfl rfl rfl rfl rfl (by kernel_rfl) ?_; refine WL.storeRow rfl rfl rfl rfl rfl rfl hg3 rfl rfl (zero_isVo (fun _ => True) 0 w3).one ?_; refine K.kgo ?_; exact WQ.retC rfl rfl rfl rfl (hg3.setRow zeroC) (hzero h3 (hkA.trans hk3) hg3 (by rw [rdV_GV]; exact ho2.stop he2 (Nat.le_refl _)))
  -- the store into the box
  have stB : ∀ {wx : World} {i : Nat} (u : Value) {lx : List Int} {ex : Int}, RS7 B wx rb lx ex → KeepR rb w wx → RS7 B (wx.setCell ⟨vb, i, none⟩ u) rb lx ex ∧ KeepR rb w (wx.setCell ⟨vb, i, none⟩ u) := fun {wx i} u {lx ex} hr hk =>
    ⟨hr.keep (K := fun b => b ≠ vb) ((Keep.refl _ wx).setCell (fun hk => hk rfl) _) (fun b hb => by omega), Keep.setCell hk (fun hk => by have := hk.1; simp only at this; omega) _⟩
  clear hg3 h2 hb3; refine K.kgb ?_; refine WL.load rfl rfl rfl rfl rfl rfl (hblk3.cell 0 (by simp)) ?_; refine K.kgb ?_; refine WC.mid (fun _ : V × List Value × List Int × Int => [(4, .pointer (some ⟨gb, 0, none⟩)), (5, .pointer (some ⟨vb, 0, none⟩))])
    (fun i w' => VBlk 82 w' vb i.2.1 ∧ IsVo (fun b => w.heap.size ≤ b ∧ b ≠ vb) (m + 1 + 1) w' i.1 i.2.1 ∧ RS7 B w' rb i.2.2.1 i.2.2.2 ∧ KeepR rb w w' ∧ Out (rdV (m + 1)) l e i.1 i.2.2.1 i.2.2.2) rfl ?_ ?_
  rotate_left
  · rintro ⟨v, cs, l4, e4⟩ w4 ⟨hb4, hv4, hr4, hk4, ho4⟩
    simp only at hb4 hv4 hr4 hk4 ho4 ⊢; have hcs := hv4.len; have hg4 := hg2.keep hk4 ⟨hgb2, by omega⟩; refine K.kgo ?_; refine WL.loadMid rfl rfl rfl rfl rfl rfl (VBlk.rangeAt hb4) hcs ?_; refine WL.storeRow rfl rfl rfl rfl rfl rfl hg4 hcs rfl hv4.one ?_; refine K.kgo ?_; have hset : Keep (fun b => b ≠ gb) w4 (w4.setRow gb cs.toArray) := Keep.setRow (Keep.refl _ w4) (fun hk => hk rfl) _; exact WQ.retC rfl rfl rfl hcs (hg4.setRow cs) ⟨v, cs, l4, e4, rfl, hv4.keep hset (fun b hb _ => by have := hb.1; omega) (fun b hb => by have := hb.1; omega), hr4.keep hset (fun b hb => by omega), Keep.setRow (hkA.trans hk4) (fun hk => by have := hk.1; omega) _, ho4⟩
  by_cases k1 : c = 1
  · subst k1
    refine K.kgo ?_; exact WQ.meet (.mk 1 0 0 noT [] [], _, l2, e2) ⟨rfl, rfl, trivial⟩ ⟨hblk3, isVo_leaf (by omega) (by omega) (by omega) (by decide), h3, hk3, ho2.gv (Out.congr (Out.pure _) (by unfold GV; rw [if_pos rfl]))⟩
  by_cases k2 : c = 2
  · subst k2
    refine K.kgo ?_; refine WL.call rfl rfl rfl rfl rfl Tryz.func124 rfl (by kernel_rfl) (one7_any h3) ?_; rintro _ w4 ⟨c2, l4, e4, rfl, hc20, hc21, h4, hk4, ho4, hz4⟩; refine ⟨_, rfl, ?_⟩; have hblk4 := hblk3.keep hk4 ⟨hblk3.lt, by omega⟩
    by_cases hb2 : 1 < c2
    · have he4 : e4 = 0 := by omega
      obtain ⟨sp4, cap4, hr4, -⟩ := h4.ex; refine K.kgo ?_; refine WL.store rfl rfl rfl rfl rfl rfl (by kernel_rfl) (hr4.cell 1 (by simp)) (hr4.free 1) ?_; have h5 := h4.setE 3; have hk5 : KeepR rb w (w4.setCell ⟨rb, 1, none⟩ (.int .i64 3)) := (hk3.trans hk4).trans (KeepR.set _ _ _ _); have hblk5 : VBlk 82 (w4.setCell ⟨rb, 1, none⟩ (.int .i64 3)) vb _ := hblk4.other _ _ (by show vb ≠ rb; omega); generalize w4.setCell ⟨rb, 1, none⟩ (.int .i64 3) = w5 at h5 hk5 hblk5 ⊢; refine K.kgo ?_; refine WL.store (v := .int .i64 c2) rfl rfl rfl rfl rfl rfl (by kernel_rfl) (hblk5.cell 1 (by simp)) (hblk5.free 1) ?_; obtain ⟨h6, hk6⟩ := stB (i := 1) (.int .i64 c2) h5 hk5; have hblk6 := hblk5.set 1 (.int .i64 c2); refine K.kgo ?_; refine WQ.meet (.mk 2 c2 0 noT [] [], _, l4, 3) ⟨rfl, rfl, trivial⟩ ⟨hblk6, isVo_leaf (by omega) (by omega) (by omega) (by decide), h6, hk6, ho2.gv (Out.congr (ho4.bind (Out.congr (f := fun _ => .bad 3) ?_ ?_)) (by unfold GV; rw [if_neg k1, if_pos rfl]))⟩
      · have := Out.fail (l := l4) (e := e4) (a := V.mk 2 c2 0 noT [] []) 3 (by omega)
        rwa [if_pos he4] at this
      · rw [if_pos hb2]
    · refine K.kgo ?_
      refine WL.store (v := .int .i64 c2) rfl rfl rfl rfl rfl rfl (by kernel_rfl) (hblk4.cell 1 (by simp)) (hblk4.free 1) ?_; obtain ⟨h5, hk5⟩ := stB (i := 1) (.int .i64 c2) h4 (hk3.trans hk4); have hblk5 := hblk4.set 1 (.int .i64 c2); refine K.kgo ?_; refine WQ.meet (.mk 2 c2 0 noT [] [], _, l4, _) ⟨rfl, rfl, trivial⟩ ⟨hblk5, isVo_leaf (by omega) (by omega) (by omega) (by decide), h5, hk5, ho2.gv (Out.congr (ho4.bind (Out.congr (Out.pure _) ?_)) (by unfold GV; rw [if_neg k1, if_pos rfl]))⟩; rw [if_neg hb2]
  by_cases k3 : c = 3
  · subst k3
    refine K.kgo ?_; refine WL.call rfl rfl rfl rfl rfl Tryz.func125 rfl (by kernel_rfl) (number7_any h3) ?_; rintro _ w4 ⟨u, l4, e4, rfl, hu, h4, hk4, ho4⟩; refine ⟨_, rfl, ?_⟩; refine WL.call rfl rfl rfl rfl rfl Tryz.func64 rfl (by kernel_rfl) (rzag_any u hu w4) ?_; rintro _ w4 ⟨rfl, rfl⟩; refine ⟨_, rfl, ?_⟩; have hz := zag_range hu; have hblk4 := hblk3.keep hk4 ⟨hblk3.lt, by omega⟩; refine K.kgo ?_; refine WL.store (v := .int .i64 (zag u)) rfl rfl rfl rfl rfl rfl (by kernel_rfl) (hblk4.cell 1 (by simp)) (hblk4.free 1) ?_; obtain ⟨h5, hk5⟩ := stB (i := 1) (.int .i64 (zag u)) h4 (hk3.trans hk4); have hblk5 := hblk4.set 1 (.int .i64 (zag u)); generalize w4.setCell ⟨vb, 1, none⟩ (.int .i64 (zag u)) = w5 at h5 hk5 hblk5; simp only [List.set_cons_zero, List.set_cons_succ] at hblk5; refine K.kgo ?_; refine WL.load rfl rfl rfl rfl rfl rfl (hblk5.cell 0 (by simp)) ?_; refine K.kgo ?_; exact WQ.meet (.mk 3 (zag u) 0 noT [] [], _, l4, _) ⟨rfl, rfl, trivial⟩ ⟨hblk5, isVo_leaf (by omega) hz (by omega) (by decide), h5, hk5, ho2.gv (Out.congr (ho4.bind (Out.pure (V.mk 3 (zag u) 0 noT [] []))) (by unfold GV; rw [if_neg k1, if_neg k2, if_pos rfl]))⟩
  by_cases k4 : c = 4
  · subst k4
    refine K.kgo ?_; refine WL.call rfl rfl rfl rfl rfl Tryz.func125 rfl (by kernel_rfl) (number7_any h3) ?_; rintro _ w4 ⟨u, l4, e4, rfl, hu, h4, hk4, ho4⟩; refine ⟨_, rfl, ?_⟩; refine WL.call rfl rfl rfl rfl rfl Tryz.func64 rfl (by kernel_rfl) (rzag_any u hu w4) ?_; rintro _ w4 ⟨rfl, rfl⟩; refine ⟨_, rfl, ?_⟩; have hz := zag_range hu; have hblk4 := hblk3.keep hk4 ⟨hblk3.lt, by omega⟩; refine K.kgo ?_; refine WL.store (v := .int .i64 (zag u)) rfl rfl rfl rfl rfl rfl (by kernel_rfl) (hblk4.cell 1 (by simp)) (hblk4.free 1) ?_; obtain ⟨h5, hk5⟩ := stB (i := 1) (.int .i64 (zag u)) h4 (hk3.trans hk4); have hblk5 := hblk4.set 1 (.int .i64 (zag u)); generalize w4.setCell ⟨vb, 1, none⟩ (.int .i64 (zag u)) = w5 at h5 hk5 hblk5; simp only [List.set_cons_zero, List.set_cons_succ] at hblk5; refine K.kgo ?_; refine WL.load rfl rfl rfl rfl rfl rfl (hblk5.cell 0 (by simp)) ?_; refine K.kgo ?_; refine WL.call rfl rfl rfl rfl rfl Tryz.func124 rfl (by kernel_rfl) (one7_any h5) ?_; rintro _ w6 ⟨c2, l6, e6, rfl, hc20, hc21, h6, hk6, ho6, -⟩; refine ⟨_, rfl, ?_⟩; have hblk6 := hblk5.keep hk6 ⟨hblk5.lt, by omega⟩; refine K.kgo ?_; refine WL.store (v := .int .i64 c2) rfl rfl rfl rfl rfl rfl (by kernel_rfl) (hblk6.cell 2 (by simp)) (hblk6.free 2) ?_; obtain ⟨h7, hk7⟩ := stB (i := 2) (.int .i64 c2) h6 (hk5.trans hk6); have hblk7 := hblk6.set 2 (.int .i64 c2); refine K.kgo ?_; exact WQ.meet (.mk 4 (zag u) c2 noT [] [], _, l6, _) ⟨rfl, rfl, trivial⟩ ⟨hblk7, isVo_leaf (by omega) hz (by omega) (by decide), h7, hk7, ho2.gv (Out.congr (ho4.bind (ho6.bind (Out.pure (V.mk 4 (zag u) c2 noT [] [])))) (by unfold GV; rw [if_neg k1, if_neg k2, if_neg k3, if_pos rfl]))⟩
  by_cases k5 : c = 5
  · subst k5
    refine K.kgo ?_; refine WL.call rfl rfl rfl rfl rfl Tryz.func125 rfl (by kernel_rfl) (number7_any h3) ?_; rintro _ w4 ⟨u, l4, e4, rfl, hu, h4, hk4, ho4⟩; refine ⟨_, rfl, ?_⟩; have hz : -9223372036854775808 ≤ IntKind.i64.wrap (u : Int) ∧ IntKind.i64.wrap (u : Int) ≤ 9223372036854775807 := by rw [IntKind.wrap_i64]; omega
    have hblk4 := hblk3.keep hk4 ⟨hblk3.lt, by omega⟩; refine WL.pure rfl rfl rfl rfl ?_; refine WL.pure rfl rfl rfl rfl ?_; refine WL.store (v := .int .i64 (IntKind.i64.wrap (u : Int))) rfl rfl rfl rfl rfl rfl (by kernel_rfl) (hblk4.cell 1 (by simp)) (hblk4.free 1) ?_; obtain ⟨h5, hk5⟩ := stB (i := 1) (.int .i64 (IntKind.i64.wrap (u : Int))) h4 (hk3.trans hk4); have hblk5 := hblk4.set 1 (.int .i64 (IntKind.i64.wrap (u : Int))); refine K.kgo ?_; exact WQ.meet (.mk 5 (IntKind.i64.wrap (u : Int)) 0 noT [] [], _, l4, _) ⟨rfl, rfl, trivial⟩ ⟨hblk5, isVo_leaf (by omega) hz (by omega) (by decide), h5, hk5, ho2.gv (Out.congr (ho4.bind (Out.pure (V.mk 5 (IntKind.i64.wrap (u : Int)) 0 noT [] []))) (by unfold GV; rw [if_neg k1, if_neg k2, if_neg k3, if_neg k4, if_pos rfl]))⟩
  by_cases k67 : c = 6 ∨ c = 7
  · have hg : GV m c = fun r => (rdT r).bind fun t r => .ok (.mk c 0 0 t [] []) r := by funext r; unfold GV; rw [if_neg k1, if_neg k2, if_neg k3, if_neg k4, if_neg k5, if_pos k67]
    rcases k67 with k6 | k7
    all_goals
      refine K.kgo ?_; refine WL.call rfl rfl rfl rfl rfl Tryz.func126 rfl (by kernel_rfl) (text7_any h3) ?_; rintro _ w4 ⟨t, l4, e4, rfl, ht, h4, hk4, ho4⟩; refine ⟨_, rfl, ?_⟩; have hblk4 := hblk3.keep hk4 ⟨hblk3.lt, by omega⟩; refine K.kgo ?_; refine WL.store (v := .string t) rfl rfl rfl rfl rfl rfl (by kernel_rfl) (hblk4.cell 3 (by simp)) (hblk4.free 3) ?_; obtain ⟨h5, hk5⟩ := stB (i := 3) (.string t) h4 (hk3.trans hk4); have hblk5 := hblk4.set 3 (.string t); refine K.kgo ?_; exact WQ.meet (.mk c 0 0 t [] [], _, l4, _) ⟨rfl, rfl, trivial⟩ ⟨hblk5, isVo_leaf (by omega) (by omega) (by omega) (by omega), h5, hk5, ho2.gv (by rw [hg]; exact ho4.bind (Out.pure (V.mk c 0 0 t [] [])))⟩
  by_cases k89 : c = 8 ∨ c = 9
  · have hg : GV m c = fun r => (rdC r).bind fun n r => (rdK (rdV m) (decide (c = 9)) n [] [] r).bind fun p r => .ok (.mk c 0 0 noT p.1 p.2) r := by
      funext r; unfold GV; rw [if_neg k1, if_neg k2, if_neg k3, if_neg k4, if_neg k5, if_neg k67, if_pos k89]
    rcases k89 with k8 | k9
    · refine K.kgo ?_
      refine WL.call rfl rfl rfl rfl rfl Tryz.func127 rfl (by kernel_rfl) (count7_any h3) ?_; rintro _ w4 ⟨n, l4, e4, rfl, hn, h4, hk4, ho4⟩; refine ⟨_, rfl, ?_⟩; have hblk4 := hblk3.keep hk4 ⟨hblk3.lt, by omega⟩; rw [show decide (c = 9) = false by simp [k8]] at hg; refine K.kgo ?_; refine WC.loop (fun i : Nat × List ByteArray × List V × List Int × Int => [(0, .pointer (some ⟨rb, 0, none⟩)), (1, .int .i64 d), (4, .pointer (some ⟨gb, 0, none⟩)), (5, .pointer (some ⟨vb, 0, none⟩)), (7, .int .i64 n), (8, .int .i64 i.1)])
        (fun i wr => i.1 ≤ n ∧ i.2.1.length ≤ i.1 ∧ i.2.2.1.length ≤ i.1 ∧ (∃ sn sk q, KidsW rb vb (m + 1) c w wr i.2.1 i.2.2.1 sn sk q) ∧ RS7 B wr rb i.2.2.2.1 i.2.2.2.2 ∧
          ∀ p l' e', Out (rdK (rdV m) false (n - i.1) i.2.1 i.2.2.1) i.2.2.2.1 i.2.2.2.2 p l' e' → Out (rdK (rdV m) false n [] []) l4 e4 p l' e') (fun i => n - i.1) (0, [], [], l4, e4)
        ⟨rfl, rfl, rfl, rfl, rfl, rfl, trivial⟩ ⟨Nat.zero_le _, Nat.le_refl _, Nat.le_refl _, ⟨_, _, fun _ => False, hblk4, OwnE.nil _ _ _ _ _ _, OwnE.nil _ _ _ _ _ _, (fun g hg => by cases hg), (fun b hb => hb.elim), hk3.trans hk4, hvbe, by omega⟩, h4, fun _ _ _ h => h⟩ ?_
      rintro ⟨i, ns, ks, li, ei⟩ wr ⟨hi, hnl, hkl, ⟨sn, sk, q, hK⟩, hr, hcont⟩; simp only at hi hnl hkl hK hr hcont ⊢; have hend : ∀ {wx : World} {sn sk : Value} {ns : List ByteArray} {ks : List V} {q : Nat → Prop} {li : List Int} {ei : Int}, KidsW rb vb (m + 1) c w wx ns ks sn sk q → RS7 B wx rb li ei → Out (rdK (rdV m) false n [] []) l4 e4 (ns, ks) li ei →
          VBlk 82 wx vb [.int .i64 c, .int .i64 0, .int .i64 0, .string ByteArray.empty, sn, sk] ∧ IsVo (fun b => w.heap.size ≤ b ∧ b ≠ vb) (m + 1 + 1) wx (.mk c 0 0 noT ns ks) [.int .i64 c, .int .i64 0, .int .i64 0, .string ByteArray.empty, sn, sk] ∧ RS7 B wx rb li ei ∧ KeepR rb w wx ∧ Out (rdV (m + 1)) l e (.mk c 0 0 noT ns ks) li ei :=
        fun {wx sn sk ns ks q li ei} h1 h2 h3 => ⟨h1.blk, ⟨sn, sk, rfl, wf_i64 (by show -9223372036854775808 ≤ c ∧ c ≤ _; omega), wf_i64 (by show -9223372036854775808 ≤ (0 : Int) ∧ (0 : Int) ≤ _; omega), wf_i64 (by show -9223372036854775808 ≤ (0 : Int) ∧ (0 : Int) ≤ _; omega), by show ByteArray.empty.size ≤ _; decide, h1.names.els, h1.kids.els.mono (fun _ h => h) fun x cs hx => hx.mono fun b hb => ⟨(h1.qs b hb).1, (h1.qs b hb).2.2.1⟩⟩, h2, h1.keep,
          ho2.gv (by rw [hg]; exact ho4.bind (h3.bind (Out.pure (V.mk c 0 0 noT ns ks))))⟩
      by_cases hin : i < n
      · obtain ⟨rsp, rcap, hrb, -⟩ := hr.ex
        refine K.kgo ?_; refine WL.load rfl rfl rfl rfl rfl rfl (hrb.cell 1 (by simp)) ?_
        by_cases hei : ei = 0
        · subst hei
          have hni : n - i = (n - (i + 1)) + 1 := by omega
          rw [hni] at hcont; have hwr := hK.keep.size; refine K.kgo ?_; refine WL.load rfl rfl rfl rfl rfl rfl (hK.blk.cell 0 (by simp)) ?_; refine K.kgo ?_; refine WC.drawn 9 (fun wx => VBlk 82 wx vb [.int .i64 c, .int .i64 0, .int .i64 0, .string ByteArray.empty, sn, sk]) fun w5 hd5 => ?_; have hK5 := hK.below (hd5.below _); have hr5 := hr.keep (Keep.of_below (hd5.below wr.heap.size)) fun b hb => by omega
          have hsz5 : wr.heap.size ≤ w5.heap.size := (hd5.below 0).size; have hS := hK5.blk; refine K.fr [0] hS ?_; refine K.wl 1 [7, 8, 9] rfl rfl rfl rfl rfl rfl rfl (fun wx hx => hx.cell 5 (by simp)) hS ?_; refine K.fr [2, 3, 4] hS ?_; refine K.wo 5 ?_; refine WL.call rfl rfl rfl rfl rfl Tryz.func95 rfl (by kernel_rfl) (ih (d + 1) (by omega) hr5 (by omega)) ?_; rintro _ w6 ⟨v, cs, l6, e6, rfl, hv6, hr6, hk6, ho6⟩; refine ⟨_, rfl, ?_⟩; have hvb5 := hK5.blk.lt; have hsn5 : ∀ g, (sn).ownBlock = some g → g < w5.heap.size := fun g hg => hK5.names.lt hg; have hsk5 : ∀ g, sk.ownBlock = some g → g < w5.heap.size := fun g hg => hK5.kids.lt hg; have hK6 := hK5.read hk6; refine WL.nil (WQ.dk (.inr hK6.blk) ?_); refine K.wo 6 ?_; refine WL.lit1 rfl rfl rfl rfl rfl rfl rfl hv6.len ⟨by omega, by omega⟩ (by kernel_rfl) fun g7 w7 hf7 => ?_; have hK7 := (hK6.below hf7.below).widen (S := w5.heap.size) (by have := hK5.keep.size; omega) hvb5 hsn5 hsk5; have hr7 := hr6.keep (Keep.of_below hf7.below) fun b hb => by have := hk6.size; omega
          have hv7 := hv6.there.keep (O' := fun b => q b ∨ (w5.heap.size ≤ b ∧ b < w7.heap.size)) (Keep.of_below hf7.below) (fun b _ h => h) fun b hb => .inr ⟨hb.1, by have := hf7.size; omega⟩; refine WL.nil (WQ.dk (.inr hK7.blk) ?_); refine K.wo 7 ?_; refine WL.snoc rfl rfl rfl rfl elemV6 rfl hK7.kids rfl hf7.blk hv6.one hv6.len hv7 (by omega) (by omega) fun sk8 w8 ho8 hg8 => ?_; obtain ⟨hb8, hK9⟩ := hK7.setK ho8 hg8; refine K.di hb8 ?_; have hsk8 : sk8.oneCell' = true := ho8.one; refine K.wo 8 ?_; refine WL.pure rfl rfl rfl rfl ?_; refine K.di hb8 ?_; refine K.wo 9 ?_; refine WL.store rfl rfl rfl rfl rfl hsk8 (by kernel_rfl) (hb8.cell 5 (by simp)) (hb8.free 5) ?_; have hr9 : RS7 B (w8.setCell ⟨vb, 5, none⟩ sk8) rb l6 e6 := (hr7.keep hg8.1 fun b hb => ⟨by have := hr7.ex; have := hf7.size; have := hk6.size; omega, fun e => by have := (hK7.kids.own e).1; omega⟩).keep (K := fun b => b ≠ vb) ((Keep.refl _ w8).setCell (fun hk => hk rfl) _) fun b hb => by omega
          generalize w8.setCell ⟨vb, 5, none⟩ sk8 = w9 at hK9 hr9; refine K.dl ?_; refine WD.done (by kernel_rfl) ?_; refine K.kgo ?_; refine WQ.again (i + 1, ns, ks ++ [v], l6, e6) ⟨rfl, rfl, rfl, rfl, rfl, rfl, trivial⟩ ⟨hin, by show ns.length ≤ i + 1; omega, by simp only [List.length_append, List.length_cons, List.length_nil]; omega, ⟨sn, sk8, _, hK9⟩, hr9, fun p l' e' ho => ?_⟩ (by show n - (i + 1) < n - i; omega); refine hcont p l' e' (Out.congr (ho6.bind (g := fun v r' => rdK (rdV m) false (n - (i + 1)) ns (ks ++ [v]) r') ho) ?_); rw [rdK, if_neg (by simp)]
        · refine K.kgo ?_
          exact WQ.meet (.mk c 0 0 noT ns ks, _, li, ei) ⟨rfl, rfl, trivial⟩ (hend hK hr (hcont _ _ _ (.ofBad hei)))
      · obtain rfl : i = n := by omega
        refine K.kgo ?_; exact WQ.meet (.mk c 0 0 noT ns ks, _, li, ei) ⟨rfl, rfl, trivial⟩ (hend hK hr (hcont _ _ _ (Out.congr (Out.pure _) (by rw [Nat.sub_self]; rfl))))
    · refine K.kgo ?_
      refine WL.call rfl rfl rfl rfl rfl Tryz.func127 rfl (by kernel_rfl) (count7_any h3) ?_; rintro _ w4 ⟨n, l4, e4, rfl, hn, h4, hk4, ho4⟩; refine ⟨_, rfl, ?_⟩; have hblk4 := hblk3.keep hk4 ⟨hblk3.lt, by omega⟩; rw [show decide (c = 9) = true by simp [k9]] at hg; refine K.kgo ?_; refine WC.loop (fun i : Nat × List ByteArray × List V × List Int × Int => [(0, .pointer (some ⟨rb, 0, none⟩)), (1, .int .i64 d), (4, .pointer (some ⟨gb, 0, none⟩)), (5, .pointer (some ⟨vb, 0, none⟩)), (7, .int .i64 n), (8, .int .i64 i.1)])
        (fun i wr => i.1 ≤ n ∧ i.2.1.length ≤ i.1 ∧ i.2.2.1.length ≤ i.1 ∧ (∃ sn sk q, KidsW rb vb (m + 1) c w wr i.2.1 i.2.2.1 sn sk q) ∧ RS7 B wr rb i.2.2.2.1 i.2.2.2.2 ∧
          ∀ p l' e', Out (rdK (rdV m) true (n - i.1) i.2.1 i.2.2.1) i.2.2.2.1 i.2.2.2.2 p l' e' → Out (rdK (rdV m) true n [] []) l4 e4 p l' e') (fun i => n - i.1) (0, [], [], l4, e4)
        ⟨rfl, rfl, rfl, rfl, rfl, rfl, trivial⟩ ⟨Nat.zero_le _, Nat.le_refl _, Nat.le_refl _, ⟨_, _, fun _ => False, hblk4, OwnE.nil _ _ _ _ _ _, OwnE.nil _ _ _ _ _ _, (fun g hg => by cases hg), (fun b hb => hb.elim), hk3.trans hk4, hvbe, by omega⟩, h4, fun _ _ _ h => h⟩ ?_
      rintro ⟨i, ns, ks, li, ei⟩ wr ⟨hi, hnl, hkl, ⟨sn, sk, q, hK⟩, hr, hcont⟩; simp only at hi hnl hkl hK hr hcont ⊢; have hend : ∀ {wx : World} {sn sk : Value} {ns : List ByteArray} {ks : List V} {q : Nat → Prop} {li : List Int} {ei : Int}, KidsW rb vb (m + 1) c w wx ns ks sn sk q → RS7 B wx rb li ei → Out (rdK (rdV m) true n [] []) l4 e4 (ns, ks) li ei →
          VBlk 82 wx vb [.int .i64 c, .int .i64 0, .int .i64 0, .string ByteArray.empty, sn, sk] ∧ IsVo (fun b => w.heap.size ≤ b ∧ b ≠ vb) (m + 1 + 1) wx (.mk c 0 0 noT ns ks) [.int .i64 c, .int .i64 0, .int .i64 0, .string ByteArray.empty, sn, sk] ∧ RS7 B wx rb li ei ∧ KeepR rb w wx ∧ Out (rdV (m + 1)) l e (.mk c 0 0 noT ns ks) li ei :=
        fun {wx sn sk ns ks q li ei} h1 h2 h3 => ⟨h1.blk, ⟨sn, sk, rfl, wf_i64 (by show -9223372036854775808 ≤ c ∧ c ≤ _; omega), wf_i64 (by show -9223372036854775808 ≤ (0 : Int) ∧ (0 : Int) ≤ _; omega), wf_i64 (by show -9223372036854775808 ≤ (0 : Int) ∧ (0 : Int) ≤ _; omega), by show ByteArray.empty.size ≤ _; decide, h1.names.els, h1.kids.els.mono (fun _ h => h) fun x cs hx => hx.mono fun b hb => ⟨(h1.qs b hb).1, (h1.qs b hb).2.2.1⟩⟩, h2, h1.keep,
          ho2.gv (by rw [hg]; exact ho4.bind (h3.bind (Out.pure (V.mk c 0 0 noT ns ks))))⟩
      by_cases hin : i < n
      · obtain ⟨rsp, rcap, hrb, -⟩ := hr.ex
        refine K.kgo ?_; refine WL.load rfl rfl rfl rfl rfl rfl (hrb.cell 1 (by simp)) ?_
        by_cases hei : ei = 0
        · subst hei
          have hni : n - i = (n - (i + 1)) + 1 := by omega
          rw [hni] at hcont; have hwr := hK.keep.size; refine K.kgo ?_; refine WL.load rfl rfl rfl rfl rfl rfl (hK.blk.cell 0 (by simp)) ?_; refine K.kgo ?_; refine WC.drawn 7 (fun wx => VBlk 82 wx vb [.int .i64 c, .int .i64 0, .int .i64 0, .string ByteArray.empty, sn, sk]) fun w5 hd5 => ?_; have hK5 := hK.below (hd5.below _); have hr5 := hr.keep (Keep.of_below (hd5.below wr.heap.size)) fun b hb => by omega
          have hsz5 : wr.heap.size ≤ w5.heap.size := (hd5.below 0).size; have hS := hK5.blk; refine K.fr [0] hS ?_; refine K.wl 1 [5, 6, 7] rfl rfl rfl rfl rfl rfl rfl (fun wx hx => hx.cell 4 (by simp)) hS ?_; refine K.fr [2] hS ?_; refine K.wo 3 ?_; refine WL.call rfl rfl rfl rfl rfl Tryz.func126 rfl (by kernel_rfl) (text7_any hr5) ?_; rintro _ w6 ⟨t, lt, et, rfl, ht, hr6, hk6, hot⟩; refine ⟨_, rfl, ?_⟩; have hK6 := hK5.read hk6; refine WL.nil (WQ.dk (.inr hK6.blk) ?_); refine K.wo 4 ?_; refine WL.lit1 (cs := [.string t]) rfl rfl rfl rfl rfl rfl rfl rfl ⟨by omega, by omega⟩ (by kernel_rfl) fun g7 w7 hf7 => ?_; have hK7 := hK6.below hf7.below; have hr7 := hr6.keep (Keep.of_below hf7.below) fun b hb => by have := hk6.size; omega
          refine WL.nil (WQ.dk (.inr hK7.blk) ?_); refine K.wo 5 ?_; refine WL.snoc (y := t) rfl rfl rfl rfl elemS1 rfl hK7.names rfl hf7.blk (by intro u hu; simp at hu; rw [hu]; rfl) rfl ⟨rfl, by omega⟩ (by omega) (by omega) fun sn8 w8 ho8 hg8 => ?_; obtain ⟨hb8, hK9⟩ := hK7.setN ho8 hg8; refine K.di hb8 ?_; have hsn8 : sn8.oneCell' = true := ho8.one; refine K.wo 6 ?_; refine WL.pure rfl rfl rfl rfl ?_; refine K.di hb8 ?_; refine K.wo 7 ?_; refine WL.store rfl rfl rfl rfl rfl hsn8 (by kernel_rfl) (hb8.cell 4 (by simp)) (hb8.free 4) ?_; have hr9 : RS7 B (w8.setCell ⟨vb, 4, none⟩ sn8) rb lt et := (hr7.keep hg8.1 fun b hb => ⟨by have := hf7.size; have := hk6.size; omega, fun e => by have := (hK7.names.own e).1; omega⟩).keep (K := fun b => b ≠ vb) ((Keep.refl _ w8).setCell (fun hk => hk rfl) _) fun b hb => by omega
          generalize w8.setCell ⟨vb, 4, none⟩ sn8 = w9 at hK9 hr9; refine K.dl ?_; refine WD.done (by kernel_rfl) ?_; clear hK7 hr7 hb8 hK6 hr6 hK5 hr5 hS hk6 ho8 hg8; have hwr := hK9.keep.size; refine K.kgo ?_; refine WC.drawn 9 (fun wx => VBlk 82 wx vb [.int .i64 c, .int .i64 0, .int .i64 0, .string ByteArray.empty, sn8, sk]) fun w15 hd5 => ?_; have hK5 := hK9.below (hd5.below _); have hr5 := hr9.keep (Keep.of_below (hd5.below w9.heap.size)) fun b hb => by omega
          have hsz5 : w9.heap.size ≤ w15.heap.size := (hd5.below 0).size; have hS := hK5.blk; refine K.fr [0] hS ?_; refine K.wl 1 [7, 8, 9] rfl rfl rfl rfl rfl rfl rfl (fun wx hx => hx.cell 5 (by simp)) hS ?_; refine K.fr [2, 3, 4] hS ?_; refine K.wo 5 ?_; refine WL.call rfl rfl rfl rfl rfl Tryz.func95 rfl (by kernel_rfl) (ih (d + 1) (by omega) hr5 (by omega)) ?_; rintro _ w16 ⟨v, cs, l6, e6, rfl, hv6, hr6, hk6, ho6⟩; refine ⟨_, rfl, ?_⟩; have hvb5 := hK5.blk.lt; have hsn5 : ∀ g, (sn8).ownBlock = some g → g < w15.heap.size := fun g hg => hK5.names.lt hg; have hsk5 : ∀ g, sk.ownBlock = some g → g < w15.heap.size := fun g hg => hK5.kids.lt hg; have hK6 := hK5.read hk6; refine WL.nil (WQ.dk (.inr hK6.blk) ?_); refine K.wo 6 ?_; refine WL.lit1 rfl rfl rfl rfl rfl rfl rfl hv6.len ⟨by omega, by omega⟩ (by kernel_rfl) fun g7 w17 hf7 => ?_; have hK7 := (hK6.below hf7.below).widen (S := w15.heap.size) (by have := hK5.keep.size; omega) hvb5 hsn5 hsk5; have hr7 := hr6.keep (Keep.of_below hf7.below) fun b hb => by have := hk6.size; omega
          have hv7 := hv6.there.keep (O' := fun b => q b ∨ (w15.heap.size ≤ b ∧ b < w17.heap.size)) (Keep.of_below hf7.below) (fun b _ h => h) fun b hb => .inr ⟨hb.1, by have := hf7.size; omega⟩; refine WL.nil (WQ.dk (.inr hK7.blk) ?_); refine K.wo 7 ?_; refine WL.snoc rfl rfl rfl rfl elemV6 rfl hK7.kids rfl hf7.blk hv6.one hv6.len hv7 (by omega) (by omega) fun sk8 w18 ho8 hg8 => ?_; obtain ⟨hb8, hK9⟩ := hK7.setK ho8 hg8; refine K.di hb8 ?_; have hsk8 : sk8.oneCell' = true := ho8.one; refine K.wo 8 ?_; refine WL.pure rfl rfl rfl rfl ?_; refine K.di hb8 ?_; refine K.wo 9 ?_; refine WL.store rfl rfl rfl rfl rfl hsk8 (by kernel_rfl) (hb8.cell 5 (by simp)) (hb8.free 5) ?_; have hr9 : RS7 B (w18.setCell ⟨vb, 5, none⟩ sk8) rb l6 e6 := (hr7.keep hg8.1 fun b hb => ⟨by have := hr7.ex; have := hf7.size; have := hk6.size; omega, fun e => by have := (hK7.kids.own e).1; omega⟩).keep (K := fun b => b ≠ vb) ((Keep.refl _ w18).setCell (fun hk => hk rfl) _) fun b hb => by omega
          generalize w18.setCell ⟨vb, 5, none⟩ sk8 = w19 at hK9 hr9; refine K.dl ?_; refine WD.done (by kernel_rfl) ?_; refine K.kgo ?_; refine WQ.again (i + 1, (ns ++ [t]), ks ++ [v], l6, e6) ⟨rfl, rfl, rfl, rfl, rfl, rfl, trivial⟩ ⟨hin, by simp only [List.length_append, List.length_cons, List.length_nil]; omega, by simp only [List.length_append, List.length_cons, List.length_nil]; omega, ⟨sn8, sk8, _, hK9⟩, hr9, fun p l' e' ho => ?_⟩ (by show n - (i + 1) < n - i; omega); refine hcont p l' e' (Out.congr (hot.bind (g := fun s r => (rdV m r).bind fun v r' => rdK (rdV m) true (n - (i + 1)) (ns ++ [s]) (ks ++ [v]) r') (ho6.bind (g := fun v r' => rdK (rdV m) true (n - (i + 1)) (ns ++ [t]) (ks ++ [v]) r') ho)) ?_); rw [rdK, if_pos rfl]
        · refine K.kgo ?_
          exact WQ.meet (.mk c 0 0 noT ns ks, _, li, ei) ⟨rfl, rfl, trivial⟩ (hend hK hr (hcont _ _ _ (.ofBad hei)))
      · obtain rfl : i = n := by omega
        refine K.kgo ?_; exact WQ.meet (.mk c 0 0 noT ns ks, _, li, ei) ⟨rfl, rfl, trivial⟩ (hend hK hr (hcont _ _ _ (Out.congr (Out.pure _) (by rw [Nat.sub_self]; rfl))))
  · have hg : GV m c = fun _ => .bad 3 := by
      funext r; unfold GV; rw [if_neg k1, if_neg k2, if_neg k3, if_neg k4, if_neg k5, if_neg k67, if_neg k89]
    refine K.kgo ?_; refine WL.store rfl rfl rfl rfl rfl rfl (by kernel_rfl) (hr3.cell 1 (by simp)) (hr3.free 1) ?_; have h4 := h3.setE 3; have hk4 : KeepR rb w (w3.setCell ⟨rb, 1, none⟩ (.int .i64 3)) := hk3.trans (KeepR.set _ _ _ _); have hblk4 : VBlk 82 (w3.setCell ⟨rb, 1, none⟩ (.int .i64 3)) vb _ := hblk3.other _ _ (by show vb ≠ rb; omega); refine K.kgo ?_; refine WQ.meet (.mk c 0 0 noT [] [], _, l2, 3) ⟨rfl, rfl, trivial⟩ ⟨hblk4, isVo_leaf (by omega) (by omega) (by omega) (by decide), h4, hk4, ho2.gv ?_⟩; rw [hg]; have := Out.fail (l := l2) (e := e2) (a := V.mk c 0 0 noT [] []) 3 (by omega)
    rwa [if_pos he2] at this

theorem value7_any : ∀ (m : Nat) {B rb : Nat} {w : World} {l : List Int} {e : Int} (d : Int), d = 17 - (m : Int) → m ≤ 16 → RS7 B w rb l e → B ≤ w.heap.size → Calls Tryz.prog 95 #[.pointer (some ⟨rb, 0, none⟩), .int .i64 d] w (ValPost7 m B rb w l e)
  | 0, B, rb, w, l, e, d, hd, _, h, hB => by
    refine enter (args := [.pointer (some ⟨rb, 0, none⟩), .int .i64 d]) Tryz.func95 rfl Tryz.ntmps95 rfl ?_; refine K.kgo ?_; refine WL.alloc (z := .agg zeroC.toArray) rfl rfl rfl rfl (fun _ => by kernel_rfl) fun gb w1 hf => ?_; have hf' : Fresh w gb w1 82 zeroC := hf; clear hf; have hgbe := hf'.eq; have hrB := h.rlt; have h1 : RS7 B w1 rb l e := h.keep (Keep.of_below hf'.below) fun b hb => Nat.lt_of_lt_of_le hb hB; have hk1 : KeepR rb w w1 := KeepR.below hf'.below; have hg1 := hf'.blk; clear hf'; obtain ⟨sp1, cap1, hc1, -⟩ := h1.ex; have hset : ∀ (wx : World) a, Keep (fun b => b ≠ gb) wx (wx.setRow gb a) := fun wx a => Keep.setRow (Keep.refl _ wx) (fun hk => hk rfl) a; refine K.kgo ?_; refine WL.load rfl rfl rfl rfl rfl rfl (hc1.cell 1 (by simp)) ?_
    by_cases he : e = 0
    · refine K.kgo ?_
      refine WL.store rfl rfl rfl rfl rfl rfl (by kernel_rfl) (hc1.cell 1 (by simp)) (hc1.free 1) ?_; have h2 := h1.setE 9; have hk2 : KeepR rb w (w1.setCell ⟨rb, 1, none⟩ (.int .i64 9)) := hk1.trans (KeepR.set _ _ _ _); have hg2 : VBlk 82 (w1.setCell ⟨rb, 1, none⟩ (.int .i64 9)) gb zeroC := hg1.other _ _ (by show gb ≠ rb; omega); generalize w1.setCell ⟨rb, 1, none⟩ (.int .i64 9) = w2 at h2 hk2 hg2 ⊢; refine K.kgo ?_; refine WL.build zeroC rfl rfl rfl rfl rfl (by kernel_rfl) ?_; refine WL.storeRow rfl rfl rfl rfl rfl rfl hg2 rfl rfl (zero_isVo (fun _ => True) 0 w2).one ?_; refine K.kgo ?_; refine WQ.retC rfl rfl rfl rfl (hg2.setRow zeroC) ⟨.mk 0 0 0 noT [] [], zeroC, l, 9, rfl, zero_isVo _ _ _, h2.keep (hset _ _) (fun b hb => by omega), Keep.setRow hk2 (fun hk => by have := hk.1; omega) _, ?_⟩; have := Out.fail (l := l) (e := e) (a := V.mk 0 0 0 noT [] []) 9 (by omega)
      rwa [if_pos he] at this
    · refine K.kgo ?_
      refine WL.build zeroC rfl rfl rfl rfl rfl (by kernel_rfl) ?_; refine WL.storeRow rfl rfl rfl rfl rfl rfl hg1 rfl rfl (zero_isVo (fun _ => True) 0 w1).one ?_; refine K.kgo ?_; exact WQ.retC rfl rfl rfl rfl (hg1.setRow zeroC) ⟨.mk 0 0 0 noT [] [], zeroC, l, e, rfl, zero_isVo _ _ _, h1.keep (hset _ _) (fun b hb => by omega), Keep.setRow hk1 (fun hk => by have := hk.1; omega) _, .ofBad he⟩
  | m + 1, _, _, _, _, _, d, hd, hm, h, hB => value7_step m (fun d hd h hB => value7_any m d hd (by omega) h hB) d hd hm h hB
end K
end Go.Proofs.YtpfkcfaifleliaaGreat

namespace Go.Proofs.YtpfkcfaifleliaaGreat
open Go.RowKit
namespace K
structure RdSt7 (w0 : World) (vb rb xb : Nat) (l3 : List Int) (x : V) (cs : List Value) (e : Int) (wx : World) : Prop where
  rs : RS7 (rb + 1) wx rb l3 e
  vblk : VBlk 82 wx vb zCells
  xblk : VBlk 82 wx xb cs
  val : IsVo (fun b => w0.heap.size ≤ b ∧ b ≠ rb ∧ b ≠ vb) 17 wx x cs
  below : Below w0.heap.size w0 wx
  ne : vb ≠ rb ∧ xb ≠ rb ∧ w0.heap.size ≤ rb ∧ w0.heap.size ≤ vb
section
variable {w0 wx wy : World} {vb rb xb : Nat} {l3 : List Int} {x : V} {cs : List Value} {e e' : Int}
theorem RdSt7.fail (h : RdSt7 w0 vb rb xb l3 x cs e wx) (hr : RS7 (rb + 1) wy rb l3 e') (hk : KeepR rb wx wy) : RdSt7 w0 vb rb xb l3 x cs e' wy := by
  have hb := h.below.size; have hne := h.ne; exact ⟨hr, h.vblk.keep hk ⟨h.vblk.lt, hne.1⟩, h.xblk.keep hk ⟨h.xblk.lt, hne.2.1⟩, h.val.keep hk (fun b hb hlt => ⟨hlt, hb.2.1⟩) fun b hb => hb, h.below.trans (Keep.below (Keep.mono hk fun b (hb : b < w0.heap.size) => ⟨by omega, by omega⟩)), hne⟩
theorem RdSt7.step (h : RdSt7 w0 vb rb xb l3 x cs e wx) (hk : Below wx.heap.size wx wy) : RdSt7 w0 vb rb xb l3 x cs e wy := by
  obtain ⟨sp, cap, h1, h2⟩ := h.rs.ex; exact h.fail (h.rs.keep (Keep.of_below hk) fun b hb => by have := h1.lt; omega) (KeepR.below hk)
end

def DecPost7 (w : World) (l : List Int) (r : Ending) (w' : World) : Prop :=
  Below w.heap.size w w' ∧ ∃ (x : V) (cs : List Value) (e : Int), r = .returned (.tuple #[.agg cs.toArray, .int .i64 e]) ∧ IsVo (fun b => w.heap.size ≤ b) 17 w' x cs ∧
    match readV true l with
    | .ok y _ => x = y ∧ e = 0
    | .bad _ => e ≠ 0
set_option maxHeartbeats 4000000 in
theorem decode7_any {w : World} {v : Value} {l : List Int} (hs : Sl .u8 w v l) (hb : Byt l) (hl : l.length ≤ 140737488355328) :
    Calls Tryz.prog 66 #[v] w (DecPost7 w l) := by
  refine enter (args := [v]) Tryz.func66 rfl Tryz.ntmps66 rfl ?_; have hs0 := SlB.of_sl hs; obtain ⟨sp, cap, rfl, -⟩ := hs; refine K.kgo ?_; refine WL.alloc (z := .agg zCells.toArray) rfl rfl rfl rfl (fun _ => by kernel_rfl) fun vb w1 hf1 => ?_; have hf1' : Fresh w vb w1 82 zCells := hf1; clear hf1; refine K.kgo ?_; refine WL.build [.slice sp l.length cap, .int .i64 0] rfl rfl rfl rfl rfl (by kernel_rfl) ?_; refine WL.box rfl rfl rfl rfl rfl fun rb w2 hf2 => ?_; have hf2' : Fresh w1 rb w2 204 [.slice sp l.length cap, .int .i64 0] := hf2; clear hf2; have hz1 := hf1'.size; have hz2 := hf2'.size; have hvb := hf1'.eq; have hrb := hf2'.eq; have hw12 : Below w.heap.size w w2 := hf1'.below.trans (hf2'.below.mono (by omega)); have hr2 : RS7 (rb + 1) w2 rb l 0 := ⟨Nat.lt_succ_self _, hb, sp, cap, hf2'.blk, (hs0.keep (Keep.of_below hw12) fun b hb => hb).mono fun b hb => by omega⟩; have hblk2 : VBlk 82 w2 vb zCells := hf1'.blk.below hf2'.below hf1'.blk.lt; clear hf1' hf2'; refine K.kgo ?_; refine WL.call rfl rfl rfl rfl rfl Tryz.func95 rfl (by kernel_rfl) (value7_any 16 1 rfl (by omega) hr2 (by omega)) ?_; rintro _ w3 ⟨x, cs, l3, e3, rfl, hv3, hr3, hk3, ho3⟩; refine ⟨_, rfl, ?_⟩; have hblk3 := hblk2.keep hk3 ⟨hblk2.lt, by omega⟩; refine WL.alloc (z := .agg zCells.toArray) rfl rfl rfl rfl (fun _ => by kernel_rfl) fun xb w4 hf4 => ?_; have hf4' : Fresh w3 xb w4 82 zCells := hf4; clear hf4; have hcs := hv3.len; refine WL.storeRow rfl rfl rfl rfl rfl rfl hf4'.blk hcs rfl hv3.one ?_; have hz3 := hk3.size; have hxb := hf4'.eq; have hz4 := hf4'.size; have hb4 : Below w3.heap.size w3 (w4.setRow xb cs.toArray) := below_setRow hf4'.below (by omega) _; have hx4 : VBlk 82 (w4.setRow xb cs.toArray) xb cs := hf4'.blk.setRow cs; have hz5 : (w4.setRow xb cs.toArray).heap.size = w3.heap.size + 1 := by simpa using hz4
  generalize w4.setRow xb cs.toArray = w5 at hb4 hx4 hz5; have hv5 : IsVo (fun b => w.heap.size ≤ b ∧ b ≠ rb ∧ b ≠ vb) 17 w5 x cs := (hv3.there.keep (Keep.of_below hb4) (fun b _ h => h) fun b hb => hb).mono fun b hb => by have := hb.1; omega
  have hr5 : RS7 (rb + 1) w5 rb l3 e3 := hr3.keep (Keep.of_below hb4) fun b hb => by omega
  have hblk5 : VBlk 82 w5 vb zCells := hblk3.below hb4 hblk3.lt; have hw5 : Below w.heap.size w w5 := by
    refine hw12.trans (Below.trans (Keep.below (Keep.mono hk3 fun b (hb : b < w.heap.size) => ⟨by omega, by omega⟩)) (hb4.mono (by omega)))
  have hne : vb ≠ rb ∧ xb ≠ rb ∧ w.heap.size ≤ rb ∧ w.heap.size ≤ vb := by omega
  have hst : RdSt7 w vb rb xb l3 x cs e3 w5 := ⟨hr5, hblk5, hx4, hv5, hw5, hne⟩; obtain ⟨rsp, rcap, hrc, -⟩ := hr5.ex; have hlen := ho3.len; clear hf4' hv3 hk3 hr3 hr5 hblk5 hx4 hv5 hw5 hblk3 hb4 hz5 hr2 hblk2 hw12 hs0; refine K.kgo ?_; refine WL.load rfl rfl rfl rfl rfl rfl (hrc.cell 1 (by simp)) ?_; refine K.kgo ?_; refine WC.mid (fun _ : Int => [(0, .slice sp l.length cap), (2, .pointer (some ⟨vb, 0, none⟩)), (4, .pointer (some ⟨rb, 0, none⟩)), (5, .pointer (some ⟨xb, 0, none⟩))]) (fun e4 wx => e4 = (if e3 = 0 then chk 16 x else e3) ∧ RdSt7 w vb rb xb l3 x cs e4 wx) rfl ?_ ?_
  · by_cases he : e3 = 0
    · refine WC.condT rfl he ?_
      refine K.kgo ?_; refine WL.loadMid rfl rfl rfl rfl rfl rfl (VBlk.rangeAt hst.xblk) hcs ?_; refine WL.call rfl rfl rfl rfl rfl Tryz.func83 rfl (by kernel_rfl) (rCheck_any hst.val.isV) ?_; rintro _ w6 ⟨rfl, hb6⟩; refine ⟨_, rfl, ?_⟩; have hst6 := hst.step hb6; obtain ⟨rsp6, rcap6, hrc6, -⟩ := hst6.rs.ex; refine K.kgo ?_; refine WL.store rfl rfl rfl rfl rfl rfl (by kernel_rfl) (hrc6.cell 1 (by simp)) (hrc6.free 1) ?_; exact WL.nil (WQ.meet _ ⟨rfl, rfl, rfl, rfl, trivial⟩ ⟨by rw [if_pos he], hst6.fail (hst6.rs.setE _) (KeepR.set _ _ _ _)⟩)
    · refine WC.condF rfl he ?_
      refine K.kgo ?_; exact WQ.meet _ ⟨rfl, rfl, rfl, rfl, trivial⟩ ⟨by rw [if_neg he], hst⟩
  rintro e4 w6 ⟨he4, hst6⟩; clear hrc hst; obtain ⟨rsp, rcap, hrc, -⟩ := hst6.rs.ex; refine K.kgn ?_; refine WL.mid (fun b : Bool => [(0, .slice sp l.length cap), (2, .pointer (some ⟨vb, 0, none⟩)), (4, .pointer (some ⟨rb, 0, none⟩)), (5, .pointer (some ⟨xb, 0, none⟩)), (33, .bool b)]) (fun b wx => b = decide (e4 = 0 ∧ 0 < l3.length) ∧ wx = w6) rfl ?_ ?_
  · have c0 := hrc.cell 0 (by simp)
    refine K.kgo ?_; refine WL.load rfl rfl rfl rfl rfl rfl (hrc.cell 1 (by simp)) ?_
    by_cases he : e4 = 0
    · by_cases h0 : 0 < l3.length
      · refine K.kgl ?_
        exact WQ.meet true ⟨rfl, rfl, rfl, rfl, rfl, trivial⟩ ⟨by simp [he, h0], rfl⟩
      · refine K.kgl ?_
        exact WQ.meet false ⟨rfl, rfl, rfl, rfl, rfl, trivial⟩ ⟨by simp [h0], rfl⟩
    · refine K.kgo ?_
      exact WQ.meet false ⟨rfl, rfl, rfl, rfl, rfl, trivial⟩ ⟨by simp [he], rfl⟩
  rintro b _ ⟨hb5, rfl⟩; refine WC.mid (fun _ : Int => [(0, .slice sp l.length cap), (2, .pointer (some ⟨vb, 0, none⟩)), (4, .pointer (some ⟨rb, 0, none⟩)), (5, .pointer (some ⟨xb, 0, none⟩))]) (fun e5 wx => e5 = (if e4 = 0 then (if 0 < l3.length then 3 else 0) else e4) ∧ RdSt7 w vb rb xb l3 x cs e5 wx) rfl ?_ ?_
  · cases b with
    | true =>
      obtain ⟨q1, q2⟩ := of_decide_eq_true hb5.symm; refine K.kgo ?_; refine WL.store rfl rfl rfl rfl rfl rfl (by kernel_rfl) (hrc.cell 1 (by simp)) (hrc.free 1) ?_; exact WL.nil (WQ.meet _ ⟨rfl, rfl, rfl, rfl, trivial⟩ ⟨by rw [if_pos q1, if_pos q2], hst6.fail (hst6.rs.setE _) (KeepR.set _ _ _ _)⟩)
    | false =>
      have hq := of_decide_eq_false hb5.symm; refine K.kgo ?_; refine WQ.meet e4 ⟨rfl, rfl, rfl, rfl, trivial⟩ ⟨?_, hst6⟩
      by_cases q1 : e4 = 0
      · rw [if_pos q1, if_neg (fun q2 => hq ⟨q1, q2⟩), q1]
      · rw [if_neg q1]
  rintro e5 w7 ⟨he5, hst7⟩; clear hrc hst6 hb5; obtain ⟨rsp, rcap, hrc, -⟩ := hst7.rs.ex; refine K.kgn ?_; refine WL.mid (fun b : Bool => [(0, .slice sp l.length cap), (2, .pointer (some ⟨vb, 0, none⟩)), (4, .pointer (some ⟨rb, 0, none⟩)), (5, .pointer (some ⟨xb, 0, none⟩)), (46, .bool b)]) (fun b wx => b = decide (e5 = 0 ∧ 65536 < l.length) ∧ wx = w7) rfl ?_ ?_
  · refine K.kgo ?_
    refine WL.load rfl rfl rfl rfl rfl rfl (hrc.cell 1 (by simp)) ?_
    by_cases he : e5 = 0
    · by_cases h0 : 65536 < l.length
      · refine K.kgo ?_
        exact WQ.meet true ⟨rfl, rfl, rfl, rfl, rfl, trivial⟩ ⟨by simp [he, h0], rfl⟩
      · refine K.kgo ?_
        exact WQ.meet false ⟨rfl, rfl, rfl, rfl, rfl, trivial⟩ ⟨by simp [h0], rfl⟩
    · refine K.kgo ?_
      exact WQ.meet false ⟨rfl, rfl, rfl, rfl, rfl, trivial⟩ ⟨by simp [he], rfl⟩
  rintro b _ ⟨hb5, rfl⟩; refine WC.mid (fun _ : Int => [(0, .slice sp l.length cap), (2, .pointer (some ⟨vb, 0, none⟩)), (4, .pointer (some ⟨rb, 0, none⟩)), (5, .pointer (some ⟨xb, 0, none⟩))]) (fun e6 wx => e6 = (if e5 = 0 then (if 65536 < l.length then 5 else 0) else e5) ∧ RdSt7 w vb rb xb l3 x cs e6 wx) rfl ?_ ?_
  · cases b with
    | true =>
      obtain ⟨q1, q2⟩ := of_decide_eq_true hb5.symm; refine K.kgo ?_; refine WL.store rfl rfl rfl rfl rfl rfl (by kernel_rfl) (hrc.cell 1 (by simp)) (hrc.free 1) ?_; exact WL.nil (WQ.meet _ ⟨rfl, rfl, rfl, rfl, trivial⟩ ⟨by rw [if_pos q1, if_pos q2], hst7.fail (hst7.rs.setE _) (KeepR.set _ _ _ _)⟩)
    | false =>
      have hq := of_decide_eq_false hb5.symm; refine K.kgo ?_; refine WQ.meet e5 ⟨rfl, rfl, rfl, rfl, trivial⟩ ⟨?_, hst7⟩
      by_cases q1 : e5 = 0
      · rw [if_pos q1, if_neg (fun q2 => hq ⟨q1, q2⟩), q1]
      · rw [if_neg q1]
  rintro e6 w8 ⟨he6, hst8⟩; clear hrc hst7 hb5; obtain ⟨rsp, rcap, hrc, -⟩ := hst8.rs.ex
  -- what is told
  have hout : match readV true l with
      | .ok y _ => e6 = 0 ∧ x = y
      | .bad _ => e6 ≠ 0 := by
    have h3 := ho3.ok rfl; unfold readV; cases hq : rdV 16 l with
    | bad z =>
      rw [hq] at h3; obtain ⟨rfl, hz⟩ := h3; rw [if_neg hz] at he4; subst he4; rw [if_neg hz] at he5; subst he5; rw [if_neg hz] at he6; subst he6; exact hz
    | ok y q =>
      rw [hq] at h3; obtain ⟨rfl, rfl, rfl⟩ := h3; rw [if_pos rfl] at he4; simp only
      by_cases hc : chk 16 x = 0
      · rw [if_neg (by simpa using hc)]
        rw [he4, if_pos hc] at he5
        by_cases h1 : 0 < l3.length
        · rw [if_pos h1] at he5
          rw [if_pos ⟨trivial, h1⟩]; rw [he5] at he6; simp at he6
          show e6 ≠ 0
          omega
        · rw [if_neg h1] at he5
          rw [if_neg (fun q => h1 q.2)]; rw [he5, if_pos rfl] at he6
          by_cases h2 : 65536 < l.length - l3.length
          · rw [if_pos h2]
            rw [if_pos (by omega)] at he6
            show e6 ≠ 0
            omega
          · rw [if_neg h2]
            rw [if_neg (by omega)] at he6; exact ⟨he6, rfl⟩
      · rw [if_pos hc]
        rw [he4, if_neg hc] at he5; rw [he5, if_neg hc] at he6
        show e6 ≠ 0
        rw [he6]; exact hc
  refine K.kgo ?_; refine WL.load rfl rfl rfl rfl rfl rfl (hrc.cell 1 (by simp)) ?_
  by_cases h6 : e6 = 0
  · refine K.kgo ?_
    refine WL.loadMid rfl rfl rfl rfl rfl rfl (VBlk.rangeAt hst8.xblk) hcs ?_; refine WL.storeRow rfl rfl rfl rfl rfl rfl hst8.vblk hcs rfl hst8.val.one ?_; refine K.kgo ?_; have hset : Keep (fun b => b ≠ vb) w8 (w8.setRow vb cs.toArray) := Keep.setRow (Keep.refl _ w8) (fun hk => hk rfl) _; refine WQ.retCT rfl rfl rfl rfl hcs (hst8.vblk.setRow cs) ⟨Keep.below (Keep.setRow (Keep.of_below hst8.below) (fun hk => by omega) _), x, cs, 0, rfl, (hst8.val.keep hset (fun b hb _ => hb.2.2) fun b hb => hb.1), ?_⟩; cases hq : readV true l with
    | ok y q => rw [hq] at hout; exact ⟨hout.2, rfl⟩
    | bad z => rw [hq] at hout; exact absurd h6 hout
  · refine K.kgo ?_
    refine WC.drawn 6 (fun wx => VBlk 204 wx rb [.slice rsp l3.length rcap, .int .i64 e6]) fun w9 hd9 => ?_; have hst9 := hst8.step (hd9.below _); have hS : VBlk 204 w9 rb [.slice rsp l3.length rcap, .int .i64 e6] := hrc.below (hd9.below _) hrc.lt; refine WD.build zCells 0 rfl (by kernel_rfl) rfl rfl (fun _ _ _ _ _ h => h) rfl rfl rfl (by kernel_rfl) (.inr hS) ?_; refine K.fr [1, 2, 3] hS ?_; refine K.wl 4 [6] rfl rfl rfl rfl rfl rfl rfl (fun wx hx => hx.cell 1 (by simp)) hS ?_; refine K.wo 5 ?_; refine WL.storeRow rfl rfl rfl rfl rfl rfl hst9.vblk rfl rfl (zV_is (fun _ => True) 0 w9).one ?_; have hne2 := hst9.ne; have hS2 : VBlk 204 (w9.setRow vb zCells.toArray) rb [.slice rsp l3.length rcap, .int .i64 e6] := hS.setRow_other _ (by omega); have hvb2 := hst9.vblk.setRow zCells; have hbel2 : Below w.heap.size w (w9.setRow vb zCells.toArray) := Keep.below (Keep.setRow (Keep.of_below hst9.below) (fun hk => by omega) _); generalize w9.setRow vb zCells.toArray = w10 at hS2 hvb2 hbel2; refine K.di hS2 ?_; refine K.wo 6 ?_; refine WL.pure rfl rfl rfl rfl ?_; refine K.dl ?_; refine WD.done (by kernel_rfl) ?_; refine K.kgo ?_; refine WQ.retCT rfl rfl rfl rfl rfl hvb2 ⟨hbel2, zV, zCells, e6, rfl, zV_is _ _ _, ?_⟩; cases hq : readV true l with
    | ok y q => rw [hq] at hout; exact absurd hout.1 h6
    | bad z => exact h6
end K
end Go.Proofs.YtpfkcfaifleliaaGreat

namespace Go.Proofs.YtpfkcfaifleliaaGreat
open Go.RowKit
namespace K
section
variable {n : NN} {Q : Exit → Act → World → Prop} {l : Env} {w w' : World} {ops : Array Oper} {o : Oper} {rest : List Oper} {d : Nat}
theorem WL.uptoW {O : Nat → Prop} {t e : Nat} {x hi : Operand} {v : Value} {kk : IntKind} {z : Int} {zs : List Int} {w0 : World} (hg : o.guard = none) (hd : o.dst = some d) (hn : Nat.blt d n.n = true) (ho : o.op = .slice t x none (some hi) none) (ht : tyOf ty t = some (.slice e 1))
    (hx : evl l x = some v) (hhi : evl l hi = some (.int kk z)) (h0 : 0 ≤ z) (h1 : z ≤ zs.length) (hs : SlB O w0 v zs) (h : ∀ v', SlB O w0 v' (zs.take z.toNat) → WL n ops Q rest ((d, v') :: l) w) : WL n ops Q (o :: rest) l w := by
  have hs0 := hs.sl; have hlt := hs.lt; obtain ⟨sp, cap, rfl, hc, hm, hr, hn0⟩ := hs.sl; refine WL.step hg hd hn (v := sliced sp 0 z.toNat cap 1) (fun a ha => ?_) (h _ ⟨sl_to hs0 (by omega), fun hl0 b o s m c e => ?_⟩)
  · obtain ⟨hu, hsz⟩ := TyOk.of tyOk ht
    have he : Tryz.prog.elem t = e := by simp [Program.elem, hu]
    have hu' : Tryz.prog.underlying t = some (.slice (Tryz.prog.elem t)) := by rw [he]; exact hu
    have hs : (sizeOf e).run Tryz.prog w = .ok 1 w := by
      cases hq : Tryz.prog.info? e with
      | none => rw [hq] at hsz; cases hsz
      | some q => rw [hq] at hsz; simp at hsz; simp [sizeOf, typeInfo, hq, hsz]
    unfold execOp; rw [ho]; simp [ha.eval hx, ha.eval hhi, run_sliceAt_slice w t _ _ _ _ hu', run_slice_h w t sp zs.length cap hu' kk z h0 (by omega), he, hs]
  · unfold sliced at e
    injection e with e1 _ _
    cases sp with
    | none => split at e1 <;> cases e1
    | some p =>
      obtain ⟨pb, po, ps⟩ := p; have := hlt (by rw [List.length_take] at hl0; omega) pb po ps _ _ rfl
      split at e1
      · cases e1; exact this
      · have e2 := congrArg (fun q => q.map Addr.block) e1
        have e3 : ((⟨pb, po, ps⟩ : Addr).add (0 * 1)).block = pb := by unfold Addr.add; split <;> rfl
        simp only [Option.map_some, Option.some.injEq, e3] at e2; rw [← e2]; exact this
end
variable {B rb : Nat} {w : World}
end K
end Go.Proofs.YtpfkcfaifleliaaGreat

namespace Go.Proofs.YtpfkcfaifleliaaGreat
open Go.RowKit
namespace K
theorem elemI1 : ElemV Tryz.prog 45 3 1 8 := ElemV.mk' (z := .int .i64 0) Tryz.underlying45 (by kernel_rfl) rfl (by omega)
def intP (x : Int) (cs : List Value) : Prop := cs = [.int .i64 x]
theorem intP_sl {O : Nat → Prop} {w : World} {v : Value} {l : List Int} (h : Els 1 0 intP O w v l) : Sl .i64 w v l := by
  obtain ⟨sp, cap, h1, h2, h3, h4, h5⟩ := h; refine ⟨sp, cap, h1, h2, h3, fun h0 => ?_, h4⟩; obtain ⟨b, o, e, hb, -, hr⟩ := h5 h0; refine ⟨b, o, e, hb, fun j hj => ?_⟩; obtain ⟨cs, -, hp, hat⟩ := hr j hj; unfold intP at hp; subst hp; have := hat 0 _ rfl; rw [Nat.mul_one, Nat.add_zero] at this; rw [this]
  rfl
variable {B rb : Nat} {w : World}
end K
end Go.Proofs.YtpfkcfaifleliaaGreat

namespace Go.Proofs.YtpfkcfaifleliaaGreat
namespace K
abbrev Ro := Option (List Int)
def qU : Ro → Nat × Ro
  | none => (0, none)
  | some l => match rdU l with | .ok u r => (u, some r) | .bad _ => (0, none)
def qUp (most : Nat) (o : Ro) : Nat × Ro := if most < (qU o).1 then (0, none) else qU o
def qT (n : Nat) : Ro → List Int × Ro
  | none => ([], none)
  | some l => if l.length < n then ([], none) else (l.take n, some (l.drop n))
def qNs : Nat → Ro → List Int × Ro
  | 0, o => ([], o)
  | n + 1, o => (zag (qU o).1 :: (qNs n (qU o).2).1, (qNs n (qU o).2).2)
def qNums (o : Ro) : List Int × Ro := qNs (qUp 8 o).1 (qUp 8 o).2
def qV (o : Ro) : Option (V × List Int) := match (qT (qUp 65536 o).1 (qUp 65536 o).2).2 with
  | none => none
  | some r => match readV true (qT (qUp 65536 o).1 (qUp 65536 o).2).1 with | .ok v _ => some (v, r) | .bad _ => none
def qVs : Nat → Ro → Option (List V × List Int)
  | 0, none => none
  | 0, some l => some ([], l)
  | n + 1, o => match qV o with | none => none | some (v, r) => match qVs n (some r) with | none => none | some (vs, r2) => some (v :: vs, r2)
def qVals (most : Nat) (o : Ro) : Option (List V × List Int) := qVs (qUp most o).1 (qUp most o).2
def qM (m : Int) : List Int → Ro
  | a :: _ :: r => if a = m then some r else none
  | _ => none
def rdRq (P : List Int) : Option Rq :=
  match qVals 40 (qT (qUp 4096 (qNums (qUp 9007199254740992 (qM 81 P)).2).2).1 (qUp 4096 (qNums (qUp 9007199254740992 (qM 81 P)).2).2).2).2 with
  | none => none
  | some (vs, r) => if r.length = 32 ∧ 1 ≤ nth P 1 ∧ nth P 1 ≤ 20 then
      some ⟨nth P 1, (qUp 9007199254740992 (qM 81 P)).1, (qNums (qUp 9007199254740992 (qM 81 P)).2).1, strOfNums (qT (qUp 4096 (qNums (qUp 9007199254740992 (qM 81 P)).2).2).1 (qUp 4096 (qNums (qUp 9007199254740992 (qM 81 P)).2).2).2).1, vs, r⟩ else none
theorem qT_ok {n : Nat} {o : Ro} {t r : List Int} (h : qT n o = (t, some r)) : o = some (t ++ r) ∧ t.length = n := by
  cases o with
  | none => simp [qT] at h
  | some l =>
    replace h : (if l.length < n then ([], none) else (l.take n, some (l.drop n))) = (t, some r) := h
    split at h
    · simp at h
    · rename_i hl
      simp only [Prod.mk.injEq, Option.some.injEq] at h; obtain ⟨rfl, rfl⟩ := h; exact ⟨by rw [List.take_append_drop], by rw [List.length_take]; omega⟩
theorem qUp_none (m : Nat) : qUp m none = (0, none) := by
  unfold qUp; rw [if_neg (show ¬ m < (qU none).1 by show ¬ m < 0; omega)]
  rfl
theorem qNums_none : qNums none = ([], none) := by
  unfold qNums; rw [qUp_none]
  rfl
theorem qVals_none (m : Nat) : qVals m none = none := by
  unfold qVals; rw [qUp_none]
  rfl
theorem be4_split {l : List Int} (hl : 4 ≤ l.length) (hb : Byt l) : l = Crc.be4 (Crc.num4 l) ++ l.drop 4 := by
  match l, hl with
  | a :: b :: c :: d :: r, _ =>
    have := (Crc.be4_num4 (hb a (by simp)) (hb b (by simp)) (hb c (by simp)) (hb d (by simp)) r).1; rw [this]
    rfl
end K
end Go.Proofs.YtpfkcfaifleliaaGreat

namespace Go.Proofs.YtpfkcfaifleliaaGreat
open Go.RowKit
namespace K
section
variable {B rb : Nat} {w w' : World} {o : Ro}
theorem qU_lt (h : ∀ l, o = some l → Byt l) : (qU o).1 < 18446744073709551616 := by
  cases o with
  | none => show 0 < _; omega
  | some l =>
    show (match rdU l with | .ok u r => ((u, some r) : Nat × Ro) | .bad _ => (0, none)).1 < _
    cases hr : rdU l with
    | bad e => show 0 < _; omega
    | ok u r => exact (rdU_can (h l rfl) hr).2
theorem qUp_le (most : Nat) (o : Ro) : (qUp most o).1 ≤ most := by
  unfold qUp
  split
  · exact Nat.zero_le _
  · omega
theorem qNs_snoc : ∀ (n : Nat) (o : Ro), qNs (n + 1) o = ((qNs n o).1 ++ [zag (qU (qNs n o).2).1], (qU (qNs n o).2).2)
  | 0, o => rfl
  | n + 1, o => by
    conv => lhs; unfold qNs
    rw [qNs_snoc n]
    rfl
theorem qNs_len : ∀ (n : Nat) (o : Ro), (qNs n o).1.length = n
  | 0, _ => rfl
  | n + 1, o => by
    rw [qNs_snoc, List.length_append, qNs_len n o]
    rfl
end
end K
end Go.Proofs.YtpfkcfaifleliaaGreat

namespace Go.Proofs.YtpfkcfaifleliaaGreat
open Go.RowKit
namespace K
theorem qVs_snoc : ∀ (i : Nat) (o : Ro), qVs (i + 1) o = (match qVs i o with | none => none | some (vs, r) => match qV (some r) with | none => none | some (v, r') => some (vs ++ [v], r'))
  | 0, none => rfl
  | 0, some l => by
    show (match qV (some l) with | none => none | some (v, r) => match qVs 0 (some r) with | none => none | some (vs, r2) => some (v :: vs, r2)) = (match qV (some l) with | none => none | some (v, r') => some ([] ++ [v], r'))
    cases qV (some l) with
    | none => rfl
    | some p => rfl
  | i + 1, o => by
    show (match qV o with | none => none | some (v, r) => match qVs (i + 1) (some r) with | none => none | some (vs, r2) => some (v :: vs, r2)) = (match (match qV o with | none => none | some (v, r) => match qVs i (some r) with | none => none | some (vs, r2) => some (v :: vs, r2)) with | none => none | some (vs, r) => match qV (some r) with | none => none | some (v, r') => some (vs ++ [v], r'))
    cases qV o with
    | none => rfl
    | some p =>
      obtain ⟨v, r⟩ := p; simp only
      rw [qVs_snoc i (some r)]; cases qVs i (some r) with
      | none => rfl
      | some p2 =>
        obtain ⟨vs, r2⟩ := p2; simp only
        cases qV (some r2) with
        | none => rfl
        | some p3 => rfl
theorem qVs_stop {i : Nat} {o : Ro} (h : qVs i o = none) : ∀ k, qVs (i + k) o = none
  | 0 => h
  | k + 1 => by
    rw [show i + (k + 1) = (i + k) + 1 by omega, qVs_snoc, qVs_stop h k]
theorem qVs_len {i : Nat} {o : Ro} {vs : List V} {r : List Int} (h : qVs i o = some (vs, r)) : vs.length = i := by
  induction i generalizing vs r with
  | zero =>
    cases o with
    | none => cases h
    | some l => cases h; rfl
  | succ i ih =>
    rw [qVs_snoc] at h; cases h1 : qVs i o with
    | none => rw [h1] at h; cases h
    | some p =>
      obtain ⟨vs1, r1⟩ := p; rw [h1] at h; simp only at h; cases h2 : qV (some r1) with
      | none => rw [h2] at h; cases h
      | some p2 =>
        obtain ⟨v, r2⟩ := p2; rw [h2] at h; cases h
        rw [List.length_append, ih h1]
        rfl
theorem qUp_zero {most : Nat} {o : Ro} (h : (qUp most o).2 = none) : (qUp most o).1 = 0 := by
  unfold qUp at h ⊢
  split
  · rfl
  · rename_i hm
    rw [if_neg hm] at h; cases o with
    | none => rfl
    | some l =>
      change (match rdU l with | .ok u r => ((u, some r) : Nat × Ro) | .bad _ => (0, none)).2 = none at h
      show (match rdU l with | .ok u r => ((u, some r) : Nat × Ro) | .bad _ => (0, none)).1 = 0
      cases hr : rdU l with
      | ok u r => rw [hr] at h; cases h
      | bad e => rfl
theorem qT_byt {n : Nat} {o : Ro} (h : ∀ l, o = some l → Byt l) : Byt (qT n o).1 ∧ (qT n o).1.length ≤ n := by
  cases o with
  | none => exact ⟨(fun _ h => by cases h), Nat.zero_le _⟩
  | some l =>
    show Byt (if l.length < n then (([], none) : List Int × Ro) else (l.take n, some (l.drop n))).1 ∧ (if l.length < n then (([], none) : List Int × Ro) else (l.take n, some (l.drop n))).1.length ≤ n
    split
    · exact ⟨(fun _ h => by cases h), Nat.zero_le _⟩
    · exact ⟨fun c hc => h l rfl c (List.mem_of_mem_take hc), by rw [List.length_take]; omega⟩
variable {B rb : Nat} {w : World} {o : Ro}
end K
end Go.Proofs.YtpfkcfaifleliaaGreat

namespace Go.Proofs.YtpfkcfaifleliaaGreat
open Go.RowKit
namespace K
section
variable {n : NN} {Q : Exit → Act → World → Prop} {l : Env} {w : World} {ops : Array Oper} {o : Oper} {rest : List Oper} {d : Nat}
theorem made_rep (u : Value) (n : Nat) : (madeCells #[u] n).toList = List.replicate n u := by
  apply List.ext_getElem
  · simp [madeCells]
  · intro i h1 h2
    simp [madeCells]
    have : i % 1 = 0 := by omega
    simp [this]
theorem WL.make {t e bytes : Nat} {x : Operand} {k : IntKind} {z : Value} (m : Nat) (u : Value) (hu : z.cells = #[u]) (hi : (Tryz.prog.info? e).map (fun i => (i.zero, i.size, i.bytes)) = some (some z, 1, bytes)) (hg : o.guard = none) (hd : o.dst = some d) (hn : Nat.blt d n.n = true) (ho : o.op = .makeSlice t x x) (ht : tyOf ty t = some (.slice e 1))
    (hx : evl l x = some (.int k (m : Int))) (hb : bytes * m ≤ 140737488355328) (hm : m ≤ 140737488355328) (h : ∀ g w', Fresh w g w' e (List.replicate m u) → WL n ops Q rest ((d, .slice (some ⟨g, 0, none⟩) m m) :: l) w') : WL n ops Q (o :: rest) l w := by
  have hu2 : Tryz.prog.underlying t = some (.slice e) := (TyOk.of tyOk ht).1; obtain ⟨i, i1, i2, i3, i4⟩ := info_parts hi; have hb' : (i.bytes : Int) * (m : Int) ≤ 281474976710656 := by
    have : ((i.bytes * m : Nat) : Int) ≤ 281474976710656 := by rw [i4]; omega
    rwa [Int.natCast_mul] at this
  have hr := run_make (P := Tryz.prog) w t e i z hu2 i1 i2 k k (m : Int) (m : Int) (by omega) (Int.le_refl _) hb' (by omega); simp only [Int.toNat_natCast, i3, Nat.mul_one, hu] at hr; refine WL.step hg hd hn (w' := w.alloc (.cells (madeCells #[u] m) e)) (fun a ha => ?_) (h w.heap.size _ ?_)
  · unfold execOp
    rw [ho]; simp [ha.eval hx, hr, Result.andThen]
  · have : madeCells #[u] m = (List.replicate m u).toArray := by rw [← made_rep]
    rw [this]; exact Fresh.mk' w e _
end
structure WR5 (B : Nat) (w : World) (rb : Nat) (l : List Int) : Prop where
  rlt : rb < B
  byt : Byt l
  ex : ∃ sp cap, VBlk 129 w rb [.slice sp l.length cap, .bool false] ∧ SlB (fun b => b < B ∧ b ≠ rb) w (.slice sp l.length cap) l
theorem WR5.keep {B : Nat} {w w' : World} {rb : Nat} {l : List Int} (h : WR5 B w rb l) {K : Nat → Prop} (hk : Keep K w w') (hK : ∀ b, b < B → K b) : WR5 B w' rb l := by
  obtain ⟨sp, cap, h1, h2⟩ := h.ex; exact ⟨h.rlt, h.byt, sp, cap, h1.keep hk (hK _ h.rlt), h2.keep hk fun b hb => hK b hb.1⟩
theorem WR5.setL {B : Nat} {w : World} {rb : Nat} {l l' : List Int} {v' : Value} (h : WR5 B w rb l) (hb : Byt l') (hv : SlB (fun b => b < B ∧ b ≠ rb) w v' l') : WR5 B (w.setCell ⟨rb, 0, none⟩ v') rb l' := by
  obtain ⟨sp, cap, h1, h2⟩ := h.ex; obtain ⟨sp', cap', rfl, -⟩ := hv.sl; exact ⟨h.rlt, hb, sp', cap', h1.set 0 (.slice sp' l'.length cap'), hv.keep (K := fun b => b ≠ rb) ((Keep.refl _ w).setCell (fun hk => hk rfl) _) fun b hb => hb.2⟩
variable {B rb : Nat} {w : World}
theorem rnumber5_any {n : Nat} {r : List Int} (h : WR5 B w rb (uvB n ++ r)) (hn : n < 18446744073709551616) :
    Calls Tryz.prog 65 #[.pointer (some ⟨rb, 0, none⟩)] w fun e w' => e = .returned (.int .u64 (n : Int)) ∧ WR5 B w' rb r ∧ KeepR rb w w' := by
  refine enter (args := [.pointer (some ⟨rb, 0, none⟩)]) Tryz.func65 rfl Tryz.ntmps65 rfl ?_; obtain ⟨sp, cap, h1, h2⟩ := h.ex; have hrd := rdU_enc hn r; have hru : ruV (uvB n ++ r) = [.int .u64 (n : Nat), .int .i64 (((uvB n ++ r).length - r.length : Nat) : Int), .int .i64 0] := by unfold ruV; rw [hrd]
  have hbr : Byt r := fun c hc => h.byt c (List.mem_append.2 (.inr hc)); have hdr : (uvB n ++ r).drop ((((uvB n ++ r).length - r.length : Nat) : Int).toNat) = r := by
    rw [List.length_append, Int.toNat_natCast, show (uvB n).length + r.length - r.length = (uvB n).length by omega]; exact List.drop_left' rfl
  have hle : (uvB n ++ r).length - r.length ≤ (uvB n ++ r).length := by omega
  generalize (uvB n ++ r).length - r.length = k at hru hdr hle; refine K.kgo ?_; refine WL.load rfl rfl rfl rfl rfl rfl (h1.cell 1 (by simp)) ?_; refine K.kgo ?_; refine WL.load rfl rfl rfl rfl rfl rfl (h1.cell 0 (by simp)) ?_; refine WL.call rfl rfl rfl rfl rfl Tryz.func94 rfl (by kernel_rfl) (rreadU_any h2.sl h.byt) ?_; rintro _ _ ⟨rfl, rfl⟩; refine ⟨_, rfl, ?_⟩; rw [hru]; refine K.kgo ?_; refine WL.load rfl rfl rfl rfl rfl rfl (h1.cell 0 (by simp)) ?_; refine K.kgo ?_; refine WL.fromB (z := (k : Int)) rfl rfl rfl rfl rfl rfl rfl (by omega) (by omega) h2 fun v' hv' => ?_; rw [hdr] at hv'; have hv : v'.oneCell' = true := by obtain ⟨_, _, rfl, -⟩ := hv'.sl; rfl
  refine K.kgo ?_; refine WL.store rfl rfl rfl rfl rfl hv (by kernel_rfl) (h1.cell 0 (by simp)) (h1.free 0) ?_; refine K.kgo ?_; exact WQ.ret1 rfl rfl ⟨rfl, h.setL hbr hv', KeepR.set _ _ _ _⟩
theorem rtake5_any {k : Nat} {A r : List Int} (h : WR5 B w rb (A ++ r)) (hk : A.length = k) (hs : k ≤ 9007199254740992) :
    Calls Tryz.prog 39 #[.pointer (some ⟨rb, 0, none⟩), .int .i64 (k : Int)] w fun e w' => ∃ v, e = .returned v ∧ SlB (fun b => b < B ∧ b ≠ rb) w' v A ∧ WR5 B w' rb r ∧ KeepR rb w w' := by
  refine enter (args := [.pointer (some ⟨rb, 0, none⟩), .int .i64 (k : Int)]) Tryz.func39 rfl Tryz.ntmps39 rfl ?_; obtain ⟨sp, cap, h1, h2⟩ := h.ex; have hbr : Byt r := fun c hc => h.byt c (List.mem_append.2 (.inr hc)); have hdr : (A ++ r).drop k = r := by rw [← hk]; exact List.drop_left' rfl
  have htk : (A ++ r).take k = A := by rw [← hk]; exact List.take_left' rfl
  have hle : k ≤ (A ++ r).length := by rw [List.length_append]; omega
  refine K.kgo ?_; refine WL.load rfl rfl rfl rfl rfl rfl (h1.cell 1 (by simp)) ?_; refine K.kgo ?_; refine WL.load rfl rfl rfl rfl rfl rfl (h1.cell 0 (by simp)) ?_; refine K.kgo ?_; refine WL.load rfl rfl rfl rfl rfl rfl (h1.cell 0 (by simp)) ?_; refine K.kgo ?_; refine WL.uptoW (z := (k : Int)) rfl rfl rfl rfl rfl rfl rfl (by omega) (by omega) h2 fun v1 hv1 => ?_; rw [Int.toNat_natCast, htk] at hv1; refine K.kgo ?_; refine WL.load rfl rfl rfl rfl rfl rfl (h1.cell 0 (by simp)) ?_; refine K.kgo ?_; refine WL.fromB (z := (k : Int)) rfl rfl rfl rfl rfl rfl rfl (by omega) (by omega) h2 fun v' hv' => ?_; rw [Int.toNat_natCast, hdr] at hv'; have hv : v'.oneCell' = true := by obtain ⟨_, _, rfl, -⟩ := hv'.sl; rfl
  refine K.kgo ?_; refine WL.store rfl rfl rfl rfl rfl hv (by kernel_rfl) (h1.cell 0 (by simp)) (h1.free 0) ?_; refine K.kgo ?_; refine WQ.ret1 rfl rfl ⟨v1, rfl, hv1.keep (K := fun b => b ≠ rb) ((Keep.refl _ w).setCell (fun hk => hk rfl) _) fun b hb => hb.2, h.setL hbr hv', KeepR.set _ _ _ _⟩
theorem WR5.setF {l : List Int} (h : WR5 B w rb l) : WR5 B (w.setCell ⟨rb, 1, none⟩ (.bool false)) rb l := by
  obtain ⟨sp, cap, h1, h2⟩ := h.ex; exact ⟨h.rlt, h.byt, sp, cap, h1.set 1 (.bool false), h2.keep (K := fun b => b ≠ rb) ((Keep.refl _ w).setCell (fun hk => hk rfl) _) fun b hb => hb.2⟩
section
variable {w' : World} {o : Ro}
structure WBad5 (B : Nat) (w : World) (rb : Nat) : Prop where
  rlt : rb < B
  ex : ∃ sp n cap, VBlk 129 w rb [.slice sp n cap, .bool true]
def WX5 (B : Nat) (w : World) (rb : Nat) : Ro → Prop
  | some l => WR5 B w rb l
  | none => WBad5 B w rb
theorem WX5.rlt (h : WX5 B w rb o) : rb < B := by
  cases o with
  | none => exact WBad5.rlt h
  | some l => exact WR5.rlt h
theorem WX5.byt (h : WX5 B w rb o) : ∀ l, o = some l → Byt l := fun l e => by
  subst e; exact WR5.byt h
theorem WX5.keep (h : WX5 B w rb o) {K : Nat → Prop} (hk : Keep K w w') (hK : ∀ b, b < B → K b) : WX5 B w' rb o := by
  cases o with
  | none =>
    obtain ⟨h1, sp, n, cap, h2⟩ := h; exact ⟨h1, sp, n, cap, h2.keep hk (hK _ h1)⟩
  | some l => exact WR5.keep h hk hK
theorem WX5.ex (h : WX5 B w rb o) : ∃ sp n cap, VBlk 129 w rb [.slice sp n cap, .bool o.isNone] := by
  cases o with
  | none => exact WBad5.ex h
  | some l =>
    obtain ⟨sp, cap, h1, -⟩ := WR5.ex h; exact ⟨sp, _, cap, h1⟩
theorem WX5.setT (h : WX5 B w rb o) : WX5 B (w.setCell ⟨rb, 1, none⟩ (.bool true)) rb none := by
  obtain ⟨sp, n, cap, h1⟩ := h.ex; exact ⟨h.rlt, sp, n, cap, h1.set 1 (.bool true)⟩
theorem WX5.setF {l : List Int} (h : WX5 B w rb (some l)) : WX5 B (w.setCell ⟨rb, 1, none⟩ (.bool false)) rb (some l) := WR5.setF h
theorem number5_x (h : WX5 B w rb o) :
    Calls Tryz.prog 65 #[.pointer (some ⟨rb, 0, none⟩)] w fun e w' => e = .returned (.int .u64 ((qU o).1 : Int)) ∧ WX5 B w' rb (qU o).2 ∧ KeepR rb w w' := by
  cases o with
  | none =>
    obtain ⟨hlt, sp, n, cap, h1⟩ := h; refine enter (args := [.pointer (some ⟨rb, 0, none⟩)]) Tryz.func65 rfl Tryz.ntmps65 rfl ?_; refine K.kgo ?_; refine WL.load rfl rfl rfl rfl rfl rfl (h1.cell 1 (by simp)) ?_; refine K.kgo ?_; exact WQ.ret1 rfl rfl ⟨rfl, ⟨hlt, _, _, _, h1⟩, KeepR.refl _ _⟩
  | some l =>
    have h : WR5 B w rb l := h; cases hr : rdU l with
    | ok u r =>
      obtain ⟨e, hlt⟩ := rdU_can h.byt hr; have h' : WR5 B w rb (uvB u ++ r) := by rw [← e]; exact h
      have hq : qU (some l) = (u, some r) := by
        show (match rdU l with | .ok u r => ((u, some r) : Nat × Ro) | .bad _ => (0, none)) = _
        rw [hr]
      rw [hq]; exact rnumber5_any h' hlt
    | bad x =>
      have hq : qU (some l) = (0, none) := by
        show (match rdU l with | .ok u r => ((u, some r) : Nat × Ro) | .bad _ => (0, none)) = _
        rw [hr]
      rw [hq]; have hx : x = 2 ∨ x = 3 := rdUF_bad _ _ _ _ hr; have hru : ruV l = [.int .u64 0, .int .i64 0, .int .i64 x] := by unfold ruV; rw [hr]
      obtain ⟨sp, cap, h1, h2⟩ := h.ex; refine enter (args := [.pointer (some ⟨rb, 0, none⟩)]) Tryz.func65 rfl Tryz.ntmps65 rfl ?_; refine K.kgo ?_; refine WL.load rfl rfl rfl rfl rfl rfl (h1.cell 1 (by simp)) ?_; refine K.kgo ?_; refine WL.load rfl rfl rfl rfl rfl rfl (h1.cell 0 (by simp)) ?_; refine WL.call rfl rfl rfl rfl rfl Tryz.func94 rfl (by kernel_rfl) (rreadU_any h2.sl h.byt) ?_; rintro _ _ ⟨rfl, rfl⟩; refine ⟨_, rfl, ?_⟩; rw [hru]; refine K.kgo ?_; refine WL.store rfl rfl rfl rfl rfl rfl (by kernel_rfl) (h1.cell 1 (by simp)) (h1.free 1) ?_; refine K.kgo ?_; exact WQ.ret1 rfl rfl ⟨rfl, WX5.setT (o := some l) h, KeepR.set _ _ _ _⟩
theorem count5_x (most : Nat) (h : WX5 B w rb o) (hm : most ≤ 9007199254740992) :
    Calls Tryz.prog 40 #[.pointer (some ⟨rb, 0, none⟩), .int .i64 (most : Int)] w fun e w' => e = .returned (.int .i64 ((qUp most o).1 : Int)) ∧ WX5 B w' rb (qUp most o).2 ∧ KeepR rb w w' := by
  refine enter (args := [.pointer (some ⟨rb, 0, none⟩), .int .i64 (most : Int)]) Tryz.func40 rfl Tryz.ntmps40 rfl ?_; have hw64 : IntKind.u64.wrap (most : Int) = (most : Int) := wraps_u64 _ (by omega) (by omega); refine K.kgo ?_; refine WL.call rfl rfl rfl rfl rfl Tryz.func65 rfl (by kernel_rfl) (number5_x h) ?_; rintro _ w2 ⟨rfl, h2, k2⟩; refine ⟨_, rfl, ?_⟩
  by_cases hu : most < (qU o).1
  · have hq : qUp most o = (0, none) := by unfold qUp; rw [if_pos hu]
    rw [hq]; obtain ⟨sp, n, cap, h3⟩ := h2.ex; generalize (qU o).1 = u at hu ⊢; refine K.kgo ?_; refine WL.store rfl rfl rfl rfl rfl rfl (by kernel_rfl) (h3.cell 1 (by simp)) (h3.free 1) ?_; refine K.kgo ?_; exact WQ.ret1 rfl rfl ⟨rfl, h2.setT, k2.trans (KeepR.set _ _ _ _)⟩
  · have hq : qUp most o = qU o := by unfold qUp; rw [if_neg hu]
    rw [hq]; generalize (qU o).1 = u at hu ⊢; refine K.kgo ?_; exact WQ.ret1 rfl rfl ⟨rfl, h2, k2⟩
end
theorem byt_zeros (n : Nat) : Byt (List.replicate n 0) := fun c hc => by
  rw [List.eq_of_mem_replicate hc]; exact ⟨Int.le_refl 0, by omega⟩
theorem sl_zeros {w w' : World} {g n : Nat} (h : Fresh w g w' 5 (List.replicate n (.int .u8 0))) (hn : n ≤ 140737488355328) : Sl .u8 w' (.slice (some ⟨g, 0, none⟩) n n) (List.replicate n 0) := by
  refine ⟨some ⟨g, 0, none⟩, n, by rw [List.length_replicate], by rw [List.length_replicate]; exact Nat.le_refl _, by omega, fun _ => ⟨g, 0, rfl, h.blk.lt, fun i hi => ?_⟩, fun h => by cases h⟩; rw [List.length_replicate] at hi; have := h.blk.cell i (by rw [List.length_replicate]; exact hi); rw [Nat.zero_add, this]; simp [nth, hi]
theorem raw5_x {B rb : Nat} {w : World} {o : Ro} (k : Nat) (h : WX5 B w rb o) (hB : B ≤ w.heap.size) (hs : k ≤ 9007199254740992) :
    Calls Tryz.prog 39 #[.pointer (some ⟨rb, 0, none⟩), .int .i64 (k : Int)] w fun e w' => ∃ v L, e = .returned v ∧ Sl .u8 w' v L ∧ Byt L ∧ (if (qT k o).2 = none then L = List.replicate (min k 32) 0 else L = (qT k o).1) ∧ WX5 B w' rb (qT k o).2 ∧ KeepR rb w w' := by
  have hmk : (if (32 : Int) < (k : Int) then (32 : Int) else (k : Int)) = ((min k 32 : Nat) : Int) := by split <;> omega
  have hm32 : min k 32 ≤ 32 := Nat.min_le_right _ _; cases o with
  | none =>
    obtain ⟨hlt, sp, n, cap, h1⟩ := h; have hqT : qT k none = ([], none) := rfl; rw [hqT]; refine enter (args := [.pointer (some ⟨rb, 0, none⟩), .int .i64 (k : Int)]) Tryz.func39 rfl Tryz.ntmps39 rfl ?_; refine K.kgo ?_; refine WL.load rfl rfl rfl rfl rfl rfl (h1.cell 1 (by simp)) ?_; refine K.kgo ?_; refine WL.store rfl rfl rfl rfl rfl rfl (by kernel_rfl) (h1.cell 1 (by simp)) (h1.free 1) ?_; have h2 := WX5.setT (o := none) ⟨hlt, sp, n, cap, h1⟩; have k2 : KeepR rb w (w.setCell ⟨rb, 1, none⟩ (.bool true)) := KeepR.set _ _ _ _; generalize w.setCell ⟨rb, 1, none⟩ (.bool true) = w2 at h2 k2 ⊢; refine K.kgo ?_; refine WL.as 23 (.int .i64 ((min k 32 : Nat) : Int)) rfl (congrArg (Value.int .i64) hmk) ?_; refine WL.make (bytes := 1) (z := .int .u8 0) (min k 32) (.int .u8 0) rfl (by kernel_rfl) rfl rfl rfl rfl rfl rfl (by omega) (by omega) fun g w3 hf => ?_; have hf3 : Fresh w2 g w3 5 (List.replicate (min k 32) (.int .u8 0)) := hf; clear hf; refine K.kgo ?_; exact WQ.ret1 rfl rfl ⟨_, List.replicate (min k 32) 0, rfl, sl_zeros hf3 (by omega), byt_zeros _, by rw [if_pos rfl], h2.keep (Keep.of_below hf3.below) fun b hb => by have := k2.size; omega, k2.trans (KeepR.below hf3.below)⟩
  | some l =>
    have h : WR5 B w rb l := h
    by_cases hl : l.length < k
    · have hq : qT k (some l) = ([], none) := if_pos hl
      rw [hq]; obtain ⟨sp, cap, h1, h2⟩ := h.ex; refine enter (args := [.pointer (some ⟨rb, 0, none⟩), .int .i64 (k : Int)]) Tryz.func39 rfl Tryz.ntmps39 rfl ?_; refine K.kgo ?_; refine WL.load rfl rfl rfl rfl rfl rfl (h1.cell 1 (by simp)) ?_; refine K.kgo ?_; refine WL.load rfl rfl rfl rfl rfl rfl (h1.cell 0 (by simp)) ?_; refine K.kgo ?_; refine WL.store rfl rfl rfl rfl rfl rfl (by kernel_rfl) (h1.cell 1 (by simp)) (h1.free 1) ?_; have h2 := WX5.setT (o := some l) h; have k2 : KeepR rb w (w.setCell ⟨rb, 1, none⟩ (.bool true)) := KeepR.set _ _ _ _; generalize w.setCell ⟨rb, 1, none⟩ (.bool true) = w2 at h2 k2 ⊢; refine K.kgo ?_; refine WL.as 23 (.int .i64 ((min k 32 : Nat) : Int)) rfl (congrArg (Value.int .i64) hmk) ?_; refine WL.make (bytes := 1) (z := .int .u8 0) (min k 32) (.int .u8 0) rfl (by kernel_rfl) rfl rfl rfl rfl rfl rfl (by omega) (by omega) fun g w3 hf => ?_; have hf3 : Fresh w2 g w3 5 (List.replicate (min k 32) (.int .u8 0)) := hf; clear hf; refine K.kgo ?_; exact WQ.ret1 rfl rfl ⟨_, List.replicate (min k 32) 0, rfl, sl_zeros hf3 (by omega), byt_zeros _, by rw [if_pos rfl], h2.keep (Keep.of_below hf3.below) fun b hb => by have := k2.size; omega, k2.trans (KeepR.below hf3.below)⟩
    · have hq : qT k (some l) = (l.take k, some (l.drop k)) := if_neg hl
      rw [hq]; refine (rtake5_any (A := l.take k) (r := l.drop k) (k := k) (by rw [List.take_append_drop]; exact h) (by rw [List.length_take]; omega) hs).mono ?_; rintro e w' ⟨v, rfl, hv, h2, k2⟩; exact ⟨v, _, rfl, hv.sl, fun c hc => h.byt c (List.mem_of_mem_take hc), by rw [if_neg (fun h => by cases h)], h2, k2⟩
end K
end Go.Proofs.YtpfkcfaifleliaaGreat

namespace Go.Proofs.YtpfkcfaifleliaaGreat
open Go.RowKit
namespace K
theorem elsV {q O : Nat → Prop} {w : World} {f : Nat} {v : Value} {l : List V} (h : Els 6 noV (IsVo q f w) O w v l) : IsVs f w v l := by
  obtain ⟨sp, cap, k1, k2, k3, -, k4⟩ := h; refine ⟨sp, cap, k1, k2, k3, fun h0 => ?_⟩; obtain ⟨b, o, e, hb, -, hr⟩ := k4 h0; refine ⟨b, o, e, hb, fun j hj => ?_⟩; obtain ⟨cs, hc, hp, hat⟩ := hr j hj; exact ⟨cs, hc, IsVo.isV hp, hat⟩
section
variable {T B rb gx S4 : Nat} {w0 w w' : World} {rest rest' : List Int} {cells cells' : List Value} {nv : Value} {ns : List Int} {pv : Value} {vs : List V}
end
end K
end Go.Proofs.YtpfkcfaifleliaaGreat

namespace Go.Proofs.YtpfkcfaifleliaaGreat
open Go.RowKit
namespace K
variable {n : NN} {Q : Exit → Act → World → Prop} {l : Env} {w w' : World} {ops : Array Oper} {o : Oper} {rest : List Oper} {d : Nat}
theorem copy_run {v : Value} {x : List Int} {b off m T : Nat} {cs : List Value} (ty' : Nat) (hb : VBlk T w b cs) (hs : Sl .u8 w v x) (hx : x.length ≤ m) (hfit : off + m ≤ cs.length) :
    (Builtin.copy_ #[47, 47] ty' #[.slice (some ⟨b, off, none⟩) m m, v]).run Tryz.prog w = .ok (.int .i64 x.length) (w.setRow b (cs.take off ++ x.map (Value.int .u8) ++ cs.drop (off + x.length)).toArray) := by
  have hsz : (Tryz.prog.info? 5).map (·.size) = some 1 := by kernel_rfl
  obtain ⟨sp, cap, rfl, h1, h2, h3, h4⟩ := hs; rcases Nat.eq_zero_or_pos x.length with h0 | h0
  · obtain rfl := List.eq_nil_of_length_eq_zero h0
    have hself : w.setRow b (cs.take off ++ ([] : List Int).map (Value.int .u8) ++ cs.drop (off + ([] : List Int).length)).toArray = w := by
      simp only [List.map_nil, List.append_nil, List.length_nil, Nat.add_zero, List.take_append_drop]; exact setRow_self w b cs.toArray T (0, 0) hb
    rw [hself]; cases sp with
    | none =>
      obtain rfl := h4 rfl; have := run_copy_nil Tryz.prog w 47 47 ty' 5 ⟨b, off, none⟩ m m Tryz.underlying47 (by rw [hsz]; rfl); simp only [List.length_nil]; rw [this]; have e0 : ((0 : Nat) : Int) = 0 := rfl; rw [e0, goInt]
    | some p =>
      have := run_copy_row Tryz.prog w 47 47 ty' 5 b off m m p 0 cap cs.toArray T [] Tryz.underlying47 hsz hb (by simp) (by simp) (by simp; omega) (by simp); have hself2 : w.setRow b (cs.toArray.toList.take off ++ [] ++ cs.toArray.toList.drop (off + ([] : List Value).length)).toArray = w := by
        simp only [List.append_nil, List.length_nil, Nat.add_zero, List.take_append_drop]; exact setRow_self w b cs.toArray T (0, 0) hb
      rw [hself2] at this; exact this
  · obtain ⟨b2, o2, rfl, hlt, hr⟩ := h3 h0
    have := run_copy_row Tryz.prog w 47 47 ty' 5 b off m m ⟨b2, o2, none⟩ x.length cap cs.toArray T (x.map (Value.int .u8)) Tryz.underlying47 hsz hb (by rw [List.length_map]; exact (Nat.min_eq_left hx).symm)
      (fun j v hj => by
        rw [List.getElem?_map] at hj; obtain ⟨z, hz, rfl⟩ := Option.map_eq_some_iff.1 hj; have hjl : j < x.length := by
          rcases Nat.lt_or_ge j x.length with h | h
          · exact h
          · rw [List.getElem?_eq_none h] at hz; cases hz
        have := hr.at j hjl; have e1 : (⟨b2, o2, none⟩ : Addr).add j = ⟨b2, o2 + j, none⟩ := by unfold Addr.add; split <;> simp_all
        rw [e1, this]; have : nth x j = z := by unfold nth; rw [List.getD_eq_getElem?_getD, hz]; rfl
        rw [this])
      (by simp only [List.length_map, List.size_toArray]; omega) (Ones.int _ _)
    refine this.trans ?_; simp only [List.length_map]
    rfl
theorem WL.copy {x y : Operand} {v : Value} {z : List Int} {b off m T : Nat} {cs : List Value} (hg : o.guard = none) (hd : o.dst = some d) (hn : Nat.blt d n.n = true)
    (ho : o.op = .call { callee := .builtin .copy, args := #[x, y], argTypes := #[47, 47] }) (hx : evl l x = some (.slice (some ⟨b, off, none⟩) m m)) (hy : evl l y = some v) (hs : Sl .u8 w v z) (hz : z.length ≤ m) (hb : VBlk T w b cs) (hfit : off + m ≤ cs.length)
    (h : WL n ops Q rest ((d, .int .i64 z.length) :: l) (w.setRow b (cs.take off ++ z.map (Value.int .u8) ++ cs.drop (off + z.length)).toArray)) : WL n ops Q (o :: rest) l w := by
  have hr := copy_run o.type hb hs hz hfit; refine WL.step hg hd hn (fun a ha => ?_) h; unfold execOp; simp only [ho, resolve, invoke, builtin, Sem.run_bind, Sem.run_pure, Result.andThen_ok, List.map_toArray, List.map_cons, List.map_nil, ha.eval hx, ha.eval hy, hr]
end K
end Go.Proofs.YtpfkcfaifleliaaGreat

namespace Go.Proofs.YtpfkcfaifleliaaGreat
open Go.RowKit
namespace K
def RqDec (w : World) (r : Rq) : Ending → World → Prop := fun e w' => ∃ nv pv, e = .returned (.tuple #[.agg (rqC r nv pv).toArray, .int .i64 0]) ∧ Below w.heap.size w w' ∧ Sl .i64 w' nv r.nums ∧ IsVs 17 w' pv r.params
end K
end Go.Proofs.YtpfkcfaifleliaaGreat

namespace Go.Proofs.YtpfkcfaifleliaaGreat
open Go.RowKit
namespace K
def stepN : Nat → BitVec 32 → BitVec 32
  | 0, c => c
  | j + 1, c => stepN j (Crc.step c)
theorem and1_32 (c : BitVec 32) : bits .and .u32 (c.toNat : Int) 1 = ((c.toNat % 2 : Nat) : Int) := by
  have h := c.isLt; have := Go.bits_mask .u32 32 (by decide) (fun n h0 h1 => by rw [IntKind.wrap_u32]; omega) 1 (by decide) (c.toNat : Int) (by omega) (by omega); rw [show ((2 : Int) ^ 1 - 1) = 1 by decide, show ((2 : Int) ^ 1) = 2 by decide] at this; omega
theorem shr1_32 (c : BitVec 32) : (c.toNat : Int) / ((2 ^ min 1 IntKind.u32.bits : Nat) : Int) = ((c >>> 1).toNat : Int) := by
  rw [show ((2 ^ min 1 IntKind.u32.bits : Nat) : Int) = 2 from rfl, BitVec.toNat_ushiftRight, Nat.shiftRight_eq_div_pow]; omega
theorem low_bit (c : BitVec 32) : c.getLsbD 0 = decide (c.toNat % 2 = 1) := by
  rw [BitVec.getLsbD, Nat.testBit_zero]
theorem step_odd (c : BitVec 32) (h : c.toNat % 2 = 1) : bits .xor .u32 ((c.toNat : Int) / ((2 ^ min 1 IntKind.u32.bits : Nat) : Int)) 3988292384 = ((Crc.step c).toNat : Int) := by
  rw [shr1_32, xor32]; unfold Crc.step; rw [low_bit, decide_eq_true h, if_pos rfl]
  rfl
theorem step_ev (c : BitVec 32) (h : ¬ c.toNat % 2 = 1) : (c.toNat : Int) / ((2 ^ min 1 IntKind.u32.bits : Nat) : Int) = ((Crc.step c).toNat : Int) := by
  rw [shr1_32, Crc.step_even c (by rw [low_bit, decide_eq_false h])]
theorem rsum_any {w : World} {v : Value} {l : List Int} (hv : Sl .u8 w v l) (hb : ∀ c ∈ l, 0 ≤ c ∧ c ≤ 255) (hl : l.length ≤ 140737488355328) :
    Calls Tryz.prog 52 #[v] w fun e w' => e = .returned (.int .u32 (Crc.crcN l : Nat)) ∧ w' = w := by
  obtain ⟨sp, cap, rfl, -⟩ := id hv; refine enter (args := [.slice sp l.length cap]) Tryz.func52 rfl Tryz.ntmps52 rfl ?_; refine K.kgo ?_; refine WC.loop (fun i : Nat × BitVec 32 => [(0, .slice sp l.length cap), (3, .int .u32 (i.2.toNat : Int)), (4, .int .i64 i.1)])
    (fun i w' => i.1 ≤ l.length ∧ i.2 = Crc.run 0xffffffff#32 (l.take i.1) ∧ w' = w) (fun i => l.length - i.1) (0, 0xffffffff#32) ⟨rfl, rfl, rfl, trivial⟩ ⟨Nat.zero_le _, rfl, rfl⟩ ?_
  rintro ⟨i, c⟩ _ ⟨hi, hc, rfl⟩; simp only at hi hc ⊢
  by_cases h : i < l.length
  · have hbc := hb (nth l i) (nth_mem' l i h)
    have hu : IntKind.u32.wrap (nth l i) = nth l i := by rw [IntKind.wrap_u32]; omega
    refine K.kgo ?_; refine WL.idxI i rfl rfl rfl rfl rfl rfl hv rfl rfl h fun p hp => ?_; refine K.kgl ?_; have e1 : bits .xor .u32 (c.toNat : Int) (IntKind.u32.wrap (nth l i)) = ((c ^^^ BitVec.ofInt 32 (nth l i)).toNat : Int) := by rw [hu]; exact xor32 c _
    have hnext : Crc.run 0xffffffff#32 (l.take (i + 1)) = Crc.step8 (c ^^^ BitVec.ofInt 32 (nth l i)) := by
      rw [take_succ' l i h, Crc.run_app, ← hc]; rfl
    generalize hd : c ^^^ BitVec.ofInt 32 (nth l i) = d at e1 hnext; refine WC.loop (fun j : Nat × BitVec 32 => [(0, .slice sp l.length cap), (3, .int .u32 (j.2.toNat : Int)), (4, .int .i64 i), (5, .int .i64 j.1)])
      (fun j wx => j.1 ≤ 8 ∧ stepN (8 - j.1) j.2 = Crc.step8 d ∧ wx = _) (fun j => 8 - j.1) (0, d) ⟨rfl, congrArg (fun z => some (Value.int .u32 z)) e1, rfl, rfl, trivial⟩ ⟨Nat.zero_le _, rfl, rfl⟩ ?_
    rintro ⟨j, y⟩ _ ⟨hj, hy, rfl⟩; simp only at hj hy ⊢
    by_cases h8 : j < 8
    · rw [show 8 - j = (8 - (j + 1)) + 1 by omega] at hy
      have hy' : stepN (8 - (j + 1)) (Crc.step y) = Crc.step8 d := hy; have ha := and1_32 y
      by_cases h2 : y.toNat % 2 = 1
      · have ht : bits .and .u32 (y.toNat : Int) 1 = 1 := by omega
        refine K.kgo ?_; exact WQ.again (j + 1, Crc.step y) ⟨rfl, congrArg (fun z => some (Value.int .u32 z)) (step_odd y h2), rfl, rfl, trivial⟩ ⟨by show j + 1 ≤ 8; omega, hy', rfl⟩ (by show 8 - (j + 1) < 8 - j; omega)
      · have ht : bits .and .u32 (y.toNat : Int) 1 ≠ 1 := by omega
        refine K.kgo ?_; exact WQ.again (j + 1, Crc.step y) ⟨rfl, congrArg (fun z => some (Value.int .u32 z)) (step_ev y h2), rfl, rfl, trivial⟩ ⟨by show j + 1 ≤ 8; omega, hy', rfl⟩ (by show 8 - (j + 1) < 8 - j; omega)
    · obtain rfl : j = 8 := by omega
      have hy' : y = Crc.step8 d := hy; refine K.kgo ?_; exact WQ.again (i + 1, y) ⟨rfl, rfl, rfl, trivial⟩ ⟨by show i + 1 ≤ l.length; omega, hy'.trans hnext.symm, rfl⟩ (by show l.length - (i + 1) < l.length - i; omega)
  · have hfin : bits .xor .u32 (if IntKind.u32.signed = true then -1 else IntKind.u32.max) (c.toNat : Int) = ((Crc.crcN l : Nat) : Int) := by
      rw [List.take_of_length_le (by omega)] at hc
      show bits .xor .u32 4294967295 (c.toNat : Int) = ((Crc.sum l).toNat : Int)
      have := xor32 0xffffffff#32 (c.toNat : Int); rw [show (((0xffffffff#32).toNat : Nat) : Int) = 4294967295 from rfl] at this; rw [this, BitVec.ofInt_natCast, BitVec.ofNat_toNat, BitVec.setWidth_eq]; unfold Crc.sum; rw [← hc, show (0xffffffff#32 : BitVec 32) = BitVec.allOnes 32 by decide, BitVec.allOnes_xor]
    refine K.kgo ?_; exact WQ.ret1 (v := .int .u32 (Crc.crcN l : Nat)) rfl (congrArg (fun z => some (Value.int .u32 z)) hfin) ⟨rfl, rfl⟩
end K
end Go.Proofs.YtpfkcfaifleliaaGreat

namespace Go.Proofs.YtpfkcfaifleliaaGreat
open Go.RowKit
namespace K

end K
end Go.Proofs.YtpfkcfaifleliaaGreat

namespace Go.Proofs.YtpfkcfaifleliaaGreat
open Go.RowKit
namespace K

end K
end Go.Proofs.YtpfkcfaifleliaaGreat

namespace Go.Proofs.YtpfkcfaifleliaaGreat
open Go.RowKit
namespace K

end K
end Go.Proofs.YtpfkcfaifleliaaGreat

namespace Go.Proofs.YtpfkcfaifleliaaGreat
open Go.RowKit
namespace K

end K
end Go.Proofs.YtpfkcfaifleliaaGreat

namespace Go.Proofs.YtpfkcfaifleliaaGreat
open Go.RowKit
namespace K
end K
end Go.Proofs.YtpfkcfaifleliaaGreat

namespace Go.Proofs.YtpfkcfaifleliaaGreat
open Go.RowKit
namespace K
end K
end Go.Proofs.YtpfkcfaifleliaaGreat

namespace Go.Proofs.YtpfkcfaifleliaaGreat
open Go.RowKit
namespace K
end K
end Go.Proofs.YtpfkcfaifleliaaGreat

namespace Go.Proofs.YtpfkcfaifleliaaGreat
open Go.RowKit
namespace K
def qE (vs : Option (List V × List Int)) : Ro := match vs with | some (_, r) => some r | none => none
section
variable {T B rb gx : Nat} {w0 w w' : World} {o o' : Ro} {cells cells' : List Value}
end
end K
end Go.Proofs.YtpfkcfaifleliaaGreat

namespace Go.Proofs.YtpfkcfaifleliaaGreat
open Go.RowKit
namespace K
def qR (mark least most : Int) (P : List Int) : Ro := if 2 ≤ P.length ∧ nth P 0 = mark ∧ least ≤ nth P 1 ∧ nth P 1 ≤ most then some (P.drop 2) else none
theorem qNs_stop {i : Nat} {o : Ro} (h : (qNs i o).2 = none) : ∀ k, (qNs (i + k) o).2 = none
  | 0 => h
  | k + 1 => by
    rw [show i + (k + 1) = (i + k) + 1 by omega, qNs_snoc, qNs_stop h k]
    rfl
variable {B rb : Nat} {w : World}
set_option maxHeartbeats 2000000 in
theorem begin5_x {P : List Int} {mark least most : Int} (h : WX5 B w rb (some P)) (hB : B ≤ w.heap.size) (hm0 : mark ≠ 0) :
    Calls Tryz.prog 38 #[.pointer (some ⟨rb, 0, none⟩), .int .u8 mark, .int .i64 least, .int .i64 most] w fun e w' => ∃ (kd : Int) (v : Value) (ns : List Int), e = .returned (.tuple #[.int .i64 kd, .int .i64 ((qUp 9007199254740992 (qR mark least most P)).1 : Nat), v]) ∧ (qR mark least most P ≠ none → kd = nth P 1) ∧
      OwnE 3 1 0 intP (fun b => w.heap.size ≤ b) w' v ns ∧ ((qNums (qUp 9007199254740992 (qR mark least most P)).2).2 ≠ none → ns = (qNums (qUp 9007199254740992 (qR mark least most P)).2).1) ∧ WX5 B w' rb (qNums (qUp 9007199254740992 (qR mark least most P)).2).2 ∧ KeepR rb w w' := by
  refine enter (args := [.pointer (some ⟨rb, 0, none⟩), .int .u8 mark, .int .i64 least, .int .i64 most]) Tryz.func38 rfl Tryz.ntmps38 rfl ?_; have hrB := h.rlt; refine K.kgo ?_; refine WL.call rfl rfl rfl rfl rfl Tryz.func39 rfl (by kernel_rfl) (raw5_x 2 h hB (by omega)) ?_; rintro _ w1 ⟨mv, L, rfl, hsl, hbL, hL, h1, k1⟩; refine ⟨_, rfl, ?_⟩; have hqR : (qT 2 (some P)).2 = none ∧ L = [0, 0] ∧ P.length < 2 ∨ (qT 2 (some P)).2 = some (P.drop 2) ∧ L = P.take 2 ∧ 2 ≤ P.length := by
    by_cases hl : P.length < 2
    · have e : qT 2 (some P) = ([], none) := if_pos hl
      rw [e] at hL ⊢; exact .inl ⟨rfl, hL, hl⟩
    · have e : qT 2 (some P) = (P.take 2, some (P.drop 2)) := if_neg hl
      rw [e] at hL ⊢; rw [if_neg (fun h => by cases h)] at hL; exact .inr ⟨rfl, hL, by omega⟩
  have hLl : L.length = 2 := by
    rcases hqR with ⟨-, rfl, -⟩ | ⟨-, rfl, h2⟩
    · rfl
    · rw [List.length_take]; omega
  have hn0 : 2 ≤ P.length ∧ nth L 0 = nth P 0 ∧ nth L 1 = nth P 1 ∨ P.length < 2 ∧ nth L 0 = 0 ∧ nth L 1 = 0 := by
    rcases hqR with ⟨-, rfl, h2⟩ | ⟨-, rfl, h2⟩
    · exact .inr ⟨h2, rfl, rfl⟩
    · match P, h2 with
      | a :: b :: r, _ => exact .inl ⟨by simp, rfl, rfl⟩
  have hb1 := hbL _ (nth_mem' L 1 (by omega)); generalize hk : nth L 1 = kd at hb1 hn0; generalize hc : nth L 0 = c0 at hn0; obtain ⟨spm, capm, rfl, -⟩ := id hsl; have hkd : qR mark least most P ≠ none → kd = nth P 1 := fun hq => by
    unfold qR at hq
    split at hq
    · omega
    · exact absurd rfl hq
  have hst : WX5 B w1 rb (if c0 = mark ∧ least ≤ kd ∧ kd ≤ most then qR mark least most P else (qT 2 (some P)).2) := by
    split
    · rename_i hq
      have e : qR mark least most P = (qT 2 (some P)).2 := by
        rcases hqR with ⟨-, -, h2⟩ | ⟨e, -, h2⟩
        · omega
        · rw [e]
          exact if_pos ⟨h2, by omega⟩
      rw [e]; exact h1
    · exact h1
  clear hL hbL h1; refine K.kgo ?_; refine WL.idxI 1 rfl rfl rfl rfl rfl rfl hsl rfl rfl (by omega) fun p hp => ?_; rw [hk] at hp; refine K.kgl ?_; refine WL.idxI 0 rfl rfl rfl rfl rfl rfl hsl rfl rfl (by omega) fun p0 hp0 => ?_; rw [hc] at hp0; refine WL.load rfl rfl rfl rfl rfl rfl hp0 ?_; obtain ⟨sp1, n1, cap1, hb⟩ := hst.ex; refine WL.mid (fun b : Bool => [(0, .pointer (some ⟨rb, 0, none⟩)), (12, .int .i64 kd), (37, .bool b)]) (fun b wx => b = decide (¬ (c0 = mark ∧ least ≤ kd ∧ kd ≤ most)) ∧ wx = w1) rfl ?_ ?_
  · by_cases c1 : c0 = mark
    · by_cases c2 : kd < least
      · refine K.kgo ?_
        exact WQ.meet true ⟨rfl, rfl, rfl, trivial⟩ ⟨by rw [decide_eq_true]; omega, rfl⟩
      · by_cases c3 : most < kd
        · refine K.kgo ?_
          exact WQ.meet true ⟨rfl, rfl, rfl, trivial⟩ ⟨by rw [decide_eq_true]; omega, rfl⟩
        · refine K.kgo ?_
          exact WQ.meet false ⟨rfl, rfl, rfl, trivial⟩ ⟨by rw [decide_eq_false]; omega, rfl⟩
    · refine K.kgo ?_
      exact WQ.meet true ⟨rfl, rfl, rfl, trivial⟩ ⟨by rw [decide_eq_true]; omega, rfl⟩
  rintro b _ ⟨hbd, rfl⟩; refine WC.mid (fun _ : Unit => [(0, .pointer (some ⟨rb, 0, none⟩)), (12, .int .i64 kd)]) (fun _ w' => WX5 B w' rb (qR mark least most P) ∧ KeepR rb w w') rfl ?_ ?_
  · cases b with
    | true =>
      have hq := of_decide_eq_true hbd.symm; have e : qR mark least most P = none := if_neg (by omega); rw [e]; refine K.kgo ?_; refine WL.store rfl rfl rfl rfl rfl rfl (by kernel_rfl) (hb.cell 1 (by simp)) (hb.free 1) ?_; exact WL.nil (WQ.meet () ⟨rfl, rfl, trivial⟩ ⟨hst.setT, k1.trans (KeepR.set _ _ _ _)⟩)
    | false =>
      have hq := Decidable.not_not.1 (of_decide_eq_false hbd.symm); rw [if_pos hq] at hst; refine K.kgo ?_; exact WQ.meet () ⟨rfl, rfl, trivial⟩ ⟨hst, k1⟩
  rintro ⟨⟩ w2 ⟨h2, k2⟩; clear hst hb hbd hp hp0 hsl k1 hqR hn0; generalize qR mark least most P = o2 at h2 hkd ⊢; refine K.kgo ?_; refine WL.call rfl rfl rfl rfl rfl Tryz.func40 rfl (by kernel_rfl) (count5_x 9007199254740992 h2 (by omega)) ?_; rintro _ w3 ⟨rfl, h3, k3⟩; refine ⟨_, rfl, ?_⟩; generalize (qUp 9007199254740992 o2).1 = sq; generalize (qUp 9007199254740992 o2).2 = o3 at h3 ⊢; refine K.kgo ?_; refine WL.call rfl rfl rfl rfl rfl Tryz.func40 rfl (by kernel_rfl) (count5_x 8 h3 (by omega)) ?_; rintro _ w4 ⟨rfl, h4, k4⟩; refine ⟨_, rfl, ?_⟩; have hm := qUp_le 8 o3; unfold qNums; generalize (qUp 8 o3).1 = m at hm ⊢; generalize (qUp 8 o3).2 = o4 at h4 ⊢; have k5 : KeepR rb w w4 := (k2.trans k3).trans k4; clear k2 k3 k4 h2 h3; refine K.kgo ?_; refine WC.loop (fun i : Nat × Value => [(0, .pointer (some ⟨rb, 0, none⟩)), (12, .int .i64 kd), (13, .int .i64 sq), (14, .int .i64 m), (15, i.2), (16, .int .i64 i.1)])
    (fun i wr => i.1 ≤ m ∧ WX5 B wr rb (qNs i.1 o4).2 ∧ OwnE 3 1 0 intP (fun b => w.heap.size ≤ b) wr i.2 (qNs i.1 o4).1 ∧ KeepR rb w wr) (fun i => m - i.1) (0, .slice none 0 0) ⟨rfl, rfl, rfl, rfl, rfl, rfl, trivial⟩
    ⟨Nat.zero_le _, h4, OwnE.nil _ _ _ _ _ _, k5⟩ ?_
  rintro ⟨i, v⟩ wr ⟨hi, hr, ho, hk6⟩; simp only at hi hr ho hk6 ⊢
  by_cases hik : i < m
  · obtain ⟨spr, nr, capr, hbr⟩ := hr.ex
    have hlt := qNs_len i o4; have hsn := qNs_snoc i o4; have hstop := qNs_stop (i := i) (o := o4); generalize (qNs i o4).1 = ns at ho hlt hsn; generalize (qNs i o4).2 = oi at hr hbr hsn hstop; cases oi with
    | none =>
      have hfin : (qNs m o4).2 = none := by
        have := hstop rfl (m - i)
        rwa [show i + (m - i) = m by omega] at this
      have c1 : wr.cell? ⟨rb, 1, none⟩ = some (.bool true) := hbr.cell 1 (by simp); refine K.kgl ?_; refine WQ.ret3 rfl rfl rfl rfl ⟨kd, v, ns, rfl, hkd, ho, fun hq => absurd hfin hq, ?_, hk6⟩; rw [hfin]; exact hr
    | some li =>
      have hzl := qU_lt (WX5.byt hr); have c1 : wr.cell? ⟨rb, 1, none⟩ = some (.bool false) := hbr.cell 1 (by simp); refine K.kgl ?_; refine WL.call rfl rfl rfl rfl rfl Tryz.func65 rfl (by kernel_rfl) (number5_x hr) ?_; rintro _ w6 ⟨rfl, h6, k6⟩; refine ⟨_, rfl, ?_⟩; refine WL.call rfl rfl rfl rfl rfl Tryz.func64 rfl (by kernel_rfl) (rzag_any _ hzl w6) ?_; rintro _ _ ⟨rfl, rfl⟩; refine ⟨_, rfl, ?_⟩; have ho2 := ho.keep (P' := intP) (O' := fun b => w.heap.size ≤ b) k6 (fun g hg => ⟨ho.lt hg, by have := ho.own hg; omega⟩) (fun _ h => h) fun _ _ h => h; refine WL.lit1 (cs := [.int .i64 (zag (qU (some li)).1)]) rfl rfl rfl rfl rfl rfl rfl rfl ⟨by omega, by omega⟩ (by kernel_rfl) fun g7 w7 hf7 => ?_; have hz7 := hf7.size; have k7 := hf7.below; have h7 := h6.keep (Keep.of_below k7) fun b hb => by have := k6.size; have := hk6.size; omega
      have ho7 := ho2.keep (P' := intP) (O' := fun b => w.heap.size ≤ b) (Keep.of_below k7) (fun g hg => ho2.lt hg) (fun _ h => h) fun _ _ h => h; refine WL.snoc (y := zag (qU (some li)).1) rfl rfl rfl rfl elemI1 rfl ho7 rfl hf7.blk (by intro u hu; simp at hu; rw [hu]; rfl) rfl rfl (by omega) (by omega) fun v8 w8 ho8 hg8 => ?_; have k27 : KeepR rb w w7 := (hk6.trans k6).trans (KeepR.below k7); have hzw := k27.size; refine K.kgo ?_; refine WQ.again (i + 1, v8) ⟨rfl, rfl, rfl, rfl, rfl, rfl, trivial⟩ ⟨by show i + 1 ≤ m; omega, ?_, ?_, ?_⟩ (by show m - (i + 1) < m - i; omega)
      · show WX5 B w8 rb (qNs (i + 1) o4).2
        rw [hsn]; exact h7.keep hg8.1 (fun b hb => ⟨by omega, fun e => by have := ho7.own e; omega⟩)
      · show OwnE _ _ _ _ _ _ _ (qNs (i + 1) o4).1
        rw [hsn]; exact ho8.keep (Keep.refl (fun _ => True) w8) (fun _ _ => trivial) (fun b hb => by omega) fun _ _ h => h
      · exact Keep.trans k27 (hg8.1.mono fun b hb => ⟨by have := hb.1; omega, fun e => by have := ho7.own e; have := hb.1; omega⟩)
  · obtain rfl : i = m := by omega
    refine K.kgo ?_; exact WQ.ret3 rfl rfl rfl rfl ⟨kd, v, _, rfl, hkd, ho, fun _ => rfl, hr, hk6⟩
end K
end Go.Proofs.YtpfkcfaifleliaaGreat

namespace Go.Proofs.YtpfkcfaifleliaaGreat
open Go.RowKit
namespace K
variable {B rb : Nat} {w : World} {o : Ro}
def ValsX5 (B rb : Nat) (w : World) (v : Value) (w' : World) : Option (List V × List Int) → Prop
  | some (l, r) => (∃ q : Nat → Prop, OwnE 82 6 noV (IsVo q 17 w') (fun b => w.heap.size ≤ b) w' v l ∧ ∀ b, q b → w.heap.size ≤ b ∧ b < w'.heap.size) ∧ WX5 B w' rb (some r)
  | none => WX5 B w' rb none
def VSt (B rb m : Nat) (l1 : List Int) (w : World) (i : Nat) (v : Value) (st : Option (List V × List Int)) (wr : World) : Prop :=
  i ≤ m ∧ KeepR rb w wr ∧ v.oneCell' = true ∧ match st with
  | some (vs, ri) => qVs i (some l1) = some (vs, ri) ∧ WR5 B wr rb ri ∧ ∃ q : Nat → Prop, OwnE 82 6 noV (IsVo q 17 wr) (fun b => w.heap.size ≤ b) wr v vs ∧ ∀ b, q b → w.heap.size ≤ b ∧ b < wr.heap.size ∧ v.ownBlock ≠ some b
  | none => qVs m (some l1) = none ∧ WX5 B wr rb none
set_option maxHeartbeats 4000000 in
theorem values5_x (most : Nat) (h : WX5 B w rb o) (hB : B ≤ w.heap.size) (hmm : most ≤ 1000000) :
    Calls Tryz.prog 41 #[.pointer (some ⟨rb, 0, none⟩), .int .i64 (most : Int)] w fun e w' => ∃ v, e = .returned v ∧ v.oneCell' = true ∧ ValsX5 B rb w v w' (qVals most o) ∧ KeepR rb w w' := by
  refine enter (args := [.pointer (some ⟨rb, 0, none⟩), .int .i64 (most : Int)]) Tryz.func41 rfl Tryz.ntmps41 rfl ?_; have hrB := h.rlt; refine K.kgo ?_; refine WL.call rfl rfl rfl rfl rfl Tryz.func40 rfl (by kernel_rfl) (count5_x most h (by omega)) ?_; rintro _ w1 ⟨rfl, h1, k1⟩; refine ⟨_, rfl, ?_⟩; unfold qVals; have hm := qUp_le most o; have hz := qUp_zero (most := most) (o := o); generalize (qUp most o).1 = m at hm hz ⊢; generalize (qUp most o).2 = o1 at h1 hz ⊢; refine K.kgo ?_; cases o1 with
  | none =>
    have hz := hz rfl; subst hz; refine WC.loop (fun _ : Unit => [(0, .pointer (some ⟨rb, 0, none⟩)), (5, .int .i64 0), (6, .slice none 0 0), (7, .int .i64 0)])
      (fun _ wr => wr = w1) (fun _ => 0) () ⟨rfl, rfl, rfl, rfl, trivial⟩ rfl ?_
    rintro _ _ rfl; refine K.kgo ?_; exact WQ.ret1 rfl rfl ⟨_, rfl, rfl, h1, k1⟩
  | some l1 =>
    clear hz; refine WC.loop (fun i : Nat × Value × Option (List V × List Int) => [(0, .pointer (some ⟨rb, 0, none⟩)), (5, .int .i64 m), (6, i.2.1), (7, .int .i64 i.1)])
      (fun i wr => VSt B rb m l1 w i.1 i.2.1 i.2.2 wr) (fun i => m - i.1) (0, .slice none 0 0, some ([], l1)) ⟨rfl, rfl, rfl, rfl, trivial⟩
      ⟨Nat.zero_le _, k1, rfl, rfl, h1, fun _ => False, OwnE.nil _ _ _ _ _ _, fun b h => h.elim⟩ ?_
    rintro ⟨i, v, st⟩ wr ⟨hi, hk, hone, hst⟩; simp only at hi hk hone hst ⊢; cases st with
    | none =>
      obtain ⟨hend, hr⟩ := hst; rw [hend]; obtain ⟨spr, nr, capr, hbr⟩ := hr.ex; have c1 : wr.cell? ⟨rb, 1, none⟩ = some (.bool true) := hbr.cell 1 (by simp)
      by_cases hik : i < m
      · refine K.kgl ?_
        exact WQ.ret1 rfl rfl ⟨v, rfl, hone, hr, hk⟩
      · obtain rfl : i = m := by omega
        refine K.kgo ?_; exact WQ.ret1 rfl rfl ⟨v, rfl, hone, hr, hk⟩
    | some p =>
      obtain ⟨vs, ri⟩ := p; obtain ⟨hqi, hr, q, ho, hq⟩ := hst; have hvl := qVs_len hqi
      by_cases hik : i < m
      · have hsn := qVs_snoc i (some l1)
        rw [hqi] at hsn; simp only at hsn; have hstop := qVs_stop (i := i + 1) (o := some l1); have hzr := hk.size; have hri : WX5 B wr rb (some ri) := hr; obtain ⟨spr, capr, hbr, -⟩ := hr.ex; have c1 : wr.cell? ⟨rb, 1, none⟩ = some (.bool false) := hbr.cell 1 (by simp); refine K.kgl ?_; refine WL.call rfl rfl rfl rfl rfl Tryz.func40 rfl (by kernel_rfl) (count5_x 65536 hri (by omega)) ?_; rintro _ w2 ⟨rfl, h2, k2⟩; refine ⟨_, rfl, ?_⟩; have hz2 := k2.size; have hm2 := qUp_le 65536 (some ri); have hqv : qV (some ri) = (match (qT (qUp 65536 (some ri)).1 (qUp 65536 (some ri)).2).2 with | none => none | some r => match readV true (qT (qUp 65536 (some ri)).1 (qUp 65536 (some ri)).2).1 with | .ok v _ => some (v, r) | .bad _ => none) := rfl; generalize (qUp 65536 (some ri)).1 = m2 at hm2 hqv ⊢; generalize (qUp 65536 (some ri)).2 = o2 at h2 hqv ⊢; refine WL.call rfl rfl rfl rfl rfl Tryz.func39 rfl (by kernel_rfl) (raw5_x m2 h2 (by omega) (by omega)) ?_; rintro _ w3 ⟨tv, L, rfl, htv, hbL, hL, h3, k3⟩; refine ⟨_, rfl, ?_⟩; have hbl := (qT_byt (n := m2) h2.byt).2; generalize (qT m2 o2).1 = t at hL hbl hqv; generalize (qT m2 o2).2 = o3 at hL h3 hqv; have hLl : L.length ≤ 65536 := by
          by_cases he : o3 = none
          · rw [if_pos he] at hL
            rw [hL, List.length_replicate]; omega
          · rw [if_neg he] at hL
            rw [hL]; omega
        refine WL.call rfl rfl rfl rfl rfl Tryz.func66 rfl (by kernel_rfl) (decode7_any htv hbL (by omega)) ?_; rintro _ w4 ⟨k4, y, cs, e4, rfl, hv4, hm4⟩; refine ⟨_, rfl, ?_⟩; have hz3 := k3.size; have hz4 := k4.size; have kr4 : KeepR rb wr w4 := (k2.trans k3).trans (KeepR.below k4); have h4 := h3.keep (Keep.of_below k4) fun b hb => by omega
        have hc6 := hv4.len
        -- what comes of it
        have hcase : (o3 = none ∨ e4 ≠ 0) ∧ qV (some ri) = none ∨ (∃ r', o3 = some r' ∧ e4 = 0 ∧ qV (some ri) = some (y, r')) := by
          cases o3 with
          | none => exact .inl ⟨.inl rfl, hqv⟩
          | some r' =>
            rw [if_neg (fun h => by cases h)] at hL; subst hL; simp only at hqv; cases hrd : readV true L with
            | ok y' r2 =>
              rw [hrd] at hm4 hqv; obtain ⟨rfl, he⟩ := hm4; exact .inr ⟨r', rfl, he, hqv⟩
            | bad z =>
              rw [hrd] at hm4 hqv; exact .inl ⟨.inr hm4, hqv⟩
        clear hm4 hqv hL; refine K.kgo ?_; refine WL.alloc (z := .agg zCells.toArray) rfl rfl rfl rfl (fun _ => by kernel_rfl) fun g5 w5 hf5 => ?_; have hf5' : Fresh w4 g5 w5 82 zCells := hf5; clear hf5; have hg5 := hf5'.eq; have hz5 := hf5'.size; refine K.kgo ?_; refine WL.storeRow rfl rfl rfl rfl rfl rfl hf5'.blk hc6 (by rfl) hv4.one ?_; have k6 : Below w4.heap.size w4 (w5.setRow g5 cs.toArray) := below_setRow hf5'.below (by rw [hg5]; exact Nat.le_refl _) _; have T6 := hf5'.blk.setRow cs; have hz6 : (w5.setRow g5 cs.toArray).heap.size = w5.heap.size := by simp
        generalize w5.setRow g5 cs.toArray = w6 at k6 T6 hz6 ⊢; clear hf5'; have h6 := h4.keep (Keep.of_below k6) fun b hb => by omega
        obtain ⟨sp6, n6, cap6, hb6⟩ := h6.ex; have kr6 : KeepR rb w4 w6 := KeepR.below k6; refine WL.pure rfl rfl rfl rfl ?_; refine WL.nil ?_
        repeat (first | refine WC.seq ?_ | refine WQ.then rfl ?_)
        refine WC.mid (fun _ : Ro => [(0, .pointer (some ⟨rb, 0, none⟩)), (5, .int .i64 m), (6, v), (7, .int .i64 i), (8, .pointer (some ⟨g5, 0, none⟩))])
          (fun oq wx => (match oq with | none => qV (some ri) = none | some r' => qV (some ri) = some (y, r')) ∧ WX5 B wx rb oq ∧ VBlk 82 wx g5 cs ∧ KeepR rb w4 wx ∧ wx.heap.size = w6.heap.size) rfl ?_ ?_
        · have T7 : ∀ u, VBlk 82 (w6.setCell ⟨rb, 1, none⟩ u) g5 cs := fun u => T6.other _ _ (by show g5 ≠ rb; omega)
          have kr7 : ∀ u, KeepR rb w4 (w6.setCell ⟨rb, 1, none⟩ u) := fun u => kr6.trans (KeepR.set _ _ _ _); rcases hcase with ⟨hbad, hqv⟩ | ⟨r', rfl, he4, hqv⟩
          · cases o3 with
            | none =>
              have c1 : w6.cell? ⟨rb, 1, none⟩ = some (.bool true) := hb6.cell 1 (by simp); refine K.kgl ?_; refine WL.store rfl rfl rfl rfl rfl rfl (by kernel_rfl) (hb6.cell 1 (by simp)) (hb6.free 1) ?_; exact WL.nil (WQ.meet none ⟨rfl, rfl, rfl, rfl, rfl, trivial⟩ ⟨hqv, h6.setT, T7 _, kr7 _, by simp⟩)
            | some r3 =>
              have he4 : e4 ≠ 0 := hbad.elim (fun h => by cases h) id; have c1 : w6.cell? ⟨rb, 1, none⟩ = some (.bool false) := hb6.cell 1 (by simp); refine K.kgl ?_; refine WL.store rfl rfl rfl rfl rfl rfl (by kernel_rfl) (hb6.cell 1 (by simp)) (hb6.free 1) ?_; exact WL.nil (WQ.meet none ⟨rfl, rfl, rfl, rfl, rfl, trivial⟩ ⟨hqv, h6.setT, T7 _, kr7 _, by simp⟩)
          · have c1 : w6.cell? ⟨rb, 1, none⟩ = some (.bool false) := hb6.cell 1 (by simp)
            refine K.kgl ?_; refine WL.store rfl rfl rfl rfl rfl rfl (by kernel_rfl) (hb6.cell 1 (by simp)) (hb6.free 1) ?_; exact WL.nil (WQ.meet (some r') ⟨rfl, rfl, rfl, rfl, rfl, trivial⟩ ⟨hqv, WX5.setF h6, T7 _, kr7 _, by simp⟩)
        rintro oq w7 ⟨hqv, h7, T7, kr6, hz7⟩; clear h6 hb6 T6 hcase h4 h3 h2 k6; refine K.kgo ?_; refine WL.loadMid rfl rfl rfl rfl rfl rfl (VBlk.rangeAt T7) hc6 ?_; refine WL.lit1 rfl rfl rfl rfl rfl rfl rfl hc6 ⟨by omega, by omega⟩ (by kernel_rfl) fun g8 w8 hf8 => ?_; have hz8 := hf8.size; have kr8 : KeepR rb wr w8 := (kr4.trans kr6).trans (KeepR.below hf8.below); have h8 := h7.keep (Keep.of_below hf8.below) fun b hb => by omega
        have hrB' : rb < w.heap.size := by omega
        have ho8 : OwnE 82 6 noV (IsVo (fun b => q b ∨ (w3.heap.size ≤ b ∧ b < w4.heap.size)) 17 w8) (fun b => w.heap.size ≤ b) w8 v vs :=
          ho.keep kr8 (fun g hg => ⟨ho.lt hg, by have := ho.own hg; omega⟩) (fun _ h => h) fun x cs hx => hx.keep kr8 (fun b hb _ => ⟨(hq b hb).2.1, by have := (hq b hb).1; omega⟩) fun b hb => .inl hb
        have kr48 : KeepR rb w4 w8 := kr6.trans (KeepR.below hf8.below); have hv8 : IsVo (fun b => q b ∨ (w3.heap.size ≤ b ∧ b < w4.heap.size)) 17 w8 y cs := hv4.there.keep kr48 (fun b hb _ => ⟨hb.2, by have := hb.1; omega⟩) fun b hb => .inr hb; have hlt : vs.length ≤ i := by omega
        refine WL.snoc rfl rfl rfl rfl elemV6 rfl ho8 rfl hf8.blk hv4.one hc6 hv8 (by omega) (by omega) fun v9 w9 ho9 hg9 => ?_; have hz9 := hg9.1.size; have hq9 : ∀ b, (q b ∨ (w3.heap.size ≤ b ∧ b < w4.heap.size)) → w.heap.size ≤ b ∧ b < w8.heap.size ∧ v.ownBlock ≠ some b := fun b hb => hb.elim (fun h => by
            obtain ⟨h1, h2, h3⟩ := hq b h; exact ⟨h1, by omega, h3⟩) fun h => ⟨by omega, by omega, fun e => by have := ho.lt e; omega⟩
        have h9 := h8.keep hg9.1 (fun b hb => ⟨by omega, fun e => by have := ho8.own e; omega⟩); have k9 : KeepR rb w w9 := Keep.trans (hk.trans kr8) (hg9.1.mono fun b hb => ⟨by have := hb.1; have := kr8.size; omega, fun e => by have := ho8.own e; have := hb.1; omega⟩); have hone9 := ho9.one; refine K.kgo ?_; cases oq with
        | none =>
          simp only at hqv; rw [hqv] at hsn; have hend : qVs m (some l1) = none := by
            have := hstop hsn (m - (i + 1))
            rwa [show i + 1 + (m - (i + 1)) = m by omega] at this
          exact WQ.again (i + 1, v9, none) ⟨rfl, rfl, rfl, rfl, trivial⟩ ⟨by show i + 1 ≤ m; omega, k9, hone9, hend, h9⟩ (by show m - (i + 1) < m - i; omega)
        | some r' =>
          simp only at hqv; rw [hqv] at hsn; refine WQ.again (i + 1, v9, some (vs ++ [y], r')) ⟨rfl, rfl, rfl, rfl, trivial⟩ ⟨by show i + 1 ≤ m; omega, k9, hone9, hsn, h9, (fun b => q b ∨ (w3.heap.size ≤ b ∧ b < w4.heap.size)), ?_, fun b hb => ?_⟩ (by show m - (i + 1) < m - i; omega)
          · exact ho9.keep (Keep.refl (fun _ => True) w9) (fun _ _ => trivial) (fun b hb => by omega) fun x cs hx => hx.keep hg9.1 (fun b hb _ => (hq9 b hb).2) fun b hb => hb
          · obtain ⟨e1, e2, e3⟩ := hq9 b hb
            exact ⟨e1, by omega, fun e => (hg9.2 b e).elim e3 fun h4 => by omega⟩
      · obtain rfl : i = m := by omega
        rw [hqi]; refine K.kgo ?_; exact WQ.ret1 rfl rfl ⟨v, rfl, ho.one, ⟨⟨q, ho, fun b hb => ⟨(hq b hb).1, (hq b hb).2.1⟩⟩, hr⟩, hk⟩
end K
end Go.Proofs.YtpfkcfaifleliaaGreat

namespace Go.Proofs.YtpfkcfaifleliaaGreat
open Go.RowKit
namespace K
theorem rreadS_any {w : World} {v : Value} {l : List Int} (hv : Sl .u8 w v l) (hb : Frm.Byt l) :
    Calls Tryz.prog 93 #[v] w fun e w' => e = .returned (.tuple (rsV l).toArray) ∧ Below w.heap.size w w' := by
  obtain ⟨sp, cap, rfl, h1, h2, -⟩ := id hv; refine enter (args := [.slice sp l.length cap]) Tryz.func93 rfl Tryz.ntmps93 rfl ?_; unfold rsV
  by_cases h : l.length < 4
  · rw [if_pos h]
    refine K.kgo ?_; exact WQ.ret2 rfl rfl rfl ⟨rfl, Below.refl _ _⟩
  rw [if_neg h]; have hfin := num4_nth (by omega) hb; have a0 := hb _ (nth_mem' l 0 (by omega)); have a1 := hb _ (nth_mem' l 1 (by omega)); have a2 := hb _ (nth_mem' l 2 (by omega)); have a3 := hb _ (nth_mem' l 3 (by omega)); have h32 := four32 _ _ _ _ a0 a1 a2 a3; rw [hfin] at h32; clear hfin a0 a1 a2 a3; refine K.kgo ?_; refine WC.drawn 21 (fun wx => wx.heap = w.heap) fun w2 hd => ?_; have hb2 : Below w.heap.size w w2 := hd.below _; have hS : w2.heap = w.heap := hd.heap; clear hd; refine K.fr [0, 5, 11, 17] hS ?_; refine WD.idxI 1 0 rfl (by kernel_rfl) rfl rfl (fun _ _ _ _ _ h => h) rfl rfl rfl rfl hv rfl rfl (by omega) (.inr hS) fun p0 q0 => ?_; refine K.wl 2 [3, 4, 10, 16, 21, 22, 23] rfl rfl rfl rfl rfl rfl rfl (fun wx hx => (heap_cell hx _).trans q0) hS ?_; refine WD.idxI 6 1 rfl (by kernel_rfl) rfl rfl (fun _ _ _ _ _ h => h) rfl rfl rfl rfl hv rfl rfl (by omega) (.inr hS) fun p1 q1 => ?_; refine K.wl 7 [8, 9, 10, 16, 21, 22, 23] rfl rfl rfl rfl rfl rfl rfl (fun wx hx => (heap_cell hx _).trans q1) hS ?_; refine WD.idxI 12 2 rfl (by kernel_rfl) rfl rfl (fun _ _ _ _ _ h => h) rfl rfl rfl rfl hv rfl rfl (by omega) (.inr hS) fun p2 q2 => ?_; refine K.wl 13 [14, 15, 16, 21, 22, 23] rfl rfl rfl rfl rfl rfl rfl (fun wx hx => (heap_cell hx _).trans q2) hS ?_; refine WD.idxI 18 3 rfl (by kernel_rfl) rfl rfl (fun _ _ _ _ _ h => h) rfl rfl rfl rfl hv rfl rfl (by omega) (.inr hS) fun p3 q3 => ?_; refine K.wl 19 [20, 21, 22, 23] rfl rfl rfl rfl rfl rfl rfl (fun wx hx => (heap_cell hx _).trans q3) hS ?_; refine K.fr [3, 4, 8, 9, 10, 14, 15, 16, 20] hS ?_; refine K.wo 21 ?_; refine WL.pure rfl rfl rfl rfl ?_; refine WL.as 28 (.int .u32 ((Crc.num4 l : Nat) : Int)) rfl (congrArg (Value.int .u32) h32) ?_; refine K.dl ?_
  (refine K.fzl 22 rfl (q := ?_); refine K.fzl 23 rfl (q := ?_))
  refine WD.done (by kernel_rfl) ?_; refine K.kgo ?_; exact WQ.ret2 rfl rfl rfl ⟨rfl, hb2⟩
end K
end Go.Proofs.YtpfkcfaifleliaaGreat

namespace Go.Proofs.YtpfkcfaifleliaaGreat
open Go.RowKit
namespace K
theorem sl_lh {w0 : World} {sp : Option Addr} {cap : Nat} {k : IntKind} {zs : List Int} (h : Sl k w0 (.slice sp zs.length cap) zs) {i j : Nat} (hij : i ≤ j) (hj : j ≤ zs.length) : Sl k w0 (sliced sp i j cap 1) ((zs.take j).drop i) := by
  obtain ⟨sp', cap', he, hc, hm, hr, h0⟩ := h; obtain ⟨rfl, -, rfl⟩ : sp = sp' ∧ zs.length = zs.length ∧ cap = cap' := by injection he with a b c; exact ⟨a, b, c⟩
  unfold sliced; have hl : ((zs.take j).drop i).length = j - i := by rw [List.length_drop, List.length_take]; omega
  refine ⟨if cap = i then sp else sp.map (·.add (i * 1)), cap - i, by rw [hl], by rw [hl]; omega, by omega, fun hl2 => ?_, fun hn => ?_⟩
  · rw [hl] at hl2
    obtain ⟨b, o, rfl, hb, hrow⟩ := hr (by omega); rw [if_neg (by omega)]; refine ⟨b, o + i, by simp [Addr.add_mid], hb, fun q hq => ?_⟩; rw [hl] at hq; have := hrow (i + q) (by omega); rw [show o + i + q = o + (i + q) by omega, this]; simp [nth, List.getD_eq_getElem?_getD, List.getElem?_drop, show i + q < j by omega]
  · by_cases e : cap = i
    · omega
    · rw [if_neg e] at hn
      cases sp with
      | none => have := h0 rfl; omega
      | some p => cases hn
section
variable {n : NN} {Q : Exit → Act → World → Prop} {l : Env} {w : World} {ops : Array Oper} {o : Oper} {rest : List Oper} {d : Nat}
theorem WL.fromto {t e : Nat} {x lo hi : Operand} {v : Value} {k k1 kk : IntKind} {y z : Int} {zs : List Int} {w0 : World} (hg : o.guard = none) (hd : o.dst = some d) (hn : Nat.blt d n.n = true) (ho : o.op = .slice t x (some lo) (some hi) none) (ht : tyOf ty t = some (.slice e 1))
    (hx : evl l x = some v) (hlo : evl l lo = some (.int k1 y)) (hhi : evl l hi = some (.int kk z)) (h0 : 0 ≤ y) (hyz : y ≤ z) (h1 : z ≤ zs.length) (hs : Sl k w0 v zs) (h : ∀ v', Sl k w0 v' ((zs.take z.toNat).drop y.toNat) → WL n ops Q rest ((d, v') :: l) w) : WL n ops Q (o :: rest) l w := by
  have hs0 := hs; obtain ⟨sp, cap, rfl, hc, hm, hr, hn0⟩ := hs; refine WL.step hg hd hn (v := sliced sp y.toNat z.toNat cap 1) (fun a ha => ?_) (h _ (sl_lh hs0 (by omega) (by omega))); obtain ⟨hu, hsz⟩ := TyOk.of tyOk ht; have he : Tryz.prog.elem t = e := by simp [Program.elem, hu]
  have hu' : Tryz.prog.underlying t = some (.slice (Tryz.prog.elem t)) := by rw [he]; exact hu
  have hs : (sizeOf e).run Tryz.prog w = .ok 1 w := by
    cases hq : Tryz.prog.info? e with
    | none => rw [hq] at hsz; cases hsz
    | some q => rw [hq] at hsz; simp at hsz; simp [sizeOf, typeInfo, hq, hsz]
  unfold execOp; rw [ho]; simp [ha.eval hx, ha.eval hlo, ha.eval hhi, run_sliceAt_slice w t _ _ _ _ hu', run_slice_lh w t sp zs.length cap hu' k1 kk y z h0 hyz (by omega), he, hs]
end
set_option maxHeartbeats 1000000 in
theorem rfdec_any {w : World} {v : Value} {l : List Int} (hv : Sl .u8 w v l) (hb : Frm.Byt l) (hl : l.length ≤ 140737488355328) : Calls Tryz.prog 63 #[v] w (FdcOut w l) := by
  obtain ⟨sp, cap, rfl, h1, h2, -⟩ := id hv; refine enter (args := [.slice sp l.length cap]) Tryz.func63 rfl Tryz.ntmps63 rfl ?_
  by_cases c8 : l.length < 8
  · have e2 : Frm.decF l = (2, [], 0) := by unfold Frm.decF; rw [if_pos c8]
    refine K.kgo ?_; exact WQ.ret3w rfl rfl rfl rfl (FdcOut.bad e2 (Below.refl _ _))
  have hbd : Frm.Byt (l.drop 4) := fun c hc => hb c (List.mem_of_mem_drop hc); have hn := Crc.num4_lt l hb; have hm := Crc.num4_lt _ hbd; have hcs := Crc.crcN_lt (Crc.be4 (Crc.num4 l)); have h4 : l.take 4 = Crc.be4 (Crc.num4 l) := by
    have := be4_split (l := l) (by omega) hb
    conv => lhs; rw [this]
    rfl
  have hdef : Frm.decF l = (if Crc.num4 (l.drop 4) ≠ Crc.crcN (Crc.be4 (Crc.num4 l)) then (4, [], 0)
    else if 524288 < Crc.num4 l then (5, [], 0)
    else if l.length < Crc.num4 l + 12 then (2, [], 0)
    else if Crc.num4 (l.drop (8 + Crc.num4 l)) ≠ Crc.crcN (l.take (8 + Crc.num4 l)) then (4, [], 0)
    else (0, (l.take (8 + Crc.num4 l)).drop 8, Crc.num4 l + 12)) := by
    conv => lhs; unfold Frm.decF
    rw [if_neg c8]
  have e1 : rsV l = [.int .u32 (Crc.num4 l : Nat), .int .i64 0] := by unfold rsV; rw [if_neg (by omega)]
  have e3 : rsV (l.drop 4) = [.int .u32 (Crc.num4 (l.drop 4) : Nat), .int .i64 0] := by unfold rsV; rw [if_neg (by rw [List.length_drop]; omega)]
  refine K.kgo ?_; refine WL.call rfl rfl rfl rfl rfl Tryz.func93 rfl (by kernel_rfl) (rreadS_any hv hb) ?_; rintro _ w1 ⟨rfl, k1⟩; refine ⟨_, rfl, ?_⟩; rw [e1]; generalize hN : Crc.num4 l = N at hn hcs hdef h4 ⊢; generalize hM : Crc.num4 (l.drop 4) = M at hm hdef e3 ⊢; refine K.kgo ?_; refine WL.from rfl rfl rfl rfl rfl rfl rfl (by omega) (by omega) (hv.of_below k1) fun v2 hv2 => ?_
  rw [show (4 : Int).toNat = 4 from rfl] at hv2; refine WL.call rfl rfl rfl rfl rfl Tryz.func93 rfl (by kernel_rfl) (rreadS_any hv2 hbd) ?_; rintro _ w2 ⟨rfl, k2⟩; refine ⟨_, rfl, ?_⟩; rw [e3]; have hw2 : Below w.heap.size w w2 := k1.trans (k2.mono k1.size); have hv22 := hv.of_below hw2; clear k1 k2 hv2; refine K.kgo ?_; refine WL.upto rfl rfl rfl rfl rfl rfl rfl (by omega) (by omega) hv22 fun v3 hv3 => ?_; rw [show (4 : Int).toNat = 4 from rfl, h4] at hv3; refine WL.call rfl rfl rfl rfl rfl Tryz.func52 rfl (by kernel_rfl) (rsum_any hv3 (Crc.be4_byt _) (by show 4 ≤ _; omega)) ?_; rintro _ _ ⟨rfl, rfl⟩; refine ⟨_, rfl, ?_⟩; generalize hC : Crc.crcN (Crc.be4 N) = C at hcs hdef ⊢
  by_cases c1 : ¬ M = C
  · rw [if_pos c1] at hdef
    refine K.kgo ?_; exact WQ.ret3w rfl rfl rfl rfl (FdcOut.bad hdef hw2)
  rw [if_neg c1] at hdef; replace c1 : M = C := by omega
  by_cases c2 : 524288 < N
  · rw [if_pos c2] at hdef
    refine K.kgo ?_; exact WQ.ret3w rfl rfl rfl rfl (FdcOut.bad hdef hw2)
  rw [if_neg c2] at hdef
  by_cases c3 : l.length < N + 12
  · rw [if_pos c3] at hdef
    refine K.kgo ?_; exact WQ.ret3w rfl rfl rfl rfl (FdcOut.bad hdef hw2)
  rw [if_neg c3] at hdef; have hz3 : ((8 : Int) + (N : Int)).toNat = 8 + N := by omega
  have hbd4 : Frm.Byt (l.drop (8 + N)) := fun c hc => hb c (List.mem_of_mem_drop hc); have e4 : rsV (l.drop (8 + N)) = [.int .u32 (Crc.num4 (l.drop (8 + N)) : Nat), .int .i64 0] := by unfold rsV; rw [if_neg (by rw [List.length_drop]; omega)]
  have hl3 : (l.take (8 + N)).length = 8 + N := by rw [List.length_take]; omega
  have hbt : Frm.Byt (l.take (8 + N)) := fun c hc => hb c (List.mem_of_mem_take hc); refine K.kgo ?_; refine WL.from rfl rfl rfl rfl rfl rfl rfl (by omega) (by omega) hv22 fun v4 hv4 => ?_
  rw [hz3] at hv4; refine WL.call rfl rfl rfl rfl rfl Tryz.func93 rfl (by kernel_rfl) (rreadS_any hv4 hbd4) ?_; rintro _ w3 ⟨rfl, k3⟩; refine ⟨_, rfl, ?_⟩; rw [e4]; have hw3 : Below w.heap.size w w3 := hw2.trans (k3.mono hw2.size); have hv33 := hv.of_below hw3; clear k3 hv4 hv22; refine K.kgo ?_; refine WL.upto rfl rfl rfl rfl rfl rfl rfl (by omega) (by omega) hv33 fun v5 hv5 => ?_; rw [hz3] at hv5; refine WL.call rfl rfl rfl rfl rfl Tryz.func52 rfl (by kernel_rfl) (rsum_any hv5 hbt (by omega)) ?_; rintro _ w3 ⟨rfl, rfl⟩; refine ⟨_, rfl, ?_⟩; generalize Crc.num4 (l.drop (8 + N)) = x at hdef ⊢; generalize Crc.crcN (l.take (8 + N)) = y at hdef ⊢
  by_cases c4 : x ≠ y
  · rw [if_pos c4] at hdef
    refine K.kgo ?_; exact WQ.ret3w rfl rfl rfl rfl (FdcOut.bad hdef hw3)
  rw [if_neg c4] at hdef; have hl5 : ((l.take (8 + N)).drop 8).length = N := by rw [List.length_drop]; omega
  refine K.kgo ?_; refine WL.empty rfl rfl rfl rfl rfl fun g6 w6 hf0 => ?_; have hf6 : Fresh w3 g6 w6 5 [] := hf0; clear hf0; have hg6 : w3.heap.size ≤ g6 := by rw [hf6.eq]; exact Nat.le_refl _
  have hv36 := hv33.of_below hf6.below; refine K.kgo ?_; refine WL.fromto rfl rfl rfl rfl rfl rfl rfl rfl (by omega) (by omega) (by omega) hv36 fun v7 hv7 => ?_; rw [hz3, show (8 : Int).toNat = 8 from rfl] at hv7; refine WL.app rfl rfl rfl rfl rfl (Bu.ofFresh hf6) rfl hv7 (by simp only [List.length_nil]; omega) fun b8 w8 q8 g8 => ?_; have hk8 : Below w3.heap.size w3 w8 := hf6.below.trans (g8.old hf6.below.size fun g hg => by cases hg; exact hg6); have ho8 : ∀ g, b8.ownBlock = some g → w3.heap.size ≤ g := g8.own hf6.below.size fun g hg => by cases hg; exact hg6
  rw [List.nil_append] at q8; refine K.kgo ?_; refine WQ.ret3w rfl rfl rfl rfl ?_; unfold FdcOut; rw [hdef]; refine ⟨b8, ?_, q8, hw3.trans (hk8.mono hw3.size), fun g hg => Nat.le_trans hw3.size (ho8 g hg)⟩; have hfin : (8 : Int) + (N : Int) + 4 = ((N + 12 : Nat) : Int) := by omega
  show Ending.returned (.tuple #[b8, .int .i64 ((8 : Int) + (N : Int) + 4), .int .i64 0]) = _
  rw [hfin]
end K
end Go.Proofs.YtpfkcfaifleliaaGreat

namespace Go.Proofs.YtpfkcfaifleliaaGreat
open Go.RowKit
namespace K
theorem qR_M {m lo hi : Int} {P : List Int} (h : lo ≤ nth P 1 ∧ nth P 1 ≤ hi) : qR m lo hi P = qM m P := by
  match P with
  | [] => exact if_neg (fun q => by have := q.1; simp at this)
  | [a] => exact if_neg (fun q => by have := q.1; simp at this)
  | a :: b :: r =>
    by_cases ha : a = m
    · have e2 : qM m (a :: b :: r) = some r := if_pos ha
      rw [e2]; exact if_pos ⟨by simp, ha, h⟩
    · have e2 : qM m (a :: b :: r) = none := if_neg ha
      rw [e2]; exact if_neg fun q => ha q.2.1
theorem qR_no {m lo hi : Int} {P : List Int} (h : ¬ (lo ≤ nth P 1 ∧ nth P 1 ≤ hi)) : qR m lo hi P = none := if_neg fun q => h q.2.2
theorem rq5_fin {P : List Int} {o2 o3 o4 o5 o6 : Ro} {m : Nat} (h2 : o2 = qR 81 1 20 P) (h3 : o3 = (qUp 9007199254740992 o2).2) (h4 : o4 = (qNums o3).2) (hm : m = (qUp 4096 o4).1) (h5 : o5 = (qUp 4096 o4).2) (h6 : o6 = (qT m o5).2) :
    (∃ vs r, qVals 40 o6 = some (vs, r) ∧ r.length = 32 ∧ rdRq P = some ⟨nth P 1, (qUp 9007199254740992 o2).1, (qNums o3).1, strOfNums (qT m o5).1, vs, r⟩ ∧ o2 ≠ none ∧ o4 ≠ none ∧ o6 ≠ none) ∨ (rdRq P = none ∧ (qT 32 (qE (qVals 40 o6))).2 ≠ some []) := by
  by_cases hk : 1 ≤ nth P 1 ∧ nth P 1 ≤ 20
  · rw [qR_M hk] at h2
    subst h2 h3 h4 hm h5 h6; unfold rdRq; cases hV : qVals 40 (qT (qUp 4096 (qNums (qUp 9007199254740992 (qM 81 P)).2).2).1 (qUp 4096 (qNums (qUp 9007199254740992 (qM 81 P)).2).2).2).2 with
    | none => exact .inr ⟨rfl, fun h => by cases h⟩
    | some p =>
      obtain ⟨vs, r⟩ := p; simp only
      by_cases hl : r.length = 32
      · rw [if_pos ⟨hl, hk⟩]
        refine .inl ⟨vs, r, rfl, hl, rfl, fun e => ?_, fun e => ?_, fun e => ?_⟩
        · rw [e, qUp_none, qNums_none, qUp_none, show (qT 0 none).2 = none from rfl, qVals_none] at hV
          cases hV
        · rw [e, qUp_none, show (qT 0 none).2 = none from rfl, qVals_none] at hV
          cases hV
        · rw [e, qVals_none] at hV
          cases hV
      · rw [if_neg fun q => hl q.1]
        refine .inr ⟨rfl, fun h => ?_⟩; change (if r.length < 32 then (([], none) : List Int × Ro) else (r.take 32, some (r.drop 32))).2 = some [] at h
        split at h
        · cases h
        · have := congrArg List.length (Option.some.inj h)
          rw [List.length_drop, List.length_nil] at this; omega
  · rw [qR_no hk] at h2
    subst h2; rw [qUp_none] at h3; subst h3; rw [qNums_none] at h4; subst h4; rw [qUp_none] at hm h5; subst hm h5; have h6 : o6 = none := h6; subst h6; rw [qVals_none]; refine .inr ⟨?_, fun h => by cases h⟩; unfold rdRq; cases qVals 40 (qT (qUp 4096 (qNums (qUp 9007199254740992 (qM 81 P)).2).2).1 (qUp 4096 (qNums (qUp 9007199254740992 (qM 81 P)).2).2).2).2 with
    | none => rfl
    | some p => exact if_neg fun q => hk q.2
theorem ropen_ok {w : World} {v : Value} {P : List Int} (hv : Sl .u8 w v (Frm.frameL P)) (hb : Frm.Byt P) (hl : P.length ≤ 524288) :
    Calls Tryz.prog 37 #[v] w fun e w' => ∃ rb, e = .returned (.tuple #[.pointer (some ⟨rb, 0, none⟩), .int .i64 0]) ∧ WR5 w'.heap.size w' rb P ∧ Below w.heap.size w w' ∧ w.heap.size ≤ rb := by
  have hFl := Frm.frameL_len P; have hFb : Frm.Byt (Frm.frameL P) := fun c hc => by
    unfold Frm.frameL Frm.headF at hc; rcases List.mem_append.1 hc with h | h
    · exact (List.mem_append.1 h).elim (Crc.be4_byt _ c) (Crc.be4_byt _ c)
    · exact (List.mem_append.1 h).elim (hb c) (Crc.be4_byt _ c)
  have hdec : Frm.decF (Frm.frameL P) = (0, P, P.length + 12) := by
    have := Frm.decF_enc hl []
    rwa [List.append_nil] at this
  generalize Frm.frameL P = F at hv hFl hFb hdec; obtain ⟨sp, cap, rfl, -⟩ := id hv; refine enter (args := [.slice sp F.length cap]) Tryz.func37 rfl Tryz.ntmps37 rfl ?_; refine K.kgo ?_; refine WL.call rfl rfl rfl rfl rfl Tryz.func63 rfl (by kernel_rfl) (rfdec_any hv hFb (by omega)) ?_; rintro _ w1 ⟨b, rfl, q1, k1, o1⟩; refine ⟨_, rfl, ?_⟩; have d1 : (Frm.decF F).1 = 0 := by rw [hdec]
  have d2 : (Frm.decF F).2.1 = P := by rw [hdec]
  have d3 : (Frm.decF F).2.2 = P.length + 12 := by rw [hdec]
  rw [d2] at q1; rw [d1, d3]; obtain ⟨spb, capb, rfl, -⟩ := id q1.form; have hF' : ((P.length + 12 : Nat) : Int) = (F.length : Int) := by omega
  refine K.kgo ?_; refine WL.build [.slice spb P.length capb, .bool false] rfl rfl rfl rfl rfl (by kernel_rfl) ?_; refine WL.box rfl rfl rfl rfl rfl fun g w2 hf0 => ?_; have hf : Fresh w1 g w2 129 [.slice spb P.length capb, .bool false] := hf0; clear hf0; have hge := hf.eq; have hgs := hf.size; have q2 := q1.below hf.below; have T := hf.blk; have k2 : Below w.heap.size w w2 := k1.trans (hf.below.mono k1.size); refine K.kgo ?_; refine WQ.ret2 rfl rfl rfl ⟨g, rfl, ⟨by omega, hb, ?_⟩, k2, by have := k1.size; omega⟩; have hob : (Value.slice spb P.length capb).ownBlock ≠ some g := fun e => by have := q1.lt _ e; omega
  exact ⟨spb, capb, T, q2.sl, fun h0 b' o' s' n' c' e => by
    injection e with e1 _ _
    subst e1; have : (Value.slice (some ⟨b', o', s'⟩) P.length capb).ownBlock = some b' := rfl; exact ⟨q2.lt _ this, fun e => hob (by rw [this, e])⟩⟩
section
variable {T B rb gx : Nat} {w0 w w' : World} {o o' : Ro} {cells cells' : List Value}
end
end K
end Go.Proofs.YtpfkcfaifleliaaGreat

namespace Go.Proofs.YtpfkcfaifleliaaGreat
open Go.RowKit
namespace K
structure ESt (T B rb gx S4 : Nat) (w0 w : World) (rest : Ro) (cells : List Value) (nv : Value) (ns : List Int) (pv : Value) (vs : List V) : Prop where
  r : WX5 B w rb rest
  hBg : B ≤ gx
  hg : gx < S4
  hs : S4 ≤ w.heap.size
  w0r : w0.heap.size ≤ rb
  x : VBlk T w gx cells
  n : OwnE 3 1 0 intP (fun b => S4 ≤ b) w nv ns
  v : ∃ q : Nat → Prop, OwnE 82 6 noV (IsVo q 17 w) (fun b => S4 ≤ b) w pv vs ∧ ∀ b, q b → S4 ≤ b ∧ b < w.heap.size
  below : Below w0.heap.size w0 w
section
variable {T B rb gx S4 : Nat} {w0 w w' : World} {rest rest' : Ro} {cells cells' : List Value} {nv : Value} {ns : List Int} {pv : Value} {vs : List V}
theorem ESt.rg (s : ESt T B rb gx S4 w0 w rest cells nv ns pv vs) : rb < gx := Nat.lt_of_lt_of_le s.r.rlt s.hBg
theorem ESt.keep (s : ESt T B rb gx S4 w0 w rest cells nv ns pv vs) {K : Nat → Prop} (k : Keep K w w') (hK : ∀ b, b < w.heap.size → b ≠ rb → b ≠ gx → K b) (r' : WX5 B w' rb rest') (x' : VBlk T w' gx cells') : ESt T B rb gx S4 w0 w' rest' cells' nv ns pv vs := by
  have h1 := s.rg; have h2 := s.hg; have h3 := s.w0r; have h4 := s.hs; refine ⟨r', s.hBg, s.hg, Nat.le_trans s.hs k.size, s.w0r, x', s.n.keep k (fun g hg => hK g (s.n.lt hg) (by have := s.n.own hg; omega) (by have := s.n.own hg; omega)) (fun _ h => h) fun _ _ h => h, ?_, ?_⟩
  · obtain ⟨q, ho, hq⟩ := s.v
    refine ⟨q, ho.keep k (fun g hg => hK g (ho.lt hg) (by have := ho.own hg; omega) (by have := ho.own hg; omega)) (fun _ h => h) fun y cs hy => hy.keep k (fun b hb _ => hK b (hq b hb).2 (by have := (hq b hb).1; omega) (by have := (hq b hb).1; omega)) fun b hb => hb, fun b hb => ⟨(hq b hb).1, by have := (hq b hb).2; have := k.size; omega⟩⟩
  · exact s.below.trans (Keep.below (k.mono fun b hb => hK b (by omega) (by omega) (by omega)))
theorem ESt.call (s : ESt T B rb gx S4 w0 w rest cells nv ns pv vs) (r' : WX5 B w' rb rest') (k : KeepR rb w w') : ESt T B rb gx S4 w0 w' rest' cells nv ns pv vs :=
  s.keep k (fun b h1 h2 _ => ⟨h1, h2⟩) r' (s.x.keep k ⟨s.x.lt, by have := s.rg; omega⟩)
theorem ESt.put (s : ESt T B rb gx S4 w0 w rest cells nv ns pv vs) (i : Nat) (u : Value) : ESt T B rb gx S4 w0 (w.setCell ⟨gx, i, none⟩ u) rest (cells.set i u) nv ns pv vs :=
  s.keep (K := fun b => b ≠ gx) ((Keep.refl _ w).setCell (fun hk => hk rfl) _) (fun b _ _ h => h) (s.r.keep (K := fun b => b ≠ gx) ((Keep.refl _ w).setCell (fun hk => hk rfl) _) fun b hb => by have := s.hBg; omega) (s.x.set i u)
theorem ESt.row (s : ESt T B rb gx S4 w0 w rest cells nv ns pv vs) (cs : List Value) : ESt T B rb gx S4 w0 (w.setRow gx cs.toArray) rest cs nv ns pv vs :=
  s.keep (K := fun b => b ≠ gx) (Keep.setRow (Keep.refl _ w) (fun hk => hk rfl) _) (fun b _ _ h => h) (s.r.keep (K := fun b => b ≠ gx) (Keep.setRow (Keep.refl _ w) (fun hk => hk rfl) _) fun b hb => by have := s.hBg; omega) (s.x.setRow cs)
theorem ESt.down (s : ESt T B rb gx S4 w0 w rest cells nv ns pv vs) (k : Below w.heap.size w w') : ESt T B rb gx S4 w0 w' rest cells nv ns pv vs :=
  s.keep (Keep.of_below k) (fun b h _ _ => h) (s.r.keep (Keep.of_below k) fun b hb => by have := s.hBg; have := s.hg; have := s.hs; omega) (s.x.below k s.x.lt)
end
set_option maxHeartbeats 4000000 in
theorem rdec_ok {w : World} {v : Value} {P : List Int} {r : Rq} (hv : Sl .u8 w v (Frm.frameL P)) (hby : Frm.Byt P) (hlen : P.length ≤ 524288) (hn : rdRq P = some r) : Calls Tryz.prog 18 #[v] w (RqDec w r) := by
  obtain ⟨o2, h2⟩ : ∃ o, o = qR 81 1 20 P := ⟨_, rfl⟩; obtain ⟨o3, h3⟩ : ∃ o, o = (qUp 9007199254740992 o2).2 := ⟨_, rfl⟩; obtain ⟨o4, h4⟩ : ∃ o, o = (qNums o3).2 := ⟨_, rfl⟩; obtain ⟨sq, hsq⟩ : ∃ q : Nat, q = (qUp 9007199254740992 o2).1 := ⟨_, rfl⟩; obtain ⟨m, hm⟩ : ∃ q : Nat, q = (qUp 4096 o4).1 := ⟨_, rfl⟩; obtain ⟨o5, h5⟩ : ∃ q, q = (qUp 4096 o4).2 := ⟨_, rfl⟩; obtain ⟨o6, h6⟩ : ∃ q, q = (qT m o5).2 := ⟨_, rfl⟩; rcases rq5_fin h2 h3 h4 hm h5 h6 with ⟨vs, r0, hV, hr32, hr, n2, n4, n6⟩ | ⟨hno, -⟩
  rotate_left
  · rw [hn] at hno; cases hno
  rw [hn] at hr; obtain rfl := Option.some.inj hr; clear hr hn; rw [← hsq]; have hmle := qUp_le 4096 o4; rw [← hm] at hmle; have hTl := qT_ok (n := 32) (o := some r0) (t := r0) (r := []) (by
    show (if r0.length < 32 then (([], none) : List Int × Ro) else (r0.take 32, some (r0.drop 32))) = (r0, some [])
    rw [if_neg (by omega), List.take_of_length_le (by omega), List.drop_of_length_le (by omega)])
  have hT32 : qT 32 (some r0) = (r0, some []) := by
    show (if r0.length < 32 then (([], none) : List Int × Ro) else (r0.take 32, some (r0.drop 32))) = (r0, some [])
    rw [if_neg (by omega), List.take_of_length_le (by omega), List.drop_of_length_le (by omega)]
  clear hTl; refine enter (args := [v]) Tryz.func18 rfl Tryz.ntmps18 rfl ?_; refine K.kgn ?_; refine WL.alloc (z := .agg zReq.toArray) rfl rfl rfl rfl (fun _ => by kernel_rfl) fun g1 w1 hf0 => ?_; have hf1 : Fresh w g1 w1 71 zReq := hf0; clear hf0; have hB1 := hf1.below; have hg1 := hf1.eq; have hz1 := hf1.size; have T1 := hf1.blk; clear hf1; refine K.kgo ?_; refine WL.call rfl rfl rfl rfl rfl Tryz.func37 rfl (by kernel_rfl) (ropen_ok (hv.of_below hB1) hby hlen) ?_; rintro _ w2 ⟨rb, rfl, hr2, k2, hrb⟩; refine ⟨_, rfl, ?_⟩; clear hlen hv; have hz2 := k2.size; refine K.kgo ?_; refine WL.alloc (z := .agg zReq.toArray) rfl rfl rfl rfl (fun _ => by kernel_rfl) fun gx w3 hf0 => ?_; have hf3 : Fresh w2 gx w3 71 zReq := hf0; clear hf0; have hgx := hf3.eq; have hz3 := hf3.size; have s3 : ESt 71 w2.heap.size rb gx w3.heap.size w1 w3 (some P) zReq (.slice none 0 0) [] (.slice none 0 0) [] :=
    ⟨WX5.keep (o := some P) hr2 (Keep.of_below hf3.below) fun b hb => hb, by omega, by omega, Nat.le_refl _, hrb, hf3.blk, OwnE.nil _ _ _ _ _ _, ⟨fun _ => False, OwnE.nil _ _ _ _ _ _, fun b hb => hb.elim⟩, k2.trans (hf3.below.mono hz2)⟩
  clear hf3 hr2 k2; have hrg := s3.rg; refine K.kgo ?_; refine WL.call rfl rfl rfl rfl rfl Tryz.func38 rfl (by kernel_rfl) (begin5_x s3.r (by have := s3.hg; have := s3.hBg; omega) (by omega)) ?_; rintro _ w4 ⟨kd, nv, ns, rfl, hkd, hN, hns, hr, kk⟩; refine ⟨_, rfl, ?_⟩; have hnv := hN.one; rw [← h2, ← h3, ← h4] at hr; rw [← h2] at hkd ⊢; rw [← h2, ← h3, ← h4] at hns; obtain rfl := hkd n2; obtain rfl := hns n4; clear hkd hns; rw [← hsq]; have s4' := s3.call hr kk; have s4 : ESt 71 w2.heap.size rb gx w3.heap.size w1 w4 o4 zReq nv (qNums o3).1 (.slice none 0 0) [] :=
    { s4' with n := hN }
  clear s3 s4' hr kk hN; generalize hkd : nth P 1 = kd; generalize hns : (qNums o3).1 = ns at s4; refine K.kgo ?_; refine WL.store (v := .int .i64 kd) rfl rfl rfl rfl rfl rfl (by kernel_rfl) (s4.x.cell 0 (by simp [zReq, reqC])) (s4.x.free 0) ?_; have s5 := s4.put 0 (.int .i64 kd); generalize w4.setCell ⟨gx, 0, none⟩ (.int .i64 kd) = w5 at s5 ⊢; clear s4; refine K.kgo ?_; refine WL.store (v := .int .i64 sq) rfl rfl rfl rfl rfl rfl (by kernel_rfl) (s5.x.cell 1 (by simp [zReq, reqC])) (s5.x.free 1) ?_; have s6 := s5.put 1 (.int .i64 sq); generalize w5.setCell ⟨gx, 1, none⟩ (.int .i64 sq) = w6 at s6 ⊢; clear s5; refine K.kgo ?_; refine WL.store (v := nv) rfl rfl rfl rfl rfl hnv (by kernel_rfl) (s6.x.cell 2 (by simp [zReq, reqC])) (s6.x.free 2) ?_; have s7 := s6.put 2 nv; generalize w6.setCell ⟨gx, 2, none⟩ nv = w7 at s7 ⊢; clear s6; refine K.kgo ?_; refine WL.call rfl rfl rfl rfl rfl Tryz.func40 rfl (by kernel_rfl) (count5_x 4096 s7.r (by omega)) ?_; rintro _ w8 ⟨rfl, hr, kk⟩; refine ⟨_, rfl, ?_⟩; rw [← h5] at hr; rw [← hm]; have s8 := s7.call hr kk; clear s7 hr kk; refine WL.call rfl rfl rfl rfl rfl Tryz.func39 rfl (by kernel_rfl) (raw5_x m s8.r (by have := s8.hg; have := s8.hBg; have := s8.hs; omega) (by omega)) ?_; rintro _ w9 ⟨tv, L, rfl, htv, -, hL, hr, kk⟩; refine ⟨_, rfl, ?_⟩; rw [← h6, if_neg n6] at hL; rw [← h6] at hr; subst hL; have s9 := s8.call hr kk; clear s8 hr kk; refine WL.strOf rfl rfl rfl rfl rfl rfl rfl rfl htv ?_; clear htv; generalize htx : strOfNums (qT m o5).1 = tx; refine K.kgo ?_; refine WL.store (v := .string tx) rfl rfl rfl rfl rfl rfl (by kernel_rfl) (s9.x.cell 3 (by simp [zReq, reqC])) (s9.x.free 3) ?_; have s10 := s9.put 3 (.string tx); generalize w9.setCell ⟨gx, 3, none⟩ (.string tx) = w10 at s10 ⊢; clear s9; refine K.kgo ?_; refine WL.call rfl rfl rfl rfl rfl Tryz.func41 rfl (by kernel_rfl) (values5_x 40 s10.r (by have := s10.hg; have := s10.hBg; have := s10.hs; omega) (by omega)) ?_; rintro _ w11 ⟨pv, rfl, hpv, hr, kk⟩; refine ⟨_, rfl, ?_⟩; rw [hV] at hr; obtain ⟨⟨q, hO, hq⟩, hr⟩ := hr; have s11' := s10.call hr kk; have s11 : ESt 71 w2.heap.size rb gx w3.heap.size w1 w11 (some r0) ((((zReq.set 0 (.int .i64 kd)).set 1 (.int .i64 sq)).set 2 nv).set 3 (.string tx)) nv ns pv vs :=
    { s11' with v := ⟨q, hO.keep (Keep.refl (fun _ => True) w11) (fun _ _ => trivial) (fun b hb => by have := s10.hs; omega) fun _ _ h => h, fun b hb => ⟨by have := (hq b hb).1; have := s10.hs; omega, (hq b hb).2⟩⟩ }
  clear s10 s11' hr kk hO hq; refine K.kgo ?_; refine WL.store (v := pv) rfl rfl rfl rfl rfl hpv (by kernel_rfl) (s11.x.cell 4 (by simp [zReq, reqC])) (s11.x.free 4) ?_; have s12 := s11.put 4 pv; generalize w11.setCell ⟨gx, 4, none⟩ pv = w12 at s12 ⊢; clear s11; refine K.kgo ?_; refine WC.drawn 4 (fun _ => True) fun w13 hd => ?_; have s13 := s12.down (hd.below _); clear s12 hd; have hS : True := trivial; refine K.fr [0] hS ?_; refine WD.all 1 rfl (by kernel_rfl) rfl rfl (fun _ _ _ _ _ h => h) rfl rfl rfl rfl (.inr hS) ?_; refine K.fr [2] hS ?_; refine K.wo 3 ?_; refine WL.call rfl rfl rfl rfl rfl Tryz.func39 rfl (by kernel_rfl) (raw5_x 32 s13.r (by have := s13.hg; have := s13.hBg; have := s13.hs; omega) (by omega)) ?_; rintro _ w14 ⟨hv, L, rfl, hhv, -, hL, hr, kk⟩; refine ⟨_, rfl, ?_⟩; rw [hT32] at hL hr; rw [if_neg (fun h => by cases h)] at hL; have hL : L = r0 := hL; subst hL; have s14 := s13.call hr kk; clear s13 hr kk; refine K.di hS ?_; refine K.wo 4 ?_; refine WL.copy rfl rfl rfl rfl rfl rfl hhv (by omega) s14.x (by simp [zReq, reqC]) ?_; refine K.dl ?_; refine WD.done (by kernel_rfl) ?_; have hcp : (((((zReq.set 0 (.int .i64 kd)).set 1 (.int .i64 sq)).set 2 nv).set 3 (.string tx)).set 4 pv).take (0 + 5) ++ L.map (Value.int .u8) ++ (((((zReq.set 0 (.int .i64 kd)).set 1 (.int .i64 sq)).set 2 nv).set 3 (.string tx)).set 4 pv).drop (0 + 5 + L.length) = rqC ⟨kd, sq, ns, tx, vs, L⟩ nv pv := by
    rw [hr32, show (((((zReq.set 0 (.int .i64 kd)).set 1 (.int .i64 sq)).set 2 nv).set 3 (.string tx)).set 4 pv).drop (0 + 5 + 32) = [] from rfl, List.append_nil]
    rfl
  rw [hcp]; have s15 := s14.row (rqC ⟨kd, sq, ns, tx, vs, L⟩ nv pv); generalize w14.setRow gx (rqC ⟨kd, sq, ns, tx, vs, L⟩ nv pv).toArray = w15 at s15 ⊢; clear s14 hcp hhv; obtain ⟨sp19, cap19, hb19, -⟩ := WR5.ex s15.r; have c1 : w15.cell? ⟨rb, 1, none⟩ = some (.bool false) := hb19.cell 1 (by simp); have c0 : w15.cell? ⟨rb, 0, none⟩ = some (.slice sp19 0 cap19) := hb19.cell 0 (by simp); have hlen37 : (rqC ⟨kd, sq, ns, tx, vs, L⟩ nv pv).length = 37 := by simp [rqC, hr32]
  have hones : Ones (rqC ⟨kd, sq, ns, tx, vs, L⟩ nv pv) := by
    intro u hu; unfold rqC at hu; simp only [List.mem_cons, List.mem_map] at hu; rcases hu with rfl | rfl | rfl | rfl | rfl | ⟨a, -, rfl⟩ <;> first | rfl | assumption
  have T19 := T1.below s15.below T1.lt; refine K.kgl ?_; refine WL.loadMid rfl rfl rfl rfl rfl rfl (VBlk.rangeAt s15.x) hlen37 ?_; refine WL.storeRow rfl rfl rfl rfl rfl rfl T19 hlen37 (by rfl) hones ?_; have hset : Keep (fun b => b ≠ g1) w15 (w15.setRow g1 (rqC ⟨kd, sq, ns, tx, vs, L⟩ nv pv).toArray) := Keep.setRow (Keep.refl _ w15) (fun hk => hk rfl) _; have hkw : Below w.heap.size w (w15.setRow g1 (rqC ⟨kd, sq, ns, tx, vs, L⟩ nv pv).toArray) := below_setRow (hB1.trans (s15.below.mono hB1.size)) (by omega) _; have T20 := T19.setRow (rqC ⟨kd, sq, ns, tx, vs, L⟩ nv pv); have hN := s15.n.keep (P' := intP) (O' := fun _ => True) hset (fun g hg => by have := s15.n.own hg; omega) (fun _ _ => trivial) fun _ _ h => h; obtain ⟨q2, hV, hq2⟩ := s15.v; have hV2 := hV.keep (P' := IsVo q2 17 (w15.setRow g1 (rqC ⟨kd, sq, ns, tx, vs, L⟩ nv pv).toArray)) (O' := fun _ => True) hset (fun g hg => by have := hV.own hg; omega) (fun _ _ => trivial) fun y cs hy => hy.keep hset (fun b hb _ => by have := (hq2 b hb).1; omega) fun b hb => hb; generalize w15.setRow g1 (rqC ⟨kd, sq, ns, tx, vs, L⟩ nv pv).toArray = w16 at hkw T20 hN hV2 ⊢; refine K.kgo ?_; exact WQ.retCTw rfl rfl rfl rfl hlen37 T20 ⟨nv, pv, rfl, hkw, intP_sl hN.els, elsV hV2.els⟩
end K
end Go.Proofs.YtpfkcfaifleliaaGreat

namespace Go.Proofs.YtpfkcfaifleliaaGreat
open Go.RowKit
namespace K
section
variable {n : NN} {Q : Exit → Act → World → Prop} {l : Env} {w w' : World} {ops : Array Oper} {o : Oper} {rest : List Oper} {d : Nat}
theorem WL.tail1 {t e g off len cap : Nat} {x lo : Operand} {k1 : IntKind} (hg : o.guard = none) (hd : o.dst = some d) (hn : Nat.blt d n.n = true) (ho : o.op = .slice t x (some lo) none none) (ht : tyOf ty t = some (.slice e 1))
    (hx : evl l x = some (.slice (some ⟨g, off, none⟩) len cap)) (hlo : evl l lo = some (.int k1 1)) (h1 : 1 ≤ len)
    (h : WL n ops Q rest ((d, .slice (some ⟨g, if cap = 1 then off else off + 1, none⟩) (len - 1) (cap - 1)) :: l) w) : WL n ops Q (o :: rest) l w :=
  WL.step hg hd hn (fun a ha => by
    obtain ⟨hu', hs⟩ := sliceT ht w; unfold execOp; rw [ho]; have hr := run_slice_l w t (some ⟨g, off, none⟩) len cap hu' k1 1 (by omega) (by omega); simp only [ha.eval hx, ha.eval hlo, Option.map_some, Option.map_none, run_sliceAt_slice w t _ _ _ _ hu', hr, Sem.run_bind, hs, Result.andThen_ok, Sem.run_pure]; unfold sliced
    by_cases hc : cap = 1
    · simp [hc]
    · simp [hc, Addr.add_mid]) h
end
end K
namespace Cl
open K
set_option maxRecDepth 100000
variable {w : World} {cb : Nat}
def rq1 (seq : Nat) : Rq := ⟨1, seq, [], ByteArray.mk #[], [], z32⟩
abbrev opT : Nat := 60
theorem rq1_ok {k : Nat} (h : k ≤ 9007199254740992) : rqE (rq1 k) = 0 := by
  unfold rqE rq1; rw [if_neg (by simp; omega), if_neg (by simp; decide)]
  rfl
theorem rq1_len (k : Nat) : (rqB (rq1 k)).length ≤ 200 := by
  unfold rqB rq1; have h1 := headB_len 81 1 k [] (by simp); have h2 := uvB_lenw (ByteArray.mk #[]).size; have h3 : (valsB []).length ≤ 10 := by unfold valsB; rw [List.length_append]; have := uvB_lenw ([] : List V).length; simp [vlB]; omega
  have h4 : (bytesI (ByteArray.mk #[])).length = 0 := by rw [bytesI_len]; rfl
  simp only [List.length_append, Int.toNat_natCast, z32, List.length_replicate] at *; omega
theorem begins_new {jb : Nat} {c : Cli} {j : Jb} (h : VBlk clT w cb (clC c)) (hj : VBlk jbT w jb (jbC j)) (hn : c.now = some ⟨jb, 0, none⟩) (hne : cb ≠ jb) (hh : c.has = false) (hs : c.seq ≤ 9007199254740990) (hd : j.dig.length = 32) (hd2 : j.nroot.length = 32) :
    Calls Tryz.prog 34 #[.pointer (some ⟨cb, 0, none⟩)] w (Asked w cb jb c j (.func (.func opT) #[.pointer (some ⟨cb, 0, none⟩)] #[]) (Frm.frameL (rqB (rq1 (c.seq + 1))))) := by
  refine enter (args := [.pointer (some ⟨cb, 0, none⟩)]) Tryz.func34 rfl Tryz.ntmps34 rfl ?_; have s4 : w.cell? ⟨cb, 4, none⟩ = some (.bool false) := by have := h.cell 4 (by simp [clC]); rw [this, ← hh]; rfl
  refine K.kgl ?_; refine WL.build (rqC ⟨1, 0, [], ByteArray.mk #[], [], z32⟩ nos nos) rfl rfl rfl rfl rfl (by kernel_rfl) ?_; refine K.kgo ?_; refine WL.fnM rfl rfl rfl rfl rfl ?_; refine WL.call rfl rfl rfl rfl rfl Tryz.func59 rfl (by kernel_rfl) (asks_any (f := 17) (n := 0) (r := ⟨1, 0, [], ByteArray.mk #[], [], z32⟩) h hj hn hne (fun w' _ => ⟨Sl.nil _ _, fun x hx => (by cases hx), isVs_none _ _, rfl, z32_byt⟩) few0 (by decide) hs hd hd2 (rq1_ok (k := c.seq + 1) (by omega)) (by
    have := rq1_len (c.seq + 1)
    show (Frm.frameL (rqB (rq1 (c.seq + 1)))).length ≤ _
    rw [Frm.frameL_len]; omega) rfl) ?_
  rintro _ w2 ⟨v, fb, rfl, h2⟩; refine ⟨_, rfl, ?_⟩; refine K.kgo ?_; exact WQ.ret1 rfl rfl ⟨v, fb, rfl, h2⟩
abbrev opened (cb : Nat) : Value := .func (.func opT) #[.pointer (some ⟨cb, 0, none⟩)] #[]
def jb0 (num : Int) (l : Value) : Jb := ⟨num, l, 1, 0, z32, nos, false, 0, 0, z32, 0, .nilFunc⟩
def Ticked (w : World) (cb : Nat) (c : Cli) (num : Int) (l0 tl : Value) (L : List Int) : Ending → World → Prop := fun e w' => ∃ v jb fb, e = .returned (.tuple #[c.out, v]) ∧ VBlk clT w' cb (clC { c with now := some ⟨jb, 0, none⟩, jobs := tl, seq := c.seq + 1, frame := fb, waited := 0, sends := 1, out := nos }) ∧
  VBlk jbT w' jb (jbC { jb0 num l0 with hears := opened cb }) ∧ Bu w' fb L ∧ (∀ x, fb.ownBlock = some x → w.heap.size ≤ x) ∧ Msg1 w' w.heap.size v c.id L ∧ Keep (fun x => x < w.heap.size ∧ x ≠ cb) w w' ∧ w.heap.size ≤ jb ∧ ∀ x, fb.ownBlock = some x → x ≠ jb
set_option maxHeartbeats 8000000 in
theorem tick_new {c : Cli} {gj oj m cp : Nat} {sl : Option Addr} {nl cl : Nat} (h : VBlk clT w cb (clC c)) (hn : c.now = none) (hh : c.has = false) (hr : c.root.length = 32) (hs : c.seq ≤ 9007199254740990) (hj : c.jobs = .slice (some ⟨gj, oj, none⟩) (m + 1) cp) (hl : w.cell? ⟨gj, oj, none⟩ = some (.slice sl nl cl)) (hlt : gj < w.heap.size) (hnum : 0 ≤ c.nums ∧ c.nums ≤ 1000000) (hm : m ≤ 1000000) :
    Calls Tryz.prog 15 #[.pointer (some ⟨cb, 0, none⟩)] w (Ticked w cb c (c.nums - (m + 1 : Nat)) (.slice sl nl cl) (.slice (some ⟨gj, if cp = 1 then oj else oj + 1, none⟩) m (cp - 1)) (Frm.frameL (rqB (rq1 (c.seq + 1))))) := by
  refine enter (args := [.pointer (some ⟨cb, 0, none⟩)]) Tryz.func15 rfl Tryz.ntmps15 rfl ?_; have s7 : w.cell? ⟨cb, 7, none⟩ = some (.pointer none) := by have := h.cell 7 (by simp [clC]); rw [this, ← hn]; rfl
  have s5 : w.cell? ⟨cb, 5, none⟩ = some (.slice (some ⟨gj, oj, none⟩) (m + 1) cp) := by have := h.cell 5 (by simp [clC]); rw [this, ← hj]; rfl
  have lcb := VBlk.lt h; refine K.kgo ?_; refine WL.nilP rfl rfl rfl rfl rfl rfl (by kernel_rfl) ?_; refine K.kgl ?_; refine WL.nilP rfl rfl rfl rfl rfl rfl (by kernel_rfl) ?_; refine K.kgl ?_; refine WC.drawn 20 (fun wx => VBlk clT wx cb (clC c) ∧ wx.cell? ⟨gj, oj, none⟩ = some (.slice sl nl cl) ∧ Below w.heap.size w wx) fun w1 hdr => ?_; have hS : VBlk clT w1 cb (clC c) ∧ w1.cell? ⟨gj, oj, none⟩ = some (.slice sl nl cl) ∧ Below w.heap.size w w1 := ⟨VBlk.below h (hdr.below _) lcb, ((hdr.below _).cell (p := ⟨gj, oj, none⟩) hlt).trans hl, hdr.below _⟩; have c5 : ∀ wx, VBlk clT wx cb (clC c) → wx.cell? ⟨cb, 5, none⟩ = some (.slice (some ⟨gj, oj, none⟩) (m + 1) cp) := fun wx hx => by have := hx.cell 5 (by simp [clC]); rw [this, ← hj]; rfl
  clear hdr s5 s7 hl; refine K.fr [0, 1, 2, 3] hS ?_; refine K.wl 4 [10, 17, 18, 19, 20, 21] rfl rfl rfl rfl rfl rfl rfl (v := .int .i64 c.nums) (fun wx hx => hx.1.cell 6 (by simp [clC])) hS ?_; refine K.fr [5, 6, 7] hS ?_; refine K.wl 8 [9, 10, 17, 18, 19, 20, 21] rfl rfl rfl rfl rfl rfl rfl (v := .slice (some ⟨gj, oj, none⟩) (m + 1) cp) (fun wx hx => c5 wx hx.1) hS ?_; refine K.fr [9, 10, 11, 12, 13] hS ?_; refine K.wl 14 [15, 16, 17, 18, 19, 20, 21] rfl rfl rfl rfl rfl rfl rfl (v := .slice (some ⟨gj, oj, none⟩) (m + 1) cp) (fun wx hx => c5 wx hx.1) hS ?_; refine K.wi 15 0 oj rfl rfl rfl rfl rfl rfl rfl rfl rfl (by omega) (by simp) (.inr hS) ?_; refine K.wl 16 [17, 18, 19, 20, 21] rfl rfl rfl rfl rfl rfl rfl (v := .slice sl nl cl) (fun wx hx => hx.2.1) hS ?_; refine K.wo 17 ?_; refine WL.build (jbC (jb0 (c.nums - (m + 1 : Nat)) (.slice sl nl cl))) rfl rfl rfl rfl rfl (by kernel_rfl) ?_; refine K.di hS ?_; refine K.wo 18 ?_; refine WL.box rfl rfl rfl rfl rfl fun jb w2 f2 => ?_; have j2 : VBlk jbT w2 jb (jbC (jb0 (c.nums - (m + 1 : Nat)) (.slice sl nl cl))) := f2.blk; have e2 := f2.eq; have b2 := f2.below; have z1 := hS.2.2.size; have hS2 : VBlk clT w2 cb (clC c) ∧ w2.cell? ⟨gj, oj, none⟩ = some (.slice sl nl cl) ∧ Below w.heap.size w w2 := ⟨VBlk.below hS.1 b2 (VBlk.lt hS.1), (b2.cell (p := ⟨gj, oj, none⟩) (by show gj < w1.heap.size; omega)).trans hS.2.1, hS.2.2.trans (b2.mono z1)⟩; clear hS f2 b2; have hS := hS2; clear hS2; refine K.di hS ?_; refine K.fr [19] hS ?_; refine K.wo 20 ?_; refine WL.pure rfl rfl rfl rfl ?_; refine K.dl ?_; refine K.wo 21 ?_; obtain ⟨v2, -, b2⟩ := hS; have hne : cb ≠ jb := by omega
  refine WL.store (v := .pointer (some ⟨jb, 0, none⟩)) rfl rfl rfl rfl rfl rfl (by kernel_rfl) (VBlk.cell v2 7 (by simp [clC])) (VBlk.free v2 7) ?_; have v3 : VBlk clT (w2.setCell ⟨cb, 7, none⟩ (.pointer (some ⟨jb, 0, none⟩))) cb (clC { c with now := some ⟨jb, 0, none⟩ }) := VBlk.set v2 7 _; have j3 := VBlk.other j2 ⟨cb, 7, none⟩ (.pointer (some ⟨jb, 0, none⟩)) (fun e => hne e.symm); have k3 : Keep (fun x => x < w.heap.size ∧ x ≠ cb) w (w2.setCell ⟨cb, 7, none⟩ (.pointer (some ⟨jb, 0, none⟩))) := ((Keep.of_below b2).mono fun x hx => hx.1).setCell (fun hx => hx.2 rfl) _; generalize hw3 : w2.setCell ⟨cb, _, none⟩ (.pointer (some ⟨jb, 0, none⟩)) = w3; have hw3' : w2.setCell ⟨cb, 7, none⟩ (.pointer (some ⟨jb, 0, none⟩)) = w3 := hw3; rw [hw3'] at v3 j3 k3; clear hw3 hw3' v2 j2; refine K.dl ?_; refine WD.done (by kernel_rfl) ?_; have s5 : w3.cell? ⟨cb, 5, none⟩ = some (.slice (some ⟨gj, oj, none⟩) (m + 1) cp) := by have := v3.cell 5 (by simp [clC]); rw [this, ← hj]; rfl
  refine K.kgl ?_; refine WL.tail1 rfl rfl rfl rfl rfl rfl rfl (by omega) ?_; refine K.kgo ?_; refine WL.store (v := .slice (some ⟨gj, if cp = 1 then oj else oj + 1, none⟩) (m + 1 - 1) (cp - 1)) rfl rfl rfl rfl rfl rfl (by kernel_rfl) (VBlk.cell v3 5 (by simp [clC])) (VBlk.free v3 5) ?_; rw [Nat.add_sub_cancel]; have v4 : VBlk clT (w3.setCell ⟨cb, 5, none⟩ (.slice (some ⟨gj, if cp = 1 then oj else oj + 1, none⟩) m (cp - 1))) cb (clC { c with now := some ⟨jb, 0, none⟩, jobs := .slice (some ⟨gj, if cp = 1 then oj else oj + 1, none⟩) m (cp - 1) }) := VBlk.set v3 5 _; generalize (Value.slice (some ⟨gj, if cp = 1 then oj else oj + 1, none⟩) m (cp - 1)) = tl at v4 ⊢; have j4 := VBlk.other j3 ⟨cb, 5, none⟩ tl (fun e => hne e.symm); have k4 := k3.setCell (p := ⟨cb, 5, none⟩) (fun hx => hx.2 rfl) tl; generalize hw4 : w3.setCell ⟨cb, _, none⟩ tl = w4; have hw4' : w3.setCell ⟨cb, 5, none⟩ tl = w4 := hw4; rw [hw4'] at v4 j4 k4; clear hw4 hw4' v3 j3 s5; refine K.kgo ?_; refine WL.call rfl rfl rfl rfl rfl Tryz.func34 rfl (by kernel_rfl) (begins_new v4 j4 rfl hne hh hs rfl rfl) ?_; rintro _ w5 ⟨v, fb, rfl, v5, j5, fb5, o5, m5, k5⟩; refine ⟨_, rfl, ?_⟩; have z4 := k4.size; have ljb := VBlk.lt j4; have k05 : Keep (fun x => x < w.heap.size ∧ x ≠ cb) w w5 := k4.trans (k5.mono fun x hx => ⟨by omega, hx.2, by omega⟩); refine K.kgo ?_; refine WL.call rfl rfl rfl rfl rfl Tryz.func33 rfl (by kernel_rfl) (told_any v5 hr) ?_; rintro _ w6 ⟨rfl, v6, k6⟩; refine ⟨_, rfl, ?_⟩; have z5 := k05.size; have z5' := k5.size; refine K.kgo ?_; obtain ⟨gm, fm, e1m, e2m, e3m, e4m, e5m⟩ := m5; refine WQ.ret2 rfl rfl rfl ⟨v, jb, fb, rfl, v6, VBlk.keep j5 k6 ⟨by omega, fun e => hne e.symm⟩, Bu.keep fb5 k6 (fun x hx => ⟨Bu.lt fb5 x hx, by have := o5 x hx; omega⟩), fun x hx => Nat.le_trans z4 (o5 x hx), ⟨gm, fm, e1m, by omega, VBlk.keep e3m k6 ⟨VBlk.lt e3m, by omega⟩, Bu.keep e4m k6 (fun x hx => ⟨Bu.lt e4m x hx, by have := e5m x hx; omega⟩), fun x hx => Nat.le_trans z4 (e5m x hx)⟩, k05.trans (k6.mono fun x hx => ⟨by omega, hx.2⟩), by omega, fun x hx => by have := o5 x hx; omega⟩
end Cl
end Go.Proofs.YtpfkcfaifleliaaGreat

namespace Go.Proofs.YtpfkcfaifleliaaGreat
open Go.RowKit
namespace Cl
open K
set_option maxRecDepth 100000
abbrev xT : Nat := 105
abbrev prT : Nat := 35
def xC0 (id tries : Int) : List Value := [.int .i64 id, .int .i64 tries, nos, .int .i64 0, .int .i64 0, .int .i64 0, .int .i64 0, .bool false, .int .i64 0] ++ (z32.map (Value.int .u8) ++ ([nos, .int .i64 0, .int .i64 0, .int .i64 0, nos, .int .i64 0, .int .i64 0, .int .i64 0] ++ (z32.map (Value.int .u8) ++ (.int .i64 0 :: z32.map (Value.int .u8)))))
variable {w : World}
theorem newX {id tries : Int} (h1 : 1 ≤ id) (h2 : 1 ≤ tries) (h3 : tries ≤ 100) : Calls Tryz.prog 21 #[.int .i64 id, .int .i64 tries] w fun e w' => ∃ xb, e = .returned (.tuple #[.pointer (some ⟨xb, 0, none⟩), .int .i64 0]) ∧ VBlk xT w' xb (xC0 id tries) ∧ xb = w.heap.size ∧ Below w.heap.size w w' := by
  refine enter (args := [.int .i64 id, .int .i64 tries]) Tryz.func21 rfl Tryz.ntmps21 rfl ?_; refine K.kgo ?_; refine WL.build (xC0 id tries) rfl rfl rfl rfl rfl (by kernel_rfl) ?_; refine WL.box rfl rfl rfl rfl rfl fun cb w1 f1 => ?_; have v1 : VBlk xT w1 cb (xC0 id tries) := f1.blk; refine K.kgo ?_; exact WQ.ret2 rfl rfl rfl ⟨cb, rfl, v1, f1.eq, f1.below⟩
set_option maxHeartbeats 4000000 in
theorem start_any {id tries : Int} (h1 : 1 ≤ id) (h2 : 1 ≤ tries) (h3 : tries ≤ 100) : Calls Tryz.prog 9 #[.int .i64 id, .int .i64 tries] w fun e w' => ∃ pb cb xb sp, e = .returned (.tuple #[.pointer (some ⟨pb, 0, none⟩), .bool true]) ∧ VBlk prT w' pb [.pointer (some ⟨cb, 0, none⟩), .pointer (some ⟨xb, 0, none⟩), .pointer sp, nos] ∧
    VBlk clT w' cb (clC (cl0 id tries)) ∧ VBlk xT w' xb (xC0 id tries) ∧ w.heap.size ≤ cb ∧ cb < xb ∧ xb < pb ∧ Below w.heap.size w w' := by
  refine enter (args := [.int .i64 id, .int .i64 tries]) Tryz.func9 rfl Tryz.ntmps9 rfl ?_; refine K.kgo ?_; refine WL.call rfl rfl rfl rfl rfl Tryz.func17 rfl (by kernel_rfl) (newC h1 h2 h3) ?_; rintro _ w1 ⟨cb, rfl, v1, e1, b1⟩; refine ⟨_, rfl, ?_⟩; refine K.kgo ?_; refine WL.call rfl rfl rfl rfl rfl Tryz.func21 rfl (by kernel_rfl) (newX h1 h2 h3) ?_; rintro _ w2 ⟨xb, rfl, x2, e2, b2⟩; refine ⟨_, rfl, ?_⟩; refine K.kgo ?_; refine WL.call rfl rfl rfl rfl rfl Tryz.func22 rfl (by kernel_rfl) new3 ?_; rintro _ w3 ⟨db, rfl, d3, e3, b3⟩; refine ⟨_, rfl, ?_⟩; refine K.kgo ?_; refine WL.build [.int .i64 2, .int .i64 30] rfl rfl rfl rfl rfl (by kernel_rfl) ?_; refine K.kgo ?_; refine WL.call rfl rfl rfl rfl rfl Tryz.func23 rfl (by kernel_rfl) (open26 d3) ?_; rintro _ w4 ⟨sp, rfl, k4⟩; refine ⟨_, rfl, ?_⟩; have z1 := b1.size; have z2 := b2.size; have z3 := b3.size; have z4 := k4.size; have l1 := VBlk.lt v1; have l2 := VBlk.lt x2; have l3 := VBlk.lt d3; have v4 := VBlk.keep (VBlk.below (VBlk.below v1 b2 (VBlk.lt v1)) b3 (by omega)) k4 ⟨by omega, by omega⟩; have x4 := VBlk.keep (VBlk.below x2 b3 (VBlk.lt x2)) k4 ⟨by omega, by omega⟩; have b4 : Below w.heap.size w w4 := ((Keep.of_below (b1.trans ((b2.trans (b3.mono z2)).mono z1))).trans (k4.mono fun x (hx : x < w.heap.size) => ⟨by omega, by omega⟩)).below; refine K.kgo ?_; refine WL.build [.pointer (some ⟨cb, 0, none⟩), .pointer (some ⟨xb, 0, none⟩), .pointer sp, nos] rfl rfl rfl rfl rfl (by kernel_rfl) ?_; refine WL.box rfl rfl rfl rfl rfl fun pb w5 f5 => ?_; have p5 : VBlk prT w5 pb [.pointer (some ⟨cb, 0, none⟩), .pointer (some ⟨xb, 0, none⟩), .pointer sp, nos] := f5.blk; have e5 := f5.eq; refine K.kgo ?_; refine WL.nilP rfl rfl rfl rfl rfl rfl (by kernel_rfl) ?_; refine K.kgo ?_; exact WQ.ret2 rfl rfl rfl ⟨pb, cb, xb, sp, rfl, p5, VBlk.below v4 f5.below (VBlk.lt v4), VBlk.below x4 f5.below (VBlk.lt x4), by omega, by omega, by omega, b4.trans (f5.below.mono b4.size)⟩
theorem rqC_onesC {w : World} {f : Nat} {r : Rq} {nv pv : Value} (h1 : Sl .i64 w nv r.nums) (h2 : IsVs f w pv r.params) : Ones (rqC r nv pv) := by
  obtain ⟨a, b, rfl, -⟩ := h1; obtain ⟨c, d, rfl, -⟩ := h2; intro u hu; unfold rqC at hu; simp only [List.mem_cons, List.mem_map] at hu; rcases hu with rfl | rfl | rfl | rfl | rfl | ⟨x, -, rfl⟩ <;> rfl
theorem rd1 : (rdRq (rqB (rq1 1))).map (fun r => (r.kind, r.seq, r.hash.length)) = some (1, 1, 32) := by decide +kernel
theorem rq1_byt : Frm.Byt (rqB (rq1 1)) := by
  have : ((rqB (rq1 1)).all fun c => decide (0 ≤ c ∧ c ≤ 255)) = true := by decide +kernel
  exact fun c hc => of_decide_eq_true (List.all_eq_true.1 this c hc)
set_option maxHeartbeats 8000000 in
theorem known_any : Calls Tryz.prog 8 #[] w fun e w' => e = .returned (.bool true) ∧ Below w.heap.size w w' := by
  refine enter (args := []) Tryz.func8 rfl Tryz.ntmps8 rfl ?_; refine K.kgo ?_; refine WL.call rfl rfl rfl rfl rfl Tryz.func9 rfl (by kernel_rfl) (start_any (id := 1) (tries := 5) (by omega) (by omega) (by omega)) ?_; rintro _ w1 ⟨pb, cb, xb, sp, rfl, p1, v1, -, l1, l2, l3, b1⟩; refine ⟨_, rfl, ?_⟩; have c1 : w1.cell? ⟨pb, 0, none⟩ = some (.pointer (some ⟨cb, 0, none⟩)) := p1.cell 0 (by simp); have lp := VBlk.lt p1; refine K.kgl ?_; refine WL.nilP rfl rfl rfl rfl rfl rfl (by kernel_rfl) ?_; refine K.kgl ?_; refine WL.build [.string ⟨#[99, 114, 101, 97, 116, 101, 32, 116, 97, 98, 108, 101, 32, 116]⟩, nos] rfl rfl rfl rfl rfl (by kernel_rfl) ?_; refine WL.lit1 (cs := [.string ⟨#[99, 114, 101, 97, 116, 101, 32, 116, 97, 98, 108, 101, 32, 116]⟩, nos]) rfl rfl rfl rfl rfl rfl rfl rfl ⟨by omega, by omega⟩ (by kernel_rfl) fun g w2 f2 => ?_; have v2 := VBlk.below v1 f2.below (VBlk.lt v1); have p2 := VBlk.below p1 f2.below (VBlk.lt p1); have z2 := f2.size; have b2 := b1.trans (f2.below.mono b1.size); have z1 := b1.size; refine WL.call rfl rfl rfl rfl rfl Tryz.func10 rfl (by kernel_rfl) (do1 (s := ⟨#[99, 114, 101, 97, 116, 101, 32, 116, 97, 98, 108, 101, 32, 116]⟩) (by decide) v2 f2.blk) ?_; rintro _ w3 ⟨rfl, gj, cj, gl, cl, v3, oj, ol, k3⟩; refine ⟨_, rfl, ?_⟩; have p3 := VBlk.keep p2 k3 ⟨by omega, by omega⟩; clear f2 v2 p2 v1 p1 c1; have c3 : w3.cell? ⟨pb, 0, none⟩ = some (.pointer (some ⟨cb, 0, none⟩)) := p3.cell 0 (by simp); have z3 := k3.size; have hgj : w3.cell? ⟨gj, 0, none⟩ = some (.slice (some ⟨gl, 0, none⟩) 1 cl) := oj.at 0 (by simp); refine K.kgl ?_; refine WL.call rfl rfl rfl rfl rfl Tryz.func15 rfl (by kernel_rfl) (tick_new (m := 0) v3 rfl rfl rfl (show (0 : Nat) ≤ 9007199254740990 by omega) rfl hgj (OwnV.lt oj rfl) ⟨show (0 : Int) ≤ 1 by omega, show (1 : Int) ≤ 1000000 by omega⟩ (by omega)) ?_; rintro _ w4 ⟨v, jb, fb, rfl, -, -, -, -, ⟨gm, fm, rfl, g4, m4, f4, -⟩, k4, -⟩; refine ⟨_, rfl, ?_⟩; have k04 : Keep (fun x => x < w.heap.size) w w4 := ((Keep.of_below b2).trans (k3.mono fun x hx => ⟨by omega, by omega⟩)).trans (k4.mono fun x hx => ⟨by omega, by omega⟩); have f4 : Bu w4 fm (Frm.frameL (rqB (rq1 1))) := f4; obtain ⟨sf, cf, rfl, -, -⟩ := f4.form; have m40 : w4.cell? ⟨gm, 0, none⟩ = some (.int .i64 1) := m4.cell 0 (by simp); have m41 : w4.cell? ⟨gm, 1, none⟩ = some (.int .i64 0) := m4.cell 1 (by simp); have m42 : w4.cell? ⟨gm, 2, none⟩ = some (.slice sf (Frm.frameL (rqB (rq1 1))).length cf) := m4.cell 2 (by simp); refine K.kgo ?_; refine WL.idx 0 0 rfl rfl rfl rfl rfl rfl rfl rfl (by omega) rfl ?_; refine K.kgl ?_; refine WL.idx 0 0 rfl rfl rfl rfl rfl rfl rfl rfl (by omega) rfl ?_; refine K.kgl ?_; refine WL.idx 0 0 rfl rfl rfl rfl rfl rfl rfl rfl (by omega) rfl ?_; refine K.kgl ?_; obtain ⟨r, hr, hk, hq, hh⟩ : ∃ r, rdRq (rqB (rq1 1)) = some r ∧ r.kind = 1 ∧ r.seq = 1 ∧ r.hash.length = 32 := by
    have h := rd1; cases hx : rdRq (rqB (rq1 1)) with
    | none => rw [hx] at h; cases h
    | some r => rw [hx] at h; simp at h; exact ⟨r, rfl, h.1, h.2.1, h.2.2⟩
  refine WL.call rfl rfl rfl rfl rfl Tryz.func18 rfl (by kernel_rfl) (rdec_ok f4.sl rq1_byt (show (rqB (rq1 1)).length ≤ 524288 from by have := rq1_len 1; omega) hr) ?_; rintro _ w5 ⟨nv, pv, rfl, b5, hn5, hp5⟩; refine ⟨_, rfl, ?_⟩; refine K.kgo ?_; refine WL.alloc (z := .agg (rqC ⟨0, 0, [], ByteArray.mk #[], [], z32⟩ nos nos).toArray) rfl rfl rfl rfl (fun _ => by kernel_rfl) fun g8 w6 f6 => ?_; refine WL.storeRow rfl rfl rfl rfl rfl rfl f6.blk (rqC_len hh) rfl (rqC_onesC hn5 hp5) ?_; have q7 : VBlk 71 (w6.setRow g8 (rqC r nv pv).toArray) g8 (rqC r nv pv) := f6.blk.setRow _; have e6 := f6.eq; have b6 : Below w5.heap.size w5 (w6.setRow g8 (rqC r nv pv).toArray) := below_setRow f6.below (by omega) _; have z4 := k04.size; have b06 : Below w.heap.size w (w6.setRow g8 (rqC r nv pv).toArray) := ((k04.trans ((Keep.of_below b5).mono fun x (hx : x < w.heap.size) => by omega)).trans ((Keep.of_below b6).mono fun x (hx : x < w.heap.size) => by have := b5.size; omega)).below; generalize w6.setRow g8 _ = w7 at q7 b06 ⊢; have c70 : w7.cell? ⟨g8, 0, none⟩ = some (.int .i64 1) := by have := q7.cell 0 (by simp [rqC]); rw [this, ← hk]; rfl
  have c71 : w7.cell? ⟨g8, 1, none⟩ = some (.int .i64 1) := by have := q7.cell 1 (by simp [rqC]); rw [this, ← hq]; rfl
  refine K.kgl ?_; exact WQ.ret1 rfl rfl ⟨rfl, b06⟩
end Cl
end Go.Proofs.YtpfkcfaifleliaaGreat

namespace Go.Proofs.YtpfkcfaifleliaaGreat
open Go.ChangeShapes Go.WideShapes Go.ChangeAt Go.RowKit
namespace K

section
variable {H : Type} {P : Program}
def WOk (P : Program) (t : TypeId) (d : DataW H) : Prop := ∀ n ∈ d.weights P t, n ≤ reachBytes
theorem weightsAll_mem {e : TypeId} : ∀ {ds : List (DataW H)} {d : DataW H} {n : Nat}, d ∈ ds → n ∈ d.weights P e → n ∈ DataW.weightsAll P e ds
  | d0 :: ds, d, n, hd, hn => by
    rw [DataW.weightsAll, List.mem_append]; rcases List.mem_cons.1 hd with rfl | hd
    · exact .inl hn
    · exact .inr (weightsAll_mem hd hn)
theorem WOk.slice {t e : TypeId} {elems spare : List (DataW H)} (hu : P.underlying t = some (.slice e)) (h : WOk P t (.slice elems spare)) : (elems.length + spare.length) * P.bytesOf e ≤ reachBytes ∧ ∀ d ∈ elems, WOk P e d := by
  unfold WOk at h; rw [DataW.weights, hu] at h; simp only [List.mem_cons, List.mem_append] at h; exact ⟨h _ (.inl rfl), fun d hd n hn => h n (.inr (.inl (weightsAll_mem hd hn)))⟩
theorem WOk.agg {t : TypeId} {fs : Array Field} {parts : List (DataW H)} (hu : P.underlying t = some (.struct fs)) (h : WOk P t (.agg parts)) {i : Nat} {f : Field} {d : DataW H} (hf : fs[i]? = some f) (hd : parts[i]? = some d) : WOk P f.type d := by
  unfold WOk at h; rw [DataW.weights, hu] at h; exact fun n hn => h n (DataW.weights_mem_each (j := i) (by simp [hf]) hd n hn)
theorem WOk.string {t : TypeId} {l : List UInt8} (h : WOk P t (.lit (.string l) : DataW H)) : l.length ≤ reachBytes := h _ (by simp [DataW.weights])
end

section
variable {H : Type} {enc : TypeId × Value → H} {W : World} {base : Nat} {held : Bool}
theorem reach_le {n : Nat} (h : n ≤ reachBytes) : n ≤ 140737488355328 := Nat.le_trans h (by decide)

theorem open_sl2 {t e : TypeId} {fuel : Nat} {v : Value} {x : DataW H × List MemPlace} (m : Nat) (hm0 : 0 < m) (hu : Tryz.prog.underlying t = some (.slice e)) (hce : Tryz.prog.cellsOf e = m) (h : DataW.trod enc Tryz.prog W base (fun _ => true) held fuel t [v] = some x) :
    ∃ sp len cap, v = .slice sp len cap ∧ len ≤ cap ∧ cap ≤ 9223372036854775807 ∧ ∃ n elems rest, n < fuel ∧ (x.1 = .slice (elems.map (·.1)) rest ∨ (x.1 = .nil ∧ elems = [])) ∧ elems.length = len ∧
      ∀ i, i < len → ∃ (b o : Nat) (cs : List Value) (y : DataW H × List MemPlace), sp = some ⟨b, o, none⟩ ∧ b < W.heap.size ∧ cs.length = m ∧ W.rangeAt b (o + i * m) cs ∧ elems[i]? = some y ∧ DataW.trod enc Tryz.prog W base (fun _ => true) held n e cs = some y := by
  rcases DataW.trod_slice hu h with ⟨hcs, rfl⟩ | ⟨a, len, cap, elems, rest, n, rfl, hcs, rfl, hb, hl, hcap, hlen, hel, -, -⟩
  · obtain rfl : v = .slice none 0 0 := by simpa using hcs
    cases fuel with
    | zero => simp [DataW.trod] at h
    | succ f => exact ⟨none, 0, 0, rfl, Nat.le_refl _, by omega, f, [], [], by omega, .inr ⟨rfl, rfl⟩, rfl, fun i hi => absurd hi (by omega)⟩
  · obtain rfl : v = .slice (some a) len cap := by simpa using hcs
    refine ⟨some a, len, cap, rfl, hl, by unfold maxLen at hcap; exact hcap, n, elems, rest.map (·.1), by omega, .inl rfl, hlen, fun i hi => ?_⟩; have h1 := hel i hi; rw [hce] at h1; obtain ⟨y, hy⟩ : ∃ y, elems[i]? = some y := ⟨elems[i], List.getElem?_eq_getElem (by omega)⟩; rw [hy] at h1; obtain ⟨cs, hc1, hc2⟩ := Option.bind_eq_some_iff.1 h1; obtain ⟨-, hcl, hat⟩ := World.cells?_some hc1; have h00 := hel 0 (by omega); rw [hce] at h00; obtain ⟨y0, hy0⟩ : ∃ y, elems[0]? = some y := ⟨elems[0], List.getElem?_eq_getElem (by omega)⟩; rw [hy0] at h00; obtain ⟨cs0, hc01, -⟩ := Option.bind_eq_some_iff.1 h00; obtain ⟨-, hcl0, hat0⟩ := World.cells?_some hc01; have hx0 := hat0 0 hm0; have e0 : (a.add (0 * m)).add 0 = a := by rw [Nat.zero_mul]; rfl
    rw [e0, List.getElem?_eq_getElem (by omega)] at hx0; have hsp := cell_spot hx0; obtain ⟨b, o, s⟩ := a; simp only at hsp; subst hsp; refine ⟨b, o, cs, y, rfl, block_lt_of_cell hx0, hcl, fun j u hj => ?_, hy, hc2⟩; have hjl : j < m := by
      rcases Nat.lt_or_ge j m with h | h
      · exact h
      · rw [List.getElem?_eq_none (by omega)] at hj; cases hj
    have := hat j hjl; rw [addr_add, addr_add] at this; rw [this]; exact hj

theorem Sml.mono : ∀ {f f' : Nat} {v : V}, f ≤ f' → Sml f v → Sml f' v
  | 0, _, _, _, h => h.elim
  | f + 1, f', v, hf, h => by
    obtain ⟨g, rfl⟩ : ∃ g, f' = g + 1 := ⟨f' - 1, by omega⟩; exact ⟨h.1, h.2.1, fun x hx => Sml.mono (by omega) (h.2.2 x hx)⟩

theorem cellsV : Tryz.prog.cellsOf 82 = 6 := by kernel_rfl
theorem cellsI : Tryz.prog.cellsOf 3 = 1 := by kernel_rfl
theorem cellsS : Tryz.prog.cellsOf 9 = 1 := by kernel_rfl
theorem bytesS : Tryz.prog.bytesOf 9 = 16 := by kernel_rfl
theorem bytesV : Tryz.prog.bytesOf 82 = 88 := by kernel_rfl

theorem take1 {l : List Value} {o : Nat} {v : Value} (h : (l.drop o).take 1 = [v]) : l[o]? = some v := by
  have : ((l.drop o).take 1)[0]? = some v := by rw [h]; rfl
  simpa [List.getElem?_take] using this
set_option maxRecDepth 100000
end
end K
end Go.Proofs.YtpfkcfaifleliaaGreat

namespace Go.Proofs.YtpfkcfaifleliaaGreat
open Go.ChangeShapes Go.WideShapes Go.ChangeAt Go.RowKit
namespace Vw
open K
set_option maxRecDepth 100000
theorem Els.P {α : Type} {m : Nat} {z : α} {P P' : α → List Value → Prop} {O : Nat → Prop} {w : World} {v : Value} {l : List α} (h : Els m z P O w v l) (hP : ∀ x cs, P x cs → P' x cs) : Els m z P' O w v l := Els.mono h (fun _ h => h) hP
theorem IsVo.more {O : Nat → Prop} {w : World} : ∀ {f f' : Nat} {v : V} {cs : List Value}, f ≤ f' → IsVo O f w v cs → IsVo O f' w v cs
  | 0, _, _, _, _, h => h.elim
  | f + 1, f', v, cs, hf, h => by
    obtain ⟨g, rfl⟩ : ∃ g, f' = g + 1 := ⟨f' - 1, by omega⟩; obtain ⟨sn, sk, h1, h2, h3, h4, h5, h6, h7⟩ := h; exact ⟨sn, sk, h1, h2, h3, h4, h5, h6, Els.P h7 fun _ _ hp => IsVo.more (by omega) hp⟩
section
variable {H : Type} {enc : TypeId × Value → H} {W : World} {base : Nat} {held : Bool}
theorem open_els {α : Type} {t e : TypeId} {fuel : Nat} {v : Value} {x : DataW H × List MemPlace} (m : Nat) (hm0 : 0 < m) (hu : Tryz.prog.underlying t = some (.slice e)) (hce : Tryz.prog.cellsOf e = m) (h : DataW.trod enc Tryz.prog W base (fun _ => true) held fuel t [v] = some x) (hz : WOk Tryz.prog t x.1) (z : α) (P : Nat → α → List Value → Prop)
    (key : ∀ n, n < fuel → ∀ {cs : List Value} {y : DataW H × List MemPlace}, cs.length = m → DataW.trod enc Tryz.prog W base (fun _ => true) held n e cs = some y → WOk Tryz.prog e y.1 → ∃ a, P n a cs) :
    ∃ l n, n < fuel ∧ Els m z (P n) (fun b => b < W.heap.size) W v l ∧ l.length * Tryz.prog.bytesOf e ≤ reachBytes := by
  obtain ⟨sp, len, cap, rfl, hl, hc, n, elems, rest, hn, hx, hlen, hel⟩ := open_sl2 m hm0 hu hce h; have key2 : ∀ i, i < len → ∃ (y : α), ∃ b o cs, sp = some ⟨b, o, none⟩ ∧ b < W.heap.size ∧ cs.length = m ∧ P n y cs ∧ W.rangeAt b (o + i * m) cs := by
    intro i hi; obtain ⟨b, o, cs, y, hsp, hb, hcl, hat, hy, ht⟩ := hel i hi; have hw : WOk Tryz.prog e y.1 := by
      rcases hx with hx | ⟨-, rfl⟩
      · rw [hx] at hz
        exact (hz.slice hu).2 _ (List.mem_map.2 ⟨_, List.mem_of_getElem? hy, rfl⟩)
      · cases hy
    obtain ⟨a, ha⟩ := key n hn hcl ht hw; exact ⟨a, b, o, cs, hsp, hb, hcl, ha, hat⟩
  have : Inhabited α := ⟨z⟩; obtain ⟨g, hg⟩ := Deep.choose_lt key2; have hget : ∀ k, k < len → ((List.range len).map g).getD k z = g k := fun k hk => by simp [hk]
  have hll : ((List.range len).map g).length = len := by simp
  refine ⟨(List.range len).map g, n, hn, ⟨sp, cap, by rw [hll], by rw [hll]; exact hl, hc, fun h0 => ?_, fun h0 => ?_⟩, ?_⟩
  · subst h0
    rcases DataW.trod_slice hu h with ⟨hcs, -⟩ | ⟨a, len', cap', elems', rest', n', -, hcs, -⟩
    · injection hcs with hcs
      injection hcs
    · injection hcs with hcs
      injection hcs with h1
      cases h1
  · rw [hll] at h0
    obtain ⟨b, o, -, hsp, hb, -⟩ := hg 0 h0; refine ⟨b, o, hsp, hb, hb, fun j hj => ?_⟩; rw [hll] at hj; obtain ⟨b2, o2, cs, hsp2, -, hcl, hv, hat⟩ := hg j hj; rw [hsp] at hsp2; cases hsp2
    rw [hget j hj]; exact ⟨cs, hcl, hv, hat⟩
  · rw [hll]
    rcases hx with hx | ⟨-, rfl⟩
    · rw [hx] at hz
      have := (hz.slice hu).1; rw [List.length_map, hlen] at this; exact Nat.le_trans (Nat.mul_le_mul_right _ (Nat.le_add_right _ _)) this
    · simp at hlen; subst hlen; simp
theorem els_all {α : Type} {m : Nat} {z : α} {P : α → List Value → Prop} {O : Nat → Prop} {w : World} {v : Value} {l : List α} (h : Els m z P O w v l) : ∀ x ∈ l, ∃ cs, P x cs := by
  intro x hx; obtain ⟨sp, cap, -, -, -, -, h4⟩ := h; obtain ⟨j, hj, rfl⟩ := List.getElem_of_mem hx; obtain ⟨b, o, -, -, -, hr⟩ := h4 (by omega); obtain ⟨cs, -, hp, -⟩ := hr j hj; exact ⟨cs, by simpa [hj] using hp⟩
theorem open_strso {fuel : Nat} {v : Value} {x : DataW H × List MemPlace} (h : DataW.trod enc Tryz.prog W base (fun _ => true) held fuel 80 [v] = some x) (hz : WOk Tryz.prog 80 x.1) :
    ∃ l, Els 1 noT strP (fun b => b < W.heap.size) W v l ∧ l.length ≤ 140737488355328 := by
  obtain ⟨l, n, -, h1, h2⟩ := open_els 1 (by omega) Tryz.underlying80 cellsS h hz noT (fun _ s cs => strP s cs) fun n _ cs y hcl ht hw => by
    obtain ⟨s, rfl, hs, -⟩ := DataW.trod_string Tryz.underlying9 ht; rw [hs] at hw; have := WOk.string hw; rw [Array.length_toList] at this; exact ⟨s, rfl, reach_le this⟩
  rw [bytesS] at h2; exact ⟨l, h1, reach_le (by omega)⟩
set_option maxHeartbeats 1000000 in
theorem open_valo : ∀ (fuel : Nat) {cs : List Value} {x : DataW H × List MemPlace}, DataW.trod enc Tryz.prog W base (fun _ => true) held fuel 82 cs = some x → WOk Tryz.prog 82 x.1 → ∃ v, IsVo (fun b => b < W.heap.size) fuel W v cs ∧ Sml fuel v := by
  intro fuel
  induction fuel using Nat.strongRecOn with
  | _ fuel ih =>
    intro cs x h hz; obtain ⟨xs, n, rfl, rfl, hl, hxl, hx⟩ := DataW.trod_struct Tryz.underlying82 h; have hxl' : xs.length = 6 := hxl; rw [cellsV] at hl; have e : ∀ i, i < 6 → ∃ y, xs[i]? = some y := fun i hi => ⟨xs[i], List.getElem?_eq_getElem (by omega)⟩; obtain ⟨x0, e0⟩ := e 0 (by omega); obtain ⟨x1, e1⟩ := e 1 (by omega); obtain ⟨x2, e2⟩ := e 2 (by omega); obtain ⟨x3, e3⟩ := e 3 (by omega); obtain ⟨x4, e4⟩ := e 4 (by omega); obtain ⟨x5, e5⟩ := e 5 (by omega); have h0 := hx 0 _ rfl; have h1 := hx 1 _ rfl; have h2 := hx 2 _ rfl; have h3 := hx 3 _ rfl; have h4 := hx 4 _ rfl; have h5 := hx 5 _ rfl; rw [e0] at h0; rw [e1] at h1; rw [e2] at h2; rw [e3] at h3; rw [e4] at h4; rw [e5] at h5; have z : ∀ {i : Nat} {f : Field} {y : DataW H × List MemPlace}, _ → xs[i]? = some y → WOk Tryz.prog f.type y.1 := fun {i f y} hf hy => WOk.agg Tryz.underlying82 hz (i := i) (f := f) hf (by rw [List.getElem?_map, hy]; rfl); have z3 : WOk Tryz.prog 9 x3.1 := z (i := 3) rfl e3; have z4 : WOk Tryz.prog 80 x4.1 := z (i := 4) rfl e4; have z5 : WOk Tryz.prog 46 x5.1 := z (i := 5) rfl e5; obtain ⟨a, ha, -, wa⟩ := DataW.trod_int Tryz.underlying3 h0; obtain ⟨b, hb, -, wb⟩ := DataW.trod_int Tryz.underlying3 h1; obtain ⟨c, hc, -, wc⟩ := DataW.trod_int Tryz.underlying3 h2; obtain ⟨s, hs, hs2, -⟩ := DataW.trod_string Tryz.underlying9 h3; have t0 : cs[0]? = some (.int .i64 a) := take1 (by rw [← cellsI]; exact ha); have t1 : cs[1]? = some (.int .i64 b) := take1 (by rw [← cellsI]; exact hb); have t2 : cs[2]? = some (.int .i64 c) := take1 (by rw [← cellsI]; exact hc); have t3 : cs[3]? = some (.string s) := take1 (by rw [← cellsS]; exact hs)
    match cs, hl with
    | [c0, c1, c2, c3, c4, c5], _ =>
      simp at t0 t1 t2 t3
      subst t0; subst t1; subst t2; subst t3; have h4' : DataW.trod enc Tryz.prog W base (fun _ => true) held n 80 [c4] = some x4 := h4; have h5' : DataW.trod enc Tryz.prog W base (fun _ => true) held n 46 [c5] = some x5 := h5; obtain ⟨names, hnm, hnl⟩ := open_strso h4' z4; obtain ⟨kids, k, hk, hkd, hkl⟩ := open_els 6 (by omega) Tryz.underlying46 cellsV h5' z5 noV (fun n v cs => IsVo (fun b => b < W.heap.size) n W v cs ∧ Sml n v) fun q hq cs y _ h1 h2 => ih q (by omega) h1 h2; rw [hs2] at z3; have hsz := z3.string; rw [Array.length_toList] at hsz; rw [bytesV] at hkl; refine ⟨.mk a b c s names kids, ⟨c4, c5, rfl, wa, wb, wc, reach_le hsz, hnm, Els.P hkd fun _ _ hp => IsVo.more (by omega) hp.1⟩, hnl, (by show kids.length ≤ 140737488355328; exact reach_le (by omega)), fun y hy => ?_⟩; obtain ⟨cs, -, hp⟩ := els_all hkd y hy; exact Sml.mono (by omega) hp
end
end Vw
end Go.Proofs.YtpfkcfaifleliaaGreat

namespace Go.Proofs.YtpfkcfaifleliaaGreat
open Go.ChangeShapes Go.WideShapes Go.ChangeAt Go.RowKit
namespace Cl
open K
set_option maxRecDepth 100000
structure Stm where
  text : ByteArray
  params : List V
def noSt : Stm := ⟨ByteArray.empty, []⟩
abbrev stT : Nat := 67
def StP (E : Nat → Prop) (f : Nat) (w : World) (x : Stm) (cs : List Value) : Prop := ∃ pv, cs = [.string x.text, pv] ∧ x.text.size ≤ 140737488355328 ∧ Els 6 noV (IsVo E f w) E w pv x.params ∧ x.params.length ≤ 140737488355328 ∧ ∀ y ∈ x.params, Sml f y
theorem StP.more {E : Nat → Prop} {f f' : Nat} {w : World} {x : Stm} {cs : List Value} (hf : f ≤ f') (h : StP E f w x cs) : StP E f' w x cs := by
  obtain ⟨pv, h1, h2, h3, h4, h5⟩ := h; exact ⟨pv, h1, h2, Vw.Els.P h3 fun _ _ hp => Vw.IsVo.more hf hp, h4, fun y hy => Sml.mono hf (h5 y hy)⟩
theorem StP.keep {E E' : Nat → Prop} {f : Nat} {w w' : World} {x : Stm} {cs : List Value} (h : StP E f w x cs) {K : Nat → Prop} (hk : Keep K w w') (hK : ∀ b, E b → b < w.heap.size → K b) (hE : ∀ b, E b → E' b) : StP E' f w' x cs := by
  obtain ⟨pv, h1, h2, h3, h4, h5⟩ := h; exact ⟨pv, h1, h2, h3.keep hk hK hE fun _ _ hp => hp.keep hk hK hE, h4, h5⟩
def IsSts (E : Nat → Prop) (f : Nat) (w : World) (v : Value) (L : List Stm) : Prop := Els 2 noSt (StP E f w) E w v L
theorem IsSts.more {E : Nat → Prop} {f f' : Nat} {w : World} {v : Value} {L : List Stm} (hf : f ≤ f') (h : IsSts E f w v L) : IsSts E f' w v L := Vw.Els.P h fun _ _ hp => hp.more hf
theorem IsSts.keep {E E' : Nat → Prop} {f : Nat} {w w' : World} {v : Value} {L : List Stm} (h : IsSts E f w v L) {K : Nat → Prop} (hk : Keep K w w') (hK : ∀ b, E b → b < w.heap.size → K b) (hE : ∀ b, E b → E' b) : IsSts E' f w' v L := Go.Proofs.YtpfkcfaifleliaaGreat.K.Els.keep h hk hK hE fun _ _ hp => hp.keep hk hK hE
section
variable {H : Type} {enc : TypeId × Value → H} {W : World} {base : Nat} {held : Bool}
theorem open_stm {fuel : Nat} {cs : List Value} {x : DataW H × List MemPlace} (h : DataW.trod enc Tryz.prog W base (fun _ => true) held fuel stT cs = some x) (hz : WOk Tryz.prog stT x.1) :
    ∃ a, StP (fun b => b < W.heap.size) fuel W a cs := by
  obtain ⟨xs, n, rfl, rfl, hl, hxl, hx⟩ := DataW.trod_struct Tryz.underlying67 h; have hxl' : xs.length = 2 := hxl; have hcl : cs.length = 2 := hl.trans (by kernel_rfl); have e : ∀ i, i < 2 → ∃ y, xs[i]? = some y := fun i hi => ⟨xs[i], List.getElem?_eq_getElem (by omega)⟩; obtain ⟨x0, e0⟩ := e 0 (by omega); obtain ⟨x1, e1⟩ := e 1 (by omega); have h0 := hx 0 _ rfl; have h1 := hx 1 _ rfl; rw [e0] at h0; rw [e1] at h1; have z : ∀ {i : Nat} {f : Field} {y : DataW H × List MemPlace}, _ → xs[i]? = some y → WOk Tryz.prog f.type y.1 := fun {i f y} hf hy => WOk.agg Tryz.underlying67 hz (i := i) (f := f) hf (by rw [List.getElem?_map, hy]; rfl); have z0 : WOk Tryz.prog 9 x0.1 := z (i := 0) rfl e0; have z1 : WOk Tryz.prog 46 x1.1 := z (i := 1) rfl e1; obtain ⟨s, hs, hs2, -⟩ := DataW.trod_string Tryz.underlying9 h0; have t0 : cs[0]? = some (.string s) := take1 (by rw [← cellsS]; exact hs)
  match cs, hcl with
  | [c0, c1], _ =>
    simp at t0
    subst t0; have h1' : DataW.trod enc Tryz.prog W base (fun _ => true) held n 46 [c1] = some x1 := h1; obtain ⟨ps, k, hk, hpd, hpl⟩ := Vw.open_els 6 (by omega) Tryz.underlying46 cellsV h1' z1 noV (fun n v cs => IsVo (fun b => b < W.heap.size) n W v cs ∧ Sml n v) fun q hq cs y _ h1 h2 => Vw.open_valo q h1 h2; rw [hs2] at z0; have hsz := z0.string; rw [Array.length_toList] at hsz; rw [bytesV] at hpl; refine ⟨⟨s, ps⟩, c1, rfl, reach_le hsz, Vw.Els.P hpd fun _ _ hp => Vw.IsVo.more (by omega) hp.1, (by show ps.length ≤ 140737488355328; exact reach_le (by omega)), fun y hy => ?_⟩; obtain ⟨cs, -, hp⟩ := Vw.els_all hpd y hy; exact Sml.mono (by omega) hp
theorem open_job {b0 : Nat} {r : Reach} {v : Value} {d : DataW H} {p : List MemPlace} (hval : Value.okWide Tryz.prog W r b0 39 v) (h : DataW.Trod enc Tryz.prog W base (fun _ => true) held 39 v d p) :
    (∀ n ∈ d.weights Tryz.prog 39, n ≤ reachBytes) → ∃ f L, IsSts (fun b => b < W.heap.size) (f + 1) W v L ∧ L.length ≤ 140737488355328 := by
  intro hz; obtain ⟨a, len, cap, rfl⟩ := okWide_slice Tryz.underlying39 hval; obtain ⟨fuel, hf⟩ := h; obtain ⟨L, n, -, h1, h2⟩ := Vw.open_els (v := .slice a len cap) 2 (by omega) Tryz.underlying39 (by kernel_rfl) hf hz noSt (fun n => StP (fun b => b < W.heap.size) n W) fun n _ cs y _ ht hw => open_stm ht hw; rw [show Tryz.prog.bytesOf 67 = 40 by kernel_rfl] at h2; exact ⟨n, L, IsSts.more (by omega) h1, reach_le (by omega)⟩
theorem open_msg {b0 : Nat} {r : Reach} {v : Value} {d : DataW H} {p : List MemPlace} (hval : Value.okWide Tryz.prog W r b0 57 v) (h : DataW.Trod enc Tryz.prog W base (fun _ => true) held 57 v d p) :
    ∃ (a b : Int) (sp : Option Addr) (len cap : Nat), v = .agg #[.int .i64 a, .int .i64 b, .slice sp len cap] ∧ len ≤ cap ∧ cap ≤ 9223372036854775807 := by
  obtain ⟨cs, rfl, -⟩ := okWide_struct Tryz.underlying57 hval; obtain ⟨fuel, hf⟩ := h; have hf' : DataW.trod enc Tryz.prog W base (fun _ => true) held fuel 57 cs.toList = some (d, p) := hf; obtain ⟨xs, n, -, -, hl, hxl, hx⟩ := DataW.trod_struct Tryz.underlying57 hf'; have hxl' : xs.length = 3 := hxl; have hcl : cs.toList.length = 3 := hl.trans (by kernel_rfl); have e : ∀ i, i < 3 → ∃ y, xs[i]? = some y := fun i hi => ⟨xs[i], List.getElem?_eq_getElem (by omega)⟩; obtain ⟨x0, e0⟩ := e 0 (by omega); obtain ⟨x1, e1⟩ := e 1 (by omega); obtain ⟨x2, e2⟩ := e 2 (by omega); have h0 := hx 0 _ rfl; have h1 := hx 1 _ rfl; have h2 := hx 2 _ rfl; rw [e0] at h0; rw [e1] at h1; rw [e2] at h2; obtain ⟨a, ha, -, -⟩ := DataW.trod_int Tryz.underlying3 h0; obtain ⟨b, hb, -, -⟩ := DataW.trod_int Tryz.underlying3 h1; have t0 : cs.toList[0]? = some (.int .i64 a) := take1 (by rw [← cellsI]; exact ha); have t1 : cs.toList[1]? = some (.int .i64 b) := take1 (by rw [← cellsI]; exact hb); generalize hcs : cs.toList = cl at hcl h2 t0 t1
  match cl, hcl with
  | [c0, c1, c2], _ =>
    simp at t0 t1
    subst t0; subst t1; have h2' : DataW.trod enc Tryz.prog W base (fun _ => true) held n 47 [c2] = some x2 := h2; obtain ⟨sp, len, cap, rfl, hl1, hl2, -⟩ := open_sl2 1 (by omega) Tryz.underlying47 (by kernel_rfl) h2'; exact ⟨a, b, sp, len, cap, congrArg Value.agg (by rw [← Array.toArray_toList (xs := cs), hcs]), hl1, hl2⟩
end
end Cl
end Go.Proofs.YtpfkcfaifleliaaGreat
