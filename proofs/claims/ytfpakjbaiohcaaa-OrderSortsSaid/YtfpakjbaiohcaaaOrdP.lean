/- The document's order of values (chapter 5): Order. -/
import Derived.Test.YtfpakjbaiohcaaaOrdO
namespace Go.Proofs.Ytfpakjbaiohcaaa
open Go.RowKit
namespace K

theorem ordK_end {c : Nat → Int} {n n' : Nat} (h : ∀ j, j < min n n' → c j = 0) : ordK c n n' = sgn n n' := by
  have : firstBad ((List.range (min n n')).map c) = 0 := firstBad_zero.2 fun e he => by
    obtain ⟨j, hj, rfl⟩ := List.mem_map.1 he
    exact h j (List.mem_range.1 hj)
  unfold ordK
  rw [if_pos this]
theorem firstBad_at {c : Nat → Int} {m i : Nat} (hi : i < m) (h : ∀ j, j < i → c j = 0) (hn : c i ≠ 0) : firstBad ((List.range m).map c) = c i := by
  have g : ∀ j, j < m → ((List.range m).map c).getD j 0 = c j := fun j hj => by simp [hj]
  rw [firstBad_take (i := i) (by simpa using hi) (fun j hj => by rw [g j (by omega)]; exact h j hj) (by rw [g i hi]; exact hn), g i hi]
theorem ordK_at {c : Nat → Int} {n n' i : Nat} (hi : i < min n n') (h : ∀ j, j < i → c j = 0) (hn : c i ≠ 0) : ordK c n n' = c i := by
  have := firstBad_at hi h hn
  unfold ordK
  rw [this, if_neg hn]

set_option maxHeartbeats 4000000 in
theorem order_step (m : Nat) (ih : ∀ {f f' : Nat} {w0 w : World} {a b : V} {cs cs' : List Value}, IsV f w0 a cs → IsV f' w0 b cs' → Below w0.heap.size w0 w → chk m a = 0 → chk m b = 0 →
      Calls Try.prog 12 #[.agg cs.toArray, .agg cs'.toArray] w fun e w' => e = .returned (.int .i64 (ordV m a b)) ∧ Below w.heap.size w w')
    {f f' : Nat} {w0 w : World} {a b : V} {cs cs' : List Value} (hva : IsV (f + 1) w0 a cs) (hvb : IsV (f' + 1) w0 b cs') (hbel : Below w0.heap.size w0 w) (ha : chk (m + 1) a = 0) (hb : chk (m + 1) b = 0) :
    Calls Try.prog 12 #[.agg cs.toArray, .agg cs'.toArray] w fun e w' => e = .returned (.int .i64 (ordV (m + 1) a b)) ∧ Below w.heap.size w w' := by
  obtain ⟨sn, sk, rfl, na1, na2, na3, na4, hstr, hsix⟩ := hva
  obtain ⟨sn', sk', rfl, nb1, nb2, nb3, nb4, hstr', hsix'⟩ := hvb
  obtain ⟨a1, a2, a3, a4, a5, a6, a7, a8⟩ := shp_form (chk_shp ha)
  obtain ⟨b1, b2, b3, b4, b5, b6, b7, b8⟩ := shp_form (chk_shp hb)
  obtain ⟨sp, cap, rfl, hcap1, hcap2, hrow⟩ := hsix
  obtain ⟨sp', cap', rfl, hcap1', hcap2', hrow'⟩ := hsix'
  have ra : -9223372036854775808 ≤ a.n ∧ a.n ≤ 9223372036854775807 := by simp [Lit.wf, IntKind.min, IntKind.max, IntKind.bits, IntKind.signed] at na2; omega
  have rb : -9223372036854775808 ≤ b.n ∧ b.n ≤ 9223372036854775807 := by simp [Lit.wf, IntKind.min, IntKind.max, IntKind.bits, IntKind.signed] at nb2; omega
  have hsa : a.k = 3 ∨ a.k = 4 → 0 ≤ a.s ∧ a.s ≤ 18 := by
    rintro (h | h)
    · have := a3 h; omega
    · have := a4 h; omega
  have hsb : b.k = 3 ∨ b.k = 4 → 0 ≤ b.s ∧ b.s ≤ 18 := by
    rintro (h | h)
    · have := b3 h; omega
    · have := b4 h; omega
  clear a4 b4
  refine enter (args := [.agg (six a sn (.slice sp a.kids.length cap)).toArray, .agg (six b sn' (.slice sp' b.kids.length cap')).toArray]) Try.func12 rfl Try.ntmps12 rfl ?_
  repeat (first | ((with_reducible refine WL.topT ?_ ?_); omega) | ((with_reducible refine WL.topF ?_ ?_); omega) | ((with_reducible refine WL.top64 ?_ ?_); omega) | refine WC.seq ?_ | refine WC.block ?_ | refine WC.region ?_ | refine WL.nil ?_ | refine WC.skip ?_ | refine WC.exit ?_ | refine WC.ret ?_ | refine WQ.then rfl ?_ | refine WQ.thenExit ?_ | refine WQ.thenRet ?_ | refine WQ.blk ?_ | refine WQ.blkRet ?_ | refine WQ.blkHere rfl ?_ | refine WQ.blkOther rfl ?_ | refine WL.pure rfl rfl rfl rfl ?_ | refine WL.on rfl rfl ?_ | refine WL.off rfl rfl rfl ?_ | refine WC.condTrue rfl ?_ | refine WC.condFalse rfl ?_)
  refine WL.box rfl rfl rfl rfl rfl fun g w1 hf => ?_
  have hf1 : Fresh w g w1 37 (six a sn (.slice sp a.kids.length cap)) := hf
  clear hf
  repeat (first | ((with_reducible refine WL.topT ?_ ?_); omega) | ((with_reducible refine WL.topF ?_ ?_); omega) | ((with_reducible refine WL.top64 ?_ ?_); omega) | refine WC.seq ?_ | refine WC.block ?_ | refine WC.region ?_ | refine WL.nil ?_ | refine WC.skip ?_ | refine WC.exit ?_ | refine WC.ret ?_ | refine WQ.then rfl ?_ | refine WQ.thenExit ?_ | refine WQ.thenRet ?_ | refine WQ.blk ?_ | refine WQ.blkRet ?_ | refine WQ.blkHere rfl ?_ | refine WQ.blkOther rfl ?_ | refine WL.pure rfl rfl rfl rfl ?_ | refine WL.on rfl rfl ?_ | refine WL.off rfl rfl rfl ?_ | refine WC.condTrue rfl ?_ | refine WC.condFalse rfl ?_)
  refine WL.box rfl rfl rfl rfl rfl fun g2 w2 hf => ?_
  have hf2 : Fresh w1 g2 w2 37 (six b sn' (.slice sp' b.kids.length cap')) := hf
  clear hf
  have hg : w0.heap.size ≤ g := by rw [hf1.eq]; exact hbel.size
  have hg2 : w0.heap.size ≤ g2 := by rw [hf2.eq]; exact Nat.le_trans hbel.size hf1.below.size
  have hS2 : Below w.heap.size w w2 ∧ VBlk 37 w2 g (six a sn (.slice sp a.kids.length cap)) ∧ VBlk 37 w2 g2 (six b sn' (.slice sp' b.kids.length cap')) :=
    ⟨hf1.below.trans (hf2.below.mono hf1.below.size), hf1.blk.below hf2.below hf1.blk.lt, hf2.blk⟩
  clear hf1 hf2
  generalize hS : (fun wx : World => Below w.heap.size w wx ∧ VBlk 37 wx g (six a sn (.slice sp a.kids.length cap)) ∧ VBlk 37 wx g2 (six b sn' (.slice sp' b.kids.length cap'))) = S
  have hSb' : ∀ {wa wb : World}, S wa → Below wa.heap.size wa wb → S wb := by
    intro wa wb h hd
    subst hS
    exact ⟨h.1.trans (hd.mono h.1.size), h.2.1.below hd h.2.1.lt, h.2.2.below hd h.2.2.lt⟩
  have hSd : ∀ {wa wb}, S wa → Drew wa wb → S wb := fun h hd => hSb' h (hd.below _)
  have c0 : ∀ wx, S wx → wx.cell? ⟨g, 0, none⟩ = some (.int .i64 a.k) := fun wx h => by subst hS; exact h.2.1.cell 0 (by simp)
  have c1 : ∀ wx, S wx → wx.cell? ⟨g, 1, none⟩ = some (.int .i64 a.n) := fun wx h => by subst hS; exact h.2.1.cell 1 (by simp)
  have c3 : ∀ wx, S wx → wx.cell? ⟨g, 3, none⟩ = some (.string a.t) := fun wx h => by subst hS; exact h.2.1.cell 3 (by simp)
  have c4 : ∀ wx, S wx → wx.cell? ⟨g, 4, none⟩ = some sn := fun wx h => by subst hS; exact h.2.1.cell 4 (by simp)
  have c5 : ∀ wx, S wx → wx.cell? ⟨g, 5, none⟩ = some (.slice sp a.kids.length cap) := fun wx h => by subst hS; exact h.2.1.cell 5 (by simp)
  have d0 : ∀ wx, S wx → wx.cell? ⟨g2, 0, none⟩ = some (.int .i64 b.k) := fun wx h => by subst hS; exact h.2.2.cell 0 (by simp)
  have d1 : ∀ wx, S wx → wx.cell? ⟨g2, 1, none⟩ = some (.int .i64 b.n) := fun wx h => by subst hS; exact h.2.2.cell 1 (by simp)
  have d3 : ∀ wx, S wx → wx.cell? ⟨g2, 3, none⟩ = some (.string b.t) := fun wx h => by subst hS; exact h.2.2.cell 3 (by simp)
  have d4 : ∀ wx, S wx → wx.cell? ⟨g2, 4, none⟩ = some sn' := fun wx h => by subst hS; exact h.2.2.cell 4 (by simp)
  have d5 : ∀ wx, S wx → wx.cell? ⟨g2, 5, none⟩ = some (.slice sp' b.kids.length cap') := fun wx h => by subst hS; exact h.2.2.cell 5 (by simp)
  have cR : ∀ wx, S wx → wx.rangeAt g 0 (six a sn (.slice sp a.kids.length cap)) := fun wx h => by subst hS; exact VBlk.rangeAt h.2.1
  have dR : ∀ wx, S wx → wx.rangeAt g2 0 (six b sn' (.slice sp' b.kids.length cap')) := fun wx h => by subst hS; exact VBlk.rangeAt h.2.2
  have hSb : ∀ wx, S wx → Below w.heap.size w wx := fun wx h => by subst hS; exact h.1
  have hS0 : ∀ wx, S wx → Below w0.heap.size w0 wx := fun wx h => hbel.trans ((hSb _ h).mono hbel.size)
  replace hS2 : S w2 := by subst hS; exact hS2
  clear hS
  repeat (first | ((with_reducible refine WL.topT ?_ ?_); omega) | ((with_reducible refine WL.topF ?_ ?_); omega) | ((with_reducible refine WL.top64 ?_ ?_); omega) | refine WC.seq ?_ | refine WC.block ?_ | refine WC.region ?_ | refine WL.nil ?_ | refine WC.skip ?_ | refine WC.exit ?_ | refine WC.ret ?_ | refine WQ.then rfl ?_ | refine WQ.thenExit ?_ | refine WQ.thenRet ?_ | refine WQ.blk ?_ | refine WQ.blkRet ?_ | refine WQ.blkHere rfl ?_ | refine WQ.blkOther rfl ?_ | refine WL.pure rfl rfl rfl rfl ?_ | refine WL.on rfl rfl ?_ | refine WL.off rfl rfl rfl ?_ | refine WC.condTrue rfl ?_ | refine WC.condFalse rfl ?_)
  refine WC.drawn 5 S fun w3 hd3 => ?_
  have hS := hSd hS2 hd3
  (((first | refine WD.free 0 rfl (by kernel_rfl) rfl rfl (fun _ _ _ _ _ h => h) rfl rfl (.inr hS) ?_ | refine WD.skip 0 rfl (by kernel_rfl) rfl rfl (fun _ _ _ _ _ h => h) rfl (.inr hS) ?_); try (first | ((with_reducible refine WD.topT ?_ ?_); omega) | ((with_reducible refine WD.topF ?_ ?_); omega) | ((with_reducible refine WD.top64 ?_ ?_); omega))); ((first | refine WD.free 3 rfl (by kernel_rfl) rfl rfl (fun _ _ _ _ _ h => h) rfl rfl (.inr hS) ?_ | refine WD.skip 3 rfl (by kernel_rfl) rfl rfl (fun _ _ _ _ _ h => h) rfl (.inr hS) ?_); try (first | ((with_reducible refine WD.topT ?_ ?_); omega) | ((with_reducible refine WD.topF ?_ ?_); omega) | ((with_reducible refine WD.top64 ?_ ?_); omega))))
  refine WD.load 1 [2, 5, 6, 7] rfl (by kernel_rfl) rfl rfl (fun _ _ _ _ _ h => h) rfl rfl rfl rfl c0 hS ?_
  refine WD.load 4 [5, 6, 7] rfl (by kernel_rfl) rfl rfl (fun _ _ _ _ _ h => h) rfl rfl rfl rfl d0 hS ?_
  refine WD.one 2 (by kernel_rfl) rfl ?_
  refine WL.call rfl rfl rfl rfl rfl Try.func22 rfl (by kernel_rfl) (rclass_any _ w3) ?_
  rintro e _ ⟨rfl, rfl⟩
  refine ⟨_, rfl, ?_⟩
  refine WL.nil (WQ.dk (.inr hS) ?_)
  refine WD.one 5 (by kernel_rfl) rfl ?_
  refine WL.call rfl rfl rfl rfl rfl Try.func22 rfl (by kernel_rfl) (rclass_any _ w3) ?_
  rintro e _ ⟨rfl, rfl⟩
  refine ⟨_, rfl, ?_⟩
  refine WL.nil (WQ.dk (.inl rfl) ?_)
  (((first | refine WD.free 6 rfl (by kernel_rfl) rfl rfl (fun _ _ _ _ _ h => h) rfl rfl (.inl rfl) ?_ | refine WD.skip 6 rfl (by kernel_rfl) rfl rfl (fun _ _ _ _ _ h => h) rfl (.inl rfl) ?_); try (first | ((with_reducible refine WD.topT ?_ ?_); omega) | ((with_reducible refine WD.topF ?_ ?_); omega) | ((with_reducible refine WD.top64 ?_ ?_); omega))); ((first | refine WD.free 7 rfl (by kernel_rfl) rfl rfl (fun _ _ _ _ _ h => h) rfl rfl (.inl rfl) ?_ | refine WD.skip 7 rfl (by kernel_rfl) rfl rfl (fun _ _ _ _ _ h => h) rfl (.inl rfl) ?_); try (first | ((with_reducible refine WD.topT ?_ ?_); omega) | ((with_reducible refine WD.topF ?_ ?_); omega) | ((with_reducible refine WD.top64 ?_ ?_); omega))))
  refine WD.done (by kernel_rfl) ?_
  have hca : (clsI a.k = 3 ∧ (a.k = 3 ∨ a.k = 4)) ∨ (clsI a.k = a.k ∧ a.k ≠ 3 ∧ a.k ≠ 4) := by unfold clsI; split <;> omega
  have hcb : (clsI b.k = 3 ∧ (b.k = 3 ∨ b.k = 4)) ∨ (clsI b.k = b.k ∧ b.k ≠ 3 ∧ b.k ≠ 4) := by unfold clsI; split <;> omega
  unfold ordV
  generalize clsI a.k = ca at hca ⊢
  generalize clsI b.k = cb at hcb ⊢
  by_cases he : ca = cb
  case neg =>
    rw [if_neg he]
    repeat (first | ((with_reducible refine WL.topT ?_ ?_); omega) | ((with_reducible refine WL.topF ?_ ?_); omega) | ((with_reducible refine WL.top64 ?_ ?_); omega) | refine WC.seq ?_ | refine WC.block ?_ | refine WC.region ?_ | refine WL.nil ?_ | refine WC.skip ?_ | refine WC.exit ?_ | refine WC.ret ?_ | refine WQ.then rfl ?_ | refine WQ.thenExit ?_ | refine WQ.thenRet ?_ | refine WQ.blk ?_ | refine WQ.blkRet ?_ | refine WQ.blkHere rfl ?_ | refine WQ.blkOther rfl ?_ | refine WL.pure rfl rfl rfl rfl ?_ | refine WL.on rfl rfl ?_ | refine WL.off rfl rfl rfl ?_ | refine WC.condTrue rfl ?_ | refine WC.condFalse rfl ?_)
    refine WL.call rfl rfl rfl rfl rfl Try.func23 rfl (by kernel_rfl) (sign_any _ _ w3) ?_
    rintro e _ ⟨rfl, rfl⟩
    refine ⟨_, rfl, ?_⟩
    repeat (first | ((with_reducible refine WL.topT ?_ ?_); omega) | ((with_reducible refine WL.topF ?_ ?_); omega) | ((with_reducible refine WL.top64 ?_ ?_); omega) | refine WC.seq ?_ | refine WC.block ?_ | refine WC.region ?_ | refine WL.nil ?_ | refine WC.skip ?_ | refine WC.exit ?_ | refine WC.ret ?_ | refine WQ.then rfl ?_ | refine WQ.thenExit ?_ | refine WQ.thenRet ?_ | refine WQ.blk ?_ | refine WQ.blkRet ?_ | refine WQ.blkHere rfl ?_ | refine WQ.blkOther rfl ?_ | refine WL.pure rfl rfl rfl rfl ?_ | refine WL.on rfl rfl ?_ | refine WL.off rfl rfl rfl ?_ | refine WC.condTrue rfl ?_ | refine WC.condFalse rfl ?_)
    exact WQ.ret1 rfl rfl ⟨rfl, hSb _ hS⟩
  rw [if_pos he]
  by_cases q2 : ca = 2
  · rw [if_pos (show a.k = 2 ∨ a.k = 5 by omega)]
    repeat (first | ((with_reducible refine WL.topT ?_ ?_); omega) | ((with_reducible refine WL.topF ?_ ?_); omega) | ((with_reducible refine WL.top64 ?_ ?_); omega) | refine WC.seq ?_ | refine WC.block ?_ | refine WC.region ?_ | refine WL.nil ?_ | refine WC.skip ?_ | refine WC.exit ?_ | refine WC.ret ?_ | refine WQ.then rfl ?_ | refine WQ.thenExit ?_ | refine WQ.thenRet ?_ | refine WQ.blk ?_ | refine WQ.blkRet ?_ | refine WQ.blkHere rfl ?_ | refine WQ.blkOther rfl ?_ | refine WL.pure rfl rfl rfl rfl ?_ | refine WL.on rfl rfl ?_ | refine WL.off rfl rfl rfl ?_ | refine WC.condTrue rfl ?_ | refine WC.condFalse rfl ?_)
    refine WL.load rfl rfl rfl rfl rfl rfl (c1 _ hS) ?_
    repeat (first | ((with_reducible refine WL.topT ?_ ?_); omega) | ((with_reducible refine WL.topF ?_ ?_); omega) | ((with_reducible refine WL.top64 ?_ ?_); omega) | refine WC.seq ?_ | refine WC.block ?_ | refine WC.region ?_ | refine WL.nil ?_ | refine WC.skip ?_ | refine WC.exit ?_ | refine WC.ret ?_ | refine WQ.then rfl ?_ | refine WQ.thenExit ?_ | refine WQ.thenRet ?_ | refine WQ.blk ?_ | refine WQ.blkRet ?_ | refine WQ.blkHere rfl ?_ | refine WQ.blkOther rfl ?_ | refine WL.pure rfl rfl rfl rfl ?_ | refine WL.on rfl rfl ?_ | refine WL.off rfl rfl rfl ?_ | refine WC.condTrue rfl ?_ | refine WC.condFalse rfl ?_)
    refine WL.load rfl rfl rfl rfl rfl rfl (d1 _ hS) ?_
    refine WL.call rfl rfl rfl rfl rfl Try.func23 rfl (by kernel_rfl) (sign_any _ _ w3) ?_
    rintro e _ ⟨rfl, rfl⟩
    refine ⟨_, rfl, ?_⟩
    repeat (first | ((with_reducible refine WL.topT ?_ ?_); omega) | ((with_reducible refine WL.topF ?_ ?_); omega) | ((with_reducible refine WL.top64 ?_ ?_); omega) | refine WC.seq ?_ | refine WC.block ?_ | refine WC.region ?_ | refine WL.nil ?_ | refine WC.skip ?_ | refine WC.exit ?_ | refine WC.ret ?_ | refine WQ.then rfl ?_ | refine WQ.thenExit ?_ | refine WQ.thenRet ?_ | refine WQ.blk ?_ | refine WQ.blkRet ?_ | refine WQ.blkHere rfl ?_ | refine WQ.blkOther rfl ?_ | refine WL.pure rfl rfl rfl rfl ?_ | refine WL.on rfl rfl ?_ | refine WL.off rfl rfl rfl ?_ | refine WC.condTrue rfl ?_ | refine WC.condFalse rfl ?_)
    exact WQ.ret1 rfl rfl ⟨rfl, hSb _ hS⟩
  by_cases q5 : ca = 5
  · rw [if_pos (show a.k = 2 ∨ a.k = 5 by omega)]
    repeat (first | ((with_reducible refine WL.topT ?_ ?_); omega) | ((with_reducible refine WL.topF ?_ ?_); omega) | ((with_reducible refine WL.top64 ?_ ?_); omega) | refine WC.seq ?_ | refine WC.block ?_ | refine WC.region ?_ | refine WL.nil ?_ | refine WC.skip ?_ | refine WC.exit ?_ | refine WC.ret ?_ | refine WQ.then rfl ?_ | refine WQ.thenExit ?_ | refine WQ.thenRet ?_ | refine WQ.blk ?_ | refine WQ.blkRet ?_ | refine WQ.blkHere rfl ?_ | refine WQ.blkOther rfl ?_ | refine WL.pure rfl rfl rfl rfl ?_ | refine WL.on rfl rfl ?_ | refine WL.off rfl rfl rfl ?_ | refine WC.condTrue rfl ?_ | refine WC.condFalse rfl ?_)
    refine WL.load rfl rfl rfl rfl rfl rfl (c1 _ hS) ?_
    repeat (first | ((with_reducible refine WL.topT ?_ ?_); omega) | ((with_reducible refine WL.topF ?_ ?_); omega) | ((with_reducible refine WL.top64 ?_ ?_); omega) | refine WC.seq ?_ | refine WC.block ?_ | refine WC.region ?_ | refine WL.nil ?_ | refine WC.skip ?_ | refine WC.exit ?_ | refine WC.ret ?_ | refine WQ.then rfl ?_ | refine WQ.thenExit ?_ | refine WQ.thenRet ?_ | refine WQ.blk ?_ | refine WQ.blkRet ?_ | refine WQ.blkHere rfl ?_ | refine WQ.blkOther rfl ?_ | refine WL.pure rfl rfl rfl rfl ?_ | refine WL.on rfl rfl ?_ | refine WL.off rfl rfl rfl ?_ | refine WC.condTrue rfl ?_ | refine WC.condFalse rfl ?_)
    refine WL.load rfl rfl rfl rfl rfl rfl (d1 _ hS) ?_
    refine WL.call rfl rfl rfl rfl rfl Try.func23 rfl (by kernel_rfl) (sign_any _ _ w3) ?_
    rintro e _ ⟨rfl, rfl⟩
    refine ⟨_, rfl, ?_⟩
    repeat (first | ((with_reducible refine WL.topT ?_ ?_); omega) | ((with_reducible refine WL.topF ?_ ?_); omega) | ((with_reducible refine WL.top64 ?_ ?_); omega) | refine WC.seq ?_ | refine WC.block ?_ | refine WC.region ?_ | refine WL.nil ?_ | refine WC.skip ?_ | refine WC.exit ?_ | refine WC.ret ?_ | refine WQ.then rfl ?_ | refine WQ.thenExit ?_ | refine WQ.thenRet ?_ | refine WQ.blk ?_ | refine WQ.blkRet ?_ | refine WQ.blkHere rfl ?_ | refine WQ.blkOther rfl ?_ | refine WL.pure rfl rfl rfl rfl ?_ | refine WL.on rfl rfl ?_ | refine WL.off rfl rfl rfl ?_ | refine WC.condTrue rfl ?_ | refine WC.condFalse rfl ?_)
    exact WQ.ret1 rfl rfl ⟨rfl, hSb _ hS⟩
  rw [if_neg (show ¬ (a.k = 2 ∨ a.k = 5) by omega)]
  by_cases q3 : ca = 3
  · rw [if_pos (show a.k = 3 ∨ a.k = 4 by omega)]
    repeat (first | ((with_reducible refine WL.topT ?_ ?_); omega) | ((with_reducible refine WL.topF ?_ ?_); omega) | ((with_reducible refine WL.top64 ?_ ?_); omega) | refine WC.seq ?_ | refine WC.block ?_ | refine WC.region ?_ | refine WL.nil ?_ | refine WC.skip ?_ | refine WC.exit ?_ | refine WC.ret ?_ | refine WQ.then rfl ?_ | refine WQ.thenExit ?_ | refine WQ.thenRet ?_ | refine WQ.blk ?_ | refine WQ.blkRet ?_ | refine WQ.blkHere rfl ?_ | refine WQ.blkOther rfl ?_ | refine WL.pure rfl rfl rfl rfl ?_ | refine WL.on rfl rfl ?_ | refine WL.off rfl rfl rfl ?_ | refine WC.condTrue rfl ?_ | refine WC.condFalse rfl ?_)
    refine WL.loadMid rfl rfl rfl rfl rfl rfl (cR _ hS) rfl ?_
    refine WL.loadMid rfl rfl rfl rfl rfl rfl (dR _ hS) rfl ?_
    refine WL.call rfl rfl rfl rfl rfl Try.func24 rfl (by kernel_rfl) (numbers_any a b sn _ sn' _ w3 ra rb (hsa (by omega)) (hsb (by omega))) ?_
    rintro e w4 ⟨rfl, hb4⟩
    refine ⟨_, rfl, ?_⟩
    repeat (first | ((with_reducible refine WL.topT ?_ ?_); omega) | ((with_reducible refine WL.topF ?_ ?_); omega) | ((with_reducible refine WL.top64 ?_ ?_); omega) | refine WC.seq ?_ | refine WC.block ?_ | refine WC.region ?_ | refine WL.nil ?_ | refine WC.skip ?_ | refine WC.exit ?_ | refine WC.ret ?_ | refine WQ.then rfl ?_ | refine WQ.thenExit ?_ | refine WQ.thenRet ?_ | refine WQ.blk ?_ | refine WQ.blkRet ?_ | refine WQ.blkHere rfl ?_ | refine WQ.blkOther rfl ?_ | refine WL.pure rfl rfl rfl rfl ?_ | refine WL.on rfl rfl ?_ | refine WL.off rfl rfl rfl ?_ | refine WC.condTrue rfl ?_ | refine WC.condFalse rfl ?_)
    exact WQ.ret1 rfl rfl ⟨rfl, hSb _ (hSb' hS hb4)⟩
  rw [if_neg (show ¬ (a.k = 3 ∨ a.k = 4) by omega)]
  by_cases q6 : ca = 6
  · rw [if_pos (show a.k = 6 ∨ a.k = 7 by omega)]
    repeat (first | ((with_reducible refine WL.topT ?_ ?_); omega) | ((with_reducible refine WL.topF ?_ ?_); omega) | ((with_reducible refine WL.top64 ?_ ?_); omega) | refine WC.seq ?_ | refine WC.block ?_ | refine WC.region ?_ | refine WL.nil ?_ | refine WC.skip ?_ | refine WC.exit ?_ | refine WC.ret ?_ | refine WQ.then rfl ?_ | refine WQ.thenExit ?_ | refine WQ.thenRet ?_ | refine WQ.blk ?_ | refine WQ.blkRet ?_ | refine WQ.blkHere rfl ?_ | refine WQ.blkOther rfl ?_ | refine WL.pure rfl rfl rfl rfl ?_ | refine WL.on rfl rfl ?_ | refine WL.off rfl rfl rfl ?_ | refine WC.condTrue rfl ?_ | refine WC.condFalse rfl ?_)
    refine WL.load rfl rfl rfl rfl rfl rfl (c3 _ hS) ?_
    repeat (first | ((with_reducible refine WL.topT ?_ ?_); omega) | ((with_reducible refine WL.topF ?_ ?_); omega) | ((with_reducible refine WL.top64 ?_ ?_); omega) | refine WC.seq ?_ | refine WC.block ?_ | refine WC.region ?_ | refine WL.nil ?_ | refine WC.skip ?_ | refine WC.exit ?_ | refine WC.ret ?_ | refine WQ.then rfl ?_ | refine WQ.thenExit ?_ | refine WQ.thenRet ?_ | refine WQ.blk ?_ | refine WQ.blkRet ?_ | refine WQ.blkHere rfl ?_ | refine WQ.blkOther rfl ?_ | refine WL.pure rfl rfl rfl rfl ?_ | refine WL.on rfl rfl ?_ | refine WL.off rfl rfl rfl ?_ | refine WC.condTrue rfl ?_ | refine WC.condFalse rfl ?_)
    refine WL.load rfl rfl rfl rfl rfl rfl (d3 _ hS) ?_
    refine WL.call rfl rfl rfl rfl rfl Try.func25 rfl (by kernel_rfl) (text5_any _ _ w3) ?_
    rintro e _ ⟨rfl, rfl⟩
    refine ⟨_, rfl, ?_⟩
    repeat (first | ((with_reducible refine WL.topT ?_ ?_); omega) | ((with_reducible refine WL.topF ?_ ?_); omega) | ((with_reducible refine WL.top64 ?_ ?_); omega) | refine WC.seq ?_ | refine WC.block ?_ | refine WC.region ?_ | refine WL.nil ?_ | refine WC.skip ?_ | refine WC.exit ?_ | refine WC.ret ?_ | refine WQ.then rfl ?_ | refine WQ.thenExit ?_ | refine WQ.thenRet ?_ | refine WQ.blk ?_ | refine WQ.blkRet ?_ | refine WQ.blkHere rfl ?_ | refine WQ.blkOther rfl ?_ | refine WL.pure rfl rfl rfl rfl ?_ | refine WL.on rfl rfl ?_ | refine WL.off rfl rfl rfl ?_ | refine WC.condTrue rfl ?_ | refine WC.condFalse rfl ?_)
    exact WQ.ret1 rfl rfl ⟨rfl, hSb _ hS⟩
  by_cases q7 : ca = 7
  · rw [if_pos (show a.k = 6 ∨ a.k = 7 by omega)]
    repeat (first | ((with_reducible refine WL.topT ?_ ?_); omega) | ((with_reducible refine WL.topF ?_ ?_); omega) | ((with_reducible refine WL.top64 ?_ ?_); omega) | refine WC.seq ?_ | refine WC.block ?_ | refine WC.region ?_ | refine WL.nil ?_ | refine WC.skip ?_ | refine WC.exit ?_ | refine WC.ret ?_ | refine WQ.then rfl ?_ | refine WQ.thenExit ?_ | refine WQ.thenRet ?_ | refine WQ.blk ?_ | refine WQ.blkRet ?_ | refine WQ.blkHere rfl ?_ | refine WQ.blkOther rfl ?_ | refine WL.pure rfl rfl rfl rfl ?_ | refine WL.on rfl rfl ?_ | refine WL.off rfl rfl rfl ?_ | refine WC.condTrue rfl ?_ | refine WC.condFalse rfl ?_)
    refine WL.load rfl rfl rfl rfl rfl rfl (c3 _ hS) ?_
    repeat (first | ((with_reducible refine WL.topT ?_ ?_); omega) | ((with_reducible refine WL.topF ?_ ?_); omega) | ((with_reducible refine WL.top64 ?_ ?_); omega) | refine WC.seq ?_ | refine WC.block ?_ | refine WC.region ?_ | refine WL.nil ?_ | refine WC.skip ?_ | refine WC.exit ?_ | refine WC.ret ?_ | refine WQ.then rfl ?_ | refine WQ.thenExit ?_ | refine WQ.thenRet ?_ | refine WQ.blk ?_ | refine WQ.blkRet ?_ | refine WQ.blkHere rfl ?_ | refine WQ.blkOther rfl ?_ | refine WL.pure rfl rfl rfl rfl ?_ | refine WL.on rfl rfl ?_ | refine WL.off rfl rfl rfl ?_ | refine WC.condTrue rfl ?_ | refine WC.condFalse rfl ?_)
    refine WL.load rfl rfl rfl rfl rfl rfl (d3 _ hS) ?_
    refine WL.call rfl rfl rfl rfl rfl Try.func25 rfl (by kernel_rfl) (text5_any _ _ w3) ?_
    rintro e _ ⟨rfl, rfl⟩
    refine ⟨_, rfl, ?_⟩
    repeat (first | ((with_reducible refine WL.topT ?_ ?_); omega) | ((with_reducible refine WL.topF ?_ ?_); omega) | ((with_reducible refine WL.top64 ?_ ?_); omega) | refine WC.seq ?_ | refine WC.block ?_ | refine WC.region ?_ | refine WL.nil ?_ | refine WC.skip ?_ | refine WC.exit ?_ | refine WC.ret ?_ | refine WQ.then rfl ?_ | refine WQ.thenExit ?_ | refine WQ.thenRet ?_ | refine WQ.blk ?_ | refine WQ.blkRet ?_ | refine WQ.blkHere rfl ?_ | refine WQ.blkOther rfl ?_ | refine WL.pure rfl rfl rfl rfl ?_ | refine WL.on rfl rfl ?_ | refine WL.off rfl rfl rfl ?_ | refine WC.condTrue rfl ?_ | refine WC.condFalse rfl ?_)
    exact WQ.ret1 rfl rfl ⟨rfl, hSb _ hS⟩
  rw [if_neg (show ¬ (a.k = 6 ∨ a.k = 7) by omega)]
  have hak : ca = a.k := by omega
  generalize hD : ordP (ordV m) (decide (a.k = 9)) a b = D
  repeat (first | ((with_reducible refine WL.topT ?_ ?_); omega) | ((with_reducible refine WL.topF ?_ ?_); omega) | ((with_reducible refine WL.top64 ?_ ?_); omega) | refine WC.seq ?_ | refine WC.block ?_ | refine WC.region ?_ | refine WL.nil ?_ | refine WC.skip ?_ | refine WC.exit ?_ | refine WC.ret ?_ | refine WQ.then rfl ?_ | refine WQ.thenExit ?_ | refine WQ.thenRet ?_ | refine WQ.blk ?_ | refine WQ.blkRet ?_ | refine WQ.blkHere rfl ?_ | refine WQ.blkOther rfl ?_ | refine WL.pure rfl rfl rfl rfl ?_ | refine WL.on rfl rfl ?_ | refine WL.off rfl rfl rfl ?_ | refine WC.condTrue rfl ?_ | refine WC.condFalse rfl ?_)
  refine WC.loop (fun i : Nat => [(2, .pointer (some ⟨g, 0, none⟩)), (3, .pointer (some ⟨g2, 0, none⟩)), (5, .int .i64 ca), (7, .int .i64 i)])
    (fun i w' => i ≤ a.kids.length ∧ i ≤ b.kids.length ∧ S w' ∧ ∀ j, j < i → D j = 0) (fun i => a.kids.length - i) 0 ⟨rfl, rfl, rfl, rfl, trivial⟩ ⟨Nat.zero_le _, Nat.zero_le _, hS, fun j hj => absurd hj (by omega)⟩ ?_
  clear hS hd3 hS2
  rintro i wr ⟨hi, hi', hS, hall⟩
  by_cases h1 : i < a.kids.length
  case neg =>
    repeat (first | ((with_reducible refine WL.topT ?_ ?_); omega) | ((with_reducible refine WL.topF ?_ ?_); omega) | ((with_reducible refine WL.top64 ?_ ?_); omega) | refine WC.seq ?_ | refine WC.block ?_ | refine WC.region ?_ | refine WL.nil ?_ | refine WC.skip ?_ | refine WC.exit ?_ | refine WC.ret ?_ | refine WQ.then rfl ?_ | refine WQ.thenExit ?_ | refine WQ.thenRet ?_ | refine WQ.blk ?_ | refine WQ.blkRet ?_ | refine WQ.blkHere rfl ?_ | refine WQ.blkOther rfl ?_ | refine WL.pure rfl rfl rfl rfl ?_ | refine WL.on rfl rfl ?_ | refine WL.off rfl rfl rfl ?_ | refine WC.condTrue rfl ?_ | refine WC.condFalse rfl ?_)
    refine WL.load rfl rfl rfl rfl rfl rfl (c5 _ hS) ?_
    repeat (first | ((with_reducible refine WL.topT ?_ ?_); omega) | ((with_reducible refine WL.topF ?_ ?_); omega) | ((with_reducible refine WL.top64 ?_ ?_); omega) | refine WC.seq ?_ | refine WC.block ?_ | refine WC.region ?_ | refine WL.nil ?_ | refine WC.skip ?_ | refine WC.exit ?_ | refine WC.ret ?_ | refine WQ.then rfl ?_ | refine WQ.thenExit ?_ | refine WQ.thenRet ?_ | refine WQ.blk ?_ | refine WQ.blkRet ?_ | refine WQ.blkHere rfl ?_ | refine WQ.blkOther rfl ?_ | refine WL.pure rfl rfl rfl rfl ?_ | refine WL.on rfl rfl ?_ | refine WL.off rfl rfl rfl ?_ | refine WC.condTrue rfl ?_ | refine WC.condFalse rfl ?_)
    refine WL.load rfl rfl rfl rfl rfl rfl (c5 _ hS) ?_
    repeat (first | ((with_reducible refine WL.topT ?_ ?_); omega) | ((with_reducible refine WL.topF ?_ ?_); omega) | ((with_reducible refine WL.top64 ?_ ?_); omega) | refine WC.seq ?_ | refine WC.block ?_ | refine WC.region ?_ | refine WL.nil ?_ | refine WC.skip ?_ | refine WC.exit ?_ | refine WC.ret ?_ | refine WQ.then rfl ?_ | refine WQ.thenExit ?_ | refine WQ.thenRet ?_ | refine WQ.blk ?_ | refine WQ.blkRet ?_ | refine WQ.blkHere rfl ?_ | refine WQ.blkOther rfl ?_ | refine WL.pure rfl rfl rfl rfl ?_ | refine WL.on rfl rfl ?_ | refine WL.off rfl rfl rfl ?_ | refine WC.condTrue rfl ?_ | refine WC.condFalse rfl ?_)
    refine WL.load rfl rfl rfl rfl rfl rfl (d5 _ hS) ?_
    repeat (first | ((with_reducible refine WL.topT ?_ ?_); omega) | ((with_reducible refine WL.topF ?_ ?_); omega) | ((with_reducible refine WL.top64 ?_ ?_); omega) | refine WC.seq ?_ | refine WC.block ?_ | refine WC.region ?_ | refine WL.nil ?_ | refine WC.skip ?_ | refine WC.exit ?_ | refine WC.ret ?_ | refine WQ.then rfl ?_ | refine WQ.thenExit ?_ | refine WQ.thenRet ?_ | refine WQ.blk ?_ | refine WQ.blkRet ?_ | refine WQ.blkHere rfl ?_ | refine WQ.blkOther rfl ?_ | refine WL.pure rfl rfl rfl rfl ?_ | refine WL.on rfl rfl ?_ | refine WL.off rfl rfl rfl ?_ | refine WC.condTrue rfl ?_ | refine WC.condFalse rfl ?_)
    refine WL.call rfl rfl rfl rfl rfl Try.func23 rfl (by kernel_rfl) (sign_any _ _ wr) ?_
    rintro e _ ⟨rfl, rfl⟩
    refine ⟨_, rfl, ?_⟩
    repeat (first | ((with_reducible refine WL.topT ?_ ?_); omega) | ((with_reducible refine WL.topF ?_ ?_); omega) | ((with_reducible refine WL.top64 ?_ ?_); omega) | refine WC.seq ?_ | refine WC.block ?_ | refine WC.region ?_ | refine WL.nil ?_ | refine WC.skip ?_ | refine WC.exit ?_ | refine WC.ret ?_ | refine WQ.then rfl ?_ | refine WQ.thenExit ?_ | refine WQ.thenRet ?_ | refine WQ.blk ?_ | refine WQ.blkRet ?_ | refine WQ.blkHere rfl ?_ | refine WQ.blkOther rfl ?_ | refine WL.pure rfl rfl rfl rfl ?_ | refine WL.on rfl rfl ?_ | refine WL.off rfl rfl rfl ?_ | refine WC.condTrue rfl ?_ | refine WC.condFalse rfl ?_)
    exact WQ.ret1 rfl rfl ⟨ret_i64 (ordK_end fun j hj => hall j (by omega)).symm, hSb _ hS⟩
  by_cases h2 : i < b.kids.length
  case neg =>
    repeat (first | ((with_reducible refine WL.topT ?_ ?_); omega) | ((with_reducible refine WL.topF ?_ ?_); omega) | ((with_reducible refine WL.top64 ?_ ?_); omega) | refine WC.seq ?_ | refine WC.block ?_ | refine WC.region ?_ | refine WL.nil ?_ | refine WC.skip ?_ | refine WC.exit ?_ | refine WC.ret ?_ | refine WQ.then rfl ?_ | refine WQ.thenExit ?_ | refine WQ.thenRet ?_ | refine WQ.blk ?_ | refine WQ.blkRet ?_ | refine WQ.blkHere rfl ?_ | refine WQ.blkOther rfl ?_ | refine WL.pure rfl rfl rfl rfl ?_ | refine WL.on rfl rfl ?_ | refine WL.off rfl rfl rfl ?_ | refine WC.condTrue rfl ?_ | refine WC.condFalse rfl ?_)
    refine WL.load rfl rfl rfl rfl rfl rfl (c5 _ hS) ?_
    repeat (first | ((with_reducible refine WL.topT ?_ ?_); omega) | ((with_reducible refine WL.topF ?_ ?_); omega) | ((with_reducible refine WL.top64 ?_ ?_); omega) | refine WC.seq ?_ | refine WC.block ?_ | refine WC.region ?_ | refine WL.nil ?_ | refine WC.skip ?_ | refine WC.exit ?_ | refine WC.ret ?_ | refine WQ.then rfl ?_ | refine WQ.thenExit ?_ | refine WQ.thenRet ?_ | refine WQ.blk ?_ | refine WQ.blkRet ?_ | refine WQ.blkHere rfl ?_ | refine WQ.blkOther rfl ?_ | refine WL.pure rfl rfl rfl rfl ?_ | refine WL.on rfl rfl ?_ | refine WL.off rfl rfl rfl ?_ | refine WC.condTrue rfl ?_ | refine WC.condFalse rfl ?_)
    refine WL.load rfl rfl rfl rfl rfl rfl (d5 _ hS) ?_
    repeat (first | ((with_reducible refine WL.topT ?_ ?_); omega) | ((with_reducible refine WL.topF ?_ ?_); omega) | ((with_reducible refine WL.top64 ?_ ?_); omega) | refine WC.seq ?_ | refine WC.block ?_ | refine WC.region ?_ | refine WL.nil ?_ | refine WC.skip ?_ | refine WC.exit ?_ | refine WC.ret ?_ | refine WQ.then rfl ?_ | refine WQ.thenExit ?_ | refine WQ.thenRet ?_ | refine WQ.blk ?_ | refine WQ.blkRet ?_ | refine WQ.blkHere rfl ?_ | refine WQ.blkOther rfl ?_ | refine WL.pure rfl rfl rfl rfl ?_ | refine WL.on rfl rfl ?_ | refine WL.off rfl rfl rfl ?_ | refine WC.condTrue rfl ?_ | refine WC.condFalse rfl ?_)
    refine WL.load rfl rfl rfl rfl rfl rfl (c5 _ hS) ?_
    repeat (first | ((with_reducible refine WL.topT ?_ ?_); omega) | ((with_reducible refine WL.topF ?_ ?_); omega) | ((with_reducible refine WL.top64 ?_ ?_); omega) | refine WC.seq ?_ | refine WC.block ?_ | refine WC.region ?_ | refine WL.nil ?_ | refine WC.skip ?_ | refine WC.exit ?_ | refine WC.ret ?_ | refine WQ.then rfl ?_ | refine WQ.thenExit ?_ | refine WQ.thenRet ?_ | refine WQ.blk ?_ | refine WQ.blkRet ?_ | refine WQ.blkHere rfl ?_ | refine WQ.blkOther rfl ?_ | refine WL.pure rfl rfl rfl rfl ?_ | refine WL.on rfl rfl ?_ | refine WL.off rfl rfl rfl ?_ | refine WC.condTrue rfl ?_ | refine WC.condFalse rfl ?_)
    refine WL.load rfl rfl rfl rfl rfl rfl (d5 _ hS) ?_
    repeat (first | ((with_reducible refine WL.topT ?_ ?_); omega) | ((with_reducible refine WL.topF ?_ ?_); omega) | ((with_reducible refine WL.top64 ?_ ?_); omega) | refine WC.seq ?_ | refine WC.block ?_ | refine WC.region ?_ | refine WL.nil ?_ | refine WC.skip ?_ | refine WC.exit ?_ | refine WC.ret ?_ | refine WQ.then rfl ?_ | refine WQ.thenExit ?_ | refine WQ.thenRet ?_ | refine WQ.blk ?_ | refine WQ.blkRet ?_ | refine WQ.blkHere rfl ?_ | refine WQ.blkOther rfl ?_ | refine WL.pure rfl rfl rfl rfl ?_ | refine WL.on rfl rfl ?_ | refine WL.off rfl rfl rfl ?_ | refine WC.condTrue rfl ?_ | refine WC.condFalse rfl ?_)
    refine WL.call rfl rfl rfl rfl rfl Try.func23 rfl (by kernel_rfl) (sign_any _ _ wr) ?_
    rintro e _ ⟨rfl, rfl⟩
    refine ⟨_, rfl, ?_⟩
    repeat (first | ((with_reducible refine WL.topT ?_ ?_); omega) | ((with_reducible refine WL.topF ?_ ?_); omega) | ((with_reducible refine WL.top64 ?_ ?_); omega) | refine WC.seq ?_ | refine WC.block ?_ | refine WC.region ?_ | refine WL.nil ?_ | refine WC.skip ?_ | refine WC.exit ?_ | refine WC.ret ?_ | refine WQ.then rfl ?_ | refine WQ.thenExit ?_ | refine WQ.thenRet ?_ | refine WQ.blk ?_ | refine WQ.blkRet ?_ | refine WQ.blkHere rfl ?_ | refine WQ.blkOther rfl ?_ | refine WL.pure rfl rfl rfl rfl ?_ | refine WL.on rfl rfl ?_ | refine WL.off rfl rfl rfl ?_ | refine WC.condTrue rfl ?_ | refine WC.condFalse rfl ?_)
    exact WQ.ret1 rfl rfl ⟨ret_i64 (ordK_end fun j hj => hall j (by omega)).symm, hSb _ hS⟩
  obtain ⟨kb, ko, rfl, hkb, hcells⟩ := hrow (by omega)
  obtain ⟨kb', ko', rfl, hkb', hcells'⟩ := hrow' (by omega)
  clear hrow hrow'
  obtain ⟨c, hc6, hci, hcr⟩ := hcells i h1
  obtain ⟨c', hc6', hci', hcr'⟩ := hcells' i h2
  have kR : ∀ wx, S wx → wx.rangeAt kb (ko + i * 6) c := fun wx h j u hu => by rw [(hS0 _ h).cell (p := ⟨kb, ko + i * 6 + j, none⟩) hkb]; exact hcr j u hu
  have kR' : ∀ wx, S wx → wx.rangeAt kb' (ko' + i * 6) c' := fun wx h j u hu => by rw [(hS0 _ h).cell (p := ⟨kb', ko' + i * 6 + j, none⟩) hkb']; exact hcr' j u hu
  repeat (first | ((with_reducible refine WL.topT ?_ ?_); omega) | ((with_reducible refine WL.topF ?_ ?_); omega) | ((with_reducible refine WL.top64 ?_ ?_); omega) | refine WC.seq ?_ | refine WC.block ?_ | refine WC.region ?_ | refine WL.nil ?_ | refine WC.skip ?_ | refine WC.exit ?_ | refine WC.ret ?_ | refine WQ.then rfl ?_ | refine WQ.thenExit ?_ | refine WQ.thenRet ?_ | refine WQ.blk ?_ | refine WQ.blkRet ?_ | refine WQ.blkHere rfl ?_ | refine WQ.blkOther rfl ?_ | refine WL.pure rfl rfl rfl rfl ?_ | refine WL.on rfl rfl ?_ | refine WL.off rfl rfl rfl ?_ | refine WC.condTrue rfl ?_ | refine WC.condFalse rfl ?_)
  refine WL.load rfl rfl rfl rfl rfl rfl (c5 _ hS) ?_
  repeat (first | ((with_reducible refine WL.topT ?_ ?_); omega) | ((with_reducible refine WL.topF ?_ ?_); omega) | ((with_reducible refine WL.top64 ?_ ?_); omega) | refine WC.seq ?_ | refine WC.block ?_ | refine WC.region ?_ | refine WL.nil ?_ | refine WC.skip ?_ | refine WC.exit ?_ | refine WC.ret ?_ | refine WQ.then rfl ?_ | refine WQ.thenExit ?_ | refine WQ.thenRet ?_ | refine WQ.blk ?_ | refine WQ.blkRet ?_ | refine WQ.blkHere rfl ?_ | refine WQ.blkOther rfl ?_ | refine WL.pure rfl rfl rfl rfl ?_ | refine WL.on rfl rfl ?_ | refine WL.off rfl rfl rfl ?_ | refine WC.condTrue rfl ?_ | refine WC.condFalse rfl ?_)
  refine WL.load rfl rfl rfl rfl rfl rfl (d5 _ hS) ?_
  repeat (first | ((with_reducible refine WL.topT ?_ ?_); omega) | ((with_reducible refine WL.topF ?_ ?_); omega) | ((with_reducible refine WL.top64 ?_ ?_); omega) | refine WC.seq ?_ | refine WC.block ?_ | refine WC.region ?_ | refine WL.nil ?_ | refine WC.skip ?_ | refine WC.exit ?_ | refine WC.ret ?_ | refine WQ.then rfl ?_ | refine WQ.thenExit ?_ | refine WQ.thenRet ?_ | refine WQ.blk ?_ | refine WQ.blkRet ?_ | refine WQ.blkHere rfl ?_ | refine WQ.blkOther rfl ?_ | refine WL.pure rfl rfl rfl rfl ?_ | refine WL.on rfl rfl ?_ | refine WL.off rfl rfl rfl ?_ | refine WC.condTrue rfl ?_ | refine WC.condFalse rfl ?_)
  -- the names first, in a Struct; then the kids
  by_cases q9 : ca = 9
  · skip
    have l1 : a.names.length = a.kids.length := (a8 (by omega)).1
    have l2 : b.names.length = b.kids.length := (b8 (by omega)).1
    have p1 : 0 < a.names.length := by omega
    have p2 : 0 < b.names.length := by omega
    obtain ⟨nsp, ncap, rfl, hnc1, hnc2, hnsz, hnrow⟩ := hstr
    obtain ⟨nsp', ncap', rfl, hnc1', hnc2', hnsz', hnrow'⟩ := hstr'
    obtain ⟨nb, no, rfl, hnb, hnc⟩ := hnrow p1
    obtain ⟨nb', no', rfl, hnb', hnc'⟩ := hnrow' p2
    clear hnrow hnrow'
    refine WC.condT rfl q9 ?_
    repeat (first | ((with_reducible refine WL.topT ?_ ?_); omega) | ((with_reducible refine WL.topF ?_ ?_); omega) | ((with_reducible refine WL.top64 ?_ ?_); omega) | refine WC.seq ?_ | refine WC.block ?_ | refine WC.region ?_ | refine WL.nil ?_ | refine WC.skip ?_ | refine WC.exit ?_ | refine WC.ret ?_ | refine WQ.then rfl ?_ | refine WQ.thenExit ?_ | refine WQ.thenRet ?_ | refine WQ.blk ?_ | refine WQ.blkRet ?_ | refine WQ.blkHere rfl ?_ | refine WQ.blkOther rfl ?_ | refine WL.pure rfl rfl rfl rfl ?_ | refine WL.on rfl rfl ?_ | refine WL.off rfl rfl rfl ?_ | refine WC.condTrue rfl ?_ | refine WC.condFalse rfl ?_)
    refine WC.drawn 10 S fun wd hdd => ?_
    replace hS := hSd hS hdd
    (((first | refine WD.free 0 rfl (by kernel_rfl) rfl rfl (fun _ _ _ _ _ h => h) rfl rfl (.inr hS) ?_ | refine WD.skip 0 rfl (by kernel_rfl) rfl rfl (fun _ _ _ _ _ h => h) rfl (.inr hS) ?_); try (first | ((with_reducible refine WD.topT ?_ ?_); omega) | ((with_reducible refine WD.topF ?_ ?_); omega) | ((with_reducible refine WD.top64 ?_ ?_); omega))); ((first | refine WD.free 2 rfl (by kernel_rfl) rfl rfl (fun _ _ _ _ _ h => h) rfl rfl (.inr hS) ?_ | refine WD.skip 2 rfl (by kernel_rfl) rfl rfl (fun _ _ _ _ _ h => h) rfl (.inr hS) ?_); try (first | ((with_reducible refine WD.topT ?_ ?_); omega) | ((with_reducible refine WD.topF ?_ ?_); omega) | ((with_reducible refine WD.top64 ?_ ?_); omega))); ((first | refine WD.free 5 rfl (by kernel_rfl) rfl rfl (fun _ _ _ _ _ h => h) rfl rfl (.inr hS) ?_ | refine WD.skip 5 rfl (by kernel_rfl) rfl rfl (fun _ _ _ _ _ h => h) rfl (.inr hS) ?_); try (first | ((with_reducible refine WD.topT ?_ ?_); omega) | ((with_reducible refine WD.topF ?_ ?_); omega) | ((with_reducible refine WD.top64 ?_ ?_); omega))); ((first | refine WD.free 7 rfl (by kernel_rfl) rfl rfl (fun _ _ _ _ _ h => h) rfl rfl (.inr hS) ?_ | refine WD.skip 7 rfl (by kernel_rfl) rfl rfl (fun _ _ _ _ _ h => h) rfl (.inr hS) ?_); try (first | ((with_reducible refine WD.topT ?_ ?_); omega) | ((with_reducible refine WD.topF ?_ ?_); omega) | ((with_reducible refine WD.top64 ?_ ?_); omega))))
    refine WD.load 1 [3, 4, 10, 11] rfl (by kernel_rfl) rfl rfl (fun _ _ _ _ _ h => h) rfl rfl rfl rfl c4 hS ?_
    refine WD.idx 3 i (no + i) rfl (by kernel_rfl) rfl rfl (fun _ _ _ _ _ h => h) rfl rfl rfl rfl rfl rfl (by omega) (by omega) (.inr hS) ?_
    refine WD.load 4 [10, 11] rfl (by kernel_rfl) rfl rfl (fun _ _ _ _ _ h => h) rfl rfl rfl rfl (fun wx hx => ((hS0 _ hx).cell (p := ⟨nb, no + i, none⟩) hnb).trans (hnc i (by omega))) hS ?_
    refine WD.load 6 [8, 9, 10, 11] rfl (by kernel_rfl) rfl rfl (fun _ _ _ _ _ h => h) rfl rfl rfl rfl d4 hS ?_
    refine WD.idx 8 i (no' + i) rfl (by kernel_rfl) rfl rfl (fun _ _ _ _ _ h => h) rfl rfl rfl rfl rfl rfl (by omega) (by omega) (.inr hS) ?_
    refine WD.load 9 [10, 11] rfl (by kernel_rfl) rfl rfl (fun _ _ _ _ _ h => h) rfl rfl rfl rfl (fun wx hx => ((hS0 _ hx).cell (p := ⟨nb', no' + i, none⟩) hnb').trans (hnc' i (by omega))) hS ?_
    refine WD.one 10 (by kernel_rfl) rfl ?_
    refine WL.call rfl rfl rfl rfl rfl Try.func25 rfl (by kernel_rfl) (text5_any _ _ wd) ?_
    rintro e _ ⟨rfl, rfl⟩
    refine ⟨_, rfl, ?_⟩
    refine WL.nil (WQ.dk (.inl rfl) ?_)
    (((first | refine WD.free 11 rfl (by kernel_rfl) rfl rfl (fun _ _ _ _ _ h => h) rfl rfl (.inl rfl) ?_ | refine WD.skip 11 rfl (by kernel_rfl) rfl rfl (fun _ _ _ _ _ h => h) rfl (.inl rfl) ?_); try (first | ((with_reducible refine WD.topT ?_ ?_); omega) | ((with_reducible refine WD.topF ?_ ?_); omega) | ((with_reducible refine WD.top64 ?_ ?_); omega))))
    refine WD.done (by kernel_rfl) ?_
    generalize hcv : cmpB (a.names.getD i noT).toList (b.names.getD i noT).toList = cv
    by_cases hcn : cv = 0
    case neg =>
      have hDi : D i = cv := by
        rw [← hD]
        unfold ordP
        rw [decide_eq_true (show a.k = 9 by omega), if_pos rfl, hcv, if_neg hcn]
      repeat (first | ((with_reducible refine WL.topT ?_ ?_); omega) | ((with_reducible refine WL.topF ?_ ?_); omega) | ((with_reducible refine WL.top64 ?_ ?_); omega) | refine WC.seq ?_ | refine WC.block ?_ | refine WC.region ?_ | refine WL.nil ?_ | refine WC.skip ?_ | refine WC.exit ?_ | refine WC.ret ?_ | refine WQ.then rfl ?_ | refine WQ.thenExit ?_ | refine WQ.thenRet ?_ | refine WQ.blk ?_ | refine WQ.blkRet ?_ | refine WQ.blkHere rfl ?_ | refine WQ.blkOther rfl ?_ | refine WL.pure rfl rfl rfl rfl ?_ | refine WL.on rfl rfl ?_ | refine WL.off rfl rfl rfl ?_ | refine WC.condTrue rfl ?_ | refine WC.condFalse rfl ?_)
      exact WQ.ret1 rfl rfl ⟨ret_i64 ((ordK_at (by omega) hall (by rw [hDi]; exact hcn)).trans hDi).symm, hSb _ hS⟩
    have hDi : D i = ordV m (a.kids.getD i noV) (b.kids.getD i noV) := by
      rw [← hD]
      unfold ordP
      rw [decide_eq_true (show a.k = 9 by omega), if_pos rfl, hcv, if_pos hcn]
    repeat (first | ((with_reducible refine WL.topT ?_ ?_); omega) | ((with_reducible refine WL.topF ?_ ?_); omega) | ((with_reducible refine WL.top64 ?_ ?_); omega) | refine WC.seq ?_ | refine WC.block ?_ | refine WC.region ?_ | refine WL.nil ?_ | refine WC.skip ?_ | refine WC.exit ?_ | refine WC.ret ?_ | refine WQ.then rfl ?_ | refine WQ.thenExit ?_ | refine WQ.thenRet ?_ | refine WQ.blk ?_ | refine WQ.blkRet ?_ | refine WQ.blkHere rfl ?_ | refine WQ.blkOther rfl ?_ | refine WL.pure rfl rfl rfl rfl ?_ | refine WL.on rfl rfl ?_ | refine WL.off rfl rfl rfl ?_ | refine WC.condTrue rfl ?_ | refine WC.condFalse rfl ?_)
    refine WC.drawn 10 S fun wd hdd => ?_
    replace hS := hSd hS hdd
    (((first | refine WD.free 0 rfl (by kernel_rfl) rfl rfl (fun _ _ _ _ _ h => h) rfl rfl (.inr hS) ?_ | refine WD.skip 0 rfl (by kernel_rfl) rfl rfl (fun _ _ _ _ _ h => h) rfl (.inr hS) ?_); try (first | ((with_reducible refine WD.topT ?_ ?_); omega) | ((with_reducible refine WD.topF ?_ ?_); omega) | ((with_reducible refine WD.top64 ?_ ?_); omega))); ((first | refine WD.free 2 rfl (by kernel_rfl) rfl rfl (fun _ _ _ _ _ h => h) rfl rfl (.inr hS) ?_ | refine WD.skip 2 rfl (by kernel_rfl) rfl rfl (fun _ _ _ _ _ h => h) rfl (.inr hS) ?_); try (first | ((with_reducible refine WD.topT ?_ ?_); omega) | ((with_reducible refine WD.topF ?_ ?_); omega) | ((with_reducible refine WD.top64 ?_ ?_); omega))); ((first | refine WD.free 5 rfl (by kernel_rfl) rfl rfl (fun _ _ _ _ _ h => h) rfl rfl (.inr hS) ?_ | refine WD.skip 5 rfl (by kernel_rfl) rfl rfl (fun _ _ _ _ _ h => h) rfl (.inr hS) ?_); try (first | ((with_reducible refine WD.topT ?_ ?_); omega) | ((with_reducible refine WD.topF ?_ ?_); omega) | ((with_reducible refine WD.top64 ?_ ?_); omega))); ((first | refine WD.free 7 rfl (by kernel_rfl) rfl rfl (fun _ _ _ _ _ h => h) rfl rfl (.inr hS) ?_ | refine WD.skip 7 rfl (by kernel_rfl) rfl rfl (fun _ _ _ _ _ h => h) rfl (.inr hS) ?_); try (first | ((with_reducible refine WD.topT ?_ ?_); omega) | ((with_reducible refine WD.topF ?_ ?_); omega) | ((with_reducible refine WD.top64 ?_ ?_); omega))))
    refine WD.load 1 [3, 4, 10, 11] rfl (by kernel_rfl) rfl rfl (fun _ _ _ _ _ h => h) rfl rfl rfl rfl c5 hS ?_
    refine WD.idx 3 i (ko + i * 6) rfl (by kernel_rfl) rfl rfl (fun _ _ _ _ _ h => h) rfl rfl rfl rfl rfl rfl h1 rfl (.inr hS) ?_
    refine WD.loadMid 4 [10, 11] rfl (by kernel_rfl) rfl rfl (fun _ _ _ _ _ h => h) rfl rfl rfl rfl kR hc6 hS ?_
    refine WD.load 6 [8, 9, 10, 11] rfl (by kernel_rfl) rfl rfl (fun _ _ _ _ _ h => h) rfl rfl rfl rfl d5 hS ?_
    refine WD.idx 8 i (ko' + i * 6) rfl (by kernel_rfl) rfl rfl (fun _ _ _ _ _ h => h) rfl rfl rfl rfl rfl rfl h2 rfl (.inr hS) ?_
    refine WD.loadMid 9 [10, 11] rfl (by kernel_rfl) rfl rfl (fun _ _ _ _ _ h => h) rfl rfl rfl rfl kR' hc6' hS ?_
    refine WD.one 10 (by kernel_rfl) rfl ?_
    refine WL.call rfl rfl rfl rfl rfl Try.func12 rfl (by kernel_rfl) (ih hci hci' (hS0 _ hS) (chk_kid ha h1) (chk_kid hb h2)) ?_
    rintro e w5 ⟨rfl, hb5⟩
    refine ⟨_, rfl, ?_⟩
    replace hS := hSb' hS hb5
    refine WL.nil (WQ.dk (.inl rfl) ?_)
    (((first | refine WD.free 11 rfl (by kernel_rfl) rfl rfl (fun _ _ _ _ _ h => h) rfl rfl (.inl rfl) ?_ | refine WD.skip 11 rfl (by kernel_rfl) rfl rfl (fun _ _ _ _ _ h => h) rfl (.inl rfl) ?_); try (first | ((with_reducible refine WD.topT ?_ ?_); omega) | ((with_reducible refine WD.topF ?_ ?_); omega) | ((with_reducible refine WD.top64 ?_ ?_); omega))))
    refine WD.done (by kernel_rfl) ?_
    rw [← hDi]
    generalize hDv : D i = di
    by_cases hd0 : di = 0
    · repeat (first | ((with_reducible refine WL.topT ?_ ?_); omega) | ((with_reducible refine WL.topF ?_ ?_); omega) | ((with_reducible refine WL.top64 ?_ ?_); omega) | refine WC.seq ?_ | refine WC.block ?_ | refine WC.region ?_ | refine WL.nil ?_ | refine WC.skip ?_ | refine WC.exit ?_ | refine WC.ret ?_ | refine WQ.then rfl ?_ | refine WQ.thenExit ?_ | refine WQ.thenRet ?_ | refine WQ.blk ?_ | refine WQ.blkRet ?_ | refine WQ.blkHere rfl ?_ | refine WQ.blkOther rfl ?_ | refine WL.pure rfl rfl rfl rfl ?_ | refine WL.on rfl rfl ?_ | refine WL.off rfl rfl rfl ?_ | refine WC.condTrue rfl ?_ | refine WC.condFalse rfl ?_)
      exact WQ.again (i + 1) ⟨rfl, rfl, rfl, rfl, trivial⟩ ⟨h1, h2, hS, fun j hj => (Nat.lt_succ_iff_lt_or_eq.1 hj).elim (hall j) (fun e => by rw [e, hDv, hd0])⟩ (by show a.kids.length - (i + 1) < a.kids.length - i; omega)
    · repeat (first | ((with_reducible refine WL.topT ?_ ?_); omega) | ((with_reducible refine WL.topF ?_ ?_); omega) | ((with_reducible refine WL.top64 ?_ ?_); omega) | refine WC.seq ?_ | refine WC.block ?_ | refine WC.region ?_ | refine WL.nil ?_ | refine WC.skip ?_ | refine WC.exit ?_ | refine WC.ret ?_ | refine WQ.then rfl ?_ | refine WQ.thenExit ?_ | refine WQ.thenRet ?_ | refine WQ.blk ?_ | refine WQ.blkRet ?_ | refine WQ.blkHere rfl ?_ | refine WQ.blkOther rfl ?_ | refine WL.pure rfl rfl rfl rfl ?_ | refine WL.on rfl rfl ?_ | refine WL.off rfl rfl rfl ?_ | refine WC.condTrue rfl ?_ | refine WC.condFalse rfl ?_)
      exact WQ.ret1 rfl rfl ⟨ret_i64 ((ordK_at (by omega) hall (by rw [hDv]; exact hd0)).trans hDv).symm, hSb _ hS⟩
  · have hDi : D i = ordV m (a.kids.getD i noV) (b.kids.getD i noV) := by
      rw [← hD]
      unfold ordP
      rw [decide_eq_false (show ¬ a.k = 9 by omega), if_neg Bool.false_ne_true, if_pos rfl]
    refine WC.condF rfl q9 ?_
    repeat (first | ((with_reducible refine WL.topT ?_ ?_); omega) | ((with_reducible refine WL.topF ?_ ?_); omega) | ((with_reducible refine WL.top64 ?_ ?_); omega) | refine WC.seq ?_ | refine WC.block ?_ | refine WC.region ?_ | refine WL.nil ?_ | refine WC.skip ?_ | refine WC.exit ?_ | refine WC.ret ?_ | refine WQ.then rfl ?_ | refine WQ.thenExit ?_ | refine WQ.thenRet ?_ | refine WQ.blk ?_ | refine WQ.blkRet ?_ | refine WQ.blkHere rfl ?_ | refine WQ.blkOther rfl ?_ | refine WL.pure rfl rfl rfl rfl ?_ | refine WL.on rfl rfl ?_ | refine WL.off rfl rfl rfl ?_ | refine WC.condTrue rfl ?_ | refine WC.condFalse rfl ?_)
    refine WC.drawn 10 S fun wd hdd => ?_
    replace hS := hSd hS hdd
    (((first | refine WD.free 0 rfl (by kernel_rfl) rfl rfl (fun _ _ _ _ _ h => h) rfl rfl (.inr hS) ?_ | refine WD.skip 0 rfl (by kernel_rfl) rfl rfl (fun _ _ _ _ _ h => h) rfl (.inr hS) ?_); try (first | ((with_reducible refine WD.topT ?_ ?_); omega) | ((with_reducible refine WD.topF ?_ ?_); omega) | ((with_reducible refine WD.top64 ?_ ?_); omega))); ((first | refine WD.free 2 rfl (by kernel_rfl) rfl rfl (fun _ _ _ _ _ h => h) rfl rfl (.inr hS) ?_ | refine WD.skip 2 rfl (by kernel_rfl) rfl rfl (fun _ _ _ _ _ h => h) rfl (.inr hS) ?_); try (first | ((with_reducible refine WD.topT ?_ ?_); omega) | ((with_reducible refine WD.topF ?_ ?_); omega) | ((with_reducible refine WD.top64 ?_ ?_); omega))); ((first | refine WD.free 5 rfl (by kernel_rfl) rfl rfl (fun _ _ _ _ _ h => h) rfl rfl (.inr hS) ?_ | refine WD.skip 5 rfl (by kernel_rfl) rfl rfl (fun _ _ _ _ _ h => h) rfl (.inr hS) ?_); try (first | ((with_reducible refine WD.topT ?_ ?_); omega) | ((with_reducible refine WD.topF ?_ ?_); omega) | ((with_reducible refine WD.top64 ?_ ?_); omega))); ((first | refine WD.free 7 rfl (by kernel_rfl) rfl rfl (fun _ _ _ _ _ h => h) rfl rfl (.inr hS) ?_ | refine WD.skip 7 rfl (by kernel_rfl) rfl rfl (fun _ _ _ _ _ h => h) rfl (.inr hS) ?_); try (first | ((with_reducible refine WD.topT ?_ ?_); omega) | ((with_reducible refine WD.topF ?_ ?_); omega) | ((with_reducible refine WD.top64 ?_ ?_); omega))))
    refine WD.load 1 [3, 4, 10, 11] rfl (by kernel_rfl) rfl rfl (fun _ _ _ _ _ h => h) rfl rfl rfl rfl c5 hS ?_
    refine WD.idx 3 i (ko + i * 6) rfl (by kernel_rfl) rfl rfl (fun _ _ _ _ _ h => h) rfl rfl rfl rfl rfl rfl h1 rfl (.inr hS) ?_
    refine WD.loadMid 4 [10, 11] rfl (by kernel_rfl) rfl rfl (fun _ _ _ _ _ h => h) rfl rfl rfl rfl kR hc6 hS ?_
    refine WD.load 6 [8, 9, 10, 11] rfl (by kernel_rfl) rfl rfl (fun _ _ _ _ _ h => h) rfl rfl rfl rfl d5 hS ?_
    refine WD.idx 8 i (ko' + i * 6) rfl (by kernel_rfl) rfl rfl (fun _ _ _ _ _ h => h) rfl rfl rfl rfl rfl rfl h2 rfl (.inr hS) ?_
    refine WD.loadMid 9 [10, 11] rfl (by kernel_rfl) rfl rfl (fun _ _ _ _ _ h => h) rfl rfl rfl rfl kR' hc6' hS ?_
    refine WD.one 10 (by kernel_rfl) rfl ?_
    refine WL.call rfl rfl rfl rfl rfl Try.func12 rfl (by kernel_rfl) (ih hci hci' (hS0 _ hS) (chk_kid ha h1) (chk_kid hb h2)) ?_
    rintro e w5 ⟨rfl, hb5⟩
    refine ⟨_, rfl, ?_⟩
    replace hS := hSb' hS hb5
    refine WL.nil (WQ.dk (.inl rfl) ?_)
    (((first | refine WD.free 11 rfl (by kernel_rfl) rfl rfl (fun _ _ _ _ _ h => h) rfl rfl (.inl rfl) ?_ | refine WD.skip 11 rfl (by kernel_rfl) rfl rfl (fun _ _ _ _ _ h => h) rfl (.inl rfl) ?_); try (first | ((with_reducible refine WD.topT ?_ ?_); omega) | ((with_reducible refine WD.topF ?_ ?_); omega) | ((with_reducible refine WD.top64 ?_ ?_); omega))))
    refine WD.done (by kernel_rfl) ?_
    rw [← hDi]
    generalize hDv : D i = di
    by_cases hd0 : di = 0
    · repeat (first | ((with_reducible refine WL.topT ?_ ?_); omega) | ((with_reducible refine WL.topF ?_ ?_); omega) | ((with_reducible refine WL.top64 ?_ ?_); omega) | refine WC.seq ?_ | refine WC.block ?_ | refine WC.region ?_ | refine WL.nil ?_ | refine WC.skip ?_ | refine WC.exit ?_ | refine WC.ret ?_ | refine WQ.then rfl ?_ | refine WQ.thenExit ?_ | refine WQ.thenRet ?_ | refine WQ.blk ?_ | refine WQ.blkRet ?_ | refine WQ.blkHere rfl ?_ | refine WQ.blkOther rfl ?_ | refine WL.pure rfl rfl rfl rfl ?_ | refine WL.on rfl rfl ?_ | refine WL.off rfl rfl rfl ?_ | refine WC.condTrue rfl ?_ | refine WC.condFalse rfl ?_)
      exact WQ.again (i + 1) ⟨rfl, rfl, rfl, rfl, trivial⟩ ⟨h1, h2, hS, fun j hj => (Nat.lt_succ_iff_lt_or_eq.1 hj).elim (hall j) (fun e => by rw [e, hDv, hd0])⟩ (by show a.kids.length - (i + 1) < a.kids.length - i; omega)
    · repeat (first | ((with_reducible refine WL.topT ?_ ?_); omega) | ((with_reducible refine WL.topF ?_ ?_); omega) | ((with_reducible refine WL.top64 ?_ ?_); omega) | refine WC.seq ?_ | refine WC.block ?_ | refine WC.region ?_ | refine WL.nil ?_ | refine WC.skip ?_ | refine WC.exit ?_ | refine WC.ret ?_ | refine WQ.then rfl ?_ | refine WQ.thenExit ?_ | refine WQ.thenRet ?_ | refine WQ.blk ?_ | refine WQ.blkRet ?_ | refine WQ.blkHere rfl ?_ | refine WQ.blkOther rfl ?_ | refine WL.pure rfl rfl rfl rfl ?_ | refine WL.on rfl rfl ?_ | refine WL.off rfl rfl rfl ?_ | refine WC.condTrue rfl ?_ | refine WC.condFalse rfl ?_)
      exact WQ.ret1 rfl rfl ⟨ret_i64 ((ordK_at (by omega) hall (by rw [hDv]; exact hd0)).trans hDv).symm, hSb _ hS⟩
theorem order_all : ∀ (m : Nat) {f f' : Nat} {w0 w : World} {a b : V} {cs cs' : List Value}, IsV f w0 a cs → IsV f' w0 b cs' → Below w0.heap.size w0 w → chk m a = 0 → chk m b = 0 →
      Calls Try.prog 12 #[.agg cs.toArray, .agg cs'.toArray] w fun e w' => e = .returned (.int .i64 (ordV m a b)) ∧ Below w.heap.size w w'
  | 0, _, _, _, _, _, _, _, _, _, _, _, h, _ => by cases h
  | _ + 1, 0, _, _, _, _, _, _, _, h, _, _, _, _ => h.elim
  | _ + 1, _ + 1, 0, _, _, _, _, _, _, _, h, _, _, _ => h.elim
  | m + 1, _ + 1, _ + 1, _, _, _, _, _, _, h1, h2, h3, h4, h5 => order_step m (order_all m) h1 h2 h3 h4 h5
end K
end Go.Proofs.Ytfpakjbaiohcaaa
