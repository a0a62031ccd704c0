/- Texts for LawBlkOne, part 5 of 6. -/
import Derived.Test.YtlamdhekjlnccaaZLawBlkOne4
/- Blocks (chapter 11): checkEntry, head, lay. -/
namespace Go.Proofs.Ytlamdhekjlnccaa
open Go.RowKit
namespace K
theorem hash_neq (a b : List Int) (ha : a.length = 32) (hb : b.length = 32) (W : World) : (binOp .neq 23 (.agg (hashC a).toArray) (.agg (hashC b).toArray)).run Try.prog W = .ok (.bool (!decide (a = b))) W := by
  have h := hash_eql a b ha hb W
  rw [run_eql_struct] at h
  rw [run_neq_struct]
  revert h
  generalize (Op.equalIn 10000 23 (.agg (hashC a).toArray) (.agg (hashC b).toArray)).run Try.prog W = r
  intro h
  cases r with
  | ok x w2 =>
    simp only [Result.andThen_ok] at h ⊢
    injection h with h1 h2
    injection h1 with h1
    rw [h1, h2]
  | halt x w2 => cases h
theorem hash_guard2 (x y : Operand) (a b : Array Value) (W : World) : (eqGuard .neq 23 x y (.agg a) (.agg b)).run Try.prog W = .ok () W := by
  have h : Try.prog.eqGuardType Try.prog.depth 23 = false := by kernel_rfl
  simp [eqGuard, h]
section
variable {n : Nat} {Q : Exit → Act → World → Prop} {l : Env} {w w' : World} {ops : Array Oper} {o : Oper} {rest : List Oper} {d : Nat}
theorem WL.neqH {x y : Operand} {t2 : Nat} {a b : List Int} (hg : o.guard = none) (hd : o.dst = some d) (hn : Nat.blt d n = true) (ho : o.op = .binOp .neq 23 x y t2) (hx : evl l x = some (.agg (hashC a).toArray)) (hy : evl l y = some (.agg (hashC b).toArray))
    (ha : a.length = 32) (hb : b.length = 32) (h : WL n ops Q rest ((d, .bool (!decide (a = b))) :: l) w) : WL n ops Q (o :: rest) l w :=
  WL.step hg hd hn (fun c hc => by
    unfold execOp
    rw [ho]
    simp only [hc.eval hx, hc.eval hy, Sem.run_bind, hash_guard2, Result.andThen_ok, hash_neq a b ha hb w]
    rfl) h
end
theorem checkEntry_any {f : Nat} {w : World} {e : En} {cs : List Value} (h : IsE f w e cs) (hlen : chk 16 e.data = 0 → (encV 16 e.data).length ≤ 70368744177664) :
    Calls Try.prog 27 #[.agg cs.toArray] w fun r w' => r = .returned (.int .i64 (chkE e)) ∧ Below w.heap.size w w' := by
  obtain ⟨dc, rfl, hv, hdl, hone, hh, hby, htx, hr⟩ := h
  have hall : EnP (IsV f w) e (enC e dc) := ⟨dc, rfl, hv, hdl, hone, hh, hby, htx, hr⟩
  refine enter (args := [.agg (enC e dc).toArray]) Try.func27 rfl Try.ntmps27 rfl ?_
  repeat (first | ((with_reducible refine WL.topT ?_ ?_); omega) | ((with_reducible refine WL.topF ?_ ?_); omega) | ((with_reducible refine WL.top64 ?_ ?_); omega) | refine WC.seq ?_ | refine WC.block ?_ | refine WC.region ?_ | refine WL.nil ?_ | refine WC.skip ?_ | refine WC.exit ?_ | refine WC.ret ?_ | refine WQ.then rfl ?_ | refine WQ.thenExit ?_ | refine WQ.thenRet ?_ | refine WQ.blk ?_ | refine WQ.blkRet ?_ | refine WQ.blkHere rfl ?_ | refine WQ.blkOther rfl ?_ | refine WL.pure rfl rfl rfl rfl ?_ | refine WL.on rfl rfl ?_ | refine WL.off rfl rfl rfl ?_ | refine WC.condTrue rfl ?_ | refine WC.condFalse rfl ?_)
  refine WL.box rfl rfl rfl rfl rfl fun g w1 hf => ?_
  have hf' : Fresh w g w1 49 (enC e dc) := hf
  clear hf
  have B1 : EnAt _ g w1 e dc := ⟨hf'.blk, hdl, hh⟩
  have hw1 := hf'.below
  clear hf'
  repeat (first | ((with_reducible refine WL.topT ?_ ?_); omega) | ((with_reducible refine WL.topF ?_ ?_); omega) | ((with_reducible refine WL.top64 ?_ ?_); omega) | refine WC.seq ?_ | refine WC.block ?_ | refine WC.region ?_ | refine WL.nil ?_ | refine WC.skip ?_ | refine WC.exit ?_ | refine WC.ret ?_ | refine WQ.then rfl ?_ | refine WQ.thenExit ?_ | refine WQ.thenRet ?_ | refine WQ.blk ?_ | refine WQ.blkRet ?_ | refine WQ.blkHere rfl ?_ | refine WQ.blkOther rfl ?_ | refine WL.pure rfl rfl rfl rfl ?_ | refine WL.on rfl rfl ?_ | refine WL.off rfl rfl rfl ?_ | refine WC.condTrue rfl ?_ | refine WC.condFalse rfl ?_)
  refine WL.loadMid rfl rfl rfl rfl rfl rfl (VBlk.rangeAt B1.blk) B1.len ?_
  refine WL.call rfl rfl rfl rfl rfl Try.func42 rfl (by kernel_rfl) (shape_any (IsE.below hw1 hall)) ?_
  rintro _ w2 ⟨⟨b, rfl, hb⟩, hk2⟩
  refine ⟨_, rfl, ?_⟩
  have hw2 := hw1.trans (hk2.mono hw1.size)
  have B2 := B1.below hk2
  cases b with
  | false =>
    have hf : ¬ formE e := fun h => by have := hb.2 h; cases this
    repeat (first | ((with_reducible refine WL.topT ?_ ?_); omega) | ((with_reducible refine WL.topF ?_ ?_); omega) | ((with_reducible refine WL.top64 ?_ ?_); omega) | refine WC.seq ?_ | refine WC.block ?_ | refine WC.region ?_ | refine WL.nil ?_ | refine WC.skip ?_ | refine WC.exit ?_ | refine WC.ret ?_ | refine WQ.then rfl ?_ | refine WQ.thenExit ?_ | refine WQ.thenRet ?_ | refine WQ.blk ?_ | refine WQ.blkRet ?_ | refine WQ.blkHere rfl ?_ | refine WQ.blkOther rfl ?_ | refine WL.pure rfl rfl rfl rfl ?_ | refine WL.on rfl rfl ?_ | refine WL.off rfl rfl rfl ?_ | refine WC.condTrue rfl ?_ | refine WC.condFalse rfl ?_)
    exact WQ.ret1 rfl rfl ⟨by unfold chkE; rw [if_neg hf], hw2⟩
  | true =>
    have hf := hb.1 rfl
    repeat (first | ((with_reducible refine WL.topT ?_ ?_); omega) | ((with_reducible refine WL.topF ?_ ?_); omega) | ((with_reducible refine WL.top64 ?_ ?_); omega) | refine WC.seq ?_ | refine WC.block ?_ | refine WC.region ?_ | refine WL.nil ?_ | refine WC.skip ?_ | refine WC.exit ?_ | refine WC.ret ?_ | refine WQ.then rfl ?_ | refine WQ.thenExit ?_ | refine WQ.thenRet ?_ | refine WQ.blk ?_ | refine WQ.blkRet ?_ | refine WQ.blkHere rfl ?_ | refine WQ.blkOther rfl ?_ | refine WL.pure rfl rfl rfl rfl ?_ | refine WL.on rfl rfl ?_ | refine WL.off rfl rfl rfl ?_ | refine WC.condTrue rfl ?_ | refine WC.condFalse rfl ?_)
    refine WL.load rfl rfl rfl rfl rfl rfl B2.kind ?_
    by_cases k2 : e.kind = 2
    rotate_left
    · repeat (first | ((with_reducible refine WL.topT ?_ ?_); omega) | ((with_reducible refine WL.topF ?_ ?_); omega) | ((with_reducible refine WL.top64 ?_ ?_); omega) | refine WC.seq ?_ | refine WC.block ?_ | refine WC.region ?_ | refine WL.nil ?_ | refine WC.skip ?_ | refine WC.exit ?_ | refine WC.ret ?_ | refine WQ.then rfl ?_ | refine WQ.thenExit ?_ | refine WQ.thenRet ?_ | refine WQ.blk ?_ | refine WQ.blkRet ?_ | refine WQ.blkHere rfl ?_ | refine WQ.blkOther rfl ?_ | refine WL.pure rfl rfl rfl rfl ?_ | refine WL.on rfl rfl ?_ | refine WL.off rfl rfl rfl ?_ | refine WC.condTrue rfl ?_ | refine WC.condFalse rfl ?_)
      exact WQ.ret1 rfl rfl ⟨by unfold chkE; rw [if_pos hf, if_pos (.inl k2)], hw2⟩
    repeat (first | ((with_reducible refine WL.topT ?_ ?_); omega) | ((with_reducible refine WL.topF ?_ ?_); omega) | ((with_reducible refine WL.top64 ?_ ?_); omega) | refine WC.seq ?_ | refine WC.block ?_ | refine WC.region ?_ | refine WL.nil ?_ | refine WC.skip ?_ | refine WC.exit ?_ | refine WC.ret ?_ | refine WQ.then rfl ?_ | refine WQ.thenExit ?_ | refine WQ.thenRet ?_ | refine WQ.blk ?_ | refine WQ.blkRet ?_ | refine WQ.blkHere rfl ?_ | refine WQ.blkOther rfl ?_ | refine WL.pure rfl rfl rfl rfl ?_ | refine WL.on rfl rfl ?_ | refine WL.off rfl rfl rfl ?_ | refine WC.condTrue rfl ?_ | refine WC.condFalse rfl ?_)
    refine WL.load rfl rfl rfl rfl rfl rfl B2.gone ?_
    cases hg : e.gone with
    | true =>
      repeat (first | ((with_reducible refine WL.topT ?_ ?_); omega) | ((with_reducible refine WL.topF ?_ ?_); omega) | ((with_reducible refine WL.top64 ?_ ?_); omega) | refine WC.seq ?_ | refine WC.block ?_ | refine WC.region ?_ | refine WL.nil ?_ | refine WC.skip ?_ | refine WC.exit ?_ | refine WC.ret ?_ | refine WQ.then rfl ?_ | refine WQ.thenExit ?_ | refine WQ.thenRet ?_ | refine WQ.blk ?_ | refine WQ.blkRet ?_ | refine WQ.blkHere rfl ?_ | refine WQ.blkOther rfl ?_ | refine WL.pure rfl rfl rfl rfl ?_ | refine WL.on rfl rfl ?_ | refine WL.off rfl rfl rfl ?_ | refine WC.condTrue rfl ?_ | refine WC.condFalse rfl ?_)
      exact WQ.ret1 rfl rfl ⟨by unfold chkE; rw [if_pos hf, if_pos (.inr hg)], hw2⟩
    | false =>
      have hc0 : chkE e = if (encR e.data).2 ≠ 0 then (encR e.data).2 else if hashR e.data = e.hash then 0 else 18 := by unfold chkE; rw [if_pos hf, if_neg (by simp [k2, hg])]
      repeat (first | ((with_reducible refine WL.topT ?_ ?_); omega) | ((with_reducible refine WL.topF ?_ ?_); omega) | ((with_reducible refine WL.top64 ?_ ?_); omega) | refine WC.seq ?_ | refine WC.block ?_ | refine WC.region ?_ | refine WL.nil ?_ | refine WC.skip ?_ | refine WC.exit ?_ | refine WC.ret ?_ | refine WQ.then rfl ?_ | refine WQ.thenExit ?_ | refine WQ.thenRet ?_ | refine WQ.blk ?_ | refine WQ.blkRet ?_ | refine WQ.blkHere rfl ?_ | refine WQ.blkOther rfl ?_ | refine WL.pure rfl rfl rfl rfl ?_ | refine WL.on rfl rfl ?_ | refine WL.off rfl rfl rfl ?_ | refine WC.condTrue rfl ?_ | refine WC.condFalse rfl ?_)
      refine WL.loadMid rfl rfl rfl rfl rfl rfl B2.data hdl ?_
      refine WL.call rfl rfl rfl rfl rfl Try.func43 rfl (by kernel_rfl) (hash_any (hv.below hw2) hlen) ?_
      rintro _ w3 ⟨rfl, hk3⟩
      refine ⟨_, rfl, ?_⟩
      have hw3 := hw2.trans (hk3.mono hw2.size)
      have B3 := B2.below hk3
      have hhl : (hashC (hashR e.data)).length = 32 := by rw [List.length_map]; exact hashR_len _
      repeat (first | ((with_reducible refine WL.topT ?_ ?_); omega) | ((with_reducible refine WL.topF ?_ ?_); omega) | ((with_reducible refine WL.top64 ?_ ?_); omega) | refine WC.seq ?_ | refine WC.block ?_ | refine WC.region ?_ | refine WL.nil ?_ | refine WC.skip ?_ | refine WC.exit ?_ | refine WC.ret ?_ | refine WQ.then rfl ?_ | refine WQ.thenExit ?_ | refine WQ.thenRet ?_ | refine WQ.blk ?_ | refine WQ.blkRet ?_ | refine WQ.blkHere rfl ?_ | refine WQ.blkOther rfl ?_ | refine WL.pure rfl rfl rfl rfl ?_ | refine WL.on rfl rfl ?_ | refine WL.off rfl rfl rfl ?_ | refine WC.condTrue rfl ?_ | refine WC.condFalse rfl ?_)
      refine WL.alloc (z := .agg (hashC Dig.Z32).toArray) rfl rfl rfl rfl (Dig.zero25) fun c w4 hf4 => ?_
      have hf4' : Fresh w3 c w4 23 (hashC Dig.Z32) := hf4
      clear hf4
      refine WL.storeRow rfl rfl rfl rfl rfl rfl hf4'.blk hhl (by rfl) (Ones.int _ _) ?_
      have hk5 : Below w3.heap.size w3 (w4.setRow c (hashC (hashR e.data)).toArray) := below_setRow hf4'.below (by rw [hf4'.eq]; exact Nat.le_refl _) _
      have H5 : VBlk 23 (w4.setRow c (hashC (hashR e.data)).toArray) c (hashC (hashR e.data)) := hf4'.blk.setRow _
      generalize w4.setRow c (hashC (hashR e.data)).toArray = w5 at hk5 H5
      have hw5 := hw3.trans (hk5.mono hw3.size)
      have B5 := B3.below hk5
      clear hf4'
      by_cases he : (encR e.data).2 = 0
      rotate_left
      · repeat (first | ((with_reducible refine WL.topT ?_ ?_); omega) | ((with_reducible refine WL.topF ?_ ?_); omega) | ((with_reducible refine WL.top64 ?_ ?_); omega) | refine WC.seq ?_ | refine WC.block ?_ | refine WC.region ?_ | refine WL.nil ?_ | refine WC.skip ?_ | refine WC.exit ?_ | refine WC.ret ?_ | refine WQ.then rfl ?_ | refine WQ.thenExit ?_ | refine WQ.thenRet ?_ | refine WQ.blk ?_ | refine WQ.blkRet ?_ | refine WQ.blkHere rfl ?_ | refine WQ.blkOther rfl ?_ | refine WL.pure rfl rfl rfl rfl ?_ | refine WL.on rfl rfl ?_ | refine WL.off rfl rfl rfl ?_ | refine WC.condTrue rfl ?_ | refine WC.condFalse rfl ?_)
        exact WQ.ret1 rfl rfl ⟨by rw [hc0, if_pos he]; rfl, hw5⟩
      rw [if_neg (by simpa using he)] at hc0
      repeat (first | ((with_reducible refine WL.topT ?_ ?_); omega) | ((with_reducible refine WL.topF ?_ ?_); omega) | ((with_reducible refine WL.top64 ?_ ?_); omega) | refine WC.seq ?_ | refine WC.block ?_ | refine WC.region ?_ | refine WL.nil ?_ | refine WC.skip ?_ | refine WC.exit ?_ | refine WC.ret ?_ | refine WQ.then rfl ?_ | refine WQ.thenExit ?_ | refine WQ.thenRet ?_ | refine WQ.blk ?_ | refine WQ.blkRet ?_ | refine WQ.blkHere rfl ?_ | refine WQ.blkOther rfl ?_ | refine WL.pure rfl rfl rfl rfl ?_ | refine WL.on rfl rfl ?_ | refine WL.off rfl rfl rfl ?_ | refine WC.condTrue rfl ?_ | refine WC.condFalse rfl ?_)
      refine WL.loadMid rfl rfl rfl rfl rfl rfl (VBlk.rangeAt H5) hhl ?_
      repeat (first | ((with_reducible refine WL.topT ?_ ?_); omega) | ((with_reducible refine WL.topF ?_ ?_); omega) | ((with_reducible refine WL.top64 ?_ ?_); omega) | refine WC.seq ?_ | refine WC.block ?_ | refine WC.region ?_ | refine WL.nil ?_ | refine WC.skip ?_ | refine WC.exit ?_ | refine WC.ret ?_ | refine WQ.then rfl ?_ | refine WQ.thenExit ?_ | refine WQ.thenRet ?_ | refine WQ.blk ?_ | refine WQ.blkRet ?_ | refine WQ.blkHere rfl ?_ | refine WQ.blkOther rfl ?_ | refine WL.pure rfl rfl rfl rfl ?_ | refine WL.on rfl rfl ?_ | refine WL.off rfl rfl rfl ?_ | refine WC.condTrue rfl ?_ | refine WC.condFalse rfl ?_)
      refine WL.loadMid rfl rfl rfl rfl rfl rfl B5.hash (by rw [List.length_map]; exact hh) ?_
      refine WL.on rfl rfl ?_
      refine WL.neqH rfl rfl rfl rfl rfl rfl (hashR_len _) hh ?_
      by_cases hq : hashR e.data = e.hash
      · refine WL.as 27 (.bool false) rfl (congrArg Value.bool (by simp [hq])) ?_
        repeat (first | ((with_reducible refine WL.topT ?_ ?_); omega) | ((with_reducible refine WL.topF ?_ ?_); omega) | ((with_reducible refine WL.top64 ?_ ?_); omega) | refine WC.seq ?_ | refine WC.block ?_ | refine WC.region ?_ | refine WL.nil ?_ | refine WC.skip ?_ | refine WC.exit ?_ | refine WC.ret ?_ | refine WQ.then rfl ?_ | refine WQ.thenExit ?_ | refine WQ.thenRet ?_ | refine WQ.blk ?_ | refine WQ.blkRet ?_ | refine WQ.blkHere rfl ?_ | refine WQ.blkOther rfl ?_ | refine WL.pure rfl rfl rfl rfl ?_ | refine WL.on rfl rfl ?_ | refine WL.off rfl rfl rfl ?_ | refine WC.condTrue rfl ?_ | refine WC.condFalse rfl ?_)
        exact WQ.ret1 rfl rfl ⟨by rw [hc0, if_pos hq, ← he]; rfl, hw5⟩
      · refine WL.as 27 (.bool true) rfl (congrArg Value.bool (by simp [hq])) ?_
        repeat (first | ((with_reducible refine WL.topT ?_ ?_); omega) | ((with_reducible refine WL.topF ?_ ?_); omega) | ((with_reducible refine WL.top64 ?_ ?_); omega) | refine WC.seq ?_ | refine WC.block ?_ | refine WC.region ?_ | refine WL.nil ?_ | refine WC.skip ?_ | refine WC.exit ?_ | refine WC.ret ?_ | refine WQ.then rfl ?_ | refine WQ.thenExit ?_ | refine WQ.thenRet ?_ | refine WQ.blk ?_ | refine WQ.blkRet ?_ | refine WQ.blkHere rfl ?_ | refine WQ.blkOther rfl ?_ | refine WL.pure rfl rfl rfl rfl ?_ | refine WL.on rfl rfl ?_ | refine WL.off rfl rfl rfl ?_ | refine WC.condTrue rfl ?_ | refine WC.condFalse rfl ?_)
        exact WQ.ret1 rfl rfl ⟨by rw [hc0, if_neg hq], hw5⟩
/-- The cells of a block that lies in a block of its own. -/
structure BkAt (T g : Nat) (w : World) (b : Bk) (se : Value) : Prop where
  blk : VBlk T w g (bkC b se)
  pl : b.prev.length = 32
section
variable {T g : Nat} {w w' : World} {b : Bk} {se : Value}
theorem BkAt.len (h : BkAt T g w b se) : (bkC b se).length = 36 := by simp [bkC, h.pl]
theorem BkAt.index (h : BkAt T g w b se) : w.cell? ⟨g, 0, none⟩ = some (.int .i64 b.index) := h.blk.cell 0 (by simp [bkC])
theorem BkAt.time (h : BkAt T g w b se) : w.cell? ⟨g, 1, none⟩ = some (.int .i64 b.time) := h.blk.cell 1 (by simp [bkC])
theorem BkAt.txn (h : BkAt T g w b se) : w.cell? ⟨g, 2, none⟩ = some (.int .i64 b.txn) := h.blk.cell 2 (by simp [bkC])
theorem BkAt.prev (h : BkAt T g w b se) : w.rangeAt g 3 (hashC b.prev) := VBlk.part h.blk [.int .i64 b.index, .int .i64 b.time, .int .i64 b.txn] (hashC b.prev) [se] rfl
theorem BkAt.ents (h : BkAt T g w b se) : w.cell? ⟨g, 35, none⟩ = some se := by
  have := h.blk.cell 35 (by rw [h.len]; omega)
  rw [this, List.getD_eq_getElem?_getD]
  have h1 : bkC b se = (.int .i64 b.index :: .int .i64 b.time :: .int .i64 b.txn :: hashC b.prev) ++ [se] := by simp [bkC]
  rw [h1, List.getElem?_append_right (by simp [h.pl])]
  simp [h.pl]
theorem BkAt.keep (h : BkAt T g w b se) {K : Nat → Prop} (hk : Keep K w w') (hb : K g) : BkAt T g w' b se := ⟨VBlk.keep h.blk hk hb, h.pl⟩
theorem BkAt.below (h : BkAt T g w b se) (hk : Below w.heap.size w w') : BkAt T g w' b se := ⟨VBlk.below h.blk hk h.blk.lt, h.pl⟩
end
def NewBu (w : World) (l : List Int) (r : Ending) (w' : World) : Prop := ∃ v, r = .returned v ∧ Bu w' v l ∧ Below w.heap.size w w' ∧ ∀ g, v.ownBlock = some g → w.heap.size ≤ g
theorem head_any {f : Nat} {w : World} {b : Bk} {cs : List Value} (h : IsB f w b cs) : Calls Try.prog 28 #[.agg cs.toArray] w (NewBu w (headL b)) := by
  obtain ⟨se, rfl, hents, hpl, hpb, hi, ht, hx⟩ := h
  refine enter (args := [.agg (bkC b se).toArray]) Try.func28 rfl Try.ntmps28 rfl ?_
  repeat (first | ((with_reducible refine WL.topT ?_ ?_); omega) | ((with_reducible refine WL.topF ?_ ?_); omega) | ((with_reducible refine WL.top64 ?_ ?_); omega) | refine WC.seq ?_ | refine WC.block ?_ | refine WC.region ?_ | refine WL.nil ?_ | refine WC.skip ?_ | refine WC.exit ?_ | refine WC.ret ?_ | refine WQ.then rfl ?_ | refine WQ.thenExit ?_ | refine WQ.thenRet ?_ | refine WQ.blk ?_ | refine WQ.blkRet ?_ | refine WQ.blkHere rfl ?_ | refine WQ.blkOther rfl ?_ | refine WL.pure rfl rfl rfl rfl ?_ | refine WL.on rfl rfl ?_ | refine WL.off rfl rfl rfl ?_ | refine WC.condTrue rfl ?_ | refine WC.condFalse rfl ?_)
  refine WL.box rfl rfl rfl rfl rfl fun g w1 hf => ?_
  have hf' : Fresh w g w1 26 (bkC b se) := hf
  clear hf
  have hg0 : Grow w (.slice none 0 0) w1 (.slice none 0 0) := (Grow.refl w _).below hf'.below
  have hR : ∀ {wk vk}, Grow w1 (.slice none 0 0) wk vk → BkAt 26 g wk b se := fun h => ⟨hf'.stand (Bu.nil w) h, hpl⟩
  have h1 := uvB_len b.index.toNat
  have h2 := uvB_len b.time.toNat
  have h3 := uvB_len b.txn.toNat
  repeat (first | ((with_reducible refine WL.topT ?_ ?_); omega) | ((with_reducible refine WL.topF ?_ ?_); omega) | ((with_reducible refine WL.top64 ?_ ?_); omega) | refine WC.seq ?_ | refine WC.block ?_ | refine WC.region ?_ | refine WL.nil ?_ | refine WC.skip ?_ | refine WC.exit ?_ | refine WC.ret ?_ | refine WQ.then rfl ?_ | refine WQ.thenExit ?_ | refine WQ.thenRet ?_ | refine WQ.blk ?_ | refine WQ.blkRet ?_ | refine WQ.blkHere rfl ?_ | refine WQ.blkOther rfl ?_ | refine WL.pure rfl rfl rfl rfl ?_ | refine WL.on rfl rfl ?_ | refine WL.off rfl rfl rfl ?_ | refine WC.condTrue rfl ?_ | refine WC.condFalse rfl ?_)
  refine WC.drawn 11 (fun wx => BkAt 26 g wx b se) fun w2 hd2 => ?_
  have g2 : Grow w1 (.slice none 0 0) w2 (.slice none 0 0) := (Grow.refl w1 _).below (hd2.below _)
  have hS := hR g2
  (((first | refine WD.free 0 rfl (by kernel_rfl) rfl rfl (fun _ _ _ _ _ h => h) rfl rfl (.inr hS) ?_ | refine WD.skip 0 rfl (by kernel_rfl) rfl rfl (fun _ _ _ _ _ h => h) rfl (.inr hS) ?_); try (first | ((with_reducible refine WD.topT ?_ ?_); omega) | ((with_reducible refine WD.topF ?_ ?_); omega) | ((with_reducible refine WD.top64 ?_ ?_); omega))))
  refine WD.load 1 [2, 5, 8, 11, 12] rfl (by kernel_rfl) rfl rfl (fun _ _ _ _ _ h => h) rfl rfl rfl rfl (fun wx hx => hx.index) hS ?_
  (((first | refine WD.free 3 rfl (by kernel_rfl) rfl rfl (fun _ _ _ _ _ h => h) rfl rfl (.inr hS) ?_ | refine WD.skip 3 rfl (by kernel_rfl) rfl rfl (fun _ _ _ _ _ h => h) rfl (.inr hS) ?_); try (first | ((with_reducible refine WD.topT ?_ ?_); omega) | ((with_reducible refine WD.topF ?_ ?_); omega) | ((with_reducible refine WD.top64 ?_ ?_); omega))))
  refine WD.load 4 [5, 8, 11, 12] rfl (by kernel_rfl) rfl rfl (fun _ _ _ _ _ h => h) rfl rfl rfl rfl (fun wx hx => hx.time) hS ?_
  (((first | refine WD.free 6 rfl (by kernel_rfl) rfl rfl (fun _ _ _ _ _ h => h) rfl rfl (.inr hS) ?_ | refine WD.skip 6 rfl (by kernel_rfl) rfl rfl (fun _ _ _ _ _ h => h) rfl (.inr hS) ?_); try (first | ((with_reducible refine WD.topT ?_ ?_); omega) | ((with_reducible refine WD.topF ?_ ?_); omega) | ((with_reducible refine WD.top64 ?_ ?_); omega))))
  refine WD.load 7 [8, 11, 12] rfl (by kernel_rfl) rfl rfl (fun _ _ _ _ _ h => h) rfl rfl rfl rfl (fun wx hx => hx.txn) hS ?_
  (((first | refine WD.free 9 rfl (by kernel_rfl) rfl rfl (fun _ _ _ _ _ h => h) rfl rfl (.inr hS) ?_ | refine WD.skip 9 rfl (by kernel_rfl) rfl rfl (fun _ _ _ _ _ h => h) rfl (.inr hS) ?_); try (first | ((with_reducible refine WD.topT ?_ ?_); omega) | ((with_reducible refine WD.topF ?_ ?_); omega) | ((with_reducible refine WD.top64 ?_ ?_); omega))))
  refine WD.all 10 rfl (by kernel_rfl) rfl rfl (fun _ _ _ _ _ h => h) rfl rfl rfl rfl (.inr hS) ?_
  refine WD.one 2 (by kernel_rfl) rfl ?_
  refine WL.call rfl rfl rfl rfl rfl Try.func29 rfl (by kernel_rfl) (number11_any b.index (Bu.nil w2) hi (by simp)) ?_
  rintro _ w3 ⟨b3, rfl, hb3, hg3⟩
  refine ⟨_, rfl, ?_⟩
  have g3 := g2.trans hg3
  refine WL.nil (WQ.dk (.inr (hR g3)) ?_)
  rw [List.nil_append] at hb3
  refine WD.one 5 (by kernel_rfl) rfl ?_
  refine WL.call rfl rfl rfl rfl rfl Try.func29 rfl (by kernel_rfl) (number11_any b.time hb3 ht (by omega)) ?_
  rintro _ w4 ⟨b4, rfl, hb4, hg4⟩
  refine ⟨_, rfl, ?_⟩
  have g4 := g3.trans hg4
  refine WL.nil (WQ.dk (.inr (hR g4)) ?_)
  refine WD.one 8 (by kernel_rfl) rfl ?_
  refine WL.call rfl rfl rfl rfl rfl Try.func29 rfl (by kernel_rfl) (number11_any b.txn hb4 hx (by rw [List.length_append]; omega)) ?_
  rintro _ w5 ⟨b5, rfl, hb5, hg5⟩
  refine ⟨_, rfl, ?_⟩
  have g5 := g4.trans hg5
  refine WL.nil (WQ.dk (.inr (hR g5)) ?_)
  refine WD.one 11 (by kernel_rfl) rfl ?_
  refine WL.app rfl rfl rfl rfl rfl hb5 rfl (hash_sl (hR g5).prev hpl (hR g5).blk.lt) (by rw [List.length_append, List.length_append]; omega) fun b6 w6 hb6 hg6 => ?_
  have g6 := g5.trans hg6
  refine WL.nil (WQ.dk (.inl rfl) ?_)
  refine WD.one 12 (by kernel_rfl) rfl ?_
  refine WL.pure rfl rfl rfl rfl ?_
  refine WL.nil (WQ.dk (.inl rfl) ?_)
  refine WD.done (by kernel_rfl) ?_
  repeat (first | ((with_reducible refine WL.topT ?_ ?_); omega) | ((with_reducible refine WL.topF ?_ ?_); omega) | ((with_reducible refine WL.top64 ?_ ?_); omega) | refine WC.seq ?_ | refine WC.block ?_ | refine WC.region ?_ | refine WL.nil ?_ | refine WC.skip ?_ | refine WC.exit ?_ | refine WC.ret ?_ | refine WQ.then rfl ?_ | refine WQ.thenExit ?_ | refine WQ.thenRet ?_ | refine WQ.blk ?_ | refine WQ.blkRet ?_ | refine WQ.blkHere rfl ?_ | refine WQ.blkOther rfl ?_ | refine WL.pure rfl rfl rfl rfl ?_ | refine WL.on rfl rfl ?_ | refine WL.off rfl rfl rfl ?_ | refine WC.condTrue rfl ?_ | refine WC.condFalse rfl ?_)
  have g7 := hg0.trans g6
  refine WQ.ret1 rfl rfl ⟨b6, rfl, ?_, g7.old (Nat.le_refl _) (fun g h => by cases h), g7.own (Nat.le_refl _) (fun g h => by cases h)⟩
  unfold headL
  simpa [List.append_assoc] using hb6
end K
end Go.Proofs.Ytlamdhekjlnccaa

/- Blocks (chapter 11): lay, Check, Encode. -/
namespace Go.Proofs.Ytlamdhekjlnccaa
open Go.RowKit
namespace K
theorem layX_len {data : Bool} {e : En} (h : chkE e = 0) (hh : e.hash.length = 32) : (layE e ++ layD data e).length ≤ 80000 := by
  obtain ⟨hf, hd⟩ := chkE_ok h
  obtain ⟨-, -, -, -, hx, -⟩ := formE_rng hf
  have h1 := layE_len e hh
  have h2 : (layD data e).length ≤ 70000 := by
    unfold layD
    by_cases k2 : e.kind = 2
    · rw [if_pos k2]
      by_cases hg : e.gone = true ∨ data = false
      · rw [if_pos hg]; simp
      · rw [if_neg hg]
        have hgf : e.gone = false := by cases hq : e.gone with
          | true => exact absurd (.inl hq) hg
          | false => rfl
        obtain ⟨he, -⟩ := hd k2 hgf
        obtain ⟨-, hl, hx⟩ := encR_ok he
        have := uvB_len (encV 16 e.data).length
        rw [hx]
        simp only [List.length_cons, List.length_append]
        omega
    · rw [if_neg k2]; simp
  rw [List.length_append]; omega
theorem layXs_len {data : Bool} : ∀ (es : List En), (∀ e ∈ es, chkE e = 0 ∧ e.hash.length = 32) → (es.flatMap fun e => layE e ++ layD data e).length ≤ 80000 * es.length
  | [], _ => by simp
  | e :: es, h => by
    have h1 := layX_len (data := data) (h e (by simp)).1 (h e (by simp)).2
    have h2 := layXs_len (data := data) es fun x hx => h x (List.mem_cons_of_mem _ hx)
    rw [List.flatMap_cons, List.length_append, List.length_cons]
    omega
/-- An entry of a row. -/
theorem Els.at {α : Type} {m : Nat} {z : α} {P : α → List Value → Prop} {O : Nat → Prop} {w : World} {v : Value} {l : List α} (h : Els m z P O w v l) {j : Nat} (hj : j < l.length) :
    ∃ b o cap cs, v = .slice (some ⟨b, o, none⟩) l.length cap ∧ b < w.heap.size ∧ cs.length = m ∧ P (l.getD j z) cs ∧ w.rangeAt b (o + j * m) cs := by
  obtain ⟨sp, cap, rfl, -, -, -, h4⟩ := h
  obtain ⟨b, o, rfl, hb, -, hr⟩ := h4 (by omega)
  obtain ⟨cs, h1, h2, h3⟩ := hr j hj
  exact ⟨b, o, cap, cs, rfl, hb, h1, h2, h3⟩
theorem Els.slice {α : Type} {m : Nat} {z : α} {P : α → List Value → Prop} {O : Nat → Prop} {w : World} {v : Value} {l : List α} (h : Els m z P O w v l) : ∃ sp cap, v = .slice sp l.length cap := by
  obtain ⟨sp, cap, rfl, -⟩ := h; exact ⟨sp, cap, rfl⟩
theorem take_snoc {α : Type} (l : List α) (z : α) {i : Nat} (h : i < l.length) : l.take (i + 1) = l.take i ++ [l.getD i z] := by rw [List.take_add_one]; simp [h]
theorem BkP.hashes {f : Nat} {w : World} {b : Bk} {cs : List Value} (h : IsB f w b cs) : ∀ e ∈ b.ents, e.hash.length = 32 ∧ RngE e := by
  intro e he
  obtain ⟨j, hj, rfl⟩ := List.getElem_of_mem he
  obtain ⟨se, -, hents, -⟩ := h
  obtain ⟨_, _, _, cs, -, -, -, ⟨dc, -, hv, -, -, hl, -⟩, -⟩ := hents.at hj
  have e1 : b.ents.getD j noE = b.ents[j] := by simp [hj]
  rw [e1] at hv hl
  exact ⟨hl, ⟨f, IsV.rng hv⟩, hl⟩
set_option maxHeartbeats 8000000 in
theorem lay11_any {f : Nat} {w : World} {b : Bk} {cs : List Value} (data : Bool) (h : IsB f w b cs) (hck : ∀ e ∈ b.ents, chkE e = 0) (hle : b.ents.length ≤ 200) : Calls Try.prog 17 #[.agg cs.toArray, .bool data] w (NewBu w (layB data b)) := by
  have hall := h
  have hhs := BkP.hashes h
  have hcl := h.len
  obtain ⟨se, rfl, hents, hpl, hpb, hr⟩ := h
  obtain ⟨sp, cap, rfl⟩ := hents.slice
  refine enter (args := [.agg (bkC b (.slice sp b.ents.length cap)).toArray, .bool data]) Try.func17 rfl Try.ntmps17 rfl ?_
  repeat (first | ((with_reducible refine WL.topT ?_ ?_); omega) | ((with_reducible refine WL.topF ?_ ?_); omega) | ((with_reducible refine WL.top64 ?_ ?_); omega) | refine WC.seq ?_ | refine WC.block ?_ | refine WC.region ?_ | refine WL.nil ?_ | refine WC.skip ?_ | refine WC.exit ?_ | refine WC.ret ?_ | refine WQ.then rfl ?_ | refine WQ.thenExit ?_ | refine WQ.thenRet ?_ | refine WQ.blk ?_ | refine WQ.blkRet ?_ | refine WQ.blkHere rfl ?_ | refine WQ.blkOther rfl ?_ | refine WL.pure rfl rfl rfl rfl ?_ | refine WL.on rfl rfl ?_ | refine WL.off rfl rfl rfl ?_ | refine WC.condTrue rfl ?_ | refine WC.condFalse rfl ?_)
  refine WL.box rfl rfl rfl rfl rfl fun g w1 hf => ?_
  have hf' : Fresh w g w1 26 (bkC b (.slice sp b.ents.length cap)) := hf
  clear hf
  have hw1 := hf'.below
  have B1 : BkAt 26 g w1 b (.slice sp b.ents.length cap) := ⟨hf'.blk, hpl⟩
  clear hf'
  repeat (first | ((with_reducible refine WL.topT ?_ ?_); omega) | ((with_reducible refine WL.topF ?_ ?_); omega) | ((with_reducible refine WL.top64 ?_ ?_); omega) | refine WC.seq ?_ | refine WC.block ?_ | refine WC.region ?_ | refine WL.nil ?_ | refine WC.skip ?_ | refine WC.exit ?_ | refine WC.ret ?_ | refine WQ.then rfl ?_ | refine WQ.thenExit ?_ | refine WQ.thenRet ?_ | refine WQ.blk ?_ | refine WQ.blkRet ?_ | refine WQ.blkHere rfl ?_ | refine WQ.blkOther rfl ?_ | refine WL.pure rfl rfl rfl rfl ?_ | refine WL.on rfl rfl ?_ | refine WL.off rfl rfl rfl ?_ | refine WC.condTrue rfl ?_ | refine WC.condFalse rfl ?_)
  refine WL.loadMid rfl rfl rfl rfl rfl rfl (VBlk.rangeAt B1.blk) hcl ?_
  refine WL.call rfl rfl rfl rfl rfl Try.func28 rfl (by kernel_rfl) (head_any (IsB.below hw1 hall)) ?_
  rintro _ w2 ⟨b2, rfl, hb2, hk2, ho2⟩
  refine ⟨_, rfl, ?_⟩
  have hw2 := hw1.trans (hk2.mono hw1.size)
  have B2 := B1.below hk2
  have ha2 : Apart w w2 b2 := ⟨hw2, fun g hg => Nat.le_trans hw1.size (ho2 g hg)⟩
  have hhl : (headL b).length ≤ 70 := by
    have h1 := uvB_len b.index.toNat
    have h2 := uvB_len b.time.toNat
    have h3 := uvB_len b.txn.toNat
    unfold headL; simp only [List.length_append]; omega
  repeat (first | ((with_reducible refine WL.topT ?_ ?_); omega) | ((with_reducible refine WL.topF ?_ ?_); omega) | ((with_reducible refine WL.top64 ?_ ?_); omega) | refine WC.seq ?_ | refine WC.block ?_ | refine WC.region ?_ | refine WL.nil ?_ | refine WC.skip ?_ | refine WC.exit ?_ | refine WC.ret ?_ | refine WQ.then rfl ?_ | refine WQ.thenExit ?_ | refine WQ.thenRet ?_ | refine WQ.blk ?_ | refine WQ.blkRet ?_ | refine WQ.blkHere rfl ?_ | refine WQ.blkOther rfl ?_ | refine WL.pure rfl rfl rfl rfl ?_ | refine WL.on rfl rfl ?_ | refine WL.off rfl rfl rfl ?_ | refine WC.condTrue rfl ?_ | refine WC.condFalse rfl ?_)
  refine WL.load rfl rfl rfl rfl rfl rfl B2.ents ?_
  repeat (first | ((with_reducible refine WL.topT ?_ ?_); omega) | ((with_reducible refine WL.topF ?_ ?_); omega) | ((with_reducible refine WL.top64 ?_ ?_); omega) | refine WC.seq ?_ | refine WC.block ?_ | refine WC.region ?_ | refine WL.nil ?_ | refine WC.skip ?_ | refine WC.exit ?_ | refine WC.ret ?_ | refine WQ.then rfl ?_ | refine WQ.thenExit ?_ | refine WQ.thenRet ?_ | refine WQ.blk ?_ | refine WQ.blkRet ?_ | refine WQ.blkHere rfl ?_ | refine WQ.blkOther rfl ?_ | refine WL.pure rfl rfl rfl rfl ?_ | refine WL.on rfl rfl ?_ | refine WL.off rfl rfl rfl ?_ | refine WC.condTrue rfl ?_ | refine WC.condFalse rfl ?_)
  refine WL.call rfl rfl rfl rfl rfl Try.func29 rfl (by kernel_rfl) (number11_any (b.ents.length : Int) hb2 (by show R64 _; omega) (by omega)) ?_
  rintro _ w3 ⟨b3, rfl, hb3, hg3⟩
  refine ⟨_, rfl, ?_⟩
  rw [Int.toNat_natCast] at hb3
  have ha3 := ha2.grow hg3
  have B3 : BkAt 26 g w3 b (.slice sp b.ents.length cap) := B2.keep hg3.1 ⟨B2.blk.lt, fun e => by have := ho2 g e; have := B1.blk.lt; omega⟩
  have hun := uvB_len b.ents.length
  have hM : (headL b ++ uvB b.ents.length).length ≤ 80 := by rw [List.length_append]; omega
  have hML : layB data b = (headL b ++ uvB b.ents.length) ++ b.ents.flatMap fun e => layE e ++ layD data e := by unfold layB; rw [List.append_assoc]
  generalize headL b ++ uvB b.ents.length = M at hb3 hM hML
  repeat (first | ((with_reducible refine WL.topT ?_ ?_); omega) | ((with_reducible refine WL.topF ?_ ?_); omega) | ((with_reducible refine WL.top64 ?_ ?_); omega) | refine WC.seq ?_ | refine WC.block ?_ | refine WC.region ?_ | refine WL.nil ?_ | refine WC.skip ?_ | refine WC.exit ?_ | refine WC.ret ?_ | refine WQ.then rfl ?_ | refine WQ.thenExit ?_ | refine WQ.thenRet ?_ | refine WQ.blk ?_ | refine WQ.blkRet ?_ | refine WQ.blkHere rfl ?_ | refine WQ.blkOther rfl ?_ | refine WL.pure rfl rfl rfl rfl ?_ | refine WL.on rfl rfl ?_ | refine WL.off rfl rfl rfl ?_ | refine WC.condTrue rfl ?_ | refine WC.condFalse rfl ?_)
  refine WL.load rfl rfl rfl rfl rfl rfl B3.ents ?_
  repeat (first | ((with_reducible refine WL.topT ?_ ?_); omega) | ((with_reducible refine WL.topF ?_ ?_); omega) | ((with_reducible refine WL.top64 ?_ ?_); omega) | refine WC.seq ?_ | refine WC.block ?_ | refine WC.region ?_ | refine WL.nil ?_ | refine WC.skip ?_ | refine WC.exit ?_ | refine WC.ret ?_ | refine WQ.then rfl ?_ | refine WQ.thenExit ?_ | refine WQ.thenRet ?_ | refine WQ.blk ?_ | refine WQ.blkRet ?_ | refine WQ.blkHere rfl ?_ | refine WQ.blkOther rfl ?_ | refine WL.pure rfl rfl rfl rfl ?_ | refine WL.on rfl rfl ?_ | refine WL.off rfl rfl rfl ?_ | refine WC.condTrue rfl ?_ | refine WC.condFalse rfl ?_)
  refine WC.loop (fun i : Nat × Value => [(1, .bool data), (5, i.2), (18, .slice sp b.ents.length cap), (19, .int .i64 b.ents.length), (20, .int .i64 i.1)])
    (fun i w' => i.1 ≤ b.ents.length ∧ Bu w' i.2 (M ++ (b.ents.take i.1).flatMap fun e => layE e ++ layD data e) ∧ Apart w w' i.2) (fun i => b.ents.length - i.1) (0, b3) ⟨rfl, rfl, rfl, rfl, rfl, trivial⟩ ⟨Nat.zero_le _, by simpa using hb3, ha3⟩ ?_
  rintro ⟨i, br⟩ wr ⟨hi, hbr, har⟩
  simp only at hi hbr har ⊢
  by_cases hik : i < b.ents.length
  · have hlen : (M ++ (b.ents.take i).flatMap fun e => layE e ++ layD data e).length ≤ 80 + 80000 * 200 := by
      have := layXs_len (data := data) (b.ents.take i) fun e he => ⟨hck e (List.mem_of_mem_take he), (hhs e (List.mem_of_mem_take he)).1⟩
      rw [List.length_take] at this
      rw [List.length_append]
      have h2 : min i b.ents.length ≤ 200 := by omega
      have := Nat.mul_le_mul_left 80000 h2
      omega
    have hts := take_snoc b.ents noE hik
    obtain ⟨kb, ko, cap', cs, hse, hkb, hc46, hce, hcr⟩ := hents.at hik
    injection hse with hse1 _ hse2
    subst hse1; subst hse2
    have hmem : b.ents.getD i noE ∈ b.ents := by simp [hik]
    have hce0 := hck _ hmem
    have hh32 := (hhs _ hmem).1
    obtain ⟨hform, hdat⟩ := chkE_ok hce0
    obtain ⟨hkd, -, -, -, htx, -⟩ := formE_rng hform
    generalize b.ents.getD i noE = e at hce hce0 hh32 hform hdat hkd htx hts
    generalize hLL : (M ++ (b.ents.take i).flatMap fun e => layE e ++ layD data e) = L at hbr hlen
    have hle := layE_len e hh32
    have again : ∀ {wx : World} {bx : Value}, Bu wx bx (L ++ (layE e ++ layD data e)) → Apart w wx bx → Bu wx bx (M ++ (b.ents.take (i + 1)).flatMap fun e => layE e ++ layD data e) ∧ Apart w wx bx := fun {wx bx} h1 h2 => by
      rw [hts, List.flatMap_append, ← List.append_assoc, hLL]
      exact ⟨by simpa using h1, h2⟩
    have hone := hce.one
    have hce' := hce
    obtain ⟨dc, rfl, hv, hdl, -, hh, -⟩ := hce
    repeat (first | ((with_reducible refine WL.topT ?_ ?_); omega) | ((with_reducible refine WL.topF ?_ ?_); omega) | ((with_reducible refine WL.top64 ?_ ?_); omega) | refine WC.seq ?_ | refine WC.block ?_ | refine WC.region ?_ | refine WL.nil ?_ | refine WC.skip ?_ | refine WC.exit ?_ | refine WC.ret ?_ | refine WQ.then rfl ?_ | refine WQ.thenExit ?_ | refine WQ.thenRet ?_ | refine WQ.blk ?_ | refine WQ.blkRet ?_ | refine WQ.blkHere rfl ?_ | refine WQ.blkOther rfl ?_ | refine WL.pure rfl rfl rfl rfl ?_ | refine WL.on rfl rfl ?_ | refine WL.off rfl rfl rfl ?_ | refine WC.condTrue rfl ?_ | refine WC.condFalse rfl ?_)
    refine WL.idx i (ko + i * 46) rfl rfl rfl rfl rfl rfl rfl rfl hik rfl ?_
    refine WL.loadMid rfl rfl rfl rfl rfl rfl (fun j u hu => (har.below.cell (p := ⟨kb, ko + i * 46 + j, none⟩) hkb).trans (hcr j u hu)) hc46 ?_
    refine WL.alloc (z := .agg (enC noE zCells).toArray) rfl rfl rfl rfl (fun _ => by kernel_rfl) fun c w5 hf5 => ?_
    have hf5' : Fresh wr c w5 49 (enC noE zCells) := hf5
    clear hf5
    repeat (first | ((with_reducible refine WL.topT ?_ ?_); omega) | ((with_reducible refine WL.topF ?_ ?_); omega) | ((with_reducible refine WL.top64 ?_ ?_); omega) | refine WC.seq ?_ | refine WC.block ?_ | refine WC.region ?_ | refine WL.nil ?_ | refine WC.skip ?_ | refine WC.exit ?_ | refine WC.ret ?_ | refine WQ.then rfl ?_ | refine WQ.thenExit ?_ | refine WQ.thenRet ?_ | refine WQ.blk ?_ | refine WQ.blkRet ?_ | refine WQ.blkHere rfl ?_ | refine WQ.blkOther rfl ?_ | refine WL.pure rfl rfl rfl rfl ?_ | refine WL.on rfl rfl ?_ | refine WL.off rfl rfl rfl ?_ | refine WC.condTrue rfl ?_ | refine WC.condFalse rfl ?_)
    refine WL.storeRow rfl rfl rfl rfl rfl rfl hf5'.blk hc46 (by rfl) hone ?_
    have hk6 : Below wr.heap.size wr (w5.setRow c (enC e dc).toArray) := below_setRow hf5'.below (by rw [hf5'.eq]; exact Nat.le_refl _) _
    have C6 : EnAt 49 c (w5.setRow c (enC e dc).toArray) e dc := ⟨hf5'.blk.setRow _, hdl, hh⟩
    have hce5 := hf5'.eq
    generalize w5.setRow c (enC e dc).toArray = w6 at hk6 C6
    clear hf5'
    have hb6 := hbr.below hk6
    have g6 : Grow wr br w6 br := (Grow.refl wr br).below hk6
    have hco : br.ownBlock ≠ some c := fun e => by have := hbr.lt _ e; omega
    have hR : ∀ {wk vk}, Grow w6 br wk vk → EnAt 49 c wk e dc := fun h => C6.keep h.1 ⟨C6.blk.lt, hco⟩
    repeat (first | ((with_reducible refine WL.topT ?_ ?_); omega) | ((with_reducible refine WL.topF ?_ ?_); omega) | ((with_reducible refine WL.top64 ?_ ?_); omega) | refine WC.seq ?_ | refine WC.block ?_ | refine WC.region ?_ | refine WL.nil ?_ | refine WC.skip ?_ | refine WC.exit ?_ | refine WC.ret ?_ | refine WQ.then rfl ?_ | refine WQ.thenExit ?_ | refine WQ.thenRet ?_ | refine WQ.blk ?_ | refine WQ.blkRet ?_ | refine WQ.blkHere rfl ?_ | refine WQ.blkOther rfl ?_ | refine WL.pure rfl rfl rfl rfl ?_ | refine WL.on rfl rfl ?_ | refine WL.off rfl rfl rfl ?_ | refine WC.condTrue rfl ?_ | refine WC.condFalse rfl ?_)
    refine WL.loadMid rfl rfl rfl rfl rfl rfl (VBlk.rangeAt C6.blk) hc46 ?_
    refine WL.call rfl rfl rfl rfl rfl Try.func30 rfl (by kernel_rfl) (layEntry_any hce' hkd hb6 (by omega)) ?_
    rintro _ w7 ⟨b7, rfl, hb7, g7⟩
    refine ⟨_, rfl, ?_⟩
    repeat (first | ((with_reducible refine WL.topT ?_ ?_); omega) | ((with_reducible refine WL.topF ?_ ?_); omega) | ((with_reducible refine WL.top64 ?_ ?_); omega) | refine WC.seq ?_ | refine WC.block ?_ | refine WC.region ?_ | refine WL.nil ?_ | refine WC.skip ?_ | refine WC.exit ?_ | refine WC.ret ?_ | refine WQ.then rfl ?_ | refine WQ.thenExit ?_ | refine WQ.thenRet ?_ | refine WQ.blk ?_ | refine WQ.blkRet ?_ | refine WQ.blkHere rfl ?_ | refine WQ.blkOther rfl ?_ | refine WL.pure rfl rfl rfl rfl ?_ | refine WL.on rfl rfl ?_ | refine WL.off rfl rfl rfl ?_ | refine WC.condTrue rfl ?_ | refine WC.condFalse rfl ?_)
    refine WL.load rfl rfl rfl rfl rfl rfl (hR g7).kind ?_
    by_cases k2 : e.kind = 2
    rotate_left
    · have hX : layD data e = [] := by unfold layD; rw [if_neg k2]
      repeat (first | ((with_reducible refine WL.topT ?_ ?_); omega) | ((with_reducible refine WL.topF ?_ ?_); omega) | ((with_reducible refine WL.top64 ?_ ?_); omega) | refine WC.seq ?_ | refine WC.block ?_ | refine WC.region ?_ | refine WL.nil ?_ | refine WC.skip ?_ | refine WC.exit ?_ | refine WC.ret ?_ | refine WQ.then rfl ?_ | refine WQ.thenExit ?_ | refine WQ.thenRet ?_ | refine WQ.blk ?_ | refine WQ.blkRet ?_ | refine WQ.blkHere rfl ?_ | refine WQ.blkOther rfl ?_ | refine WL.pure rfl rfl rfl rfl ?_ | refine WL.on rfl rfl ?_ | refine WL.off rfl rfl rfl ?_ | refine WC.condTrue rfl ?_ | refine WC.condFalse rfl ?_)
      refine WQ.again (i + 1, b7) ⟨rfl, rfl, rfl, rfl, rfl, trivial⟩ ⟨hik, again (by rw [hX, List.append_nil]; exact hb7) (har.grow (g6.trans g7))⟩ (by show b.ents.length - (i + 1) < b.ents.length - i; omega)
    repeat (first | ((with_reducible refine WL.topT ?_ ?_); omega) | ((with_reducible refine WL.topF ?_ ?_); omega) | ((with_reducible refine WL.top64 ?_ ?_); omega) | refine WC.seq ?_ | refine WC.block ?_ | refine WC.region ?_ | refine WL.nil ?_ | refine WC.skip ?_ | refine WC.exit ?_ | refine WC.ret ?_ | refine WQ.then rfl ?_ | refine WQ.thenExit ?_ | refine WQ.thenRet ?_ | refine WQ.blk ?_ | refine WQ.blkRet ?_ | refine WQ.blkHere rfl ?_ | refine WQ.blkOther rfl ?_ | refine WL.pure rfl rfl rfl rfl ?_ | refine WL.on rfl rfl ?_ | refine WL.off rfl rfl rfl ?_ | refine WC.condTrue rfl ?_ | refine WC.condFalse rfl ?_)
    refine WL.load rfl rfl rfl rfl rfl rfl (hR g7).gone ?_
    by_cases hgd : e.gone = true ∨ data = false
    · have hX : layD data e = [0] := by unfold layD; rw [if_pos k2, if_pos hgd]
      have hcase : e.gone = true ∨ (e.gone = false ∧ data = false) := by
        cases hq : e.gone with
        | true => exact .inl rfl
        | false => exact .inr ⟨rfl, hgd.resolve_left (by rw [hq]; simp)⟩
      rcases hcase with hq | ⟨hq, hdf⟩
      · rw [hq]
        repeat (first | ((with_reducible refine WL.topT ?_ ?_); omega) | ((with_reducible refine WL.topF ?_ ?_); omega) | ((with_reducible refine WL.top64 ?_ ?_); omega) | refine WC.seq ?_ | refine WC.block ?_ | refine WC.region ?_ | refine WL.nil ?_ | refine WC.skip ?_ | refine WC.exit ?_ | refine WC.ret ?_ | refine WQ.then rfl ?_ | refine WQ.thenExit ?_ | refine WQ.thenRet ?_ | refine WQ.blk ?_ | refine WQ.blkRet ?_ | refine WQ.blkHere rfl ?_ | refine WQ.blkOther rfl ?_ | refine WL.pure rfl rfl rfl rfl ?_ | refine WL.on rfl rfl ?_ | refine WL.off rfl rfl rfl ?_ | refine WC.condTrue rfl ?_ | refine WC.condFalse rfl ?_)
        refine WL.push rfl rfl rfl rfl rfl rfl rfl rfl rfl rfl rfl (fun _ => rfl) rfl hb7 (by rw [List.length_append]; simp only [List.length_cons, List.length_nil]; omega) fun b8 w8 hb8 g8 => ?_
        repeat (first | ((with_reducible refine WL.topT ?_ ?_); omega) | ((with_reducible refine WL.topF ?_ ?_); omega) | ((with_reducible refine WL.top64 ?_ ?_); omega) | refine WC.seq ?_ | refine WC.block ?_ | refine WC.region ?_ | refine WL.nil ?_ | refine WC.skip ?_ | refine WC.exit ?_ | refine WC.ret ?_ | refine WQ.then rfl ?_ | refine WQ.thenExit ?_ | refine WQ.thenRet ?_ | refine WQ.blk ?_ | refine WQ.blkRet ?_ | refine WQ.blkHere rfl ?_ | refine WQ.blkOther rfl ?_ | refine WL.pure rfl rfl rfl rfl ?_ | refine WL.on rfl rfl ?_ | refine WL.off rfl rfl rfl ?_ | refine WC.condTrue rfl ?_ | refine WC.condFalse rfl ?_)
        refine WQ.again (i + 1, b8) ⟨rfl, rfl, rfl, rfl, rfl, trivial⟩ ⟨hik, again (by rw [hX, ← List.append_assoc]; exact hb8) (har.grow ((g6.trans g7).trans g8))⟩ (by show b.ents.length - (i + 1) < b.ents.length - i; omega)
      · rw [hq]
        subst hdf
        repeat (first | ((with_reducible refine WL.topT ?_ ?_); omega) | ((with_reducible refine WL.topF ?_ ?_); omega) | ((with_reducible refine WL.top64 ?_ ?_); omega) | refine WC.seq ?_ | refine WC.block ?_ | refine WC.region ?_ | refine WL.nil ?_ | refine WC.skip ?_ | refine WC.exit ?_ | refine WC.ret ?_ | refine WQ.then rfl ?_ | refine WQ.thenExit ?_ | refine WQ.thenRet ?_ | refine WQ.blk ?_ | refine WQ.blkRet ?_ | refine WQ.blkHere rfl ?_ | refine WQ.blkOther rfl ?_ | refine WL.pure rfl rfl rfl rfl ?_ | refine WL.on rfl rfl ?_ | refine WL.off rfl rfl rfl ?_ | refine WC.condTrue rfl ?_ | refine WC.condFalse rfl ?_)
        refine WL.push rfl rfl rfl rfl rfl rfl rfl rfl rfl rfl rfl (fun _ => rfl) rfl hb7 (by rw [List.length_append]; simp only [List.length_cons, List.length_nil]; omega) fun b8 w8 hb8 g8 => ?_
        repeat (first | ((with_reducible refine WL.topT ?_ ?_); omega) | ((with_reducible refine WL.topF ?_ ?_); omega) | ((with_reducible refine WL.top64 ?_ ?_); omega) | refine WC.seq ?_ | refine WC.block ?_ | refine WC.region ?_ | refine WL.nil ?_ | refine WC.skip ?_ | refine WC.exit ?_ | refine WC.ret ?_ | refine WQ.then rfl ?_ | refine WQ.thenExit ?_ | refine WQ.thenRet ?_ | refine WQ.blk ?_ | refine WQ.blkRet ?_ | refine WQ.blkHere rfl ?_ | refine WQ.blkOther rfl ?_ | refine WL.pure rfl rfl rfl rfl ?_ | refine WL.on rfl rfl ?_ | refine WL.off rfl rfl rfl ?_ | refine WC.condTrue rfl ?_ | refine WC.condFalse rfl ?_)
        refine WQ.again (i + 1, b8) ⟨rfl, rfl, rfl, rfl, rfl, trivial⟩ ⟨hik, again (by rw [hX, ← List.append_assoc]; exact hb8) (har.grow ((g6.trans g7).trans g8))⟩ (by show b.ents.length - (i + 1) < b.ents.length - i; omega)
    · have hgf : e.gone = false := by cases hq : e.gone with
        | true => exact absurd (.inl hq) hgd
        | false => rfl
      obtain rfl : data = true := by cases data with
        | true => rfl
        | false => exact absurd (.inr rfl) hgd
      have hX : layD true e = 1 :: (uvB (encR e.data).1.length ++ (encR e.data).1) := by unfold layD; rw [if_pos k2, if_neg hgd]
      obtain ⟨he, -⟩ := hdat k2 hgf
      obtain ⟨hc, hl65, hx⟩ := encR_ok he
      have hun := uvB_len (encR e.data).1.length
      rw [← hx] at hl65
      rw [hgf]
      have har7 := har.grow (g6.trans g7)
      repeat (first | ((with_reducible refine WL.topT ?_ ?_); omega) | ((with_reducible refine WL.topF ?_ ?_); omega) | ((with_reducible refine WL.top64 ?_ ?_); omega) | refine WC.seq ?_ | refine WC.block ?_ | refine WC.region ?_ | refine WL.nil ?_ | refine WC.skip ?_ | refine WC.exit ?_ | refine WC.ret ?_ | refine WQ.then rfl ?_ | refine WQ.thenExit ?_ | refine WQ.thenRet ?_ | refine WQ.blk ?_ | refine WQ.blkRet ?_ | refine WQ.blkHere rfl ?_ | refine WQ.blkOther rfl ?_ | refine WL.pure rfl rfl rfl rfl ?_ | refine WL.on rfl rfl ?_ | refine WL.off rfl rfl rfl ?_ | refine WC.condTrue rfl ?_ | refine WC.condFalse rfl ?_)
      refine WL.loadMid rfl rfl rfl rfl rfl rfl (hR g7).data hdl ?_
      refine WL.call rfl rfl rfl rfl rfl Try.func31 rfl (by kernel_rfl) (encode_any (hv.below har7.below) fun _ => by rw [← hx]; omega) ?_
      rintro _ w8 ⟨b8, rfl, hb8, hk8, ho8⟩
      refine ⟨_, rfl, ?_⟩
      obtain ⟨sp8, cap8, rfl, -⟩ := hb8.form
      have hb78 := hb7.below hk8
      have g8 : Grow w7 b7 w8 b7 := (Grow.refl w7 b7).below hk8
      repeat (first | ((with_reducible refine WL.topT ?_ ?_); omega) | ((with_reducible refine WL.topF ?_ ?_); omega) | ((with_reducible refine WL.top64 ?_ ?_); omega) | refine WC.seq ?_ | refine WC.block ?_ | refine WC.region ?_ | refine WL.nil ?_ | refine WC.skip ?_ | refine WC.exit ?_ | refine WC.ret ?_ | refine WQ.then rfl ?_ | refine WQ.thenExit ?_ | refine WQ.thenRet ?_ | refine WQ.blk ?_ | refine WQ.blkRet ?_ | refine WQ.blkHere rfl ?_ | refine WQ.blkOther rfl ?_ | refine WL.pure rfl rfl rfl rfl ?_ | refine WL.on rfl rfl ?_ | refine WL.off rfl rfl rfl ?_ | refine WC.condTrue rfl ?_ | refine WC.condFalse rfl ?_)
      refine WL.push rfl rfl rfl rfl rfl rfl rfl rfl rfl rfl rfl (fun _ => rfl) rfl hb78 (by rw [List.length_append]; simp only [List.length_cons, List.length_nil]; omega) fun b9 w9 hb9 g9 => ?_
      repeat (first | ((with_reducible refine WL.topT ?_ ?_); omega) | ((with_reducible refine WL.topF ?_ ?_); omega) | ((with_reducible refine WL.top64 ?_ ?_); omega) | refine WC.seq ?_ | refine WC.block ?_ | refine WC.region ?_ | refine WL.nil ?_ | refine WC.skip ?_ | refine WC.exit ?_ | refine WC.ret ?_ | refine WQ.then rfl ?_ | refine WQ.thenExit ?_ | refine WQ.thenRet ?_ | refine WQ.blk ?_ | refine WQ.blkRet ?_ | refine WQ.blkHere rfl ?_ | refine WQ.blkOther rfl ?_ | refine WL.pure rfl rfl rfl rfl ?_ | refine WL.on rfl rfl ?_ | refine WL.off rfl rfl rfl ?_ | refine WC.condTrue rfl ?_ | refine WC.condFalse rfl ?_)
      refine WL.call rfl rfl rfl rfl rfl Try.func29 rfl (by kernel_rfl) (number11_any ((encR e.data).1.length : Int) hb9 (by show R64 _; omega) (by rw [List.length_append, List.length_append]; simp only [List.length_cons, List.length_nil]; omega)) ?_
      rintro _ w10 ⟨b10, rfl, hb10, g10⟩
      refine ⟨_, rfl, ?_⟩
      rw [Int.toNat_natCast] at hb10
      have hs10 : Sl .u8 w10 (.slice sp8 (encR e.data).1.length cap8) (encR e.data).1 := hb8.sl.keep (g9.trans g10).1 fun b o n c hb hlt => ⟨hlt, fun e1 => by
        injection hb with hb1 _ _
        have h1 := ho8 b (by rw [hb1]; rfl)
        have h2 := hb7.lt _ e1
        omega⟩
      repeat (first | ((with_reducible refine WL.topT ?_ ?_); omega) | ((with_reducible refine WL.topF ?_ ?_); omega) | ((with_reducible refine WL.top64 ?_ ?_); omega) | refine WC.seq ?_ | refine WC.block ?_ | refine WC.region ?_ | refine WL.nil ?_ | refine WC.skip ?_ | refine WC.exit ?_ | refine WC.ret ?_ | refine WQ.then rfl ?_ | refine WQ.thenExit ?_ | refine WQ.thenRet ?_ | refine WQ.blk ?_ | refine WQ.blkRet ?_ | refine WQ.blkHere rfl ?_ | refine WQ.blkOther rfl ?_ | refine WL.pure rfl rfl rfl rfl ?_ | refine WL.on rfl rfl ?_ | refine WL.off rfl rfl rfl ?_ | refine WC.condTrue rfl ?_ | refine WC.condFalse rfl ?_)
      refine WL.app rfl rfl rfl rfl rfl hb10 rfl hs10 (by simp only [List.length_append, List.length_cons, List.length_nil]; omega) fun b11 w11 hb11 g11 => ?_
      repeat (first | ((with_reducible refine WL.topT ?_ ?_); omega) | ((with_reducible refine WL.topF ?_ ?_); omega) | ((with_reducible refine WL.top64 ?_ ?_); omega) | refine WC.seq ?_ | refine WC.block ?_ | refine WC.region ?_ | refine WL.nil ?_ | refine WC.skip ?_ | refine WC.exit ?_ | refine WC.ret ?_ | refine WQ.then rfl ?_ | refine WQ.thenExit ?_ | refine WQ.thenRet ?_ | refine WQ.blk ?_ | refine WQ.blkRet ?_ | refine WQ.blkHere rfl ?_ | refine WQ.blkOther rfl ?_ | refine WL.pure rfl rfl rfl rfl ?_ | refine WL.on rfl rfl ?_ | refine WL.off rfl rfl rfl ?_ | refine WC.condTrue rfl ?_ | refine WC.condFalse rfl ?_)
      refine WQ.again (i + 1, b11) ⟨rfl, rfl, rfl, rfl, rfl, trivial⟩ ⟨hik, again (by rw [hX]; simpa [List.append_assoc] using hb11) ((((har7.grow g8).grow g9).grow g10).grow g11)⟩ (by show b.ents.length - (i + 1) < b.ents.length - i; omega)
  · obtain rfl : i = b.ents.length := by omega
    rw [List.take_length] at hbr
    repeat (first | ((with_reducible refine WL.topT ?_ ?_); omega) | ((with_reducible refine WL.topF ?_ ?_); omega) | ((with_reducible refine WL.top64 ?_ ?_); omega) | refine WC.seq ?_ | refine WC.block ?_ | refine WC.region ?_ | refine WL.nil ?_ | refine WC.skip ?_ | refine WC.exit ?_ | refine WC.ret ?_ | refine WQ.then rfl ?_ | refine WQ.thenExit ?_ | refine WQ.thenRet ?_ | refine WQ.blk ?_ | refine WQ.blkRet ?_ | refine WQ.blkHere rfl ?_ | refine WQ.blkOther rfl ?_ | refine WL.pure rfl rfl rfl rfl ?_ | refine WL.on rfl rfl ?_ | refine WL.off rfl rfl rfl ?_ | refine WC.condTrue rfl ?_ | refine WC.condFalse rfl ?_)
    refine WQ.ret1 rfl rfl ⟨br, rfl, ?_, har.below, har.own⟩
    rw [hML]
    exact hbr
end K
end Go.Proofs.Ytlamdhekjlnccaa

/- Blocks (chapter 11): Check, Encode. -/
namespace Go.Proofs.Ytlamdhekjlnccaa
open Go.RowKit
namespace K
set_option maxHeartbeats 4000000 in
theorem check11_any {f : Nat} {w : World} {b : Bk} {cs : List Value} (h : IsB f w b cs) (hlen : ∀ e ∈ b.ents, chk 16 e.data = 0 → (encV 16 e.data).length ≤ 70368744177664) : Calls Try.prog 16 #[.agg cs.toArray] w fun r w' => r = .returned (.int .i64 (chkB b)) ∧ Below w.heap.size w w' := by
  have hall := h
  have hcl := h.len
  obtain ⟨se, rfl, hents, hpl, hpb, hi, ht, hx⟩ := h
  obtain ⟨sp, cap, rfl⟩ := hents.slice
  refine enter (args := [.agg (bkC b (.slice sp b.ents.length cap)).toArray]) Try.func16 rfl Try.ntmps16 rfl ?_
  repeat (first | ((with_reducible refine WL.topT ?_ ?_); omega) | ((with_reducible refine WL.topF ?_ ?_); omega) | ((with_reducible refine WL.top64 ?_ ?_); omega) | refine WC.seq ?_ | refine WC.block ?_ | refine WC.region ?_ | refine WL.nil ?_ | refine WC.skip ?_ | refine WC.exit ?_ | refine WC.ret ?_ | refine WQ.then rfl ?_ | refine WQ.thenExit ?_ | refine WQ.thenRet ?_ | refine WQ.blk ?_ | refine WQ.blkRet ?_ | refine WQ.blkHere rfl ?_ | refine WQ.blkOther rfl ?_ | refine WL.pure rfl rfl rfl rfl ?_ | refine WL.on rfl rfl ?_ | refine WL.off rfl rfl rfl ?_ | refine WC.condTrue rfl ?_ | refine WC.condFalse rfl ?_)
  refine WL.box rfl rfl rfl rfl rfl fun g w1 hf => ?_
  have hf' : Fresh w g w1 26 (bkC b (.slice sp b.ents.length cap)) := hf
  clear hf
  have hw1 := hf'.below
  have B1 : BkAt 26 g w1 b (.slice sp b.ents.length cap) := ⟨hf'.blk, hpl⟩
  clear hf'
  have bad : ¬ ((0 ≤ b.index ∧ b.index ≤ 2147483648) ∧ (0 ≤ b.time ∧ b.time ≤ 9007199254740992) ∧ (0 ≤ b.txn ∧ b.txn ≤ 9007199254740992) ∧ (1 ≤ b.ents.length ∧ b.ents.length ≤ 200)) → Ending.returned (Value.int .i64 1) = .returned (.int .i64 (chkB b)) := fun h => by unfold chkB; rw [if_neg h]
  repeat (first | ((with_reducible refine WL.topT ?_ ?_); omega) | ((with_reducible refine WL.topF ?_ ?_); omega) | ((with_reducible refine WL.top64 ?_ ?_); omega) | refine WC.seq ?_ | refine WC.block ?_ | refine WC.region ?_ | refine WL.nil ?_ | refine WC.skip ?_ | refine WC.exit ?_ | refine WC.ret ?_ | refine WQ.then rfl ?_ | refine WQ.thenExit ?_ | refine WQ.thenRet ?_ | refine WQ.blk ?_ | refine WQ.blkRet ?_ | refine WQ.blkHere rfl ?_ | refine WQ.blkOther rfl ?_ | refine WL.pure rfl rfl rfl rfl ?_ | refine WL.on rfl rfl ?_ | refine WL.off rfl rfl rfl ?_ | refine WC.condTrue rfl ?_ | refine WC.condFalse rfl ?_)
  refine WL.load rfl rfl rfl rfl rfl rfl B1.index ?_
  refine WL.call rfl rfl rfl rfl rfl Try.func26 rfl (by kernel_rfl) (within_any _ _ _ _) ?_
  rintro _ w1 ⟨rfl, rfl⟩
  refine ⟨_, rfl, ?_⟩
  by_cases c1 : 0 ≤ b.index ∧ b.index ≤ 2147483648
  rotate_left
  · refine WL.as 8 (.bool false) rfl (congrArg Value.bool (decide_eq_false c1)) ?_
    repeat (first | ((with_reducible refine WL.topT ?_ ?_); omega) | ((with_reducible refine WL.topF ?_ ?_); omega) | ((with_reducible refine WL.top64 ?_ ?_); omega) | refine WC.seq ?_ | refine WC.block ?_ | refine WC.region ?_ | refine WL.nil ?_ | refine WC.skip ?_ | refine WC.exit ?_ | refine WC.ret ?_ | refine WQ.then rfl ?_ | refine WQ.thenExit ?_ | refine WQ.thenRet ?_ | refine WQ.blk ?_ | refine WQ.blkRet ?_ | refine WQ.blkHere rfl ?_ | refine WQ.blkOther rfl ?_ | refine WL.pure rfl rfl rfl rfl ?_ | refine WL.on rfl rfl ?_ | refine WL.off rfl rfl rfl ?_ | refine WC.condTrue rfl ?_ | refine WC.condFalse rfl ?_)
    exact WQ.ret1 rfl rfl ⟨bad fun h => c1 h.1, hw1⟩
  refine WL.as 8 (.bool true) rfl (congrArg Value.bool (decide_eq_true c1)) ?_
  repeat (first | ((with_reducible refine WL.topT ?_ ?_); omega) | ((with_reducible refine WL.topF ?_ ?_); omega) | ((with_reducible refine WL.top64 ?_ ?_); omega) | refine WC.seq ?_ | refine WC.block ?_ | refine WC.region ?_ | refine WL.nil ?_ | refine WC.skip ?_ | refine WC.exit ?_ | refine WC.ret ?_ | refine WQ.then rfl ?_ | refine WQ.thenExit ?_ | refine WQ.thenRet ?_ | refine WQ.blk ?_ | refine WQ.blkRet ?_ | refine WQ.blkHere rfl ?_ | refine WQ.blkOther rfl ?_ | refine WL.pure rfl rfl rfl rfl ?_ | refine WL.on rfl rfl ?_ | refine WL.off rfl rfl rfl ?_ | refine WC.condTrue rfl ?_ | refine WC.condFalse rfl ?_)
  refine WL.load rfl rfl rfl rfl rfl rfl B1.time ?_
  refine WL.on rfl rfl ?_
  refine WL.call rfl rfl rfl rfl rfl Try.func26 rfl (by kernel_rfl) (within_any _ _ _ _) ?_
  rintro _ w1 ⟨rfl, rfl⟩
  refine ⟨_, rfl, ?_⟩
  by_cases c2 : 0 ≤ b.time ∧ b.time ≤ 9007199254740992
  rotate_left
  · refine WL.as 13 (.bool false) rfl (congrArg Value.bool (decide_eq_false c2)) ?_
    repeat (first | ((with_reducible refine WL.topT ?_ ?_); omega) | ((with_reducible refine WL.topF ?_ ?_); omega) | ((with_reducible refine WL.top64 ?_ ?_); omega) | refine WC.seq ?_ | refine WC.block ?_ | refine WC.region ?_ | refine WL.nil ?_ | refine WC.skip ?_ | refine WC.exit ?_ | refine WC.ret ?_ | refine WQ.then rfl ?_ | refine WQ.thenExit ?_ | refine WQ.thenRet ?_ | refine WQ.blk ?_ | refine WQ.blkRet ?_ | refine WQ.blkHere rfl ?_ | refine WQ.blkOther rfl ?_ | refine WL.pure rfl rfl rfl rfl ?_ | refine WL.on rfl rfl ?_ | refine WL.off rfl rfl rfl ?_ | refine WC.condTrue rfl ?_ | refine WC.condFalse rfl ?_)
    exact WQ.ret1 rfl rfl ⟨bad fun h => c2 h.2.1, hw1⟩
  refine WL.as 13 (.bool true) rfl (congrArg Value.bool (decide_eq_true c2)) ?_
  repeat (first | ((with_reducible refine WL.topT ?_ ?_); omega) | ((with_reducible refine WL.topF ?_ ?_); omega) | ((with_reducible refine WL.top64 ?_ ?_); omega) | refine WC.seq ?_ | refine WC.block ?_ | refine WC.region ?_ | refine WL.nil ?_ | refine WC.skip ?_ | refine WC.exit ?_ | refine WC.ret ?_ | refine WQ.then rfl ?_ | refine WQ.thenExit ?_ | refine WQ.thenRet ?_ | refine WQ.blk ?_ | refine WQ.blkRet ?_ | refine WQ.blkHere rfl ?_ | refine WQ.blkOther rfl ?_ | refine WL.pure rfl rfl rfl rfl ?_ | refine WL.on rfl rfl ?_ | refine WL.off rfl rfl rfl ?_ | refine WC.condTrue rfl ?_ | refine WC.condFalse rfl ?_)
  refine WL.load rfl rfl rfl rfl rfl rfl B1.txn ?_
  refine WL.on rfl rfl ?_
  refine WL.call rfl rfl rfl rfl rfl Try.func26 rfl (by kernel_rfl) (within_any _ _ _ _) ?_
  rintro _ w1 ⟨rfl, rfl⟩
  refine ⟨_, rfl, ?_⟩
  by_cases c3 : 0 ≤ b.txn ∧ b.txn ≤ 9007199254740992
  rotate_left
  · refine WL.as 19 (.bool false) rfl (congrArg Value.bool (decide_eq_false c3)) ?_
    repeat (first | ((with_reducible refine WL.topT ?_ ?_); omega) | ((with_reducible refine WL.topF ?_ ?_); omega) | ((with_reducible refine WL.top64 ?_ ?_); omega) | refine WC.seq ?_ | refine WC.block ?_ | refine WC.region ?_ | refine WL.nil ?_ | refine WC.skip ?_ | refine WC.exit ?_ | refine WC.ret ?_ | refine WQ.then rfl ?_ | refine WQ.thenExit ?_ | refine WQ.thenRet ?_ | refine WQ.blk ?_ | refine WQ.blkRet ?_ | refine WQ.blkHere rfl ?_ | refine WQ.blkOther rfl ?_ | refine WL.pure rfl rfl rfl rfl ?_ | refine WL.on rfl rfl ?_ | refine WL.off rfl rfl rfl ?_ | refine WC.condTrue rfl ?_ | refine WC.condFalse rfl ?_)
    exact WQ.ret1 rfl rfl ⟨bad fun h => c3 h.2.2.1, hw1⟩
  refine WL.as 19 (.bool true) rfl (congrArg Value.bool (decide_eq_true c3)) ?_
  repeat (first | ((with_reducible refine WL.topT ?_ ?_); omega) | ((with_reducible refine WL.topF ?_ ?_); omega) | ((with_reducible refine WL.top64 ?_ ?_); omega) | refine WC.seq ?_ | refine WC.block ?_ | refine WC.region ?_ | refine WL.nil ?_ | refine WC.skip ?_ | refine WC.exit ?_ | refine WC.ret ?_ | refine WQ.then rfl ?_ | refine WQ.thenExit ?_ | refine WQ.thenRet ?_ | refine WQ.blk ?_ | refine WQ.blkRet ?_ | refine WQ.blkHere rfl ?_ | refine WQ.blkOther rfl ?_ | refine WL.pure rfl rfl rfl rfl ?_ | refine WL.on rfl rfl ?_ | refine WL.off rfl rfl rfl ?_ | refine WC.condTrue rfl ?_ | refine WC.condFalse rfl ?_)
  refine WL.load rfl rfl rfl rfl rfl rfl B1.ents ?_
  repeat (first | ((with_reducible refine WL.topT ?_ ?_); omega) | ((with_reducible refine WL.topF ?_ ?_); omega) | ((with_reducible refine WL.top64 ?_ ?_); omega) | refine WC.seq ?_ | refine WC.block ?_ | refine WC.region ?_ | refine WL.nil ?_ | refine WC.skip ?_ | refine WC.exit ?_ | refine WC.ret ?_ | refine WQ.then rfl ?_ | refine WQ.thenExit ?_ | refine WQ.thenRet ?_ | refine WQ.blk ?_ | refine WQ.blkRet ?_ | refine WQ.blkHere rfl ?_ | refine WQ.blkOther rfl ?_ | refine WL.pure rfl rfl rfl rfl ?_ | refine WL.on rfl rfl ?_ | refine WL.off rfl rfl rfl ?_ | refine WC.condTrue rfl ?_ | refine WC.condFalse rfl ?_)
  refine WL.call rfl rfl rfl rfl rfl Try.func26 rfl (by kernel_rfl) (within_any _ _ _ _) ?_
  rintro _ w1 ⟨rfl, rfl⟩
  refine ⟨_, rfl, ?_⟩
  by_cases c4 : (1 : Int) ≤ (b.ents.length : Int) ∧ (b.ents.length : Int) ≤ 200
  rotate_left
  · refine WL.as 26 (.bool false) rfl (congrArg Value.bool (decide_eq_false c4)) ?_
    repeat (first | ((with_reducible refine WL.topT ?_ ?_); omega) | ((with_reducible refine WL.topF ?_ ?_); omega) | ((with_reducible refine WL.top64 ?_ ?_); omega) | refine WC.seq ?_ | refine WC.block ?_ | refine WC.region ?_ | refine WL.nil ?_ | refine WC.skip ?_ | refine WC.exit ?_ | refine WC.ret ?_ | refine WQ.then rfl ?_ | refine WQ.thenExit ?_ | refine WQ.thenRet ?_ | refine WQ.blk ?_ | refine WQ.blkRet ?_ | refine WQ.blkHere rfl ?_ | refine WQ.blkOther rfl ?_ | refine WL.pure rfl rfl rfl rfl ?_ | refine WL.on rfl rfl ?_ | refine WL.off rfl rfl rfl ?_ | refine WC.condTrue rfl ?_ | refine WC.condFalse rfl ?_)
    exact WQ.ret1 rfl rfl ⟨bad fun h => c4 (by omega), hw1⟩
  refine WL.as 26 (.bool true) rfl (congrArg Value.bool (decide_eq_true c4)) ?_
  have hgood : chkB b = if firstBad (b.ents.map chkE) ≠ 0 then firstBad (b.ents.map chkE) else if 262144 < (layB true b).length then 5 else 0 := by unfold chkB; rw [if_pos ⟨c1, c2, c3, by omega⟩]
  have hmap : ∀ j, j < b.ents.length → (b.ents.map chkE).getD j 0 = chkE (b.ents.getD j noE) := fun j hj => by simp [hj]
  repeat (first | ((with_reducible refine WL.topT ?_ ?_); omega) | ((with_reducible refine WL.topF ?_ ?_); omega) | ((with_reducible refine WL.top64 ?_ ?_); omega) | refine WC.seq ?_ | refine WC.block ?_ | refine WC.region ?_ | refine WL.nil ?_ | refine WC.skip ?_ | refine WC.exit ?_ | refine WC.ret ?_ | refine WQ.then rfl ?_ | refine WQ.thenExit ?_ | refine WQ.thenRet ?_ | refine WQ.blk ?_ | refine WQ.blkRet ?_ | refine WQ.blkHere rfl ?_ | refine WQ.blkOther rfl ?_ | refine WL.pure rfl rfl rfl rfl ?_ | refine WL.on rfl rfl ?_ | refine WL.off rfl rfl rfl ?_ | refine WC.condTrue rfl ?_ | refine WC.condFalse rfl ?_)
  refine WL.load rfl rfl rfl rfl rfl rfl B1.ents ?_
  repeat (first | ((with_reducible refine WL.topT ?_ ?_); omega) | ((with_reducible refine WL.topF ?_ ?_); omega) | ((with_reducible refine WL.top64 ?_ ?_); omega) | refine WC.seq ?_ | refine WC.block ?_ | refine WC.region ?_ | refine WL.nil ?_ | refine WC.skip ?_ | refine WC.exit ?_ | refine WC.ret ?_ | refine WQ.then rfl ?_ | refine WQ.thenExit ?_ | refine WQ.thenRet ?_ | refine WQ.blk ?_ | refine WQ.blkRet ?_ | refine WQ.blkHere rfl ?_ | refine WQ.blkOther rfl ?_ | refine WL.pure rfl rfl rfl rfl ?_ | refine WL.on rfl rfl ?_ | refine WL.off rfl rfl rfl ?_ | refine WC.condTrue rfl ?_ | refine WC.condFalse rfl ?_)
  refine WC.loop (fun i : Nat => [(1, .pointer (some ⟨g, 0, none⟩)), (30, .slice sp b.ents.length cap), (31, .int .i64 b.ents.length), (32, .int .i64 i)])
    (fun i w' => i ≤ b.ents.length ∧ Below w1.heap.size w1 w' ∧ ∀ j, j < i → chkE (b.ents.getD j noE) = 0) (fun i => b.ents.length - i) 0 ⟨rfl, rfl, rfl, rfl, trivial⟩ ⟨Nat.zero_le _, Below.refl _ _, fun j hj => by omega⟩ ?_
  rintro i wr ⟨hi, hbr, hz⟩
  have hwr : Below w.heap.size w wr := hw1.trans (hbr.mono hw1.size)
  by_cases hik : i < b.ents.length
  · obtain ⟨kb, ko, cap', cs, hse, hkb, hc46, hce, hcr⟩ := hents.at hik
    injection hse with hse1 _ hse2
    subst hse1; subst hse2
    have hmem : b.ents.getD i noE ∈ b.ents := by simp [hik]
    have hl := hlen _ hmem
    have hmi := hmap i hik
    repeat (first | ((with_reducible refine WL.topT ?_ ?_); omega) | ((with_reducible refine WL.topF ?_ ?_); omega) | ((with_reducible refine WL.top64 ?_ ?_); omega) | refine WC.seq ?_ | refine WC.block ?_ | refine WC.region ?_ | refine WL.nil ?_ | refine WC.skip ?_ | refine WC.exit ?_ | refine WC.ret ?_ | refine WQ.then rfl ?_ | refine WQ.thenExit ?_ | refine WQ.thenRet ?_ | refine WQ.blk ?_ | refine WQ.blkRet ?_ | refine WQ.blkHere rfl ?_ | refine WQ.blkOther rfl ?_ | refine WL.pure rfl rfl rfl rfl ?_ | refine WL.on rfl rfl ?_ | refine WL.off rfl rfl rfl ?_ | refine WC.condTrue rfl ?_ | refine WC.condFalse rfl ?_)
    refine WL.idx i (ko + i * 46) rfl rfl rfl rfl rfl rfl rfl rfl hik rfl ?_
    refine WL.loadMid rfl rfl rfl rfl rfl rfl (fun j u hu => (hwr.cell (p := ⟨kb, ko + i * 46 + j, none⟩) hkb).trans (hcr j u hu)) hc46 ?_
    refine WL.alloc (z := .agg (enC noE zCells).toArray) rfl rfl rfl rfl (fun _ => by kernel_rfl) fun c w5 hf5 => ?_
    have hf5' : Fresh wr c w5 49 (enC noE zCells) := hf5
    clear hf5
    refine WL.storeRow rfl rfl rfl rfl rfl rfl hf5'.blk hc46 (by rfl) hce.one ?_
    have hk6 : Below wr.heap.size wr (w5.setRow c cs.toArray) := below_setRow hf5'.below (by rw [hf5'.eq]; exact Nat.le_refl _) _
    have C6 : VBlk 49 (w5.setRow c cs.toArray) c cs := hf5'.blk.setRow _
    generalize w5.setRow c cs.toArray = w6 at hk6 C6
    clear hf5'
    have hw6 := hwr.trans (hk6.mono hwr.size)
    repeat (first | ((with_reducible refine WL.topT ?_ ?_); omega) | ((with_reducible refine WL.topF ?_ ?_); omega) | ((with_reducible refine WL.top64 ?_ ?_); omega) | refine WC.seq ?_ | refine WC.block ?_ | refine WC.region ?_ | refine WL.nil ?_ | refine WC.skip ?_ | refine WC.exit ?_ | refine WC.ret ?_ | refine WQ.then rfl ?_ | refine WQ.thenExit ?_ | refine WQ.thenRet ?_ | refine WQ.blk ?_ | refine WQ.blkRet ?_ | refine WQ.blkHere rfl ?_ | refine WQ.blkOther rfl ?_ | refine WL.pure rfl rfl rfl rfl ?_ | refine WL.on rfl rfl ?_ | refine WL.off rfl rfl rfl ?_ | refine WC.condTrue rfl ?_ | refine WC.condFalse rfl ?_)
    refine WL.loadMid rfl rfl rfl rfl rfl rfl (VBlk.rangeAt C6) hc46 ?_
    refine WL.call rfl rfl rfl rfl rfl Try.func27 rfl (by kernel_rfl) (checkEntry_any (IsE.below hw6 hce) hl) ?_
    rintro _ w7 ⟨rfl, hk7⟩
    refine ⟨_, rfl, ?_⟩
    have hw7 := hw6.trans (hk7.mono hw6.size)
    by_cases hc : chkE (b.ents.getD i noE) = 0
    · repeat (first | ((with_reducible refine WL.topT ?_ ?_); omega) | ((with_reducible refine WL.topF ?_ ?_); omega) | ((with_reducible refine WL.top64 ?_ ?_); omega) | refine WC.seq ?_ | refine WC.block ?_ | refine WC.region ?_ | refine WL.nil ?_ | refine WC.skip ?_ | refine WC.exit ?_ | refine WC.ret ?_ | refine WQ.then rfl ?_ | refine WQ.thenExit ?_ | refine WQ.thenRet ?_ | refine WQ.blk ?_ | refine WQ.blkRet ?_ | refine WQ.blkHere rfl ?_ | refine WQ.blkOther rfl ?_ | refine WL.pure rfl rfl rfl rfl ?_ | refine WL.on rfl rfl ?_ | refine WL.off rfl rfl rfl ?_ | refine WC.condTrue rfl ?_ | refine WC.condFalse rfl ?_)
      refine WQ.again (i + 1) ⟨rfl, rfl, rfl, rfl, trivial⟩ ⟨hik, (hbr.trans (hk6.mono hbr.size)).trans (hk7.mono (Nat.le_trans hbr.size hk6.size)), fun j hj => ?_⟩ (by show b.ents.length - (i + 1) < b.ents.length - i; omega)
      rcases Nat.lt_or_ge j i with h | h
      · exact hz j h
      · obtain rfl : j = i := by omega
        exact hc
    · have hfb : firstBad (b.ents.map chkE) = chkE (b.ents.getD i noE) := by
        rw [← hmi]
        exact firstBad_take (by simpa using hik) (fun j hj => by rw [hmap j (by omega)]; exact hz j hj) (by rw [hmi]; exact hc)
      repeat (first | ((with_reducible refine WL.topT ?_ ?_); omega) | ((with_reducible refine WL.topF ?_ ?_); omega) | ((with_reducible refine WL.top64 ?_ ?_); omega) | refine WC.seq ?_ | refine WC.block ?_ | refine WC.region ?_ | refine WL.nil ?_ | refine WC.skip ?_ | refine WC.exit ?_ | refine WC.ret ?_ | refine WQ.then rfl ?_ | refine WQ.thenExit ?_ | refine WQ.thenRet ?_ | refine WQ.blk ?_ | refine WQ.blkRet ?_ | refine WQ.blkHere rfl ?_ | refine WQ.blkOther rfl ?_ | refine WL.pure rfl rfl rfl rfl ?_ | refine WL.on rfl rfl ?_ | refine WL.off rfl rfl rfl ?_ | refine WC.condTrue rfl ?_ | refine WC.condFalse rfl ?_)
      exact WQ.ret1 rfl rfl ⟨by rw [hgood, hfb, if_pos hc], hw7⟩
  · obtain rfl : i = b.ents.length := by omega
    have hfb : firstBad (b.ents.map chkE) = 0 := firstBad_all fun j hj => by
      rw [List.length_map] at hj
      rw [hmap j hj]; exact hz j hj
    have hck : ∀ e ∈ b.ents, chkE e = 0 := fun e he => firstBad_zero.1 hfb _ (List.mem_map_of_mem he)
    have Br := B1.below hbr
    rw [if_neg (by simpa using hfb)] at hgood
    repeat (first | ((with_reducible refine WL.topT ?_ ?_); omega) | ((with_reducible refine WL.topF ?_ ?_); omega) | ((with_reducible refine WL.top64 ?_ ?_); omega) | refine WC.seq ?_ | refine WC.block ?_ | refine WC.region ?_ | refine WL.nil ?_ | refine WC.skip ?_ | refine WC.exit ?_ | refine WC.ret ?_ | refine WQ.then rfl ?_ | refine WQ.thenExit ?_ | refine WQ.thenRet ?_ | refine WQ.blk ?_ | refine WQ.blkRet ?_ | refine WQ.blkHere rfl ?_ | refine WQ.blkOther rfl ?_ | refine WL.pure rfl rfl rfl rfl ?_ | refine WL.on rfl rfl ?_ | refine WL.off rfl rfl rfl ?_ | refine WC.condTrue rfl ?_ | refine WC.condFalse rfl ?_)
    refine WL.loadMid rfl rfl rfl rfl rfl rfl (VBlk.rangeAt Br.blk) hcl ?_
    refine WL.call rfl rfl rfl rfl rfl Try.func17 rfl (by kernel_rfl) (lay11_any true (IsB.below hwr hall) hck (by omega)) ?_
    rintro _ w8 ⟨b8, rfl, hb8, hk8, -⟩
    refine ⟨_, rfl, ?_⟩
    obtain ⟨sp8, cap8, rfl, -⟩ := hb8.form
    have hw8 := hwr.trans (hk8.mono hwr.size)
    by_cases hbig : 262144 < (layB true b).length
    · repeat (first | ((with_reducible refine WL.topT ?_ ?_); omega) | ((with_reducible refine WL.topF ?_ ?_); omega) | ((with_reducible refine WL.top64 ?_ ?_); omega) | refine WC.seq ?_ | refine WC.block ?_ | refine WC.region ?_ | refine WL.nil ?_ | refine WC.skip ?_ | refine WC.exit ?_ | refine WC.ret ?_ | refine WQ.then rfl ?_ | refine WQ.thenExit ?_ | refine WQ.thenRet ?_ | refine WQ.blk ?_ | refine WQ.blkRet ?_ | refine WQ.blkHere rfl ?_ | refine WQ.blkOther rfl ?_ | refine WL.pure rfl rfl rfl rfl ?_ | refine WL.on rfl rfl ?_ | refine WL.off rfl rfl rfl ?_ | refine WC.condTrue rfl ?_ | refine WC.condFalse rfl ?_)
      exact WQ.ret1 rfl rfl ⟨by rw [hgood, if_pos hbig], hw8⟩
    · repeat (first | ((with_reducible refine WL.topT ?_ ?_); omega) | ((with_reducible refine WL.topF ?_ ?_); omega) | ((with_reducible refine WL.top64 ?_ ?_); omega) | refine WC.seq ?_ | refine WC.block ?_ | refine WC.region ?_ | refine WL.nil ?_ | refine WC.skip ?_ | refine WC.exit ?_ | refine WC.ret ?_ | refine WQ.then rfl ?_ | refine WQ.thenExit ?_ | refine WQ.thenRet ?_ | refine WQ.blk ?_ | refine WQ.blkRet ?_ | refine WQ.blkHere rfl ?_ | refine WQ.blkOther rfl ?_ | refine WL.pure rfl rfl rfl rfl ?_ | refine WL.on rfl rfl ?_ | refine WL.off rfl rfl rfl ?_ | refine WC.condTrue rfl ?_ | refine WC.condFalse rfl ?_)
      exact WQ.ret1 rfl rfl ⟨by rw [hgood, if_neg hbig], hw8⟩
/-- What Encode tells. -/
noncomputable def encB (data : Bool) (b : Bk) : List Int × Int := if chkB b ≠ 0 then ([], chkB b) else (layB data b, 0)
def EncBPost (data : Bool) (w : World) (b : Bk) (e : Ending) (w' : World) : Prop := ∃ v, e = .returned (.tuple #[v, .int .i64 (encB data b).2]) ∧ Bu w' v (encB data b).1 ∧ Below w.heap.size w w' ∧ ∀ g, v.ownBlock = some g → w.heap.size ≤ g
theorem encode11_any {f : Nat} {w : World} {b : Bk} {cs : List Value} (data : Bool) (h : IsB f w b cs) (hlen : ∀ e ∈ b.ents, chk 16 e.data = 0 → (encV 16 e.data).length ≤ 70368744177664) : Calls Try.prog 8 #[.agg cs.toArray, .bool data] w (EncBPost data w b) := by
  have hcl := h.len
  refine enter (args := [.agg cs.toArray, .bool data]) Try.func8 rfl Try.ntmps8 rfl ?_
  repeat (first | ((with_reducible refine WL.topT ?_ ?_); omega) | ((with_reducible refine WL.topF ?_ ?_); omega) | ((with_reducible refine WL.top64 ?_ ?_); omega) | refine WC.seq ?_ | refine WC.block ?_ | refine WC.region ?_ | refine WL.nil ?_ | refine WC.skip ?_ | refine WC.exit ?_ | refine WC.ret ?_ | refine WQ.then rfl ?_ | refine WQ.thenExit ?_ | refine WQ.thenRet ?_ | refine WQ.blk ?_ | refine WQ.blkRet ?_ | refine WQ.blkHere rfl ?_ | refine WQ.blkOther rfl ?_ | refine WL.pure rfl rfl rfl rfl ?_ | refine WL.on rfl rfl ?_ | refine WL.off rfl rfl rfl ?_ | refine WC.condTrue rfl ?_ | refine WC.condFalse rfl ?_)
  refine WL.box rfl rfl rfl rfl rfl fun g w1 hf => ?_
  have hf' : Fresh w g w1 26 cs := hf
  clear hf
  have hw1 := hf'.below
  have B1 := hf'.blk
  clear hf'
  repeat (first | ((with_reducible refine WL.topT ?_ ?_); omega) | ((with_reducible refine WL.topF ?_ ?_); omega) | ((with_reducible refine WL.top64 ?_ ?_); omega) | refine WC.seq ?_ | refine WC.block ?_ | refine WC.region ?_ | refine WL.nil ?_ | refine WC.skip ?_ | refine WC.exit ?_ | refine WC.ret ?_ | refine WQ.then rfl ?_ | refine WQ.thenExit ?_ | refine WQ.thenRet ?_ | refine WQ.blk ?_ | refine WQ.blkRet ?_ | refine WQ.blkHere rfl ?_ | refine WQ.blkOther rfl ?_ | refine WL.pure rfl rfl rfl rfl ?_ | refine WL.on rfl rfl ?_ | refine WL.off rfl rfl rfl ?_ | refine WC.condTrue rfl ?_ | refine WC.condFalse rfl ?_)
  refine WL.loadMid rfl rfl rfl rfl rfl rfl (VBlk.rangeAt B1) hcl ?_
  refine WL.call rfl rfl rfl rfl rfl Try.func16 rfl (by kernel_rfl) (check11_any (IsB.below hw1 h) hlen) ?_
  rintro _ w2 ⟨rfl, hk2⟩
  refine ⟨_, rfl, ?_⟩
  have hw2 := hw1.trans (hk2.mono hw1.size)
  by_cases hc : chkB b = 0
  · have hr : encB data b = (layB data b, 0) := by unfold encB; rw [if_neg (by simpa using hc)]
    obtain ⟨⟨-, -, -, hl⟩, hck, -⟩ := chkB_ok hc
    repeat (first | ((with_reducible refine WL.topT ?_ ?_); omega) | ((with_reducible refine WL.topF ?_ ?_); omega) | ((with_reducible refine WL.top64 ?_ ?_); omega) | refine WC.seq ?_ | refine WC.block ?_ | refine WC.region ?_ | refine WL.nil ?_ | refine WC.skip ?_ | refine WC.exit ?_ | refine WC.ret ?_ | refine WQ.then rfl ?_ | refine WQ.thenExit ?_ | refine WQ.thenRet ?_ | refine WQ.blk ?_ | refine WQ.blkRet ?_ | refine WQ.blkHere rfl ?_ | refine WQ.blkOther rfl ?_ | refine WL.pure rfl rfl rfl rfl ?_ | refine WL.on rfl rfl ?_ | refine WL.off rfl rfl rfl ?_ | refine WC.condTrue rfl ?_ | refine WC.condFalse rfl ?_)
    refine WL.loadMid rfl rfl rfl rfl rfl rfl (VBlk.rangeAt (B1.below hk2 B1.lt)) hcl ?_
    repeat (first | ((with_reducible refine WL.topT ?_ ?_); omega) | ((with_reducible refine WL.topF ?_ ?_); omega) | ((with_reducible refine WL.top64 ?_ ?_); omega) | refine WC.seq ?_ | refine WC.block ?_ | refine WC.region ?_ | refine WL.nil ?_ | refine WC.skip ?_ | refine WC.exit ?_ | refine WC.ret ?_ | refine WQ.then rfl ?_ | refine WQ.thenExit ?_ | refine WQ.thenRet ?_ | refine WQ.blk ?_ | refine WQ.blkRet ?_ | refine WQ.blkHere rfl ?_ | refine WQ.blkOther rfl ?_ | refine WL.pure rfl rfl rfl rfl ?_ | refine WL.on rfl rfl ?_ | refine WL.off rfl rfl rfl ?_ | refine WC.condTrue rfl ?_ | refine WC.condFalse rfl ?_)
    refine WL.call rfl rfl rfl rfl rfl Try.func17 rfl (by kernel_rfl) (lay11_any data (IsB.below hw2 h) hck hl.2) ?_
    rintro _ w3 ⟨b3, rfl, hb3, hk3, ho3⟩
    refine ⟨_, rfl, ?_⟩
    repeat (first | ((with_reducible refine WL.topT ?_ ?_); omega) | ((with_reducible refine WL.topF ?_ ?_); omega) | ((with_reducible refine WL.top64 ?_ ?_); omega) | refine WC.seq ?_ | refine WC.block ?_ | refine WC.region ?_ | refine WL.nil ?_ | refine WC.skip ?_ | refine WC.exit ?_ | refine WC.ret ?_ | refine WQ.then rfl ?_ | refine WQ.thenExit ?_ | refine WQ.thenRet ?_ | refine WQ.blk ?_ | refine WQ.blkRet ?_ | refine WQ.blkHere rfl ?_ | refine WQ.blkOther rfl ?_ | refine WL.pure rfl rfl rfl rfl ?_ | refine WL.on rfl rfl ?_ | refine WL.off rfl rfl rfl ?_ | refine WC.condTrue rfl ?_ | refine WC.condFalse rfl ?_)
    exact WQ.ret2 rfl rfl rfl ⟨b3, by rw [hr], by rw [hr]; exact hb3, hw2.trans (hk3.mono hw2.size), fun g hg => Nat.le_trans hw2.size (ho3 g hg)⟩
  · have hr : encB data b = ([], chkB b) := by unfold encB; rw [if_pos hc]
    repeat (first | ((with_reducible refine WL.topT ?_ ?_); omega) | ((with_reducible refine WL.topF ?_ ?_); omega) | ((with_reducible refine WL.top64 ?_ ?_); omega) | refine WC.seq ?_ | refine WC.block ?_ | refine WC.region ?_ | refine WL.nil ?_ | refine WC.skip ?_ | refine WC.exit ?_ | refine WC.ret ?_ | refine WQ.then rfl ?_ | refine WQ.thenExit ?_ | refine WQ.thenRet ?_ | refine WQ.blk ?_ | refine WQ.blkRet ?_ | refine WQ.blkHere rfl ?_ | refine WQ.blkOther rfl ?_ | refine WL.pure rfl rfl rfl rfl ?_ | refine WL.on rfl rfl ?_ | refine WL.off rfl rfl rfl ?_ | refine WC.condTrue rfl ?_ | refine WC.condFalse rfl ?_)
    exact WQ.ret2 rfl rfl rfl ⟨_, by rw [hr], by rw [hr]; exact Bu.nil _, hw2, fun g hg => by cases hg⟩
end K
end Go.Proofs.Ytlamdhekjlnccaa

/- Blocks are read (chapter 11): Decode. -/
namespace Go.Proofs.Ytlamdhekjlnccaa
open Go.RowKit
namespace K
section
variable {T g : Nat} {w w' : World} {b : Bk} {se : Value}
theorem BkAt.setEnts (h : BkAt T g w b se) (v : Value) (es : List En) : BkAt T g (w.setCell ⟨g, 35, none⟩ v) { b with ents := es } v := by
  refine ⟨?_, h.pl⟩
  have := h.blk.set 35 v
  have h1 : ∀ se, bkC b se = (.int .i64 b.index :: .int .i64 b.time :: .int .i64 b.txn :: hashC b.prev) ++ [se] := fun se => by simp [bkC]
  have h2 : (Value.int IntKind.i64 b.index :: .int .i64 b.time :: .int .i64 b.txn :: hashC b.prev).length = 35 := by simp [h.pl]
  rw [h1, List.set_append_right _ _ (by omega), h2] at this
  exact this
theorem BkAt.copyPrev (h : BkAt T g w b se) {x : List Int} (hx : x.length = 32 ∨ x = []) : BkAt T g (w.setRow g ((bkC b se).take 3 ++ x.map (Value.int .u8) ++ (bkC b se).drop (3 + x.length)).toArray) { b with prev := if x = [] then b.prev else x } se := by
  rcases hx with hx | rfl
  · have hne : ¬ x = [] := fun h => by rw [h] at hx; cases hx
    rw [if_neg hne, hx]
    refine ⟨?_, hx⟩
    have := h.blk.setRow ((bkC b se).take 3 ++ x.map (Value.int .u8) ++ (bkC b se).drop (3 + 32))
    have e1 : (bkC b se).take 3 ++ x.map (Value.int .u8) ++ (bkC b se).drop (3 + 32) = bkC { b with prev := x } se := by
      have h3 : (hashC b.prev).length = 32 := by simp [h.pl]
      unfold bkC
      simp only [List.take_succ_cons, List.take_zero, List.drop_succ_cons, Nat.add_comm 3 32, List.cons_append, List.nil_append]
      rw [List.drop_left' h3]
    rw [e1] at this ⊢
    exact this
  · simp only [List.map_nil, List.append_nil, List.length_nil, Nat.add_zero, List.take_append_drop, if_pos]
    exact ⟨h.blk.setRow _, h.pl⟩
end
/-- The block in g grows by entries, read by the reader in rb. -/
structure EnsW (rb g : Nat) (w0 w : World) (b : Bk) (se : Value) (q : Nat → Prop) : Prop where
  a : BkAt 26 g w b se
  ents : OwnE 49 46 noE (IsEo q 17 w) (fun x => w0.heap.size ≤ x ∧ x ≠ g) w se b.ents
  qs : ∀ x, q x → w0.heap.size ≤ x ∧ x < w.heap.size ∧ x ≠ g ∧ se.ownBlock ≠ some x
  keep : KeepR rb w0 w
  ge : w0.heap.size ≤ g
  rlt : rb < w0.heap.size
section
variable {rb g : Nat} {w0 w w' : World} {b : Bk} {se se' : Value} {q : Nat → Prop}
theorem EnsW.read (h : EnsW rb g w0 w b se q) (hk : KeepR rb w w') : EnsW rb g w0 w' b se q := by
  have hr := h.rlt
  refine ⟨h.a.keep hk ⟨h.a.blk.lt, by have := h.ge; omega⟩,
    h.ents.keep hk (fun x hx => ⟨h.ents.lt hx, fun e => by have := (h.ents.own hx).1; omega⟩) (fun _ h => h) fun x cs hx => EnP.mono (fun v cs hv => IsVo.keep hk (fun b hb _ => ⟨(h.qs b hb).2.1, fun e => by have := (h.qs b hb).1; omega⟩) (fun _ h => h) hv) hx,
    fun x hx => ?_, h.keep.trans hk, h.ge, h.rlt⟩
  obtain ⟨h1, h2, h3⟩ := h.qs x hx
  exact ⟨h1, Nat.lt_of_lt_of_le h2 hk.size, h3⟩
theorem EnsW.below (h : EnsW rb g w0 w b se q) (hk : Below w.heap.size w w') : EnsW rb g w0 w' b se q := h.read (KeepR.below hk)
theorem EnsW.widen (h : EnsW rb g w0 w b se q) {S : Nat} (hS : w0.heap.size ≤ S) (h1 : g < S) (h2 : ∀ x, se.ownBlock = some x → x < S) : EnsW rb g w0 w b se (fun x => q x ∨ (S ≤ x ∧ x < w.heap.size)) := by
  refine ⟨h.a, h.ents.keep (Keep.refl (fun _ => True) w) (fun _ _ => trivial) (fun _ h => h) fun x cs hx => EnP.mono (fun v cs hv => IsVo.mono (fun b hb => .inl hb) hv) hx, fun b hb => ?_, h.keep, h.ge, h.rlt⟩
  rcases hb with hb | ⟨hb1, hb2⟩
  · exact h.qs b hb
  · exact ⟨by omega, hb2, by omega, fun e => by have := h2 b e; omega⟩
theorem EnsW.setE (h : EnsW rb g w0 w b se q) {v : En} (ho : OwnE 49 46 noE (IsEo q 17 w) (fun x => (w0.heap.size ≤ x ∧ x ≠ g) ∨ x = w.heap.size) w' se' (b.ents ++ [v])) (hg : Grow w se w' se') :
    BkAt 26 g w' b se ∧ EnsW rb g w0 (w'.setCell ⟨g, 35, none⟩ se') { b with ents := b.ents ++ [v] } se' q := by
  have hvo : se.ownBlock ≠ some g := fun e => (h.ents.own e).2 rfl
  have hvb := h.a.blk.lt
  have ha : BkAt 26 g w' b se := h.a.keep hg.1 ⟨hvb, hvo⟩
  have hsz := h.keep.size
  have hge := h.ge
  have hO : ∀ x, (w0.heap.size ≤ x ∧ x ≠ g) ∨ x = w.heap.size → w0.heap.size ≤ x ∧ x ≠ g := fun x hb => hb.elim id fun e => by omega
  have hset : Keep (fun b => b ≠ g) w' (w'.setCell ⟨g, 35, none⟩ se') := (Keep.refl _ w').setCell (fun hk => hk rfl) _
  have hP : ∀ x cs, IsEo q 17 w x cs → IsEo q 17 (w'.setCell ⟨g, 35, none⟩ se') x cs := fun x cs hx => EnP.mono (fun v cs hv =>
    IsVo.keep hset (fun b hb _ => (h.qs b hb).2.2.1) (fun _ h => h) (IsVo.keep (O' := q) hg.1 (fun b hb _ => ⟨(h.qs b hb).2.1, (h.qs b hb).2.2.2⟩) (fun _ h => h) hv)) hx
  refine ⟨ha, ha.setEnts se' _, ho.keep hset (fun x hx => (hO x (ho.own hx)).2) hO hP, fun x hx => ?_, ?_, h.ge, h.rlt⟩
  · obtain ⟨h1, h2, h3, h4⟩ := h.qs x hx
    exact ⟨h1, Nat.lt_of_lt_of_le h2 (Nat.le_trans hg.1.size hset.size), h3, fun e => (hg.2 x e).elim h4 fun h6 => by omega⟩
  · exact (Keep.trans h.keep ((Keep.mono hg.1 fun b hb => ⟨Nat.lt_of_lt_of_le hb.1 hsz, fun e => by have := (h.ents.own e).1; omega⟩))).setCell (p := ⟨g, 35, none⟩) (fun hk => by have := hk.1; simp only at this; omega) _
end
theorem elemE : ElemV Try.prog 24 49 46 192 := ElemV.mk' (z := .agg (enC noE zCells).toArray) Try.underlying24 (by kernel_rfl) rfl (by omega)
theorem isB_of {O : Nat → Prop} {f : Nat} {w : World} {b : Bk} {cs : List Value} (h : IsBo O f w b cs) : IsB f w b cs := by
  obtain ⟨se, e1, hels, h3⟩ := h
  exact ⟨se, e1, hels.mono (fun _ _ => trivial) fun x cs hx => EnP.mono (fun v cs hv => IsVo.isV hv) hx, h3⟩
/-- What Decode promises. -/
def DecBPost (w : World) (l : List Int) (r : Ending) (w' : World) : Prop :=
  Below w.heap.size w w' ∧ ∃ (b : Bk) (cs : List Value) (e : Int), r = .returned (.tuple #[.agg cs.toArray, .int .i64 e]) ∧ IsBo (fun b => w.heap.size ≤ b) 17 w' b cs ∧
    match readB l with
    | .ok y _ => b = y ∧ e = 0
    | .bad z => b = noB ∧ e = z ∧ z ≠ 0
set_option maxHeartbeats 8000000 in
theorem decode11_any {w : World} {v : Value} {l : List Int} (hs : Sl .u8 w v l) (hb : Byt l) (hl : l.length ≤ 68719476736) :
    Calls Try.prog 13 #[v] w (DecBPost w l) := by
  refine enter (args := [v]) Try.func13 rfl Try.ntmps13 rfl ?_
  have hs0 := SlB.of_sl hs
  obtain ⟨sp, cap, rfl, -⟩ := hs
  repeat (first | ((with_reducible refine WL.topT ?_ ?_); omega) | ((with_reducible refine WL.topF ?_ ?_); omega) | ((with_reducible refine WL.top64 ?_ ?_); omega) | refine WC.seq ?_ | refine WC.block ?_ | refine WC.region ?_ | refine WL.nil ?_ | refine WC.skip ?_ | refine WC.exit ?_ | refine WC.ret ?_ | refine WQ.then rfl ?_ | refine WQ.thenExit ?_ | refine WQ.thenRet ?_ | refine WQ.blk ?_ | refine WQ.blkRet ?_ | refine WQ.blkHere rfl ?_ | refine WQ.blkOther rfl ?_ | refine WL.pure rfl rfl rfl rfl ?_ | refine WL.on rfl rfl ?_ | refine WL.off rfl rfl rfl ?_ | refine WC.condTrue rfl ?_ | refine WC.condFalse rfl ?_)
  refine WL.alloc (z := .agg (bkC noB (.slice none 0 0)).toArray) rfl rfl rfl rfl (fun _ => by kernel_rfl) fun rg w1 hf1 => ?_
  have hf1' : Fresh w rg w1 26 (bkC noB (.slice none 0 0)) := hf1
  clear hf1
  have hrg := hf1'.eq
  have hz1 := hf1'.size
  repeat (first | ((with_reducible refine WL.topT ?_ ?_); omega) | ((with_reducible refine WL.topF ?_ ?_); omega) | ((with_reducible refine WL.top64 ?_ ?_); omega) | refine WC.seq ?_ | refine WC.block ?_ | refine WC.region ?_ | refine WL.nil ?_ | refine WC.skip ?_ | refine WC.exit ?_ | refine WC.ret ?_ | refine WQ.then rfl ?_ | refine WQ.thenExit ?_ | refine WQ.thenRet ?_ | refine WQ.blk ?_ | refine WQ.blkRet ?_ | refine WQ.blkHere rfl ?_ | refine WQ.blkOther rfl ?_ | refine WL.pure rfl rfl rfl rfl ?_ | refine WL.on rfl rfl ?_ | refine WL.off rfl rfl rfl ?_ | refine WC.condTrue rfl ?_ | refine WC.condFalse rfl ?_)
  refine WL.build [.slice sp l.length cap, .int .i64 0] rfl rfl rfl rfl rfl (by kernel_rfl) ?_
  refine WL.box rfl rfl rfl rfl rfl fun rb w2 hf2 => ?_
  have hf2' : Fresh w1 rb w2 60 [.slice sp l.length cap, .int .i64 0] := hf2
  clear hf2
  have hrb := hf2'.eq
  have hz2 := hf2'.size
  have hb2 : Below w.heap.size w w2 := hf1'.below.trans (hf2'.below.mono (by omega))
  have g2 : VBlk 26 w2 rg (bkC noB (.slice none 0 0)) := hf1'.blk.below hf2'.below hf1'.blk.lt
  have r2 : RB (rb + 1) w2 rb l 0 := ⟨by omega, hb, sp, cap, hf2'.blk, hs0.keep (Keep.of_below hb2) (fun b hb => hb) |>.mono fun b hb => by omega⟩
  clear hf1' hf2'
  repeat (first | ((with_reducible refine WL.topT ?_ ?_); omega) | ((with_reducible refine WL.topF ?_ ?_); omega) | ((with_reducible refine WL.top64 ?_ ?_); omega) | refine WC.seq ?_ | refine WC.block ?_ | refine WC.region ?_ | refine WL.nil ?_ | refine WC.skip ?_ | refine WC.exit ?_ | refine WC.ret ?_ | refine WQ.then rfl ?_ | refine WQ.thenExit ?_ | refine WQ.thenRet ?_ | refine WQ.blk ?_ | refine WQ.blkRet ?_ | refine WQ.blkHere rfl ?_ | refine WQ.blkOther rfl ?_ | refine WL.pure rfl rfl rfl rfl ?_ | refine WL.on rfl rfl ?_ | refine WL.off rfl rfl rfl ?_ | refine WC.condTrue rfl ?_ | refine WC.condFalse rfl ?_)
  refine WL.call rfl rfl rfl rfl rfl Try.func22 rfl (by kernel_rfl) (number11r_any r2) ?_
  rintro _ w3 ⟨u1, l1, e1, rfl, hu1, r3, hk3, ho1⟩
  refine ⟨_, rfl, ?_⟩
  repeat (first | ((with_reducible refine WL.topT ?_ ?_); omega) | ((with_reducible refine WL.topF ?_ ?_); omega) | ((with_reducible refine WL.top64 ?_ ?_); omega) | refine WC.seq ?_ | refine WC.block ?_ | refine WC.region ?_ | refine WL.nil ?_ | refine WC.skip ?_ | refine WC.exit ?_ | refine WC.ret ?_ | refine WQ.then rfl ?_ | refine WQ.thenExit ?_ | refine WQ.thenRet ?_ | refine WQ.blk ?_ | refine WQ.blkRet ?_ | refine WQ.blkHere rfl ?_ | refine WQ.blkOther rfl ?_ | refine WL.pure rfl rfl rfl rfl ?_ | refine WL.on rfl rfl ?_ | refine WL.off rfl rfl rfl ?_ | refine WC.condTrue rfl ?_ | refine WC.condFalse rfl ?_)
  refine WL.call rfl rfl rfl rfl rfl Try.func22 rfl (by kernel_rfl) (number11r_any r3) ?_
  rintro _ w4 ⟨u2, l2, e2, rfl, hu2, r4, hk4, ho2⟩
  refine ⟨_, rfl, ?_⟩
  repeat (first | ((with_reducible refine WL.topT ?_ ?_); omega) | ((with_reducible refine WL.topF ?_ ?_); omega) | ((with_reducible refine WL.top64 ?_ ?_); omega) | refine WC.seq ?_ | refine WC.block ?_ | refine WC.region ?_ | refine WL.nil ?_ | refine WC.skip ?_ | refine WC.exit ?_ | refine WC.ret ?_ | refine WQ.then rfl ?_ | refine WQ.thenExit ?_ | refine WQ.thenRet ?_ | refine WQ.blk ?_ | refine WQ.blkRet ?_ | refine WQ.blkHere rfl ?_ | refine WQ.blkOther rfl ?_ | refine WL.pure rfl rfl rfl rfl ?_ | refine WL.on rfl rfl ?_ | refine WL.off rfl rfl rfl ?_ | refine WC.condTrue rfl ?_ | refine WC.condFalse rfl ?_)
  refine WL.call rfl rfl rfl rfl rfl Try.func22 rfl (by kernel_rfl) (number11r_any r4) ?_
  rintro _ w5 ⟨u3, l3, e3, rfl, hu3, r5, hk5, ho3⟩
  refine ⟨_, rfl, ?_⟩
  have k5 : KeepR rb w2 w5 := hk3.trans (hk4.trans hk5)
  repeat (first | ((with_reducible refine WL.topT ?_ ?_); omega) | ((with_reducible refine WL.topF ?_ ?_); omega) | ((with_reducible refine WL.top64 ?_ ?_); omega) | refine WC.seq ?_ | refine WC.block ?_ | refine WC.region ?_ | refine WL.nil ?_ | refine WC.skip ?_ | refine WC.exit ?_ | refine WC.ret ?_ | refine WQ.then rfl ?_ | refine WQ.thenExit ?_ | refine WQ.thenRet ?_ | refine WQ.blk ?_ | refine WQ.blkRet ?_ | refine WQ.blkHere rfl ?_ | refine WQ.blkOther rfl ?_ | refine WL.pure rfl rfl rfl rfl ?_ | refine WL.on rfl rfl ?_ | refine WL.off rfl rfl rfl ?_ | refine WC.condTrue rfl ?_ | refine WC.condFalse rfl ?_)
  refine WL.build (bkC ⟨u1, u2, u3, Dig.Z32, []⟩ (.slice none 0 0)) rfl rfl rfl rfl rfl (by kernel_rfl) ?_
  refine WL.alloc (z := .agg (bkC noB (.slice none 0 0)).toArray) rfl rfl rfl rfl (fun _ => by kernel_rfl) fun g w6 hf6 => ?_
  have hf6' : Fresh w5 g w6 26 (bkC noB (.slice none 0 0)) := hf6
  clear hf6
  have hg := hf6'.eq
  have hz5 := k5.size
  repeat (first | ((with_reducible refine WL.topT ?_ ?_); omega) | ((with_reducible refine WL.topF ?_ ?_); omega) | ((with_reducible refine WL.top64 ?_ ?_); omega) | refine WC.seq ?_ | refine WC.block ?_ | refine WC.region ?_ | refine WL.nil ?_ | refine WC.skip ?_ | refine WC.exit ?_ | refine WC.ret ?_ | refine WQ.then rfl ?_ | refine WQ.thenExit ?_ | refine WQ.thenRet ?_ | refine WQ.blk ?_ | refine WQ.blkRet ?_ | refine WQ.blkHere rfl ?_ | refine WQ.blkOther rfl ?_ | refine WL.pure rfl rfl rfl rfl ?_ | refine WL.on rfl rfl ?_ | refine WL.off rfl rfl rfl ?_ | refine WC.condTrue rfl ?_ | refine WC.condFalse rfl ?_)
  refine WL.storeRow rfl rfl rfl rfl rfl rfl hf6'.blk rfl rfl (BkP.one (P := fun _ _ => True) (O := fun _ => True) (w := w) (b := ⟨u1, u2, u3, Dig.Z32, []⟩) ⟨_, rfl, Els.nil _ _ _ _ _, rfl, fun x hx => by have := List.eq_of_mem_replicate hx; omega, by show R64 (u1 : Int); omega, by show R64 (u2 : Int); omega, by show R64 (u3 : Int); omega⟩) ?_
  have hb7 : Below w5.heap.size w5 (w6.setRow g (bkC ⟨u1, u2, u3, Dig.Z32, []⟩ (.slice none 0 0)).toArray) := below_setRow hf6'.below (by omega) _
  have a7 : BkAt 26 g (w6.setRow g (bkC ⟨u1, u2, u3, Dig.Z32, []⟩ (.slice none 0 0)).toArray) ⟨u1, u2, u3, Dig.Z32, []⟩ (.slice none 0 0) := ⟨hf6'.blk.setRow _, rfl⟩
  show WL _ _ _ _ _ (w6.setRow g (bkC ⟨u1, u2, u3, Dig.Z32, []⟩ (.slice none 0 0)).toArray)
  generalize w6.setRow g (bkC ⟨u1, u2, u3, Dig.Z32, []⟩ (.slice none 0 0)).toArray = w7 at hb7 a7 ⊢
  clear hf6'
  have r7 := r5.keep (Keep.of_below hb7) fun b hb => by omega
  have k7 : KeepR rb w2 w7 := k5.trans (KeepR.below hb7)
  repeat (first | ((with_reducible refine WL.topT ?_ ?_); omega) | ((with_reducible refine WL.topF ?_ ?_); omega) | ((with_reducible refine WL.top64 ?_ ?_); omega) | refine WC.seq ?_ | refine WC.block ?_ | refine WC.region ?_ | refine WL.nil ?_ | refine WC.skip ?_ | refine WC.exit ?_ | refine WC.ret ?_ | refine WQ.then rfl ?_ | refine WQ.thenExit ?_ | refine WQ.thenRet ?_ | refine WQ.blk ?_ | refine WQ.blkRet ?_ | refine WQ.blkHere rfl ?_ | refine WQ.blkOther rfl ?_ | refine WL.pure rfl rfl rfl rfl ?_ | refine WL.on rfl rfl ?_ | refine WL.off rfl rfl rfl ?_ | refine WC.condTrue rfl ?_ | refine WC.condFalse rfl ?_)
  refine WC.drawn 4 (fun _ => True) fun w8 hd8 => ?_
  have hS : True := trivial
  have r8 := r7.keep (Keep.of_below (hd8.below w7.heap.size)) fun b hb => by have := a7.blk.lt; omega
  have a8 := a7.below (hd8.below _)
  have k8 : KeepR rb w2 w8 := k7.trans (KeepR.below (hd8.below _))
  (((first | refine WD.free 0 rfl (by kernel_rfl) rfl rfl (fun _ _ _ _ _ h => h) rfl rfl (.inr hS) ?_ | refine WD.skip 0 rfl (by kernel_rfl) rfl rfl (fun _ _ _ _ _ h => h) rfl (.inr hS) ?_); try (first | ((with_reducible refine WD.topT ?_ ?_); omega) | ((with_reducible refine WD.topF ?_ ?_); omega) | ((with_reducible refine WD.top64 ?_ ?_); omega))))
  refine WD.all 1 rfl (by kernel_rfl) rfl rfl (fun _ _ _ _ _ h => h) rfl rfl rfl rfl (.inr hS) ?_
  (((first | refine WD.free 2 rfl (by kernel_rfl) rfl rfl (fun _ _ _ _ _ h => h) rfl rfl (.inr hS) ?_ | refine WD.skip 2 rfl (by kernel_rfl) rfl rfl (fun _ _ _ _ _ h => h) rfl (.inr hS) ?_); try (first | ((with_reducible refine WD.topT ?_ ?_); omega) | ((with_reducible refine WD.topF ?_ ?_); omega) | ((with_reducible refine WD.top64 ?_ ?_); omega))))
  refine WD.one 3 (by kernel_rfl) rfl ?_
  refine WL.call rfl rfl rfl rfl rfl Try.func23 rfl (by kernel_rfl) (take_any (n := 32) r8 (by omega)) ?_
  rintro _ w9 ⟨v9, x9, l9, e9, rfl, hv9, hbx9, hx91, hx90, r9, hk9, ho9⟩
  refine ⟨_, rfl, ?_⟩
  have a9 := a8.keep hk9 ⟨a8.blk.lt, by omega⟩
  have k9 : KeepR rb w2 w9 := k8.trans hk9
  refine WL.nil (WQ.dk (.inr hS) ?_)
  refine WD.one 4 (by kernel_rfl) rfl ?_
  have hx9l : x9.length = 32 ∨ x9 = [] := by
    by_cases h0 : e9 = 0
    · exact .inl (hx91 h0)
    · exact .inr (hx90 h0)
  refine WL.copy rfl rfl rfl rfl rfl rfl hv9.sl (by rcases hx9l with h | rfl; omega; simp) a9.blk (by rw [a9.len]; omega) ?_
  refine WL.nil (WQ.dk (.inl rfl) ?_)
  refine WD.done (by kernel_rfl) ?_
  have a10 := a9.copyPrev hx9l
  have hpe : ∃ pp, pp = if x9 = [] then Dig.Z32 else x9 := ⟨_, rfl⟩
  obtain ⟨pp, hpe⟩ := hpe
  simp only [← hpe] at a10
  have hbz : Byt Dig.Z32 := fun x hx => by have := List.eq_of_mem_replicate hx; omega
  have hbpp : Byt pp := by rw [hpe]; split; exact hbz; exact hbx9
  have r10 := r9.keep (rowK w9 g ((bkC ⟨u1, u2, u3, Dig.Z32, []⟩ (.slice none 0 0)).take 3 ++ x9.map (Value.int .u8) ++ (bkC ⟨u1, u2, u3, Dig.Z32, []⟩ (.slice none 0 0)).drop (3 + x9.length)).toArray (· ≠ g) (fun h => h rfl)) fun b hb => by omega
  have k10 : KeepR rb w2 _ := Keep.trans k9 (rowK w9 g ((bkC ⟨u1, u2, u3, Dig.Z32, []⟩ (.slice none 0 0)).take 3 ++ x9.map (Value.int .u8) ++ (bkC ⟨u1, u2, u3, Dig.Z32, []⟩ (.slice none 0 0)).drop (3 + x9.length)).toArray _ (fun h => by have := h.1; have := k9.size; have := hb2.size; omega))
  show WQ _ _ _ _ (w9.setRow g ((bkC ⟨u1, u2, u3, Dig.Z32, []⟩ (.slice none 0 0)).take 3 ++ x9.map (Value.int .u8) ++ (bkC ⟨u1, u2, u3, Dig.Z32, []⟩ (.slice none 0 0)).drop (3 + x9.length)).toArray)
  generalize w9.setRow g ((bkC ⟨u1, u2, u3, Dig.Z32, []⟩ (.slice none 0 0)).take 3 ++ x9.map (Value.int .u8) ++ (bkC ⟨u1, u2, u3, Dig.Z32, []⟩ (.slice none 0 0)).drop (3 + x9.length)).toArray = w10 at a10 r10 k10 ⊢
  repeat (first | ((with_reducible refine WL.topT ?_ ?_); omega) | ((with_reducible refine WL.topF ?_ ?_); omega) | ((with_reducible refine WL.top64 ?_ ?_); omega) | refine WC.seq ?_ | refine WC.block ?_ | refine WC.region ?_ | refine WL.nil ?_ | refine WC.skip ?_ | refine WC.exit ?_ | refine WC.ret ?_ | refine WQ.then rfl ?_ | refine WQ.thenExit ?_ | refine WQ.thenRet ?_ | refine WQ.blk ?_ | refine WQ.blkRet ?_ | refine WQ.blkHere rfl ?_ | refine WQ.blkOther rfl ?_ | refine WL.pure rfl rfl rfl rfl ?_ | refine WL.on rfl rfl ?_ | refine WL.off rfl rfl rfl ?_ | refine WC.condTrue rfl ?_ | refine WC.condFalse rfl ?_)
  refine WL.call rfl rfl rfl rfl rfl Try.func22 rfl (by kernel_rfl) (number11r_any r10) ?_
  rintro _ w11 ⟨n, l4, e4, rfl, hn, r11, hk11, ho4⟩
  refine ⟨_, rfl, ?_⟩
  have s11 : EnsW rb g w2 w11 ⟨u1, u2, u3, pp, []⟩ (.slice none 0 0) (fun _ => False) := ⟨a10.keep hk11 ⟨a10.blk.lt, by omega⟩, OwnE.nil _ _ _ _ _ _, fun _ h => h.elim, k10.trans hk11, by omega, by omega⟩
  have hl1 := ho1.len
  have hl2 := ho2.len
  have hl3 := ho3.len
  have hl9 := ho9.len
  have hl4 := ho4.len
  clear a10 k10 r10 hk11
  repeat (first | ((with_reducible refine WL.topT ?_ ?_); omega) | ((with_reducible refine WL.topF ?_ ?_); omega) | ((with_reducible refine WL.top64 ?_ ?_); omega) | refine WC.seq ?_ | refine WC.region ?_ | refine WL.nil ?_ | refine WC.skip ?_ | refine WC.exit ?_ | refine WC.ret ?_ | refine WQ.then rfl ?_ | refine WQ.thenExit ?_ | refine WQ.thenRet ?_ | refine WQ.blk ?_ | refine WQ.blkRet ?_ | refine WQ.blkHere rfl ?_ | refine WQ.blkOther rfl ?_ | refine WL.pure rfl rfl rfl rfl ?_ | refine WL.on rfl rfl ?_ | refine WL.off rfl rfl rfl ?_ | refine WL.load rfl rfl rfl rfl rfl rfl (by assumption) ?_ | refine WC.condTrue rfl ?_ | refine WC.condFalse rfl ?_)
  refine WC.mid (fun _ : List En × List Int × Int => [(2, .pointer (some ⟨rg, 0, none⟩)), (4, .pointer (some ⟨rb, 0, none⟩)), (5, .pointer (some ⟨g, 0, none⟩))])
    (fun i wr => (∃ se q, EnsW rb g w2 wr ⟨u1, u2, u3, pp, i.1⟩ se q) ∧ RB (rb + 1) wr rb i.2.1 i.2.2 ∧ (i.2.2 = 0 → ∀ en ∈ i.1, (encV 16 en.data).length ≤ 65536) ∧ Out (rdEs n []) l4 e4 i.1 i.2.1 i.2.2) rfl ?_ ?_
  · repeat (first | ((with_reducible refine WL.topT ?_ ?_); omega) | ((with_reducible refine WL.topF ?_ ?_); omega) | ((with_reducible refine WL.top64 ?_ ?_); omega) | refine WC.seq ?_ | refine WC.block ?_ | refine WC.region ?_ | refine WL.nil ?_ | refine WC.skip ?_ | refine WC.exit ?_ | refine WC.ret ?_ | refine WQ.then rfl ?_ | refine WQ.thenExit ?_ | refine WQ.thenRet ?_ | refine WQ.blk ?_ | refine WQ.blkRet ?_ | refine WQ.blkHere rfl ?_ | refine WQ.blkOther rfl ?_ | refine WL.pure rfl rfl rfl rfl ?_ | refine WL.on rfl rfl ?_ | refine WL.off rfl rfl rfl ?_ | refine WC.condTrue rfl ?_ | refine WC.condFalse rfl ?_)
    refine WC.loop (fun i : Nat × List En × List Int × Int => [(2, .pointer (some ⟨rg, 0, none⟩)), (4, .pointer (some ⟨rb, 0, none⟩)), (5, .pointer (some ⟨g, 0, none⟩)), (6, .int .i64 ((n : Int) - (i.1 : Int)))])
      (fun i wr => i.1 ≤ n ∧ (∃ se q, EnsW rb g w2 wr ⟨u1, u2, u3, pp, i.2.1⟩ se q) ∧ RB (rb + 1) wr rb i.2.2.1 i.2.2.2 ∧ (i.2.2.2 = 0 → i.2.1.length + i.2.2.1.length ≤ l.length) ∧ (i.2.2.2 = 0 → ∀ en ∈ i.2.1, (encV 16 en.data).length ≤ 65536) ∧
        ∀ p l' e', Out (rdEs (n - i.1) i.2.1) i.2.2.1 i.2.2.2 p l' e' → Out (rdEs n []) l4 e4 p l' e') (fun i => n - i.1) (0, [], l4, e4)
      ⟨rfl, rfl, rfl, by rw [show (n : Int) - ((0 : Nat) : Int) = n by omega]; rfl, trivial⟩ ⟨Nat.zero_le _, ⟨_, _, s11⟩, r11, fun _ => by simp only [List.length_nil]; omega, (fun _ en h => absurd h (by simp)), fun _ _ _ h => h⟩ ?_
    rintro ⟨k, es, li, ei⟩ wr ⟨hk, ⟨se, q, hK⟩, hr, hlen, hsm, hcont⟩
    simp only at hk hK hr hlen hsm hcont ⊢
    by_cases hkn : k < n
    rotate_left
    · obtain rfl : k = n := by omega
      repeat (first | ((with_reducible refine WL.topT ?_ ?_); omega) | ((with_reducible refine WL.topF ?_ ?_); omega) | ((with_reducible refine WL.top64 ?_ ?_); omega) | refine WC.seq ?_ | refine WC.block ?_ | refine WC.region ?_ | refine WL.nil ?_ | refine WC.skip ?_ | refine WC.exit ?_ | refine WC.ret ?_ | refine WQ.then rfl ?_ | refine WQ.thenExit ?_ | refine WQ.thenRet ?_ | refine WQ.blk ?_ | refine WQ.blkRet ?_ | refine WQ.blkHere rfl ?_ | refine WQ.blkOther rfl ?_ | refine WL.pure rfl rfl rfl rfl ?_ | refine WL.on rfl rfl ?_ | refine WL.off rfl rfl rfl ?_ | refine WC.condTrue rfl ?_ | refine WC.condFalse rfl ?_)
      exact WQ.meet (es, li, ei) ⟨rfl, rfl, rfl, trivial⟩ ⟨⟨se, q, hK⟩, hr, hsm, hcont _ _ _ (Out.congr (Out.pure _) (by rw [Nat.sub_self]; rfl))⟩
    obtain ⟨rsp, rcap, hrb1, -⟩ := hr.ex
    repeat (first | ((with_reducible refine WL.topT ?_ ?_); omega) | ((with_reducible refine WL.topF ?_ ?_); omega) | ((with_reducible refine WL.top64 ?_ ?_); omega) | refine WC.seq ?_ | refine WC.block ?_ | refine WC.region ?_ | refine WL.nil ?_ | refine WC.skip ?_ | refine WC.exit ?_ | refine WC.ret ?_ | refine WQ.then rfl ?_ | refine WQ.thenExit ?_ | refine WQ.thenRet ?_ | refine WQ.blk ?_ | refine WQ.blkRet ?_ | refine WQ.blkHere rfl ?_ | refine WQ.blkOther rfl ?_ | refine WL.pure rfl rfl rfl rfl ?_ | refine WL.on rfl rfl ?_ | refine WL.off rfl rfl rfl ?_ | refine WC.condTrue rfl ?_ | refine WC.condFalse rfl ?_)
    refine WL.load rfl rfl rfl rfl rfl rfl (hrb1.cell 1 (by simp)) ?_
    by_cases hei : ei = 0
    rotate_left
    · repeat (first | ((with_reducible refine WL.topT ?_ ?_); omega) | ((with_reducible refine WL.topF ?_ ?_); omega) | ((with_reducible refine WL.top64 ?_ ?_); omega) | refine WC.seq ?_ | refine WC.block ?_ | refine WC.region ?_ | refine WL.nil ?_ | refine WC.skip ?_ | refine WC.exit ?_ | refine WC.ret ?_ | refine WQ.then rfl ?_ | refine WQ.thenExit ?_ | refine WQ.thenRet ?_ | refine WQ.blk ?_ | refine WQ.blkRet ?_ | refine WQ.blkHere rfl ?_ | refine WQ.blkOther rfl ?_ | refine WL.pure rfl rfl rfl rfl ?_ | refine WL.on rfl rfl ?_ | refine WL.off rfl rfl rfl ?_ | refine WC.condTrue rfl ?_ | refine WC.condFalse rfl ?_)
      exact WQ.meet (es, li, ei) ⟨rfl, rfl, rfl, trivial⟩ ⟨⟨se, q, hK⟩, hr, hsm, hcont _ _ _ (.ofBad hei)⟩
    have hlen0 := hlen hei
    have hwr := hK.keep.size
    have hgB := hK.a.blk.lt
    repeat (first | ((with_reducible refine WL.topT ?_ ?_); omega) | ((with_reducible refine WL.topF ?_ ?_); omega) | ((with_reducible refine WL.top64 ?_ ?_); omega) | refine WC.seq ?_ | refine WC.block ?_ | refine WC.region ?_ | refine WL.nil ?_ | refine WC.skip ?_ | refine WC.exit ?_ | refine WC.ret ?_ | refine WQ.then rfl ?_ | refine WQ.thenExit ?_ | refine WQ.thenRet ?_ | refine WQ.blk ?_ | refine WQ.blkRet ?_ | refine WQ.blkHere rfl ?_ | refine WQ.blkOther rfl ?_ | refine WL.pure rfl rfl rfl rfl ?_ | refine WL.on rfl rfl ?_ | refine WL.off rfl rfl rfl ?_ | refine WC.condTrue rfl ?_ | refine WC.condFalse rfl ?_)
    refine WC.drawn 7 (fun wx => BkAt 26 g wx ⟨u1, u2, u3, pp, es⟩ se) fun w12 hd12 => ?_
    have hK5 := hK.below (hd12.below _)
    have hr5 := hr.keep (Keep.of_below (hd12.below wr.heap.size)) fun b hb => by omega
    have hsz5 : wr.heap.size ≤ w12.heap.size := (hd12.below 0).size
    have hS := hK5.a
    (((first | refine WD.free 0 rfl (by kernel_rfl) rfl rfl (fun _ _ _ _ _ h => h) rfl rfl (.inr hS) ?_ | refine WD.skip 0 rfl (by kernel_rfl) rfl rfl (fun _ _ _ _ _ h => h) rfl (.inr hS) ?_); try (first | ((with_reducible refine WD.topT ?_ ?_); omega) | ((with_reducible refine WD.topF ?_ ?_); omega) | ((with_reducible refine WD.top64 ?_ ?_); omega))))
    refine WD.load 1 [5, 6, 7] rfl (by kernel_rfl) rfl rfl (fun _ _ _ _ _ h => h) rfl rfl rfl rfl (fun wx hx => hx.ents) hS ?_
    (((first | refine WD.free 2 rfl (by kernel_rfl) rfl rfl (fun _ _ _ _ _ h => h) rfl rfl (.inr hS) ?_ | refine WD.skip 2 rfl (by kernel_rfl) rfl rfl (fun _ _ _ _ _ h => h) rfl (.inr hS) ?_); try (first | ((with_reducible refine WD.topT ?_ ?_); omega) | ((with_reducible refine WD.topF ?_ ?_); omega) | ((with_reducible refine WD.top64 ?_ ?_); omega))))
    refine WD.one 3 (by kernel_rfl) rfl ?_
    refine WL.call rfl rfl rfl rfl rfl Try.func24 rfl (by kernel_rfl) (entry_any hr5 (by omega) (by omega)) ?_
    rintro _ w13 ⟨en, cs, l6, e6, rfl, hv6, hr6, hk6, ⟨ho6, hless⟩, hsm6⟩
    refine ⟨_, rfl, ?_⟩
    have hvb5 := hK5.a.blk.lt
    have hse5 : ∀ x, se.ownBlock = some x → x < w12.heap.size := fun x hx => hK5.ents.lt hx
    have hK6 := hK5.read hk6
    refine WL.nil (WQ.dk (.inr hK6.a) ?_)
    refine WD.one 4 (by kernel_rfl) rfl ?_
    refine WL.lit1 rfl rfl rfl rfl rfl rfl rfl hv6.len ⟨by omega, by omega⟩ (by kernel_rfl) fun g7 w17 hf7 => ?_
    have hK7 := (hK6.below hf7.below).widen (S := w12.heap.size) (by have := hK5.keep.size; omega) hvb5 hse5
    have hr7 := hr6.keep (Keep.of_below hf7.below) fun b hb => by have := hk6.size; omega
    have hv7 : IsEo (fun b => (q b) ∨ (w12.heap.size ≤ b ∧ b < w17.heap.size)) 17 w17 en cs := EnP.mono (fun v cs hv => IsVo.keep (Keep.of_below hf7.below) (fun b _ h => h) (fun b hb => .inr ⟨hb.1, by have := hf7.size; omega⟩) (IsVo.there hv)) hv6
    refine WL.nil (WQ.dk (.inr hK7.a) ?_)
    refine WD.one 5 (by kernel_rfl) rfl ?_
    refine WL.snoc rfl rfl rfl rfl elemE rfl hK7.ents rfl hf7.blk hv6.one hv6.len hv7 (by simp only; omega) (by simp only; omega) fun se8 w18 ho8 hg8 => ?_
    obtain ⟨hb8, hK9⟩ := hK7.setE ho8 hg8
    refine WL.nil (WQ.dk (.inr hb8) ?_)
    have hse8 : se8.oneCell' = true := ho8.one
    refine WD.one 6 (by kernel_rfl) rfl ?_
    refine WL.pure rfl rfl rfl rfl ?_
    refine WL.nil (WQ.dk (.inr hb8) ?_)
    refine WD.one 7 (by kernel_rfl) rfl ?_
    refine WL.store rfl rfl rfl rfl rfl hse8 (by kernel_rfl) hb8.ents (hb8.blk.free 35) ?_
    have hr9 : RB (rb + 1) (w18.setCell ⟨g, 35, none⟩ se8) rb l6 e6 := (hr7.keep hg8.1 fun b hb => ⟨by have := hf7.size; have := hk6.size; omega, fun e => by have := (hK7.ents.own e).1; omega⟩).keep (K := fun b => b ≠ g) ((Keep.refl _ w18).setCell (fun hk => hk rfl) _) fun b hb => by omega
    generalize w18.setCell ⟨g, 35, none⟩ se8 = w19 at hK9 hr9 ⊢
    refine WL.nil (WQ.dk (.inl rfl) ?_)
    refine WD.done (by kernel_rfl) ?_
    repeat (first | ((with_reducible refine WL.topT ?_ ?_); omega) | ((with_reducible refine WL.topF ?_ ?_); omega) | ((with_reducible refine WL.top64 ?_ ?_); omega) | refine WC.seq ?_ | refine WC.block ?_ | refine WC.region ?_ | refine WL.nil ?_ | refine WC.skip ?_ | refine WC.exit ?_ | refine WC.ret ?_ | refine WQ.then rfl ?_ | refine WQ.thenExit ?_ | refine WQ.thenRet ?_ | refine WQ.blk ?_ | refine WQ.blkRet ?_ | refine WQ.blkHere rfl ?_ | refine WQ.blkOther rfl ?_ | refine WL.pure rfl rfl rfl rfl ?_ | refine WL.on rfl rfl ?_ | refine WL.off rfl rfl rfl ?_ | refine WC.condTrue rfl ?_ | refine WC.condFalse rfl ?_)
    have hni : n - k = (n - (k + 1)) + 1 := by omega
    refine WQ.again (k + 1, es ++ [en], l6, e6) ⟨rfl, rfl, rfl, by show some (Value.int .i64 _) = some (Value.int .i64 _); congr 2; omega, trivial⟩ ⟨hkn, ⟨se8, _, hK9⟩, hr9, fun h => by have := hless h; simp only [List.length_append, List.length_cons, List.length_nil]; omega,
      fun h x hx => (List.mem_append.1 hx).elim (fun h1 => hsm hei x h1) (fun h1 => by rw [List.mem_singleton.1 h1]; exact hsm6 h), fun p l' e' ho => ?_⟩ (by show n - (k + 1) < n - k; omega)
    refine hcont p l' e' ?_
    rw [hni]
    exact Out.bind (f := rdE) (g := fun e r => rdEs (n - (k + 1)) (es ++ [e]) r) ho6 ho
  rintro ⟨es, li, ei⟩ w20 ⟨⟨se, q, hK⟩, hr, hsm, hoE⟩
  simp only at hK hr hsm hoE ⊢
  have hBk : Out rdBk l 0 ⟨u1, u2, u3, pp, es⟩ li ei := by
    refine Out.bind (f := rdN) ho1 ?_
    refine Out.bind (f := rdN) ho2 ?_
    refine Out.bind (f := rdN) ho3 ?_
    by_cases h0 : e9 = 0
    · have hpx : pp = x9 := by rw [hpe, if_neg]; rintro rfl; exact absurd (hx91 h0) (by simp)
      rw [hpx]
      refine Out.bind (f := rdX 32) ho9 ?_
      refine Out.bind (f := rdN) ho4 ?_
      exact Out.bind (f := rdEs n []) hoE (Out.pure _)
    · have h4 := ho4.bad h0
      have h5 := hoE.bad (by omega)
      have h6 : ei = e9 := by omega
      have h7 := hoE.len
      rw [h6]
      exact Out.stop (f := rdX 32) ho9 h0 (by omega)
  have hread := hBk.ok rfl
  have hbE : ∀ {w'} {se : Value} {q}, EnsW rb g w2 w' ⟨u1, u2, u3, pp, es⟩ se q → IsBo (fun x => w2.heap.size ≤ x ∧ x ≠ g) 17 w' ⟨u1, u2, u3, pp, es⟩ (bkC ⟨u1, u2, u3, pp, es⟩ se) := fun {w' se q} h =>
    ⟨se, rfl, h.ents.els.mono (fun _ h => h) fun x cs hx => EnP.mono (fun v cs hv => IsVo.mono (fun b hb => ⟨(h.qs b hb).1, (h.qs b hb).2.2.1⟩) hv) hx, h.a.pl, hbpp, by show R64 (u1 : Int); omega, by show R64 (u2 : Int); omega, by show R64 (u3 : Int); omega⟩
  have hcut := hBk.len
  obtain ⟨rsp, rcap, hrb1, -⟩ := hr.ex
  repeat (first | ((with_reducible refine WL.topT ?_ ?_); omega) | ((with_reducible refine WL.topF ?_ ?_); omega) | ((with_reducible refine WL.top64 ?_ ?_); omega) | refine WC.seq ?_ | refine WC.block ?_ | refine WC.region ?_ | refine WL.nil ?_ | refine WC.skip ?_ | refine WC.exit ?_ | refine WC.ret ?_ | refine WQ.then rfl ?_ | refine WQ.thenExit ?_ | refine WQ.thenRet ?_ | refine WQ.blk ?_ | refine WQ.blkRet ?_ | refine WQ.blkHere rfl ?_ | refine WQ.blkOther rfl ?_ | refine WL.pure rfl rfl rfl rfl ?_ | refine WL.on rfl rfl ?_ | refine WL.off rfl rfl rfl ?_ | refine WC.condTrue rfl ?_ | refine WC.condFalse rfl ?_)
  refine WL.load rfl rfl rfl rfl rfl rfl (hrb1.cell 0 (by simp)) ?_
  repeat (first | ((with_reducible refine WL.topT ?_ ?_); omega) | ((with_reducible refine WL.topF ?_ ?_); omega) | ((with_reducible refine WL.top64 ?_ ?_); omega) | refine WC.seq ?_ | refine WC.block ?_ | refine WC.region ?_ | refine WL.nil ?_ | refine WC.skip ?_ | refine WC.exit ?_ | refine WC.ret ?_ | refine WQ.then rfl ?_ | refine WQ.thenExit ?_ | refine WQ.thenRet ?_ | refine WQ.blk ?_ | refine WQ.blkRet ?_ | refine WQ.blkHere rfl ?_ | refine WQ.blkOther rfl ?_ | refine WL.pure rfl rfl rfl rfl ?_ | refine WL.on rfl rfl ?_ | refine WL.off rfl rfl rfl ?_ | refine WC.condTrue rfl ?_ | refine WC.condFalse rfl ?_)
  refine WC.mid (fun _ : Int => [(2, .pointer (some ⟨rg, 0, none⟩)), (4, .pointer (some ⟨rb, 0, none⟩)), (5, .pointer (some ⟨g, 0, none⟩))])
    (fun ex wr => EnsW rb g w2 wr ⟨u1, u2, u3, pp, es⟩ se q ∧ RB (rb + 1) wr rb li ex ∧ ex = (if 0 < li.length then (if ei = 0 then 3 else ei) else ei)) rfl ?_ ?_
  · by_cases hli : 0 < li.length
    · refine WC.condT rfl (by omega) ?_
      repeat (first | ((with_reducible refine WL.topT ?_ ?_); omega) | ((with_reducible refine WL.topF ?_ ?_); omega) | ((with_reducible refine WL.top64 ?_ ?_); omega) | refine WC.seq ?_ | refine WC.block ?_ | refine WC.region ?_ | refine WL.nil ?_ | refine WC.skip ?_ | refine WC.exit ?_ | refine WC.ret ?_ | refine WQ.then rfl ?_ | refine WQ.thenExit ?_ | refine WQ.thenRet ?_ | refine WQ.blk ?_ | refine WQ.blkRet ?_ | refine WQ.blkHere rfl ?_ | refine WQ.blkOther rfl ?_ | refine WL.pure rfl rfl rfl rfl ?_ | refine WL.on rfl rfl ?_ | refine WL.off rfl rfl rfl ?_ | refine WC.condTrue rfl ?_ | refine WC.condFalse rfl ?_)
      refine WL.call rfl rfl rfl rfl rfl Try.func25 rfl (by kernel_rfl) (fail11_any hr 3) ?_
      rintro _ w21 ⟨rfl, hr21, hk21⟩
      refine ⟨_, rfl, ?_⟩
      repeat (first | ((with_reducible refine WL.topT ?_ ?_); omega) | ((with_reducible refine WL.topF ?_ ?_); omega) | ((with_reducible refine WL.top64 ?_ ?_); omega) | refine WC.seq ?_ | refine WC.block ?_ | refine WC.region ?_ | refine WL.nil ?_ | refine WC.skip ?_ | refine WC.exit ?_ | refine WC.ret ?_ | refine WQ.then rfl ?_ | refine WQ.thenExit ?_ | refine WQ.thenRet ?_ | refine WQ.blk ?_ | refine WQ.blkRet ?_ | refine WQ.blkHere rfl ?_ | refine WQ.blkOther rfl ?_ | refine WL.pure rfl rfl rfl rfl ?_ | refine WL.on rfl rfl ?_ | refine WL.off rfl rfl rfl ?_ | refine WC.condTrue rfl ?_ | refine WC.condFalse rfl ?_)
      exact WQ.meet _ ⟨rfl, rfl, rfl, trivial⟩ ⟨hK.read hk21, hr21, by rw [if_pos hli]⟩
    · refine WC.condF rfl (by omega) ?_
      repeat (first | ((with_reducible refine WL.topT ?_ ?_); omega) | ((with_reducible refine WL.topF ?_ ?_); omega) | ((with_reducible refine WL.top64 ?_ ?_); omega) | refine WC.seq ?_ | refine WC.block ?_ | refine WC.region ?_ | refine WL.nil ?_ | refine WC.skip ?_ | refine WC.exit ?_ | refine WC.ret ?_ | refine WQ.then rfl ?_ | refine WQ.thenExit ?_ | refine WQ.thenRet ?_ | refine WQ.blk ?_ | refine WQ.blkRet ?_ | refine WQ.blkHere rfl ?_ | refine WQ.blkOther rfl ?_ | refine WL.pure rfl rfl rfl rfl ?_ | refine WL.on rfl rfl ?_ | refine WL.off rfl rfl rfl ?_ | refine WC.condTrue rfl ?_ | refine WC.condFalse rfl ?_)
      exact WQ.meet ei ⟨rfl, rfl, rfl, trivial⟩ ⟨hK, hr, by rw [if_neg hli]⟩
  rintro ex w21 ⟨hK21, hr21, hex⟩
  clear hrb1 hK hr
  obtain ⟨rsp, rcap, hrb1, -⟩ := hr21.ex
  repeat (first | ((with_reducible refine WL.topT ?_ ?_); omega) | ((with_reducible refine WL.topF ?_ ?_); omega) | ((with_reducible refine WL.top64 ?_ ?_); omega) | refine WC.seq ?_ | refine WC.block ?_ | refine WC.region ?_ | refine WL.nil ?_ | refine WC.skip ?_ | refine WC.exit ?_ | refine WC.ret ?_ | refine WQ.then rfl ?_ | refine WQ.thenExit ?_ | refine WQ.thenRet ?_ | refine WQ.blk ?_ | refine WQ.blkRet ?_ | refine WQ.blkHere rfl ?_ | refine WQ.blkOther rfl ?_ | refine WL.pure rfl rfl rfl rfl ?_ | refine WL.on rfl rfl ?_ | refine WL.off rfl rfl rfl ?_ | refine WC.condTrue rfl ?_ | refine WC.condFalse rfl ?_)
  refine WL.load rfl rfl rfl rfl rfl rfl (hrb1.cell 1 (by simp)) ?_
  repeat (first | ((with_reducible refine WL.topT ?_ ?_); omega) | ((with_reducible refine WL.topF ?_ ?_); omega) | ((with_reducible refine WL.top64 ?_ ?_); omega) | refine WC.seq ?_ | refine WC.block ?_ | refine WC.region ?_ | refine WL.nil ?_ | refine WC.skip ?_ | refine WC.exit ?_ | refine WC.ret ?_ | refine WQ.then rfl ?_ | refine WQ.thenExit ?_ | refine WQ.thenRet ?_ | refine WQ.blk ?_ | refine WQ.blkRet ?_ | refine WQ.blkHere rfl ?_ | refine WQ.blkOther rfl ?_ | refine WL.pure rfl rfl rfl rfl ?_ | refine WL.on rfl rfl ?_ | refine WL.off rfl rfl rfl ?_ | refine WC.condTrue rfl ?_ | refine WC.condFalse rfl ?_)
  refine WC.mid (fun _ : Int => [(2, .pointer (some ⟨rg, 0, none⟩)), (4, .pointer (some ⟨rb, 0, none⟩)), (5, .pointer (some ⟨g, 0, none⟩))])
    (fun ey wr => EnsW rb g w2 wr ⟨u1, u2, u3, pp, es⟩ se q ∧ RB (rb + 1) wr rb li ey ∧ ey = (if ex = 0 then chkB ⟨u1, u2, u3, pp, es⟩ else ex)) rfl ?_ ?_
  · by_cases hx0 : ex = 0
    · have hei : ei = 0 := by
        by_cases h : 0 < li.length
        · rw [if_pos h] at hex; by_cases h2 : ei = 0; exact h2; rw [if_neg h2] at hex; omega
        · rw [if_neg h] at hex; omega
      have hcl := (hbE hK21).len
      refine WC.condT rfl (by omega) ?_
      repeat (first | ((with_reducible refine WL.topT ?_ ?_); omega) | ((with_reducible refine WL.topF ?_ ?_); omega) | ((with_reducible refine WL.top64 ?_ ?_); omega) | refine WC.seq ?_ | refine WC.block ?_ | refine WC.region ?_ | refine WL.nil ?_ | refine WC.skip ?_ | refine WC.exit ?_ | refine WC.ret ?_ | refine WQ.then rfl ?_ | refine WQ.thenExit ?_ | refine WQ.thenRet ?_ | refine WQ.blk ?_ | refine WQ.blkRet ?_ | refine WQ.blkHere rfl ?_ | refine WQ.blkOther rfl ?_ | refine WL.pure rfl rfl rfl rfl ?_ | refine WL.on rfl rfl ?_ | refine WL.off rfl rfl rfl ?_ | refine WC.condTrue rfl ?_ | refine WC.condFalse rfl ?_)
      refine WL.loadMid rfl rfl rfl rfl rfl rfl (VBlk.rangeAt hK21.a.blk) hcl ?_
      refine WL.call rfl rfl rfl rfl rfl Try.func16 rfl (by kernel_rfl) (check11_any (f := 17) (b := ⟨u1, u2, u3, pp, es⟩) (isB_of (hbE hK21)) (fun en hen _ => by have := hsm hei en hen; omega)) ?_
      rintro _ w22 ⟨rfl, hk22⟩
      refine ⟨_, rfl, ?_⟩
      have hgb := hK21.a.blk.lt
      have hr22 := hr21.keep (Keep.of_below hk22) fun b hb => by have := hr21.rlt; have := hK21.keep.size; omega
      refine WL.call rfl rfl rfl rfl rfl Try.func25 rfl (by kernel_rfl) (fail11_any hr22 _) ?_
      rintro _ w23 ⟨rfl, hr23, hk23⟩
      refine ⟨_, rfl, ?_⟩
      repeat (first | ((with_reducible refine WL.topT ?_ ?_); omega) | ((with_reducible refine WL.topF ?_ ?_); omega) | ((with_reducible refine WL.top64 ?_ ?_); omega) | refine WC.seq ?_ | refine WC.block ?_ | refine WC.region ?_ | refine WL.nil ?_ | refine WC.skip ?_ | refine WC.exit ?_ | refine WC.ret ?_ | refine WQ.then rfl ?_ | refine WQ.thenExit ?_ | refine WQ.thenRet ?_ | refine WQ.blk ?_ | refine WQ.blkRet ?_ | refine WQ.blkHere rfl ?_ | refine WQ.blkOther rfl ?_ | refine WL.pure rfl rfl rfl rfl ?_ | refine WL.on rfl rfl ?_ | refine WL.off rfl rfl rfl ?_ | refine WC.condTrue rfl ?_ | refine WC.condFalse rfl ?_)
      exact WQ.meet _ ⟨rfl, rfl, rfl, trivial⟩ ⟨(hK21.below hk22).read hk23, hr23, rfl⟩
    · refine WC.condF rfl (by omega) ?_
      repeat (first | ((with_reducible refine WL.topT ?_ ?_); omega) | ((with_reducible refine WL.topF ?_ ?_); omega) | ((with_reducible refine WL.top64 ?_ ?_); omega) | refine WC.seq ?_ | refine WC.block ?_ | refine WC.region ?_ | refine WL.nil ?_ | refine WC.skip ?_ | refine WC.exit ?_ | refine WC.ret ?_ | refine WQ.then rfl ?_ | refine WQ.thenExit ?_ | refine WQ.thenRet ?_ | refine WQ.blk ?_ | refine WQ.blkRet ?_ | refine WQ.blkHere rfl ?_ | refine WQ.blkOther rfl ?_ | refine WL.pure rfl rfl rfl rfl ?_ | refine WL.on rfl rfl ?_ | refine WL.off rfl rfl rfl ?_ | refine WC.condTrue rfl ?_ | refine WC.condFalse rfl ?_)
      exact WQ.meet ex ⟨rfl, rfl, rfl, trivial⟩ ⟨hK21, hr21, by rw [if_neg hx0]⟩
  rintro ey w24 ⟨hK24, hr24, hey⟩
  clear hrb1 hK21 hr21
  obtain ⟨rsp, rcap, hrb1, -⟩ := hr24.ex
  have hout : match readB l with
      | .ok y _ => (⟨u1, u2, u3, pp, es⟩ : Bk) = y ∧ ey = 0
      | .bad z => ey = z ∧ z ≠ 0 := by
    unfold readB
    cases hq : rdBk l with
    | bad z =>
      rw [hq] at hread
      obtain ⟨rfl, hz⟩ := hread
      rw [if_neg hz] at hex
      have : ex = ei := by rw [hex]; split <;> rfl
      rw [this, if_neg hz] at hey
      exact ⟨hey, hz⟩
    | ok y r =>
      rw [hq] at hread
      obtain ⟨rfl, rfl, rfl⟩ := hread
      simp only
      by_cases hli : 0 < li.length
      · rw [if_pos hli] at hex ⊢
        rw [if_pos rfl] at hex
        rw [hex] at hey
        simp at hey
        exact ⟨hey, by omega⟩
      · rw [if_neg hli] at hex ⊢
        rw [hex, if_pos rfl] at hey
        by_cases hc : chkB ⟨u1, u2, u3, pp, es⟩ ≠ 0
        · rw [if_pos hc]; exact ⟨hey, hc⟩
        · rw [if_neg hc]; exact ⟨rfl, by rw [hey]; exact Classical.not_not.1 hc⟩
  have g24 := VBlk.keep g2 hK24.keep ⟨g2.lt, by omega⟩
  have hbel : Below w.heap.size w w24 := hb2.trans (Keep.below (Keep.mono hK24.keep fun b hb => ⟨by have := hb2.size; omega, by omega⟩))
  have hgg := hK24.ge
  repeat (first | ((with_reducible refine WL.topT ?_ ?_); omega) | ((with_reducible refine WL.topF ?_ ?_); omega) | ((with_reducible refine WL.top64 ?_ ?_); omega) | refine WC.seq ?_ | refine WC.block ?_ | refine WC.region ?_ | refine WL.nil ?_ | refine WC.skip ?_ | refine WC.exit ?_ | refine WC.ret ?_ | refine WQ.then rfl ?_ | refine WQ.thenExit ?_ | refine WQ.thenRet ?_ | refine WQ.blk ?_ | refine WQ.blkRet ?_ | refine WQ.blkHere rfl ?_ | refine WQ.blkOther rfl ?_ | refine WL.pure rfl rfl rfl rfl ?_ | refine WL.on rfl rfl ?_ | refine WL.off rfl rfl rfl ?_ | refine WC.condTrue rfl ?_ | refine WC.condFalse rfl ?_)
  refine WL.load rfl rfl rfl rfl rfl rfl (hrb1.cell 1 (by simp)) ?_
  by_cases hy0 : ey = 0
  · have hcl := (hbE hK24).len
    have hB24 := hbE hK24
    repeat (first | ((with_reducible refine WL.topT ?_ ?_); omega) | ((with_reducible refine WL.topF ?_ ?_); omega) | ((with_reducible refine WL.top64 ?_ ?_); omega) | refine WC.seq ?_ | refine WC.block ?_ | refine WC.region ?_ | refine WL.nil ?_ | refine WC.skip ?_ | refine WC.exit ?_ | refine WC.ret ?_ | refine WQ.then rfl ?_ | refine WQ.thenExit ?_ | refine WQ.thenRet ?_ | refine WQ.blk ?_ | refine WQ.blkRet ?_ | refine WQ.blkHere rfl ?_ | refine WQ.blkOther rfl ?_ | refine WL.pure rfl rfl rfl rfl ?_ | refine WL.on rfl rfl ?_ | refine WL.off rfl rfl rfl ?_ | refine WC.condTrue rfl ?_ | refine WC.condFalse rfl ?_)
    refine WL.loadMid rfl rfl rfl rfl rfl rfl (VBlk.rangeAt hK24.a.blk) hcl ?_
    repeat (first | ((with_reducible refine WL.topT ?_ ?_); omega) | ((with_reducible refine WL.topF ?_ ?_); omega) | ((with_reducible refine WL.top64 ?_ ?_); omega) | refine WC.seq ?_ | refine WC.block ?_ | refine WC.region ?_ | refine WL.nil ?_ | refine WC.skip ?_ | refine WC.exit ?_ | refine WC.ret ?_ | refine WQ.then rfl ?_ | refine WQ.thenExit ?_ | refine WQ.thenRet ?_ | refine WQ.blk ?_ | refine WQ.blkRet ?_ | refine WQ.blkHere rfl ?_ | refine WQ.blkOther rfl ?_ | refine WL.pure rfl rfl rfl rfl ?_ | refine WL.on rfl rfl ?_ | refine WL.off rfl rfl rfl ?_ | refine WC.condTrue rfl ?_ | refine WC.condFalse rfl ?_)
    refine WL.storeRow rfl rfl rfl rfl rfl rfl g24 hcl rfl hB24.one ?_
    repeat (first | ((with_reducible refine WL.topT ?_ ?_); omega) | ((with_reducible refine WL.topF ?_ ?_); omega) | ((with_reducible refine WL.top64 ?_ ?_); omega) | refine WC.seq ?_ | refine WC.block ?_ | refine WC.region ?_ | refine WL.nil ?_ | refine WC.skip ?_ | refine WC.exit ?_ | refine WC.ret ?_ | refine WQ.then rfl ?_ | refine WQ.thenExit ?_ | refine WQ.thenRet ?_ | refine WQ.blk ?_ | refine WQ.blkRet ?_ | refine WQ.blkHere rfl ?_ | refine WQ.blkOther rfl ?_ | refine WL.pure rfl rfl rfl rfl ?_ | refine WL.on rfl rfl ?_ | refine WL.off rfl rfl rfl ?_ | refine WC.condTrue rfl ?_ | refine WC.condFalse rfl ?_)
    refine WQ.retCT rfl rfl rfl rfl hcl (g24.setRow _) ⟨Keep.below (Keep.setRow (Keep.of_below hbel) (fun hk => by omega) _), ⟨u1, u2, u3, pp, es⟩, _, 0, rfl, ?_, ?_⟩
    · obtain ⟨se', e1, hels, h3⟩ := hB24
      have hset := rowK w24 rg (bkC ⟨u1, u2, u3, pp, es⟩ se).toArray (· ≠ rg) (fun h => h rfl)
      exact ⟨se', e1, hels.keep hset (fun b hb _ => by have := hb2.size; omega) (fun b hb => by have := hb2.size; omega) (fun x cs hx => EnP.mono (fun v cs hv => IsVo.keep hset (fun b hb _ => by have := hb2.size; omega) (fun b hb => by have := hb2.size; omega) hv) hx), h3⟩
    · cases hq : readB l with
      | ok y q => rw [hq] at hout; exact ⟨hout.1, rfl⟩
      | bad z => rw [hq] at hout; exact absurd (hout.1.symm.trans hy0) hout.2
  · repeat (first | ((with_reducible refine WL.topT ?_ ?_); omega) | ((with_reducible refine WL.topF ?_ ?_); omega) | ((with_reducible refine WL.top64 ?_ ?_); omega) | refine WC.seq ?_ | refine WC.block ?_ | refine WC.region ?_ | refine WL.nil ?_ | refine WC.skip ?_ | refine WC.exit ?_ | refine WC.ret ?_ | refine WQ.then rfl ?_ | refine WQ.thenExit ?_ | refine WQ.thenRet ?_ | refine WQ.blk ?_ | refine WQ.blkRet ?_ | refine WQ.blkHere rfl ?_ | refine WQ.blkOther rfl ?_ | refine WL.pure rfl rfl rfl rfl ?_ | refine WL.on rfl rfl ?_ | refine WL.off rfl rfl rfl ?_ | refine WC.condTrue rfl ?_ | refine WC.condFalse rfl ?_)
    refine WC.drawn 6 (fun wx => VBlk 60 wx rb [.slice rsp li.length rcap, .int .i64 ey]) fun w25 hd25 => ?_
    have g25 := g24.below (hd25.below _) g24.lt
    have hbel5 : Below w.heap.size w w25 := hbel.trans ((hd25.below w24.heap.size).mono hbel.size)
    have hS : VBlk 60 w25 rb [.slice rsp li.length rcap, .int .i64 ey] := hrb1.below (hd25.below _) hrb1.lt
    have hB0 : ∀ w', BkP (IsEo (fun b => w.heap.size ≤ b) 17 w') (fun b => w.heap.size ≤ b) w' noB (bkC noB (.slice none 0 0)) := fun w' => ⟨_, rfl, Els.nil _ _ _ _ _, rfl, hbz, by show R64 0; omega, by show R64 0; omega, by show R64 0; omega⟩
    refine WD.build (bkC noB (.slice none 0 0)) 0 rfl (by kernel_rfl) rfl rfl (fun _ _ _ _ _ h => h) rfl rfl rfl (by kernel_rfl) (.inr hS) ?_
    (((first | refine WD.free 1 rfl (by kernel_rfl) rfl rfl (fun _ _ _ _ _ h => h) rfl rfl (.inr hS) ?_ | refine WD.skip 1 rfl (by kernel_rfl) rfl rfl (fun _ _ _ _ _ h => h) rfl (.inr hS) ?_); try (first | ((with_reducible refine WD.topT ?_ ?_); omega) | ((with_reducible refine WD.topF ?_ ?_); omega) | ((with_reducible refine WD.top64 ?_ ?_); omega))); ((first | refine WD.free 2 rfl (by kernel_rfl) rfl rfl (fun _ _ _ _ _ h => h) rfl rfl (.inr hS) ?_ | refine WD.skip 2 rfl (by kernel_rfl) rfl rfl (fun _ _ _ _ _ h => h) rfl (.inr hS) ?_); try (first | ((with_reducible refine WD.topT ?_ ?_); omega) | ((with_reducible refine WD.topF ?_ ?_); omega) | ((with_reducible refine WD.top64 ?_ ?_); omega))); ((first | refine WD.free 3 rfl (by kernel_rfl) rfl rfl (fun _ _ _ _ _ h => h) rfl rfl (.inr hS) ?_ | refine WD.skip 3 rfl (by kernel_rfl) rfl rfl (fun _ _ _ _ _ h => h) rfl (.inr hS) ?_); try (first | ((with_reducible refine WD.topT ?_ ?_); omega) | ((with_reducible refine WD.topF ?_ ?_); omega) | ((with_reducible refine WD.top64 ?_ ?_); omega))))
    refine WD.load 4 [6] rfl (by kernel_rfl) rfl rfl (fun _ _ _ _ _ h => h) rfl rfl rfl rfl (fun wx hx => hx.cell 1 (by simp)) hS ?_
    refine WD.one 5 (by kernel_rfl) rfl ?_
    refine WL.storeRow rfl rfl rfl rfl rfl rfl g25 rfl rfl (hB0 w25).one ?_
    have hS2 : VBlk 60 (w25.setRow rg (bkC noB (.slice none 0 0)).toArray) rb [.slice rsp li.length rcap, .int .i64 ey] := hS.setRow_other _ (by omega)
    have g26 := g25.setRow (bkC noB (.slice none 0 0))
    have hbel6 : Below w.heap.size w (w25.setRow rg (bkC noB (.slice none 0 0)).toArray) := Keep.below (Keep.setRow (Keep.of_below hbel5) (fun hk => by omega) _)
    generalize w25.setRow rg (bkC noB (.slice none 0 0)).toArray = w26 at hS2 g26 hbel6 ⊢
    refine WL.nil (WQ.dk (.inr hS2) ?_)
    refine WD.one 6 (by kernel_rfl) rfl ?_
    refine WL.pure rfl rfl rfl rfl ?_
    refine WL.nil (WQ.dk (.inl rfl) ?_)
    refine WD.done (by kernel_rfl) ?_
    repeat (first | ((with_reducible refine WL.topT ?_ ?_); omega) | ((with_reducible refine WL.topF ?_ ?_); omega) | ((with_reducible refine WL.top64 ?_ ?_); omega) | refine WC.seq ?_ | refine WC.block ?_ | refine WC.region ?_ | refine WL.nil ?_ | refine WC.skip ?_ | refine WC.exit ?_ | refine WC.ret ?_ | refine WQ.then rfl ?_ | refine WQ.thenExit ?_ | refine WQ.thenRet ?_ | refine WQ.blk ?_ | refine WQ.blkRet ?_ | refine WQ.blkHere rfl ?_ | refine WQ.blkOther rfl ?_ | refine WL.pure rfl rfl rfl rfl ?_ | refine WL.on rfl rfl ?_ | refine WL.off rfl rfl rfl ?_ | refine WC.condTrue rfl ?_ | refine WC.condFalse rfl ?_)
    refine WQ.retCT rfl rfl rfl rfl rfl g26 ⟨hbel6, noB, _, ey, rfl, hB0 _, ?_⟩
    cases hq : readB l with
    | ok y q => rw [hq] at hout; exact absurd hout.2 hy0
    | bad z => rw [hq] at hout; exact ⟨rfl, hout.1, hout.2⟩
end K
end Go.Proofs.Ytlamdhekjlnccaa

/- Blocks (chapter 11): the law's small block; entries and blocks are the same. -/
namespace Go.Proofs.Ytlamdhekjlnccaa
open Go.RowKit
namespace K
def smallE : En := ⟨5, ⟨#[116]⟩, 1, 0, 0, zV, Dig.Z32, false, 0, 0⟩
def smallB : Bk := ⟨0, 0, 0, Dig.Z32, [smallE]⟩
theorem z32_byt : Byt Dig.Z32 := fun x hx => by have := List.eq_of_mem_replicate hx; omega
theorem small_any {w : World} : Calls Try.prog 21 #[] w fun r w' => Below w.heap.size w w' ∧ ∃ cs, r = .returned (.agg cs.toArray) ∧ IsBo (fun b => w.heap.size ≤ b) 1 w' smallB cs := by
  refine enter (args := []) Try.func21 rfl Try.ntmps21 rfl ?_
  repeat (first | ((with_reducible refine WL.topT ?_ ?_); omega) | ((with_reducible refine WL.topF ?_ ?_); omega) | ((with_reducible refine WL.top64 ?_ ?_); omega) | refine WC.seq ?_ | refine WC.block ?_ | refine WC.region ?_ | refine WL.nil ?_ | refine WC.skip ?_ | refine WC.exit ?_ | refine WC.ret ?_ | refine WQ.then rfl ?_ | refine WQ.thenExit ?_ | refine WQ.thenRet ?_ | refine WQ.blk ?_ | refine WQ.blkRet ?_ | refine WQ.blkHere rfl ?_ | refine WQ.blkOther rfl ?_ | refine WL.pure rfl rfl rfl rfl ?_ | refine WL.on rfl rfl ?_ | refine WL.off rfl rfl rfl ?_ | refine WC.condTrue rfl ?_ | refine WC.condFalse rfl ?_)
  refine WL.alloc (z := .agg (bkC noB (.slice none 0 0)).toArray) rfl rfl rfl rfl (fun _ => by kernel_rfl) fun rg w1 hf1 => ?_
  have hf1' : Fresh w rg w1 26 (bkC noB (.slice none 0 0)) := hf1
  clear hf1
  have hrg := hf1'.eq
  have hz1 := hf1'.size
  repeat (first | ((with_reducible refine WL.topT ?_ ?_); omega) | ((with_reducible refine WL.topF ?_ ?_); omega) | ((with_reducible refine WL.top64 ?_ ?_); omega) | refine WC.seq ?_ | refine WC.block ?_ | refine WC.region ?_ | refine WL.nil ?_ | refine WC.skip ?_ | refine WC.exit ?_ | refine WC.ret ?_ | refine WQ.then rfl ?_ | refine WQ.thenExit ?_ | refine WQ.thenRet ?_ | refine WQ.blk ?_ | refine WQ.blkRet ?_ | refine WQ.blkHere rfl ?_ | refine WQ.blkOther rfl ?_ | refine WL.pure rfl rfl rfl rfl ?_ | refine WL.on rfl rfl ?_ | refine WL.off rfl rfl rfl ?_ | refine WC.condTrue rfl ?_ | refine WC.condFalse rfl ?_)
  refine WL.build (enC smallE zCells) rfl rfl rfl rfl rfl (by kernel_rfl) ?_
  refine WL.lit1 (cs := enC smallE zCells) rfl rfl rfl rfl rfl rfl rfl rfl ⟨by omega, by omega⟩ (by kernel_rfl) fun g7 w2 hf7 => ?_
  have hg7 := hf7.eq
  have g2 := hf1'.blk.below hf7.below hf1'.blk.lt
  have hb2 : Below w.heap.size w w2 := hf1'.below.trans (hf7.below.mono (by omega))
  refine WL.build (bkC ⟨0, 0, 0, Dig.Z32, []⟩ (.slice (some ⟨g7, 0, none⟩) 1 1)) rfl rfl rfl rfl rfl (by kernel_rfl) ?_
  have hE : ∀ w', IsEo (fun b => w.heap.size ≤ b) 1 w' smallE (enC smallE zCells) := fun w' => ⟨_, rfl, zV_is _ _ _, rfl, (zV_is (fun _ => True) 0 w).one, rfl, z32_byt, by decide, by decide⟩
  have hels : ∀ w', VBlk 49 w' g7 (enC smallE zCells) → IsBo (fun b => w.heap.size ≤ b) 1 w' smallB (bkC ⟨0, 0, 0, Dig.Z32, []⟩ (.slice (some ⟨g7, 0, none⟩) 1 1)) := fun w' hv => by
    refine ⟨_, rfl, ⟨some ⟨g7, 0, none⟩, 1, rfl, Nat.le_refl _, by omega, (fun h => by cases h), fun _ => ⟨g7, 0, rfl, hv.lt, by omega, fun j hj => ?_⟩⟩, rfl, z32_byt, by show R64 0; omega, by show R64 0; omega, by show R64 0; omega⟩
    have hj1 : j < 1 := hj
    obtain rfl : j = 0 := by omega
    exact ⟨enC smallE zCells, rfl, hE w', VBlk.rangeAt hv⟩
  refine WL.storeRow rfl rfl rfl rfl rfl rfl g2 rfl rfl (hels w2 hf7.blk).one ?_
  repeat (first | ((with_reducible refine WL.topT ?_ ?_); omega) | ((with_reducible refine WL.topF ?_ ?_); omega) | ((with_reducible refine WL.top64 ?_ ?_); omega) | refine WC.seq ?_ | refine WC.block ?_ | refine WC.region ?_ | refine WL.nil ?_ | refine WC.skip ?_ | refine WC.exit ?_ | refine WC.ret ?_ | refine WQ.then rfl ?_ | refine WQ.thenExit ?_ | refine WQ.thenRet ?_ | refine WQ.blk ?_ | refine WQ.blkRet ?_ | refine WQ.blkHere rfl ?_ | refine WQ.blkOther rfl ?_ | refine WL.pure rfl rfl rfl rfl ?_ | refine WL.on rfl rfl ?_ | refine WL.off rfl rfl rfl ?_ | refine WC.condTrue rfl ?_ | refine WC.condFalse rfl ?_)
  refine WQ.retC rfl rfl rfl rfl (g2.setRow _) ⟨Keep.below (Keep.setRow (Keep.of_below hb2) (fun hk => by omega) _), _, rfl, hels _ (hf7.blk.setRow_other _ (by omega))⟩
set_option maxHeartbeats 4000000 in
/-- The same entries? -/
theorem eqEn_any {f f2 : Nat} {w : World} {e1 e2 : En} {c1 c2 : List Value} (h1 : IsE f w e1 c1) (h2 : IsE f2 w e2 c2) :
    Calls Try.prog 38 #[.agg c1.toArray, .agg c2.toArray] w fun r w' => (∃ b, r = .returned (.bool b) ∧ (b = true ↔ e1 = e2)) ∧ Below w.heap.size w w' := by
  obtain ⟨d1, rfl, hv1, hd1, -, hh1, -⟩ := h1
  obtain ⟨d2, rfl, hv2, hd2, -, hh2, -⟩ := h2
  refine enter (args := [.agg (enC e1 d1).toArray, .agg (enC e2 d2).toArray]) Try.func38 rfl Try.ntmps38 rfl ?_
  repeat (first | ((with_reducible refine WL.topT ?_ ?_); omega) | ((with_reducible refine WL.topF ?_ ?_); omega) | ((with_reducible refine WL.top64 ?_ ?_); omega) | refine WC.seq ?_ | refine WC.block ?_ | refine WC.region ?_ | refine WL.nil ?_ | refine WC.skip ?_ | refine WC.exit ?_ | refine WC.ret ?_ | refine WQ.then rfl ?_ | refine WQ.thenExit ?_ | refine WQ.thenRet ?_ | refine WQ.blk ?_ | refine WQ.blkRet ?_ | refine WQ.blkHere rfl ?_ | refine WQ.blkOther rfl ?_ | refine WL.pure rfl rfl rfl rfl ?_ | refine WL.on rfl rfl ?_ | refine WL.off rfl rfl rfl ?_ | refine WC.condTrue rfl ?_ | refine WC.condFalse rfl ?_)
  refine WL.box rfl rfl rfl rfl rfl fun g1 w1 hf1 => ?_
  have hf1' : Fresh w g1 w1 49 (enC e1 d1) := hf1
  clear hf1
  refine WL.box rfl rfl rfl rfl rfl fun g2 w2 hf2 => ?_
  have hf2' : Fresh w1 g2 w2 49 (enC e2 d2) := hf2
  clear hf2
  have hw : Below w.heap.size w w2 := hf1'.below.trans (hf2'.below.mono hf1'.below.size)
  have A1 : EnAt _ g1 w2 e1 d1 := ⟨hf1'.blk.below hf2'.below hf1'.blk.lt, hd1, hh1⟩
  have A2 : EnAt _ g2 w2 e2 d2 := ⟨hf2'.blk, hd2, hh2⟩
  clear hf1' hf2'
  have no : ¬ e1 = e2 → (∃ b, Ending.returned (Value.bool false) = .returned (.bool b) ∧ (b = true ↔ e1 = e2)) ∧ Below w.heap.size w w2 := fun h => ⟨⟨false, rfl, by simp [h]⟩, hw⟩
  repeat (first | ((with_reducible refine WL.topT ?_ ?_); omega) | ((with_reducible refine WL.topF ?_ ?_); omega) | ((with_reducible refine WL.top64 ?_ ?_); omega) | refine WC.seq ?_ | refine WC.block ?_ | refine WC.region ?_ | refine WL.nil ?_ | refine WC.skip ?_ | refine WC.exit ?_ | refine WC.ret ?_ | refine WQ.then rfl ?_ | refine WQ.thenExit ?_ | refine WQ.thenRet ?_ | refine WQ.blk ?_ | refine WQ.blkRet ?_ | refine WQ.blkHere rfl ?_ | refine WQ.blkOther rfl ?_ | refine WL.pure rfl rfl rfl rfl ?_ | refine WL.on rfl rfl ?_ | refine WL.off rfl rfl rfl ?_ | refine WC.condTrue rfl ?_ | refine WC.condFalse rfl ?_)
  refine WL.load rfl rfl rfl rfl rfl rfl A1.kind ?_
  repeat (first | ((with_reducible refine WL.topT ?_ ?_); omega) | ((with_reducible refine WL.topF ?_ ?_); omega) | ((with_reducible refine WL.top64 ?_ ?_); omega) | refine WC.seq ?_ | refine WC.block ?_ | refine WC.region ?_ | refine WL.nil ?_ | refine WC.skip ?_ | refine WC.exit ?_ | refine WC.ret ?_ | refine WQ.then rfl ?_ | refine WQ.thenExit ?_ | refine WQ.thenRet ?_ | refine WQ.blk ?_ | refine WQ.blkRet ?_ | refine WQ.blkHere rfl ?_ | refine WQ.blkOther rfl ?_ | refine WL.pure rfl rfl rfl rfl ?_ | refine WL.on rfl rfl ?_ | refine WL.off rfl rfl rfl ?_ | refine WC.condTrue rfl ?_ | refine WC.condFalse rfl ?_)
  refine WL.load rfl rfl rfl rfl rfl rfl A2.kind ?_
  by_cases q1 : e1.kind = e2.kind
  rotate_left
  · repeat (first | ((with_reducible refine WL.topT ?_ ?_); omega) | ((with_reducible refine WL.topF ?_ ?_); omega) | ((with_reducible refine WL.top64 ?_ ?_); omega) | refine WC.seq ?_ | refine WC.block ?_ | refine WC.region ?_ | refine WL.nil ?_ | refine WC.skip ?_ | refine WC.exit ?_ | refine WC.ret ?_ | refine WQ.then rfl ?_ | refine WQ.thenExit ?_ | refine WQ.thenRet ?_ | refine WQ.blk ?_ | refine WQ.blkRet ?_ | refine WQ.blkHere rfl ?_ | refine WQ.blkOther rfl ?_ | refine WL.pure rfl rfl rfl rfl ?_ | refine WL.on rfl rfl ?_ | refine WL.off rfl rfl rfl ?_ | refine WC.condTrue rfl ?_ | refine WC.condFalse rfl ?_)
    exact WQ.ret1 rfl rfl (no fun e => q1 (by rw [e]))
  repeat (first | ((with_reducible refine WL.topT ?_ ?_); omega) | ((with_reducible refine WL.topF ?_ ?_); omega) | ((with_reducible refine WL.top64 ?_ ?_); omega) | refine WC.seq ?_ | refine WC.block ?_ | refine WC.region ?_ | refine WL.nil ?_ | refine WC.skip ?_ | refine WC.exit ?_ | refine WC.ret ?_ | refine WQ.then rfl ?_ | refine WQ.thenExit ?_ | refine WQ.thenRet ?_ | refine WQ.blk ?_ | refine WQ.blkRet ?_ | refine WQ.blkHere rfl ?_ | refine WQ.blkOther rfl ?_ | refine WL.pure rfl rfl rfl rfl ?_ | refine WL.on rfl rfl ?_ | refine WL.off rfl rfl rfl ?_ | refine WC.condTrue rfl ?_ | refine WC.condFalse rfl ?_)
  refine WL.load rfl rfl rfl rfl rfl rfl A1.text ?_
  repeat (first | ((with_reducible refine WL.topT ?_ ?_); omega) | ((with_reducible refine WL.topF ?_ ?_); omega) | ((with_reducible refine WL.top64 ?_ ?_); omega) | refine WC.seq ?_ | refine WC.block ?_ | refine WC.region ?_ | refine WL.nil ?_ | refine WC.skip ?_ | refine WC.exit ?_ | refine WC.ret ?_ | refine WQ.then rfl ?_ | refine WQ.thenExit ?_ | refine WQ.thenRet ?_ | refine WQ.blk ?_ | refine WQ.blkRet ?_ | refine WQ.blkHere rfl ?_ | refine WQ.blkOther rfl ?_ | refine WL.pure rfl rfl rfl rfl ?_ | refine WL.on rfl rfl ?_ | refine WL.off rfl rfl rfl ?_ | refine WC.condTrue rfl ?_ | refine WC.condFalse rfl ?_)
  refine WL.load rfl rfl rfl rfl rfl rfl A2.text ?_
  by_cases q2 : e1.text = e2.text
  rotate_left
  · refine WL.on rfl rfl ?_
    refine WL.pureAs (.bool false) rfl rfl rfl rfl (by simp [bytes_ne q2]) ?_
    repeat (first | ((with_reducible refine WL.topT ?_ ?_); omega) | ((with_reducible refine WL.topF ?_ ?_); omega) | ((with_reducible refine WL.top64 ?_ ?_); omega) | refine WC.seq ?_ | refine WC.block ?_ | refine WC.region ?_ | refine WL.nil ?_ | refine WC.skip ?_ | refine WC.exit ?_ | refine WC.ret ?_ | refine WQ.then rfl ?_ | refine WQ.thenExit ?_ | refine WQ.thenRet ?_ | refine WQ.blk ?_ | refine WQ.blkRet ?_ | refine WQ.blkHere rfl ?_ | refine WQ.blkOther rfl ?_ | refine WL.pure rfl rfl rfl rfl ?_ | refine WL.on rfl rfl ?_ | refine WL.off rfl rfl rfl ?_ | refine WC.condTrue rfl ?_ | refine WC.condFalse rfl ?_)
    exact WQ.ret1 rfl rfl (no fun e => q2 (by rw [e]))
  refine WL.on rfl rfl ?_
  refine WL.pureAs (.bool true) rfl rfl rfl rfl (by simp [q2]) ?_
  repeat (first | ((with_reducible refine WL.topT ?_ ?_); omega) | ((with_reducible refine WL.topF ?_ ?_); omega) | ((with_reducible refine WL.top64 ?_ ?_); omega) | refine WC.seq ?_ | refine WC.block ?_ | refine WC.region ?_ | refine WL.nil ?_ | refine WC.skip ?_ | refine WC.exit ?_ | refine WC.ret ?_ | refine WQ.then rfl ?_ | refine WQ.thenExit ?_ | refine WQ.thenRet ?_ | refine WQ.blk ?_ | refine WQ.blkRet ?_ | refine WQ.blkHere rfl ?_ | refine WQ.blkOther rfl ?_ | refine WL.pure rfl rfl rfl rfl ?_ | refine WL.on rfl rfl ?_ | refine WL.off rfl rfl rfl ?_ | refine WC.condTrue rfl ?_ | refine WC.condFalse rfl ?_)
  refine WL.load rfl rfl rfl rfl rfl rfl A1.table ?_
  repeat (first | ((with_reducible refine WL.topT ?_ ?_); omega) | ((with_reducible refine WL.topF ?_ ?_); omega) | ((with_reducible refine WL.top64 ?_ ?_); omega) | refine WC.seq ?_ | refine WC.block ?_ | refine WC.region ?_ | refine WL.nil ?_ | refine WC.skip ?_ | refine WC.exit ?_ | refine WC.ret ?_ | refine WQ.then rfl ?_ | refine WQ.thenExit ?_ | refine WQ.thenRet ?_ | refine WQ.blk ?_ | refine WQ.blkRet ?_ | refine WQ.blkHere rfl ?_ | refine WQ.blkOther rfl ?_ | refine WL.pure rfl rfl rfl rfl ?_ | refine WL.on rfl rfl ?_ | refine WL.off rfl rfl rfl ?_ | refine WC.condTrue rfl ?_ | refine WC.condFalse rfl ?_)
  refine WL.load rfl rfl rfl rfl rfl rfl A2.table ?_
  by_cases q3 : e1.table = e2.table
  rotate_left
  · repeat (first | ((with_reducible refine WL.topT ?_ ?_); omega) | ((with_reducible refine WL.topF ?_ ?_); omega) | ((with_reducible refine WL.top64 ?_ ?_); omega) | refine WC.seq ?_ | refine WC.block ?_ | refine WC.region ?_ | refine WL.nil ?_ | refine WC.skip ?_ | refine WC.exit ?_ | refine WC.ret ?_ | refine WQ.then rfl ?_ | refine WQ.thenExit ?_ | refine WQ.thenRet ?_ | refine WQ.blk ?_ | refine WQ.blkRet ?_ | refine WQ.blkHere rfl ?_ | refine WQ.blkOther rfl ?_ | refine WL.pure rfl rfl rfl rfl ?_ | refine WL.on rfl rfl ?_ | refine WL.off rfl rfl rfl ?_ | refine WC.condTrue rfl ?_ | refine WC.condFalse rfl ?_)
    exact WQ.ret1 rfl rfl (no fun e => q3 (by rw [e]))
  repeat (first | ((with_reducible refine WL.topT ?_ ?_); omega) | ((with_reducible refine WL.topF ?_ ?_); omega) | ((with_reducible refine WL.top64 ?_ ?_); omega) | refine WC.seq ?_ | refine WC.block ?_ | refine WC.region ?_ | refine WL.nil ?_ | refine WC.skip ?_ | refine WC.exit ?_ | refine WC.ret ?_ | refine WQ.then rfl ?_ | refine WQ.thenExit ?_ | refine WQ.thenRet ?_ | refine WQ.blk ?_ | refine WQ.blkRet ?_ | refine WQ.blkHere rfl ?_ | refine WQ.blkOther rfl ?_ | refine WL.pure rfl rfl rfl rfl ?_ | refine WL.on rfl rfl ?_ | refine WL.off rfl rfl rfl ?_ | refine WC.condTrue rfl ?_ | refine WC.condFalse rfl ?_)
  refine WL.load rfl rfl rfl rfl rfl rfl A1.doc ?_
  repeat (first | ((with_reducible refine WL.topT ?_ ?_); omega) | ((with_reducible refine WL.topF ?_ ?_); omega) | ((with_reducible refine WL.top64 ?_ ?_); omega) | refine WC.seq ?_ | refine WC.block ?_ | refine WC.region ?_ | refine WL.nil ?_ | refine WC.skip ?_ | refine WC.exit ?_ | refine WC.ret ?_ | refine WQ.then rfl ?_ | refine WQ.thenExit ?_ | refine WQ.thenRet ?_ | refine WQ.blk ?_ | refine WQ.blkRet ?_ | refine WQ.blkHere rfl ?_ | refine WQ.blkOther rfl ?_ | refine WL.pure rfl rfl rfl rfl ?_ | refine WL.on rfl rfl ?_ | refine WL.off rfl rfl rfl ?_ | refine WC.condTrue rfl ?_ | refine WC.condFalse rfl ?_)
  refine WL.load rfl rfl rfl rfl rfl rfl A2.doc ?_
  by_cases q4 : e1.doc = e2.doc
  rotate_left
  · repeat (first | ((with_reducible refine WL.topT ?_ ?_); omega) | ((with_reducible refine WL.topF ?_ ?_); omega) | ((with_reducible refine WL.top64 ?_ ?_); omega) | refine WC.seq ?_ | refine WC.block ?_ | refine WC.region ?_ | refine WL.nil ?_ | refine WC.skip ?_ | refine WC.exit ?_ | refine WC.ret ?_ | refine WQ.then rfl ?_ | refine WQ.thenExit ?_ | refine WQ.thenRet ?_ | refine WQ.blk ?_ | refine WQ.blkRet ?_ | refine WQ.blkHere rfl ?_ | refine WQ.blkOther rfl ?_ | refine WL.pure rfl rfl rfl rfl ?_ | refine WL.on rfl rfl ?_ | refine WL.off rfl rfl rfl ?_ | refine WC.condTrue rfl ?_ | refine WC.condFalse rfl ?_)
    exact WQ.ret1 rfl rfl (no fun e => q4 (by rw [e]))
  repeat (first | ((with_reducible refine WL.topT ?_ ?_); omega) | ((with_reducible refine WL.topF ?_ ?_); omega) | ((with_reducible refine WL.top64 ?_ ?_); omega) | refine WC.seq ?_ | refine WC.block ?_ | refine WC.region ?_ | refine WL.nil ?_ | refine WC.skip ?_ | refine WC.exit ?_ | refine WC.ret ?_ | refine WQ.then rfl ?_ | refine WQ.thenExit ?_ | refine WQ.thenRet ?_ | refine WQ.blk ?_ | refine WQ.blkRet ?_ | refine WQ.blkHere rfl ?_ | refine WQ.blkOther rfl ?_ | refine WL.pure rfl rfl rfl rfl ?_ | refine WL.on rfl rfl ?_ | refine WL.off rfl rfl rfl ?_ | refine WC.condTrue rfl ?_ | refine WC.condFalse rfl ?_)
  refine WL.load rfl rfl rfl rfl rfl rfl A1.ver ?_
  repeat (first | ((with_reducible refine WL.topT ?_ ?_); omega) | ((with_reducible refine WL.topF ?_ ?_); omega) | ((with_reducible refine WL.top64 ?_ ?_); omega) | refine WC.seq ?_ | refine WC.block ?_ | refine WC.region ?_ | refine WL.nil ?_ | refine WC.skip ?_ | refine WC.exit ?_ | refine WC.ret ?_ | refine WQ.then rfl ?_ | refine WQ.thenExit ?_ | refine WQ.thenRet ?_ | refine WQ.blk ?_ | refine WQ.blkRet ?_ | refine WQ.blkHere rfl ?_ | refine WQ.blkOther rfl ?_ | refine WL.pure rfl rfl rfl rfl ?_ | refine WL.on rfl rfl ?_ | refine WL.off rfl rfl rfl ?_ | refine WC.condTrue rfl ?_ | refine WC.condFalse rfl ?_)
  refine WL.load rfl rfl rfl rfl rfl rfl A2.ver ?_
  by_cases q5 : e1.ver = e2.ver
  rotate_left
  · repeat (first | ((with_reducible refine WL.topT ?_ ?_); omega) | ((with_reducible refine WL.topF ?_ ?_); omega) | ((with_reducible refine WL.top64 ?_ ?_); omega) | refine WC.seq ?_ | refine WC.block ?_ | refine WC.region ?_ | refine WL.nil ?_ | refine WC.skip ?_ | refine WC.exit ?_ | refine WC.ret ?_ | refine WQ.then rfl ?_ | refine WQ.thenExit ?_ | refine WQ.thenRet ?_ | refine WQ.blk ?_ | refine WQ.blkRet ?_ | refine WQ.blkHere rfl ?_ | refine WQ.blkOther rfl ?_ | refine WL.pure rfl rfl rfl rfl ?_ | refine WL.on rfl rfl ?_ | refine WL.off rfl rfl rfl ?_ | refine WC.condTrue rfl ?_ | refine WC.condFalse rfl ?_)
    exact WQ.ret1 rfl rfl (no fun e => q5 (by rw [e]))
  repeat (first | ((with_reducible refine WL.topT ?_ ?_); omega) | ((with_reducible refine WL.topF ?_ ?_); omega) | ((with_reducible refine WL.top64 ?_ ?_); omega) | refine WC.seq ?_ | refine WC.block ?_ | refine WC.region ?_ | refine WL.nil ?_ | refine WC.skip ?_ | refine WC.exit ?_ | refine WC.ret ?_ | refine WQ.then rfl ?_ | refine WQ.thenExit ?_ | refine WQ.thenRet ?_ | refine WQ.blk ?_ | refine WQ.blkRet ?_ | refine WQ.blkHere rfl ?_ | refine WQ.blkOther rfl ?_ | refine WL.pure rfl rfl rfl rfl ?_ | refine WL.on rfl rfl ?_ | refine WL.off rfl rfl rfl ?_ | refine WC.condTrue rfl ?_ | refine WC.condFalse rfl ?_)
  refine WL.loadMid rfl rfl rfl rfl rfl rfl A1.hash (by simp [hh1]) ?_
  repeat (first | ((with_reducible refine WL.topT ?_ ?_); omega) | ((with_reducible refine WL.topF ?_ ?_); omega) | ((with_reducible refine WL.top64 ?_ ?_); omega) | refine WC.seq ?_ | refine WC.block ?_ | refine WC.region ?_ | refine WL.nil ?_ | refine WC.skip ?_ | refine WC.exit ?_ | refine WC.ret ?_ | refine WQ.then rfl ?_ | refine WQ.thenExit ?_ | refine WQ.thenRet ?_ | refine WQ.blk ?_ | refine WQ.blkRet ?_ | refine WQ.blkHere rfl ?_ | refine WQ.blkOther rfl ?_ | refine WL.pure rfl rfl rfl rfl ?_ | refine WL.on rfl rfl ?_ | refine WL.off rfl rfl rfl ?_ | refine WC.condTrue rfl ?_ | refine WC.condFalse rfl ?_)
  refine WL.loadMid rfl rfl rfl rfl rfl rfl A2.hash (by simp [hh2]) ?_
  refine WL.on rfl rfl ?_
  refine WL.eqlH rfl rfl rfl rfl rfl rfl hh1 hh2 ?_
  by_cases q6 : e1.hash = e2.hash
  rotate_left
  · refine WL.as 43 (.bool false) rfl (congrArg Value.bool (decide_eq_false q6)) ?_
    repeat (first | ((with_reducible refine WL.topT ?_ ?_); omega) | ((with_reducible refine WL.topF ?_ ?_); omega) | ((with_reducible refine WL.top64 ?_ ?_); omega) | refine WC.seq ?_ | refine WC.block ?_ | refine WC.region ?_ | refine WL.nil ?_ | refine WC.skip ?_ | refine WC.exit ?_ | refine WC.ret ?_ | refine WQ.then rfl ?_ | refine WQ.thenExit ?_ | refine WQ.thenRet ?_ | refine WQ.blk ?_ | refine WQ.blkRet ?_ | refine WQ.blkHere rfl ?_ | refine WQ.blkOther rfl ?_ | refine WL.pure rfl rfl rfl rfl ?_ | refine WL.on rfl rfl ?_ | refine WL.off rfl rfl rfl ?_ | refine WC.condTrue rfl ?_ | refine WC.condFalse rfl ?_)
    exact WQ.ret1 rfl rfl (no fun e => q6 (by rw [e]))
  refine WL.as 43 (.bool true) rfl (congrArg Value.bool (decide_eq_true q6)) ?_
  repeat (first | ((with_reducible refine WL.topT ?_ ?_); omega) | ((with_reducible refine WL.topF ?_ ?_); omega) | ((with_reducible refine WL.top64 ?_ ?_); omega) | refine WC.seq ?_ | refine WC.block ?_ | refine WC.region ?_ | refine WL.nil ?_ | refine WC.skip ?_ | refine WC.exit ?_ | refine WC.ret ?_ | refine WQ.then rfl ?_ | refine WQ.thenExit ?_ | refine WQ.thenRet ?_ | refine WQ.blk ?_ | refine WQ.blkRet ?_ | refine WQ.blkHere rfl ?_ | refine WQ.blkOther rfl ?_ | refine WL.pure rfl rfl rfl rfl ?_ | refine WL.on rfl rfl ?_ | refine WL.off rfl rfl rfl ?_ | refine WC.condTrue rfl ?_ | refine WC.condFalse rfl ?_)
  refine WL.load rfl rfl rfl rfl rfl rfl A1.gone ?_
  repeat (first | ((with_reducible refine WL.topT ?_ ?_); omega) | ((with_reducible refine WL.topF ?_ ?_); omega) | ((with_reducible refine WL.top64 ?_ ?_); omega) | refine WC.seq ?_ | refine WC.block ?_ | refine WC.region ?_ | refine WL.nil ?_ | refine WC.skip ?_ | refine WC.exit ?_ | refine WC.ret ?_ | refine WQ.then rfl ?_ | refine WQ.thenExit ?_ | refine WQ.thenRet ?_ | refine WQ.blk ?_ | refine WQ.blkRet ?_ | refine WQ.blkHere rfl ?_ | refine WQ.blkOther rfl ?_ | refine WL.pure rfl rfl rfl rfl ?_ | refine WL.on rfl rfl ?_ | refine WL.off rfl rfl rfl ?_ | refine WC.condTrue rfl ?_ | refine WC.condFalse rfl ?_)
  refine WL.load rfl rfl rfl rfl rfl rfl A2.gone ?_
  by_cases q7 : e1.gone = e2.gone
  rotate_left
  · cases b1 : e1.gone <;> cases b2 : e2.gone
    · exact absurd (b1.trans b2.symm) q7
    · repeat (first | ((with_reducible refine WL.topT ?_ ?_); omega) | ((with_reducible refine WL.topF ?_ ?_); omega) | ((with_reducible refine WL.top64 ?_ ?_); omega) | refine WC.seq ?_ | refine WC.block ?_ | refine WC.region ?_ | refine WL.nil ?_ | refine WC.skip ?_ | refine WC.exit ?_ | refine WC.ret ?_ | refine WQ.then rfl ?_ | refine WQ.thenExit ?_ | refine WQ.thenRet ?_ | refine WQ.blk ?_ | refine WQ.blkRet ?_ | refine WQ.blkHere rfl ?_ | refine WQ.blkOther rfl ?_ | refine WL.pure rfl rfl rfl rfl ?_ | refine WL.on rfl rfl ?_ | refine WL.off rfl rfl rfl ?_ | refine WC.condTrue rfl ?_ | refine WC.condFalse rfl ?_)
      exact WQ.ret1 rfl rfl (no fun e => q7 (by rw [e]))
    · repeat (first | ((with_reducible refine WL.topT ?_ ?_); omega) | ((with_reducible refine WL.topF ?_ ?_); omega) | ((with_reducible refine WL.top64 ?_ ?_); omega) | refine WC.seq ?_ | refine WC.block ?_ | refine WC.region ?_ | refine WL.nil ?_ | refine WC.skip ?_ | refine WC.exit ?_ | refine WC.ret ?_ | refine WQ.then rfl ?_ | refine WQ.thenExit ?_ | refine WQ.thenRet ?_ | refine WQ.blk ?_ | refine WQ.blkRet ?_ | refine WQ.blkHere rfl ?_ | refine WQ.blkOther rfl ?_ | refine WL.pure rfl rfl rfl rfl ?_ | refine WL.on rfl rfl ?_ | refine WL.off rfl rfl rfl ?_ | refine WC.condTrue rfl ?_ | refine WC.condFalse rfl ?_)
      exact WQ.ret1 rfl rfl (no fun e => q7 (by rw [e]))
    · exact absurd (b1.trans b2.symm) q7
  have hb : ∃ b, e1.gone = b ∧ e2.gone = b := ⟨_, rfl, q7.symm⟩
  refine WL.on rfl rfl ?_
  refine WL.pureAs (.bool true) rfl rfl rfl rfl (by simp [q7]) ?_
  repeat (first | ((with_reducible refine WL.topT ?_ ?_); omega) | ((with_reducible refine WL.topF ?_ ?_); omega) | ((with_reducible refine WL.top64 ?_ ?_); omega) | refine WC.seq ?_ | refine WC.block ?_ | refine WC.region ?_ | refine WL.nil ?_ | refine WC.skip ?_ | refine WC.exit ?_ | refine WC.ret ?_ | refine WQ.then rfl ?_ | refine WQ.thenExit ?_ | refine WQ.thenRet ?_ | refine WQ.blk ?_ | refine WQ.blkRet ?_ | refine WQ.blkHere rfl ?_ | refine WQ.blkOther rfl ?_ | refine WL.pure rfl rfl rfl rfl ?_ | refine WL.on rfl rfl ?_ | refine WL.off rfl rfl rfl ?_ | refine WC.condTrue rfl ?_ | refine WC.condFalse rfl ?_)
  refine WL.loadMid rfl rfl rfl rfl rfl rfl A1.at' rfl ?_
  repeat (first | ((with_reducible refine WL.topT ?_ ?_); omega) | ((with_reducible refine WL.topF ?_ ?_); omega) | ((with_reducible refine WL.top64 ?_ ?_); omega) | refine WC.seq ?_ | refine WC.block ?_ | refine WC.region ?_ | refine WL.nil ?_ | refine WC.skip ?_ | refine WC.exit ?_ | refine WC.ret ?_ | refine WQ.then rfl ?_ | refine WQ.thenExit ?_ | refine WQ.thenRet ?_ | refine WQ.blk ?_ | refine WQ.blkRet ?_ | refine WQ.blkHere rfl ?_ | refine WQ.blkOther rfl ?_ | refine WL.pure rfl rfl rfl rfl ?_ | refine WL.on rfl rfl ?_ | refine WL.off rfl rfl rfl ?_ | refine WC.condTrue rfl ?_ | refine WC.condFalse rfl ?_)
  refine WL.loadMid rfl rfl rfl rfl rfl rfl A2.at' rfl ?_
  refine WL.on rfl rfl ?_
  refine WL.eqlA rfl rfl rfl rfl rfl rfl ?_
  by_cases q8 : e1.ab = e2.ab ∧ e1.ae = e2.ae
  rotate_left
  · refine WL.as 57 (.bool false) rfl (congrArg Value.bool (decide_eq_false q8)) ?_
    repeat (first | ((with_reducible refine WL.topT ?_ ?_); omega) | ((with_reducible refine WL.topF ?_ ?_); omega) | ((with_reducible refine WL.top64 ?_ ?_); omega) | refine WC.seq ?_ | refine WC.block ?_ | refine WC.region ?_ | refine WL.nil ?_ | refine WC.skip ?_ | refine WC.exit ?_ | refine WC.ret ?_ | refine WQ.then rfl ?_ | refine WQ.thenExit ?_ | refine WQ.thenRet ?_ | refine WQ.blk ?_ | refine WQ.blkRet ?_ | refine WQ.blkHere rfl ?_ | refine WQ.blkOther rfl ?_ | refine WL.pure rfl rfl rfl rfl ?_ | refine WL.on rfl rfl ?_ | refine WL.off rfl rfl rfl ?_ | refine WC.condTrue rfl ?_ | refine WC.condFalse rfl ?_)
    exact WQ.ret1 rfl rfl (no fun e => q8 (by rw [e]; exact ⟨rfl, rfl⟩))
  refine WL.as 57 (.bool true) rfl (congrArg Value.bool (decide_eq_true q8)) ?_
  repeat (first | ((with_reducible refine WL.topT ?_ ?_); omega) | ((with_reducible refine WL.topF ?_ ?_); omega) | ((with_reducible refine WL.top64 ?_ ?_); omega) | refine WC.seq ?_ | refine WC.block ?_ | refine WC.region ?_ | refine WL.nil ?_ | refine WC.skip ?_ | refine WC.exit ?_ | refine WC.ret ?_ | refine WQ.then rfl ?_ | refine WQ.thenExit ?_ | refine WQ.thenRet ?_ | refine WQ.blk ?_ | refine WQ.blkRet ?_ | refine WQ.blkHere rfl ?_ | refine WQ.blkOther rfl ?_ | refine WL.pure rfl rfl rfl rfl ?_ | refine WL.on rfl rfl ?_ | refine WL.off rfl rfl rfl ?_ | refine WC.condTrue rfl ?_ | refine WC.condFalse rfl ?_)
  refine WL.loadMid rfl rfl rfl rfl rfl rfl A1.data hd1 ?_
  repeat (first | ((with_reducible refine WL.topT ?_ ?_); omega) | ((with_reducible refine WL.topF ?_ ?_); omega) | ((with_reducible refine WL.top64 ?_ ?_); omega) | refine WC.seq ?_ | refine WC.block ?_ | refine WC.region ?_ | refine WL.nil ?_ | refine WC.skip ?_ | refine WC.exit ?_ | refine WC.ret ?_ | refine WQ.then rfl ?_ | refine WQ.thenExit ?_ | refine WQ.thenRet ?_ | refine WQ.blk ?_ | refine WQ.blkRet ?_ | refine WQ.blkHere rfl ?_ | refine WQ.blkOther rfl ?_ | refine WL.pure rfl rfl rfl rfl ?_ | refine WL.on rfl rfl ?_ | refine WL.off rfl rfl rfl ?_ | refine WC.condTrue rfl ?_ | refine WC.condFalse rfl ?_)
  refine WL.loadMid rfl rfl rfl rfl rfl rfl A2.data hd2 ?_
  refine WL.on rfl rfl ?_
  refine WL.call rfl rfl rfl rfl rfl Try.func53 rfl (by kernel_rfl) (equal_any f (hv1.below hw) (hv2.below hw)) ?_
  rintro _ w3 ⟨⟨b, rfl, hb⟩, hk3⟩
  refine ⟨_, rfl, ?_⟩
  repeat (first | ((with_reducible refine WL.topT ?_ ?_); omega) | ((with_reducible refine WL.topF ?_ ?_); omega) | ((with_reducible refine WL.top64 ?_ ?_); omega) | refine WC.seq ?_ | refine WC.block ?_ | refine WC.region ?_ | refine WL.nil ?_ | refine WC.skip ?_ | refine WC.exit ?_ | refine WC.ret ?_ | refine WQ.then rfl ?_ | refine WQ.thenExit ?_ | refine WQ.thenRet ?_ | refine WQ.blk ?_ | refine WQ.blkRet ?_ | refine WQ.blkHere rfl ?_ | refine WQ.blkOther rfl ?_ | refine WL.pure rfl rfl rfl rfl ?_ | refine WL.on rfl rfl ?_ | refine WL.off rfl rfl rfl ?_ | refine WC.condTrue rfl ?_ | refine WC.condFalse rfl ?_)
  refine WQ.ret1 rfl rfl ⟨⟨b, rfl, hb.trans ⟨fun h => ?_, fun e => by rw [e]⟩⟩, hw.trans (hk3.mono hw.size)⟩
  obtain ⟨a1, a2, a3, a4, a5, a6, a7, a8, a9, a10⟩ := e1
  obtain ⟨b1, b2, b3, b4, b5, b6, b7, b8, b9, b10⟩ := e2
  simp only at q1 q2 q3 q4 q5 q6 q7 q8 h
  obtain ⟨q8, q9⟩ := q8
  subst q1 q2 q3 q4 q5 q6 q7 q8 q9 h
  rfl
end K
end Go.Proofs.Ytlamdhekjlnccaa

/- Blocks (chapter 11): the law's entries and blocks. -/
namespace Go.Proofs.Ytlamdhekjlnccaa
open Go.RowKit
namespace K
theorem entries_any {f f2 : Nat} {w : World} {e1 e2 : En} {c1 c2 : List Value} (h1 : IsE f w e1 c1) (h2 : IsE f2 w e2 c2) :
    Calls Try.prog 20 #[.agg c1.toArray, .agg c2.toArray] w fun r w' => (∃ b, r = .returned (.bool b) ∧ (b = true ↔ e1 = e2)) ∧ Below w.heap.size w w' := by
  have hl1 := h1.len
  have hl2 := h2.len
  refine enter (args := [.agg c1.toArray, .agg c2.toArray]) Try.func20 rfl Try.ntmps20 rfl ?_
  repeat (first | ((with_reducible refine WL.topT ?_ ?_); omega) | ((with_reducible refine WL.topF ?_ ?_); omega) | ((with_reducible refine WL.top64 ?_ ?_); omega) | refine WC.seq ?_ | refine WC.block ?_ | refine WC.region ?_ | refine WL.nil ?_ | refine WC.skip ?_ | refine WC.exit ?_ | refine WC.ret ?_ | refine WQ.then rfl ?_ | refine WQ.thenExit ?_ | refine WQ.thenRet ?_ | refine WQ.blk ?_ | refine WQ.blkRet ?_ | refine WQ.blkHere rfl ?_ | refine WQ.blkOther rfl ?_ | refine WL.pure rfl rfl rfl rfl ?_ | refine WL.on rfl rfl ?_ | refine WL.off rfl rfl rfl ?_ | refine WC.condTrue rfl ?_ | refine WC.condFalse rfl ?_)
  refine WL.box rfl rfl rfl rfl rfl fun g1 w1 hf1 => ?_
  have hf1' : Fresh w g1 w1 49 c1 := hf1
  clear hf1
  refine WL.box rfl rfl rfl rfl rfl fun g2 w2 hf2 => ?_
  have hf2' : Fresh w1 g2 w2 49 c2 := hf2
  clear hf2
  have hw : Below w.heap.size w w2 := hf1'.below.trans (hf2'.below.mono hf1'.below.size)
  have A1 := hf1'.blk.below hf2'.below hf1'.blk.lt
  have A2 := hf2'.blk
  repeat (first | ((with_reducible refine WL.topT ?_ ?_); omega) | ((with_reducible refine WL.topF ?_ ?_); omega) | ((with_reducible refine WL.top64 ?_ ?_); omega) | refine WC.seq ?_ | refine WC.block ?_ | refine WC.region ?_ | refine WL.nil ?_ | refine WC.skip ?_ | refine WC.exit ?_ | refine WC.ret ?_ | refine WQ.then rfl ?_ | refine WQ.thenExit ?_ | refine WQ.thenRet ?_ | refine WQ.blk ?_ | refine WQ.blkRet ?_ | refine WQ.blkHere rfl ?_ | refine WQ.blkOther rfl ?_ | refine WL.pure rfl rfl rfl rfl ?_ | refine WL.on rfl rfl ?_ | refine WL.off rfl rfl rfl ?_ | refine WC.condTrue rfl ?_ | refine WC.condFalse rfl ?_)
  refine WL.loadMid rfl rfl rfl rfl rfl rfl (VBlk.rangeAt A1) hl1 ?_
  refine WL.loadMid rfl rfl rfl rfl rfl rfl (VBlk.rangeAt A2) hl2 ?_
  refine WL.call rfl rfl rfl rfl rfl Try.func38 rfl (by kernel_rfl) (eqEn_any (h1.below hw) (h2.below hw)) ?_
  rintro _ w3 ⟨⟨b, rfl, hb⟩, hk3⟩
  refine ⟨_, rfl, ?_⟩
  repeat (first | ((with_reducible refine WL.topT ?_ ?_); omega) | ((with_reducible refine WL.topF ?_ ?_); omega) | ((with_reducible refine WL.top64 ?_ ?_); omega) | refine WC.seq ?_ | refine WC.block ?_ | refine WC.region ?_ | refine WL.nil ?_ | refine WC.skip ?_ | refine WC.exit ?_ | refine WC.ret ?_ | refine WQ.then rfl ?_ | refine WQ.thenExit ?_ | refine WQ.thenRet ?_ | refine WQ.blk ?_ | refine WQ.blkRet ?_ | refine WQ.blkHere rfl ?_ | refine WQ.blkOther rfl ?_ | refine WL.pure rfl rfl rfl rfl ?_ | refine WL.on rfl rfl ?_ | refine WL.off rfl rfl rfl ?_ | refine WC.condTrue rfl ?_ | refine WC.condFalse rfl ?_)
  exact WQ.ret1 rfl rfl ⟨⟨b, rfl, hb⟩, hw.trans (hk3.mono hw.size)⟩
set_option maxHeartbeats 4000000 in
theorem blocks_any {f f2 : Nat} {w : World} {x y : Bk} {c1 c2 : List Value} (h1 : IsB f w x c1) (h2 : IsB f2 w y c2) :
    Calls Try.prog 11 #[.agg c1.toArray, .agg c2.toArray] w fun r w' => (∃ b, r = .returned (.bool b) ∧ (b = true ↔ x = y)) ∧ Below w.heap.size w w' := by
  obtain ⟨s1, rfl, hE1, hp1, -, -⟩ := h1
  obtain ⟨s2, rfl, hE2, hp2, -, -⟩ := h2
  have hcb : x.ents.length ≤ 9223372036854775807 := by obtain ⟨_, c, -, h1, h2, -⟩ := hE1; omega
  obtain ⟨sp1, cap1, rfl⟩ := hE1.slice
  obtain ⟨sp2, cap2, rfl⟩ := hE2.slice
  refine enter (args := [.agg (bkC x (.slice sp1 x.ents.length cap1)).toArray, .agg (bkC y (.slice sp2 y.ents.length cap2)).toArray]) Try.func11 rfl Try.ntmps11 rfl ?_
  repeat (first | ((with_reducible refine WL.topT ?_ ?_); omega) | ((with_reducible refine WL.topF ?_ ?_); omega) | ((with_reducible refine WL.top64 ?_ ?_); omega) | refine WC.seq ?_ | refine WC.block ?_ | refine WC.region ?_ | refine WL.nil ?_ | refine WC.skip ?_ | refine WC.exit ?_ | refine WC.ret ?_ | refine WQ.then rfl ?_ | refine WQ.thenExit ?_ | refine WQ.thenRet ?_ | refine WQ.blk ?_ | refine WQ.blkRet ?_ | refine WQ.blkHere rfl ?_ | refine WQ.blkOther rfl ?_ | refine WL.pure rfl rfl rfl rfl ?_ | refine WL.on rfl rfl ?_ | refine WL.off rfl rfl rfl ?_ | refine WC.condTrue rfl ?_ | refine WC.condFalse rfl ?_)
  refine WL.box rfl rfl rfl rfl rfl fun g1 w1 hf1 => ?_
  have hf1' : Fresh w g1 w1 26 (bkC x (.slice sp1 x.ents.length cap1)) := hf1
  clear hf1
  refine WL.box rfl rfl rfl rfl rfl fun g2 w2 hf2 => ?_
  have hf2' : Fresh w1 g2 w2 26 (bkC y (.slice sp2 y.ents.length cap2)) := hf2
  clear hf2
  have hb2 : Below w.heap.size w w2 := hf1'.below.trans (hf2'.below.mono hf1'.below.size)
  have hz2 := hb2.size
  have B1 : BkAt 26 g1 w2 x (.slice sp1 x.ents.length cap1) := ⟨hf1'.blk.below hf2'.below hf1'.blk.lt, hp1⟩
  have B2 : BkAt 26 g2 w2 y (.slice sp2 y.ents.length cap2) := ⟨hf2'.blk, hp2⟩
  clear hf1' hf2'
  have no : ∀ {wx : World}, Below w.heap.size w wx → ¬ x = y → (∃ b, Ending.returned (Value.bool false) = .returned (.bool b) ∧ (b = true ↔ x = y)) ∧ Below w.heap.size w wx := fun h1 h2 => ⟨⟨false, rfl, by simp [h2]⟩, h1⟩
  repeat (first | ((with_reducible refine WL.topT ?_ ?_); omega) | ((with_reducible refine WL.topF ?_ ?_); omega) | ((with_reducible refine WL.top64 ?_ ?_); omega) | refine WC.seq ?_ | refine WC.block ?_ | refine WC.region ?_ | refine WL.nil ?_ | refine WC.skip ?_ | refine WC.exit ?_ | refine WC.ret ?_ | refine WQ.then rfl ?_ | refine WQ.thenExit ?_ | refine WQ.thenRet ?_ | refine WQ.blk ?_ | refine WQ.blkRet ?_ | refine WQ.blkHere rfl ?_ | refine WQ.blkOther rfl ?_ | refine WL.pure rfl rfl rfl rfl ?_ | refine WL.on rfl rfl ?_ | refine WL.off rfl rfl rfl ?_ | refine WC.condTrue rfl ?_ | refine WC.condFalse rfl ?_)
  refine WL.load rfl rfl rfl rfl rfl rfl B1.index ?_
  repeat (first | ((with_reducible refine WL.topT ?_ ?_); omega) | ((with_reducible refine WL.topF ?_ ?_); omega) | ((with_reducible refine WL.top64 ?_ ?_); omega) | refine WC.seq ?_ | refine WC.block ?_ | refine WC.region ?_ | refine WL.nil ?_ | refine WC.skip ?_ | refine WC.exit ?_ | refine WC.ret ?_ | refine WQ.then rfl ?_ | refine WQ.thenExit ?_ | refine WQ.thenRet ?_ | refine WQ.blk ?_ | refine WQ.blkRet ?_ | refine WQ.blkHere rfl ?_ | refine WQ.blkOther rfl ?_ | refine WL.pure rfl rfl rfl rfl ?_ | refine WL.on rfl rfl ?_ | refine WL.off rfl rfl rfl ?_ | refine WC.condTrue rfl ?_ | refine WC.condFalse rfl ?_)
  refine WL.load rfl rfl rfl rfl rfl rfl B2.index ?_
  by_cases q1 : x.index = y.index
  rotate_left
  · repeat (first | ((with_reducible refine WL.topT ?_ ?_); omega) | ((with_reducible refine WL.topF ?_ ?_); omega) | ((with_reducible refine WL.top64 ?_ ?_); omega) | refine WC.seq ?_ | refine WC.block ?_ | refine WC.region ?_ | refine WL.nil ?_ | refine WC.skip ?_ | refine WC.exit ?_ | refine WC.ret ?_ | refine WQ.then rfl ?_ | refine WQ.thenExit ?_ | refine WQ.thenRet ?_ | refine WQ.blk ?_ | refine WQ.blkRet ?_ | refine WQ.blkHere rfl ?_ | refine WQ.blkOther rfl ?_ | refine WL.pure rfl rfl rfl rfl ?_ | refine WL.on rfl rfl ?_ | refine WL.off rfl rfl rfl ?_ | refine WC.condTrue rfl ?_ | refine WC.condFalse rfl ?_)
    exact WQ.ret1 rfl rfl (no hb2 fun e => q1 (by rw [e]))
  repeat (first | ((with_reducible refine WL.topT ?_ ?_); omega) | ((with_reducible refine WL.topF ?_ ?_); omega) | ((with_reducible refine WL.top64 ?_ ?_); omega) | refine WC.seq ?_ | refine WC.block ?_ | refine WC.region ?_ | refine WL.nil ?_ | refine WC.skip ?_ | refine WC.exit ?_ | refine WC.ret ?_ | refine WQ.then rfl ?_ | refine WQ.thenExit ?_ | refine WQ.thenRet ?_ | refine WQ.blk ?_ | refine WQ.blkRet ?_ | refine WQ.blkHere rfl ?_ | refine WQ.blkOther rfl ?_ | refine WL.pure rfl rfl rfl rfl ?_ | refine WL.on rfl rfl ?_ | refine WL.off rfl rfl rfl ?_ | refine WC.condTrue rfl ?_ | refine WC.condFalse rfl ?_)
  refine WL.load rfl rfl rfl rfl rfl rfl B1.time ?_
  repeat (first | ((with_reducible refine WL.topT ?_ ?_); omega) | ((with_reducible refine WL.topF ?_ ?_); omega) | ((with_reducible refine WL.top64 ?_ ?_); omega) | refine WC.seq ?_ | refine WC.block ?_ | refine WC.region ?_ | refine WL.nil ?_ | refine WC.skip ?_ | refine WC.exit ?_ | refine WC.ret ?_ | refine WQ.then rfl ?_ | refine WQ.thenExit ?_ | refine WQ.thenRet ?_ | refine WQ.blk ?_ | refine WQ.blkRet ?_ | refine WQ.blkHere rfl ?_ | refine WQ.blkOther rfl ?_ | refine WL.pure rfl rfl rfl rfl ?_ | refine WL.on rfl rfl ?_ | refine WL.off rfl rfl rfl ?_ | refine WC.condTrue rfl ?_ | refine WC.condFalse rfl ?_)
  refine WL.load rfl rfl rfl rfl rfl rfl B2.time ?_
  by_cases q2 : x.time = y.time
  rotate_left
  · repeat (first | ((with_reducible refine WL.topT ?_ ?_); omega) | ((with_reducible refine WL.topF ?_ ?_); omega) | ((with_reducible refine WL.top64 ?_ ?_); omega) | refine WC.seq ?_ | refine WC.block ?_ | refine WC.region ?_ | refine WL.nil ?_ | refine WC.skip ?_ | refine WC.exit ?_ | refine WC.ret ?_ | refine WQ.then rfl ?_ | refine WQ.thenExit ?_ | refine WQ.thenRet ?_ | refine WQ.blk ?_ | refine WQ.blkRet ?_ | refine WQ.blkHere rfl ?_ | refine WQ.blkOther rfl ?_ | refine WL.pure rfl rfl rfl rfl ?_ | refine WL.on rfl rfl ?_ | refine WL.off rfl rfl rfl ?_ | refine WC.condTrue rfl ?_ | refine WC.condFalse rfl ?_)
    exact WQ.ret1 rfl rfl (no hb2 fun e => q2 (by rw [e]))
  repeat (first | ((with_reducible refine WL.topT ?_ ?_); omega) | ((with_reducible refine WL.topF ?_ ?_); omega) | ((with_reducible refine WL.top64 ?_ ?_); omega) | refine WC.seq ?_ | refine WC.block ?_ | refine WC.region ?_ | refine WL.nil ?_ | refine WC.skip ?_ | refine WC.exit ?_ | refine WC.ret ?_ | refine WQ.then rfl ?_ | refine WQ.thenExit ?_ | refine WQ.thenRet ?_ | refine WQ.blk ?_ | refine WQ.blkRet ?_ | refine WQ.blkHere rfl ?_ | refine WQ.blkOther rfl ?_ | refine WL.pure rfl rfl rfl rfl ?_ | refine WL.on rfl rfl ?_ | refine WL.off rfl rfl rfl ?_ | refine WC.condTrue rfl ?_ | refine WC.condFalse rfl ?_)
  refine WL.load rfl rfl rfl rfl rfl rfl B1.txn ?_
  repeat (first | ((with_reducible refine WL.topT ?_ ?_); omega) | ((with_reducible refine WL.topF ?_ ?_); omega) | ((with_reducible refine WL.top64 ?_ ?_); omega) | refine WC.seq ?_ | refine WC.block ?_ | refine WC.region ?_ | refine WL.nil ?_ | refine WC.skip ?_ | refine WC.exit ?_ | refine WC.ret ?_ | refine WQ.then rfl ?_ | refine WQ.thenExit ?_ | refine WQ.thenRet ?_ | refine WQ.blk ?_ | refine WQ.blkRet ?_ | refine WQ.blkHere rfl ?_ | refine WQ.blkOther rfl ?_ | refine WL.pure rfl rfl rfl rfl ?_ | refine WL.on rfl rfl ?_ | refine WL.off rfl rfl rfl ?_ | refine WC.condTrue rfl ?_ | refine WC.condFalse rfl ?_)
  refine WL.load rfl rfl rfl rfl rfl rfl B2.txn ?_
  by_cases q3 : x.txn = y.txn
  rotate_left
  · repeat (first | ((with_reducible refine WL.topT ?_ ?_); omega) | ((with_reducible refine WL.topF ?_ ?_); omega) | ((with_reducible refine WL.top64 ?_ ?_); omega) | refine WC.seq ?_ | refine WC.block ?_ | refine WC.region ?_ | refine WL.nil ?_ | refine WC.skip ?_ | refine WC.exit ?_ | refine WC.ret ?_ | refine WQ.then rfl ?_ | refine WQ.thenExit ?_ | refine WQ.thenRet ?_ | refine WQ.blk ?_ | refine WQ.blkRet ?_ | refine WQ.blkHere rfl ?_ | refine WQ.blkOther rfl ?_ | refine WL.pure rfl rfl rfl rfl ?_ | refine WL.on rfl rfl ?_ | refine WL.off rfl rfl rfl ?_ | refine WC.condTrue rfl ?_ | refine WC.condFalse rfl ?_)
    exact WQ.ret1 rfl rfl (no hb2 fun e => q3 (by rw [e]))
  repeat (first | ((with_reducible refine WL.topT ?_ ?_); omega) | ((with_reducible refine WL.topF ?_ ?_); omega) | ((with_reducible refine WL.top64 ?_ ?_); omega) | refine WC.seq ?_ | refine WC.block ?_ | refine WC.region ?_ | refine WL.nil ?_ | refine WC.skip ?_ | refine WC.exit ?_ | refine WC.ret ?_ | refine WQ.then rfl ?_ | refine WQ.thenExit ?_ | refine WQ.thenRet ?_ | refine WQ.blk ?_ | refine WQ.blkRet ?_ | refine WQ.blkHere rfl ?_ | refine WQ.blkOther rfl ?_ | refine WL.pure rfl rfl rfl rfl ?_ | refine WL.on rfl rfl ?_ | refine WL.off rfl rfl rfl ?_ | refine WC.condTrue rfl ?_ | refine WC.condFalse rfl ?_)
  refine WL.loadMid rfl rfl rfl rfl rfl rfl B1.prev (by simp [hp1]) ?_
  repeat (first | ((with_reducible refine WL.topT ?_ ?_); omega) | ((with_reducible refine WL.topF ?_ ?_); omega) | ((with_reducible refine WL.top64 ?_ ?_); omega) | refine WC.seq ?_ | refine WC.block ?_ | refine WC.region ?_ | refine WL.nil ?_ | refine WC.skip ?_ | refine WC.exit ?_ | refine WC.ret ?_ | refine WQ.then rfl ?_ | refine WQ.thenExit ?_ | refine WQ.thenRet ?_ | refine WQ.blk ?_ | refine WQ.blkRet ?_ | refine WQ.blkHere rfl ?_ | refine WQ.blkOther rfl ?_ | refine WL.pure rfl rfl rfl rfl ?_ | refine WL.on rfl rfl ?_ | refine WL.off rfl rfl rfl ?_ | refine WC.condTrue rfl ?_ | refine WC.condFalse rfl ?_)
  refine WL.loadMid rfl rfl rfl rfl rfl rfl B2.prev (by simp [hp2]) ?_
  refine WL.on rfl rfl ?_
  refine WL.neqH rfl rfl rfl rfl rfl rfl hp1 hp2 ?_
  by_cases q4 : x.prev = y.prev
  rotate_left
  · refine WL.as 30 (.bool true) rfl (by simp [q4]) ?_
    repeat (first | ((with_reducible refine WL.topT ?_ ?_); omega) | ((with_reducible refine WL.topF ?_ ?_); omega) | ((with_reducible refine WL.top64 ?_ ?_); omega) | refine WC.seq ?_ | refine WC.block ?_ | refine WC.region ?_ | refine WL.nil ?_ | refine WC.skip ?_ | refine WC.exit ?_ | refine WC.ret ?_ | refine WQ.then rfl ?_ | refine WQ.thenExit ?_ | refine WQ.thenRet ?_ | refine WQ.blk ?_ | refine WQ.blkRet ?_ | refine WQ.blkHere rfl ?_ | refine WQ.blkOther rfl ?_ | refine WL.pure rfl rfl rfl rfl ?_ | refine WL.on rfl rfl ?_ | refine WL.off rfl rfl rfl ?_ | refine WC.condTrue rfl ?_ | refine WC.condFalse rfl ?_)
    exact WQ.ret1 rfl rfl (no hb2 fun e => q4 (by rw [e]))
  refine WL.as 30 (.bool false) rfl (by simp [q4]) ?_
  repeat (first | ((with_reducible refine WL.topT ?_ ?_); omega) | ((with_reducible refine WL.topF ?_ ?_); omega) | ((with_reducible refine WL.top64 ?_ ?_); omega) | refine WC.seq ?_ | refine WC.block ?_ | refine WC.region ?_ | refine WL.nil ?_ | refine WC.skip ?_ | refine WC.exit ?_ | refine WC.ret ?_ | refine WQ.then rfl ?_ | refine WQ.thenExit ?_ | refine WQ.thenRet ?_ | refine WQ.blk ?_ | refine WQ.blkRet ?_ | refine WQ.blkHere rfl ?_ | refine WQ.blkOther rfl ?_ | refine WL.pure rfl rfl rfl rfl ?_ | refine WL.on rfl rfl ?_ | refine WL.off rfl rfl rfl ?_ | refine WC.condTrue rfl ?_ | refine WC.condFalse rfl ?_)
  refine WL.load rfl rfl rfl rfl rfl rfl B1.ents ?_
  repeat (first | ((with_reducible refine WL.topT ?_ ?_); omega) | ((with_reducible refine WL.topF ?_ ?_); omega) | ((with_reducible refine WL.top64 ?_ ?_); omega) | refine WC.seq ?_ | refine WC.block ?_ | refine WC.region ?_ | refine WL.nil ?_ | refine WC.skip ?_ | refine WC.exit ?_ | refine WC.ret ?_ | refine WQ.then rfl ?_ | refine WQ.thenExit ?_ | refine WQ.thenRet ?_ | refine WQ.blk ?_ | refine WQ.blkRet ?_ | refine WQ.blkHere rfl ?_ | refine WQ.blkOther rfl ?_ | refine WL.pure rfl rfl rfl rfl ?_ | refine WL.on rfl rfl ?_ | refine WL.off rfl rfl rfl ?_ | refine WC.condTrue rfl ?_ | refine WC.condFalse rfl ?_)
  refine WL.load rfl rfl rfl rfl rfl rfl B2.ents ?_
  by_cases q5 : x.ents.length = y.ents.length
  rotate_left
  · repeat (first | ((with_reducible refine WL.topT ?_ ?_); omega) | ((with_reducible refine WL.topF ?_ ?_); omega) | ((with_reducible refine WL.top64 ?_ ?_); omega) | refine WC.seq ?_ | refine WC.block ?_ | refine WC.region ?_ | refine WL.nil ?_ | refine WC.skip ?_ | refine WC.exit ?_ | refine WC.ret ?_ | refine WQ.then rfl ?_ | refine WQ.thenExit ?_ | refine WQ.thenRet ?_ | refine WQ.blk ?_ | refine WQ.blkRet ?_ | refine WQ.blkHere rfl ?_ | refine WQ.blkOther rfl ?_ | refine WL.pure rfl rfl rfl rfl ?_ | refine WL.on rfl rfl ?_ | refine WL.off rfl rfl rfl ?_ | refine WC.condTrue rfl ?_ | refine WC.condFalse rfl ?_)
    exact WQ.ret1 rfl rfl (no hb2 fun e => q5 (by rw [e]))
  repeat (first | ((with_reducible refine WL.topT ?_ ?_); omega) | ((with_reducible refine WL.topF ?_ ?_); omega) | ((with_reducible refine WL.top64 ?_ ?_); omega) | refine WC.seq ?_ | refine WC.block ?_ | refine WC.region ?_ | refine WL.nil ?_ | refine WC.skip ?_ | refine WC.exit ?_ | refine WC.ret ?_ | refine WQ.then rfl ?_ | refine WQ.thenExit ?_ | refine WQ.thenRet ?_ | refine WQ.blk ?_ | refine WQ.blkRet ?_ | refine WQ.blkHere rfl ?_ | refine WQ.blkOther rfl ?_ | refine WL.pure rfl rfl rfl rfl ?_ | refine WL.on rfl rfl ?_ | refine WL.off rfl rfl rfl ?_ | refine WC.condTrue rfl ?_ | refine WC.condFalse rfl ?_)
  refine WC.loop (fun i : Nat => [(2, .pointer (some ⟨g1, 0, none⟩)), (3, .pointer (some ⟨g2, 0, none⟩)), (5, .int .i64 i)]) (fun i wx => i ≤ x.ents.length ∧ x.ents.take i = y.ents.take i ∧ Below w2.heap.size w2 wx) (fun i => x.ents.length - i) 0 ⟨rfl, rfl, rfl, trivial⟩ ⟨Nat.zero_le _, by simp, Below.refl _ _⟩ ?_
  rintro i wr ⟨hi, ht, hbr⟩
  have R1 := B1.below hbr
  have R2 := B2.below hbr
  repeat (first | ((with_reducible refine WL.topT ?_ ?_); omega) | ((with_reducible refine WL.topF ?_ ?_); omega) | ((with_reducible refine WL.top64 ?_ ?_); omega) | refine WC.seq ?_ | refine WC.block ?_ | refine WC.region ?_ | refine WL.nil ?_ | refine WC.skip ?_ | refine WC.exit ?_ | refine WC.ret ?_ | refine WQ.then rfl ?_ | refine WQ.thenExit ?_ | refine WQ.thenRet ?_ | refine WQ.blk ?_ | refine WQ.blkRet ?_ | refine WQ.blkHere rfl ?_ | refine WQ.blkOther rfl ?_ | refine WL.pure rfl rfl rfl rfl ?_ | refine WL.on rfl rfl ?_ | refine WL.off rfl rfl rfl ?_ | refine WC.condTrue rfl ?_ | refine WC.condFalse rfl ?_)
  refine WL.load rfl rfl rfl rfl rfl rfl R1.ents ?_
  by_cases hik : i < x.ents.length
  rotate_left
  · obtain rfl : i = x.ents.length := by omega
    repeat (first | ((with_reducible refine WL.topT ?_ ?_); omega) | ((with_reducible refine WL.topF ?_ ?_); omega) | ((with_reducible refine WL.top64 ?_ ?_); omega) | refine WC.seq ?_ | refine WC.block ?_ | refine WC.region ?_ | refine WL.nil ?_ | refine WC.skip ?_ | refine WC.exit ?_ | refine WC.ret ?_ | refine WQ.then rfl ?_ | refine WQ.thenExit ?_ | refine WQ.thenRet ?_ | refine WQ.blk ?_ | refine WQ.blkRet ?_ | refine WQ.blkHere rfl ?_ | refine WQ.blkOther rfl ?_ | refine WL.pure rfl rfl rfl rfl ?_ | refine WL.on rfl rfl ?_ | refine WL.off rfl rfl rfl ?_ | refine WC.condTrue rfl ?_ | refine WC.condFalse rfl ?_)
    refine WQ.ret1 rfl rfl ⟨⟨true, rfl, ⟨fun _ => ?_, fun _ => rfl⟩⟩, hb2.trans (hbr.mono hz2)⟩
    rw [List.take_length, q5, List.take_length] at ht
    obtain ⟨a1, a2, a3, a4, a5⟩ := x
    obtain ⟨b1, b2, b3, b4, b5⟩ := y
    simp only at q1 q2 q3 q4 ht
    subst q1 q2 q3 q4 ht
    rfl
  obtain ⟨b1, o1, cap1', cs1, hs1, hlt1, hl1, hv1, ha1⟩ := hE1.at hik
  obtain ⟨b2, o2, cap2', cs2, hs2, hlt2, hl2, hv2, ha2⟩ := hE2.at (j := i) (by omega)
  injection hs1 with hs1 _ hs1'
  injection hs2 with hs2 _ hs2'
  subst hs1; subst hs1'; subst hs2; subst hs2'
  have hbw : Below w.heap.size w wr := hb2.trans (hbr.mono hz2)
  have ha1' : ∀ {wx : World}, wx.heap = wr.heap → wx.rangeAt b1 (o1 + i * 46) cs1 := fun hx j u hu => (heap_cell hx _).trans ((hbw.cell (p := ⟨b1, o1 + i * 46 + j, none⟩) hlt1).trans (ha1 j u hu))
  have ha2' : ∀ {wx : World}, wx.heap = wr.heap → wx.rangeAt b2 (o2 + i * 46) cs2 := fun hx j u hu => (heap_cell hx _).trans ((hbw.cell (p := ⟨b2, o2 + i * 46 + j, none⟩) hlt2).trans (ha2 j u hu))
  repeat (first | ((with_reducible refine WL.topT ?_ ?_); omega) | ((with_reducible refine WL.topF ?_ ?_); omega) | ((with_reducible refine WL.top64 ?_ ?_); omega) | refine WC.seq ?_ | refine WC.block ?_ | refine WC.region ?_ | refine WL.nil ?_ | refine WC.skip ?_ | refine WC.exit ?_ | refine WC.ret ?_ | refine WQ.then rfl ?_ | refine WQ.thenExit ?_ | refine WQ.thenRet ?_ | refine WQ.blk ?_ | refine WQ.blkRet ?_ | refine WQ.blkHere rfl ?_ | refine WQ.blkOther rfl ?_ | refine WL.pure rfl rfl rfl rfl ?_ | refine WL.on rfl rfl ?_ | refine WL.off rfl rfl rfl ?_ | refine WC.condTrue rfl ?_ | refine WC.condFalse rfl ?_)
  refine WC.drawn 10 (fun wx => wx.heap = wr.heap) fun w3 hd => ?_
  have hS : w3.heap = wr.heap := hd.heap
  have hb3 : Below w2.heap.size w2 w3 := hbr.trans (hd.below _)
  (((first | refine WD.free 0 rfl (by kernel_rfl) rfl rfl (fun _ _ _ _ _ h => h) rfl rfl (.inr hS) ?_ | refine WD.skip 0 rfl (by kernel_rfl) rfl rfl (fun _ _ _ _ _ h => h) rfl (.inr hS) ?_); try (first | ((with_reducible refine WD.topT ?_ ?_); omega) | ((with_reducible refine WD.topF ?_ ?_); omega) | ((with_reducible refine WD.top64 ?_ ?_); omega))))
  refine WD.load 1 [3, 4, 10, 11] rfl (by kernel_rfl) rfl rfl (fun _ _ _ _ _ h => h) rfl rfl rfl rfl (fun wx hx => (heap_cell hx _).trans R1.ents) hS ?_
  (((first | refine WD.free 2 rfl (by kernel_rfl) rfl rfl (fun _ _ _ _ _ h => h) rfl rfl (.inr hS) ?_ | refine WD.skip 2 rfl (by kernel_rfl) rfl rfl (fun _ _ _ _ _ h => h) rfl (.inr hS) ?_); try (first | ((with_reducible refine WD.topT ?_ ?_); omega) | ((with_reducible refine WD.topF ?_ ?_); omega) | ((with_reducible refine WD.top64 ?_ ?_); omega))))
  refine WD.idx 3 i (o1 + i * 46) rfl (by kernel_rfl) rfl rfl (fun _ _ _ _ _ h => h) rfl rfl rfl rfl rfl rfl hik rfl (.inr hS) ?_
  refine WD.loadMid 4 [10, 11] rfl (by kernel_rfl) rfl rfl (fun _ _ _ _ _ h => h) rfl rfl rfl rfl (fun wx hx => ha1' hx) hl1 hS ?_
  (((first | refine WD.free 5 rfl (by kernel_rfl) rfl rfl (fun _ _ _ _ _ h => h) rfl rfl (.inr hS) ?_ | refine WD.skip 5 rfl (by kernel_rfl) rfl rfl (fun _ _ _ _ _ h => h) rfl (.inr hS) ?_); try (first | ((with_reducible refine WD.topT ?_ ?_); omega) | ((with_reducible refine WD.topF ?_ ?_); omega) | ((with_reducible refine WD.top64 ?_ ?_); omega))))
  refine WD.load 6 [8, 9, 10, 11] rfl (by kernel_rfl) rfl rfl (fun _ _ _ _ _ h => h) rfl rfl rfl rfl (fun wx hx => (heap_cell hx _).trans R2.ents) hS ?_
  (((first | refine WD.free 7 rfl (by kernel_rfl) rfl rfl (fun _ _ _ _ _ h => h) rfl rfl (.inr hS) ?_ | refine WD.skip 7 rfl (by kernel_rfl) rfl rfl (fun _ _ _ _ _ h => h) rfl (.inr hS) ?_); try (first | ((with_reducible refine WD.topT ?_ ?_); omega) | ((with_reducible refine WD.topF ?_ ?_); omega) | ((with_reducible refine WD.top64 ?_ ?_); omega))))
  refine WD.idx 8 i (o2 + i * 46) rfl (by kernel_rfl) rfl rfl (fun _ _ _ _ _ h => h) rfl rfl rfl rfl rfl rfl (by omega) rfl (.inr hS) ?_
  refine WD.loadMid 9 [10, 11] rfl (by kernel_rfl) rfl rfl (fun _ _ _ _ _ h => h) rfl rfl rfl rfl (fun wx hx => ha2' hx) hl2 hS ?_
  refine WD.one 10 (by kernel_rfl) rfl ?_
  have hbw3 : Below w.heap.size w w3 := hb2.trans (hb3.mono hz2)
  refine WL.call rfl rfl rfl rfl rfl Try.func20 rfl (by kernel_rfl) (entries_any (IsE.below hbw3 hv1) (IsE.below hbw3 hv2)) ?_
  rintro _ w4 ⟨⟨b, rfl, hb⟩, hb4⟩
  refine ⟨_, rfl, ?_⟩
  have hb4' : Below w2.heap.size w2 w4 := hb3.trans (hb4.mono hb3.size)
  refine WL.nil (WQ.dk (.inl rfl) ?_)
  refine WD.one 11 (by kernel_rfl) rfl ?_
  refine WL.pure rfl rfl rfl rfl ?_
  refine WL.nil (WQ.dk (.inl rfl) ?_)
  refine WD.done (by kernel_rfl) ?_
  repeat (first | ((with_reducible refine WL.topT ?_ ?_); omega) | ((with_reducible refine WL.topF ?_ ?_); omega) | ((with_reducible refine WL.top64 ?_ ?_); omega) | refine WC.seq ?_ | refine WC.block ?_ | refine WC.region ?_ | refine WL.nil ?_ | refine WC.skip ?_ | refine WC.exit ?_ | refine WC.ret ?_ | refine WQ.then rfl ?_ | refine WQ.thenExit ?_ | refine WQ.thenRet ?_ | refine WQ.blk ?_ | refine WQ.blkRet ?_ | refine WQ.blkHere rfl ?_ | refine WQ.blkOther rfl ?_ | refine WL.pure rfl rfl rfl rfl ?_ | refine WL.on rfl rfl ?_ | refine WL.off rfl rfl rfl ?_ | refine WC.condTrue rfl ?_ | refine WC.condFalse rfl ?_)
  have hg1 : x.ents.getD i noE = x.ents[i] := by simp [hik]
  have hg2 : y.ents.getD i noE = y.ents[i] := by simp [show i < y.ents.length by omega]
  refine WC.condB rfl (fun hne => ?_) fun heq => ?_
  · repeat (first | ((with_reducible refine WL.topT ?_ ?_); omega) | ((with_reducible refine WL.topF ?_ ?_); omega) | ((with_reducible refine WL.top64 ?_ ?_); omega) | refine WC.seq ?_ | refine WC.block ?_ | refine WC.region ?_ | refine WL.nil ?_ | refine WC.skip ?_ | refine WC.exit ?_ | refine WC.ret ?_ | refine WQ.then rfl ?_ | refine WQ.thenExit ?_ | refine WQ.thenRet ?_ | refine WQ.blk ?_ | refine WQ.blkRet ?_ | refine WQ.blkHere rfl ?_ | refine WQ.blkOther rfl ?_ | refine WL.pure rfl rfl rfl rfl ?_ | refine WL.on rfl rfl ?_ | refine WL.off rfl rfl rfl ?_ | refine WC.condTrue rfl ?_ | refine WC.condFalse rfl ?_)
    refine WQ.ret1 rfl rfl (no (hb2.trans (hb4'.mono hz2)) fun e => ?_)
    have := hb.2 (by rw [e])
    simp [this] at hne
  · repeat (first | ((with_reducible refine WL.topT ?_ ?_); omega) | ((with_reducible refine WL.topF ?_ ?_); omega) | ((with_reducible refine WL.top64 ?_ ?_); omega) | refine WC.seq ?_ | refine WC.block ?_ | refine WC.region ?_ | refine WL.nil ?_ | refine WC.skip ?_ | refine WC.exit ?_ | refine WC.ret ?_ | refine WQ.then rfl ?_ | refine WQ.thenExit ?_ | refine WQ.thenRet ?_ | refine WQ.blk ?_ | refine WQ.blkRet ?_ | refine WQ.blkHere rfl ?_ | refine WQ.blkOther rfl ?_ | refine WL.pure rfl rfl rfl rfl ?_ | refine WL.on rfl rfl ?_ | refine WL.off rfl rfl rfl ?_ | refine WC.condTrue rfl ?_ | refine WC.condFalse rfl ?_)
    refine WQ.again (i + 1) ⟨rfl, rfl, rfl, trivial⟩ ⟨hik, take_snoc_eq ht hik (by omega) ?_, hb4'⟩ (by show x.ents.length - (i + 1) < x.ents.length - i; omega)
    rw [← hg1, ← hg2]
    exact hb.1 (by simpa using heq)
end K
end Go.Proofs.Ytlamdhekjlnccaa

/- How great values are: the laws' great, heavy (chapter 7). -/
namespace Go.Proofs.Ytlamdhekjlnccaa
open Go.RowKit
namespace K

set_option maxHeartbeats 4000000 in
theorem great_any : ∀ (f : Nat) {w0 w : World} {v : V} {cs : List Value} {pb n : Nat}, IsV f w0 v cs → Sml f v → Below w0.heap.size w0 w → w0.heap.size ≤ pb → VBlk 3 w pb [.int .i64 n] → n ≤ 140737488355328 →
    Calls Try.prog 14 #[.agg cs.toArray, .pointer (some ⟨pb, 0, none⟩)] w fun e w' => e = .returned (.bool (decide (3000 < grt 3000 f v n))) ∧ VBlk 3 w' pb [.int .i64 (grt 3000 f v n)] ∧ Keep (fun b => b < w.heap.size ∧ b ≠ pb) w w'
  | 0, _, _, _, _, _, _, h, _, _, _, _, _ => h.elim
  | f + 1, w0, w, v, cs, pb, n, hv, hs, hbel, hpb, hblk, hn => by
    have ih := @great_any f
    obtain ⟨sn, sk, rfl, -, -, -, htz, ⟨np, nc, rfl, nl, nc2, -, -⟩, ⟨sp, cap, rfl, hcap1, hcap2, hrow⟩⟩ := hv
    obtain ⟨hsn, hsk, hsm⟩ := hs
    have hgr : grt 3000 (f + 1) v n = grtK 3000 (grt 3000 f) v.kids (n + 1 + v.t.size / 20 + v.names.length) := rfl
    rw [hgr]
    refine enter (args := [.agg (six v (.slice np v.names.length nc) (.slice sp v.kids.length cap)).toArray, .pointer (some ⟨pb, 0, none⟩)]) Try.func14 rfl Try.ntmps14 rfl ?_
    repeat (first | ((with_reducible refine WL.topT ?_ ?_); omega) | ((with_reducible refine WL.topF ?_ ?_); omega) | ((with_reducible refine WL.top64 ?_ ?_); omega) | refine WC.seq ?_ | refine WC.block ?_ | refine WC.region ?_ | refine WL.nil ?_ | refine WC.skip ?_ | refine WC.exit ?_ | refine WC.ret ?_ | refine WQ.then rfl ?_ | refine WQ.thenExit ?_ | refine WQ.thenRet ?_ | refine WQ.blk ?_ | refine WQ.blkRet ?_ | refine WQ.blkHere rfl ?_ | refine WQ.blkOther rfl ?_ | refine WL.pure rfl rfl rfl rfl ?_ | refine WL.on rfl rfl ?_ | refine WL.off rfl rfl rfl ?_ | refine WC.condTrue rfl ?_ | refine WC.condFalse rfl ?_)
    refine WL.box rfl rfl rfl rfl rfl fun g w1 hf => ?_
    have hf' : Fresh w g w1 45 (six v (.slice np v.names.length nc) (.slice sp v.kids.length cap)) := hf
    clear hf
    have hpw := hblk.lt
    have hne : g ≠ pb := by rw [hf'.eq]; omega
    have hblk1 : VBlk 3 w1 pb [.int .i64 n] := hblk.below hf'.below hpw
    have hkeep1 : Keep (fun b => b < w.heap.size ∧ b ≠ pb) w w1 := (Keep.of_below hf'.below).mono fun _ h => h.1
    repeat (first | ((with_reducible refine WL.topT ?_ ?_); omega) | ((with_reducible refine WL.topF ?_ ?_); omega) | ((with_reducible refine WL.top64 ?_ ?_); omega) | refine WC.seq ?_ | refine WC.block ?_ | refine WC.region ?_ | refine WL.nil ?_ | refine WC.skip ?_ | refine WC.exit ?_ | refine WC.ret ?_ | refine WQ.then rfl ?_ | refine WQ.thenExit ?_ | refine WQ.thenRet ?_ | refine WQ.blk ?_ | refine WQ.blkRet ?_ | refine WQ.blkHere rfl ?_ | refine WQ.blkOther rfl ?_ | refine WL.pure rfl rfl rfl rfl ?_ | refine WL.on rfl rfl ?_ | refine WL.off rfl rfl rfl ?_ | refine WC.condTrue rfl ?_ | refine WC.condFalse rfl ?_)
    refine WC.drawn 15 (fun wx => VBlk 3 wx pb [.int .i64 n] ∧ VBlk 45 wx g (six v (.slice np v.names.length nc) (.slice sp v.kids.length cap))) fun w2 hd2 => ?_
    have hS : VBlk 3 w2 pb [.int .i64 n] ∧ VBlk 45 w2 g (six v (.slice np v.names.length nc) (.slice sp v.kids.length cap)) := ⟨hblk1.below (hd2.below _) hblk1.lt, hf'.blk.below (hd2.below _) hf'.blk.lt⟩
    (((first | refine WD.free 0 rfl (by kernel_rfl) rfl rfl (fun _ _ _ _ _ h => h) rfl rfl (.inr hS) ?_ | refine WD.skip 0 rfl (by kernel_rfl) rfl rfl (fun _ _ _ _ _ h => h) rfl (.inr hS) ?_); try (first | ((with_reducible refine WD.topT ?_ ?_); omega) | ((with_reducible refine WD.topF ?_ ?_); omega) | ((with_reducible refine WD.top64 ?_ ?_); omega))); ((first | refine WD.free 1 rfl (by kernel_rfl) rfl rfl (fun _ _ _ _ _ h => h) rfl rfl (.inr hS) ?_ | refine WD.skip 1 rfl (by kernel_rfl) rfl rfl (fun _ _ _ _ _ h => h) rfl (.inr hS) ?_); try (first | ((with_reducible refine WD.topT ?_ ?_); omega) | ((with_reducible refine WD.topF ?_ ?_); omega) | ((with_reducible refine WD.top64 ?_ ?_); omega))); ((first | refine WD.free 2 rfl (by kernel_rfl) rfl rfl (fun _ _ _ _ _ h => h) rfl rfl (.inr hS) ?_ | refine WD.skip 2 rfl (by kernel_rfl) rfl rfl (fun _ _ _ _ _ h => h) rfl (.inr hS) ?_); try (first | ((with_reducible refine WD.topT ?_ ?_); omega) | ((with_reducible refine WD.topF ?_ ?_); omega) | ((with_reducible refine WD.top64 ?_ ?_); omega))))
    refine WD.load 3 [4, 9, 13, 15] rfl (by kernel_rfl) rfl rfl (fun _ _ _ _ _ h => h) rfl rfl rfl rfl (fun wx hx => hx.1.cell 0 (by simp)) hS ?_
    (((first | refine WD.free 4 rfl (by kernel_rfl) rfl rfl (fun _ _ _ _ _ h => h) rfl rfl (.inr hS) ?_ | refine WD.skip 4 rfl (by kernel_rfl) rfl rfl (fun _ _ _ _ _ h => h) rfl (.inr hS) ?_); try (first | ((with_reducible refine WD.topT ?_ ?_); omega) | ((with_reducible refine WD.topF ?_ ?_); omega) | ((with_reducible refine WD.top64 ?_ ?_); omega))); ((first | refine WD.free 5 rfl (by kernel_rfl) rfl rfl (fun _ _ _ _ _ h => h) rfl rfl (.inr hS) ?_ | refine WD.skip 5 rfl (by kernel_rfl) rfl rfl (fun _ _ _ _ _ h => h) rfl (.inr hS) ?_); try (first | ((with_reducible refine WD.topT ?_ ?_); omega) | ((with_reducible refine WD.topF ?_ ?_); omega) | ((with_reducible refine WD.top64 ?_ ?_); omega))))
    refine WD.load 6 [7, 8, 9, 13, 15] rfl (by kernel_rfl) rfl rfl (fun _ _ _ _ _ h => h) rfl rfl rfl rfl (fun wx hx => hx.2.cell 3 (by simp)) hS ?_
    (((first | refine WD.free 7 rfl (by kernel_rfl) rfl rfl (fun _ _ _ _ _ h => h) rfl rfl (.inr hS) ?_ | refine WD.skip 7 rfl (by kernel_rfl) rfl rfl (fun _ _ _ _ _ h => h) rfl (.inr hS) ?_); try (first | ((with_reducible refine WD.topT ?_ ?_); omega) | ((with_reducible refine WD.topF ?_ ?_); omega) | ((with_reducible refine WD.top64 ?_ ?_); omega))); ((first | refine WD.free 8 rfl (by kernel_rfl) rfl rfl (fun _ _ _ _ _ h => h) rfl rfl (.inr hS) ?_ | refine WD.skip 8 rfl (by kernel_rfl) rfl rfl (fun _ _ _ _ _ h => h) rfl (.inr hS) ?_); try (first | ((with_reducible refine WD.topT ?_ ?_); omega) | ((with_reducible refine WD.topF ?_ ?_); omega) | ((with_reducible refine WD.top64 ?_ ?_); omega))); ((first | refine WD.free 9 rfl (by kernel_rfl) rfl rfl (fun _ _ _ _ _ h => h) rfl rfl (.inr hS) ?_ | refine WD.skip 9 rfl (by kernel_rfl) rfl rfl (fun _ _ _ _ _ h => h) rfl (.inr hS) ?_); try (first | ((with_reducible refine WD.topT ?_ ?_); omega) | ((with_reducible refine WD.topF ?_ ?_); omega) | ((with_reducible refine WD.top64 ?_ ?_); omega))); ((first | refine WD.free 10 rfl (by kernel_rfl) rfl rfl (fun _ _ _ _ _ h => h) rfl rfl (.inr hS) ?_ | refine WD.skip 10 rfl (by kernel_rfl) rfl rfl (fun _ _ _ _ _ h => h) rfl (.inr hS) ?_); try (first | ((with_reducible refine WD.topT ?_ ?_); omega) | ((with_reducible refine WD.topF ?_ ?_); omega) | ((with_reducible refine WD.top64 ?_ ?_); omega))))
    refine WD.load 11 [12, 13, 15] rfl (by kernel_rfl) rfl rfl (fun _ _ _ _ _ h => h) rfl rfl rfl rfl (fun wx hx => hx.2.cell 4 (by simp)) hS ?_
    (((first | refine WD.free 12 rfl (by kernel_rfl) rfl rfl (fun _ _ _ _ _ h => h) rfl rfl (.inr hS) ?_ | refine WD.skip 12 rfl (by kernel_rfl) rfl rfl (fun _ _ _ _ _ h => h) rfl (.inr hS) ?_); try (first | ((with_reducible refine WD.topT ?_ ?_); omega) | ((with_reducible refine WD.topF ?_ ?_); omega) | ((with_reducible refine WD.top64 ?_ ?_); omega))); ((first | refine WD.free 13 rfl (by kernel_rfl) rfl rfl (fun _ _ _ _ _ h => h) rfl rfl (.inr hS) ?_ | refine WD.skip 13 rfl (by kernel_rfl) rfl rfl (fun _ _ _ _ _ h => h) rfl (.inr hS) ?_); try (first | ((with_reducible refine WD.topT ?_ ?_); omega) | ((with_reducible refine WD.topF ?_ ?_); omega) | ((with_reducible refine WD.top64 ?_ ?_); omega))); ((first | refine WD.free 14 rfl (by kernel_rfl) rfl rfl (fun _ _ _ _ _ h => h) rfl rfl (.inr hS) ?_ | refine WD.skip 14 rfl (by kernel_rfl) rfl rfl (fun _ _ _ _ _ h => h) rfl (.inr hS) ?_); try (first | ((with_reducible refine WD.topT ?_ ?_); omega) | ((with_reducible refine WD.topF ?_ ?_); omega) | ((with_reducible refine WD.top64 ?_ ?_); omega))))
    refine WD.one 15 (by kernel_rfl) rfl ?_
    have e : IntKind.i64.wrap ((v.t.size : Int).tdiv 20) = ((v.t.size / 20 : Nat) : Int) := by rw [Int.tdiv_eq_ediv_of_nonneg (by omega), IntKind.wrap_i64]; omega
    have e2 : IntKind.i64.wrap (IntKind.i64.wrap ((n : Int) + 1 + IntKind.i64.wrap ((v.t.size : Int).tdiv 20)) + (v.names.length : Int)) = ((n + 1 + v.t.size / 20 + v.names.length : Nat) : Int) := by
      rw [e, show IntKind.i64.wrap ((n : Int) + 1 + ((v.t.size / 20 : Nat) : Int)) = (n : Int) + 1 + ((v.t.size / 20 : Nat) : Int) from IntWalk.i64_in _ (by omega), IntWalk.i64_in _ (by omega)]; omega
    generalize n + 1 + v.t.size / 20 + v.names.length = n1 at e2 ⊢
    refine WL.store (v := .int .i64 n1) rfl rfl rfl rfl (congrArg (fun z => some (Value.int .i64 z)) e2) rfl (by kernel_rfl) (hS.1.cell 0 (by simp)) (hS.1.free 0) ?_
    have hb2 : VBlk 3 (w2.setCell ⟨pb, 0, none⟩ (.int .i64 n1)) pb [.int .i64 n1] := hS.1.set 0 (.int .i64 n1)
    have hg2 : VBlk 45 (w2.setCell ⟨pb, 0, none⟩ (.int .i64 n1)) g (six v (.slice np v.names.length nc) (.slice sp v.kids.length cap)) := hS.2.other _ _ hne
    have hk2 : Keep (fun b => b < w.heap.size ∧ b ≠ pb) w (w2.setCell ⟨pb, 0, none⟩ (.int .i64 n1)) := (hkeep1.trans ((Keep.of_below (hd2.below w1.heap.size)).mono fun b hb => Nat.lt_of_lt_of_le hb.1 hf'.below.size)).setCell (fun h => h.2 rfl) _
    generalize w2.setCell ⟨pb, 0, none⟩ (.int .i64 n1) = w3 at hb2 hg2 hk2
    refine WL.nil (WQ.dk (.inl rfl) ?_)
    refine WD.done (by kernel_rfl) ?_
    repeat (first | ((with_reducible refine WL.topT ?_ ?_); omega) | ((with_reducible refine WL.topF ?_ ?_); omega) | ((with_reducible refine WL.top64 ?_ ?_); omega) | refine WC.seq ?_ | refine WC.block ?_ | refine WC.region ?_ | refine WL.nil ?_ | refine WC.skip ?_ | refine WC.exit ?_ | refine WC.ret ?_ | refine WQ.then rfl ?_ | refine WQ.thenExit ?_ | refine WQ.thenRet ?_ | refine WQ.blk ?_ | refine WQ.blkRet ?_ | refine WQ.blkHere rfl ?_ | refine WQ.blkOther rfl ?_ | refine WL.pure rfl rfl rfl rfl ?_ | refine WL.on rfl rfl ?_ | refine WL.off rfl rfl rfl ?_ | refine WC.condTrue rfl ?_ | refine WC.condFalse rfl ?_)
    generalize hRR : grtK 3000 (grt 3000 f) v.kids n1 = RR
    have hgw : g < w3.heap.size := hg2.lt
    refine WC.loop (fun i : Nat => [(1, .pointer (some ⟨pb, 0, none⟩)), (2, .pointer (some ⟨g, 0, none⟩)), (5, .int .i64 i)])
      (fun i w' => i ≤ v.kids.length ∧ Keep (fun b => b < w3.heap.size ∧ b ≠ pb) w3 w' ∧ ∃ x : Nat, VBlk 3 w' pb [.int .i64 x] ∧ grtK 3000 (grt 3000 f) (v.kids.drop i) x = RR) (fun i => v.kids.length - i) 0
      ⟨rfl, rfl, rfl, trivial⟩ ⟨Nat.zero_le _, Keep.refl _ _, n1, hb2, hRR⟩ ?_
    rintro i wr ⟨hi, hkr, x, hbx, hx⟩
    have hgr2 : VBlk 45 wr g (six v (.slice np v.names.length nc) (.slice sp v.kids.length cap)) := hg2.keep hkr ⟨hgw, hne⟩
    have hkw : Keep (fun b => b < w.heap.size ∧ b ≠ pb) w wr := hk2.trans (hkr.mono fun b hb => ⟨Nat.lt_of_lt_of_le hb.1 hk2.size, hb.2⟩)
    have hlast : ∀ {wz : World} {xz : Nat}, VBlk 3 wz pb [.int .i64 xz] → Keep (fun b => b < w.heap.size ∧ b ≠ pb) w wz → xz = RR → (Ending.returned (.bool (decide ((3000 : Int) < (xz : Int)))) = .returned (.bool (decide (3000 < RR))) ∧ VBlk 3 wz pb [.int .i64 (RR)] ∧ Keep (fun b => b < w.heap.size ∧ b ≠ pb) w wz) :=
      fun h1 h2 h3 => ⟨by rw [← h3]; congr 2; simp only [decide_eq_decide]; omega, by rw [← h3]; exact h1, h2⟩
    repeat (first | ((with_reducible refine WL.topT ?_ ?_); omega) | ((with_reducible refine WL.topF ?_ ?_); omega) | ((with_reducible refine WL.top64 ?_ ?_); omega) | refine WC.seq ?_ | refine WC.block ?_ | refine WC.region ?_ | refine WL.nil ?_ | refine WC.skip ?_ | refine WC.exit ?_ | refine WC.ret ?_ | refine WQ.then rfl ?_ | refine WQ.thenExit ?_ | refine WQ.thenRet ?_ | refine WQ.blk ?_ | refine WQ.blkRet ?_ | refine WQ.blkHere rfl ?_ | refine WQ.blkOther rfl ?_ | refine WL.pure rfl rfl rfl rfl ?_ | refine WL.on rfl rfl ?_ | refine WL.off rfl rfl rfl ?_ | refine WC.condTrue rfl ?_ | refine WC.condFalse rfl ?_)
    refine WL.load rfl rfl rfl rfl rfl rfl (hgr2.cell 5 (by simp)) ?_
    by_cases hik : i < v.kids.length
    · have hdr : v.kids.drop i = v.kids.getD i noV :: v.kids.drop (i + 1) := by
        rw [List.drop_eq_getElem_cons hik]
        simp [hik]
      rw [hdr] at hx
      repeat (first | ((with_reducible refine WL.topT ?_ ?_); omega) | ((with_reducible refine WL.topF ?_ ?_); omega) | ((with_reducible refine WL.top64 ?_ ?_); omega) | refine WC.seq ?_ | refine WC.block ?_ | refine WC.region ?_ | refine WL.nil ?_ | refine WC.skip ?_ | refine WC.exit ?_ | refine WC.ret ?_ | refine WQ.then rfl ?_ | refine WQ.thenExit ?_ | refine WQ.thenRet ?_ | refine WQ.blk ?_ | refine WQ.blkRet ?_ | refine WQ.blkHere rfl ?_ | refine WQ.blkOther rfl ?_ | refine WL.pure rfl rfl rfl rfl ?_ | refine WL.on rfl rfl ?_ | refine WL.off rfl rfl rfl ?_ | refine WC.condTrue rfl ?_ | refine WC.condFalse rfl ?_)
      refine WL.load rfl rfl rfl rfl rfl rfl (hbx.cell 0 (by simp)) ?_
      by_cases hx2 : x ≤ 3000
      · obtain ⟨kb, ko, rfl, hkb, hcells⟩ := hrow (by omega)
        obtain ⟨c, hc6, hci, hcr⟩ := hcells i hik
        have hbelr : Below w0.heap.size w0 wr := (hbel.trans ((hkw.mono fun b hb => ⟨Nat.lt_of_lt_of_le hb hbel.size, Nat.ne_of_lt (Nat.lt_of_lt_of_le hb hpb)⟩ : Keep (fun b => b < w0.heap.size) w wr).below))
        have hcr' : wr.rangeAt kb (ko + i * 6) c := fun j u hu => by rw [hbelr.cell (p := ⟨kb, ko + i * 6 + j, none⟩) hkb]; exact hcr j u hu
        unfold grtK at hx
        rw [if_pos hx2] at hx
        repeat (first | ((with_reducible refine WL.topT ?_ ?_); omega) | ((with_reducible refine WL.topF ?_ ?_); omega) | ((with_reducible refine WL.top64 ?_ ?_); omega) | refine WC.seq ?_ | refine WC.block ?_ | refine WC.region ?_ | refine WL.nil ?_ | refine WC.skip ?_ | refine WC.exit ?_ | refine WC.ret ?_ | refine WQ.then rfl ?_ | refine WQ.thenExit ?_ | refine WQ.thenRet ?_ | refine WQ.blk ?_ | refine WQ.blkRet ?_ | refine WQ.blkHere rfl ?_ | refine WQ.blkOther rfl ?_ | refine WL.pure rfl rfl rfl rfl ?_ | refine WL.on rfl rfl ?_ | refine WL.off rfl rfl rfl ?_ | refine WC.condTrue rfl ?_ | refine WC.condFalse rfl ?_)
        refine WL.load rfl rfl rfl rfl rfl rfl (hgr2.cell 5 (by simp)) ?_
        repeat (first | ((with_reducible refine WL.topT ?_ ?_); omega) | ((with_reducible refine WL.topF ?_ ?_); omega) | ((with_reducible refine WL.top64 ?_ ?_); omega) | refine WC.seq ?_ | refine WC.block ?_ | refine WC.region ?_ | refine WL.nil ?_ | refine WC.skip ?_ | refine WC.exit ?_ | refine WC.ret ?_ | refine WQ.then rfl ?_ | refine WQ.thenExit ?_ | refine WQ.thenRet ?_ | refine WQ.blk ?_ | refine WQ.blkRet ?_ | refine WQ.blkHere rfl ?_ | refine WQ.blkOther rfl ?_ | refine WL.pure rfl rfl rfl rfl ?_ | refine WL.on rfl rfl ?_ | refine WL.off rfl rfl rfl ?_ | refine WC.condTrue rfl ?_ | refine WC.condFalse rfl ?_)
        refine WL.idx i (ko + i * 6) rfl rfl rfl rfl rfl rfl rfl rfl hik rfl ?_
        refine WL.loadMid rfl rfl rfl rfl rfl rfl hcr' hc6 ?_
        repeat (first | ((with_reducible refine WL.topT ?_ ?_); omega) | ((with_reducible refine WL.topF ?_ ?_); omega) | ((with_reducible refine WL.top64 ?_ ?_); omega) | refine WC.seq ?_ | refine WC.block ?_ | refine WC.region ?_ | refine WL.nil ?_ | refine WC.skip ?_ | refine WC.exit ?_ | refine WC.ret ?_ | refine WQ.then rfl ?_ | refine WQ.thenExit ?_ | refine WQ.thenRet ?_ | refine WQ.blk ?_ | refine WQ.blkRet ?_ | refine WQ.blkHere rfl ?_ | refine WQ.blkOther rfl ?_ | refine WL.pure rfl rfl rfl rfl ?_ | refine WL.on rfl rfl ?_ | refine WL.off rfl rfl rfl ?_ | refine WC.condTrue rfl ?_ | refine WC.condFalse rfl ?_)
        refine WL.call rfl rfl rfl rfl rfl Try.func14 rfl (by kernel_rfl) (ih (n := x) hci (hsm _ (by rw [List.getD_eq_getElem?_getD, List.getElem?_eq_getElem hik]; exact List.getElem_mem hik)) hbelr hpb hbx (by omega)) ?_
        rintro e w4 ⟨rfl, hb4, hk4⟩
        refine ⟨_, rfl, ?_⟩
        repeat (first | ((with_reducible refine WL.topT ?_ ?_); omega) | ((with_reducible refine WL.topF ?_ ?_); omega) | ((with_reducible refine WL.top64 ?_ ?_); omega) | refine WC.seq ?_ | refine WC.block ?_ | refine WC.region ?_ | refine WL.nil ?_ | refine WC.skip ?_ | refine WC.exit ?_ | refine WC.ret ?_ | refine WQ.then rfl ?_ | refine WQ.thenExit ?_ | refine WQ.thenRet ?_ | refine WQ.blk ?_ | refine WQ.blkRet ?_ | refine WQ.blkHere rfl ?_ | refine WQ.blkOther rfl ?_ | refine WL.pure rfl rfl rfl rfl ?_ | refine WL.on rfl rfl ?_ | refine WL.off rfl rfl rfl ?_ | refine WC.condTrue rfl ?_ | refine WC.condFalse rfl ?_)
        exact WQ.again (i + 1) ⟨rfl, rfl, rfl, trivial⟩ ⟨hik, hkr.trans (hk4.mono fun b hb => ⟨Nat.lt_of_lt_of_le hb.1 hkr.size, hb.2⟩), _, hb4, hx⟩ (by show v.kids.length - (i + 1) < v.kids.length - i; omega)
      · unfold grtK at hx
        rw [if_neg hx2] at hx
        repeat (first | ((with_reducible refine WL.topT ?_ ?_); omega) | ((with_reducible refine WL.topF ?_ ?_); omega) | ((with_reducible refine WL.top64 ?_ ?_); omega) | refine WC.seq ?_ | refine WC.block ?_ | refine WC.region ?_ | refine WL.nil ?_ | refine WC.skip ?_ | refine WC.exit ?_ | refine WC.ret ?_ | refine WQ.then rfl ?_ | refine WQ.thenExit ?_ | refine WQ.thenRet ?_ | refine WQ.blk ?_ | refine WQ.blkRet ?_ | refine WQ.blkHere rfl ?_ | refine WQ.blkOther rfl ?_ | refine WL.pure rfl rfl rfl rfl ?_ | refine WL.on rfl rfl ?_ | refine WL.off rfl rfl rfl ?_ | refine WC.condTrue rfl ?_ | refine WC.condFalse rfl ?_)
        refine WL.load rfl rfl rfl rfl rfl rfl (hbx.cell 0 (by simp)) ?_
        refine WL.pure rfl rfl rfl rfl ?_
        refine WL.pure rfl rfl rfl rfl ?_
        repeat (first | ((with_reducible refine WL.topT ?_ ?_); omega) | ((with_reducible refine WL.topF ?_ ?_); omega) | ((with_reducible refine WL.top64 ?_ ?_); omega) | refine WC.seq ?_ | refine WC.block ?_ | refine WC.region ?_ | refine WL.nil ?_ | refine WC.skip ?_ | refine WC.exit ?_ | refine WC.ret ?_ | refine WQ.then rfl ?_ | refine WQ.thenExit ?_ | refine WQ.thenRet ?_ | refine WQ.blk ?_ | refine WQ.blkRet ?_ | refine WQ.blkHere rfl ?_ | refine WQ.blkOther rfl ?_ | refine WL.pure rfl rfl rfl rfl ?_ | refine WL.on rfl rfl ?_ | refine WL.off rfl rfl rfl ?_ | refine WC.condTrue rfl ?_ | refine WC.condFalse rfl ?_)
        exact WQ.ret1 rfl rfl ⟨congrArg (fun b => Ending.returned (Value.bool b)) (decide_eq_true (by omega)).symm, (hlast hbx hkw hx).2⟩
    · obtain rfl : i = v.kids.length := by omega
      rw [List.drop_length] at hx
      unfold grtK at hx
      repeat (first | ((with_reducible refine WL.topT ?_ ?_); omega) | ((with_reducible refine WL.topF ?_ ?_); omega) | ((with_reducible refine WL.top64 ?_ ?_); omega) | refine WC.seq ?_ | refine WC.block ?_ | refine WC.region ?_ | refine WL.nil ?_ | refine WC.skip ?_ | refine WC.exit ?_ | refine WC.ret ?_ | refine WQ.then rfl ?_ | refine WQ.thenExit ?_ | refine WQ.thenRet ?_ | refine WQ.blk ?_ | refine WQ.blkRet ?_ | refine WQ.blkHere rfl ?_ | refine WQ.blkOther rfl ?_ | refine WL.pure rfl rfl rfl rfl ?_ | refine WL.on rfl rfl ?_ | refine WL.off rfl rfl rfl ?_ | refine WC.condTrue rfl ?_ | refine WC.condFalse rfl ?_)
      refine WL.load rfl rfl rfl rfl rfl rfl (hbx.cell 0 (by simp)) ?_
      refine WL.pure rfl rfl rfl rfl ?_
      refine WL.pure rfl rfl rfl rfl ?_
      repeat (first | ((with_reducible refine WL.topT ?_ ?_); omega) | ((with_reducible refine WL.topF ?_ ?_); omega) | ((with_reducible refine WL.top64 ?_ ?_); omega) | refine WC.seq ?_ | refine WC.block ?_ | refine WC.region ?_ | refine WL.nil ?_ | refine WC.skip ?_ | refine WC.exit ?_ | refine WC.ret ?_ | refine WQ.then rfl ?_ | refine WQ.thenExit ?_ | refine WQ.thenRet ?_ | refine WQ.blk ?_ | refine WQ.blkRet ?_ | refine WQ.blkHere rfl ?_ | refine WQ.blkOther rfl ?_ | refine WL.pure rfl rfl rfl rfl ?_ | refine WL.on rfl rfl ?_ | refine WL.off rfl rfl rfl ?_ | refine WC.condTrue rfl ?_ | refine WC.condFalse rfl ?_)
      exact WQ.ret1 rfl rfl (hlast hbx hkw hx)
end K
end Go.Proofs.Ytlamdhekjlnccaa

/- Blocks (chapter 11): the law's heavy. -/
namespace Go.Proofs.Ytlamdhekjlnccaa
open Go.RowKit
namespace K
theorem enC_dataAt {w : World} {b o : Nat} {e : En} {dc : List Value} (hd : dc.length = 6) (h : w.rangeAt b o (enC e dc)) : w.rangeAt b (o + 5) dc := by
  intro j u hu
  have hj : j < 6 := by
    rcases Nat.lt_or_ge j dc.length with h1 | h1
    · omega
    · rw [List.getElem?_eq_none h1] at hu; cases hu
  have := h (5 + j) u (by unfold enC; rw [Nat.add_comm 5 j]; simp only [List.getElem?_cons_succ]; rw [List.getElem?_append_left (by omega)]; exact hu)
  rw [Nat.add_assoc]; exact this
set_option maxHeartbeats 4000000 in
theorem heavy_grt {f : Nat} {w : World} {b : Bk} {cs : List Value} (h : IsB f w b cs) (hs : ∀ e ∈ b.ents, Sml f e.data) :
    Calls Try.prog 6 #[.agg cs.toArray] w fun r w' => Below w.heap.size w w' ∧ ∃ b', r = .returned (.bool b') ∧ (b' = false → b.ents.length ≤ 3000 ∧ ∀ e ∈ b.ents, ∃ n, ¬ 3000 < grt 3000 f e.data n) := by
  obtain ⟨s1, rfl, hE1, hp1, -, -⟩ := h
  have hcb : b.ents.length ≤ 9223372036854775807 := by obtain ⟨_, c, -, h1, h2, -⟩ := hE1; omega
  obtain ⟨sp1, cap1, rfl⟩ := hE1.slice
  refine enter (args := [.agg (bkC b (.slice sp1 b.ents.length cap1)).toArray]) Try.func6 rfl Try.ntmps6 rfl ?_
  repeat (first | ((with_reducible refine WL.topT ?_ ?_); omega) | ((with_reducible refine WL.topF ?_ ?_); omega) | ((with_reducible refine WL.top64 ?_ ?_); omega) | refine WC.seq ?_ | refine WC.block ?_ | refine WC.region ?_ | refine WL.nil ?_ | refine WC.skip ?_ | refine WC.exit ?_ | refine WC.ret ?_ | refine WQ.then rfl ?_ | refine WQ.thenExit ?_ | refine WQ.thenRet ?_ | refine WQ.blk ?_ | refine WQ.blkRet ?_ | refine WQ.blkHere rfl ?_ | refine WQ.blkOther rfl ?_ | refine WL.pure rfl rfl rfl rfl ?_ | refine WL.on rfl rfl ?_ | refine WL.off rfl rfl rfl ?_ | refine WC.condTrue rfl ?_ | refine WC.condFalse rfl ?_)
  refine WL.box rfl rfl rfl rfl rfl fun g w1 hf1 => ?_
  have hf1' : Fresh w g w1 26 (bkC b (.slice sp1 b.ents.length cap1)) := hf1
  clear hf1
  have hg := hf1'.eq
  have hz1 := hf1'.size
  repeat (first | ((with_reducible refine WL.topT ?_ ?_); omega) | ((with_reducible refine WL.topF ?_ ?_); omega) | ((with_reducible refine WL.top64 ?_ ?_); omega) | refine WC.seq ?_ | refine WC.block ?_ | refine WC.region ?_ | refine WL.nil ?_ | refine WC.skip ?_ | refine WC.exit ?_ | refine WC.ret ?_ | refine WQ.then rfl ?_ | refine WQ.thenExit ?_ | refine WQ.thenRet ?_ | refine WQ.blk ?_ | refine WQ.blkRet ?_ | refine WQ.blkHere rfl ?_ | refine WQ.blkOther rfl ?_ | refine WL.pure rfl rfl rfl rfl ?_ | refine WL.on rfl rfl ?_ | refine WL.off rfl rfl rfl ?_ | refine WC.condTrue rfl ?_ | refine WC.condFalse rfl ?_)
  refine WL.alloc (z := .int .i64 0) rfl rfl rfl rfl (fun _ => by kernel_rfl) fun pb w2 hf2 => ?_
  have hf2' : Fresh w1 pb w2 3 [.int .i64 0] := hf2
  clear hf2
  have hpb := hf2'.eq
  have hb2 : Below w.heap.size w w2 := hf1'.below.trans (hf2'.below.mono (by omega))
  have B2 : BkAt 26 g w2 b (.slice sp1 b.ents.length cap1) := ⟨hf1'.blk.below hf2'.below hf1'.blk.lt, hp1⟩
  repeat (first | ((with_reducible refine WL.topT ?_ ?_); omega) | ((with_reducible refine WL.topF ?_ ?_); omega) | ((with_reducible refine WL.top64 ?_ ?_); omega) | refine WC.seq ?_ | refine WC.block ?_ | refine WC.region ?_ | refine WL.nil ?_ | refine WC.skip ?_ | refine WC.exit ?_ | refine WC.ret ?_ | refine WQ.then rfl ?_ | refine WQ.thenExit ?_ | refine WQ.thenRet ?_ | refine WQ.blk ?_ | refine WQ.blkRet ?_ | refine WQ.blkHere rfl ?_ | refine WQ.blkOther rfl ?_ | refine WL.pure rfl rfl rfl rfl ?_ | refine WL.on rfl rfl ?_ | refine WL.off rfl rfl rfl ?_ | refine WC.condTrue rfl ?_ | refine WC.condFalse rfl ?_)
  refine WL.store (v := .int .i64 0) rfl rfl rfl rfl rfl rfl (by kernel_rfl) (hf2'.blk.cell 0 (by simp)) (hf2'.blk.free 0) ?_
  have P3 : VBlk 3 (w2.setCell ⟨pb, 0, none⟩ (.int .i64 0)) pb [.int .i64 0] := hf2'.blk.set 0 (.int .i64 0)
  have hk3 : Keep (fun b => b < w1.heap.size) w2 (w2.setCell ⟨pb, 0, none⟩ (.int .i64 0)) := cellK _ _ _ _ _ (by omega)
  have B3 := B2.keep hk3 (by omega)
  have hb3 : Below w.heap.size w (w2.setCell ⟨pb, 0, none⟩ (.int .i64 0)) := hb2.trans (Keep.below (Keep.mono hk3 fun b hb => by have := hf2'.size; omega)) |> fun h => h
  generalize w2.setCell ⟨pb, 0, none⟩ (.int .i64 0) = w3 at P3 B3 hb3 ⊢
  clear hk3 hf1' hf2' hb2 B2
  repeat (first | ((with_reducible refine WL.topT ?_ ?_); omega) | ((with_reducible refine WL.topF ?_ ?_); omega) | ((with_reducible refine WL.top64 ?_ ?_); omega) | refine WC.seq ?_ | refine WC.block ?_ | refine WC.region ?_ | refine WL.nil ?_ | refine WC.skip ?_ | refine WC.exit ?_ | refine WC.ret ?_ | refine WQ.then rfl ?_ | refine WQ.thenExit ?_ | refine WQ.thenRet ?_ | refine WQ.blk ?_ | refine WQ.blkRet ?_ | refine WQ.blkHere rfl ?_ | refine WQ.blkOther rfl ?_ | refine WL.pure rfl rfl rfl rfl ?_ | refine WL.on rfl rfl ?_ | refine WL.off rfl rfl rfl ?_ | refine WC.condTrue rfl ?_ | refine WC.condFalse rfl ?_)
  refine WC.loop (fun i : Nat => [(1, .pointer (some ⟨g, 0, none⟩)), (3, .pointer (some ⟨pb, 0, none⟩)), (4, .int .i64 i)])
    (fun i wx => i ≤ b.ents.length ∧ BkAt 26 g wx b (.slice sp1 b.ents.length cap1) ∧ Below w.heap.size w wx ∧ (∃ x : Nat, x ≤ 3000 ∧ i ≤ x ∧ VBlk 3 wx pb [.int .i64 x]) ∧ ∀ e ∈ b.ents.take i, ∃ n, ¬ 3000 < grt 3000 f e.data n)
    (fun i => b.ents.length - i) 0 ⟨rfl, rfl, rfl, trivial⟩ ⟨Nat.zero_le _, B3, hb3, ⟨0, by omega, by omega, P3⟩, by simp⟩ ?_
  rintro i wr ⟨hi, R, hbr, ⟨x, hx, hix, P⟩, hall⟩
  repeat (first | ((with_reducible refine WL.topT ?_ ?_); omega) | ((with_reducible refine WL.topF ?_ ?_); omega) | ((with_reducible refine WL.top64 ?_ ?_); omega) | refine WC.seq ?_ | refine WC.block ?_ | refine WC.region ?_ | refine WL.nil ?_ | refine WC.skip ?_ | refine WC.exit ?_ | refine WC.ret ?_ | refine WQ.then rfl ?_ | refine WQ.thenExit ?_ | refine WQ.thenRet ?_ | refine WQ.blk ?_ | refine WQ.blkRet ?_ | refine WQ.blkHere rfl ?_ | refine WQ.blkOther rfl ?_ | refine WL.pure rfl rfl rfl rfl ?_ | refine WL.on rfl rfl ?_ | refine WL.off rfl rfl rfl ?_ | refine WC.condTrue rfl ?_ | refine WC.condFalse rfl ?_)
  refine WL.load rfl rfl rfl rfl rfl rfl R.ents ?_
  by_cases hik : i < b.ents.length
  rotate_left
  · obtain rfl : i = b.ents.length := by omega
    repeat (first | ((with_reducible refine WL.topT ?_ ?_); omega) | ((with_reducible refine WL.topF ?_ ?_); omega) | ((with_reducible refine WL.top64 ?_ ?_); omega) | refine WC.seq ?_ | refine WC.block ?_ | refine WC.region ?_ | refine WL.nil ?_ | refine WC.skip ?_ | refine WC.exit ?_ | refine WC.ret ?_ | refine WQ.then rfl ?_ | refine WQ.thenExit ?_ | refine WQ.thenRet ?_ | refine WQ.blk ?_ | refine WQ.blkRet ?_ | refine WQ.blkHere rfl ?_ | refine WQ.blkOther rfl ?_ | refine WL.pure rfl rfl rfl rfl ?_ | refine WL.on rfl rfl ?_ | refine WL.off rfl rfl rfl ?_ | refine WC.condTrue rfl ?_ | refine WC.condFalse rfl ?_)
    refine WL.load rfl rfl rfl rfl rfl rfl (P.cell 0 (by simp)) ?_
    repeat (first | ((with_reducible refine WL.topT ?_ ?_); omega) | ((with_reducible refine WL.topF ?_ ?_); omega) | ((with_reducible refine WL.top64 ?_ ?_); omega) | refine WC.seq ?_ | refine WC.block ?_ | refine WC.region ?_ | refine WL.nil ?_ | refine WC.skip ?_ | refine WC.exit ?_ | refine WC.ret ?_ | refine WQ.then rfl ?_ | refine WQ.thenExit ?_ | refine WQ.thenRet ?_ | refine WQ.blk ?_ | refine WQ.blkRet ?_ | refine WQ.blkHere rfl ?_ | refine WQ.blkOther rfl ?_ | refine WL.pure rfl rfl rfl rfl ?_ | refine WL.on rfl rfl ?_ | refine WL.off rfl rfl rfl ?_ | refine WC.condTrue rfl ?_ | refine WC.condFalse rfl ?_)
    exact WQ.ret1 rfl rfl ⟨hbr, _, rfl, fun _ => ⟨by omega, by rw [List.take_length] at hall; exact hall⟩⟩
  obtain ⟨b1, o1, cap1', cs1, hs1, hlt1, hl1, hv1, ha1⟩ := hE1.at hik
  injection hs1 with hs1 _ hs1'
  subst hs1; subst hs1'
  have hmem : b.ents.getD i noE ∈ b.ents := by simp [hik]
  have hsm := hs _ hmem
  have hts := take_snoc b.ents noE hik
  generalize b.ents.getD i noE = e at hv1 hsm hts
  obtain ⟨dc, rfl, hv, hdl, -, hh, -, htz, -⟩ := hv1
  have ha1' : ∀ {wx : World}, wx.heap = wr.heap → wx.rangeAt b1 (o1 + i * 46) (enC e dc) := fun hx j u hu => (heap_cell hx _).trans ((hbr.cell (p := ⟨b1, o1 + i * 46 + j, none⟩) hlt1).trans (ha1 j u hu))
  repeat (first | ((with_reducible refine WL.topT ?_ ?_); omega) | ((with_reducible refine WL.topF ?_ ?_); omega) | ((with_reducible refine WL.top64 ?_ ?_); omega) | refine WC.seq ?_ | refine WC.block ?_ | refine WC.region ?_ | refine WL.nil ?_ | refine WC.skip ?_ | refine WC.exit ?_ | refine WC.ret ?_ | refine WQ.then rfl ?_ | refine WQ.thenExit ?_ | refine WQ.thenRet ?_ | refine WQ.blk ?_ | refine WQ.blkRet ?_ | refine WQ.blkHere rfl ?_ | refine WQ.blkOther rfl ?_ | refine WL.pure rfl rfl rfl rfl ?_ | refine WL.on rfl rfl ?_ | refine WL.off rfl rfl rfl ?_ | refine WC.condTrue rfl ?_ | refine WC.condFalse rfl ?_)
  refine WC.drawn 11 (fun wx => wx.heap = wr.heap) fun w4 hd => ?_
  have hS : w4.heap = wr.heap := hd.heap
  refine WD.load 0 [1, 10, 11] rfl (by kernel_rfl) rfl rfl (fun _ _ _ _ _ h => h) rfl rfl rfl rfl (fun wx hx => (heap_cell hx _).trans (P.cell 0 (by simp))) hS ?_
  (((first | refine WD.free 1 rfl (by kernel_rfl) rfl rfl (fun _ _ _ _ _ h => h) rfl rfl (.inr hS) ?_ | refine WD.skip 1 rfl (by kernel_rfl) rfl rfl (fun _ _ _ _ _ h => h) rfl (.inr hS) ?_); try (first | ((with_reducible refine WD.topT ?_ ?_); omega) | ((with_reducible refine WD.topF ?_ ?_); omega) | ((with_reducible refine WD.top64 ?_ ?_); omega))); ((first | refine WD.free 2 rfl (by kernel_rfl) rfl rfl (fun _ _ _ _ _ h => h) rfl rfl (.inr hS) ?_ | refine WD.skip 2 rfl (by kernel_rfl) rfl rfl (fun _ _ _ _ _ h => h) rfl (.inr hS) ?_); try (first | ((with_reducible refine WD.topT ?_ ?_); omega) | ((with_reducible refine WD.topF ?_ ?_); omega) | ((with_reducible refine WD.top64 ?_ ?_); omega))))
  refine WD.load 3 [5, 6, 7, 8, 9, 10, 11] rfl (by kernel_rfl) rfl rfl (fun _ _ _ _ _ h => h) rfl rfl rfl rfl (fun wx hx => (heap_cell hx _).trans R.ents) hS ?_
  (((first | refine WD.free 4 rfl (by kernel_rfl) rfl rfl (fun _ _ _ _ _ h => h) rfl rfl (.inr hS) ?_ | refine WD.skip 4 rfl (by kernel_rfl) rfl rfl (fun _ _ _ _ _ h => h) rfl (.inr hS) ?_); try (first | ((with_reducible refine WD.topT ?_ ?_); omega) | ((with_reducible refine WD.topF ?_ ?_); omega) | ((with_reducible refine WD.top64 ?_ ?_); omega))))
  refine WD.idx 5 i (o1 + i * 46) rfl (by kernel_rfl) rfl rfl (fun _ _ _ _ _ h => h) rfl rfl rfl rfl rfl rfl hik rfl (.inr hS) ?_
  (((first | refine WD.free 6 rfl (by kernel_rfl) rfl rfl (fun _ _ _ _ _ h => h) rfl rfl (.inr hS) ?_ | refine WD.skip 6 rfl (by kernel_rfl) rfl rfl (fun _ _ _ _ _ h => h) rfl (.inr hS) ?_); try (first | ((with_reducible refine WD.topT ?_ ?_); omega) | ((with_reducible refine WD.topF ?_ ?_); omega) | ((with_reducible refine WD.top64 ?_ ?_); omega))))
  refine WD.load 7 [8, 9, 10, 11] rfl (by kernel_rfl) rfl rfl (fun _ _ _ _ _ h => h) rfl rfl rfl rfl (fun wx hx => ha1' hx 1 (.string e.text) rfl) hS ?_
  (((first | refine WD.free 8 rfl (by kernel_rfl) rfl rfl (fun _ _ _ _ _ h => h) rfl rfl (.inr hS) ?_ | refine WD.skip 8 rfl (by kernel_rfl) rfl rfl (fun _ _ _ _ _ h => h) rfl (.inr hS) ?_); try (first | ((with_reducible refine WD.topT ?_ ?_); omega) | ((with_reducible refine WD.topF ?_ ?_); omega) | ((with_reducible refine WD.top64 ?_ ?_); omega))); ((first | refine WD.free 9 rfl (by kernel_rfl) rfl rfl (fun _ _ _ _ _ h => h) rfl rfl (.inr hS) ?_ | refine WD.skip 9 rfl (by kernel_rfl) rfl rfl (fun _ _ _ _ _ h => h) rfl (.inr hS) ?_); try (first | ((with_reducible refine WD.topT ?_ ?_); omega) | ((with_reducible refine WD.topF ?_ ?_); omega) | ((with_reducible refine WD.top64 ?_ ?_); omega))); ((first | refine WD.free 10 rfl (by kernel_rfl) rfl rfl (fun _ _ _ _ _ h => h) rfl rfl (.inr hS) ?_ | refine WD.skip 10 rfl (by kernel_rfl) rfl rfl (fun _ _ _ _ _ h => h) rfl (.inr hS) ?_); try (first | ((with_reducible refine WD.topT ?_ ?_); omega) | ((with_reducible refine WD.topF ?_ ?_); omega) | ((with_reducible refine WD.top64 ?_ ?_); omega))))
  refine WD.one 11 (by kernel_rfl) rfl ?_
  have e1 : IntKind.i64.wrap ((e.text.size : Int).tdiv 20) = ((e.text.size / 20 : Nat) : Int) := by rw [Int.tdiv_eq_ediv_of_nonneg (by omega), IntKind.wrap_i64]; omega
  have e2 : IntKind.i64.wrap ((x : Int) + 5 + IntKind.i64.wrap ((e.text.size : Int).tdiv 20)) = ((x + 5 + e.text.size / 20 : Nat) : Int) := by
    rw [e1, IntWalk.i64_in _ (by omega)]; omega
  have hx1 : x + 5 + e.text.size / 20 ≤ 140737488355328 := by omega
  have hx2 : i + 1 ≤ x + 5 + e.text.size / 20 := by omega
  generalize x + 5 + e.text.size / 20 = x1 at e2 hx1 hx2
  have P4 : VBlk 3 w4 pb [.int .i64 x] := P.below (hd.below _) P.lt
  refine WL.store (v := .int .i64 x1) rfl rfl rfl rfl (congrArg (fun z => some (Value.int .i64 z)) e2) rfl (by kernel_rfl) (P4.cell 0 (by simp)) (P4.free 0) ?_
  have P5 : VBlk 3 (w4.setCell ⟨pb, 0, none⟩ (.int .i64 x1)) pb [.int .i64 x1] := P4.set 0 (.int .i64 x1)
  have R5 := (R.below (hd.below _)).keep (cellK w4 pb 0 (.int .i64 x1) (· ≠ pb) (fun h => h rfl)) (by show g ≠ pb; omega)
  have hb4 : Below w.heap.size w w4 := hbr.trans ((hd.below wr.heap.size).mono hbr.size)
  have hb5 : Below w.heap.size w (w4.setCell ⟨pb, 0, none⟩ (.int .i64 x1)) := hb4.trans (Keep.below (cellK w4 pb 0 (.int .i64 x1) (fun b => b < w.heap.size) (by omega)))
  generalize w4.setCell ⟨pb, 0, none⟩ (.int .i64 x1) = w5 at P5 R5 hb5 ⊢
  refine WL.nil (WQ.dk (.inl rfl) ?_)
  refine WD.done (by kernel_rfl) ?_
  have hd5 : w5.rangeAt b1 (o1 + i * 46 + 5) dc := enC_dataAt hdl fun j u hu => (hb5.cell (p := ⟨b1, o1 + i * 46 + j, none⟩) hlt1).trans (ha1 j u hu)
  repeat (first | ((with_reducible refine WL.topT ?_ ?_); omega) | ((with_reducible refine WL.topF ?_ ?_); omega) | ((with_reducible refine WL.top64 ?_ ?_); omega) | refine WC.seq ?_ | refine WC.block ?_ | refine WC.region ?_ | refine WL.nil ?_ | refine WC.skip ?_ | refine WC.exit ?_ | refine WC.ret ?_ | refine WQ.then rfl ?_ | refine WQ.thenExit ?_ | refine WQ.thenRet ?_ | refine WQ.blk ?_ | refine WQ.blkRet ?_ | refine WQ.blkHere rfl ?_ | refine WQ.blkOther rfl ?_ | refine WL.pure rfl rfl rfl rfl ?_ | refine WL.on rfl rfl ?_ | refine WL.off rfl rfl rfl ?_ | refine WC.condTrue rfl ?_ | refine WC.condFalse rfl ?_)
  refine WL.load rfl rfl rfl rfl rfl rfl R5.ents ?_
  repeat (first | ((with_reducible refine WL.topT ?_ ?_); omega) | ((with_reducible refine WL.topF ?_ ?_); omega) | ((with_reducible refine WL.top64 ?_ ?_); omega) | refine WC.seq ?_ | refine WC.block ?_ | refine WC.region ?_ | refine WL.nil ?_ | refine WC.skip ?_ | refine WC.exit ?_ | refine WC.ret ?_ | refine WQ.then rfl ?_ | refine WQ.thenExit ?_ | refine WQ.thenRet ?_ | refine WQ.blk ?_ | refine WQ.blkRet ?_ | refine WQ.blkHere rfl ?_ | refine WQ.blkOther rfl ?_ | refine WL.pure rfl rfl rfl rfl ?_ | refine WL.on rfl rfl ?_ | refine WL.off rfl rfl rfl ?_ | refine WC.condTrue rfl ?_ | refine WC.condFalse rfl ?_)
  refine WL.idx i (o1 + i * 46) rfl rfl rfl rfl rfl rfl rfl rfl hik rfl ?_
  repeat (first | ((with_reducible refine WL.topT ?_ ?_); omega) | ((with_reducible refine WL.topF ?_ ?_); omega) | ((with_reducible refine WL.top64 ?_ ?_); omega) | refine WC.seq ?_ | refine WC.block ?_ | refine WC.region ?_ | refine WL.nil ?_ | refine WC.skip ?_ | refine WC.exit ?_ | refine WC.ret ?_ | refine WQ.then rfl ?_ | refine WQ.thenExit ?_ | refine WQ.thenRet ?_ | refine WQ.blk ?_ | refine WQ.blkRet ?_ | refine WQ.blkHere rfl ?_ | refine WQ.blkOther rfl ?_ | refine WL.pure rfl rfl rfl rfl ?_ | refine WL.on rfl rfl ?_ | refine WL.off rfl rfl rfl ?_ | refine WC.condTrue rfl ?_ | refine WC.condFalse rfl ?_)
  refine WL.loadMid rfl rfl rfl rfl rfl rfl hd5 hdl ?_
  refine WL.call rfl rfl rfl rfl rfl Try.func14 rfl (by kernel_rfl) (great_any f hv hsm hb5 (by omega) P5 hx1) ?_
  rintro _ w6 ⟨rfl, P6, hk6⟩
  refine ⟨_, rfl, ?_⟩
  have hb6 : Below w.heap.size w w6 := hb5.trans (Keep.below (Keep.mono hk6 fun b hb => ⟨Nat.lt_of_lt_of_le hb hb5.size, by omega⟩))
  have R6 := R5.keep hk6 ⟨R5.blk.lt, by omega⟩
  by_cases hgr : 3000 < grt 3000 f e.data x1
  · repeat (first | ((with_reducible refine WL.topT ?_ ?_); omega) | ((with_reducible refine WL.topF ?_ ?_); omega) | ((with_reducible refine WL.top64 ?_ ?_); omega) | refine WC.seq ?_ | refine WC.block ?_ | refine WC.region ?_ | refine WL.nil ?_ | refine WC.skip ?_ | refine WC.exit ?_ | refine WC.ret ?_ | refine WQ.then rfl ?_ | refine WQ.thenExit ?_ | refine WQ.thenRet ?_ | refine WQ.blk ?_ | refine WQ.blkRet ?_ | refine WQ.blkHere rfl ?_ | refine WQ.blkOther rfl ?_ | refine WL.pure rfl rfl rfl rfl ?_ | refine WL.on rfl rfl ?_ | refine WL.off rfl rfl rfl ?_ | refine WC.condTrue rfl ?_ | refine WC.condFalse rfl ?_)
    exact WQ.ret1 rfl rfl ⟨hb6, true, rfl, fun h => by cases h⟩
  · repeat (first | ((with_reducible refine WL.topT ?_ ?_); omega) | ((with_reducible refine WL.topF ?_ ?_); omega) | ((with_reducible refine WL.top64 ?_ ?_); omega) | refine WC.seq ?_ | refine WC.block ?_ | refine WC.region ?_ | refine WL.nil ?_ | refine WC.skip ?_ | refine WC.exit ?_ | refine WC.ret ?_ | refine WQ.then rfl ?_ | refine WQ.thenExit ?_ | refine WQ.thenRet ?_ | refine WQ.blk ?_ | refine WQ.blkRet ?_ | refine WQ.blkHere rfl ?_ | refine WQ.blkOther rfl ?_ | refine WL.pure rfl rfl rfl rfl ?_ | refine WL.on rfl rfl ?_ | refine WL.off rfl rfl rfl ?_ | refine WC.condTrue rfl ?_ | refine WC.condFalse rfl ?_)
    refine WQ.again (i + 1) ⟨rfl, rfl, rfl, trivial⟩ ⟨hik, R6, hb6, ⟨_, by omega, Nat.le_trans hx2 (grt_le f e.data x1), P6⟩, fun y hy => ?_⟩ (by show b.ents.length - (i + 1) < b.ents.length - i; omega)
    rw [hts] at hy
    rcases List.mem_append.1 hy with h1 | h1
    · exact hall y h1
    · rw [List.mem_singleton.1 h1]; exact ⟨_, hgr⟩
theorem heavy_any {f : Nat} {w : World} {b : Bk} {cs : List Value} (h : IsB f w b cs) (hs : ∀ e ∈ b.ents, Sml f e.data) :
    Calls Try.prog 6 #[.agg cs.toArray] w fun r w' => Below w.heap.size w w' ∧ ∃ b', r = .returned (.bool b') ∧ (b' = false → ∀ e ∈ b.ents, chk 16 e.data = 0 → (encV 16 e.data).length ≤ 70368744177664) :=
  Calls.mono (heavy_grt h hs) fun _ _ ⟨h1, b', h2, h3⟩ => ⟨h1, b', h2, fun hb e he => by
    obtain ⟨n, hn⟩ := (h3 hb).2 e he
    exact enc_len (hs e he) hn⟩
end K
end Go.Proofs.Ytlamdhekjlnccaa

/- Blocks (chapter 11): the law's known. -/
namespace Go.Proofs.Ytlamdhekjlnccaa
open Go.RowKit
namespace K
theorem form_small : formE smallE := by
  unfold formE
  rw [if_neg (by decide), if_neg (by decide), if_neg (by decide), if_neg (by decide), if_pos (show smallE.kind = 5 ∨ smallE.kind = 7 from Or.inl rfl)]
  exact ⟨by decide, by decide, by decide, by decide, rfl, rfl, rfl, rfl, rfl, rfl, rfl, rfl⟩
theorem chkE_small : chkE smallE = 0 := by
  unfold chkE
  rw [if_pos form_small, if_pos (Or.inl (by decide))]
theorem chkB_small : chkB smallB = 0 := by
  have hl : ¬ 262144 < (layB true smallB).length := by decide +kernel
  unfold chkB
  rw [if_pos (by decide), if_neg (by simp [smallB, firstBad, chkE_small]), if_neg hl]
theorem chkB_noB : chkB noB = 1 := by
  unfold chkB
  rw [if_neg (by decide)]
set_option maxHeartbeats 4000000 in
theorem known_any {w : World} : Calls Try.prog 12 #[] w fun r w' => r = .returned (.bool true) ∧ Below w.heap.size w w' := by
  have hsm : ∀ e ∈ smallB.ents, chk 16 e.data = 0 → (encV 16 e.data).length ≤ 70368744177664 := fun e he _ => by
    have : e = smallE := List.mem_singleton.1 he
    rw [this]
    have : (encV 16 smallE.data).length ≤ 65536 := by decide
    omega
  have henc : encB true smallB = (layB true smallB, 0) := by unfold encB; rw [if_neg (by rw [chkB_small]; omega)]
  refine enter (args := []) Try.func12 rfl Try.ntmps12 rfl ?_
  repeat (first | ((with_reducible refine WL.topT ?_ ?_); omega) | ((with_reducible refine WL.topF ?_ ?_); omega) | ((with_reducible refine WL.top64 ?_ ?_); omega) | refine WC.seq ?_ | refine WC.block ?_ | refine WC.region ?_ | refine WL.nil ?_ | refine WC.skip ?_ | refine WC.exit ?_ | refine WC.ret ?_ | refine WQ.then rfl ?_ | refine WQ.thenExit ?_ | refine WQ.thenRet ?_ | refine WQ.blk ?_ | refine WQ.blkRet ?_ | refine WQ.blkHere rfl ?_ | refine WQ.blkOther rfl ?_ | refine WL.pure rfl rfl rfl rfl ?_ | refine WL.on rfl rfl ?_ | refine WL.off rfl rfl rfl ?_ | refine WC.condTrue rfl ?_ | refine WC.condFalse rfl ?_)
  refine WL.call rfl rfl rfl rfl rfl Try.func21 rfl (by kernel_rfl) small_any ?_
  rintro _ w1 ⟨hb1, c1, rfl, h1⟩
  refine ⟨_, rfl, ?_⟩
  have hB1 := isB_of h1
  have hrng : RngB smallB := ⟨fun e he => (BkP.hashes hB1 e he).2, rfl⟩
  refine WL.call rfl rfl rfl rfl rfl Try.func8 rfl (by kernel_rfl) (encode11_any true hB1 hsm) ?_
  rintro _ w2 ⟨v2, rfl, hv2, hb2, -⟩
  refine ⟨_, rfl, ?_⟩
  rw [henc] at hv2 ⊢
  simp only at hv2 ⊢
  have hlay : (layB true smallB).length ≤ 262144 := by decide +kernel
  have hbyt : Byt (layB true smallB) := by
    show ∀ c ∈ layB true smallB, 0 ≤ c ∧ c ≤ 255
    decide +kernel
  repeat (first | ((with_reducible refine WL.topT ?_ ?_); omega) | ((with_reducible refine WL.topF ?_ ?_); omega) | ((with_reducible refine WL.top64 ?_ ?_); omega) | refine WC.seq ?_ | refine WC.block ?_ | refine WC.region ?_ | refine WL.nil ?_ | refine WC.skip ?_ | refine WC.exit ?_ | refine WC.ret ?_ | refine WQ.then rfl ?_ | refine WQ.thenExit ?_ | refine WQ.thenRet ?_ | refine WQ.blk ?_ | refine WQ.blkRet ?_ | refine WQ.blkHere rfl ?_ | refine WQ.blkOther rfl ?_ | refine WL.pure rfl rfl rfl rfl ?_ | refine WL.on rfl rfl ?_ | refine WL.off rfl rfl rfl ?_ | refine WC.condTrue rfl ?_ | refine WC.condFalse rfl ?_)
  refine WL.call rfl rfl rfl rfl rfl Try.func13 rfl (by kernel_rfl) (decode11_any hv2.sl hbyt (by omega)) ?_
  rintro _ w3 ⟨hb3, y, c3, e3, rfl, h3, hout⟩
  refine ⟨_, rfl, ?_⟩
  rw [readB_enc chkB_small hrng] at hout
  obtain ⟨rfl, rfl⟩ := hout
  have hl3 := h3.len
  have hw3 : Below w.heap.size w w3 := hb1.trans ((hb2.mono hb1.size).trans (hb3.mono (Nat.le_trans hb1.size hb2.size)))
  repeat (first | ((with_reducible refine WL.topT ?_ ?_); omega) | ((with_reducible refine WL.topF ?_ ?_); omega) | ((with_reducible refine WL.top64 ?_ ?_); omega) | refine WC.seq ?_ | refine WC.block ?_ | refine WC.region ?_ | refine WL.nil ?_ | refine WC.skip ?_ | refine WC.exit ?_ | refine WC.ret ?_ | refine WQ.then rfl ?_ | refine WQ.thenExit ?_ | refine WQ.thenRet ?_ | refine WQ.blk ?_ | refine WQ.blkRet ?_ | refine WQ.blkHere rfl ?_ | refine WQ.blkOther rfl ?_ | refine WL.pure rfl rfl rfl rfl ?_ | refine WL.on rfl rfl ?_ | refine WL.off rfl rfl rfl ?_ | refine WC.condTrue rfl ?_ | refine WC.condFalse rfl ?_)
  refine WL.alloc (z := .agg (bkC noB (.slice none 0 0)).toArray) rfl rfl rfl rfl (fun _ => by kernel_rfl) fun g w4 hf => ?_
  have hf' : Fresh w3 g w4 26 (bkC noB (.slice none 0 0)) := hf
  clear hf
  have hg := hf'.eq
  repeat (first | ((with_reducible refine WL.topT ?_ ?_); omega) | ((with_reducible refine WL.topF ?_ ?_); omega) | ((with_reducible refine WL.top64 ?_ ?_); omega) | refine WC.seq ?_ | refine WC.block ?_ | refine WC.region ?_ | refine WL.nil ?_ | refine WC.skip ?_ | refine WC.exit ?_ | refine WC.ret ?_ | refine WQ.then rfl ?_ | refine WQ.thenExit ?_ | refine WQ.thenRet ?_ | refine WQ.blk ?_ | refine WQ.blkRet ?_ | refine WQ.blkHere rfl ?_ | refine WQ.blkOther rfl ?_ | refine WL.pure rfl rfl rfl rfl ?_ | refine WL.on rfl rfl ?_ | refine WL.off rfl rfl rfl ?_ | refine WC.condTrue rfl ?_ | refine WC.condFalse rfl ?_)
  refine WL.storeRow rfl rfl rfl rfl rfl rfl hf'.blk hl3 rfl h3.one ?_
  have hb5 : Below w3.heap.size w3 (w4.setRow g c3.toArray) := below_setRow hf'.below (by omega) _
  have g5 : VBlk 26 (w4.setRow g c3.toArray) g c3 := hf'.blk.setRow c3
  generalize w4.setRow g c3.toArray = w5 at hb5 g5 ⊢
  clear hf'
  repeat (first | ((with_reducible refine WL.topT ?_ ?_); omega) | ((with_reducible refine WL.topF ?_ ?_); omega) | ((with_reducible refine WL.top64 ?_ ?_); omega) | refine WC.seq ?_ | refine WC.block ?_ | refine WC.region ?_ | refine WL.nil ?_ | refine WC.skip ?_ | refine WC.exit ?_ | refine WC.ret ?_ | refine WQ.then rfl ?_ | refine WQ.thenExit ?_ | refine WQ.thenRet ?_ | refine WQ.blk ?_ | refine WQ.blkRet ?_ | refine WQ.blkHere rfl ?_ | refine WQ.blkOther rfl ?_ | refine WL.pure rfl rfl rfl rfl ?_ | refine WL.on rfl rfl ?_ | refine WL.off rfl rfl rfl ?_ | refine WC.condTrue rfl ?_ | refine WC.condFalse rfl ?_)
  refine WC.drawn 9 (fun wx => VBlk 26 wx g c3) fun w6 hd => ?_
  have hS := g5.below (hd.below _) g5.lt
  have hb6 : Below w3.heap.size w3 w6 := hb5.trans ((hd.below w5.heap.size).mono hb5.size)
  (((first | refine WD.free 0 rfl (by kernel_rfl) rfl rfl (fun _ _ _ _ _ h => h) rfl rfl (.inr hS) ?_ | refine WD.skip 0 rfl (by kernel_rfl) rfl rfl (fun _ _ _ _ _ h => h) rfl (.inr hS) ?_); try (first | ((with_reducible refine WD.topT ?_ ?_); omega) | ((with_reducible refine WD.topF ?_ ?_); omega) | ((with_reducible refine WD.top64 ?_ ?_); omega))); ((first | refine WD.free 1 rfl (by kernel_rfl) rfl rfl (fun _ _ _ _ _ h => h) rfl rfl (.inr hS) ?_ | refine WD.skip 1 rfl (by kernel_rfl) rfl rfl (fun _ _ _ _ _ h => h) rfl (.inr hS) ?_); try (first | ((with_reducible refine WD.topT ?_ ?_); omega) | ((with_reducible refine WD.topF ?_ ?_); omega) | ((with_reducible refine WD.top64 ?_ ?_); omega))); ((first | refine WD.free 2 rfl (by kernel_rfl) rfl rfl (fun _ _ _ _ _ h => h) rfl rfl (.inr hS) ?_ | refine WD.skip 2 rfl (by kernel_rfl) rfl rfl (fun _ _ _ _ _ h => h) rfl (.inr hS) ?_); try (first | ((with_reducible refine WD.topT ?_ ?_); omega) | ((with_reducible refine WD.topF ?_ ?_); omega) | ((with_reducible refine WD.top64 ?_ ?_); omega))); ((first | refine WD.free 3 rfl (by kernel_rfl) rfl rfl (fun _ _ _ _ _ h => h) rfl rfl (.inr hS) ?_ | refine WD.skip 3 rfl (by kernel_rfl) rfl rfl (fun _ _ _ _ _ h => h) rfl (.inr hS) ?_); try (first | ((with_reducible refine WD.topT ?_ ?_); omega) | ((with_reducible refine WD.topF ?_ ?_); omega) | ((with_reducible refine WD.top64 ?_ ?_); omega))); ((first | refine WD.free 4 rfl (by kernel_rfl) rfl rfl (fun _ _ _ _ _ h => h) rfl rfl (.inr hS) ?_ | refine WD.skip 4 rfl (by kernel_rfl) rfl rfl (fun _ _ _ _ _ h => h) rfl (.inr hS) ?_); try (first | ((with_reducible refine WD.topT ?_ ?_); omega) | ((with_reducible refine WD.topF ?_ ?_); omega) | ((with_reducible refine WD.top64 ?_ ?_); omega))); ((first | refine WD.free 5 rfl (by kernel_rfl) rfl rfl (fun _ _ _ _ _ h => h) rfl rfl (.inr hS) ?_ | refine WD.skip 5 rfl (by kernel_rfl) rfl rfl (fun _ _ _ _ _ h => h) rfl (.inr hS) ?_); try (first | ((with_reducible refine WD.topT ?_ ?_); omega) | ((with_reducible refine WD.topF ?_ ?_); omega) | ((with_reducible refine WD.top64 ?_ ?_); omega))); ((first | refine WD.free 6 rfl (by kernel_rfl) rfl rfl (fun _ _ _ _ _ h => h) rfl rfl (.inr hS) ?_ | refine WD.skip 6 rfl (by kernel_rfl) rfl rfl (fun _ _ _ _ _ h => h) rfl (.inr hS) ?_); try (first | ((with_reducible refine WD.topT ?_ ?_); omega) | ((with_reducible refine WD.topF ?_ ?_); omega) | ((with_reducible refine WD.top64 ?_ ?_); omega))))
  refine WD.loadMid 7 [9, 10, 11, 12, 13, 14, 15, 16] rfl (by kernel_rfl) rfl rfl (fun _ _ _ _ _ h => h) rfl rfl rfl rfl (fun wx hx => VBlk.rangeAt hx) hl3 hS ?_
  refine WD.one 8 (by kernel_rfl) rfl ?_
  refine WL.on rfl rfl ?_
  refine WL.call rfl rfl rfl rfl rfl Try.func21 rfl (by kernel_rfl) small_any ?_
  rintro _ w7 ⟨hb7, c7, rfl, h7⟩
  refine ⟨_, rfl, ?_⟩
  have hb7' : Below w3.heap.size w3 w7 := hb6.trans (hb7.mono hb6.size)
  refine WL.nil (WQ.dk (.inr (hS.below hb7 hS.lt)) ?_)
  refine WD.one 9 (by kernel_rfl) rfl ?_
  refine WL.on rfl rfl ?_
  refine WL.call rfl rfl rfl rfl rfl Try.func11 rfl (by kernel_rfl) (blocks_any (IsB.below hb7' (isB_of h3)) (isB_of h7)) ?_
  rintro _ w8 ⟨⟨bb, rfl, hbb⟩, hb8⟩
  refine ⟨_, rfl, ?_⟩
  obtain rfl : bb = true := hbb.2 rfl
  have hb8' : Below w3.heap.size w3 w8 := hb7'.trans (hb8.mono hb7'.size)
  refine WL.nil (WQ.dk (.inl rfl) ?_)
  (((first | refine WD.free 10 rfl (by kernel_rfl) rfl rfl (fun _ _ _ _ _ h => h) rfl rfl (.inl rfl) ?_ | refine WD.skip 10 rfl (by kernel_rfl) rfl rfl (fun _ _ _ _ _ h => h) rfl (.inl rfl) ?_); try (first | ((with_reducible refine WD.topT ?_ ?_); omega) | ((with_reducible refine WD.topF ?_ ?_); omega) | ((with_reducible refine WD.top64 ?_ ?_); omega))); ((first | refine WD.free 11 rfl (by kernel_rfl) rfl rfl (fun _ _ _ _ _ h => h) rfl rfl (.inl rfl) ?_ | refine WD.skip 11 rfl (by kernel_rfl) rfl rfl (fun _ _ _ _ _ h => h) rfl (.inl rfl) ?_); try (first | ((with_reducible refine WD.topT ?_ ?_); omega) | ((with_reducible refine WD.topF ?_ ?_); omega) | ((with_reducible refine WD.top64 ?_ ?_); omega))))
  refine WD.one 12 (by kernel_rfl) rfl ?_
  refine WL.on rfl rfl ?_
  refine WL.build (bkC noB (.slice none 0 0)) rfl rfl rfl rfl rfl (by kernel_rfl) ?_
  refine WL.nil (WQ.dk (.inl rfl) ?_)
  refine WD.one 13 (by kernel_rfl) rfl ?_
  refine WL.on rfl rfl ?_
  have hB0 : IsB 17 w8 noB (bkC noB (.slice none 0 0)) := ⟨_, rfl, Els.nil _ _ _ _ _, rfl, z32_byt, by show R64 0; omega, by show R64 0; omega, by show R64 0; omega⟩
  refine WL.call rfl rfl rfl rfl rfl Try.func16 rfl (by kernel_rfl) (check11_any hB0 (fun e he => by cases he)) ?_
  rintro _ w9 ⟨rfl, hb9⟩
  refine ⟨_, rfl, ?_⟩
  rw [chkB_noB]
  refine WL.nil (WQ.dk (.inl rfl) ?_)
  (((first | refine WD.free 14 rfl (by kernel_rfl) rfl rfl (fun _ _ _ _ _ h => h) rfl rfl (.inl rfl) ?_ | refine WD.skip 14 rfl (by kernel_rfl) rfl rfl (fun _ _ _ _ _ h => h) rfl (.inl rfl) ?_); try (first | ((with_reducible refine WD.topT ?_ ?_); omega) | ((with_reducible refine WD.topF ?_ ?_); omega) | ((with_reducible refine WD.top64 ?_ ?_); omega))); ((first | refine WD.free 15 rfl (by kernel_rfl) rfl rfl (fun _ _ _ _ _ h => h) rfl rfl (.inl rfl) ?_ | refine WD.skip 15 rfl (by kernel_rfl) rfl rfl (fun _ _ _ _ _ h => h) rfl (.inl rfl) ?_); try (first | ((with_reducible refine WD.topT ?_ ?_); omega) | ((with_reducible refine WD.topF ?_ ?_); omega) | ((with_reducible refine WD.top64 ?_ ?_); omega))))
  refine WD.one 16 (by kernel_rfl) rfl ?_
  refine WL.pure rfl rfl rfl rfl ?_
  refine WL.nil (WQ.dk (.inl rfl) ?_)
  refine WD.done (by kernel_rfl) ?_
  repeat (first | ((with_reducible refine WL.topT ?_ ?_); omega) | ((with_reducible refine WL.topF ?_ ?_); omega) | ((with_reducible refine WL.top64 ?_ ?_); omega) | refine WC.seq ?_ | refine WC.block ?_ | refine WC.region ?_ | refine WL.nil ?_ | refine WC.skip ?_ | refine WC.exit ?_ | refine WC.ret ?_ | refine WQ.then rfl ?_ | refine WQ.thenExit ?_ | refine WQ.thenRet ?_ | refine WQ.blk ?_ | refine WQ.blkRet ?_ | refine WQ.blkHere rfl ?_ | refine WQ.blkOther rfl ?_ | refine WL.pure rfl rfl rfl rfl ?_ | refine WL.on rfl rfl ?_ | refine WL.off rfl rfl rfl ?_ | refine WC.condTrue rfl ?_ | refine WC.condFalse rfl ?_)
  exact WQ.ret1 rfl rfl ⟨rfl, hw3.trans ((hb8'.trans (hb9.mono hb8'.size)).mono hw3.size)⟩
end K
end Go.Proofs.Ytlamdhekjlnccaa

/- The laws' same. -/
namespace Go.Proofs.Ytlamdhekjlnccaa
open Go.RowKit
namespace K

theorem same7_any {w : World} {a b : Value} {l1 l2 : List Int} (h1 : Sl .u8 w a l1) (h2 : Sl .u8 w b l2) :
    Calls Try.prog 10 #[a, b] w fun e w' => e = .returned (.bool (decide (l1 = l2))) ∧ Below w.heap.size w w' := by
  refine enter (args := [a, b]) Try.func10 rfl Try.ntmps10 rfl ?_
  have hs1 := h1
  have hs2 := h2
  obtain ⟨sp1, cap1, rfl, hc1, hm1, -, -⟩ := h1
  obtain ⟨sp2, cap2, rfl, -, -, -, -⟩ := h2
  by_cases hl : l1.length = l2.length
  · repeat (first | ((with_reducible refine WL.topT ?_ ?_); omega) | ((with_reducible refine WL.topF ?_ ?_); omega) | ((with_reducible refine WL.top64 ?_ ?_); omega) | refine WC.seq ?_ | refine WC.block ?_ | refine WC.region ?_ | refine WL.nil ?_ | refine WC.skip ?_ | refine WC.exit ?_ | refine WC.ret ?_ | refine WQ.then rfl ?_ | refine WQ.thenExit ?_ | refine WQ.thenRet ?_ | refine WQ.blk ?_ | refine WQ.blkRet ?_ | refine WQ.blkHere rfl ?_ | refine WQ.blkOther rfl ?_ | refine WL.pure rfl rfl rfl rfl ?_ | refine WL.on rfl rfl ?_ | refine WL.off rfl rfl rfl ?_ | refine WC.condTrue rfl ?_ | refine WC.condFalse rfl ?_)
    refine WC.loop (fun i : Nat => [(0, .slice sp1 l1.length cap1), (1, .slice sp2 l2.length cap2), (5, .int .i64 i)]) (fun i w' => i ≤ l1.length ∧ l1.take i = l2.take i ∧ Below w.heap.size w w') (fun i => l1.length - i) 0 ⟨rfl, rfl, rfl, trivial⟩
      ⟨Nat.zero_le _, by simp, Below.refl _ _⟩ ?_
    rintro i wr ⟨hi, ht, hb⟩
    have hr1 := hs1.of_below hb
    have hr2 := hs2.of_below hb
    by_cases hik : i < l1.length
    · repeat (first | ((with_reducible refine WL.topT ?_ ?_); omega) | ((with_reducible refine WL.topF ?_ ?_); omega) | ((with_reducible refine WL.top64 ?_ ?_); omega) | refine WC.seq ?_ | refine WC.block ?_ | refine WC.region ?_ | refine WL.nil ?_ | refine WC.skip ?_ | refine WC.exit ?_ | refine WC.ret ?_ | refine WQ.then rfl ?_ | refine WQ.thenExit ?_ | refine WQ.thenRet ?_ | refine WQ.blk ?_ | refine WQ.blkRet ?_ | refine WQ.blkHere rfl ?_ | refine WQ.blkOther rfl ?_ | refine WL.pure rfl rfl rfl rfl ?_ | refine WL.on rfl rfl ?_ | refine WL.off rfl rfl rfl ?_ | refine WC.condTrue rfl ?_ | refine WC.condFalse rfl ?_)
      refine WC.drawn 8 (fun wx => wx.heap = wr.heap) fun w2 hd => ?_
      have hb2 : Below w.heap.size w w2 := hb.trans (hd.below _)
      have hS : w2.heap = wr.heap := hd.heap
      (((first | refine WD.free 0 rfl (by kernel_rfl) rfl rfl (fun _ _ _ _ _ h => h) rfl rfl (.inr hS) ?_ | refine WD.skip 0 rfl (by kernel_rfl) rfl rfl (fun _ _ _ _ _ h => h) rfl (.inr hS) ?_); try (first | ((with_reducible refine WD.topT ?_ ?_); omega) | ((with_reducible refine WD.topF ?_ ?_); omega) | ((with_reducible refine WD.top64 ?_ ?_); omega))); ((first | refine WD.free 1 rfl (by kernel_rfl) rfl rfl (fun _ _ _ _ _ h => h) rfl rfl (.inr hS) ?_ | refine WD.skip 1 rfl (by kernel_rfl) rfl rfl (fun _ _ _ _ _ h => h) rfl (.inr hS) ?_); try (first | ((with_reducible refine WD.topT ?_ ?_); omega) | ((with_reducible refine WD.topF ?_ ?_); omega) | ((with_reducible refine WD.top64 ?_ ?_); omega))))
      refine WD.idxI 2 i rfl (by kernel_rfl) rfl rfl (fun _ _ _ _ _ h => h) rfl rfl rfl rfl hr1 rfl rfl hik (.inr hS) fun p hp => ?_
      refine WD.load 3 [8] rfl (by kernel_rfl) rfl rfl (fun _ _ _ _ _ h => h) rfl rfl rfl rfl (fun wx hx => (heap_cell hx _).trans hp) hS ?_
      (((first | refine WD.free 4 rfl (by kernel_rfl) rfl rfl (fun _ _ _ _ _ h => h) rfl rfl (.inr hS) ?_ | refine WD.skip 4 rfl (by kernel_rfl) rfl rfl (fun _ _ _ _ _ h => h) rfl (.inr hS) ?_); try (first | ((with_reducible refine WD.topT ?_ ?_); omega) | ((with_reducible refine WD.topF ?_ ?_); omega) | ((with_reducible refine WD.top64 ?_ ?_); omega))); ((first | refine WD.free 5 rfl (by kernel_rfl) rfl rfl (fun _ _ _ _ _ h => h) rfl rfl (.inr hS) ?_ | refine WD.skip 5 rfl (by kernel_rfl) rfl rfl (fun _ _ _ _ _ h => h) rfl (.inr hS) ?_); try (first | ((with_reducible refine WD.topT ?_ ?_); omega) | ((with_reducible refine WD.topF ?_ ?_); omega) | ((with_reducible refine WD.top64 ?_ ?_); omega))))
      refine WD.idxI 6 i rfl (by kernel_rfl) rfl rfl (fun _ _ _ _ _ h => h) rfl rfl rfl rfl hr2 rfl rfl (by omega) (.inr hS) fun p2 hp2 => ?_
      refine WD.load 7 [8] rfl (by kernel_rfl) rfl rfl (fun _ _ _ _ _ h => h) rfl rfl rfl rfl (fun wx hx => (heap_cell hx _).trans hp2) hS ?_
      refine WD.one 8 (by kernel_rfl) rfl ?_
      refine WL.pure rfl rfl rfl rfl ?_
      refine WL.nil (WQ.dk (.inl rfl) ?_)
      refine WD.done (by kernel_rfl) ?_
      repeat (first | ((with_reducible refine WL.topT ?_ ?_); omega) | ((with_reducible refine WL.topF ?_ ?_); omega) | ((with_reducible refine WL.top64 ?_ ?_); omega) | refine WC.seq ?_ | refine WC.block ?_ | refine WC.region ?_ | refine WL.nil ?_ | refine WC.skip ?_ | refine WC.exit ?_ | refine WC.ret ?_ | refine WQ.then rfl ?_ | refine WQ.thenExit ?_ | refine WQ.thenRet ?_ | refine WQ.blk ?_ | refine WQ.blkRet ?_ | refine WQ.blkHere rfl ?_ | refine WQ.blkOther rfl ?_ | refine WL.pure rfl rfl rfl rfl ?_ | refine WL.on rfl rfl ?_ | refine WL.off rfl rfl rfl ?_ | refine WC.condTrue rfl ?_ | refine WC.condFalse rfl ?_)
      refine WC.condS rfl (fun hne => ?_) fun heq => ?_
      · repeat (first | ((with_reducible refine WL.topT ?_ ?_); omega) | ((with_reducible refine WL.topF ?_ ?_); omega) | ((with_reducible refine WL.top64 ?_ ?_); omega) | refine WC.seq ?_ | refine WC.block ?_ | refine WC.region ?_ | refine WL.nil ?_ | refine WC.skip ?_ | refine WC.exit ?_ | refine WC.ret ?_ | refine WQ.then rfl ?_ | refine WQ.thenExit ?_ | refine WQ.thenRet ?_ | refine WQ.blk ?_ | refine WQ.blkRet ?_ | refine WQ.blkHere rfl ?_ | refine WQ.blkOther rfl ?_ | refine WL.pure rfl rfl rfl rfl ?_ | refine WL.on rfl rfl ?_ | refine WL.off rfl rfl rfl ?_ | refine WC.condTrue rfl ?_ | refine WC.condFalse rfl ?_)
        refine WQ.ret1 rfl rfl ⟨?_, hb2⟩
        rw [decide_eq_false (fun e => hne (by rw [e]))]
      · repeat (first | ((with_reducible refine WL.topT ?_ ?_); omega) | ((with_reducible refine WL.topF ?_ ?_); omega) | ((with_reducible refine WL.top64 ?_ ?_); omega) | refine WC.seq ?_ | refine WC.block ?_ | refine WC.region ?_ | refine WL.nil ?_ | refine WC.skip ?_ | refine WC.exit ?_ | refine WC.ret ?_ | refine WQ.then rfl ?_ | refine WQ.thenExit ?_ | refine WQ.thenRet ?_ | refine WQ.blk ?_ | refine WQ.blkRet ?_ | refine WQ.blkHere rfl ?_ | refine WQ.blkOther rfl ?_ | refine WL.pure rfl rfl rfl rfl ?_ | refine WL.on rfl rfl ?_ | refine WL.off rfl rfl rfl ?_ | refine WC.condTrue rfl ?_ | refine WC.condFalse rfl ?_)
        refine WQ.again (i + 1) ⟨rfl, rfl, rfl, trivial⟩ ⟨hik, take_snoc_eq ht hik (by omega) ?_, hb2⟩ (by show l1.length - (i + 1) < l1.length - i; omega)
        have : nth l1 i = nth l2 i := by simpa using heq
        simpa [nth, hik, show i < l2.length by omega] using this
    · obtain rfl : i = l1.length := by omega
      repeat (first | ((with_reducible refine WL.topT ?_ ?_); omega) | ((with_reducible refine WL.topF ?_ ?_); omega) | ((with_reducible refine WL.top64 ?_ ?_); omega) | refine WC.seq ?_ | refine WC.block ?_ | refine WC.region ?_ | refine WL.nil ?_ | refine WC.skip ?_ | refine WC.exit ?_ | refine WC.ret ?_ | refine WQ.then rfl ?_ | refine WQ.thenExit ?_ | refine WQ.thenRet ?_ | refine WQ.blk ?_ | refine WQ.blkRet ?_ | refine WQ.blkHere rfl ?_ | refine WQ.blkOther rfl ?_ | refine WL.pure rfl rfl rfl rfl ?_ | refine WL.on rfl rfl ?_ | refine WL.off rfl rfl rfl ?_ | refine WC.condTrue rfl ?_ | refine WC.condFalse rfl ?_)
      refine WQ.ret1 rfl rfl ⟨?_, hb⟩
      have : l1 = l2 := by rw [List.take_length, hl, List.take_length] at ht; exact ht
      simp [this]
  · repeat (first | ((with_reducible refine WL.topT ?_ ?_); omega) | ((with_reducible refine WL.topF ?_ ?_); omega) | ((with_reducible refine WL.top64 ?_ ?_); omega) | refine WC.seq ?_ | refine WC.block ?_ | refine WC.region ?_ | refine WL.nil ?_ | refine WC.skip ?_ | refine WC.exit ?_ | refine WC.ret ?_ | refine WQ.then rfl ?_ | refine WQ.thenExit ?_ | refine WQ.thenRet ?_ | refine WQ.blk ?_ | refine WQ.blkRet ?_ | refine WQ.blkHere rfl ?_ | refine WQ.blkOther rfl ?_ | refine WL.pure rfl rfl rfl rfl ?_ | refine WL.on rfl rfl ?_ | refine WL.off rfl rfl rfl ?_ | refine WC.condTrue rfl ?_ | refine WC.condFalse rfl ?_)
    refine WQ.ret1 rfl rfl ⟨?_, Below.refl _ _⟩
    rw [decide_eq_false (fun e => hl (by rw [e]))]
end K
end Go.Proofs.Ytlamdhekjlnccaa

/- BlockOne (chapter 11): the law. -/
namespace Go.Proofs.Ytlamdhekjlnccaa
open Go.RowKit
namespace K
theorem encB_two (b : Bk) : (encB true b).2 = chkB b := by
  unfold encB
  by_cases h : chkB b ≠ 0
  · rw [if_pos h]
  · rw [if_neg h]; exact (Classical.not_not.1 h).symm
theorem encB_one {b : Bk} (h : chkB b = 0) : (encB true b).1 = layB true b := by unfold encB; rw [if_neg (by simpa using h)]
set_option maxHeartbeats 4000000 in
theorem blockOne_law {f f2 : Nat} {w : World} {x y : Bk} {c1 c2 : List Value} (h1 : IsB f w x c1) (h2 : IsB f2 w y c2) (hm1 : ∀ e ∈ x.ents, Sml f e.data) (hm2 : ∀ e ∈ y.ents, Sml f2 e.data) :
    Calls Try.prog 4 #[.agg c1.toArray, .agg c2.toArray] w fun e w' => e = .returned (.bool true) ∧ Below w.heap.size w w' := by
  have hl1 := h1.len
  have hl2 := h2.len
  refine enter (args := [.agg c1.toArray, .agg c2.toArray]) Try.func4 rfl Try.ntmps4 rfl ?_
  repeat (first | ((with_reducible refine WL.topT ?_ ?_); omega) | ((with_reducible refine WL.topF ?_ ?_); omega) | ((with_reducible refine WL.top64 ?_ ?_); omega) | refine WC.seq ?_ | refine WC.block ?_ | refine WC.region ?_ | refine WL.nil ?_ | refine WC.skip ?_ | refine WC.exit ?_ | refine WC.ret ?_ | refine WQ.then rfl ?_ | refine WQ.thenExit ?_ | refine WQ.thenRet ?_ | refine WQ.blk ?_ | refine WQ.blkRet ?_ | refine WQ.blkHere rfl ?_ | refine WQ.blkOther rfl ?_ | refine WL.pure rfl rfl rfl rfl ?_ | refine WL.on rfl rfl ?_ | refine WL.off rfl rfl rfl ?_ | refine WC.condTrue rfl ?_ | refine WC.condFalse rfl ?_)
  refine WL.box rfl rfl rfl rfl rfl fun g1 w1 hf1 => ?_
  have hf1' : Fresh w g1 w1 26 c1 := hf1
  clear hf1
  refine WL.box rfl rfl rfl rfl rfl fun g2 w2 hf2 => ?_
  have hf2' : Fresh w1 g2 w2 26 c2 := hf2
  clear hf2
  have hw2 : Below w.heap.size w w2 := hf1'.below.trans (hf2'.below.mono hf1'.below.size)
  have B1 := hf1'.blk.below hf2'.below hf1'.blk.lt
  have B2 := hf2'.blk
  clear hf1' hf2'
  repeat (first | ((with_reducible refine WL.topT ?_ ?_); omega) | ((with_reducible refine WL.topF ?_ ?_); omega) | ((with_reducible refine WL.top64 ?_ ?_); omega) | refine WC.seq ?_ | refine WC.block ?_ | refine WC.region ?_ | refine WL.nil ?_ | refine WC.skip ?_ | refine WC.exit ?_ | refine WC.ret ?_ | refine WQ.then rfl ?_ | refine WQ.thenExit ?_ | refine WQ.thenRet ?_ | refine WQ.blk ?_ | refine WQ.blkRet ?_ | refine WQ.blkHere rfl ?_ | refine WQ.blkOther rfl ?_ | refine WL.pure rfl rfl rfl rfl ?_ | refine WL.on rfl rfl ?_ | refine WL.off rfl rfl rfl ?_ | refine WC.condTrue rfl ?_ | refine WC.condFalse rfl ?_)
  refine WL.loadMid rfl rfl rfl rfl rfl rfl (VBlk.rangeAt B1) hl1 ?_
  refine WL.call rfl rfl rfl rfl rfl Try.func6 rfl (by kernel_rfl) (heavy_any (IsB.below hw2 h1) hm1) ?_
  rintro _ w3 ⟨hk3, p1, rfl, hp1⟩
  refine ⟨_, rfl, ?_⟩
  have hw3 := hw2.trans (hk3.mono hw2.size)
  have B13 := B1.below hk3 B1.lt
  have B23 := B2.below hk3 B2.lt
  cases p1 with
  | true =>
    repeat (first | ((with_reducible refine WL.topT ?_ ?_); omega) | ((with_reducible refine WL.topF ?_ ?_); omega) | ((with_reducible refine WL.top64 ?_ ?_); omega) | refine WC.seq ?_ | refine WC.block ?_ | refine WC.region ?_ | refine WL.nil ?_ | refine WC.skip ?_ | refine WC.exit ?_ | refine WC.ret ?_ | refine WQ.then rfl ?_ | refine WQ.thenExit ?_ | refine WQ.thenRet ?_ | refine WQ.blk ?_ | refine WQ.blkRet ?_ | refine WQ.blkHere rfl ?_ | refine WQ.blkOther rfl ?_ | refine WL.pure rfl rfl rfl rfl ?_ | refine WL.on rfl rfl ?_ | refine WL.off rfl rfl rfl ?_ | refine WC.condTrue rfl ?_ | refine WC.condFalse rfl ?_)
    exact WQ.ret1 rfl rfl ⟨rfl, hw3⟩
  | false =>
  have hp1 := hp1 rfl
  repeat (first | ((with_reducible refine WL.topT ?_ ?_); omega) | ((with_reducible refine WL.topF ?_ ?_); omega) | ((with_reducible refine WL.top64 ?_ ?_); omega) | refine WC.seq ?_ | refine WC.block ?_ | refine WC.region ?_ | refine WL.nil ?_ | refine WC.skip ?_ | refine WC.exit ?_ | refine WC.ret ?_ | refine WQ.then rfl ?_ | refine WQ.thenExit ?_ | refine WQ.thenRet ?_ | refine WQ.blk ?_ | refine WQ.blkRet ?_ | refine WQ.blkHere rfl ?_ | refine WQ.blkOther rfl ?_ | refine WL.pure rfl rfl rfl rfl ?_ | refine WL.on rfl rfl ?_ | refine WL.off rfl rfl rfl ?_ | refine WC.condTrue rfl ?_ | refine WC.condFalse rfl ?_)
  refine WL.loadMid rfl rfl rfl rfl rfl rfl (VBlk.rangeAt B23) hl2 ?_
  refine WL.on rfl rfl ?_
  refine WL.call rfl rfl rfl rfl rfl Try.func6 rfl (by kernel_rfl) (heavy_any (IsB.below hw3 h2) hm2) ?_
  rintro _ w4 ⟨hk4, p2, rfl, hp2⟩
  refine ⟨_, rfl, ?_⟩
  have hw4 := hw3.trans (hk4.mono hw3.size)
  have B14 := B13.below hk4 B13.lt
  have B24 := B23.below hk4 B23.lt
  cases p2 with
  | true =>
    repeat (first | ((with_reducible refine WL.topT ?_ ?_); omega) | ((with_reducible refine WL.topF ?_ ?_); omega) | ((with_reducible refine WL.top64 ?_ ?_); omega) | refine WC.seq ?_ | refine WC.block ?_ | refine WC.region ?_ | refine WL.nil ?_ | refine WC.skip ?_ | refine WC.exit ?_ | refine WC.ret ?_ | refine WQ.then rfl ?_ | refine WQ.thenExit ?_ | refine WQ.thenRet ?_ | refine WQ.blk ?_ | refine WQ.blkRet ?_ | refine WQ.blkHere rfl ?_ | refine WQ.blkOther rfl ?_ | refine WL.pure rfl rfl rfl rfl ?_ | refine WL.on rfl rfl ?_ | refine WL.off rfl rfl rfl ?_ | refine WC.condTrue rfl ?_ | refine WC.condFalse rfl ?_)
    exact WQ.ret1 rfl rfl ⟨rfl, hw4⟩
  | false =>
  have hp2 := hp2 rfl
  repeat (first | ((with_reducible refine WL.topT ?_ ?_); omega) | ((with_reducible refine WL.topF ?_ ?_); omega) | ((with_reducible refine WL.top64 ?_ ?_); omega) | refine WC.seq ?_ | refine WC.block ?_ | refine WC.region ?_ | refine WL.nil ?_ | refine WC.skip ?_ | refine WC.exit ?_ | refine WC.ret ?_ | refine WQ.then rfl ?_ | refine WQ.thenExit ?_ | refine WQ.thenRet ?_ | refine WQ.blk ?_ | refine WQ.blkRet ?_ | refine WQ.blkHere rfl ?_ | refine WQ.blkOther rfl ?_ | refine WL.pure rfl rfl rfl rfl ?_ | refine WL.on rfl rfl ?_ | refine WL.off rfl rfl rfl ?_ | refine WC.condTrue rfl ?_ | refine WC.condFalse rfl ?_)
  refine WL.loadMid rfl rfl rfl rfl rfl rfl (VBlk.rangeAt B14) hl1 ?_
  refine WL.call rfl rfl rfl rfl rfl Try.func8 rfl (by kernel_rfl) (encode11_any true (IsB.below hw4 h1) hp1) ?_
  rintro _ w7 ⟨b7, rfl, hb7, hk7, ho7⟩
  refine ⟨_, rfl, ?_⟩
  have hw7 : Below w.heap.size w w7 := hw4.trans (hk7.mono hw4.size)
  have B17 := B14.below hk7 B14.lt
  have B27 := B24.below hk7 B24.lt
  rw [encB_two]
  repeat (first | ((with_reducible refine WL.topT ?_ ?_); omega) | ((with_reducible refine WL.topF ?_ ?_); omega) | ((with_reducible refine WL.top64 ?_ ?_); omega) | refine WC.seq ?_ | refine WC.block ?_ | refine WC.region ?_ | refine WL.nil ?_ | refine WC.skip ?_ | refine WC.exit ?_ | refine WC.ret ?_ | refine WQ.then rfl ?_ | refine WQ.thenExit ?_ | refine WQ.thenRet ?_ | refine WQ.blk ?_ | refine WQ.blkRet ?_ | refine WQ.blkHere rfl ?_ | refine WQ.blkOther rfl ?_ | refine WL.pure rfl rfl rfl rfl ?_ | refine WL.on rfl rfl ?_ | refine WL.off rfl rfl rfl ?_ | refine WC.condTrue rfl ?_ | refine WC.condFalse rfl ?_)
  refine WL.loadMid rfl rfl rfl rfl rfl rfl (VBlk.rangeAt B27) hl2 ?_
  refine WL.call rfl rfl rfl rfl rfl Try.func8 rfl (by kernel_rfl) (encode11_any true (IsB.below hw7 h2) hp2) ?_
  rintro _ w8 ⟨b8, rfl, hb8, hk8, ho8⟩
  refine ⟨_, rfl, ?_⟩
  rw [encB_two]
  have hw8 : Below w.heap.size w w8 := hw7.trans (hk8.mono hw7.size)
  have B18 := B17.below hk8 B17.lt
  have B28 := B27.below hk8 B27.lt
  have hb78 := hb7.below hk8
  by_cases he1 : chkB x = 0
  rotate_left
  · repeat (first | ((with_reducible refine WL.topT ?_ ?_); omega) | ((with_reducible refine WL.topF ?_ ?_); omega) | ((with_reducible refine WL.top64 ?_ ?_); omega) | refine WC.seq ?_ | refine WC.block ?_ | refine WC.region ?_ | refine WL.nil ?_ | refine WC.skip ?_ | refine WC.exit ?_ | refine WC.ret ?_ | refine WQ.then rfl ?_ | refine WQ.thenExit ?_ | refine WQ.thenRet ?_ | refine WQ.blk ?_ | refine WQ.blkRet ?_ | refine WQ.blkHere rfl ?_ | refine WQ.blkOther rfl ?_ | refine WL.pure rfl rfl rfl rfl ?_ | refine WL.on rfl rfl ?_ | refine WL.off rfl rfl rfl ?_ | refine WC.condTrue rfl ?_ | refine WC.condFalse rfl ?_)
    refine WL.call rfl rfl rfl rfl rfl Try.func12 rfl (by kernel_rfl) known_any ?_
    rintro _ w9 ⟨rfl, hk9⟩
    refine ⟨_, rfl, ?_⟩
    repeat (first | ((with_reducible refine WL.topT ?_ ?_); omega) | ((with_reducible refine WL.topF ?_ ?_); omega) | ((with_reducible refine WL.top64 ?_ ?_); omega) | refine WC.seq ?_ | refine WC.block ?_ | refine WC.region ?_ | refine WL.nil ?_ | refine WC.skip ?_ | refine WC.exit ?_ | refine WC.ret ?_ | refine WQ.then rfl ?_ | refine WQ.thenExit ?_ | refine WQ.thenRet ?_ | refine WQ.blk ?_ | refine WQ.blkRet ?_ | refine WQ.blkHere rfl ?_ | refine WQ.blkOther rfl ?_ | refine WL.pure rfl rfl rfl rfl ?_ | refine WL.on rfl rfl ?_ | refine WL.off rfl rfl rfl ?_ | refine WC.condTrue rfl ?_ | refine WC.condFalse rfl ?_)
    exact WQ.ret1 rfl rfl ⟨rfl, hw8.trans (hk9.mono hw8.size)⟩
  by_cases he2 : chkB y = 0
  rotate_left
  · repeat (first | ((with_reducible refine WL.topT ?_ ?_); omega) | ((with_reducible refine WL.topF ?_ ?_); omega) | ((with_reducible refine WL.top64 ?_ ?_); omega) | refine WC.seq ?_ | refine WC.block ?_ | refine WC.region ?_ | refine WL.nil ?_ | refine WC.skip ?_ | refine WC.exit ?_ | refine WC.ret ?_ | refine WQ.then rfl ?_ | refine WQ.thenExit ?_ | refine WQ.thenRet ?_ | refine WQ.blk ?_ | refine WQ.blkRet ?_ | refine WQ.blkHere rfl ?_ | refine WQ.blkOther rfl ?_ | refine WL.pure rfl rfl rfl rfl ?_ | refine WL.on rfl rfl ?_ | refine WL.off rfl rfl rfl ?_ | refine WC.condTrue rfl ?_ | refine WC.condFalse rfl ?_)
    refine WL.call rfl rfl rfl rfl rfl Try.func12 rfl (by kernel_rfl) known_any ?_
    rintro _ w9 ⟨rfl, hk9⟩
    refine ⟨_, rfl, ?_⟩
    repeat (first | ((with_reducible refine WL.topT ?_ ?_); omega) | ((with_reducible refine WL.topF ?_ ?_); omega) | ((with_reducible refine WL.top64 ?_ ?_); omega) | refine WC.seq ?_ | refine WC.block ?_ | refine WC.region ?_ | refine WL.nil ?_ | refine WC.skip ?_ | refine WC.exit ?_ | refine WC.ret ?_ | refine WQ.then rfl ?_ | refine WQ.thenExit ?_ | refine WQ.thenRet ?_ | refine WQ.blk ?_ | refine WQ.blkRet ?_ | refine WQ.blkHere rfl ?_ | refine WQ.blkOther rfl ?_ | refine WL.pure rfl rfl rfl rfl ?_ | refine WL.on rfl rfl ?_ | refine WL.off rfl rfl rfl ?_ | refine WC.condTrue rfl ?_ | refine WC.condFalse rfl ?_)
    exact WQ.ret1 rfl rfl ⟨rfl, hw8.trans (hk9.mono hw8.size)⟩
  have hr1 : RngB x := ⟨fun e he => (BkP.hashes h1 e he).2, by obtain ⟨_, -, -, h, -⟩ := h1; exact h⟩
  have hr2 : RngB y := ⟨fun e he => (BkP.hashes h2 e he).2, by obtain ⟨_, -, -, h, -⟩ := h2; exact h⟩
  have hiff : layB true x = layB true y ↔ x = y := ⟨layB_inj he1 he2 hr1 hr2, fun e => by rw [e]⟩
  repeat (first | ((with_reducible refine WL.topT ?_ ?_); omega) | ((with_reducible refine WL.topF ?_ ?_); omega) | ((with_reducible refine WL.top64 ?_ ?_); omega) | refine WC.seq ?_ | refine WC.block ?_ | refine WC.region ?_ | refine WL.nil ?_ | refine WC.skip ?_ | refine WC.exit ?_ | refine WC.ret ?_ | refine WQ.then rfl ?_ | refine WQ.thenExit ?_ | refine WQ.thenRet ?_ | refine WQ.blk ?_ | refine WQ.blkRet ?_ | refine WQ.blkHere rfl ?_ | refine WQ.blkOther rfl ?_ | refine WL.pure rfl rfl rfl rfl ?_ | refine WL.on rfl rfl ?_ | refine WL.off rfl rfl rfl ?_ | refine WC.condTrue rfl ?_ | refine WC.condFalse rfl ?_)
  refine WC.drawn 5 (fun wx => VBlk 26 wx g1 c1 ∧ VBlk 26 wx g2 c2) fun w9 hd9 => ?_
  have hw9 : Below w.heap.size w w9 := hw8.trans (hd9.below _)
  have hS : VBlk 26 w9 g1 c1 ∧ VBlk 26 w9 g2 c2 := ⟨B18.below (hd9.below _) B18.lt, B28.below (hd9.below _) B28.lt⟩
  (((first | refine WD.free 0 rfl (by kernel_rfl) rfl rfl (fun _ _ _ _ _ h => h) rfl rfl (.inr hS) ?_ | refine WD.skip 0 rfl (by kernel_rfl) rfl rfl (fun _ _ _ _ _ h => h) rfl (.inr hS) ?_); try (first | ((with_reducible refine WD.topT ?_ ?_); omega) | ((with_reducible refine WD.topF ?_ ?_); omega) | ((with_reducible refine WD.top64 ?_ ?_); omega))); ((first | refine WD.free 1 rfl (by kernel_rfl) rfl rfl (fun _ _ _ _ _ h => h) rfl rfl (.inr hS) ?_ | refine WD.skip 1 rfl (by kernel_rfl) rfl rfl (fun _ _ _ _ _ h => h) rfl (.inr hS) ?_); try (first | ((with_reducible refine WD.topT ?_ ?_); omega) | ((with_reducible refine WD.topF ?_ ?_); omega) | ((with_reducible refine WD.top64 ?_ ?_); omega))))
  refine WD.loadMid 3 [5, 6, 7, 8, 9, 10] rfl (by kernel_rfl) rfl rfl (fun _ _ _ _ _ h => h) rfl rfl rfl rfl (fun wx hx => VBlk.rangeAt hx.1) hl1 hS ?_
  refine WD.loadMid 4 [5, 6, 7, 8, 9, 10] rfl (by kernel_rfl) rfl rfl (fun _ _ _ _ _ h => h) rfl rfl rfl rfl (fun wx hx => VBlk.rangeAt hx.2) hl2 hS ?_
  refine WD.one 2 (by kernel_rfl) rfl ?_
  refine WL.call rfl rfl rfl rfl rfl Try.func10 rfl (by kernel_rfl) (same7_any (hb78.below (hd9.below _)).sl (hb8.below (hd9.below _)).sl) ?_
  rintro _ w10 ⟨rfl, hk10⟩
  refine ⟨_, rfl, ?_⟩
  have hw10 : Below w.heap.size w w10 := hw9.trans (hk10.mono hw9.size)
  refine WL.nil (WQ.dk (.inr ⟨hS.1.below hk10 hS.1.lt, hS.2.below hk10 hS.2.lt⟩) ?_)
  refine WD.one 5 (by kernel_rfl) rfl ?_
  refine WL.call rfl rfl rfl rfl rfl Try.func11 rfl (by kernel_rfl) (blocks_any (IsB.below hw10 h1) (IsB.below hw10 h2)) ?_
  rintro _ w11 ⟨⟨b, rfl, hb⟩, hk11⟩
  refine ⟨_, rfl, ?_⟩
  have hw11 : Below w.heap.size w w11 := hw10.trans (hk11.mono hw10.size)
  refine WL.nil (WQ.dk (.inl rfl) ?_)
  refine WD.one 6 (by kernel_rfl) rfl ?_
  have hsame : decide ((encB true x).1 = (encB true y).1) = b := by
    rw [encB_one he1, encB_one he2]
    cases b with
    | true => exact decide_eq_true (hiff.2 (hb.1 rfl))
    | false => exact decide_eq_false fun e => by have := hb.2 (hiff.1 e); cases this
  refine WL.pureAs (.bool true) rfl rfl rfl rfl (by rw [hsame]; simp) ?_
  refine WL.nil (WQ.dk (.inl rfl) ?_)
  refine WD.one 7 (by kernel_rfl) rfl ?_
  refine WL.pure rfl rfl rfl rfl ?_
  refine WL.nil (WQ.dk (.inl rfl) ?_)
  refine WD.one 8 (by kernel_rfl) rfl ?_
  refine WL.on rfl rfl ?_
  refine WL.call rfl rfl rfl rfl rfl Try.func12 rfl (by kernel_rfl) known_any ?_
  rintro _ w12 ⟨rfl, hk12⟩
  refine ⟨_, rfl, ?_⟩
  refine WL.nil (WQ.dk (.inl rfl) ?_)
  refine WD.one 9 (by kernel_rfl) rfl ?_
  refine WL.pure rfl rfl rfl rfl ?_
  refine WL.nil (WQ.dk (.inl rfl) ?_)
  refine WD.one 10 (by kernel_rfl) rfl ?_
  refine WL.pure rfl rfl rfl rfl ?_
  refine WL.nil (WQ.dk (.inl rfl) ?_)
  refine WD.done (by kernel_rfl) ?_
  repeat (first | ((with_reducible refine WL.topT ?_ ?_); omega) | ((with_reducible refine WL.topF ?_ ?_); omega) | ((with_reducible refine WL.top64 ?_ ?_); omega) | refine WC.seq ?_ | refine WC.block ?_ | refine WC.region ?_ | refine WL.nil ?_ | refine WC.skip ?_ | refine WC.exit ?_ | refine WC.ret ?_ | refine WQ.then rfl ?_ | refine WQ.thenExit ?_ | refine WQ.thenRet ?_ | refine WQ.blk ?_ | refine WQ.blkRet ?_ | refine WQ.blkHere rfl ?_ | refine WQ.blkOther rfl ?_ | refine WL.pure rfl rfl rfl rfl ?_ | refine WL.on rfl rfl ?_ | refine WL.off rfl rfl rfl ?_ | refine WC.condTrue rfl ?_ | refine WC.condFalse rfl ?_)
  exact WQ.ret1 rfl rfl ⟨rfl, hw11.trans (hk12.mono hw11.size)⟩
end K
end Go.Proofs.Ytlamdhekjlnccaa
