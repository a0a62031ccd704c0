/- Reading (chapter 7): read, Decode, Read. -/
import Derived.Test.YtnboloilljlfiaaCodZ
import Derived.Test.YtnboloilljlfiaaValF
namespace Go.Proofs.Ytnboloilljlfiaa
open Go.RowKit
namespace K
section
variable {n : Nat} {l : Env} {w : World} {fn : Func} {R : Ending → World → Prop}
theorem WQ.retCT {p q g T m : Nat} {ty' : TypeId} {fs : List (Nat × Nat × Nat)} {cs : List Value} {x : Value} (hr : fn.results = #[.cell p ty', .tmp q]) (hl : look l p = some (.pointer (some ⟨g, 0, none⟩))) (hq : look l q = some x) (ht : tyOf ty ty' = some (.struct m fs)) (hm : cs.length = m) (hb : VBlk T w g cs)
    (h : R (.returned (.tuple #[.agg cs.toArray, x])) w) : WQ n (bodyPost Try.prog fn R) .ret l w :=
  ⟨fun a ha => ⟨ha.defers, _, by
    obtain ⟨⟨us, hu⟩, hsz, -⟩ := TyOk.of tyOk ht
    have hp := ha.getD hl
    have hx := ha.getD hq
    simp only [Array.getD_eq_getD_getElem?] at hp hx
    have := run_loadVar_mid (P := Try.prog) w g 0 ty' cs _ (VBlk.rangeAt hb) hu rfl (by rw [hsz, hm])
    simp [results, hr, hp, hx, asAddr, this], h⟩⟩
theorem WQ.retCTT {p q q2 g T m : Nat} {ty' : TypeId} {fs : List (Nat × Nat × Nat)} {cs : List Value} {x x2 : Value} (hr : fn.results = #[.cell p ty', .tmp q, .tmp q2]) (hl : look l p = some (.pointer (some ⟨g, 0, none⟩))) (hq : look l q = some x) (hq2 : look l q2 = some x2) (ht : tyOf ty ty' = some (.struct m fs)) (hm : cs.length = m) (hb : VBlk T w g cs)
    (h : R (.returned (.tuple #[.agg cs.toArray, x, x2])) w) : WQ n (bodyPost Try.prog fn R) .ret l w :=
  ⟨fun a ha => ⟨ha.defers, _, by
    obtain ⟨⟨us, hu⟩, hsz, -⟩ := TyOk.of tyOk ht
    have hp := ha.getD hl
    have hx := ha.getD hq
    have hx2 := ha.getD hq2
    simp only [Array.getD_eq_getD_getElem?] at hp hx hx2
    have := run_loadVar_mid (P := Try.prog) w g 0 ty' cs _ (VBlk.rangeAt hb) hu rfl (by rw [hsz, hm])
    simp [results, hr, hp, hx, hx2, asAddr, this], h⟩⟩
end
section
variable {n : Nat} {Q : Exit → Act → World → Prop} {l : Env} {w : World} {ops : Array Oper} {d : Nat} {S : World → Prop} {m fuel : Nat} {listed : Array Bool}
/-- A struct of parts, taken first. -/
theorem WD.build {oi : Oper} {t : Nat} {parts : List (Nat × Operand)} {ps : List (Nat × Value)} (cells : List Value) (i : Nat) (hi : ops[i]? = some oi) (hs : mayB ops listed i m = true) (hd : oi.dst = some d) (hn : Nat.blt d n = true)
    (hQ : Passes Q) (hw : wants ops l oi = some true) (ho : oi.op = .build t parts.toArray) (hp : evlParts l parts = some ps) (hf : Try.prog.built t ps = some cells.toArray) (hS : listed.getD m false = true ∨ S w)
    (h : WD n ops Q S m fuel (listed.setIfInBounds i true) ((d, .agg cells.toArray) :: l) w) : WD n ops Q S m (fuel + 1) listed l w :=
  WD.first i hi hs hd hn hQ (fun a ha => .inl ⟨wants_run ha hw, fun w _ => by
    unfold execOp
    rw [ho]
    have := run_build (P := Try.prog) w t (parts.toArray.map fun (i, x) => (i, a.eval x)) cells.toArray (by
      rw [show (parts.toArray.map fun (x : Nat × Operand) => (x.1, a.eval x.2)).toList = ps by rw [Array.toList_map]; exact evlParts_map ha hp]
      exact hf)
    simp only [Sem.run_bind, this, Result.andThen_ok]
    rfl⟩) hS h
end

/-- A value of nothing. -/
def zV : V := .mk 0 0 0 noT [] []
def zCells : List Value := [.int .i64 0, .int .i64 0, .int .i64 0, .string ByteArray.empty, .slice none 0 0, .slice none 0 0]
theorem zV_is (O : Nat → Prop) (f : Nat) (w : World) : IsVo O (f + 1) w zV zCells := isVo_leaf (k := 0) (n := 0) (s := 0) (t := noT) (by omega) (by omega) (by omega) (by decide)
/-- What read tells (en: nothing may stand behind). -/
def readV (en : Bool) (l : List Int) : Rd V := match rdV 16 l with
  | .bad e => .bad e
  | .ok v r => if chk 16 v ≠ 0 then .bad (chk 16 v) else if en = true ∧ 0 < r.length then .bad 3 else if 65536 < l.length - r.length then .bad 5 else .ok v r
def ReadPost (en : Bool) (w : World) (l : List Int) (r : Ending) (w' : World) : Prop :=
  Below w.heap.size w w' ∧ ∃ (x : V) (cs : List Value) (n : Nat) (e : Int), r = .returned (.tuple #[.agg cs.toArray, .int .i64 n, .int .i64 e]) ∧ IsVo (fun b => w.heap.size ≤ b) 17 w' x cs ∧
    match readV en l with
    | .ok y q => x = y ∧ n = l.length - q.length ∧ e = 0
    | .bad z => x = zV ∧ n = 0 ∧ e = z ∧ z ≠ 0

structure RdSt (w0 : World) (vb rb xb : Nat) (l3 : List Int) (x : V) (cs : List Value) (e : Int) (wx : World) : Prop where
  rs : RS (rb + 1) wx rb l3 e
  vblk : VBlk 25 wx vb zCells
  xblk : VBlk 25 wx xb cs
  val : IsVo (fun b => w0.heap.size ≤ b ∧ b ≠ rb ∧ b ≠ vb) 17 wx x cs
  below : Below w0.heap.size w0 wx
  ne : vb ≠ rb ∧ xb ≠ rb ∧ w0.heap.size ≤ rb ∧ w0.heap.size ≤ vb
section
variable {w0 wx wy : World} {vb rb xb : Nat} {l3 : List Int} {x : V} {cs : List Value} {e e' : Int}
theorem RdSt.fail (h : RdSt w0 vb rb xb l3 x cs e wx) (hr : RS (rb + 1) wy rb l3 e') (hk : KeepR rb wx wy) : RdSt w0 vb rb xb l3 x cs e' wy := by
  have hb := h.below.size
  have hne := h.ne
  exact ⟨hr, h.vblk.keep hk ⟨h.vblk.lt, hne.1⟩, h.xblk.keep hk ⟨h.xblk.lt, hne.2.1⟩, h.val.keep hk (fun b hb hlt => ⟨hlt, hb.2.1⟩) fun b hb => hb, h.below.trans (Keep.below (Keep.mono hk fun b (hb : b < w0.heap.size) => ⟨by omega, by omega⟩)), hne⟩
theorem RdSt.step (h : RdSt w0 vb rb xb l3 x cs e wx) (hk : Below wx.heap.size wx wy) : RdSt w0 vb rb xb l3 x cs e wy := by
  obtain ⟨sp, cap, h1, h2⟩ := h.rs.ex
  exact h.fail (h.rs.keep (Keep.of_below hk) fun b hb => by have := h1.lt; omega) (KeepR.below hk)
end

set_option maxHeartbeats 4000000 in
theorem read_any {w : World} {v : Value} {l : List Int} (en : Bool) (hs : Sl .u8 w v l) (hb : Byt l) (hl : l.length ≤ 140737488355328) :
    Calls Try.prog 20 #[v, .bool en] w (ReadPost en w l) := by
  refine enter (args := [v, .bool en]) Try.func20 rfl Try.ntmps20 rfl ?_
  have hs0 := SlB.of_sl hs
  obtain ⟨sp, cap, rfl, -⟩ := hs
  repeat (first | ((with_reducible refine WL.topT ?_ ?_); omega) | ((with_reducible refine WL.topF ?_ ?_); omega) | ((with_reducible refine WL.top64 ?_ ?_); omega) | refine WC.seq ?_ | refine WC.block ?_ | refine WC.region ?_ | refine WL.nil ?_ | refine WC.skip ?_ | refine WC.exit ?_ | refine WC.ret ?_ | refine WQ.then rfl ?_ | refine WQ.thenExit ?_ | refine WQ.thenRet ?_ | refine WQ.blk ?_ | refine WQ.blkRet ?_ | refine WQ.blkHere rfl ?_ | refine WQ.blkOther rfl ?_ | refine WL.pure rfl rfl rfl rfl ?_ | refine WL.on rfl rfl ?_ | refine WL.off rfl rfl rfl ?_ | refine WC.condTrue rfl ?_ | refine WC.condFalse rfl ?_)
  refine WL.alloc (z := .agg zCells.toArray) rfl rfl rfl rfl (fun _ => by kernel_rfl) fun vb w1 hf1 => ?_
  have hf1' : Fresh w vb w1 25 zCells := hf1
  clear hf1
  repeat (first | ((with_reducible refine WL.topT ?_ ?_); omega) | ((with_reducible refine WL.topF ?_ ?_); omega) | ((with_reducible refine WL.top64 ?_ ?_); omega) | refine WC.seq ?_ | refine WC.block ?_ | refine WC.region ?_ | refine WL.nil ?_ | refine WC.skip ?_ | refine WC.exit ?_ | refine WC.ret ?_ | refine WQ.then rfl ?_ | refine WQ.thenExit ?_ | refine WQ.thenRet ?_ | refine WQ.blk ?_ | refine WQ.blkRet ?_ | refine WQ.blkHere rfl ?_ | refine WQ.blkOther rfl ?_ | refine WL.pure rfl rfl rfl rfl ?_ | refine WL.on rfl rfl ?_ | refine WL.off rfl rfl rfl ?_ | refine WC.condTrue rfl ?_ | refine WC.condFalse rfl ?_)
  refine WL.build [.slice sp l.length cap, .int .i64 0] rfl rfl rfl rfl rfl (by kernel_rfl) ?_
  refine WL.box rfl rfl rfl rfl rfl fun rb w2 hf2 => ?_
  have hf2' : Fresh w1 rb w2 63 [.slice sp l.length cap, .int .i64 0] := hf2
  clear hf2
  have hz1 := hf1'.size
  have hz2 := hf2'.size
  have hvb := hf1'.eq
  have hrb := hf2'.eq
  have hw12 : Below w.heap.size w w2 := hf1'.below.trans (hf2'.below.mono (by omega))
  have hr2 : RS (rb + 1) w2 rb l 0 := ⟨Nat.lt_succ_self _, hb, sp, cap, hf2'.blk, (hs0.keep (Keep.of_below hw12) fun b hb => hb).mono fun b hb => by omega⟩
  have hblk2 : VBlk 25 w2 vb zCells := hf1'.blk.below hf2'.below hf1'.blk.lt
  clear hf1' hf2'
  repeat (first | ((with_reducible refine WL.topT ?_ ?_); omega) | ((with_reducible refine WL.topF ?_ ?_); omega) | ((with_reducible refine WL.top64 ?_ ?_); omega) | refine WC.seq ?_ | refine WC.block ?_ | refine WC.region ?_ | refine WL.nil ?_ | refine WC.skip ?_ | refine WC.exit ?_ | refine WC.ret ?_ | refine WQ.then rfl ?_ | refine WQ.thenExit ?_ | refine WQ.thenRet ?_ | refine WQ.blk ?_ | refine WQ.blkRet ?_ | refine WQ.blkHere rfl ?_ | refine WQ.blkOther rfl ?_ | refine WL.pure rfl rfl rfl rfl ?_ | refine WL.on rfl rfl ?_ | refine WL.off rfl rfl rfl ?_ | refine WC.condTrue rfl ?_ | refine WC.condFalse rfl ?_)
  refine WL.call rfl rfl rfl rfl rfl Try.func30 rfl (by kernel_rfl) (value_any 16 1 rfl (by omega) hr2 (by omega)) ?_
  rintro _ w3 ⟨x, cs, l3, e3, rfl, hv3, hr3, hk3, ho3⟩
  refine ⟨_, rfl, ?_⟩
  have hblk3 := hblk2.keep hk3 ⟨hblk2.lt, by omega⟩
  refine WL.alloc (z := .agg zCells.toArray) rfl rfl rfl rfl (fun _ => by kernel_rfl) fun xb w4 hf4 => ?_
  have hf4' : Fresh w3 xb w4 25 zCells := hf4
  clear hf4
  have hcs := hv3.len
  refine WL.storeRow rfl rfl rfl rfl rfl rfl hf4'.blk hcs rfl hv3.one ?_
  have hz3 := hk3.size
  have hxb := hf4'.eq
  have hz4 := hf4'.size
  have hb4 : Below w3.heap.size w3 (w4.setRow xb cs.toArray) := below_setRow hf4'.below (by omega) _
  have hx4 : VBlk 25 (w4.setRow xb cs.toArray) xb cs := hf4'.blk.setRow cs
  have hz5 : (w4.setRow xb cs.toArray).heap.size = w3.heap.size + 1 := by simpa using hz4
  generalize w4.setRow xb cs.toArray = w5 at hb4 hx4 hz5
  have hv5 : IsVo (fun b => w.heap.size ≤ b ∧ b ≠ rb ∧ b ≠ vb) 17 w5 x cs := (hv3.there.keep (Keep.of_below hb4) (fun b _ h => h) fun b hb => hb).mono fun b hb => by have := hb.1; omega
  have hr5 : RS (rb + 1) w5 rb l3 e3 := hr3.keep (Keep.of_below hb4) fun b hb => by omega
  have hblk5 : VBlk 25 w5 vb zCells := hblk3.below hb4 hblk3.lt
  have hw5 : Below w.heap.size w w5 := by
    refine hw12.trans (Below.trans (Keep.below (Keep.mono hk3 fun b (hb : b < w.heap.size) => ⟨by omega, by omega⟩)) (hb4.mono (by omega)))
  have hne : vb ≠ rb ∧ xb ≠ rb ∧ w.heap.size ≤ rb ∧ w.heap.size ≤ vb := by omega
  have hst : RdSt w vb rb xb l3 x cs e3 w5 := ⟨hr5, hblk5, hx4, hv5, hw5, hne⟩
  obtain ⟨rsp, rcap, hrc, -⟩ := hr5.ex
  have hlen := ho3.len
  clear hf4' hv3 hk3 hr3 hr5 hblk5 hx4 hv5 hw5 hblk3 hb4 hz5 hr2 hblk2 hw12 hs0
  repeat (first | ((with_reducible refine WL.topT ?_ ?_); omega) | ((with_reducible refine WL.topF ?_ ?_); omega) | ((with_reducible refine WL.top64 ?_ ?_); omega) | refine WC.seq ?_ | refine WC.block ?_ | refine WC.region ?_ | refine WL.nil ?_ | refine WC.skip ?_ | refine WC.exit ?_ | refine WC.ret ?_ | refine WQ.then rfl ?_ | refine WQ.thenExit ?_ | refine WQ.thenRet ?_ | refine WQ.blk ?_ | refine WQ.blkRet ?_ | refine WQ.blkHere rfl ?_ | refine WQ.blkOther rfl ?_ | refine WL.pure rfl rfl rfl rfl ?_ | refine WL.on rfl rfl ?_ | refine WL.off rfl rfl rfl ?_ | refine WC.condTrue rfl ?_ | refine WC.condFalse rfl ?_)
  refine WL.load rfl rfl rfl rfl rfl rfl (hrc.cell 1 (by simp)) ?_
  repeat (first | ((with_reducible refine WL.topT ?_ ?_); omega) | ((with_reducible refine WL.topF ?_ ?_); omega) | ((with_reducible refine WL.top64 ?_ ?_); omega) | refine WC.seq ?_ | refine WC.block ?_ | refine WC.region ?_ | refine WL.nil ?_ | refine WC.skip ?_ | refine WC.exit ?_ | refine WC.ret ?_ | refine WQ.then rfl ?_ | refine WQ.thenExit ?_ | refine WQ.thenRet ?_ | refine WQ.blk ?_ | refine WQ.blkRet ?_ | refine WQ.blkHere rfl ?_ | refine WQ.blkOther rfl ?_ | refine WL.pure rfl rfl rfl rfl ?_ | refine WL.on rfl rfl ?_ | refine WL.off rfl rfl rfl ?_ | refine WC.condTrue rfl ?_ | refine WC.condFalse rfl ?_)
  refine WC.mid (fun _ : Int => [(0, .slice sp l.length cap), (1, .bool en), (4, .pointer (some ⟨vb, 0, none⟩)), (7, .pointer (some ⟨rb, 0, none⟩)), (8, .pointer (some ⟨xb, 0, none⟩))]) (fun e4 wx => e4 = (if e3 = 0 then chk 16 x else e3) ∧ RdSt w vb rb xb l3 x cs e4 wx) rfl ?_ ?_
  · by_cases he : e3 = 0
    · refine WC.condT rfl he ?_
      repeat (first | ((with_reducible refine WL.topT ?_ ?_); omega) | ((with_reducible refine WL.topF ?_ ?_); omega) | ((with_reducible refine WL.top64 ?_ ?_); omega) | refine WC.seq ?_ | refine WC.block ?_ | refine WC.region ?_ | refine WL.nil ?_ | refine WC.skip ?_ | refine WC.exit ?_ | refine WC.ret ?_ | refine WQ.then rfl ?_ | refine WQ.thenExit ?_ | refine WQ.thenRet ?_ | refine WQ.blk ?_ | refine WQ.blkRet ?_ | refine WQ.blkHere rfl ?_ | refine WQ.blkOther rfl ?_ | refine WL.pure rfl rfl rfl rfl ?_ | refine WL.on rfl rfl ?_ | refine WL.off rfl rfl rfl ?_ | refine WC.condTrue rfl ?_ | refine WC.condFalse rfl ?_)
      refine WL.loadMid rfl rfl rfl rfl rfl rfl (VBlk.rangeAt hst.xblk) hcs ?_
      refine WL.call rfl rfl rfl rfl rfl Try.func18 rfl (by kernel_rfl) (Vl.Check_any hst.val.isV) ?_
      rintro _ w6 ⟨rfl, hb6⟩
      refine ⟨_, rfl, ?_⟩
      have hst6 := hst.step hb6
      refine WL.call rfl rfl rfl rfl rfl Try.func31 rfl (by kernel_rfl) (fail_any hst6.rs _) ?_
      rintro _ w7 ⟨rfl, hr7, hk7⟩
      refine ⟨_, rfl, ?_⟩
      repeat (first | ((with_reducible refine WL.topT ?_ ?_); omega) | ((with_reducible refine WL.topF ?_ ?_); omega) | ((with_reducible refine WL.top64 ?_ ?_); omega) | refine WC.seq ?_ | refine WC.block ?_ | refine WC.region ?_ | refine WL.nil ?_ | refine WC.skip ?_ | refine WC.exit ?_ | refine WC.ret ?_ | refine WQ.then rfl ?_ | refine WQ.thenExit ?_ | refine WQ.thenRet ?_ | refine WQ.blk ?_ | refine WQ.blkRet ?_ | refine WQ.blkHere rfl ?_ | refine WQ.blkOther rfl ?_ | refine WL.pure rfl rfl rfl rfl ?_ | refine WL.on rfl rfl ?_ | refine WL.off rfl rfl rfl ?_ | refine WC.condTrue rfl ?_ | refine WC.condFalse rfl ?_)
      rw [if_pos he] at hr7
      exact WQ.meet _ ⟨rfl, rfl, rfl, rfl, rfl, trivial⟩ ⟨by rw [if_pos he], hst6.fail hr7 hk7⟩
    · refine WC.condF rfl he ?_
      repeat (first | ((with_reducible refine WL.topT ?_ ?_); omega) | ((with_reducible refine WL.topF ?_ ?_); omega) | ((with_reducible refine WL.top64 ?_ ?_); omega) | refine WC.seq ?_ | refine WC.block ?_ | refine WC.region ?_ | refine WL.nil ?_ | refine WC.skip ?_ | refine WC.exit ?_ | refine WC.ret ?_ | refine WQ.then rfl ?_ | refine WQ.thenExit ?_ | refine WQ.thenRet ?_ | refine WQ.blk ?_ | refine WQ.blkRet ?_ | refine WQ.blkHere rfl ?_ | refine WQ.blkOther rfl ?_ | refine WL.pure rfl rfl rfl rfl ?_ | refine WL.on rfl rfl ?_ | refine WL.off rfl rfl rfl ?_ | refine WC.condTrue rfl ?_ | refine WC.condFalse rfl ?_)
      exact WQ.meet _ ⟨rfl, rfl, rfl, rfl, rfl, trivial⟩ ⟨by rw [if_neg he], hst⟩
  rintro e4 w6 ⟨he4, hst6⟩
  clear hrc hst
  obtain ⟨rsp, rcap, hrc, -⟩ := hst6.rs.ex
  repeat (first | refine WC.seq ?_ | refine WC.block ?_ | refine WC.region ?_ | refine WL.nil ?_ | refine WC.skip ?_ | refine WC.exit ?_ | refine WC.ret ?_ | refine WQ.then rfl ?_ | refine WQ.thenExit ?_ | refine WQ.thenRet ?_ | refine WQ.blk ?_ | refine WQ.blkRet ?_ | refine WQ.blkHere rfl ?_ | refine WQ.blkOther rfl ?_)
  refine WL.mid (fun b : Bool => [(0, .slice sp l.length cap), (4, .pointer (some ⟨vb, 0, none⟩)), (7, .pointer (some ⟨rb, 0, none⟩)), (8, .pointer (some ⟨xb, 0, none⟩)), (32, .bool b)]) (fun b wx => b = decide (en = true ∧ 0 < l3.length) ∧ wx = w6) rfl ?_ ?_
  · cases en with
    | true =>
      repeat (first | ((with_reducible refine WL.topT ?_ ?_); omega) | ((with_reducible refine WL.topF ?_ ?_); omega) | ((with_reducible refine WL.top64 ?_ ?_); omega) | refine WC.seq ?_ | refine WC.block ?_ | refine WC.region ?_ | refine WL.nil ?_ | refine WC.skip ?_ | refine WC.exit ?_ | refine WC.ret ?_ | refine WQ.then rfl ?_ | refine WQ.thenExit ?_ | refine WQ.thenRet ?_ | refine WQ.blk ?_ | refine WQ.blkRet ?_ | refine WQ.blkHere rfl ?_ | refine WQ.blkOther rfl ?_ | refine WL.pure rfl rfl rfl rfl ?_ | refine WL.on rfl rfl ?_ | refine WL.off rfl rfl rfl ?_ | refine WC.condTrue rfl ?_ | refine WC.condFalse rfl ?_)
      refine WL.load rfl rfl rfl rfl rfl rfl (hrc.cell 0 (by simp)) ?_
      by_cases h0 : 0 < l3.length
      · repeat (first | ((with_reducible refine WL.topT ?_ ?_); omega) | ((with_reducible refine WL.topF ?_ ?_); omega) | ((with_reducible refine WL.top64 ?_ ?_); omega) | refine WC.seq ?_ | refine WC.block ?_ | refine WC.region ?_ | refine WL.nil ?_ | refine WC.skip ?_ | refine WC.exit ?_ | refine WC.ret ?_ | refine WQ.then rfl ?_ | refine WQ.thenExit ?_ | refine WQ.thenRet ?_ | refine WQ.blk ?_ | refine WQ.blkRet ?_ | refine WQ.blkHere rfl ?_ | refine WQ.blkOther rfl ?_ | refine WL.pure rfl rfl rfl rfl ?_ | refine WL.on rfl rfl ?_ | refine WL.off rfl rfl rfl ?_ | refine WC.condTrue rfl ?_ | refine WC.condFalse rfl ?_)
        exact WQ.meet true ⟨rfl, rfl, rfl, rfl, rfl, trivial⟩ ⟨by simp [h0], rfl⟩
      · repeat (first | ((with_reducible refine WL.topT ?_ ?_); omega) | ((with_reducible refine WL.topF ?_ ?_); omega) | ((with_reducible refine WL.top64 ?_ ?_); omega) | refine WC.seq ?_ | refine WC.block ?_ | refine WC.region ?_ | refine WL.nil ?_ | refine WC.skip ?_ | refine WC.exit ?_ | refine WC.ret ?_ | refine WQ.then rfl ?_ | refine WQ.thenExit ?_ | refine WQ.thenRet ?_ | refine WQ.blk ?_ | refine WQ.blkRet ?_ | refine WQ.blkHere rfl ?_ | refine WQ.blkOther rfl ?_ | refine WL.pure rfl rfl rfl rfl ?_ | refine WL.on rfl rfl ?_ | refine WL.off rfl rfl rfl ?_ | refine WC.condTrue rfl ?_ | refine WC.condFalse rfl ?_)
        exact WQ.meet false ⟨rfl, rfl, rfl, rfl, rfl, trivial⟩ ⟨by simp [h0], rfl⟩
    | false =>
      repeat (first | ((with_reducible refine WL.topT ?_ ?_); omega) | ((with_reducible refine WL.topF ?_ ?_); omega) | ((with_reducible refine WL.top64 ?_ ?_); omega) | refine WC.seq ?_ | refine WC.block ?_ | refine WC.region ?_ | refine WL.nil ?_ | refine WC.skip ?_ | refine WC.exit ?_ | refine WC.ret ?_ | refine WQ.then rfl ?_ | refine WQ.thenExit ?_ | refine WQ.thenRet ?_ | refine WQ.blk ?_ | refine WQ.blkRet ?_ | refine WQ.blkHere rfl ?_ | refine WQ.blkOther rfl ?_ | refine WL.pure rfl rfl rfl rfl ?_ | refine WL.on rfl rfl ?_ | refine WL.off rfl rfl rfl ?_ | refine WC.condTrue rfl ?_ | refine WC.condFalse rfl ?_)
      exact WQ.meet false ⟨rfl, rfl, rfl, rfl, rfl, trivial⟩ ⟨by simp, rfl⟩
  rintro b _ ⟨hb5, rfl⟩
  refine WC.mid (fun _ : Int => [(0, .slice sp l.length cap), (4, .pointer (some ⟨vb, 0, none⟩)), (7, .pointer (some ⟨rb, 0, none⟩)), (8, .pointer (some ⟨xb, 0, none⟩))]) (fun e5 wx => e5 = (if e4 = 0 then (if en = true ∧ 0 < l3.length then 3 else 0) else e4) ∧ RdSt w vb rb xb l3 x cs e5 wx) rfl ?_ ?_
  · cases b with
    | true =>
      repeat (first | ((with_reducible refine WL.topT ?_ ?_); omega) | ((with_reducible refine WL.topF ?_ ?_); omega) | ((with_reducible refine WL.top64 ?_ ?_); omega) | refine WC.seq ?_ | refine WC.block ?_ | refine WC.region ?_ | refine WL.nil ?_ | refine WC.skip ?_ | refine WC.exit ?_ | refine WC.ret ?_ | refine WQ.then rfl ?_ | refine WQ.thenExit ?_ | refine WQ.thenRet ?_ | refine WQ.blk ?_ | refine WQ.blkRet ?_ | refine WQ.blkHere rfl ?_ | refine WQ.blkOther rfl ?_ | refine WL.pure rfl rfl rfl rfl ?_ | refine WL.on rfl rfl ?_ | refine WL.off rfl rfl rfl ?_ | refine WC.condTrue rfl ?_ | refine WC.condFalse rfl ?_)
      refine WL.call rfl rfl rfl rfl rfl Try.func31 rfl (by kernel_rfl) (fail_any hst6.rs 3) ?_
      rintro _ w7 ⟨rfl, hr7, hk7⟩
      refine ⟨_, rfl, ?_⟩
      repeat (first | ((with_reducible refine WL.topT ?_ ?_); omega) | ((with_reducible refine WL.topF ?_ ?_); omega) | ((with_reducible refine WL.top64 ?_ ?_); omega) | refine WC.seq ?_ | refine WC.block ?_ | refine WC.region ?_ | refine WL.nil ?_ | refine WC.skip ?_ | refine WC.exit ?_ | refine WC.ret ?_ | refine WQ.then rfl ?_ | refine WQ.thenExit ?_ | refine WQ.thenRet ?_ | refine WQ.blk ?_ | refine WQ.blkRet ?_ | refine WQ.blkHere rfl ?_ | refine WQ.blkOther rfl ?_ | refine WL.pure rfl rfl rfl rfl ?_ | refine WL.on rfl rfl ?_ | refine WL.off rfl rfl rfl ?_ | refine WC.condTrue rfl ?_ | refine WC.condFalse rfl ?_)
      refine WQ.meet _ ⟨rfl, rfl, rfl, rfl, trivial⟩ ⟨?_, hst6.fail hr7 hk7⟩
      rw [if_pos (of_decide_eq_true hb5.symm)]
    | false =>
      repeat (first | ((with_reducible refine WL.topT ?_ ?_); omega) | ((with_reducible refine WL.topF ?_ ?_); omega) | ((with_reducible refine WL.top64 ?_ ?_); omega) | refine WC.seq ?_ | refine WC.block ?_ | refine WC.region ?_ | refine WL.nil ?_ | refine WC.skip ?_ | refine WC.exit ?_ | refine WC.ret ?_ | refine WQ.then rfl ?_ | refine WQ.thenExit ?_ | refine WQ.thenRet ?_ | refine WQ.blk ?_ | refine WQ.blkRet ?_ | refine WQ.blkHere rfl ?_ | refine WQ.blkOther rfl ?_ | refine WL.pure rfl rfl rfl rfl ?_ | refine WL.on rfl rfl ?_ | refine WL.off rfl rfl rfl ?_ | refine WC.condTrue rfl ?_ | refine WC.condFalse rfl ?_)
      refine WQ.meet e4 ⟨rfl, rfl, rfl, rfl, trivial⟩ ⟨?_, hst6⟩
      rw [if_neg (of_decide_eq_false hb5.symm)]
      split <;> omega
  rintro e5 w7 ⟨he5, hst7⟩
  clear hrc hst6 hb5
  obtain ⟨rsp, rcap, hrc, -⟩ := hst7.rs.ex
  repeat (first | ((with_reducible refine WL.topT ?_ ?_); omega) | ((with_reducible refine WL.topF ?_ ?_); omega) | ((with_reducible refine WL.top64 ?_ ?_); omega) | refine WC.seq ?_ | refine WC.block ?_ | refine WC.region ?_ | refine WL.nil ?_ | refine WC.skip ?_ | refine WC.exit ?_ | refine WC.ret ?_ | refine WQ.then rfl ?_ | refine WQ.thenExit ?_ | refine WQ.thenRet ?_ | refine WQ.blk ?_ | refine WQ.blkRet ?_ | refine WQ.blkHere rfl ?_ | refine WQ.blkOther rfl ?_ | refine WL.pure rfl rfl rfl rfl ?_ | refine WL.on rfl rfl ?_ | refine WL.off rfl rfl rfl ?_ | refine WC.condTrue rfl ?_ | refine WC.condFalse rfl ?_)
  refine WL.load rfl rfl rfl rfl rfl rfl (hrc.cell 0 (by simp)) ?_
  repeat (first | ((with_reducible refine WL.topT ?_ ?_); omega) | ((with_reducible refine WL.topF ?_ ?_); omega) | ((with_reducible refine WL.top64 ?_ ?_); omega) | refine WC.seq ?_ | refine WC.block ?_ | refine WC.region ?_ | refine WL.nil ?_ | refine WC.skip ?_ | refine WC.exit ?_ | refine WC.ret ?_ | refine WQ.then rfl ?_ | refine WQ.thenExit ?_ | refine WQ.thenRet ?_ | refine WQ.blk ?_ | refine WQ.blkRet ?_ | refine WQ.blkHere rfl ?_ | refine WQ.blkOther rfl ?_ | refine WL.pure rfl rfl rfl rfl ?_ | refine WL.on rfl rfl ?_ | refine WL.off rfl rfl rfl ?_ | refine WC.condTrue rfl ?_ | refine WC.condFalse rfl ?_)
  refine WC.mid (fun _ : Int => [(9, .int .i64 ((l.length : Int) - (l3.length : Int))), (0, .slice sp l.length cap), (4, .pointer (some ⟨vb, 0, none⟩)), (7, .pointer (some ⟨rb, 0, none⟩)), (8, .pointer (some ⟨xb, 0, none⟩))]) (fun e6 wx => e6 = (if e5 = 0 then (if 65536 < l.length - l3.length then 5 else 0) else e5) ∧ RdSt w vb rb xb l3 x cs e6 wx) rfl ?_ ?_
  · by_cases hbig : 65536 < l.length - l3.length
    · refine WC.condT rfl (by omega) ?_
      repeat (first | ((with_reducible refine WL.topT ?_ ?_); omega) | ((with_reducible refine WL.topF ?_ ?_); omega) | ((with_reducible refine WL.top64 ?_ ?_); omega) | refine WC.seq ?_ | refine WC.block ?_ | refine WC.region ?_ | refine WL.nil ?_ | refine WC.skip ?_ | refine WC.exit ?_ | refine WC.ret ?_ | refine WQ.then rfl ?_ | refine WQ.thenExit ?_ | refine WQ.thenRet ?_ | refine WQ.blk ?_ | refine WQ.blkRet ?_ | refine WQ.blkHere rfl ?_ | refine WQ.blkOther rfl ?_ | refine WL.pure rfl rfl rfl rfl ?_ | refine WL.on rfl rfl ?_ | refine WL.off rfl rfl rfl ?_ | refine WC.condTrue rfl ?_ | refine WC.condFalse rfl ?_)
      refine WL.call rfl rfl rfl rfl rfl Try.func31 rfl (by kernel_rfl) (fail_any hst7.rs 5) ?_
      rintro _ w8 ⟨rfl, hr8, hk8⟩
      refine ⟨_, rfl, ?_⟩
      repeat (first | ((with_reducible refine WL.topT ?_ ?_); omega) | ((with_reducible refine WL.topF ?_ ?_); omega) | ((with_reducible refine WL.top64 ?_ ?_); omega) | refine WC.seq ?_ | refine WC.block ?_ | refine WC.region ?_ | refine WL.nil ?_ | refine WC.skip ?_ | refine WC.exit ?_ | refine WC.ret ?_ | refine WQ.then rfl ?_ | refine WQ.thenExit ?_ | refine WQ.thenRet ?_ | refine WQ.blk ?_ | refine WQ.blkRet ?_ | refine WQ.blkHere rfl ?_ | refine WQ.blkOther rfl ?_ | refine WL.pure rfl rfl rfl rfl ?_ | refine WL.on rfl rfl ?_ | refine WL.off rfl rfl rfl ?_ | refine WC.condTrue rfl ?_ | refine WC.condFalse rfl ?_)
      refine WQ.meet _ ⟨rfl, rfl, rfl, rfl, rfl, trivial⟩ ⟨?_, hst7.fail hr8 hk8⟩
      rw [if_pos hbig]
    · refine WC.condF rfl (by omega) ?_
      repeat (first | ((with_reducible refine WL.topT ?_ ?_); omega) | ((with_reducible refine WL.topF ?_ ?_); omega) | ((with_reducible refine WL.top64 ?_ ?_); omega) | refine WC.seq ?_ | refine WC.block ?_ | refine WC.region ?_ | refine WL.nil ?_ | refine WC.skip ?_ | refine WC.exit ?_ | refine WC.ret ?_ | refine WQ.then rfl ?_ | refine WQ.thenExit ?_ | refine WQ.thenRet ?_ | refine WQ.blk ?_ | refine WQ.blkRet ?_ | refine WQ.blkHere rfl ?_ | refine WQ.blkOther rfl ?_ | refine WL.pure rfl rfl rfl rfl ?_ | refine WL.on rfl rfl ?_ | refine WL.off rfl rfl rfl ?_ | refine WC.condTrue rfl ?_ | refine WC.condFalse rfl ?_)
      refine WQ.meet e5 ⟨rfl, rfl, rfl, rfl, rfl, trivial⟩ ⟨?_, hst7⟩
      rw [if_neg hbig]
      split <;> omega
  rintro e6 w8 ⟨he6, hst8⟩
  clear hrc hst7
  obtain ⟨rsp, rcap, hrc, -⟩ := hst8.rs.ex
  -- what read tells
  have hout : match readV en l with
      | .ok y q => e6 = 0 ∧ x = y ∧ l3 = q
      | .bad z => e6 = z ∧ z ≠ 0 := by
    have h3 := ho3.ok rfl
    unfold readV
    cases hq : rdV 16 l with
    | bad z =>
      rw [hq] at h3
      obtain ⟨rfl, hz⟩ := h3
      rw [if_neg hz] at he4
      subst he4
      rw [if_neg hz] at he5
      subst he5
      rw [if_neg hz] at he6
      subst he6
      exact ⟨rfl, hz⟩
    | ok y q =>
      rw [hq] at h3
      obtain ⟨rfl, rfl, rfl⟩ := h3
      rw [if_pos rfl] at he4
      simp only
      by_cases hc : chk 16 x = 0
      · rw [if_neg (by simpa using hc)]
        rw [he4, if_pos hc] at he5
        by_cases h1 : en = true ∧ 0 < l3.length
        · rw [if_pos h1] at he5 ⊢
          rw [he5] at he6
          simp at he6
          exact ⟨he6, by omega⟩
        · rw [if_neg h1] at he5 ⊢
          rw [he5, if_pos rfl] at he6
          by_cases h2 : 65536 < l.length - l3.length
          · rw [if_pos h2] at he6 ⊢
            exact ⟨he6, by omega⟩
          · rw [if_neg h2] at he6 ⊢
            exact ⟨he6, rfl, rfl⟩
      · rw [if_pos hc]
        rw [he4, if_neg hc] at he5
        rw [he5, if_neg hc] at he6
        exact ⟨he6, hc⟩
  repeat (first | ((with_reducible refine WL.topT ?_ ?_); omega) | ((with_reducible refine WL.topF ?_ ?_); omega) | ((with_reducible refine WL.top64 ?_ ?_); omega) | refine WC.seq ?_ | refine WC.block ?_ | refine WC.region ?_ | refine WL.nil ?_ | refine WC.skip ?_ | refine WC.exit ?_ | refine WC.ret ?_ | refine WQ.then rfl ?_ | refine WQ.thenExit ?_ | refine WQ.thenRet ?_ | refine WQ.blk ?_ | refine WQ.blkRet ?_ | refine WQ.blkHere rfl ?_ | refine WQ.blkOther rfl ?_ | refine WL.pure rfl rfl rfl rfl ?_ | refine WL.on rfl rfl ?_ | refine WL.off rfl rfl rfl ?_ | refine WC.condTrue rfl ?_ | refine WC.condFalse rfl ?_)
  refine WL.load rfl rfl rfl rfl rfl rfl (hrc.cell 1 (by simp)) ?_
  by_cases h6 : e6 = 0
  · repeat (first | ((with_reducible refine WL.topT ?_ ?_); omega) | ((with_reducible refine WL.topF ?_ ?_); omega) | ((with_reducible refine WL.top64 ?_ ?_); omega) | refine WC.seq ?_ | refine WC.block ?_ | refine WC.region ?_ | refine WL.nil ?_ | refine WC.skip ?_ | refine WC.exit ?_ | refine WC.ret ?_ | refine WQ.then rfl ?_ | refine WQ.thenExit ?_ | refine WQ.thenRet ?_ | refine WQ.blk ?_ | refine WQ.blkRet ?_ | refine WQ.blkHere rfl ?_ | refine WQ.blkOther rfl ?_ | refine WL.pure rfl rfl rfl rfl ?_ | refine WL.on rfl rfl ?_ | refine WL.off rfl rfl rfl ?_ | refine WC.condTrue rfl ?_ | refine WC.condFalse rfl ?_)
    refine WL.loadMid rfl rfl rfl rfl rfl rfl (VBlk.rangeAt hst8.xblk) hcs ?_
    repeat (first | ((with_reducible refine WL.topT ?_ ?_); omega) | ((with_reducible refine WL.topF ?_ ?_); omega) | ((with_reducible refine WL.top64 ?_ ?_); omega) | refine WC.seq ?_ | refine WC.block ?_ | refine WC.region ?_ | refine WL.nil ?_ | refine WC.skip ?_ | refine WC.exit ?_ | refine WC.ret ?_ | refine WQ.then rfl ?_ | refine WQ.thenExit ?_ | refine WQ.thenRet ?_ | refine WQ.blk ?_ | refine WQ.blkRet ?_ | refine WQ.blkHere rfl ?_ | refine WQ.blkOther rfl ?_ | refine WL.pure rfl rfl rfl rfl ?_ | refine WL.on rfl rfl ?_ | refine WL.off rfl rfl rfl ?_ | refine WC.condTrue rfl ?_ | refine WC.condFalse rfl ?_)
    refine WL.storeRow rfl rfl rfl rfl rfl rfl hst8.vblk hcs rfl hst8.val.one ?_
    repeat (first | ((with_reducible refine WL.topT ?_ ?_); omega) | ((with_reducible refine WL.topF ?_ ?_); omega) | ((with_reducible refine WL.top64 ?_ ?_); omega) | refine WC.seq ?_ | refine WC.block ?_ | refine WC.region ?_ | refine WL.nil ?_ | refine WC.skip ?_ | refine WC.exit ?_ | refine WC.ret ?_ | refine WQ.then rfl ?_ | refine WQ.thenExit ?_ | refine WQ.thenRet ?_ | refine WQ.blk ?_ | refine WQ.blkRet ?_ | refine WQ.blkHere rfl ?_ | refine WQ.blkOther rfl ?_ | refine WL.pure rfl rfl rfl rfl ?_ | refine WL.on rfl rfl ?_ | refine WL.off rfl rfl rfl ?_ | refine WC.condTrue rfl ?_ | refine WC.condFalse rfl ?_)
    have hset : Keep (fun b => b ≠ vb) w8 (w8.setRow vb cs.toArray) := Keep.setRow (Keep.refl _ w8) (fun hk => hk rfl) _
    refine WQ.retCTT rfl rfl rfl rfl rfl hcs (hst8.vblk.setRow cs) ⟨Keep.below (Keep.setRow (Keep.of_below hst8.below) (fun hk => by omega) _), x, cs, l.length - l3.length, 0, ?_, (hst8.val.keep hset (fun b hb _ => hb.2.2) fun b hb => hb.1), ?_⟩
    · rw [show ((l.length - l3.length : Nat) : Int) = (l.length : Int) - (l3.length : Int) by omega]
    · cases hq : readV en l with
      | ok y q => rw [hq] at hout; obtain ⟨-, rfl, rfl⟩ := hout; exact ⟨rfl, rfl, rfl⟩
      | bad z => rw [hq] at hout; exact absurd (hout.1.symm.trans h6) hout.2
  · repeat (first | ((with_reducible refine WL.topT ?_ ?_); omega) | ((with_reducible refine WL.topF ?_ ?_); omega) | ((with_reducible refine WL.top64 ?_ ?_); omega) | refine WC.seq ?_ | refine WC.block ?_ | refine WC.region ?_ | refine WL.nil ?_ | refine WC.skip ?_ | refine WC.exit ?_ | refine WC.ret ?_ | refine WQ.then rfl ?_ | refine WQ.thenExit ?_ | refine WQ.thenRet ?_ | refine WQ.blk ?_ | refine WQ.blkRet ?_ | refine WQ.blkHere rfl ?_ | refine WQ.blkOther rfl ?_ | refine WL.pure rfl rfl rfl rfl ?_ | refine WL.on rfl rfl ?_ | refine WL.off rfl rfl rfl ?_ | refine WC.condTrue rfl ?_ | refine WC.condFalse rfl ?_)
    refine WC.drawn 7 (fun wx => VBlk 63 wx rb [.slice rsp l3.length rcap, .int .i64 e6]) fun w9 hd9 => ?_
    have hst9 := hst8.step (hd9.below _)
    have hS : VBlk 63 w9 rb [.slice rsp l3.length rcap, .int .i64 e6] := hrc.below (hd9.below _) hrc.lt
    refine WD.build zCells 0 rfl (by kernel_rfl) rfl rfl (fun _ _ _ _ _ h => h) rfl rfl rfl (by kernel_rfl) (.inr hS) ?_
    (((first | refine WD.free 1 rfl (by kernel_rfl) rfl rfl (fun _ _ _ _ _ h => h) rfl rfl (.inr hS) ?_ | refine WD.skip 1 rfl (by kernel_rfl) rfl rfl (fun _ _ _ _ _ h => h) rfl (.inr hS) ?_); try (first | ((with_reducible refine WD.topT ?_ ?_); omega) | ((with_reducible refine WD.topF ?_ ?_); omega) | ((with_reducible refine WD.top64 ?_ ?_); omega))); ((first | refine WD.free 2 rfl (by kernel_rfl) rfl rfl (fun _ _ _ _ _ h => h) rfl rfl (.inr hS) ?_ | refine WD.skip 2 rfl (by kernel_rfl) rfl rfl (fun _ _ _ _ _ h => h) rfl (.inr hS) ?_); try (first | ((with_reducible refine WD.topT ?_ ?_); omega) | ((with_reducible refine WD.topF ?_ ?_); omega) | ((with_reducible refine WD.top64 ?_ ?_); omega))); ((first | refine WD.free 3 rfl (by kernel_rfl) rfl rfl (fun _ _ _ _ _ h => h) rfl rfl (.inr hS) ?_ | refine WD.skip 3 rfl (by kernel_rfl) rfl rfl (fun _ _ _ _ _ h => h) rfl (.inr hS) ?_); try (first | ((with_reducible refine WD.topT ?_ ?_); omega) | ((with_reducible refine WD.topF ?_ ?_); omega) | ((with_reducible refine WD.top64 ?_ ?_); omega))))
    refine WD.load 4 [7] rfl (by kernel_rfl) rfl rfl (fun _ _ _ _ _ h => h) rfl rfl rfl rfl (fun wx hx => hx.cell 1 (by simp)) hS ?_
    refine WD.one 5 (by kernel_rfl) rfl ?_
    refine WL.storeRow rfl rfl rfl rfl rfl rfl hst9.vblk rfl rfl (zV_is (fun _ => True) 0 w9).one ?_
    have hne2 := hst9.ne
    have hS2 : VBlk 63 (w9.setRow vb zCells.toArray) rb [.slice rsp l3.length rcap, .int .i64 e6] := hS.setRow_other _ (by omega)
    have hvb2 := hst9.vblk.setRow zCells
    have hbel2 : Below w.heap.size w (w9.setRow vb zCells.toArray) := Keep.below (Keep.setRow (Keep.of_below hst9.below) (fun hk => by omega) _)
    generalize w9.setRow vb zCells.toArray = w10 at hS2 hvb2 hbel2
    refine WL.nil (WQ.dk (.inr hS2) ?_)
    refine WD.one 6 (by kernel_rfl) rfl ?_
    refine WL.pure rfl rfl rfl rfl ?_
    refine WL.nil (WQ.dk (.inr hS2) ?_)
    refine WD.one 7 (by kernel_rfl) rfl ?_
    refine WL.pure rfl rfl rfl rfl ?_
    refine WL.nil (WQ.dk (.inl rfl) ?_)
    refine WD.done (by kernel_rfl) ?_
    repeat (first | ((with_reducible refine WL.topT ?_ ?_); omega) | ((with_reducible refine WL.topF ?_ ?_); omega) | ((with_reducible refine WL.top64 ?_ ?_); omega) | refine WC.seq ?_ | refine WC.block ?_ | refine WC.region ?_ | refine WL.nil ?_ | refine WC.skip ?_ | refine WC.exit ?_ | refine WC.ret ?_ | refine WQ.then rfl ?_ | refine WQ.thenExit ?_ | refine WQ.thenRet ?_ | refine WQ.blk ?_ | refine WQ.blkRet ?_ | refine WQ.blkHere rfl ?_ | refine WQ.blkOther rfl ?_ | refine WL.pure rfl rfl rfl rfl ?_ | refine WL.on rfl rfl ?_ | refine WL.off rfl rfl rfl ?_ | refine WC.condTrue rfl ?_ | refine WC.condFalse rfl ?_)
    refine WQ.retCTT rfl rfl rfl rfl rfl rfl hvb2 ⟨hbel2, zV, zCells, 0, e6, rfl, zV_is _ _ _, ?_⟩
    cases hq : readV en l with
    | ok y q => rw [hq] at hout; exact absurd hout.1 h6
    | bad z => rw [hq] at hout; exact ⟨rfl, rfl, hout.1, hout.2⟩

/-- What Decode promises. -/
def DecPost (w : World) (l : List Int) (r : Ending) (w' : World) : Prop :=
  Below w.heap.size w w' ∧ ∃ (x : V) (cs : List Value) (e : Int), r = .returned (.tuple #[.agg cs.toArray, .int .i64 e]) ∧ IsVo (fun b => w.heap.size ≤ b) 17 w' x cs ∧
    match readV true l with
    | .ok y _ => x = y ∧ e = 0
    | .bad z => x = zV ∧ e = z ∧ z ≠ 0
theorem decode_any {w : World} {v : Value} {l : List Int} (hs : Sl .u8 w v l) (hb : Byt l) (hl : l.length ≤ 140737488355328) :
    Calls Try.prog 12 #[v] w (DecPost w l) := by
  refine enter (args := [v]) Try.func12 rfl Try.ntmps12 rfl ?_
  repeat (first | ((with_reducible refine WL.topT ?_ ?_); omega) | ((with_reducible refine WL.topF ?_ ?_); omega) | ((with_reducible refine WL.top64 ?_ ?_); omega) | refine WC.seq ?_ | refine WC.block ?_ | refine WC.region ?_ | refine WL.nil ?_ | refine WC.skip ?_ | refine WC.exit ?_ | refine WC.ret ?_ | refine WQ.then rfl ?_ | refine WQ.thenExit ?_ | refine WQ.thenRet ?_ | refine WQ.blk ?_ | refine WQ.blkRet ?_ | refine WQ.blkHere rfl ?_ | refine WQ.blkOther rfl ?_ | refine WL.pure rfl rfl rfl rfl ?_ | refine WL.on rfl rfl ?_ | refine WL.off rfl rfl rfl ?_ | refine WC.condTrue rfl ?_ | refine WC.condFalse rfl ?_)
  refine WL.alloc (z := .agg zCells.toArray) rfl rfl rfl rfl (fun _ => by kernel_rfl) fun vb w1 hf1 => ?_
  have hf1' : Fresh w vb w1 25 zCells := hf1
  clear hf1
  have hz1 := hf1'.size
  have hvb := hf1'.eq
  have hb1 := hf1'.below
  have hblk1 := hf1'.blk
  clear hf1'
  repeat (first | ((with_reducible refine WL.topT ?_ ?_); omega) | ((with_reducible refine WL.topF ?_ ?_); omega) | ((with_reducible refine WL.top64 ?_ ?_); omega) | refine WC.seq ?_ | refine WC.block ?_ | refine WC.region ?_ | refine WL.nil ?_ | refine WC.skip ?_ | refine WC.exit ?_ | refine WC.ret ?_ | refine WQ.then rfl ?_ | refine WQ.thenExit ?_ | refine WQ.thenRet ?_ | refine WQ.blk ?_ | refine WQ.blkRet ?_ | refine WQ.blkHere rfl ?_ | refine WQ.blkOther rfl ?_ | refine WL.pure rfl rfl rfl rfl ?_ | refine WL.on rfl rfl ?_ | refine WL.off rfl rfl rfl ?_ | refine WC.condTrue rfl ?_ | refine WC.condFalse rfl ?_)
  refine WL.call rfl rfl rfl rfl rfl Try.func20 rfl (by kernel_rfl) (read_any true (hs.of_below hb1) hb hl) ?_
  rintro _ w2 ⟨hb2, x, cs, n, e, rfl, hv2, hout⟩
  refine ⟨_, rfl, ?_⟩
  have hcs := hv2.len
  have hblk2 := hblk1.below hb2 hblk1.lt
  have hz2 := hb2.size
  repeat (first | ((with_reducible refine WL.topT ?_ ?_); omega) | ((with_reducible refine WL.topF ?_ ?_); omega) | ((with_reducible refine WL.top64 ?_ ?_); omega) | refine WC.seq ?_ | refine WC.block ?_ | refine WC.region ?_ | refine WL.nil ?_ | refine WC.skip ?_ | refine WC.exit ?_ | refine WC.ret ?_ | refine WQ.then rfl ?_ | refine WQ.thenExit ?_ | refine WQ.thenRet ?_ | refine WQ.blk ?_ | refine WQ.blkRet ?_ | refine WQ.blkHere rfl ?_ | refine WQ.blkOther rfl ?_ | refine WL.pure rfl rfl rfl rfl ?_ | refine WL.on rfl rfl ?_ | refine WL.off rfl rfl rfl ?_ | refine WC.condTrue rfl ?_ | refine WC.condFalse rfl ?_)
  refine WL.alloc (z := .agg zCells.toArray) rfl rfl rfl rfl (fun _ => by kernel_rfl) fun xb w3 hf3 => ?_
  have hf3' : Fresh w2 xb w3 25 zCells := hf3
  clear hf3
  refine WL.storeRow rfl rfl rfl rfl rfl rfl hf3'.blk hcs rfl hv2.one ?_
  have hxb := hf3'.eq
  have hb4 : Below w2.heap.size w2 (w3.setRow xb cs.toArray) := below_setRow hf3'.below (by omega) _
  have hx4 : VBlk 25 (w3.setRow xb cs.toArray) xb cs := hf3'.blk.setRow cs
  generalize w3.setRow xb cs.toArray = w4 at hb4 hx4
  clear hf3'
  have hblk4 := hblk2.below hb4 hblk2.lt
  have hw4 : Below w.heap.size w w4 := hb1.trans ((hb2.mono (by omega)).trans (hb4.mono (by omega)))
  have hv4 : IsVo (fun b => w.heap.size ≤ b ∧ b ≠ vb) 17 w4 x cs := hv2.keep (Keep.of_below hb4) (fun b _ h => h) fun b hb => by omega
  repeat (first | ((with_reducible refine WL.topT ?_ ?_); omega) | ((with_reducible refine WL.topF ?_ ?_); omega) | ((with_reducible refine WL.top64 ?_ ?_); omega) | refine WC.seq ?_ | refine WC.block ?_ | refine WC.region ?_ | refine WL.nil ?_ | refine WC.skip ?_ | refine WC.exit ?_ | refine WC.ret ?_ | refine WQ.then rfl ?_ | refine WQ.thenExit ?_ | refine WQ.thenRet ?_ | refine WQ.blk ?_ | refine WQ.blkRet ?_ | refine WQ.blkHere rfl ?_ | refine WQ.blkOther rfl ?_ | refine WL.pure rfl rfl rfl rfl ?_ | refine WL.on rfl rfl ?_ | refine WL.off rfl rfl rfl ?_ | refine WC.condTrue rfl ?_ | refine WC.condFalse rfl ?_)
  refine WL.loadMid rfl rfl rfl rfl rfl rfl (VBlk.rangeAt hx4) hcs ?_
  repeat (first | ((with_reducible refine WL.topT ?_ ?_); omega) | ((with_reducible refine WL.topF ?_ ?_); omega) | ((with_reducible refine WL.top64 ?_ ?_); omega) | refine WC.seq ?_ | refine WC.block ?_ | refine WC.region ?_ | refine WL.nil ?_ | refine WC.skip ?_ | refine WC.exit ?_ | refine WC.ret ?_ | refine WQ.then rfl ?_ | refine WQ.thenExit ?_ | refine WQ.thenRet ?_ | refine WQ.blk ?_ | refine WQ.blkRet ?_ | refine WQ.blkHere rfl ?_ | refine WQ.blkOther rfl ?_ | refine WL.pure rfl rfl rfl rfl ?_ | refine WL.on rfl rfl ?_ | refine WL.off rfl rfl rfl ?_ | refine WC.condTrue rfl ?_ | refine WC.condFalse rfl ?_)
  refine WL.storeRow rfl rfl rfl rfl rfl rfl hblk4 hcs rfl hv4.one ?_
  repeat (first | ((with_reducible refine WL.topT ?_ ?_); omega) | ((with_reducible refine WL.topF ?_ ?_); omega) | ((with_reducible refine WL.top64 ?_ ?_); omega) | refine WC.seq ?_ | refine WC.block ?_ | refine WC.region ?_ | refine WL.nil ?_ | refine WC.skip ?_ | refine WC.exit ?_ | refine WC.ret ?_ | refine WQ.then rfl ?_ | refine WQ.thenExit ?_ | refine WQ.thenRet ?_ | refine WQ.blk ?_ | refine WQ.blkRet ?_ | refine WQ.blkHere rfl ?_ | refine WQ.blkOther rfl ?_ | refine WL.pure rfl rfl rfl rfl ?_ | refine WL.on rfl rfl ?_ | refine WL.off rfl rfl rfl ?_ | refine WC.condTrue rfl ?_ | refine WC.condFalse rfl ?_)
  have hset : Keep (fun b => b ≠ vb) w4 (w4.setRow vb cs.toArray) := Keep.setRow (Keep.refl _ w4) (fun hk => hk rfl) _
  refine WQ.retCT rfl rfl rfl rfl hcs (hblk4.setRow cs) ⟨Keep.below (Keep.setRow (Keep.of_below hw4) (fun hk => by omega) _), x, cs, e, rfl, hv4.keep hset (fun b hb _ => hb.2) (fun b hb => hb.1), ?_⟩
  cases hq : readV true l with
  | ok y q => rw [hq] at hout; exact ⟨hout.1, hout.2.2⟩
  | bad z => rw [hq] at hout; exact ⟨hout.1, hout.2.2⟩
theorem readC_any {w : World} {v : Value} {l : List Int} (hs : Sl .u8 w v l) (hb : Byt l) (hl : l.length ≤ 140737488355328) :
    Calls Try.prog 13 #[v] w (ReadPost false w l) := by
  refine enter (args := [v]) Try.func13 rfl Try.ntmps13 rfl ?_
  repeat (first | ((with_reducible refine WL.topT ?_ ?_); omega) | ((with_reducible refine WL.topF ?_ ?_); omega) | ((with_reducible refine WL.top64 ?_ ?_); omega) | refine WC.seq ?_ | refine WC.block ?_ | refine WC.region ?_ | refine WL.nil ?_ | refine WC.skip ?_ | refine WC.exit ?_ | refine WC.ret ?_ | refine WQ.then rfl ?_ | refine WQ.thenExit ?_ | refine WQ.thenRet ?_ | refine WQ.blk ?_ | refine WQ.blkRet ?_ | refine WQ.blkHere rfl ?_ | refine WQ.blkOther rfl ?_ | refine WL.pure rfl rfl rfl rfl ?_ | refine WL.on rfl rfl ?_ | refine WL.off rfl rfl rfl ?_ | refine WC.condTrue rfl ?_ | refine WC.condFalse rfl ?_)
  refine WL.alloc (z := .agg zCells.toArray) rfl rfl rfl rfl (fun _ => by kernel_rfl) fun vb w1 hf1 => ?_
  have hf1' : Fresh w vb w1 25 zCells := hf1
  clear hf1
  have hz1 := hf1'.size
  have hvb := hf1'.eq
  have hb1 := hf1'.below
  have hblk1 := hf1'.blk
  clear hf1'
  repeat (first | ((with_reducible refine WL.topT ?_ ?_); omega) | ((with_reducible refine WL.topF ?_ ?_); omega) | ((with_reducible refine WL.top64 ?_ ?_); omega) | refine WC.seq ?_ | refine WC.block ?_ | refine WC.region ?_ | refine WL.nil ?_ | refine WC.skip ?_ | refine WC.exit ?_ | refine WC.ret ?_ | refine WQ.then rfl ?_ | refine WQ.thenExit ?_ | refine WQ.thenRet ?_ | refine WQ.blk ?_ | refine WQ.blkRet ?_ | refine WQ.blkHere rfl ?_ | refine WQ.blkOther rfl ?_ | refine WL.pure rfl rfl rfl rfl ?_ | refine WL.on rfl rfl ?_ | refine WL.off rfl rfl rfl ?_ | refine WC.condTrue rfl ?_ | refine WC.condFalse rfl ?_)
  refine WL.call rfl rfl rfl rfl rfl Try.func20 rfl (by kernel_rfl) (read_any false (hs.of_below hb1) hb hl) ?_
  rintro _ w2 ⟨hb2, x, cs, n, e, rfl, hv2, hout⟩
  refine ⟨_, rfl, ?_⟩
  have hcs := hv2.len
  have hblk2 := hblk1.below hb2 hblk1.lt
  have hz2 := hb2.size
  repeat (first | ((with_reducible refine WL.topT ?_ ?_); omega) | ((with_reducible refine WL.topF ?_ ?_); omega) | ((with_reducible refine WL.top64 ?_ ?_); omega) | refine WC.seq ?_ | refine WC.block ?_ | refine WC.region ?_ | refine WL.nil ?_ | refine WC.skip ?_ | refine WC.exit ?_ | refine WC.ret ?_ | refine WQ.then rfl ?_ | refine WQ.thenExit ?_ | refine WQ.thenRet ?_ | refine WQ.blk ?_ | refine WQ.blkRet ?_ | refine WQ.blkHere rfl ?_ | refine WQ.blkOther rfl ?_ | refine WL.pure rfl rfl rfl rfl ?_ | refine WL.on rfl rfl ?_ | refine WL.off rfl rfl rfl ?_ | refine WC.condTrue rfl ?_ | refine WC.condFalse rfl ?_)
  refine WL.storeRow rfl rfl rfl rfl rfl rfl hblk2 hcs rfl hv2.one ?_
  repeat (first | ((with_reducible refine WL.topT ?_ ?_); omega) | ((with_reducible refine WL.topF ?_ ?_); omega) | ((with_reducible refine WL.top64 ?_ ?_); omega) | refine WC.seq ?_ | refine WC.block ?_ | refine WC.region ?_ | refine WL.nil ?_ | refine WC.skip ?_ | refine WC.exit ?_ | refine WC.ret ?_ | refine WQ.then rfl ?_ | refine WQ.thenExit ?_ | refine WQ.thenRet ?_ | refine WQ.blk ?_ | refine WQ.blkRet ?_ | refine WQ.blkHere rfl ?_ | refine WQ.blkOther rfl ?_ | refine WL.pure rfl rfl rfl rfl ?_ | refine WL.on rfl rfl ?_ | refine WL.off rfl rfl rfl ?_ | refine WC.condTrue rfl ?_ | refine WC.condFalse rfl ?_)
  have hset : Keep (fun b => b ≠ vb) w2 (w2.setRow vb cs.toArray) := Keep.setRow (Keep.refl _ w2) (fun hk => hk rfl) _
  refine WQ.retCTT rfl rfl rfl rfl rfl hcs (hblk2.setRow cs) ⟨Keep.below (Keep.setRow (Keep.of_below (hb1.trans (hb2.mono (by omega)))) (fun hk => by omega) _), x, cs, n, e, rfl, hv2.keep hset (fun b hb _ => by omega) (fun b hb => by omega), hout⟩
end K
end Go.Proofs.Ytnboloilljlfiaa
