/- Requests that are refused (chapter 25): the program's open and Decode where the frame is none, or is not all. -/
import Derived.Test.YtfkjiehkfimmhaaWirE
namespace Go.Proofs.Ytfkjiehkfimmhaa
open Go.RowKit
namespace K
section
variable {n : Nat} {l : Env} {w : World} {fn : Func} {R : Ending → World → Prop}
theorem WQ.retCTw {p q g T m : Nat} {ty' : TypeId} {cs : List Value} {x : Value} (hr : fn.results = #[.cell p ty', .tmp q]) (hl : look l p = some (.pointer (some ⟨g, 0, none⟩))) (hq : look l q = some x) (ht : cellsN (tyOf ty ty') = some m) (hm : cs.length = m) (hb : VBlk T w g cs)
    (h : R (.returned (.tuple #[.agg cs.toArray, x])) w) : WQ n (bodyPost Try.prog fn R) .ret l w :=
  ⟨fun a ha => ⟨ha.defers, _, by
    obtain ⟨_, hu, hdd, hsz⟩ := cellsN_ok tyOk ht
    have hp := ha.getD hl
    have hx := ha.getD hq
    simp only [Array.getD_eq_getD_getElem?] at hp hx
    have := run_loadVar_mid (P := Try.prog) w g 0 ty' cs _ (VBlk.rangeAt hb) hu hdd (by rw [hsz, hm])
    simp [results, hr, hp, hx, asAddr, this], h⟩⟩
end
/-- Of bytes that are no frame, or a frame and more: the error. -/
def Bad (l : List Int) (e : Int) : Prop := (Frm.decF l).1 = e ∧ e ≠ 0 ∨ (Frm.decF l).1 = 0 ∧ (Frm.decF l).2.2 ≠ l.length ∧ e = 3
theorem wopen_bad {w : World} {v : Value} {l : List Int} {x : Int} (hv : Sl .u8 w v l) (hb : Frm.Byt l) (hl : l.length ≤ 140737488355328) (hx : Bad l x) : Calls Try.prog 11 #[v] w fun e w' => e = .returned (.tuple #[.pointer none, .int .i64 x]) ∧ Below w.heap.size w w' := by
  obtain ⟨sp, cap, rfl, h1, h2, -⟩ := id hv
  refine enter (args := [.slice sp l.length cap]) Try.func11 rfl Try.ntmps11 rfl ?_
  repeat (first | ((with_reducible refine WL.topT ?_ ?_); omega) | ((with_reducible refine WL.topF ?_ ?_); omega) | ((with_reducible refine WL.top64 ?_ ?_); omega) | refine WC.seq ?_ | refine WC.block ?_ | refine WC.region ?_ | refine WL.nil ?_ | refine WC.skip ?_ | refine WC.exit ?_ | refine WC.ret ?_ | refine WQ.then rfl ?_ | refine WQ.thenExit ?_ | refine WQ.thenRet ?_ | refine WQ.blk ?_ | refine WQ.blkRet ?_ | refine WQ.blkHere rfl ?_ | refine WQ.blkOther rfl ?_ | refine WL.pure rfl rfl rfl rfl ?_ | refine WL.on rfl rfl ?_ | refine WL.off rfl rfl rfl ?_ | refine WC.condTrue rfl ?_ | refine WC.condFalse rfl ?_)
  refine WL.call rfl rfl rfl rfl rfl Try.func24 rfl (by kernel_rfl) (fdec_any hv hb hl) ?_
  rintro _ w1 ⟨b, rfl, -, k1, -⟩
  refine ⟨_, rfl, ?_⟩
  unfold Bad at hx
  generalize (Frm.decF l).1 = e at hx ⊢
  generalize (Frm.decF l).2.2 = m at hx ⊢
  rcases hx with ⟨rfl, h0⟩ | ⟨rfl, h3, rfl⟩
  · repeat (first | ((with_reducible refine WL.topT ?_ ?_); omega) | ((with_reducible refine WL.topF ?_ ?_); omega) | ((with_reducible refine WL.top64 ?_ ?_); omega) | refine WC.seq ?_ | refine WC.block ?_ | refine WC.region ?_ | refine WL.nil ?_ | refine WC.skip ?_ | refine WC.exit ?_ | refine WC.ret ?_ | refine WQ.then rfl ?_ | refine WQ.thenExit ?_ | refine WQ.thenRet ?_ | refine WQ.blk ?_ | refine WQ.blkRet ?_ | refine WQ.blkHere rfl ?_ | refine WQ.blkOther rfl ?_ | refine WL.pure rfl rfl rfl rfl ?_ | refine WL.on rfl rfl ?_ | refine WL.off rfl rfl rfl ?_ | refine WC.condTrue rfl ?_ | refine WC.condFalse rfl ?_)
    exact WQ.ret2 rfl rfl rfl ⟨rfl, k1⟩
  · have h3' : (m : Int) ≠ (l.length : Int) := by omega
    repeat (first | ((with_reducible refine WL.topT ?_ ?_); omega) | ((with_reducible refine WL.topF ?_ ?_); omega) | ((with_reducible refine WL.top64 ?_ ?_); omega) | refine WC.seq ?_ | refine WC.block ?_ | refine WC.region ?_ | refine WL.nil ?_ | refine WC.skip ?_ | refine WC.exit ?_ | refine WC.ret ?_ | refine WQ.then rfl ?_ | refine WQ.thenExit ?_ | refine WQ.thenRet ?_ | refine WQ.blk ?_ | refine WQ.blkRet ?_ | refine WQ.blkHere rfl ?_ | refine WQ.blkOther rfl ?_ | refine WL.pure rfl rfl rfl rfl ?_ | refine WL.on rfl rfl ?_ | refine WL.off rfl rfl rfl ?_ | refine WC.condTrue rfl ?_ | refine WC.condFalse rfl ?_)
    exact WQ.ret2 rfl rfl rfl ⟨rfl, k1⟩
def zReq : List Value := reqC 0 0 (ByteArray.mk #[])
theorem zReq_ones : Ones zReq := by
  intro u hu
  unfold zReq reqC at hu
  simp only [List.mem_cons] at hu
  rcases hu with rfl | rfl | rfl | rfl | rfl | hu
  · rfl
  · rfl
  · rfl
  · rfl
  · rfl
  · rw [List.eq_of_mem_replicate hu]; rfl
theorem wdec_bad {w : World} {v : Value} {l : List Int} {x : Int} (hv : Sl .u8 w v l) (hb : Frm.Byt l) (hl : l.length ≤ 140737488355328) (hx : Bad l x) (h0 : x ≠ 0) : Calls Try.prog 6 #[v] w fun e w' => e = .returned (.tuple #[.agg zReq.toArray, .int .i64 x]) ∧ Below w.heap.size w w' := by
  obtain ⟨sp, cap, rfl, h1, h2, -⟩ := id hv
  refine enter (args := [.slice sp l.length cap]) Try.func6 rfl Try.ntmps6 rfl ?_
  repeat (first | refine WC.seq ?_ | refine WC.block ?_ | refine WC.region ?_ | refine WL.nil ?_ | refine WC.skip ?_ | refine WC.exit ?_ | refine WC.ret ?_ | refine WQ.then rfl ?_ | refine WQ.thenExit ?_ | refine WQ.thenRet ?_ | refine WQ.blk ?_ | refine WQ.blkRet ?_ | refine WQ.blkHere rfl ?_ | refine WQ.blkOther rfl ?_)
  refine WL.alloc (z := .agg zReq.toArray) rfl rfl rfl rfl (fun _ => by kernel_rfl) fun g w1 hf0 => ?_
  have hf : Fresh w g w1 31 zReq := hf0
  clear hf0
  have hB := hf.below
  have hg := hf.eq
  have T := hf.blk
  clear hf
  repeat (first | ((with_reducible refine WL.topT ?_ ?_); omega) | ((with_reducible refine WL.topF ?_ ?_); omega) | ((with_reducible refine WL.top64 ?_ ?_); omega) | refine WC.seq ?_ | refine WC.block ?_ | refine WC.region ?_ | refine WL.nil ?_ | refine WC.skip ?_ | refine WC.exit ?_ | refine WC.ret ?_ | refine WQ.then rfl ?_ | refine WQ.thenExit ?_ | refine WQ.thenRet ?_ | refine WQ.blk ?_ | refine WQ.blkRet ?_ | refine WQ.blkHere rfl ?_ | refine WQ.blkOther rfl ?_ | refine WL.pure rfl rfl rfl rfl ?_ | refine WL.on rfl rfl ?_ | refine WL.off rfl rfl rfl ?_ | refine WC.condTrue rfl ?_ | refine WC.condFalse rfl ?_)
  refine WL.call rfl rfl rfl rfl rfl Try.func11 rfl (by kernel_rfl) (wopen_bad (hv.of_below hB) hb hl hx) ?_
  rintro _ w2 ⟨rfl, k2⟩
  refine ⟨_, rfl, ?_⟩
  have T2 := T.below k2 T.lt
  repeat (first | ((with_reducible refine WL.topT ?_ ?_); omega) | ((with_reducible refine WL.topF ?_ ?_); omega) | ((with_reducible refine WL.top64 ?_ ?_); omega) | refine WC.seq ?_ | refine WC.block ?_ | refine WC.region ?_ | refine WL.nil ?_ | refine WC.skip ?_ | refine WC.exit ?_ | refine WC.ret ?_ | refine WQ.then rfl ?_ | refine WQ.thenExit ?_ | refine WQ.thenRet ?_ | refine WQ.blk ?_ | refine WQ.blkRet ?_ | refine WQ.blkHere rfl ?_ | refine WQ.blkOther rfl ?_ | refine WL.pure rfl rfl rfl rfl ?_ | refine WL.on rfl rfl ?_ | refine WL.off rfl rfl rfl ?_ | refine WC.condTrue rfl ?_ | refine WC.condFalse rfl ?_)
  refine WL.build zReq rfl rfl rfl rfl rfl (by kernel_rfl) ?_
  repeat (first | ((with_reducible refine WL.topT ?_ ?_); omega) | ((with_reducible refine WL.topF ?_ ?_); omega) | ((with_reducible refine WL.top64 ?_ ?_); omega) | refine WC.seq ?_ | refine WC.block ?_ | refine WC.region ?_ | refine WL.nil ?_ | refine WC.skip ?_ | refine WC.exit ?_ | refine WC.ret ?_ | refine WQ.then rfl ?_ | refine WQ.thenExit ?_ | refine WQ.thenRet ?_ | refine WQ.blk ?_ | refine WQ.blkRet ?_ | refine WQ.blkHere rfl ?_ | refine WQ.blkOther rfl ?_ | refine WL.pure rfl rfl rfl rfl ?_ | refine WL.on rfl rfl ?_ | refine WL.off rfl rfl rfl ?_ | refine WC.condTrue rfl ?_ | refine WC.condFalse rfl ?_)
  refine WL.storeRow rfl rfl rfl rfl rfl rfl T2 rfl rfl zReq_ones ?_
  have hw2 : Below w.heap.size w w2 := hB.trans (k2.mono hB.size)
  have hw3 : Below w.heap.size w (w2.setRow g zReq.toArray) := below_setRow hw2 (by omega) _
  have T3 := T2.setRow zReq
  generalize w2.setRow g zReq.toArray = w3 at hw3 T3 ⊢
  repeat (first | ((with_reducible refine WL.topT ?_ ?_); omega) | ((with_reducible refine WL.topF ?_ ?_); omega) | ((with_reducible refine WL.top64 ?_ ?_); omega) | refine WC.seq ?_ | refine WC.block ?_ | refine WC.region ?_ | refine WL.nil ?_ | refine WC.skip ?_ | refine WC.exit ?_ | refine WC.ret ?_ | refine WQ.then rfl ?_ | refine WQ.thenExit ?_ | refine WQ.thenRet ?_ | refine WQ.blk ?_ | refine WQ.blkRet ?_ | refine WQ.blkHere rfl ?_ | refine WQ.blkOther rfl ?_ | refine WL.pure rfl rfl rfl rfl ?_ | refine WL.on rfl rfl ?_ | refine WL.off rfl rfl rfl ?_ | refine WC.condTrue rfl ?_ | refine WC.condFalse rfl ?_)
  exact WQ.retCTw rfl rfl rfl rfl rfl T3 ⟨rfl, hw3⟩
theorem known_any (w : World) : Calls Try.prog 5 #[] w fun e w' => e = .returned (.bool true) ∧ Below w.heap.size w w' := by
  refine enter (args := []) Try.func5 rfl Try.ntmps5 rfl ?_
  repeat (first | ((with_reducible refine WL.topT ?_ ?_); omega) | ((with_reducible refine WL.topF ?_ ?_); omega) | ((with_reducible refine WL.top64 ?_ ?_); omega) | refine WC.seq ?_ | refine WC.block ?_ | refine WC.region ?_ | refine WL.nil ?_ | refine WC.skip ?_ | refine WC.exit ?_ | refine WC.ret ?_ | refine WQ.then rfl ?_ | refine WQ.thenExit ?_ | refine WQ.thenRet ?_ | refine WQ.blk ?_ | refine WQ.blkRet ?_ | refine WQ.blkHere rfl ?_ | refine WQ.blkOther rfl ?_ | refine WL.pure rfl rfl rfl rfl ?_ | refine WL.on rfl rfl ?_ | refine WL.off rfl rfl rfl ?_ | refine WC.condTrue rfl ?_ | refine WC.condFalse rfl ?_)
  refine WL.build (reqC 1 0 (ByteArray.mk #[])) rfl rfl rfl rfl rfl (by kernel_rfl) ?_
  refine WL.call rfl rfl rfl rfl rfl Try.func4 rfl (by kernel_rfl) (wenc_any 1 0 (ByteArray.mk #[]) w) ?_
  rintro _ w1 ⟨b, rfl, k1, hs⟩
  refine ⟨_, rfl, ?_⟩
  have he : reqE 1 0 (ByteArray.mk #[]) = 0 := by decide
  obtain ⟨hb, -⟩ := hs he
  rw [he]
  have hlen : (Frm.frameL (reqL 1 0 (ByteArray.mk #[]))).length = 50 := by rw [Frm.frameL_len]; decide +kernel
  obtain ⟨sp, cap, rfl, -⟩ := hb.form
  rw [hlen]
  repeat (first | ((with_reducible refine WL.topT ?_ ?_); omega) | ((with_reducible refine WL.topF ?_ ?_); omega) | ((with_reducible refine WL.top64 ?_ ?_); omega) | refine WC.seq ?_ | refine WC.block ?_ | refine WC.region ?_ | refine WL.nil ?_ | refine WC.skip ?_ | refine WC.exit ?_ | refine WC.ret ?_ | refine WQ.then rfl ?_ | refine WQ.thenExit ?_ | refine WQ.thenRet ?_ | refine WQ.blk ?_ | refine WQ.blkRet ?_ | refine WQ.blkHere rfl ?_ | refine WQ.blkOther rfl ?_ | refine WL.pure rfl rfl rfl rfl ?_ | refine WL.on rfl rfl ?_ | refine WL.off rfl rfl rfl ?_ | refine WC.condTrue rfl ?_ | refine WC.condFalse rfl ?_)
  exact WQ.ret1 rfl rfl ⟨rfl, k1⟩
end K
end Go.Proofs.Ytfkjiehkfimmhaa
