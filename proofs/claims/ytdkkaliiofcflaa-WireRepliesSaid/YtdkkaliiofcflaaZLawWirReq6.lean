/- Texts for LawWirReq, part 6 of 9. -/
import Derived.Test.YtdkkaliiofcflaaZLawWirReq5
import Derived.DeepKeys
/- Requests and replies are read (chapter 25): the reader, where what it reads was laid. -/
namespace Go.Proofs.Ytdkkaliiofcflaa
open Go.RowKit
namespace K
/-- The reader lies in block rb: what is left; no error. -/
structure WR (B : Nat) (w : World) (rb : Nat) (l : List Int) : Prop where
  rlt : rb < B
  byt : Byt l
  ex : ∃ sp cap, VBlk 75 w rb [.slice sp l.length cap, .bool false] ∧ SlB (fun b => b < B ∧ b ≠ rb) w (.slice sp l.length cap) l
theorem WR.keep {B : Nat} {w w' : World} {rb : Nat} {l : List Int} (h : WR B w rb l) {K : Nat → Prop} (hk : Keep K w w') (hK : ∀ b, b < B → K b) : WR B w' rb l := by
  obtain ⟨sp, cap, h1, h2⟩ := h.ex
  exact ⟨h.rlt, h.byt, sp, cap, h1.keep hk (hK _ h.rlt), h2.keep hk fun b hb => hK b hb.1⟩
/-- What is left becomes an end of it. -/
theorem WR.setL {B : Nat} {w : World} {rb : Nat} {l l' : List Int} {v' : Value} (h : WR B w rb l) (hb : Byt l') (hv : SlB (fun b => b < B ∧ b ≠ rb) w v' l') : WR B (w.setCell ⟨rb, 0, none⟩ v') rb l' := by
  obtain ⟨sp, cap, h1, h2⟩ := h.ex
  obtain ⟨sp', cap', rfl, -⟩ := hv.sl
  exact ⟨h.rlt, hb, sp', cap', h1.set 0 (.slice sp' l'.length cap'), hv.keep (K := fun b => b ≠ rb) ((Keep.refl _ w).setCell (fun hk => hk rfl) _) fun b hb => hb.2⟩
section
variable {n : Nat} {Q : Exit → Act → World → Prop} {l : Env} {w w' : World} {ops : Array Oper} {o : Oper} {rest : List Oper} {d : Nat}
theorem WL.uptoW {O : Nat → Prop} {t e : Nat} {x hi : Operand} {v : Value} {kk : IntKind} {z : Int} {zs : List Int} {w0 : World} (hg : o.guard = none) (hd : o.dst = some d) (hn : Nat.blt d n = true) (ho : o.op = .slice t x none (some hi) none) (ht : tyOf ty t = some (.slice e 1))
    (hx : evl l x = some v) (hhi : evl l hi = some (.int kk z)) (h0 : 0 ≤ z) (h1 : z ≤ zs.length) (hs : SlB O w0 v zs) (h : ∀ v', SlB O w0 v' (zs.take z.toNat) → WL n ops Q rest ((d, v') :: l) w) : WL n ops Q (o :: rest) l w := by
  have hs0 := hs.sl
  have hlt := hs.lt
  obtain ⟨sp, cap, rfl, hc, hm, hr, hn0⟩ := hs.sl
  refine WL.step hg hd hn (v := sliced sp 0 z.toNat cap 1) (fun a ha => ?_) (h _ ⟨sl_to hs0 (by omega), fun hl0 b o s m c e => ?_⟩)
  · obtain ⟨hu, hsz⟩ := TyOk.of tyOk ht
    have he : Try.prog.elem t = e := by simp [Program.elem, hu]
    have hu' : Try.prog.underlying t = some (.slice (Try.prog.elem t)) := by rw [he]; exact hu
    have hs : (sizeOf e).run Try.prog w = .ok 1 w := by
      cases hq : Try.prog.info? e with
      | none => rw [hq] at hsz; cases hsz
      | some q => rw [hq] at hsz; simp at hsz; simp [sizeOf, typeInfo, hq, hsz]
    unfold execOp
    rw [ho]
    simp [ha.eval hx, ha.eval hhi, run_sliceAt_slice w t _ _ _ _ hu', run_slice_h w t sp zs.length cap hu' kk z h0 (by omega), he, hs]
  · unfold sliced at e
    injection e with e1 _ _
    cases sp with
    | none => split at e1 <;> cases e1
    | some p =>
      obtain ⟨pb, po, ps⟩ := p
      have := hlt (by rw [List.length_take] at hl0; omega) pb po ps _ _ rfl
      split at e1
      · cases e1; exact this
      · have e2 := congrArg (fun q => q.map Addr.block) e1
        have e3 : ((⟨pb, po, ps⟩ : Addr).add (0 * 1)).block = pb := by unfold Addr.add; split <;> rfl
        simp only [Option.map_some, Option.some.injEq, e3] at e2
        rw [← e2]; exact this
end
variable {B rb : Nat} {w : World}
theorem wnumber_any {n : Nat} {r : List Int} (h : WR B w rb (uvB n ++ r)) (hn : n < 18446744073709551616) :
    Calls Try.prog 56 #[.pointer (some ⟨rb, 0, none⟩)] w fun e w' => e = .returned (.int .u64 (n : Int)) ∧ WR B w' rb r ∧ KeepR rb w w' := by
  refine enter (args := [.pointer (some ⟨rb, 0, none⟩)]) Try.func56 rfl Try.ntmps56 rfl ?_
  obtain ⟨sp, cap, h1, h2⟩ := h.ex
  have hrd := rdU_enc hn r
  have hru : ruV (uvB n ++ r) = [.int .u64 (n : Nat), .int .i64 (((uvB n ++ r).length - r.length : Nat) : Int), .int .i64 0] := by unfold ruV; rw [hrd]
  have hbr : Byt r := fun c hc => h.byt c (List.mem_append.2 (.inr hc))
  have hdr : (uvB n ++ r).drop ((((uvB n ++ r).length - r.length : Nat) : Int).toNat) = r := by
    rw [List.length_append, Int.toNat_natCast, show (uvB n).length + r.length - r.length = (uvB n).length by omega]
    exact List.drop_left' rfl
  have hle : (uvB n ++ r).length - r.length ≤ (uvB n ++ r).length := by omega
  generalize (uvB n ++ r).length - r.length = k at hru hdr hle
  repeat (first | ((with_reducible refine WL.topT ?_ ?_); omega) | ((with_reducible refine WL.topF ?_ ?_); omega) | ((with_reducible refine WL.top64 ?_ ?_); omega) | refine WC.seq ?_ | refine WC.block ?_ | refine WC.region ?_ | refine WL.nil ?_ | refine WC.skip ?_ | refine WC.exit ?_ | refine WC.ret ?_ | refine WQ.then rfl ?_ | refine WQ.thenExit ?_ | refine WQ.thenRet ?_ | refine WQ.blk ?_ | refine WQ.blkRet ?_ | refine WQ.blkHere rfl ?_ | refine WQ.blkOther rfl ?_ | refine WL.pure rfl rfl rfl rfl ?_ | refine WL.on rfl rfl ?_ | refine WL.off rfl rfl rfl ?_ | refine WC.condTrue rfl ?_ | refine WC.condFalse rfl ?_)
  refine WL.load rfl rfl rfl rfl rfl rfl (h1.cell 1 (by simp)) ?_
  repeat (first | ((with_reducible refine WL.topT ?_ ?_); omega) | ((with_reducible refine WL.topF ?_ ?_); omega) | ((with_reducible refine WL.top64 ?_ ?_); omega) | refine WC.seq ?_ | refine WC.block ?_ | refine WC.region ?_ | refine WL.nil ?_ | refine WC.skip ?_ | refine WC.exit ?_ | refine WC.ret ?_ | refine WQ.then rfl ?_ | refine WQ.thenExit ?_ | refine WQ.thenRet ?_ | refine WQ.blk ?_ | refine WQ.blkRet ?_ | refine WQ.blkHere rfl ?_ | refine WQ.blkOther rfl ?_ | refine WL.pure rfl rfl rfl rfl ?_ | refine WL.on rfl rfl ?_ | refine WL.off rfl rfl rfl ?_ | refine WC.condTrue rfl ?_ | refine WC.condFalse rfl ?_)
  refine WL.load rfl rfl rfl rfl rfl rfl (h1.cell 0 (by simp)) ?_
  refine WL.call rfl rfl rfl rfl rfl Try.func72 rfl (by kernel_rfl) (readUvarint_any h2.sl h.byt) ?_
  rintro _ _ ⟨rfl, rfl⟩
  refine ⟨_, rfl, ?_⟩
  rw [hru]
  repeat (first | ((with_reducible refine WL.topT ?_ ?_); omega) | ((with_reducible refine WL.topF ?_ ?_); omega) | ((with_reducible refine WL.top64 ?_ ?_); omega) | refine WC.seq ?_ | refine WC.block ?_ | refine WC.region ?_ | refine WL.nil ?_ | refine WC.skip ?_ | refine WC.exit ?_ | refine WC.ret ?_ | refine WQ.then rfl ?_ | refine WQ.thenExit ?_ | refine WQ.thenRet ?_ | refine WQ.blk ?_ | refine WQ.blkRet ?_ | refine WQ.blkHere rfl ?_ | refine WQ.blkOther rfl ?_ | refine WL.pure rfl rfl rfl rfl ?_ | refine WL.on rfl rfl ?_ | refine WL.off rfl rfl rfl ?_ | refine WC.condTrue rfl ?_ | refine WC.condFalse rfl ?_)
  refine WL.load rfl rfl rfl rfl rfl rfl (h1.cell 0 (by simp)) ?_
  repeat (first | ((with_reducible refine WL.topT ?_ ?_); omega) | ((with_reducible refine WL.topF ?_ ?_); omega) | ((with_reducible refine WL.top64 ?_ ?_); omega) | refine WC.seq ?_ | refine WC.block ?_ | refine WC.region ?_ | refine WL.nil ?_ | refine WC.skip ?_ | refine WC.exit ?_ | refine WC.ret ?_ | refine WQ.then rfl ?_ | refine WQ.thenExit ?_ | refine WQ.thenRet ?_ | refine WQ.blk ?_ | refine WQ.blkRet ?_ | refine WQ.blkHere rfl ?_ | refine WQ.blkOther rfl ?_ | refine WL.pure rfl rfl rfl rfl ?_ | refine WL.on rfl rfl ?_ | refine WL.off rfl rfl rfl ?_ | refine WC.condTrue rfl ?_ | refine WC.condFalse rfl ?_)
  refine WL.fromB (z := (k : Int)) rfl rfl rfl rfl rfl rfl rfl (by omega) (by omega) h2 fun v' hv' => ?_
  rw [hdr] at hv'
  have hv : v'.oneCell' = true := by obtain ⟨_, _, rfl, -⟩ := hv'.sl; rfl
  repeat (first | ((with_reducible refine WL.topT ?_ ?_); omega) | ((with_reducible refine WL.topF ?_ ?_); omega) | ((with_reducible refine WL.top64 ?_ ?_); omega) | refine WC.seq ?_ | refine WC.block ?_ | refine WC.region ?_ | refine WL.nil ?_ | refine WC.skip ?_ | refine WC.exit ?_ | refine WC.ret ?_ | refine WQ.then rfl ?_ | refine WQ.thenExit ?_ | refine WQ.thenRet ?_ | refine WQ.blk ?_ | refine WQ.blkRet ?_ | refine WQ.blkHere rfl ?_ | refine WQ.blkOther rfl ?_ | refine WL.pure rfl rfl rfl rfl ?_ | refine WL.on rfl rfl ?_ | refine WL.off rfl rfl rfl ?_ | refine WC.condTrue rfl ?_ | refine WC.condFalse rfl ?_)
  refine WL.store rfl rfl rfl rfl rfl hv (by kernel_rfl) (h1.cell 0 (by simp)) (h1.free 0) ?_
  repeat (first | ((with_reducible refine WL.topT ?_ ?_); omega) | ((with_reducible refine WL.topF ?_ ?_); omega) | ((with_reducible refine WL.top64 ?_ ?_); omega) | refine WC.seq ?_ | refine WC.block ?_ | refine WC.region ?_ | refine WL.nil ?_ | refine WC.skip ?_ | refine WC.exit ?_ | refine WC.ret ?_ | refine WQ.then rfl ?_ | refine WQ.thenExit ?_ | refine WQ.thenRet ?_ | refine WQ.blk ?_ | refine WQ.blkRet ?_ | refine WQ.blkHere rfl ?_ | refine WQ.blkOther rfl ?_ | refine WL.pure rfl rfl rfl rfl ?_ | refine WL.on rfl rfl ?_ | refine WL.off rfl rfl rfl ?_ | refine WC.condTrue rfl ?_ | refine WC.condFalse rfl ?_)
  exact WQ.ret1 rfl rfl ⟨rfl, h.setL hbr hv', KeepR.set _ _ _ _⟩
theorem wupTo_any {n most : Nat} {r : List Int} (h : WR B w rb (uvB n ++ r)) (hn : n ≤ most) (hm : most ≤ 9007199254740992) :
    Calls Try.prog 32 #[.pointer (some ⟨rb, 0, none⟩), .int .i64 (most : Int)] w fun e w' => e = .returned (.int .i64 (n : Int)) ∧ WR B w' rb r ∧ KeepR rb w w' := by
  refine enter (args := [.pointer (some ⟨rb, 0, none⟩), .int .i64 (most : Int)]) Try.func32 rfl Try.ntmps32 rfl ?_
  have hw64 : IntKind.u64.wrap (most : Int) = (most : Int) := wraps_u64 _ (by omega) (by omega)
  repeat (first | ((with_reducible refine WL.topT ?_ ?_); omega) | ((with_reducible refine WL.topF ?_ ?_); omega) | ((with_reducible refine WL.top64 ?_ ?_); omega) | refine WC.seq ?_ | refine WC.block ?_ | refine WC.region ?_ | refine WL.nil ?_ | refine WC.skip ?_ | refine WC.exit ?_ | refine WC.ret ?_ | refine WQ.then rfl ?_ | refine WQ.thenExit ?_ | refine WQ.thenRet ?_ | refine WQ.blk ?_ | refine WQ.blkRet ?_ | refine WQ.blkHere rfl ?_ | refine WQ.blkOther rfl ?_ | refine WL.pure rfl rfl rfl rfl ?_ | refine WL.on rfl rfl ?_ | refine WL.off rfl rfl rfl ?_ | refine WC.condTrue rfl ?_ | refine WC.condFalse rfl ?_)
  refine WL.call rfl rfl rfl rfl rfl Try.func56 rfl (by kernel_rfl) (wnumber_any h (by omega)) ?_
  rintro _ w2 ⟨rfl, h2, k2⟩
  refine ⟨_, rfl, ?_⟩
  repeat (first | ((with_reducible refine WL.topT ?_ ?_); omega) | ((with_reducible refine WL.topF ?_ ?_); omega) | ((with_reducible refine WL.top64 ?_ ?_); omega) | refine WC.seq ?_ | refine WC.block ?_ | refine WC.region ?_ | refine WL.nil ?_ | refine WC.skip ?_ | refine WC.exit ?_ | refine WC.ret ?_ | refine WQ.then rfl ?_ | refine WQ.thenExit ?_ | refine WQ.thenRet ?_ | refine WQ.blk ?_ | refine WQ.blkRet ?_ | refine WQ.blkHere rfl ?_ | refine WQ.blkOther rfl ?_ | refine WL.pure rfl rfl rfl rfl ?_ | refine WL.on rfl rfl ?_ | refine WL.off rfl rfl rfl ?_ | refine WC.condTrue rfl ?_ | refine WC.condFalse rfl ?_)
  exact WQ.ret1 rfl rfl ⟨rfl, h2, k2⟩
theorem wtake_any {k : Nat} {A r : List Int} (h : WR B w rb (A ++ r)) (hk : A.length = k) (hs : k ≤ 9007199254740992) :
    Calls Try.prog 34 #[.pointer (some ⟨rb, 0, none⟩), .int .i64 (k : Int)] w fun e w' => ∃ v, e = .returned v ∧ SlB (fun b => b < B ∧ b ≠ rb) w' v A ∧ WR B w' rb r ∧ KeepR rb w w' := by
  refine enter (args := [.pointer (some ⟨rb, 0, none⟩), .int .i64 (k : Int)]) Try.func34 rfl Try.ntmps34 rfl ?_
  obtain ⟨sp, cap, h1, h2⟩ := h.ex
  have hbr : Byt r := fun c hc => h.byt c (List.mem_append.2 (.inr hc))
  have hdr : (A ++ r).drop k = r := by rw [← hk]; exact List.drop_left' rfl
  have htk : (A ++ r).take k = A := by rw [← hk]; exact List.take_left' rfl
  have hle : k ≤ (A ++ r).length := by rw [List.length_append]; omega
  repeat (first | ((with_reducible refine WL.topT ?_ ?_); omega) | ((with_reducible refine WL.topF ?_ ?_); omega) | ((with_reducible refine WL.top64 ?_ ?_); omega) | refine WC.seq ?_ | refine WC.block ?_ | refine WC.region ?_ | refine WL.nil ?_ | refine WC.skip ?_ | refine WC.exit ?_ | refine WC.ret ?_ | refine WQ.then rfl ?_ | refine WQ.thenExit ?_ | refine WQ.thenRet ?_ | refine WQ.blk ?_ | refine WQ.blkRet ?_ | refine WQ.blkHere rfl ?_ | refine WQ.blkOther rfl ?_ | refine WL.pure rfl rfl rfl rfl ?_ | refine WL.on rfl rfl ?_ | refine WL.off rfl rfl rfl ?_ | refine WC.condTrue rfl ?_ | refine WC.condFalse rfl ?_)
  refine WL.load rfl rfl rfl rfl rfl rfl (h1.cell 1 (by simp)) ?_
  repeat (first | ((with_reducible refine WL.topT ?_ ?_); omega) | ((with_reducible refine WL.topF ?_ ?_); omega) | ((with_reducible refine WL.top64 ?_ ?_); omega) | refine WC.seq ?_ | refine WC.block ?_ | refine WC.region ?_ | refine WL.nil ?_ | refine WC.skip ?_ | refine WC.exit ?_ | refine WC.ret ?_ | refine WQ.then rfl ?_ | refine WQ.thenExit ?_ | refine WQ.thenRet ?_ | refine WQ.blk ?_ | refine WQ.blkRet ?_ | refine WQ.blkHere rfl ?_ | refine WQ.blkOther rfl ?_ | refine WL.pure rfl rfl rfl rfl ?_ | refine WL.on rfl rfl ?_ | refine WL.off rfl rfl rfl ?_ | refine WC.condTrue rfl ?_ | refine WC.condFalse rfl ?_)
  refine WL.load rfl rfl rfl rfl rfl rfl (h1.cell 0 (by simp)) ?_
  repeat (first | ((with_reducible refine WL.topT ?_ ?_); omega) | ((with_reducible refine WL.topF ?_ ?_); omega) | ((with_reducible refine WL.top64 ?_ ?_); omega) | refine WC.seq ?_ | refine WC.block ?_ | refine WC.region ?_ | refine WL.nil ?_ | refine WC.skip ?_ | refine WC.exit ?_ | refine WC.ret ?_ | refine WQ.then rfl ?_ | refine WQ.thenExit ?_ | refine WQ.thenRet ?_ | refine WQ.blk ?_ | refine WQ.blkRet ?_ | refine WQ.blkHere rfl ?_ | refine WQ.blkOther rfl ?_ | refine WL.pure rfl rfl rfl rfl ?_ | refine WL.on rfl rfl ?_ | refine WL.off rfl rfl rfl ?_ | refine WC.condTrue rfl ?_ | refine WC.condFalse rfl ?_)
  refine WL.load rfl rfl rfl rfl rfl rfl (h1.cell 0 (by simp)) ?_
  repeat (first | ((with_reducible refine WL.topT ?_ ?_); omega) | ((with_reducible refine WL.topF ?_ ?_); omega) | ((with_reducible refine WL.top64 ?_ ?_); omega) | refine WC.seq ?_ | refine WC.block ?_ | refine WC.region ?_ | refine WL.nil ?_ | refine WC.skip ?_ | refine WC.exit ?_ | refine WC.ret ?_ | refine WQ.then rfl ?_ | refine WQ.thenExit ?_ | refine WQ.thenRet ?_ | refine WQ.blk ?_ | refine WQ.blkRet ?_ | refine WQ.blkHere rfl ?_ | refine WQ.blkOther rfl ?_ | refine WL.pure rfl rfl rfl rfl ?_ | refine WL.on rfl rfl ?_ | refine WL.off rfl rfl rfl ?_ | refine WC.condTrue rfl ?_ | refine WC.condFalse rfl ?_)
  refine WL.uptoW (z := (k : Int)) rfl rfl rfl rfl rfl rfl rfl (by omega) (by omega) h2 fun v1 hv1 => ?_
  rw [Int.toNat_natCast, htk] at hv1
  repeat (first | ((with_reducible refine WL.topT ?_ ?_); omega) | ((with_reducible refine WL.topF ?_ ?_); omega) | ((with_reducible refine WL.top64 ?_ ?_); omega) | refine WC.seq ?_ | refine WC.block ?_ | refine WC.region ?_ | refine WL.nil ?_ | refine WC.skip ?_ | refine WC.exit ?_ | refine WC.ret ?_ | refine WQ.then rfl ?_ | refine WQ.thenExit ?_ | refine WQ.thenRet ?_ | refine WQ.blk ?_ | refine WQ.blkRet ?_ | refine WQ.blkHere rfl ?_ | refine WQ.blkOther rfl ?_ | refine WL.pure rfl rfl rfl rfl ?_ | refine WL.on rfl rfl ?_ | refine WL.off rfl rfl rfl ?_ | refine WC.condTrue rfl ?_ | refine WC.condFalse rfl ?_)
  refine WL.load rfl rfl rfl rfl rfl rfl (h1.cell 0 (by simp)) ?_
  repeat (first | ((with_reducible refine WL.topT ?_ ?_); omega) | ((with_reducible refine WL.topF ?_ ?_); omega) | ((with_reducible refine WL.top64 ?_ ?_); omega) | refine WC.seq ?_ | refine WC.block ?_ | refine WC.region ?_ | refine WL.nil ?_ | refine WC.skip ?_ | refine WC.exit ?_ | refine WC.ret ?_ | refine WQ.then rfl ?_ | refine WQ.thenExit ?_ | refine WQ.thenRet ?_ | refine WQ.blk ?_ | refine WQ.blkRet ?_ | refine WQ.blkHere rfl ?_ | refine WQ.blkOther rfl ?_ | refine WL.pure rfl rfl rfl rfl ?_ | refine WL.on rfl rfl ?_ | refine WL.off rfl rfl rfl ?_ | refine WC.condTrue rfl ?_ | refine WC.condFalse rfl ?_)
  refine WL.fromB (z := (k : Int)) rfl rfl rfl rfl rfl rfl rfl (by omega) (by omega) h2 fun v' hv' => ?_
  rw [Int.toNat_natCast, hdr] at hv'
  have hv : v'.oneCell' = true := by obtain ⟨_, _, rfl, -⟩ := hv'.sl; rfl
  repeat (first | ((with_reducible refine WL.topT ?_ ?_); omega) | ((with_reducible refine WL.topF ?_ ?_); omega) | ((with_reducible refine WL.top64 ?_ ?_); omega) | refine WC.seq ?_ | refine WC.block ?_ | refine WC.region ?_ | refine WL.nil ?_ | refine WC.skip ?_ | refine WC.exit ?_ | refine WC.ret ?_ | refine WQ.then rfl ?_ | refine WQ.thenExit ?_ | refine WQ.thenRet ?_ | refine WQ.blk ?_ | refine WQ.blkRet ?_ | refine WQ.blkHere rfl ?_ | refine WQ.blkOther rfl ?_ | refine WL.pure rfl rfl rfl rfl ?_ | refine WL.on rfl rfl ?_ | refine WL.off rfl rfl rfl ?_ | refine WC.condTrue rfl ?_ | refine WC.condFalse rfl ?_)
  refine WL.store rfl rfl rfl rfl rfl hv (by kernel_rfl) (h1.cell 0 (by simp)) (h1.free 0) ?_
  repeat (first | ((with_reducible refine WL.topT ?_ ?_); omega) | ((with_reducible refine WL.topF ?_ ?_); omega) | ((with_reducible refine WL.top64 ?_ ?_); omega) | refine WC.seq ?_ | refine WC.block ?_ | refine WC.region ?_ | refine WL.nil ?_ | refine WC.skip ?_ | refine WC.exit ?_ | refine WC.ret ?_ | refine WQ.then rfl ?_ | refine WQ.thenExit ?_ | refine WQ.thenRet ?_ | refine WQ.blk ?_ | refine WQ.blkRet ?_ | refine WQ.blkHere rfl ?_ | refine WQ.blkOther rfl ?_ | refine WL.pure rfl rfl rfl rfl ?_ | refine WL.on rfl rfl ?_ | refine WL.off rfl rfl rfl ?_ | refine WC.condTrue rfl ?_ | refine WC.condFalse rfl ?_)
  refine WQ.ret1 rfl rfl ⟨v1, rfl, hv1.keep (K := fun b => b ≠ rb) ((Keep.refl _ w).setCell (fun hk => hk rfl) _) fun b hb => hb.2, h.setL hbr hv', KeepR.set _ _ _ _⟩
theorem wbyte_any {c : Int} {r : List Int} (h : WR B w rb (c :: r)) :
    Calls Try.prog 31 #[.pointer (some ⟨rb, 0, none⟩)] w fun e w' => e = .returned (.int .u8 c) ∧ WR B w' rb r ∧ KeepR rb w w' := by
  refine enter (args := [.pointer (some ⟨rb, 0, none⟩)]) Try.func31 rfl Try.ntmps31 rfl ?_
  repeat (first | ((with_reducible refine WL.topT ?_ ?_); omega) | ((with_reducible refine WL.topF ?_ ?_); omega) | ((with_reducible refine WL.top64 ?_ ?_); omega) | refine WC.seq ?_ | refine WC.block ?_ | refine WC.region ?_ | refine WL.nil ?_ | refine WC.skip ?_ | refine WC.exit ?_ | refine WC.ret ?_ | refine WQ.then rfl ?_ | refine WQ.thenExit ?_ | refine WQ.thenRet ?_ | refine WQ.blk ?_ | refine WQ.blkRet ?_ | refine WQ.blkHere rfl ?_ | refine WQ.blkOther rfl ?_ | refine WL.pure rfl rfl rfl rfl ?_ | refine WL.on rfl rfl ?_ | refine WL.off rfl rfl rfl ?_ | refine WC.condTrue rfl ?_ | refine WC.condFalse rfl ?_)
  refine WL.call rfl rfl rfl rfl rfl Try.func34 rfl (by kernel_rfl) (wtake_any (k := 1) (A := [c]) (r := r) h rfl (by omega)) ?_
  rintro _ w2 ⟨v, rfl, hv, h2, k2⟩
  refine ⟨_, rfl, ?_⟩
  obtain ⟨sp, cap, rfl, -⟩ := id hv.sl
  repeat (first | ((with_reducible refine WL.topT ?_ ?_); omega) | ((with_reducible refine WL.topF ?_ ?_); omega) | ((with_reducible refine WL.top64 ?_ ?_); omega) | refine WC.seq ?_ | refine WC.block ?_ | refine WC.region ?_ | refine WL.nil ?_ | refine WC.skip ?_ | refine WC.exit ?_ | refine WC.ret ?_ | refine WQ.then rfl ?_ | refine WQ.thenExit ?_ | refine WQ.thenRet ?_ | refine WQ.blk ?_ | refine WQ.blkRet ?_ | refine WQ.blkHere rfl ?_ | refine WQ.blkOther rfl ?_ | refine WL.pure rfl rfl rfl rfl ?_ | refine WL.on rfl rfl ?_ | refine WL.off rfl rfl rfl ?_ | refine WC.condTrue rfl ?_ | refine WC.condFalse rfl ?_)
  refine WL.idxI 0 rfl rfl rfl rfl rfl rfl hv.sl rfl rfl (by simp) fun p hp => ?_
  repeat (first | ((with_reducible refine WL.topT ?_ ?_); omega) | ((with_reducible refine WL.topF ?_ ?_); omega) | ((with_reducible refine WL.top64 ?_ ?_); omega) | refine WC.seq ?_ | refine WC.block ?_ | refine WC.region ?_ | refine WL.nil ?_ | refine WC.skip ?_ | refine WC.exit ?_ | refine WC.ret ?_ | refine WQ.then rfl ?_ | refine WQ.thenExit ?_ | refine WQ.thenRet ?_ | refine WQ.blk ?_ | refine WQ.blkRet ?_ | refine WQ.blkHere rfl ?_ | refine WQ.blkOther rfl ?_ | refine WL.pure rfl rfl rfl rfl ?_ | refine WL.on rfl rfl ?_ | refine WL.off rfl rfl rfl ?_ | refine WL.load rfl rfl rfl rfl rfl rfl (by assumption) ?_ | refine WC.condTrue rfl ?_ | refine WC.condFalse rfl ?_)
  exact WQ.ret1 rfl rfl ⟨rfl, h2, k2⟩
end K
end Go.Proofs.Ytdkkaliiofcflaa

/- Requests and replies are read (chapter 25): numbers and values, where they were laid. -/
namespace Go.Proofs.Ytdkkaliiofcflaa
open Go.RowKit
namespace K
theorem elemI1 : ElemV Try.prog 22 3 1 8 := ElemV.mk' (z := .int .i64 0) Try.underlying22 (by kernel_rfl) rfl (by omega)
def intP (x : Int) (cs : List Value) : Prop := cs = [.int .i64 x]
theorem intP_sl {O : Nat → Prop} {w : World} {v : Value} {l : List Int} (h : Els 1 0 intP O w v l) : Sl .i64 w v l := by
  obtain ⟨sp, cap, h1, h2, h3, h4, h5⟩ := h
  refine ⟨sp, cap, h1, h2, h3, fun h0 => ?_, h4⟩
  obtain ⟨b, o, e, hb, -, hr⟩ := h5 h0
  refine ⟨b, o, e, hb, fun j hj => ?_⟩
  obtain ⟨cs, -, hp, hat⟩ := hr j hj
  unfold intP at hp
  subst hp
  have := hat 0 _ rfl
  rw [Nat.mul_one, Nat.add_zero] at this
  rw [this]
  rfl
theorem nmB_drop {l : List Int} {i : Nat} (hi : i < l.length) : nmB (l.drop i) = uvB (zig (nth l i)) ++ nmB (l.drop (i + 1)) := by
  unfold nmB nth
  rw [List.drop_eq_getElem_cons hi, List.flatMap_cons]
  simp [hi]
theorem vlB_drop {l : List V} {i : Nat} (hi : i < l.length) : vlB (l.drop i) = uvB (encV 16 (l.getD i noV)).length ++ (encV 16 (l.getD i noV) ++ vlB (l.drop (i + 1))) := by
  unfold vlB
  rw [List.drop_eq_getElem_cons hi, List.flatMap_cons]
  simp [hi]
theorem snoc_take {α : Type} (l : List α) (z : α) {i : Nat} (h : i < l.length) : l.take (i + 1) = l.take i ++ [l.getD i z] := by rw [List.take_add_one]; simp [h]
variable {B rb : Nat} {w : World}
theorem WR.setF {l : List Int} (h : WR B w rb l) : WR B (w.setCell ⟨rb, 1, none⟩ (.bool false)) rb l := by
  obtain ⟨sp, cap, h1, h2⟩ := h.ex
  exact ⟨h.rlt, h.byt, sp, cap, h1.set 1 (.bool false), h2.keep (K := fun b => b ≠ rb) ((Keep.refl _ w).setCell (fun hk => hk rfl) _) fun b hb => hb.2⟩
set_option maxHeartbeats 1000000 in
theorem wnums_any {nums r : List Int} (h : WR B w rb (uvB nums.length ++ (nmB nums ++ r))) (hB : B ≤ w.heap.size) (h8 : nums.length ≤ 8) (h64 : R64w nums) :
    Calls Try.prog 33 #[.pointer (some ⟨rb, 0, none⟩)] w fun e w' => ∃ v, e = .returned v ∧ OwnE 3 1 0 intP (fun b => w.heap.size ≤ b) w' v nums ∧ WR B w' rb r ∧ KeepR rb w w' := by
  refine enter (args := [.pointer (some ⟨rb, 0, none⟩)]) Try.func33 rfl Try.ntmps33 rfl ?_
  have hrB := h.rlt
  repeat (first | ((with_reducible refine WL.topT ?_ ?_); omega) | ((with_reducible refine WL.topF ?_ ?_); omega) | ((with_reducible refine WL.top64 ?_ ?_); omega) | refine WC.seq ?_ | refine WC.block ?_ | refine WC.region ?_ | refine WL.nil ?_ | refine WC.skip ?_ | refine WC.exit ?_ | refine WC.ret ?_ | refine WQ.then rfl ?_ | refine WQ.thenExit ?_ | refine WQ.thenRet ?_ | refine WQ.blk ?_ | refine WQ.blkRet ?_ | refine WQ.blkHere rfl ?_ | refine WQ.blkOther rfl ?_ | refine WL.pure rfl rfl rfl rfl ?_ | refine WL.on rfl rfl ?_ | refine WL.off rfl rfl rfl ?_ | refine WC.condTrue rfl ?_ | refine WC.condFalse rfl ?_)
  refine WL.call rfl rfl rfl rfl rfl Try.func32 rfl (by kernel_rfl) (wupTo_any (most := 8) h h8 (by omega)) ?_
  rintro _ w1 ⟨rfl, h1, k1⟩
  refine ⟨_, rfl, ?_⟩
  repeat (first | ((with_reducible refine WL.topT ?_ ?_); omega) | ((with_reducible refine WL.topF ?_ ?_); omega) | ((with_reducible refine WL.top64 ?_ ?_); omega) | refine WC.seq ?_ | refine WC.block ?_ | refine WC.region ?_ | refine WL.nil ?_ | refine WC.skip ?_ | refine WC.exit ?_ | refine WC.ret ?_ | refine WQ.then rfl ?_ | refine WQ.thenExit ?_ | refine WQ.thenRet ?_ | refine WQ.blk ?_ | refine WQ.blkRet ?_ | refine WQ.blkHere rfl ?_ | refine WQ.blkOther rfl ?_ | refine WL.pure rfl rfl rfl rfl ?_ | refine WL.on rfl rfl ?_ | refine WL.off rfl rfl rfl ?_ | refine WC.condTrue rfl ?_ | refine WC.condFalse rfl ?_)
  refine WC.loop (fun i : Nat × Value => [(0, .pointer (some ⟨rb, 0, none⟩)), (3, i.2), (5, .int .i64 nums.length), (6, .int .i64 i.1)])
    (fun i wr => i.1 ≤ nums.length ∧ WR B wr rb (nmB (nums.drop i.1) ++ r) ∧ OwnE 3 1 0 intP (fun b => w.heap.size ≤ b) wr i.2 (nums.take i.1) ∧ KeepR rb w wr) (fun i => nums.length - i.1) (0, .slice none 0 0) ⟨rfl, rfl, rfl, rfl, trivial⟩
    ⟨Nat.zero_le _, h1, OwnE.nil _ _ _ _ _ _, k1⟩ ?_
  rintro ⟨i, v⟩ wr ⟨hi, hr, ho, hk⟩
  simp only at hi hr ho hk ⊢
  by_cases hik : i < nums.length
  · have hn := h64 _ (nth_mem' nums i hik)
    have hzl := zig_lt hn
    rw [nmB_drop hik, List.append_assoc] at hr
    repeat (first | ((with_reducible refine WL.topT ?_ ?_); omega) | ((with_reducible refine WL.topF ?_ ?_); omega) | ((with_reducible refine WL.top64 ?_ ?_); omega) | refine WC.seq ?_ | refine WC.block ?_ | refine WC.region ?_ | refine WL.nil ?_ | refine WC.skip ?_ | refine WC.exit ?_ | refine WC.ret ?_ | refine WQ.then rfl ?_ | refine WQ.thenExit ?_ | refine WQ.thenRet ?_ | refine WQ.blk ?_ | refine WQ.blkRet ?_ | refine WQ.blkHere rfl ?_ | refine WQ.blkOther rfl ?_ | refine WL.pure rfl rfl rfl rfl ?_ | refine WL.on rfl rfl ?_ | refine WL.off rfl rfl rfl ?_ | refine WC.condTrue rfl ?_ | refine WC.condFalse rfl ?_)
    refine WL.call rfl rfl rfl rfl rfl Try.func56 rfl (by kernel_rfl) (wnumber_any hr hzl) ?_
    rintro _ w2 ⟨rfl, h2, k2⟩
    refine ⟨_, rfl, ?_⟩
    refine WL.call rfl rfl rfl rfl rfl Try.func57 rfl (by kernel_rfl) (zag_any _ hzl w2) ?_
    rintro _ _ ⟨rfl, rfl⟩
    refine ⟨_, rfl, ?_⟩
    rw [zag_zig]
    have ho2 := ho.keep (P' := intP) (O' := fun b => w.heap.size ≤ b) k2 (fun g hg => ⟨ho.lt hg, by have := ho.own hg; omega⟩) (fun _ h => h) fun _ _ h => h
    refine WL.lit1 (cs := [.int .i64 (nth nums i)]) rfl rfl rfl rfl rfl rfl rfl rfl ⟨by omega, by omega⟩ (by kernel_rfl) fun g7 w7 hf7 => ?_
    have hz7 := hf7.size
    have k7 := hf7.below
    have h7 := h2.keep (Keep.of_below k7) fun b hb => by have := k2.size; have := hk.size; omega
    have ho7 := ho2.keep (P' := intP) (O' := fun b => w.heap.size ≤ b) (Keep.of_below k7) (fun g hg => ho2.lt hg) (fun _ h => h) fun _ _ h => h
    have hlt : (nums.take i).length ≤ i := by rw [List.length_take]; omega
    refine WL.snoc (y := nth nums i) rfl rfl rfl rfl elemI1 rfl ho7 rfl hf7.blk (by intro u hu; simp at hu; rw [hu]; rfl) rfl rfl (by omega) (by omega) fun v8 w8 ho8 hg8 => ?_
    have k27 : KeepR rb w w7 := (hk.trans k2).trans (KeepR.below k7)
    have hzw := k27.size
    repeat (first | ((with_reducible refine WL.topT ?_ ?_); omega) | ((with_reducible refine WL.topF ?_ ?_); omega) | ((with_reducible refine WL.top64 ?_ ?_); omega) | refine WC.seq ?_ | refine WC.block ?_ | refine WC.region ?_ | refine WL.nil ?_ | refine WC.skip ?_ | refine WC.exit ?_ | refine WC.ret ?_ | refine WQ.then rfl ?_ | refine WQ.thenExit ?_ | refine WQ.thenRet ?_ | refine WQ.blk ?_ | refine WQ.blkRet ?_ | refine WQ.blkHere rfl ?_ | refine WQ.blkOther rfl ?_ | refine WL.pure rfl rfl rfl rfl ?_ | refine WL.on rfl rfl ?_ | refine WL.off rfl rfl rfl ?_ | refine WC.condTrue rfl ?_ | refine WC.condFalse rfl ?_)
    refine WQ.again (i + 1, v8) ⟨rfl, rfl, rfl, rfl, trivial⟩ ⟨by show i + 1 ≤ nums.length; omega, h7.keep hg8.1 (fun b hb => ⟨by omega, fun e => by have := ho7.own e; omega⟩), ?_, ?_⟩ (by show nums.length - (i + 1) < nums.length - i; omega)
    · show OwnE _ _ _ _ _ _ _ (nums.take (i + 1))
      rw [take_succ' nums i hik]
      exact ho8.keep (Keep.refl (fun _ => True) w8) (fun _ _ => trivial) (fun b hb => by omega) fun _ _ h => h
    · exact Keep.trans k27 (hg8.1.mono fun b hb => ⟨by have := hb.1; omega, fun e => by have := ho7.own e; have := hb.1; omega⟩)
  · obtain rfl : i = nums.length := by omega
    rw [List.drop_length] at hr
    rw [List.take_length] at ho
    repeat (first | ((with_reducible refine WL.topT ?_ ?_); omega) | ((with_reducible refine WL.topF ?_ ?_); omega) | ((with_reducible refine WL.top64 ?_ ?_); omega) | refine WC.seq ?_ | refine WC.block ?_ | refine WC.region ?_ | refine WL.nil ?_ | refine WC.skip ?_ | refine WC.exit ?_ | refine WC.ret ?_ | refine WQ.then rfl ?_ | refine WQ.thenExit ?_ | refine WQ.thenRet ?_ | refine WQ.blk ?_ | refine WQ.blkRet ?_ | refine WQ.blkHere rfl ?_ | refine WQ.blkOther rfl ?_ | refine WL.pure rfl rfl rfl rfl ?_ | refine WL.on rfl rfl ?_ | refine WL.off rfl rfl rfl ?_ | refine WC.condTrue rfl ?_ | refine WC.condFalse rfl ?_)
    exact WQ.ret1 rfl rfl ⟨v, rfl, ho, hr, hk⟩
/-- Values whose bytes read as they were. -/
def Backs (l : List V) : Prop := ∀ v ∈ l, readV true (encV 16 v) = .ok v [] ∧ Byt (encV 16 v) ∧ (encV 16 v).length ≤ 65536
set_option maxHeartbeats 2000000 in
theorem wreadvals_any {l : List V} {r : List Int} {most : Nat} (h : WR B w rb (uvB l.length ++ (vlB l ++ r))) (hB : B ≤ w.heap.size) (hm : l.length ≤ most) (hmm : most ≤ 1000000) (hl : Backs l) :
    Calls Try.prog 35 #[.pointer (some ⟨rb, 0, none⟩), .int .i64 (most : Int)] w fun e w' => ∃ v, e = .returned v ∧ (∃ q : Nat → Prop, OwnE 60 6 noV (IsVo q 17 w') (fun b => w.heap.size ≤ b) w' v l ∧ ∀ b, q b → w.heap.size ≤ b ∧ b < w'.heap.size) ∧ WR B w' rb r ∧ KeepR rb w w' := by
  refine enter (args := [.pointer (some ⟨rb, 0, none⟩), .int .i64 (most : Int)]) Try.func35 rfl Try.ntmps35 rfl ?_
  have hrB := h.rlt
  repeat (first | ((with_reducible refine WL.topT ?_ ?_); omega) | ((with_reducible refine WL.topF ?_ ?_); omega) | ((with_reducible refine WL.top64 ?_ ?_); omega) | refine WC.seq ?_ | refine WC.block ?_ | refine WC.region ?_ | refine WL.nil ?_ | refine WC.skip ?_ | refine WC.exit ?_ | refine WC.ret ?_ | refine WQ.then rfl ?_ | refine WQ.thenExit ?_ | refine WQ.thenRet ?_ | refine WQ.blk ?_ | refine WQ.blkRet ?_ | refine WQ.blkHere rfl ?_ | refine WQ.blkOther rfl ?_ | refine WL.pure rfl rfl rfl rfl ?_ | refine WL.on rfl rfl ?_ | refine WL.off rfl rfl rfl ?_ | refine WC.condTrue rfl ?_ | refine WC.condFalse rfl ?_)
  refine WL.call rfl rfl rfl rfl rfl Try.func32 rfl (by kernel_rfl) (wupTo_any (most := most) h hm (by omega)) ?_
  rintro _ w1 ⟨rfl, h1, k1⟩
  refine ⟨_, rfl, ?_⟩
  repeat (first | ((with_reducible refine WL.topT ?_ ?_); omega) | ((with_reducible refine WL.topF ?_ ?_); omega) | ((with_reducible refine WL.top64 ?_ ?_); omega) | refine WC.seq ?_ | refine WC.block ?_ | refine WC.region ?_ | refine WL.nil ?_ | refine WC.skip ?_ | refine WC.exit ?_ | refine WC.ret ?_ | refine WQ.then rfl ?_ | refine WQ.thenExit ?_ | refine WQ.thenRet ?_ | refine WQ.blk ?_ | refine WQ.blkRet ?_ | refine WQ.blkHere rfl ?_ | refine WQ.blkOther rfl ?_ | refine WL.pure rfl rfl rfl rfl ?_ | refine WL.on rfl rfl ?_ | refine WL.off rfl rfl rfl ?_ | refine WC.condTrue rfl ?_ | refine WC.condFalse rfl ?_)
  refine WC.loop (fun i : Nat × Value => [(0, .pointer (some ⟨rb, 0, none⟩)), (5, i.2), (10, .int .i64 l.length), (11, .int .i64 i.1)])
    (fun i wr => i.1 ≤ l.length ∧ WR B wr rb (vlB (l.drop i.1) ++ r) ∧ (∃ q : Nat → Prop, OwnE 60 6 noV (IsVo q 17 wr) (fun b => w.heap.size ≤ b) wr i.2 (l.take i.1) ∧ ∀ b, q b → w.heap.size ≤ b ∧ b < wr.heap.size ∧ i.2.ownBlock ≠ some b) ∧ KeepR rb w wr) (fun i => l.length - i.1) (0, .slice none 0 0) ⟨rfl, rfl, rfl, rfl, trivial⟩
    ⟨Nat.zero_le _, h1, ⟨fun _ => False, OwnE.nil _ _ _ _ _ _, fun b h => h.elim⟩, k1⟩ ?_
  rintro ⟨i, v⟩ wr ⟨hi, hr, ⟨q, ho, hq⟩, hk⟩
  simp only at hi hr ho hq hk ⊢
  by_cases hik : i < l.length
  · have hmem : l.getD i noV ∈ l := by rw [List.getD_eq_getElem?_getD, List.getElem?_eq_getElem hik]; exact List.getElem_mem hik
    obtain ⟨hrd, hby, h65⟩ := hl _ hmem
    have htk := snoc_take l noV hik
    rw [vlB_drop hik, List.append_assoc, List.append_assoc] at hr
    generalize l.getD i noV = x at hmem hrd hby h65 htk hr
    have hzr := hk.size
    repeat (first | ((with_reducible refine WL.topT ?_ ?_); omega) | ((with_reducible refine WL.topF ?_ ?_); omega) | ((with_reducible refine WL.top64 ?_ ?_); omega) | refine WC.seq ?_ | refine WC.block ?_ | refine WC.region ?_ | refine WL.nil ?_ | refine WC.skip ?_ | refine WC.exit ?_ | refine WC.ret ?_ | refine WQ.then rfl ?_ | refine WQ.thenExit ?_ | refine WQ.thenRet ?_ | refine WQ.blk ?_ | refine WQ.blkRet ?_ | refine WQ.blkHere rfl ?_ | refine WQ.blkOther rfl ?_ | refine WL.pure rfl rfl rfl rfl ?_ | refine WL.on rfl rfl ?_ | refine WL.off rfl rfl rfl ?_ | refine WC.condTrue rfl ?_ | refine WC.condFalse rfl ?_)
    refine WL.call rfl rfl rfl rfl rfl Try.func32 rfl (by kernel_rfl) (wupTo_any (most := 65536) hr h65 (by omega)) ?_
    rintro _ w2 ⟨rfl, h2, k2⟩
    refine ⟨_, rfl, ?_⟩
    refine WL.call rfl rfl rfl rfl rfl Try.func34 rfl (by kernel_rfl) (wtake_any (k := (encV 16 x).length) (A := encV 16 x) h2 rfl (by omega)) ?_
    rintro _ w3 ⟨tv, rfl, htv, h3, k3⟩
    refine ⟨_, rfl, ?_⟩
    refine WL.call rfl rfl rfl rfl rfl Try.func58 rfl (by kernel_rfl) (decode_any htv.sl hby (by omega)) ?_
    rintro _ w4 ⟨k4, y, cs, e4, rfl, hv4, hm4⟩
    refine ⟨_, rfl, ?_⟩
    rw [hrd] at hm4
    obtain ⟨rfl, rfl⟩ := hm4
    have hz2 := k2.size
    have hz3 := k3.size
    have hz4 := k4.size
    have kr4 : KeepR rb wr w4 := (k2.trans k3).trans (KeepR.below k4)
    have h4 := h3.keep (Keep.of_below k4) fun b hb => by omega
    have hc6 := hv4.len
    repeat (first | ((with_reducible refine WL.topT ?_ ?_); omega) | ((with_reducible refine WL.topF ?_ ?_); omega) | ((with_reducible refine WL.top64 ?_ ?_); omega) | refine WC.seq ?_ | refine WC.block ?_ | refine WC.region ?_ | refine WL.nil ?_ | refine WC.skip ?_ | refine WC.exit ?_ | refine WC.ret ?_ | refine WQ.then rfl ?_ | refine WQ.thenExit ?_ | refine WQ.thenRet ?_ | refine WQ.blk ?_ | refine WQ.blkRet ?_ | refine WQ.blkHere rfl ?_ | refine WQ.blkOther rfl ?_ | refine WL.pure rfl rfl rfl rfl ?_ | refine WL.on rfl rfl ?_ | refine WL.off rfl rfl rfl ?_ | refine WC.condTrue rfl ?_ | refine WC.condFalse rfl ?_)
    refine WL.alloc (z := .agg zCells.toArray) rfl rfl rfl rfl (fun _ => by kernel_rfl) fun g5 w5 hf5 => ?_
    have hf5' : Fresh w4 g5 w5 60 zCells := hf5
    clear hf5
    have hg5 := hf5'.eq
    have hz5 := hf5'.size
    repeat (first | ((with_reducible refine WL.topT ?_ ?_); omega) | ((with_reducible refine WL.topF ?_ ?_); omega) | ((with_reducible refine WL.top64 ?_ ?_); omega) | refine WC.seq ?_ | refine WC.block ?_ | refine WC.region ?_ | refine WL.nil ?_ | refine WC.skip ?_ | refine WC.exit ?_ | refine WC.ret ?_ | refine WQ.then rfl ?_ | refine WQ.thenExit ?_ | refine WQ.thenRet ?_ | refine WQ.blk ?_ | refine WQ.blkRet ?_ | refine WQ.blkHere rfl ?_ | refine WQ.blkOther rfl ?_ | refine WL.pure rfl rfl rfl rfl ?_ | refine WL.on rfl rfl ?_ | refine WL.off rfl rfl rfl ?_ | refine WC.condTrue rfl ?_ | refine WC.condFalse rfl ?_)
    refine WL.storeRow rfl rfl rfl rfl rfl rfl hf5'.blk hc6 (by rfl) hv4.one ?_
    have k6 : Below w4.heap.size w4 (w5.setRow g5 cs.toArray) := below_setRow hf5'.below (by rw [hg5]; exact Nat.le_refl _) _
    have T6 := hf5'.blk.setRow cs
    have hz6 : (w5.setRow g5 cs.toArray).heap.size = w5.heap.size := by simp
    generalize w5.setRow g5 cs.toArray = w6 at k6 T6 hz6 ⊢
    clear hf5'
    have h6 := h4.keep (Keep.of_below k6) fun b hb => by omega
    obtain ⟨sp6, cap6, hb6, -⟩ := h6.ex
    repeat (first | ((with_reducible refine WL.topT ?_ ?_); omega) | ((with_reducible refine WL.topF ?_ ?_); omega) | ((with_reducible refine WL.top64 ?_ ?_); omega) | refine WC.seq ?_ | refine WC.block ?_ | refine WC.region ?_ | refine WL.nil ?_ | refine WC.skip ?_ | refine WC.exit ?_ | refine WC.ret ?_ | refine WQ.then rfl ?_ | refine WQ.thenExit ?_ | refine WQ.thenRet ?_ | refine WQ.blk ?_ | refine WQ.blkRet ?_ | refine WQ.blkHere rfl ?_ | refine WQ.blkOther rfl ?_ | refine WL.pure rfl rfl rfl rfl ?_ | refine WL.on rfl rfl ?_ | refine WL.off rfl rfl rfl ?_ | refine WC.condTrue rfl ?_ | refine WC.condFalse rfl ?_)
    refine WL.load rfl rfl rfl rfl rfl rfl (hb6.cell 1 (by simp)) ?_
    repeat (first | ((with_reducible refine WL.topT ?_ ?_); omega) | ((with_reducible refine WL.topF ?_ ?_); omega) | ((with_reducible refine WL.top64 ?_ ?_); omega) | refine WC.seq ?_ | refine WC.block ?_ | refine WC.region ?_ | refine WL.nil ?_ | refine WC.skip ?_ | refine WC.exit ?_ | refine WC.ret ?_ | refine WQ.then rfl ?_ | refine WQ.thenExit ?_ | refine WQ.thenRet ?_ | refine WQ.blk ?_ | refine WQ.blkRet ?_ | refine WQ.blkHere rfl ?_ | refine WQ.blkOther rfl ?_ | refine WL.pure rfl rfl rfl rfl ?_ | refine WL.on rfl rfl ?_ | refine WL.off rfl rfl rfl ?_ | refine WC.condTrue rfl ?_ | refine WC.condFalse rfl ?_)
    refine WL.store rfl rfl rfl rfl rfl rfl (by kernel_rfl) (hb6.cell 1 (by simp)) (hb6.free 1) ?_
    have h7 := h6.setF
    have hset : Keep (fun b => b ≠ rb) w6 (w6.setCell ⟨rb, 1, none⟩ (.bool false)) := (Keep.refl _ w6).setCell (fun hk => hk rfl) _
    have T7 : VBlk 60 (w6.setCell ⟨rb, 1, none⟩ (.bool false)) g5 cs := T6.other _ _ (by show g5 ≠ rb; omega)
    have kr6 : KeepR rb w4 (w6.setCell ⟨rb, 1, none⟩ (.bool false)) := (KeepR.below k6).trans (KeepR.set _ _ _ _)
    have hz7 : (w6.setCell ⟨rb, 1, none⟩ (.bool false)).heap.size = w6.heap.size := by simp
    generalize w6.setCell ⟨rb, 1, none⟩ (.bool false) = w7 at h7 hset T7 kr6 hz7 ⊢
    obtain ⟨sp7, cap7, hb7, -⟩ := h7.ex
    repeat (first | ((with_reducible refine WL.topT ?_ ?_); omega) | ((with_reducible refine WL.topF ?_ ?_); omega) | ((with_reducible refine WL.top64 ?_ ?_); omega) | refine WC.seq ?_ | refine WC.block ?_ | refine WC.region ?_ | refine WL.nil ?_ | refine WC.skip ?_ | refine WC.exit ?_ | refine WC.ret ?_ | refine WQ.then rfl ?_ | refine WQ.thenExit ?_ | refine WQ.thenRet ?_ | refine WQ.blk ?_ | refine WQ.blkRet ?_ | refine WQ.blkHere rfl ?_ | refine WQ.blkOther rfl ?_ | refine WL.pure rfl rfl rfl rfl ?_ | refine WL.on rfl rfl ?_ | refine WL.off rfl rfl rfl ?_ | refine WC.condTrue rfl ?_ | refine WC.condFalse rfl ?_)
    refine WL.load rfl rfl rfl rfl rfl rfl (hb7.cell 1 (by simp)) ?_
    repeat (first | ((with_reducible refine WL.topT ?_ ?_); omega) | ((with_reducible refine WL.topF ?_ ?_); omega) | ((with_reducible refine WL.top64 ?_ ?_); omega) | refine WC.seq ?_ | refine WC.block ?_ | refine WC.region ?_ | refine WL.nil ?_ | refine WC.skip ?_ | refine WC.exit ?_ | refine WC.ret ?_ | refine WQ.then rfl ?_ | refine WQ.thenExit ?_ | refine WQ.thenRet ?_ | refine WQ.blk ?_ | refine WQ.blkRet ?_ | refine WQ.blkHere rfl ?_ | refine WQ.blkOther rfl ?_ | refine WL.pure rfl rfl rfl rfl ?_ | refine WL.on rfl rfl ?_ | refine WL.off rfl rfl rfl ?_ | refine WC.condTrue rfl ?_ | refine WC.condFalse rfl ?_)
    refine WL.loadMid rfl rfl rfl rfl rfl rfl (VBlk.rangeAt T7) hc6 ?_
    refine WL.lit1 rfl rfl rfl rfl rfl rfl rfl hc6 ⟨by omega, by omega⟩ (by kernel_rfl) fun g8 w8 hf8 => ?_
    have hz8 := hf8.size
    have kr8 : KeepR rb wr w8 := (kr4.trans kr6).trans (KeepR.below hf8.below)
    have h8 := h7.keep (Keep.of_below hf8.below) fun b hb => by omega
    have hrB' : rb < w.heap.size := by omega
    have ho8 : OwnE 60 6 noV (IsVo (fun b => q b ∨ (w3.heap.size ≤ b ∧ b < w4.heap.size)) 17 w8) (fun b => w.heap.size ≤ b) w8 v (l.take i) :=
      ho.keep kr8 (fun g hg => ⟨ho.lt hg, by have := ho.own hg; omega⟩) (fun _ h => h) fun x cs hx => hx.keep kr8 (fun b hb _ => ⟨(hq b hb).2.1, by have := (hq b hb).1; omega⟩) fun b hb => .inl hb
    have kr48 : KeepR rb w4 w8 := kr6.trans (KeepR.below hf8.below)
    have hv8 : IsVo (fun b => q b ∨ (w3.heap.size ≤ b ∧ b < w4.heap.size)) 17 w8 y cs := hv4.there.keep kr48 (fun b hb _ => ⟨hb.2, by have := hb.1; omega⟩) fun b hb => .inr hb
    have hlt : (l.take i).length ≤ i := by rw [List.length_take]; omega
    refine WL.snoc rfl rfl rfl rfl elemV6 rfl ho8 rfl hf8.blk hv4.one hc6 hv8 (by omega) (by omega) fun v9 w9 ho9 hg9 => ?_
    have hz9 := hg9.1.size
    have hq9 : ∀ b, (q b ∨ (w3.heap.size ≤ b ∧ b < w4.heap.size)) → w.heap.size ≤ b ∧ b < w8.heap.size ∧ v.ownBlock ≠ some b := fun b hb => hb.elim (fun h => by
        obtain ⟨h1, h2, h3⟩ := hq b h
        exact ⟨h1, by omega, h3⟩) fun h => ⟨by omega, by omega, fun e => by have := ho.lt e; omega⟩
    repeat (first | ((with_reducible refine WL.topT ?_ ?_); omega) | ((with_reducible refine WL.topF ?_ ?_); omega) | ((with_reducible refine WL.top64 ?_ ?_); omega) | refine WC.seq ?_ | refine WC.block ?_ | refine WC.region ?_ | refine WL.nil ?_ | refine WC.skip ?_ | refine WC.exit ?_ | refine WC.ret ?_ | refine WQ.then rfl ?_ | refine WQ.thenExit ?_ | refine WQ.thenRet ?_ | refine WQ.blk ?_ | refine WQ.blkRet ?_ | refine WQ.blkHere rfl ?_ | refine WQ.blkOther rfl ?_ | refine WL.pure rfl rfl rfl rfl ?_ | refine WL.on rfl rfl ?_ | refine WL.off rfl rfl rfl ?_ | refine WC.condTrue rfl ?_ | refine WC.condFalse rfl ?_)
    refine WQ.again (i + 1, v9) ⟨rfl, rfl, rfl, rfl, trivial⟩ ⟨by show i + 1 ≤ l.length; omega, h8.keep hg9.1 (fun b hb => ⟨by omega, fun e => by have := ho8.own e; omega⟩), ⟨(fun b => q b ∨ (w3.heap.size ≤ b ∧ b < w4.heap.size)), ?_, fun b hb => ?_⟩, ?_⟩ (by show l.length - (i + 1) < l.length - i; omega)
    · show OwnE _ _ _ _ _ _ _ (l.take (i + 1))
      rw [htk]
      exact ho9.keep (Keep.refl (fun _ => True) w9) (fun _ _ => trivial) (fun b hb => by omega) fun x cs hx => hx.keep hg9.1 (fun b hb _ => (hq9 b hb).2) fun b hb => hb
    · obtain ⟨e1, e2, e3⟩ := hq9 b hb
      exact ⟨e1, by omega, fun e => (hg9.2 b e).elim e3 fun h4 => by omega⟩
    · exact Keep.trans (hk.trans kr8) (hg9.1.mono fun b hb => ⟨by have := hb.1; have := kr8.size; omega, fun e => by have := ho8.own e; have := hb.1; omega⟩)
  · obtain rfl : i = l.length := by omega
    rw [List.drop_length] at hr
    rw [List.take_length] at ho
    repeat (first | ((with_reducible refine WL.topT ?_ ?_); omega) | ((with_reducible refine WL.topF ?_ ?_); omega) | ((with_reducible refine WL.top64 ?_ ?_); omega) | refine WC.seq ?_ | refine WC.block ?_ | refine WC.region ?_ | refine WL.nil ?_ | refine WC.skip ?_ | refine WC.exit ?_ | refine WC.ret ?_ | refine WQ.then rfl ?_ | refine WQ.thenExit ?_ | refine WQ.thenRet ?_ | refine WQ.blk ?_ | refine WQ.blkRet ?_ | refine WQ.blkHere rfl ?_ | refine WQ.blkOther rfl ?_ | refine WL.pure rfl rfl rfl rfl ?_ | refine WL.on rfl rfl ?_ | refine WL.off rfl rfl rfl ?_ | refine WC.condTrue rfl ?_ | refine WC.condFalse rfl ?_)
    exact WQ.ret1 rfl rfl ⟨v, rfl, ⟨q, ho, fun b hb => ⟨(hq b hb).1, (hq b hb).2.1⟩⟩, hr, hk⟩
end K
end Go.Proofs.Ytdkkaliiofcflaa

/- A request's frame is read (chapter 25): the program's open and Decode. -/
namespace Go.Proofs.Ytdkkaliiofcflaa
open Go.RowKit
namespace K
theorem strOf_bytesI (t : ByteArray) : strOfNums (bytesI t) = t := by
  rw [strOfNums_mk]
  unfold bytesI
  rw [List.map_map, ByteArray.toList_eq]
  have : (t.data.toList.map ((fun (c : Int) => UInt8.ofNat c.toNat) ∘ fun c : UInt8 => (c.toNat : Int))) = t.data.toList := by
    conv => rhs; rw [← List.map_id t.data.toList]
    refine List.map_congr_left fun c _ => ?_
    simp
  rw [this]
theorem elsV {q O : Nat → Prop} {w : World} {f : Nat} {v : Value} {l : List V} (h : Els 6 noV (IsVo q f w) O w v l) : IsVs f w v l := by
  obtain ⟨sp, cap, k1, k2, k3, -, k4⟩ := h
  refine ⟨sp, cap, k1, k2, k3, fun h0 => ?_⟩
  obtain ⟨b, o, e, hb, -, hr⟩ := k4 h0
  refine ⟨b, o, e, hb, fun j hj => ?_⟩
  obtain ⟨cs, hc, hp, hat⟩ := hr j hj
  exact ⟨cs, hc, IsVo.isV hp, hat⟩
/-- What stands while a request or a reply is read. -/
structure DSt (T B rb gx S4 : Nat) (w0 w : World) (rest : List Int) (cells : List Value) (nv : Value) (ns : List Int) (pv : Value) (vs : List V) : Prop where
  r : WR B w rb rest
  hBg : B ≤ gx
  hg : gx < S4
  hs : S4 ≤ w.heap.size
  w0r : w0.heap.size ≤ rb
  x : VBlk T w gx cells
  n : OwnE 3 1 0 intP (fun b => S4 ≤ b) w nv ns
  v : ∃ q : Nat → Prop, OwnE 60 6 noV (IsVo q 17 w) (fun b => S4 ≤ b) w pv vs ∧ ∀ b, q b → S4 ≤ b ∧ b < w.heap.size
  below : Below w0.heap.size w0 w
section
variable {T B rb gx S4 : Nat} {w0 w w' : World} {rest rest' : List Int} {cells cells' : List Value} {nv : Value} {ns : List Int} {pv : Value} {vs : List V}
theorem DSt.rg (s : DSt T B rb gx S4 w0 w rest cells nv ns pv vs) : rb < gx := Nat.lt_of_lt_of_le s.r.rlt s.hBg
/-- Some blocks change. -/
theorem DSt.keep (s : DSt T B rb gx S4 w0 w rest cells nv ns pv vs) {K : Nat → Prop} (k : Keep K w w') (hK : ∀ b, b < w.heap.size → b ≠ rb → b ≠ gx → K b) (r' : WR B w' rb rest') (x' : VBlk T w' gx cells') : DSt T B rb gx S4 w0 w' rest' cells' nv ns pv vs := by
  have h1 := s.rg
  have h2 := s.hg
  have h3 := s.w0r
  have h4 := s.hs
  refine ⟨r', s.hBg, s.hg, Nat.le_trans s.hs k.size, s.w0r, x', s.n.keep k (fun g hg => hK g (s.n.lt hg) (by have := s.n.own hg; omega) (by have := s.n.own hg; omega)) (fun _ h => h) fun _ _ h => h, ?_, ?_⟩
  · obtain ⟨q, ho, hq⟩ := s.v
    refine ⟨q, ho.keep k (fun g hg => hK g (ho.lt hg) (by have := ho.own hg; omega) (by have := ho.own hg; omega)) (fun _ h => h) fun y cs hy => hy.keep k (fun b hb _ => hK b (hq b hb).2 (by have := (hq b hb).1; omega) (by have := (hq b hb).1; omega)) fun b hb => hb, fun b hb => ⟨(hq b hb).1, by have := (hq b hb).2; have := k.size; omega⟩⟩
  · exact s.below.trans (Keep.below (k.mono fun b hb => hK b (by omega) (by omega) (by omega)))
theorem DSt.call (s : DSt T B rb gx S4 w0 w rest cells nv ns pv vs) (r' : WR B w' rb rest') (k : KeepR rb w w') : DSt T B rb gx S4 w0 w' rest' cells nv ns pv vs :=
  s.keep k (fun b h1 h2 _ => ⟨h1, h2⟩) r' (s.x.keep k ⟨s.x.lt, by have := s.rg; omega⟩)
theorem DSt.put (s : DSt T B rb gx S4 w0 w rest cells nv ns pv vs) (i : Nat) (u : Value) : DSt T B rb gx S4 w0 (w.setCell ⟨gx, i, none⟩ u) rest (cells.set i u) nv ns pv vs :=
  s.keep (K := fun b => b ≠ gx) ((Keep.refl _ w).setCell (fun hk => hk rfl) _) (fun b _ _ h => h) (s.r.keep (K := fun b => b ≠ gx) ((Keep.refl _ w).setCell (fun hk => hk rfl) _) fun b hb => by have := s.hBg; omega) (s.x.set i u)
theorem DSt.row (s : DSt T B rb gx S4 w0 w rest cells nv ns pv vs) (cs : List Value) : DSt T B rb gx S4 w0 (w.setRow gx cs.toArray) rest cs nv ns pv vs :=
  s.keep (K := fun b => b ≠ gx) (Keep.setRow (Keep.refl _ w) (fun hk => hk rfl) _) (fun b _ _ h => h) (s.r.keep (K := fun b => b ≠ gx) (Keep.setRow (Keep.refl _ w) (fun hk => hk rfl) _) fun b hb => by have := s.hBg; omega) (s.x.setRow cs)
theorem DSt.bad (s : DSt T B rb gx S4 w0 w rest cells nv ns pv vs) : DSt T B rb gx S4 w0 (w.setCell ⟨rb, 1, none⟩ (.bool false)) rest cells nv ns pv vs := s.call s.r.setF (KeepR.set _ _ _ _)
theorem DSt.down (s : DSt T B rb gx S4 w0 w rest cells nv ns pv vs) (k : Below w.heap.size w w') : DSt T B rb gx S4 w0 w' rest cells nv ns pv vs :=
  s.keep (Keep.of_below k) (fun b h _ _ => h) (s.r.keep (Keep.of_below k) fun b hb => by have := s.hBg; have := s.hg; have := s.hs; omega) (s.x.below k s.x.lt)
end
theorem wopen_ok {w : World} {v : Value} {P : List Int} (hv : Sl .u8 w v (Frm.frameL P)) (hb : Frm.Byt P) (hl : P.length ≤ 524288) :
    Calls Try.prog 30 #[v] w fun e w' => ∃ rb, e = .returned (.tuple #[.pointer (some ⟨rb, 0, none⟩), .int .i64 0]) ∧ WR w'.heap.size w' rb P ∧ Below w.heap.size w w' ∧ w.heap.size ≤ rb := by
  have hFl := Frm.frameL_len P
  have hFb : Frm.Byt (Frm.frameL P) := fun c hc => by
    unfold Frm.frameL Frm.headF at hc
    rcases List.mem_append.1 hc with h | h
    · exact (List.mem_append.1 h).elim (Crc.be4_byt _ c) (Crc.be4_byt _ c)
    · exact (List.mem_append.1 h).elim (hb c) (Crc.be4_byt _ c)
  have hdec : Frm.decF (Frm.frameL P) = (0, P, P.length + 12) := by
    have := Frm.decF_enc hl []
    rwa [List.append_nil] at this
  generalize Frm.frameL P = F at hv hFl hFb hdec
  obtain ⟨sp, cap, rfl, -⟩ := id hv
  refine enter (args := [.slice sp F.length cap]) Try.func30 rfl Try.ntmps30 rfl ?_
  repeat (first | ((with_reducible refine WL.topT ?_ ?_); omega) | ((with_reducible refine WL.topF ?_ ?_); omega) | ((with_reducible refine WL.top64 ?_ ?_); omega) | refine WC.seq ?_ | refine WC.block ?_ | refine WC.region ?_ | refine WL.nil ?_ | refine WC.skip ?_ | refine WC.exit ?_ | refine WC.ret ?_ | refine WQ.then rfl ?_ | refine WQ.thenExit ?_ | refine WQ.thenRet ?_ | refine WQ.blk ?_ | refine WQ.blkRet ?_ | refine WQ.blkHere rfl ?_ | refine WQ.blkOther rfl ?_ | refine WL.pure rfl rfl rfl rfl ?_ | refine WL.on rfl rfl ?_ | refine WL.off rfl rfl rfl ?_ | refine WC.condTrue rfl ?_ | refine WC.condFalse rfl ?_)
  refine WL.call rfl rfl rfl rfl rfl Try.func55 rfl (by kernel_rfl) (fdec_any hv hFb (by omega)) ?_
  rintro _ w1 ⟨b, rfl, q1, k1, o1⟩
  refine ⟨_, rfl, ?_⟩
  have d1 : (Frm.decF F).1 = 0 := by rw [hdec]
  have d2 : (Frm.decF F).2.1 = P := by rw [hdec]
  have d3 : (Frm.decF F).2.2 = P.length + 12 := by rw [hdec]
  rw [d2] at q1
  rw [d1, d3]
  obtain ⟨spb, capb, rfl, -⟩ := id q1.form
  have hF' : ((P.length + 12 : Nat) : Int) = (F.length : Int) := by omega
  repeat (first | ((with_reducible refine WL.topT ?_ ?_); omega) | ((with_reducible refine WL.topF ?_ ?_); omega) | ((with_reducible refine WL.top64 ?_ ?_); omega) | refine WC.seq ?_ | refine WC.block ?_ | refine WC.region ?_ | refine WL.nil ?_ | refine WC.skip ?_ | refine WC.exit ?_ | refine WC.ret ?_ | refine WQ.then rfl ?_ | refine WQ.thenExit ?_ | refine WQ.thenRet ?_ | refine WQ.blk ?_ | refine WQ.blkRet ?_ | refine WQ.blkHere rfl ?_ | refine WQ.blkOther rfl ?_ | refine WL.pure rfl rfl rfl rfl ?_ | refine WL.on rfl rfl ?_ | refine WL.off rfl rfl rfl ?_ | refine WC.condTrue rfl ?_ | refine WC.condFalse rfl ?_)
  refine WL.build [.slice spb P.length capb, .bool false] rfl rfl rfl rfl rfl (by kernel_rfl) ?_
  refine WL.box rfl rfl rfl rfl rfl fun g w2 hf0 => ?_
  have hf : Fresh w1 g w2 75 [.slice spb P.length capb, .bool false] := hf0
  clear hf0
  have hge := hf.eq
  have hgs := hf.size
  have q2 := q1.below hf.below
  have T := hf.blk
  have k2 : Below w.heap.size w w2 := k1.trans (hf.below.mono k1.size)
  repeat (first | ((with_reducible refine WL.topT ?_ ?_); omega) | ((with_reducible refine WL.topF ?_ ?_); omega) | ((with_reducible refine WL.top64 ?_ ?_); omega) | refine WC.seq ?_ | refine WC.block ?_ | refine WC.region ?_ | refine WL.nil ?_ | refine WC.skip ?_ | refine WC.exit ?_ | refine WC.ret ?_ | refine WQ.then rfl ?_ | refine WQ.thenExit ?_ | refine WQ.thenRet ?_ | refine WQ.blk ?_ | refine WQ.blkRet ?_ | refine WQ.blkHere rfl ?_ | refine WQ.blkOther rfl ?_ | refine WL.pure rfl rfl rfl rfl ?_ | refine WL.on rfl rfl ?_ | refine WL.off rfl rfl rfl ?_ | refine WC.condTrue rfl ?_ | refine WC.condFalse rfl ?_)
  refine WQ.ret2 rfl rfl rfl ⟨g, rfl, ⟨by omega, hb, ?_⟩, k2, by have := k1.size; omega⟩
  have hob : (Value.slice spb P.length capb).ownBlock ≠ some g := fun e => by have := q1.lt _ e; omega
  exact ⟨spb, capb, T, q2.sl, fun h0 b' o' s' n' c' e => by
    injection e with e1 _ _
    subst e1
    have : (Value.slice (some ⟨b', o', s'⟩) P.length capb).ownBlock = some b' := rfl
    exact ⟨q2.lt _ this, fun e => hob (by rw [this, e])⟩⟩
end K
end Go.Proofs.Ytdkkaliiofcflaa

/- Walks over the slots that are asked for: copy onto a part of a block. -/
namespace Go.Proofs.Ytdkkaliiofcflaa
open Go.RowKit
namespace K
variable {n : Nat} {Q : Exit → Act → World → Prop} {l : Env} {w w' : World} {ops : Array Oper} {o : Oper} {rest : List Oper} {d : Nat}
theorem copy_run {v : Value} {x : List Int} {b off m T : Nat} {cs : List Value} (ty' : Nat) (hb : VBlk T w b cs) (hs : Sl .u8 w v x) (hx : x.length ≤ m) (hfit : off + m ≤ cs.length) :
    (Builtin.copy_ #[27, 27] ty' #[.slice (some ⟨b, off, none⟩) m m, v]).run Try.prog w = .ok (.int .i64 x.length) (w.setRow b (cs.take off ++ x.map (Value.int .u8) ++ cs.drop (off + x.length)).toArray) := by
  have hsz : (Try.prog.info? 5).map (·.size) = some 1 := by kernel_rfl
  obtain ⟨sp, cap, rfl, h1, h2, h3, h4⟩ := hs
  rcases Nat.eq_zero_or_pos x.length with h0 | h0
  · obtain rfl := List.eq_nil_of_length_eq_zero h0
    have hself : w.setRow b (cs.take off ++ ([] : List Int).map (Value.int .u8) ++ cs.drop (off + ([] : List Int).length)).toArray = w := by
      simp only [List.map_nil, List.append_nil, List.length_nil, Nat.add_zero, List.take_append_drop]
      exact setRow_self w b cs.toArray T (0, 0) hb
    rw [hself]
    cases sp with
    | none =>
      obtain rfl := h4 rfl
      have := run_copy_nil Try.prog w 27 27 ty' 5 ⟨b, off, none⟩ m m Try.underlying27 (by rw [hsz]; rfl)
      simp only [List.length_nil]
      rw [this]
      have e0 : ((0 : Nat) : Int) = 0 := rfl
      rw [e0, goInt]
    | some p =>
      have := run_copy_row Try.prog w 27 27 ty' 5 b off m m p 0 cap cs.toArray T [] Try.underlying27 hsz hb (by simp) (by simp) (by simp; omega) (by simp)
      have hself2 : w.setRow b (cs.toArray.toList.take off ++ [] ++ cs.toArray.toList.drop (off + ([] : List Value).length)).toArray = w := by
        simp only [List.append_nil, List.length_nil, Nat.add_zero, List.take_append_drop]
        exact setRow_self w b cs.toArray T (0, 0) hb
      rw [hself2] at this
      exact this
  · obtain ⟨b2, o2, rfl, hlt, hr⟩ := h3 h0
    have := run_copy_row Try.prog w 27 27 ty' 5 b off m m ⟨b2, o2, none⟩ x.length cap cs.toArray T (x.map (Value.int .u8)) Try.underlying27 hsz hb (by rw [List.length_map]; exact (Nat.min_eq_left hx).symm)
      (fun j v hj => by
        rw [List.getElem?_map] at hj
        obtain ⟨z, hz, rfl⟩ := Option.map_eq_some_iff.1 hj
        have hjl : j < x.length := by
          rcases Nat.lt_or_ge j x.length with h | h
          · exact h
          · rw [List.getElem?_eq_none h] at hz; cases hz
        have := hr.at j hjl
        have e1 : (⟨b2, o2, none⟩ : Addr).add j = ⟨b2, o2 + j, none⟩ := by unfold Addr.add; split <;> simp_all
        rw [e1, this]
        have : nth x j = z := by unfold nth; rw [List.getD_eq_getElem?_getD, hz]; rfl
        rw [this])
      (by simp only [List.length_map, List.size_toArray]; omega) (Ones.int _ _)
    refine this.trans ?_
    simp only [List.length_map]
    rfl
theorem WL.copy {x y : Operand} {v : Value} {z : List Int} {b off m T : Nat} {cs : List Value} (hg : o.guard = none) (hd : o.dst = some d) (hn : Nat.blt d n = true)
    (ho : o.op = .call { callee := .builtin .copy, args := #[x, y], argTypes := #[27, 27] }) (hx : evl l x = some (.slice (some ⟨b, off, none⟩) m m)) (hy : evl l y = some v) (hs : Sl .u8 w v z) (hz : z.length ≤ m) (hb : VBlk T w b cs) (hfit : off + m ≤ cs.length)
    (h : WL n ops Q rest ((d, .int .i64 z.length) :: l) (w.setRow b (cs.take off ++ z.map (Value.int .u8) ++ cs.drop (off + z.length)).toArray)) : WL n ops Q (o :: rest) l w := by
  have hr := copy_run o.type hb hs hz hfit
  refine WL.step hg hd hn (fun a ha => ?_) h
  unfold execOp
  simp only [ho, resolve, invoke, builtin, Sem.run_bind, Sem.run_pure, Result.andThen_ok, List.map_toArray, List.map_cons, List.map_nil, ha.eval hx, ha.eval hy, hr]
end K
end Go.Proofs.Ytdkkaliiofcflaa

/- A request's frame is read (chapter 25): the program's Decode. -/
namespace Go.Proofs.Ytdkkaliiofcflaa
open Go.RowKit
namespace K
/-- A request that is written. -/
structure RqOk (r : Rq) : Prop where
  kind : 1 ≤ r.kind ∧ r.kind ≤ 20
  seq : 0 ≤ r.seq ∧ r.seq ≤ 9007199254740992
  nums : r.nums.length ≤ 8
  r64 : R64w r.nums
  text : r.text.size ≤ 4096
  params : r.params.length ≤ 40
  backs : Backs r.params
  hash : r.hash.length = 32
  hbyt : Frm.Byt r.hash
  byt : Frm.Byt (rqB r)
  len : (rqB r).length ≤ 524288
def RqDec (w : World) (r : Rq) : Ending → World → Prop := fun e w' => ∃ nv pv, e = .returned (.tuple #[.agg (rqC r nv pv).toArray, .int .i64 0]) ∧ Below w.heap.size w w' ∧ Sl .i64 w' nv r.nums ∧ IsVs 17 w' pv r.params
set_option maxHeartbeats 4000000 in
theorem wdec_ok {w : World} {v : Value} {r : Rq} (h : RqOk r) (hv : Sl .u8 w v (Frm.frameL (rqB r))) : Calls Try.prog 11 #[v] w (RqDec w r) := by
  obtain ⟨kind, seq, nums, text, params, hash⟩ := r
  obtain ⟨hk, hs, hn8, h64, ht, hp40, hbk, hh, hhb, hby, hlen⟩ := h
  simp only at hk hs hn8 h64 ht hp40 hbk hh hhb
  obtain ⟨sq, rfl⟩ : ∃ n : Nat, seq = (n : Int) := ⟨seq.toNat, by omega⟩
  have hall : rqB ⟨kind, sq, nums, text, params, hash⟩ = 81 :: kind :: (uvB sq ++ (uvB nums.length ++ (nmB nums ++ (uvB text.size ++ (bytesI text ++ (uvB params.length ++ (vlB params ++ (hash ++ [])))))))) := by
    unfold rqB headB valsB; simp [List.append_assoc]
  have htl := bytesI_len text
  refine enter (args := [v]) Try.func11 rfl Try.ntmps11 rfl ?_
  repeat (first | refine WC.seq ?_ | refine WC.block ?_ | refine WC.region ?_ | refine WL.nil ?_ | refine WC.skip ?_ | refine WC.exit ?_ | refine WC.ret ?_ | refine WQ.then rfl ?_ | refine WQ.thenExit ?_ | refine WQ.thenRet ?_ | refine WQ.blk ?_ | refine WQ.blkRet ?_ | refine WQ.blkHere rfl ?_ | refine WQ.blkOther rfl ?_)
  refine WL.alloc (z := .agg zReq.toArray) rfl rfl rfl rfl (fun _ => by kernel_rfl) fun g1 w1 hf0 => ?_
  have hf1 : Fresh w g1 w1 32 zReq := hf0
  clear hf0
  have hB1 := hf1.below
  have hg1 := hf1.eq
  have hz1 := hf1.size
  have T1 := hf1.blk
  clear hf1
  repeat (first | ((with_reducible refine WL.topT ?_ ?_); omega) | ((with_reducible refine WL.topF ?_ ?_); omega) | ((with_reducible refine WL.top64 ?_ ?_); omega) | refine WC.seq ?_ | refine WC.block ?_ | refine WC.region ?_ | refine WL.nil ?_ | refine WC.skip ?_ | refine WC.exit ?_ | refine WC.ret ?_ | refine WQ.then rfl ?_ | refine WQ.thenExit ?_ | refine WQ.thenRet ?_ | refine WQ.blk ?_ | refine WQ.blkRet ?_ | refine WQ.blkHere rfl ?_ | refine WQ.blkOther rfl ?_ | refine WL.pure rfl rfl rfl rfl ?_ | refine WL.on rfl rfl ?_ | refine WL.off rfl rfl rfl ?_ | refine WC.condTrue rfl ?_ | refine WC.condFalse rfl ?_)
  refine WL.call rfl rfl rfl rfl rfl Try.func30 rfl (by kernel_rfl) (wopen_ok (hv.of_below hB1) hby hlen) ?_
  rintro _ w2 ⟨rb, rfl, hr2, k2, hrb⟩
  refine ⟨_, rfl, ?_⟩
  rw [hall] at hr2
  clear hall hby hlen hv
  have T2 := T1.below k2 T1.lt
  have hz2 := k2.size
  repeat (first | ((with_reducible refine WL.topT ?_ ?_); omega) | ((with_reducible refine WL.topF ?_ ?_); omega) | ((with_reducible refine WL.top64 ?_ ?_); omega) | refine WC.seq ?_ | refine WC.block ?_ | refine WC.region ?_ | refine WL.nil ?_ | refine WC.skip ?_ | refine WC.exit ?_ | refine WC.ret ?_ | refine WQ.then rfl ?_ | refine WQ.thenExit ?_ | refine WQ.thenRet ?_ | refine WQ.blk ?_ | refine WQ.blkRet ?_ | refine WQ.blkHere rfl ?_ | refine WQ.blkOther rfl ?_ | refine WL.pure rfl rfl rfl rfl ?_ | refine WL.on rfl rfl ?_ | refine WL.off rfl rfl rfl ?_ | refine WC.condTrue rfl ?_ | refine WC.condFalse rfl ?_)
  refine WL.alloc (z := .agg zReq.toArray) rfl rfl rfl rfl (fun _ => by kernel_rfl) fun gx w3 hf0 => ?_
  have hf3 : Fresh w2 gx w3 32 zReq := hf0
  clear hf0
  have hgx := hf3.eq
  have hz3 := hf3.size
  have s3 : DSt 32 w2.heap.size rb gx w3.heap.size w1 w3 _ zReq (.slice none 0 0) [] (.slice none 0 0) [] :=
    ⟨hr2.keep (Keep.of_below hf3.below) fun b hb => hb, by omega, by omega, Nat.le_refl _, hrb, hf3.blk, OwnE.nil _ _ _ _ _ _, ⟨fun _ => False, OwnE.nil _ _ _ _ _ _, fun b hb => hb.elim⟩, k2.trans (hf3.below.mono hz2)⟩
  clear hf3 hr2
  have hrg := s3.rg
  repeat (first | ((with_reducible refine WL.topT ?_ ?_); omega) | ((with_reducible refine WL.topF ?_ ?_); omega) | ((with_reducible refine WL.top64 ?_ ?_); omega) | refine WC.seq ?_ | refine WC.block ?_ | refine WC.region ?_ | refine WL.nil ?_ | refine WC.skip ?_ | refine WC.exit ?_ | refine WC.ret ?_ | refine WQ.then rfl ?_ | refine WQ.thenExit ?_ | refine WQ.thenRet ?_ | refine WQ.blk ?_ | refine WQ.blkRet ?_ | refine WQ.blkHere rfl ?_ | refine WQ.blkOther rfl ?_ | refine WL.pure rfl rfl rfl rfl ?_ | refine WL.on rfl rfl ?_ | refine WL.off rfl rfl rfl ?_ | refine WC.condTrue rfl ?_ | refine WC.condFalse rfl ?_)
  refine WL.call rfl rfl rfl rfl rfl Try.func31 rfl (by kernel_rfl) (wbyte_any s3.r) ?_
  rintro _ w4 ⟨rfl, hr4, k4⟩
  refine ⟨_, rfl, ?_⟩
  have s4 := s3.call hr4 k4
  clear s3 hr4 k4
  obtain ⟨sp4, cap4, hb4, -⟩ := s4.r.ex
  repeat (first | ((with_reducible refine WL.topT ?_ ?_); omega) | ((with_reducible refine WL.topF ?_ ?_); omega) | ((with_reducible refine WL.top64 ?_ ?_); omega) | refine WC.seq ?_ | refine WC.block ?_ | refine WC.region ?_ | refine WL.nil ?_ | refine WC.skip ?_ | refine WC.exit ?_ | refine WC.ret ?_ | refine WQ.then rfl ?_ | refine WQ.thenExit ?_ | refine WQ.thenRet ?_ | refine WQ.blk ?_ | refine WQ.blkRet ?_ | refine WQ.blkHere rfl ?_ | refine WQ.blkOther rfl ?_ | refine WL.pure rfl rfl rfl rfl ?_ | refine WL.on rfl rfl ?_ | refine WL.off rfl rfl rfl ?_ | refine WC.condTrue rfl ?_ | refine WC.condFalse rfl ?_)
  refine WL.load rfl rfl rfl rfl rfl rfl (hb4.cell 1 (by simp)) ?_
  refine WL.as 24 (.bool false) rfl rfl ?_
  repeat (first | ((with_reducible refine WL.topT ?_ ?_); omega) | ((with_reducible refine WL.topF ?_ ?_); omega) | ((with_reducible refine WL.top64 ?_ ?_); omega) | refine WC.seq ?_ | refine WC.block ?_ | refine WC.region ?_ | refine WL.nil ?_ | refine WC.skip ?_ | refine WC.exit ?_ | refine WC.ret ?_ | refine WQ.then rfl ?_ | refine WQ.thenExit ?_ | refine WQ.thenRet ?_ | refine WQ.blk ?_ | refine WQ.blkRet ?_ | refine WQ.blkHere rfl ?_ | refine WQ.blkOther rfl ?_ | refine WL.pure rfl rfl rfl rfl ?_ | refine WL.on rfl rfl ?_ | refine WL.off rfl rfl rfl ?_ | refine WC.condTrue rfl ?_ | refine WC.condFalse rfl ?_)
  refine WL.store rfl rfl rfl rfl rfl rfl (by kernel_rfl) (hb4.cell 1 (by simp)) (hb4.free 1) ?_
  have s5 := s4.bad
  generalize w4.setCell ⟨rb, 1, none⟩ (.bool false) = w5 at s5 ⊢
  clear s4 hb4
  repeat (first | ((with_reducible refine WL.topT ?_ ?_); omega) | ((with_reducible refine WL.topF ?_ ?_); omega) | ((with_reducible refine WL.top64 ?_ ?_); omega) | refine WC.seq ?_ | refine WC.block ?_ | refine WC.region ?_ | refine WL.nil ?_ | refine WC.skip ?_ | refine WC.exit ?_ | refine WC.ret ?_ | refine WQ.then rfl ?_ | refine WQ.thenExit ?_ | refine WQ.thenRet ?_ | refine WQ.blk ?_ | refine WQ.blkRet ?_ | refine WQ.blkHere rfl ?_ | refine WQ.blkOther rfl ?_ | refine WL.pure rfl rfl rfl rfl ?_ | refine WL.on rfl rfl ?_ | refine WL.off rfl rfl rfl ?_ | refine WC.condTrue rfl ?_ | refine WC.condFalse rfl ?_)
  refine WL.call rfl rfl rfl rfl rfl Try.func31 rfl (by kernel_rfl) (wbyte_any s5.r) ?_
  rintro _ w6 ⟨rfl, hr6, k6⟩
  refine ⟨_, rfl, ?_⟩
  have s6 := s5.call hr6 k6
  clear s5 hr6 k6
  repeat (first | ((with_reducible refine WL.topT ?_ ?_); omega) | ((with_reducible refine WL.topF ?_ ?_); omega) | ((with_reducible refine WL.top64 ?_ ?_); omega) | refine WC.seq ?_ | refine WC.block ?_ | refine WC.region ?_ | refine WL.nil ?_ | refine WC.skip ?_ | refine WC.exit ?_ | refine WC.ret ?_ | refine WQ.then rfl ?_ | refine WQ.thenExit ?_ | refine WQ.thenRet ?_ | refine WQ.blk ?_ | refine WQ.blkRet ?_ | refine WQ.blkHere rfl ?_ | refine WQ.blkOther rfl ?_ | refine WL.pure rfl rfl rfl rfl ?_ | refine WL.on rfl rfl ?_ | refine WL.off rfl rfl rfl ?_ | refine WC.condTrue rfl ?_ | refine WC.condFalse rfl ?_)
  refine WL.store rfl rfl rfl rfl rfl rfl (by kernel_rfl) (s6.x.cell 0 (by simp [zReq, reqC])) (s6.x.free 0) ?_
  have s7 := s6.put 0 (.int .i64 kind)
  generalize w6.setCell ⟨gx, 0, none⟩ (.int .i64 kind) = w7 at s7 ⊢
  clear s6
  repeat (first | ((with_reducible refine WL.topT ?_ ?_); omega) | ((with_reducible refine WL.topF ?_ ?_); omega) | ((with_reducible refine WL.top64 ?_ ?_); omega) | refine WC.seq ?_ | refine WC.block ?_ | refine WC.region ?_ | refine WL.nil ?_ | refine WC.skip ?_ | refine WC.exit ?_ | refine WC.ret ?_ | refine WQ.then rfl ?_ | refine WQ.thenExit ?_ | refine WQ.thenRet ?_ | refine WQ.blk ?_ | refine WQ.blkRet ?_ | refine WQ.blkHere rfl ?_ | refine WQ.blkOther rfl ?_ | refine WL.pure rfl rfl rfl rfl ?_ | refine WL.on rfl rfl ?_ | refine WL.off rfl rfl rfl ?_ | refine WC.condTrue rfl ?_ | refine WC.condFalse rfl ?_)
  refine WL.call rfl rfl rfl rfl rfl Try.func32 rfl (by kernel_rfl) (wupTo_any (most := 9007199254740992) s7.r (by omega) (by omega)) ?_
  rintro _ w8 ⟨rfl, hr8, k8⟩
  refine ⟨_, rfl, ?_⟩
  have s8 := s7.call hr8 k8
  clear s7 hr8 k8
  repeat (first | ((with_reducible refine WL.topT ?_ ?_); omega) | ((with_reducible refine WL.topF ?_ ?_); omega) | ((with_reducible refine WL.top64 ?_ ?_); omega) | refine WC.seq ?_ | refine WC.block ?_ | refine WC.region ?_ | refine WL.nil ?_ | refine WC.skip ?_ | refine WC.exit ?_ | refine WC.ret ?_ | refine WQ.then rfl ?_ | refine WQ.thenExit ?_ | refine WQ.thenRet ?_ | refine WQ.blk ?_ | refine WQ.blkRet ?_ | refine WQ.blkHere rfl ?_ | refine WQ.blkOther rfl ?_ | refine WL.pure rfl rfl rfl rfl ?_ | refine WL.on rfl rfl ?_ | refine WL.off rfl rfl rfl ?_ | refine WC.condTrue rfl ?_ | refine WC.condFalse rfl ?_)
  refine WL.store rfl rfl rfl rfl rfl rfl (by kernel_rfl) (s8.x.cell 1 (by simp [zReq, reqC])) (s8.x.free 1) ?_
  have s9 := s8.put 1 (.int .i64 sq)
  generalize w8.setCell ⟨gx, 1, none⟩ (.int .i64 sq) = w9 at s9 ⊢
  clear s8
  repeat (first | ((with_reducible refine WL.topT ?_ ?_); omega) | ((with_reducible refine WL.topF ?_ ?_); omega) | ((with_reducible refine WL.top64 ?_ ?_); omega) | refine WC.seq ?_ | refine WC.block ?_ | refine WC.region ?_ | refine WL.nil ?_ | refine WC.skip ?_ | refine WC.exit ?_ | refine WC.ret ?_ | refine WQ.then rfl ?_ | refine WQ.thenExit ?_ | refine WQ.thenRet ?_ | refine WQ.blk ?_ | refine WQ.blkRet ?_ | refine WQ.blkHere rfl ?_ | refine WQ.blkOther rfl ?_ | refine WL.pure rfl rfl rfl rfl ?_ | refine WL.on rfl rfl ?_ | refine WL.off rfl rfl rfl ?_ | refine WC.condTrue rfl ?_ | refine WC.condFalse rfl ?_)
  refine WL.call rfl rfl rfl rfl rfl Try.func33 rfl (by kernel_rfl) (wnums_any s9.r (by have := s9.hs; omega) hn8 h64) ?_
  rintro _ w10 ⟨nv, rfl, hN, hr10, k10⟩
  refine ⟨_, rfl, ?_⟩
  have s10' := s9.call hr10 k10
  have s10 : DSt 32 w2.heap.size rb gx w3.heap.size w1 w10 _ ((zReq.set 0 (.int .i64 kind)).set 1 (.int .i64 sq)) nv nums (.slice none 0 0) [] :=
    { s10' with n := hN.keep (Keep.refl (fun _ => True) w10) (fun _ _ => trivial) (fun b hb => by have := s9.hs; omega) fun _ _ h => h }
  have hnv := hN.one
  clear s9 s10' hr10 k10 hN
  repeat (first | ((with_reducible refine WL.topT ?_ ?_); omega) | ((with_reducible refine WL.topF ?_ ?_); omega) | ((with_reducible refine WL.top64 ?_ ?_); omega) | refine WC.seq ?_ | refine WC.block ?_ | refine WC.region ?_ | refine WL.nil ?_ | refine WC.skip ?_ | refine WC.exit ?_ | refine WC.ret ?_ | refine WQ.then rfl ?_ | refine WQ.thenExit ?_ | refine WQ.thenRet ?_ | refine WQ.blk ?_ | refine WQ.blkRet ?_ | refine WQ.blkHere rfl ?_ | refine WQ.blkOther rfl ?_ | refine WL.pure rfl rfl rfl rfl ?_ | refine WL.on rfl rfl ?_ | refine WL.off rfl rfl rfl ?_ | refine WC.condTrue rfl ?_ | refine WC.condFalse rfl ?_)
  refine WL.store rfl rfl rfl rfl rfl hnv (by kernel_rfl) (s10.x.cell 2 (by simp [zReq, reqC])) (s10.x.free 2) ?_
  have s11 := s10.put 2 nv
  generalize w10.setCell ⟨gx, 2, none⟩ nv = w11 at s11 ⊢
  clear s10
  repeat (first | ((with_reducible refine WL.topT ?_ ?_); omega) | ((with_reducible refine WL.topF ?_ ?_); omega) | ((with_reducible refine WL.top64 ?_ ?_); omega) | refine WC.seq ?_ | refine WC.block ?_ | refine WC.region ?_ | refine WL.nil ?_ | refine WC.skip ?_ | refine WC.exit ?_ | refine WC.ret ?_ | refine WQ.then rfl ?_ | refine WQ.thenExit ?_ | refine WQ.thenRet ?_ | refine WQ.blk ?_ | refine WQ.blkRet ?_ | refine WQ.blkHere rfl ?_ | refine WQ.blkOther rfl ?_ | refine WL.pure rfl rfl rfl rfl ?_ | refine WL.on rfl rfl ?_ | refine WL.off rfl rfl rfl ?_ | refine WC.condTrue rfl ?_ | refine WC.condFalse rfl ?_)
  refine WL.call rfl rfl rfl rfl rfl Try.func32 rfl (by kernel_rfl) (wupTo_any (most := 4096) s11.r (by omega) (by omega)) ?_
  rintro _ w12 ⟨rfl, hr12, k12⟩
  refine ⟨_, rfl, ?_⟩
  have s12 := s11.call hr12 k12
  clear s11 hr12 k12
  refine WL.call rfl rfl rfl rfl rfl Try.func34 rfl (by kernel_rfl) (wtake_any (k := text.size) (A := bytesI text) s12.r htl (by omega)) ?_
  rintro _ w13 ⟨tv, rfl, htv, hr13, k13⟩
  refine ⟨_, rfl, ?_⟩
  have s13 := s12.call hr13 k13
  clear s12 hr13 k13
  refine WL.strOf rfl rfl rfl rfl rfl rfl rfl rfl htv.sl ?_
  rw [strOf_bytesI]
  clear htv
  repeat (first | ((with_reducible refine WL.topT ?_ ?_); omega) | ((with_reducible refine WL.topF ?_ ?_); omega) | ((with_reducible refine WL.top64 ?_ ?_); omega) | refine WC.seq ?_ | refine WC.block ?_ | refine WC.region ?_ | refine WL.nil ?_ | refine WC.skip ?_ | refine WC.exit ?_ | refine WC.ret ?_ | refine WQ.then rfl ?_ | refine WQ.thenExit ?_ | refine WQ.thenRet ?_ | refine WQ.blk ?_ | refine WQ.blkRet ?_ | refine WQ.blkHere rfl ?_ | refine WQ.blkOther rfl ?_ | refine WL.pure rfl rfl rfl rfl ?_ | refine WL.on rfl rfl ?_ | refine WL.off rfl rfl rfl ?_ | refine WC.condTrue rfl ?_ | refine WC.condFalse rfl ?_)
  refine WL.store rfl rfl rfl rfl rfl rfl (by kernel_rfl) (s13.x.cell 3 (by simp [zReq, reqC])) (s13.x.free 3) ?_
  have s14 := s13.put 3 (.string text)
  generalize w13.setCell ⟨gx, 3, none⟩ (.string text) = w14 at s14 ⊢
  clear s13
  repeat (first | ((with_reducible refine WL.topT ?_ ?_); omega) | ((with_reducible refine WL.topF ?_ ?_); omega) | ((with_reducible refine WL.top64 ?_ ?_); omega) | refine WC.seq ?_ | refine WC.block ?_ | refine WC.region ?_ | refine WL.nil ?_ | refine WC.skip ?_ | refine WC.exit ?_ | refine WC.ret ?_ | refine WQ.then rfl ?_ | refine WQ.thenExit ?_ | refine WQ.thenRet ?_ | refine WQ.blk ?_ | refine WQ.blkRet ?_ | refine WQ.blkHere rfl ?_ | refine WQ.blkOther rfl ?_ | refine WL.pure rfl rfl rfl rfl ?_ | refine WL.on rfl rfl ?_ | refine WL.off rfl rfl rfl ?_ | refine WC.condTrue rfl ?_ | refine WC.condFalse rfl ?_)
  refine WL.call rfl rfl rfl rfl rfl Try.func35 rfl (by kernel_rfl) (wreadvals_any (most := 40) s14.r (by have := s14.hs; omega) hp40 (by omega) hbk) ?_
  rintro _ w15 ⟨pv, rfl, hV, hr15, k15⟩
  refine ⟨_, rfl, ?_⟩
  have s15' := s14.call hr15 k15
  obtain ⟨q, hV, hq⟩ := hV
  have hpv := hV.one
  have s15 : DSt 32 w2.heap.size rb gx w3.heap.size w1 w15 _ ((((zReq.set 0 (.int .i64 kind)).set 1 (.int .i64 sq)).set 2 nv).set 3 (.string text)) nv nums pv params :=
    { s15' with v := ⟨q, hV.keep (Keep.refl (fun _ => True) w15) (fun _ _ => trivial) (fun b hb => by have := s14.hs; omega) fun _ _ h => h, fun b hb => ⟨by have := (hq b hb).1; have := s14.hs; omega, (hq b hb).2⟩⟩ }
  clear s14 s15' hr15 k15 hV hq
  repeat (first | ((with_reducible refine WL.topT ?_ ?_); omega) | ((with_reducible refine WL.topF ?_ ?_); omega) | ((with_reducible refine WL.top64 ?_ ?_); omega) | refine WC.seq ?_ | refine WC.block ?_ | refine WC.region ?_ | refine WL.nil ?_ | refine WC.skip ?_ | refine WC.exit ?_ | refine WC.ret ?_ | refine WQ.then rfl ?_ | refine WQ.thenExit ?_ | refine WQ.thenRet ?_ | refine WQ.blk ?_ | refine WQ.blkRet ?_ | refine WQ.blkHere rfl ?_ | refine WQ.blkOther rfl ?_ | refine WL.pure rfl rfl rfl rfl ?_ | refine WL.on rfl rfl ?_ | refine WL.off rfl rfl rfl ?_ | refine WC.condTrue rfl ?_ | refine WC.condFalse rfl ?_)
  refine WL.store rfl rfl rfl rfl rfl hpv (by kernel_rfl) (s15.x.cell 4 (by simp [zReq, reqC])) (s15.x.free 4) ?_
  have s16 := s15.put 4 pv
  generalize w15.setCell ⟨gx, 4, none⟩ pv = w16 at s16 ⊢
  clear s15
  repeat (first | ((with_reducible refine WL.topT ?_ ?_); omega) | ((with_reducible refine WL.topF ?_ ?_); omega) | ((with_reducible refine WL.top64 ?_ ?_); omega) | refine WC.seq ?_ | refine WC.block ?_ | refine WC.region ?_ | refine WL.nil ?_ | refine WC.skip ?_ | refine WC.exit ?_ | refine WC.ret ?_ | refine WQ.then rfl ?_ | refine WQ.thenExit ?_ | refine WQ.thenRet ?_ | refine WQ.blk ?_ | refine WQ.blkRet ?_ | refine WQ.blkHere rfl ?_ | refine WQ.blkOther rfl ?_ | refine WL.pure rfl rfl rfl rfl ?_ | refine WL.on rfl rfl ?_ | refine WL.off rfl rfl rfl ?_ | refine WC.condTrue rfl ?_ | refine WC.condFalse rfl ?_)
  refine WC.drawn 4 (fun _ => True) fun w17 hd17 => ?_
  have s17 := s16.down (hd17.below _)
  clear s16 hd17
  have hS : True := trivial
  (((first | refine WD.free 0 rfl (by kernel_rfl) rfl rfl (fun _ _ _ _ _ h => h) rfl rfl (.inr hS) ?_ | refine WD.skip 0 rfl (by kernel_rfl) rfl rfl (fun _ _ _ _ _ h => h) rfl (.inr hS) ?_); try (first | ((with_reducible refine WD.topT ?_ ?_); omega) | ((with_reducible refine WD.topF ?_ ?_); omega) | ((with_reducible refine WD.top64 ?_ ?_); omega))))
  refine WD.all 1 rfl (by kernel_rfl) rfl rfl (fun _ _ _ _ _ h => h) rfl rfl rfl rfl (.inr hS) ?_
  (((first | refine WD.free 2 rfl (by kernel_rfl) rfl rfl (fun _ _ _ _ _ h => h) rfl rfl (.inr hS) ?_ | refine WD.skip 2 rfl (by kernel_rfl) rfl rfl (fun _ _ _ _ _ h => h) rfl (.inr hS) ?_); try (first | ((with_reducible refine WD.topT ?_ ?_); omega) | ((with_reducible refine WD.topF ?_ ?_); omega) | ((with_reducible refine WD.top64 ?_ ?_); omega))))
  refine WD.one 3 (by kernel_rfl) rfl ?_
  refine WL.call rfl rfl rfl rfl rfl Try.func34 rfl (by kernel_rfl) (wtake_any (k := 32) (A := hash) s17.r hh (by omega)) ?_
  rintro _ w18 ⟨hv, rfl, hhv, hr18, k18⟩
  refine ⟨_, rfl, ?_⟩
  have s18 := s17.call hr18 k18
  clear s17 hr18 k18
  refine WL.nil (WQ.dk (.inr hS) ?_)
  refine WD.one 4 (by kernel_rfl) rfl ?_
  refine WL.copy rfl rfl rfl rfl rfl rfl hhv.sl (by omega) s18.x (by simp [zReq, reqC]) ?_
  refine WL.nil (WQ.dk (.inl rfl) ?_)
  refine WD.done (by kernel_rfl) ?_
  have hcp : (((((zReq.set 0 (.int .i64 kind)).set 1 (.int .i64 sq)).set 2 nv).set 3 (.string text)).set 4 pv).take (0 + 5) ++ hash.map (Value.int .u8) ++ (((((zReq.set 0 (.int .i64 kind)).set 1 (.int .i64 sq)).set 2 nv).set 3 (.string text)).set 4 pv).drop (0 + 5 + hash.length) = rqC ⟨kind, sq, nums, text, params, hash⟩ nv pv := by
    rw [hh, show (((((zReq.set 0 (.int .i64 kind)).set 1 (.int .i64 sq)).set 2 nv).set 3 (.string text)).set 4 pv).drop (0 + 5 + 32) = [] from rfl, List.append_nil]
    rfl
  rw [hcp]
  have s19 := s18.row (rqC ⟨kind, sq, nums, text, params, hash⟩ nv pv)
  generalize w18.setRow gx (rqC ⟨kind, sq, nums, text, params, hash⟩ nv pv).toArray = w19 at s19 ⊢
  clear s18 hcp hhv
  obtain ⟨sp19, cap19, hb19, -⟩ := s19.r.ex
  simp only [List.length_nil] at hb19
  have c1 : w19.cell? ⟨rb, 1, none⟩ = some (.bool false) := hb19.cell 1 (by simp)
  have c0 : w19.cell? ⟨rb, 0, none⟩ = some (.slice sp19 0 cap19) := hb19.cell 0 (by simp)
  have x0 : w19.cell? ⟨gx, 0, none⟩ = some (.int .i64 kind) := s19.x.cell 0 (by simp [rqC])
  have hlen37 : (rqC ⟨kind, sq, nums, text, params, hash⟩ nv pv).length = 37 := by simp [rqC, hh]
  have hones : Ones (rqC ⟨kind, sq, nums, text, params, hash⟩ nv pv) := by
    intro u hu
    unfold rqC at hu
    simp only [List.mem_cons, List.mem_map] at hu
    rcases hu with rfl | rfl | rfl | rfl | rfl | ⟨a, -, rfl⟩ <;> first | rfl | assumption
  have T19 := T1.below s19.below T1.lt
  repeat (first | ((with_reducible refine WL.topT ?_ ?_); omega) | ((with_reducible refine WL.topF ?_ ?_); omega) | ((with_reducible refine WL.top64 ?_ ?_); omega) | refine WC.seq ?_ | refine WC.block ?_ | refine WC.region ?_ | refine WL.nil ?_ | refine WC.skip ?_ | refine WC.exit ?_ | refine WC.ret ?_ | refine WQ.then rfl ?_ | refine WQ.thenExit ?_ | refine WQ.thenRet ?_ | refine WQ.blk ?_ | refine WQ.blkRet ?_ | refine WQ.blkHere rfl ?_ | refine WQ.blkOther rfl ?_ | refine WL.pure rfl rfl rfl rfl ?_ | refine WL.on rfl rfl ?_ | refine WL.off rfl rfl rfl ?_ | refine WL.load rfl rfl rfl rfl rfl rfl (by assumption) ?_ | refine WC.condTrue rfl ?_ | refine WC.condFalse rfl ?_)
  refine WL.loadMid rfl rfl rfl rfl rfl rfl (VBlk.rangeAt s19.x) hlen37 ?_
  refine WL.storeRow rfl rfl rfl rfl rfl rfl T19 hlen37 (by rfl) hones ?_
  have hset : Keep (fun b => b ≠ g1) w19 (w19.setRow g1 (rqC ⟨kind, sq, nums, text, params, hash⟩ nv pv).toArray) := Keep.setRow (Keep.refl _ w19) (fun hk => hk rfl) _
  have hkw : Below w.heap.size w (w19.setRow g1 (rqC ⟨kind, sq, nums, text, params, hash⟩ nv pv).toArray) := below_setRow (hB1.trans (s19.below.mono hB1.size)) (by omega) _
  have T20 := T19.setRow (rqC ⟨kind, sq, nums, text, params, hash⟩ nv pv)
  have hN := s19.n.keep (P' := intP) (O' := fun _ => True) hset (fun g hg => by have := s19.n.own hg; omega) (fun _ _ => trivial) fun _ _ h => h
  obtain ⟨q2, hV, hq2⟩ := s19.v
  have hV2 := hV.keep (P' := IsVo q2 17 (w19.setRow g1 (rqC ⟨kind, sq, nums, text, params, hash⟩ nv pv).toArray)) (O' := fun _ => True) hset (fun g hg => by have := hV.own hg; omega) (fun _ _ => trivial) fun y cs hy => hy.keep hset (fun b hb _ => by have := (hq2 b hb).1; omega) fun b hb => hb
  generalize w19.setRow g1 (rqC ⟨kind, sq, nums, text, params, hash⟩ nv pv).toArray = w20 at hkw T20 hN hV2 ⊢
  repeat (first | ((with_reducible refine WL.topT ?_ ?_); omega) | ((with_reducible refine WL.topF ?_ ?_); omega) | ((with_reducible refine WL.top64 ?_ ?_); omega) | refine WC.seq ?_ | refine WC.block ?_ | refine WC.region ?_ | refine WL.nil ?_ | refine WC.skip ?_ | refine WC.exit ?_ | refine WC.ret ?_ | refine WQ.then rfl ?_ | refine WQ.thenExit ?_ | refine WQ.thenRet ?_ | refine WQ.blk ?_ | refine WQ.blkRet ?_ | refine WQ.blkHere rfl ?_ | refine WQ.blkOther rfl ?_ | refine WL.pure rfl rfl rfl rfl ?_ | refine WL.on rfl rfl ?_ | refine WL.off rfl rfl rfl ?_ | refine WC.condTrue rfl ?_ | refine WC.condFalse rfl ?_)
  exact WQ.retCTw rfl rfl rfl rfl hlen37 T20 ⟨nv, pv, rfl, hkw, intP_sl hN.els, elsV hV2.els⟩
end K
end Go.Proofs.Ytdkkaliiofcflaa

/- How great values are: the laws' great, heavy (chapter 25). -/
namespace Go.Proofs.Ytdkkaliiofcflaa
open Go.RowKit
namespace K

set_option maxHeartbeats 4000000 in
theorem great_any : ∀ (f : Nat) {w0 w : World} {v : V} {cs : List Value} {pb n : Nat}, IsV f w0 v cs → Sml f v → Below w0.heap.size w0 w → w0.heap.size ≤ pb → VBlk 3 w pb [.int .i64 n] → n ≤ 140737488355328 →
    Calls Try.prog 21 #[.agg cs.toArray, .pointer (some ⟨pb, 0, none⟩)] w fun e w' => e = .returned (.bool (decide (2000 < grt 2000 f v n))) ∧ VBlk 3 w' pb [.int .i64 (grt 2000 f v n)] ∧ Keep (fun b => b < w.heap.size ∧ b ≠ pb) w w'
  | 0, _, _, _, _, _, _, h, _, _, _, _, _ => h.elim
  | f + 1, w0, w, v, cs, pb, n, hv, hs, hbel, hpb, hblk, hn => by
    have ih := @great_any f
    obtain ⟨sn, sk, rfl, -, -, -, htz, ⟨np, nc, rfl, nl, nc2, -, -⟩, ⟨sp, cap, rfl, hcap1, hcap2, hrow⟩⟩ := hv
    obtain ⟨hsn, hsk, hsm⟩ := hs
    have hgr : grt 2000 (f + 1) v n = grtK 2000 (grt 2000 f) v.kids (n + 1 + v.t.size / 20 + v.names.length) := rfl
    rw [hgr]
    refine enter (args := [.agg (six v (.slice np v.names.length nc) (.slice sp v.kids.length cap)).toArray, .pointer (some ⟨pb, 0, none⟩)]) Try.func21 rfl Try.ntmps21 rfl ?_
    repeat (first | ((with_reducible refine WL.topT ?_ ?_); omega) | ((with_reducible refine WL.topF ?_ ?_); omega) | ((with_reducible refine WL.top64 ?_ ?_); omega) | refine WC.seq ?_ | refine WC.block ?_ | refine WC.region ?_ | refine WL.nil ?_ | refine WC.skip ?_ | refine WC.exit ?_ | refine WC.ret ?_ | refine WQ.then rfl ?_ | refine WQ.thenExit ?_ | refine WQ.thenRet ?_ | refine WQ.blk ?_ | refine WQ.blkRet ?_ | refine WQ.blkHere rfl ?_ | refine WQ.blkOther rfl ?_ | refine WL.pure rfl rfl rfl rfl ?_ | refine WL.on rfl rfl ?_ | refine WL.off rfl rfl rfl ?_ | refine WC.condTrue rfl ?_ | refine WC.condFalse rfl ?_)
    refine WL.box rfl rfl rfl rfl rfl fun g w1 hf => ?_
    have hf' : Fresh w g w1 60 (six v (.slice np v.names.length nc) (.slice sp v.kids.length cap)) := hf
    clear hf
    have hpw := hblk.lt
    have hne : g ≠ pb := by rw [hf'.eq]; omega
    have hblk1 : VBlk 3 w1 pb [.int .i64 n] := hblk.below hf'.below hpw
    have hkeep1 : Keep (fun b => b < w.heap.size ∧ b ≠ pb) w w1 := (Keep.of_below hf'.below).mono fun _ h => h.1
    repeat (first | ((with_reducible refine WL.topT ?_ ?_); omega) | ((with_reducible refine WL.topF ?_ ?_); omega) | ((with_reducible refine WL.top64 ?_ ?_); omega) | refine WC.seq ?_ | refine WC.block ?_ | refine WC.region ?_ | refine WL.nil ?_ | refine WC.skip ?_ | refine WC.exit ?_ | refine WC.ret ?_ | refine WQ.then rfl ?_ | refine WQ.thenExit ?_ | refine WQ.thenRet ?_ | refine WQ.blk ?_ | refine WQ.blkRet ?_ | refine WQ.blkHere rfl ?_ | refine WQ.blkOther rfl ?_ | refine WL.pure rfl rfl rfl rfl ?_ | refine WL.on rfl rfl ?_ | refine WL.off rfl rfl rfl ?_ | refine WC.condTrue rfl ?_ | refine WC.condFalse rfl ?_)
    refine WC.drawn 15 (fun wx => VBlk 3 wx pb [.int .i64 n] ∧ VBlk 60 wx g (six v (.slice np v.names.length nc) (.slice sp v.kids.length cap))) fun w2 hd2 => ?_
    have hS : VBlk 3 w2 pb [.int .i64 n] ∧ VBlk 60 w2 g (six v (.slice np v.names.length nc) (.slice sp v.kids.length cap)) := ⟨hblk1.below (hd2.below _) hblk1.lt, hf'.blk.below (hd2.below _) hf'.blk.lt⟩
    (((first | refine WD.free 0 rfl (by kernel_rfl) rfl rfl (fun _ _ _ _ _ h => h) rfl rfl (.inr hS) ?_ | refine WD.skip 0 rfl (by kernel_rfl) rfl rfl (fun _ _ _ _ _ h => h) rfl (.inr hS) ?_); try (first | ((with_reducible refine WD.topT ?_ ?_); omega) | ((with_reducible refine WD.topF ?_ ?_); omega) | ((with_reducible refine WD.top64 ?_ ?_); omega))); ((first | refine WD.free 1 rfl (by kernel_rfl) rfl rfl (fun _ _ _ _ _ h => h) rfl rfl (.inr hS) ?_ | refine WD.skip 1 rfl (by kernel_rfl) rfl rfl (fun _ _ _ _ _ h => h) rfl (.inr hS) ?_); try (first | ((with_reducible refine WD.topT ?_ ?_); omega) | ((with_reducible refine WD.topF ?_ ?_); omega) | ((with_reducible refine WD.top64 ?_ ?_); omega))); ((first | refine WD.free 2 rfl (by kernel_rfl) rfl rfl (fun _ _ _ _ _ h => h) rfl rfl (.inr hS) ?_ | refine WD.skip 2 rfl (by kernel_rfl) rfl rfl (fun _ _ _ _ _ h => h) rfl (.inr hS) ?_); try (first | ((with_reducible refine WD.topT ?_ ?_); omega) | ((with_reducible refine WD.topF ?_ ?_); omega) | ((with_reducible refine WD.top64 ?_ ?_); omega))))
    refine WD.load 3 [4, 9, 13, 15] rfl (by kernel_rfl) rfl rfl (fun _ _ _ _ _ h => h) rfl rfl rfl rfl (fun wx hx => hx.1.cell 0 (by simp)) hS ?_
    (((first | refine WD.free 4 rfl (by kernel_rfl) rfl rfl (fun _ _ _ _ _ h => h) rfl rfl (.inr hS) ?_ | refine WD.skip 4 rfl (by kernel_rfl) rfl rfl (fun _ _ _ _ _ h => h) rfl (.inr hS) ?_); try (first | ((with_reducible refine WD.topT ?_ ?_); omega) | ((with_reducible refine WD.topF ?_ ?_); omega) | ((with_reducible refine WD.top64 ?_ ?_); omega))); ((first | refine WD.free 5 rfl (by kernel_rfl) rfl rfl (fun _ _ _ _ _ h => h) rfl rfl (.inr hS) ?_ | refine WD.skip 5 rfl (by kernel_rfl) rfl rfl (fun _ _ _ _ _ h => h) rfl (.inr hS) ?_); try (first | ((with_reducible refine WD.topT ?_ ?_); omega) | ((with_reducible refine WD.topF ?_ ?_); omega) | ((with_reducible refine WD.top64 ?_ ?_); omega))))
    refine WD.load 6 [7, 8, 9, 13, 15] rfl (by kernel_rfl) rfl rfl (fun _ _ _ _ _ h => h) rfl rfl rfl rfl (fun wx hx => hx.2.cell 3 (by simp)) hS ?_
    (((first | refine WD.free 7 rfl (by kernel_rfl) rfl rfl (fun _ _ _ _ _ h => h) rfl rfl (.inr hS) ?_ | refine WD.skip 7 rfl (by kernel_rfl) rfl rfl (fun _ _ _ _ _ h => h) rfl (.inr hS) ?_); try (first | ((with_reducible refine WD.topT ?_ ?_); omega) | ((with_reducible refine WD.topF ?_ ?_); omega) | ((with_reducible refine WD.top64 ?_ ?_); omega))); ((first | refine WD.free 8 rfl (by kernel_rfl) rfl rfl (fun _ _ _ _ _ h => h) rfl rfl (.inr hS) ?_ | refine WD.skip 8 rfl (by kernel_rfl) rfl rfl (fun _ _ _ _ _ h => h) rfl (.inr hS) ?_); try (first | ((with_reducible refine WD.topT ?_ ?_); omega) | ((with_reducible refine WD.topF ?_ ?_); omega) | ((with_reducible refine WD.top64 ?_ ?_); omega))); ((first | refine WD.free 9 rfl (by kernel_rfl) rfl rfl (fun _ _ _ _ _ h => h) rfl rfl (.inr hS) ?_ | refine WD.skip 9 rfl (by kernel_rfl) rfl rfl (fun _ _ _ _ _ h => h) rfl (.inr hS) ?_); try (first | ((with_reducible refine WD.topT ?_ ?_); omega) | ((with_reducible refine WD.topF ?_ ?_); omega) | ((with_reducible refine WD.top64 ?_ ?_); omega))); ((first | refine WD.free 10 rfl (by kernel_rfl) rfl rfl (fun _ _ _ _ _ h => h) rfl rfl (.inr hS) ?_ | refine WD.skip 10 rfl (by kernel_rfl) rfl rfl (fun _ _ _ _ _ h => h) rfl (.inr hS) ?_); try (first | ((with_reducible refine WD.topT ?_ ?_); omega) | ((with_reducible refine WD.topF ?_ ?_); omega) | ((with_reducible refine WD.top64 ?_ ?_); omega))))
    refine WD.load 11 [12, 13, 15] rfl (by kernel_rfl) rfl rfl (fun _ _ _ _ _ h => h) rfl rfl rfl rfl (fun wx hx => hx.2.cell 4 (by simp)) hS ?_
    (((first | refine WD.free 12 rfl (by kernel_rfl) rfl rfl (fun _ _ _ _ _ h => h) rfl rfl (.inr hS) ?_ | refine WD.skip 12 rfl (by kernel_rfl) rfl rfl (fun _ _ _ _ _ h => h) rfl (.inr hS) ?_); try (first | ((with_reducible refine WD.topT ?_ ?_); omega) | ((with_reducible refine WD.topF ?_ ?_); omega) | ((with_reducible refine WD.top64 ?_ ?_); omega))); ((first | refine WD.free 13 rfl (by kernel_rfl) rfl rfl (fun _ _ _ _ _ h => h) rfl rfl (.inr hS) ?_ | refine WD.skip 13 rfl (by kernel_rfl) rfl rfl (fun _ _ _ _ _ h => h) rfl (.inr hS) ?_); try (first | ((with_reducible refine WD.topT ?_ ?_); omega) | ((with_reducible refine WD.topF ?_ ?_); omega) | ((with_reducible refine WD.top64 ?_ ?_); omega))); ((first | refine WD.free 14 rfl (by kernel_rfl) rfl rfl (fun _ _ _ _ _ h => h) rfl rfl (.inr hS) ?_ | refine WD.skip 14 rfl (by kernel_rfl) rfl rfl (fun _ _ _ _ _ h => h) rfl (.inr hS) ?_); try (first | ((with_reducible refine WD.topT ?_ ?_); omega) | ((with_reducible refine WD.topF ?_ ?_); omega) | ((with_reducible refine WD.top64 ?_ ?_); omega))))
    refine WD.one 15 (by kernel_rfl) rfl ?_
    have e : IntKind.i64.wrap ((v.t.size : Int).tdiv 20) = ((v.t.size / 20 : Nat) : Int) := by rw [Int.tdiv_eq_ediv_of_nonneg (by omega), IntKind.wrap_i64]; omega
    have e2 : IntKind.i64.wrap (IntKind.i64.wrap ((n : Int) + 1 + IntKind.i64.wrap ((v.t.size : Int).tdiv 20)) + (v.names.length : Int)) = ((n + 1 + v.t.size / 20 + v.names.length : Nat) : Int) := by
      rw [e, show IntKind.i64.wrap ((n : Int) + 1 + ((v.t.size / 20 : Nat) : Int)) = (n : Int) + 1 + ((v.t.size / 20 : Nat) : Int) from IntWalk.i64_in _ (by omega), IntWalk.i64_in _ (by omega)]; omega
    generalize n + 1 + v.t.size / 20 + v.names.length = n1 at e2 ⊢
    refine WL.store (v := .int .i64 n1) rfl rfl rfl rfl (congrArg (fun z => some (Value.int .i64 z)) e2) rfl (by kernel_rfl) (hS.1.cell 0 (by simp)) (hS.1.free 0) ?_
    have hb2 : VBlk 3 (w2.setCell ⟨pb, 0, none⟩ (.int .i64 n1)) pb [.int .i64 n1] := hS.1.set 0 (.int .i64 n1)
    have hg2 : VBlk 60 (w2.setCell ⟨pb, 0, none⟩ (.int .i64 n1)) g (six v (.slice np v.names.length nc) (.slice sp v.kids.length cap)) := hS.2.other _ _ hne
    have hk2 : Keep (fun b => b < w.heap.size ∧ b ≠ pb) w (w2.setCell ⟨pb, 0, none⟩ (.int .i64 n1)) := (hkeep1.trans ((Keep.of_below (hd2.below w1.heap.size)).mono fun b hb => Nat.lt_of_lt_of_le hb.1 hf'.below.size)).setCell (fun h => h.2 rfl) _
    generalize w2.setCell ⟨pb, 0, none⟩ (.int .i64 n1) = w3 at hb2 hg2 hk2
    refine WL.nil (WQ.dk (.inl rfl) ?_)
    refine WD.done (by kernel_rfl) ?_
    repeat (first | ((with_reducible refine WL.topT ?_ ?_); omega) | ((with_reducible refine WL.topF ?_ ?_); omega) | ((with_reducible refine WL.top64 ?_ ?_); omega) | refine WC.seq ?_ | refine WC.block ?_ | refine WC.region ?_ | refine WL.nil ?_ | refine WC.skip ?_ | refine WC.exit ?_ | refine WC.ret ?_ | refine WQ.then rfl ?_ | refine WQ.thenExit ?_ | refine WQ.thenRet ?_ | refine WQ.blk ?_ | refine WQ.blkRet ?_ | refine WQ.blkHere rfl ?_ | refine WQ.blkOther rfl ?_ | refine WL.pure rfl rfl rfl rfl ?_ | refine WL.on rfl rfl ?_ | refine WL.off rfl rfl rfl ?_ | refine WC.condTrue rfl ?_ | refine WC.condFalse rfl ?_)
    generalize hRR : grtK 2000 (grt 2000 f) v.kids n1 = RR
    have hgw : g < w3.heap.size := hg2.lt
    refine WC.loop (fun i : Nat => [(1, .pointer (some ⟨pb, 0, none⟩)), (2, .pointer (some ⟨g, 0, none⟩)), (5, .int .i64 i)])
      (fun i w' => i ≤ v.kids.length ∧ Keep (fun b => b < w3.heap.size ∧ b ≠ pb) w3 w' ∧ ∃ x : Nat, VBlk 3 w' pb [.int .i64 x] ∧ grtK 2000 (grt 2000 f) (v.kids.drop i) x = RR) (fun i => v.kids.length - i) 0
      ⟨rfl, rfl, rfl, trivial⟩ ⟨Nat.zero_le _, Keep.refl _ _, n1, hb2, hRR⟩ ?_
    rintro i wr ⟨hi, hkr, x, hbx, hx⟩
    have hgr2 : VBlk 60 wr g (six v (.slice np v.names.length nc) (.slice sp v.kids.length cap)) := hg2.keep hkr ⟨hgw, hne⟩
    have hkw : Keep (fun b => b < w.heap.size ∧ b ≠ pb) w wr := hk2.trans (hkr.mono fun b hb => ⟨Nat.lt_of_lt_of_le hb.1 hk2.size, hb.2⟩)
    have hlast : ∀ {wz : World} {xz : Nat}, VBlk 3 wz pb [.int .i64 xz] → Keep (fun b => b < w.heap.size ∧ b ≠ pb) w wz → xz = RR → (Ending.returned (.bool (decide ((2000 : Int) < (xz : Int)))) = .returned (.bool (decide (2000 < RR))) ∧ VBlk 3 wz pb [.int .i64 (RR)] ∧ Keep (fun b => b < w.heap.size ∧ b ≠ pb) w wz) :=
      fun h1 h2 h3 => ⟨by rw [← h3]; congr 2; simp only [decide_eq_decide]; omega, by rw [← h3]; exact h1, h2⟩
    repeat (first | ((with_reducible refine WL.topT ?_ ?_); omega) | ((with_reducible refine WL.topF ?_ ?_); omega) | ((with_reducible refine WL.top64 ?_ ?_); omega) | refine WC.seq ?_ | refine WC.block ?_ | refine WC.region ?_ | refine WL.nil ?_ | refine WC.skip ?_ | refine WC.exit ?_ | refine WC.ret ?_ | refine WQ.then rfl ?_ | refine WQ.thenExit ?_ | refine WQ.thenRet ?_ | refine WQ.blk ?_ | refine WQ.blkRet ?_ | refine WQ.blkHere rfl ?_ | refine WQ.blkOther rfl ?_ | refine WL.pure rfl rfl rfl rfl ?_ | refine WL.on rfl rfl ?_ | refine WL.off rfl rfl rfl ?_ | refine WC.condTrue rfl ?_ | refine WC.condFalse rfl ?_)
    refine WL.load rfl rfl rfl rfl rfl rfl (hgr2.cell 5 (by simp)) ?_
    by_cases hik : i < v.kids.length
    · have hdr : v.kids.drop i = v.kids.getD i noV :: v.kids.drop (i + 1) := by
        rw [List.drop_eq_getElem_cons hik]
        simp [hik]
      rw [hdr] at hx
      repeat (first | ((with_reducible refine WL.topT ?_ ?_); omega) | ((with_reducible refine WL.topF ?_ ?_); omega) | ((with_reducible refine WL.top64 ?_ ?_); omega) | refine WC.seq ?_ | refine WC.block ?_ | refine WC.region ?_ | refine WL.nil ?_ | refine WC.skip ?_ | refine WC.exit ?_ | refine WC.ret ?_ | refine WQ.then rfl ?_ | refine WQ.thenExit ?_ | refine WQ.thenRet ?_ | refine WQ.blk ?_ | refine WQ.blkRet ?_ | refine WQ.blkHere rfl ?_ | refine WQ.blkOther rfl ?_ | refine WL.pure rfl rfl rfl rfl ?_ | refine WL.on rfl rfl ?_ | refine WL.off rfl rfl rfl ?_ | refine WC.condTrue rfl ?_ | refine WC.condFalse rfl ?_)
      refine WL.load rfl rfl rfl rfl rfl rfl (hbx.cell 0 (by simp)) ?_
      by_cases hx2 : x ≤ 2000
      · obtain ⟨kb, ko, rfl, hkb, hcells⟩ := hrow (by omega)
        obtain ⟨c, hc6, hci, hcr⟩ := hcells i hik
        have hbelr : Below w0.heap.size w0 wr := (hbel.trans ((hkw.mono fun b hb => ⟨Nat.lt_of_lt_of_le hb hbel.size, Nat.ne_of_lt (Nat.lt_of_lt_of_le hb hpb)⟩ : Keep (fun b => b < w0.heap.size) w wr).below))
        have hcr' : wr.rangeAt kb (ko + i * 6) c := fun j u hu => by rw [hbelr.cell (p := ⟨kb, ko + i * 6 + j, none⟩) hkb]; exact hcr j u hu
        unfold grtK at hx
        rw [if_pos hx2] at hx
        repeat (first | ((with_reducible refine WL.topT ?_ ?_); omega) | ((with_reducible refine WL.topF ?_ ?_); omega) | ((with_reducible refine WL.top64 ?_ ?_); omega) | refine WC.seq ?_ | refine WC.block ?_ | refine WC.region ?_ | refine WL.nil ?_ | refine WC.skip ?_ | refine WC.exit ?_ | refine WC.ret ?_ | refine WQ.then rfl ?_ | refine WQ.thenExit ?_ | refine WQ.thenRet ?_ | refine WQ.blk ?_ | refine WQ.blkRet ?_ | refine WQ.blkHere rfl ?_ | refine WQ.blkOther rfl ?_ | refine WL.pure rfl rfl rfl rfl ?_ | refine WL.on rfl rfl ?_ | refine WL.off rfl rfl rfl ?_ | refine WC.condTrue rfl ?_ | refine WC.condFalse rfl ?_)
        refine WL.load rfl rfl rfl rfl rfl rfl (hgr2.cell 5 (by simp)) ?_
        repeat (first | ((with_reducible refine WL.topT ?_ ?_); omega) | ((with_reducible refine WL.topF ?_ ?_); omega) | ((with_reducible refine WL.top64 ?_ ?_); omega) | refine WC.seq ?_ | refine WC.block ?_ | refine WC.region ?_ | refine WL.nil ?_ | refine WC.skip ?_ | refine WC.exit ?_ | refine WC.ret ?_ | refine WQ.then rfl ?_ | refine WQ.thenExit ?_ | refine WQ.thenRet ?_ | refine WQ.blk ?_ | refine WQ.blkRet ?_ | refine WQ.blkHere rfl ?_ | refine WQ.blkOther rfl ?_ | refine WL.pure rfl rfl rfl rfl ?_ | refine WL.on rfl rfl ?_ | refine WL.off rfl rfl rfl ?_ | refine WC.condTrue rfl ?_ | refine WC.condFalse rfl ?_)
        refine WL.idx i (ko + i * 6) rfl rfl rfl rfl rfl rfl rfl rfl hik rfl ?_
        refine WL.loadMid rfl rfl rfl rfl rfl rfl hcr' hc6 ?_
        repeat (first | ((with_reducible refine WL.topT ?_ ?_); omega) | ((with_reducible refine WL.topF ?_ ?_); omega) | ((with_reducible refine WL.top64 ?_ ?_); omega) | refine WC.seq ?_ | refine WC.block ?_ | refine WC.region ?_ | refine WL.nil ?_ | refine WC.skip ?_ | refine WC.exit ?_ | refine WC.ret ?_ | refine WQ.then rfl ?_ | refine WQ.thenExit ?_ | refine WQ.thenRet ?_ | refine WQ.blk ?_ | refine WQ.blkRet ?_ | refine WQ.blkHere rfl ?_ | refine WQ.blkOther rfl ?_ | refine WL.pure rfl rfl rfl rfl ?_ | refine WL.on rfl rfl ?_ | refine WL.off rfl rfl rfl ?_ | refine WC.condTrue rfl ?_ | refine WC.condFalse rfl ?_)
        refine WL.call rfl rfl rfl rfl rfl Try.func21 rfl (by kernel_rfl) (ih (n := x) hci (hsm _ (by rw [List.getD_eq_getElem?_getD, List.getElem?_eq_getElem hik]; exact List.getElem_mem hik)) hbelr hpb hbx (by omega)) ?_
        rintro e w4 ⟨rfl, hb4, hk4⟩
        refine ⟨_, rfl, ?_⟩
        repeat (first | ((with_reducible refine WL.topT ?_ ?_); omega) | ((with_reducible refine WL.topF ?_ ?_); omega) | ((with_reducible refine WL.top64 ?_ ?_); omega) | refine WC.seq ?_ | refine WC.block ?_ | refine WC.region ?_ | refine WL.nil ?_ | refine WC.skip ?_ | refine WC.exit ?_ | refine WC.ret ?_ | refine WQ.then rfl ?_ | refine WQ.thenExit ?_ | refine WQ.thenRet ?_ | refine WQ.blk ?_ | refine WQ.blkRet ?_ | refine WQ.blkHere rfl ?_ | refine WQ.blkOther rfl ?_ | refine WL.pure rfl rfl rfl rfl ?_ | refine WL.on rfl rfl ?_ | refine WL.off rfl rfl rfl ?_ | refine WC.condTrue rfl ?_ | refine WC.condFalse rfl ?_)
        exact WQ.again (i + 1) ⟨rfl, rfl, rfl, trivial⟩ ⟨hik, hkr.trans (hk4.mono fun b hb => ⟨Nat.lt_of_lt_of_le hb.1 hkr.size, hb.2⟩), _, hb4, hx⟩ (by show v.kids.length - (i + 1) < v.kids.length - i; omega)
      · unfold grtK at hx
        rw [if_neg hx2] at hx
        repeat (first | ((with_reducible refine WL.topT ?_ ?_); omega) | ((with_reducible refine WL.topF ?_ ?_); omega) | ((with_reducible refine WL.top64 ?_ ?_); omega) | refine WC.seq ?_ | refine WC.block ?_ | refine WC.region ?_ | refine WL.nil ?_ | refine WC.skip ?_ | refine WC.exit ?_ | refine WC.ret ?_ | refine WQ.then rfl ?_ | refine WQ.thenExit ?_ | refine WQ.thenRet ?_ | refine WQ.blk ?_ | refine WQ.blkRet ?_ | refine WQ.blkHere rfl ?_ | refine WQ.blkOther rfl ?_ | refine WL.pure rfl rfl rfl rfl ?_ | refine WL.on rfl rfl ?_ | refine WL.off rfl rfl rfl ?_ | refine WC.condTrue rfl ?_ | refine WC.condFalse rfl ?_)
        refine WL.load rfl rfl rfl rfl rfl rfl (hbx.cell 0 (by simp)) ?_
        refine WL.pure rfl rfl rfl rfl ?_
        refine WL.pure rfl rfl rfl rfl ?_
        repeat (first | ((with_reducible refine WL.topT ?_ ?_); omega) | ((with_reducible refine WL.topF ?_ ?_); omega) | ((with_reducible refine WL.top64 ?_ ?_); omega) | refine WC.seq ?_ | refine WC.block ?_ | refine WC.region ?_ | refine WL.nil ?_ | refine WC.skip ?_ | refine WC.exit ?_ | refine WC.ret ?_ | refine WQ.then rfl ?_ | refine WQ.thenExit ?_ | refine WQ.thenRet ?_ | refine WQ.blk ?_ | refine WQ.blkRet ?_ | refine WQ.blkHere rfl ?_ | refine WQ.blkOther rfl ?_ | refine WL.pure rfl rfl rfl rfl ?_ | refine WL.on rfl rfl ?_ | refine WL.off rfl rfl rfl ?_ | refine WC.condTrue rfl ?_ | refine WC.condFalse rfl ?_)
        exact WQ.ret1 rfl rfl ⟨congrArg (fun b => Ending.returned (Value.bool b)) (decide_eq_true (by omega)).symm, (hlast hbx hkw hx).2⟩
    · obtain rfl : i = v.kids.length := by omega
      rw [List.drop_length] at hx
      unfold grtK at hx
      repeat (first | ((with_reducible refine WL.topT ?_ ?_); omega) | ((with_reducible refine WL.topF ?_ ?_); omega) | ((with_reducible refine WL.top64 ?_ ?_); omega) | refine WC.seq ?_ | refine WC.block ?_ | refine WC.region ?_ | refine WL.nil ?_ | refine WC.skip ?_ | refine WC.exit ?_ | refine WC.ret ?_ | refine WQ.then rfl ?_ | refine WQ.thenExit ?_ | refine WQ.thenRet ?_ | refine WQ.blk ?_ | refine WQ.blkRet ?_ | refine WQ.blkHere rfl ?_ | refine WQ.blkOther rfl ?_ | refine WL.pure rfl rfl rfl rfl ?_ | refine WL.on rfl rfl ?_ | refine WL.off rfl rfl rfl ?_ | refine WC.condTrue rfl ?_ | refine WC.condFalse rfl ?_)
      refine WL.load rfl rfl rfl rfl rfl rfl (hbx.cell 0 (by simp)) ?_
      refine WL.pure rfl rfl rfl rfl ?_
      refine WL.pure rfl rfl rfl rfl ?_
      repeat (first | ((with_reducible refine WL.topT ?_ ?_); omega) | ((with_reducible refine WL.topF ?_ ?_); omega) | ((with_reducible refine WL.top64 ?_ ?_); omega) | refine WC.seq ?_ | refine WC.block ?_ | refine WC.region ?_ | refine WL.nil ?_ | refine WC.skip ?_ | refine WC.exit ?_ | refine WC.ret ?_ | refine WQ.then rfl ?_ | refine WQ.thenExit ?_ | refine WQ.thenRet ?_ | refine WQ.blk ?_ | refine WQ.blkRet ?_ | refine WQ.blkHere rfl ?_ | refine WQ.blkOther rfl ?_ | refine WL.pure rfl rfl rfl rfl ?_ | refine WL.on rfl rfl ?_ | refine WL.off rfl rfl rfl ?_ | refine WC.condTrue rfl ?_ | refine WC.condFalse rfl ?_)
      exact WQ.ret1 rfl rfl (hlast hbx hkw hx)
end K
end Go.Proofs.Ytdkkaliiofcflaa

/- The laws' same. -/
namespace Go.Proofs.Ytdkkaliiofcflaa
open Go.RowKit
namespace K

theorem same7_any {w : World} {a b : Value} {l1 l2 : List Int} (h1 : Sl .u8 w a l1) (h2 : Sl .u8 w b l2) :
    Calls Try.prog 9 #[a, b] w fun e w' => e = .returned (.bool (decide (l1 = l2))) ∧ Below w.heap.size w w' := by
  refine enter (args := [a, b]) Try.func9 rfl Try.ntmps9 rfl ?_
  have hs1 := h1
  have hs2 := h2
  obtain ⟨sp1, cap1, rfl, hc1, hm1, -, -⟩ := h1
  obtain ⟨sp2, cap2, rfl, -, -, -, -⟩ := h2
  by_cases hl : l1.length = l2.length
  · repeat (first | ((with_reducible refine WL.topT ?_ ?_); omega) | ((with_reducible refine WL.topF ?_ ?_); omega) | ((with_reducible refine WL.top64 ?_ ?_); omega) | refine WC.seq ?_ | refine WC.block ?_ | refine WC.region ?_ | refine WL.nil ?_ | refine WC.skip ?_ | refine WC.exit ?_ | refine WC.ret ?_ | refine WQ.then rfl ?_ | refine WQ.thenExit ?_ | refine WQ.thenRet ?_ | refine WQ.blk ?_ | refine WQ.blkRet ?_ | refine WQ.blkHere rfl ?_ | refine WQ.blkOther rfl ?_ | refine WL.pure rfl rfl rfl rfl ?_ | refine WL.on rfl rfl ?_ | refine WL.off rfl rfl rfl ?_ | refine WC.condTrue rfl ?_ | refine WC.condFalse rfl ?_)
    refine WC.loop (fun i : Nat => [(0, .slice sp1 l1.length cap1), (1, .slice sp2 l2.length cap2), (5, .int .i64 i)]) (fun i w' => i ≤ l1.length ∧ l1.take i = l2.take i ∧ Below w.heap.size w w') (fun i => l1.length - i) 0 ⟨rfl, rfl, rfl, trivial⟩
      ⟨Nat.zero_le _, by simp, Below.refl _ _⟩ ?_
    rintro i wr ⟨hi, ht, hb⟩
    have hr1 := hs1.of_below hb
    have hr2 := hs2.of_below hb
    by_cases hik : i < l1.length
    · repeat (first | ((with_reducible refine WL.topT ?_ ?_); omega) | ((with_reducible refine WL.topF ?_ ?_); omega) | ((with_reducible refine WL.top64 ?_ ?_); omega) | refine WC.seq ?_ | refine WC.block ?_ | refine WC.region ?_ | refine WL.nil ?_ | refine WC.skip ?_ | refine WC.exit ?_ | refine WC.ret ?_ | refine WQ.then rfl ?_ | refine WQ.thenExit ?_ | refine WQ.thenRet ?_ | refine WQ.blk ?_ | refine WQ.blkRet ?_ | refine WQ.blkHere rfl ?_ | refine WQ.blkOther rfl ?_ | refine WL.pure rfl rfl rfl rfl ?_ | refine WL.on rfl rfl ?_ | refine WL.off rfl rfl rfl ?_ | refine WC.condTrue rfl ?_ | refine WC.condFalse rfl ?_)
      refine WC.drawn 8 (fun wx => wx.heap = wr.heap) fun w2 hd => ?_
      have hb2 : Below w.heap.size w w2 := hb.trans (hd.below _)
      have hS : w2.heap = wr.heap := hd.heap
      (((first | refine WD.free 0 rfl (by kernel_rfl) rfl rfl (fun _ _ _ _ _ h => h) rfl rfl (.inr hS) ?_ | refine WD.skip 0 rfl (by kernel_rfl) rfl rfl (fun _ _ _ _ _ h => h) rfl (.inr hS) ?_); try (first | ((with_reducible refine WD.topT ?_ ?_); omega) | ((with_reducible refine WD.topF ?_ ?_); omega) | ((with_reducible refine WD.top64 ?_ ?_); omega))); ((first | refine WD.free 1 rfl (by kernel_rfl) rfl rfl (fun _ _ _ _ _ h => h) rfl rfl (.inr hS) ?_ | refine WD.skip 1 rfl (by kernel_rfl) rfl rfl (fun _ _ _ _ _ h => h) rfl (.inr hS) ?_); try (first | ((with_reducible refine WD.topT ?_ ?_); omega) | ((with_reducible refine WD.topF ?_ ?_); omega) | ((with_reducible refine WD.top64 ?_ ?_); omega))))
      refine WD.idxI 2 i rfl (by kernel_rfl) rfl rfl (fun _ _ _ _ _ h => h) rfl rfl rfl rfl hr1 rfl rfl hik (.inr hS) fun p hp => ?_
      refine WD.load 3 [8] rfl (by kernel_rfl) rfl rfl (fun _ _ _ _ _ h => h) rfl rfl rfl rfl (fun wx hx => (heap_cell hx _).trans hp) hS ?_
      (((first | refine WD.free 4 rfl (by kernel_rfl) rfl rfl (fun _ _ _ _ _ h => h) rfl rfl (.inr hS) ?_ | refine WD.skip 4 rfl (by kernel_rfl) rfl rfl (fun _ _ _ _ _ h => h) rfl (.inr hS) ?_); try (first | ((with_reducible refine WD.topT ?_ ?_); omega) | ((with_reducible refine WD.topF ?_ ?_); omega) | ((with_reducible refine WD.top64 ?_ ?_); omega))); ((first | refine WD.free 5 rfl (by kernel_rfl) rfl rfl (fun _ _ _ _ _ h => h) rfl rfl (.inr hS) ?_ | refine WD.skip 5 rfl (by kernel_rfl) rfl rfl (fun _ _ _ _ _ h => h) rfl (.inr hS) ?_); try (first | ((with_reducible refine WD.topT ?_ ?_); omega) | ((with_reducible refine WD.topF ?_ ?_); omega) | ((with_reducible refine WD.top64 ?_ ?_); omega))))
      refine WD.idxI 6 i rfl (by kernel_rfl) rfl rfl (fun _ _ _ _ _ h => h) rfl rfl rfl rfl hr2 rfl rfl (by omega) (.inr hS) fun p2 hp2 => ?_
      refine WD.load 7 [8] rfl (by kernel_rfl) rfl rfl (fun _ _ _ _ _ h => h) rfl rfl rfl rfl (fun wx hx => (heap_cell hx _).trans hp2) hS ?_
      refine WD.one 8 (by kernel_rfl) rfl ?_
      refine WL.pure rfl rfl rfl rfl ?_
      refine WL.nil (WQ.dk (.inl rfl) ?_)
      refine WD.done (by kernel_rfl) ?_
      repeat (first | ((with_reducible refine WL.topT ?_ ?_); omega) | ((with_reducible refine WL.topF ?_ ?_); omega) | ((with_reducible refine WL.top64 ?_ ?_); omega) | refine WC.seq ?_ | refine WC.block ?_ | refine WC.region ?_ | refine WL.nil ?_ | refine WC.skip ?_ | refine WC.exit ?_ | refine WC.ret ?_ | refine WQ.then rfl ?_ | refine WQ.thenExit ?_ | refine WQ.thenRet ?_ | refine WQ.blk ?_ | refine WQ.blkRet ?_ | refine WQ.blkHere rfl ?_ | refine WQ.blkOther rfl ?_ | refine WL.pure rfl rfl rfl rfl ?_ | refine WL.on rfl rfl ?_ | refine WL.off rfl rfl rfl ?_ | refine WC.condTrue rfl ?_ | refine WC.condFalse rfl ?_)
      refine WC.condS rfl (fun hne => ?_) fun heq => ?_
      · repeat (first | ((with_reducible refine WL.topT ?_ ?_); omega) | ((with_reducible refine WL.topF ?_ ?_); omega) | ((with_reducible refine WL.top64 ?_ ?_); omega) | refine WC.seq ?_ | refine WC.block ?_ | refine WC.region ?_ | refine WL.nil ?_ | refine WC.skip ?_ | refine WC.exit ?_ | refine WC.ret ?_ | refine WQ.then rfl ?_ | refine WQ.thenExit ?_ | refine WQ.thenRet ?_ | refine WQ.blk ?_ | refine WQ.blkRet ?_ | refine WQ.blkHere rfl ?_ | refine WQ.blkOther rfl ?_ | refine WL.pure rfl rfl rfl rfl ?_ | refine WL.on rfl rfl ?_ | refine WL.off rfl rfl rfl ?_ | refine WC.condTrue rfl ?_ | refine WC.condFalse rfl ?_)
        refine WQ.ret1 rfl rfl ⟨?_, hb2⟩
        rw [decide_eq_false (fun e => hne (by rw [e]))]
      · repeat (first | ((with_reducible refine WL.topT ?_ ?_); omega) | ((with_reducible refine WL.topF ?_ ?_); omega) | ((with_reducible refine WL.top64 ?_ ?_); omega) | refine WC.seq ?_ | refine WC.block ?_ | refine WC.region ?_ | refine WL.nil ?_ | refine WC.skip ?_ | refine WC.exit ?_ | refine WC.ret ?_ | refine WQ.then rfl ?_ | refine WQ.thenExit ?_ | refine WQ.thenRet ?_ | refine WQ.blk ?_ | refine WQ.blkRet ?_ | refine WQ.blkHere rfl ?_ | refine WQ.blkOther rfl ?_ | refine WL.pure rfl rfl rfl rfl ?_ | refine WL.on rfl rfl ?_ | refine WL.off rfl rfl rfl ?_ | refine WC.condTrue rfl ?_ | refine WC.condFalse rfl ?_)
        refine WQ.again (i + 1) ⟨rfl, rfl, rfl, trivial⟩ ⟨hik, take_snoc_eq ht hik (by omega) ?_, hb2⟩ (by show l1.length - (i + 1) < l1.length - i; omega)
        have : nth l1 i = nth l2 i := by simpa using heq
        simpa [nth, hik, show i < l2.length by omega] using this
    · obtain rfl : i = l1.length := by omega
      repeat (first | ((with_reducible refine WL.topT ?_ ?_); omega) | ((with_reducible refine WL.topF ?_ ?_); omega) | ((with_reducible refine WL.top64 ?_ ?_); omega) | refine WC.seq ?_ | refine WC.block ?_ | refine WC.region ?_ | refine WL.nil ?_ | refine WC.skip ?_ | refine WC.exit ?_ | refine WC.ret ?_ | refine WQ.then rfl ?_ | refine WQ.thenExit ?_ | refine WQ.thenRet ?_ | refine WQ.blk ?_ | refine WQ.blkRet ?_ | refine WQ.blkHere rfl ?_ | refine WQ.blkOther rfl ?_ | refine WL.pure rfl rfl rfl rfl ?_ | refine WL.on rfl rfl ?_ | refine WL.off rfl rfl rfl ?_ | refine WC.condTrue rfl ?_ | refine WC.condFalse rfl ?_)
      refine WQ.ret1 rfl rfl ⟨?_, hb⟩
      have : l1 = l2 := by rw [List.take_length, hl, List.take_length] at ht; exact ht
      simp [this]
  · repeat (first | ((with_reducible refine WL.topT ?_ ?_); omega) | ((with_reducible refine WL.topF ?_ ?_); omega) | ((with_reducible refine WL.top64 ?_ ?_); omega) | refine WC.seq ?_ | refine WC.block ?_ | refine WC.region ?_ | refine WL.nil ?_ | refine WC.skip ?_ | refine WC.exit ?_ | refine WC.ret ?_ | refine WQ.then rfl ?_ | refine WQ.thenExit ?_ | refine WQ.thenRet ?_ | refine WQ.blk ?_ | refine WQ.blkRet ?_ | refine WQ.blkHere rfl ?_ | refine WQ.blkOther rfl ?_ | refine WL.pure rfl rfl rfl rfl ?_ | refine WL.on rfl rfl ?_ | refine WL.off rfl rfl rfl ?_ | refine WC.condTrue rfl ?_ | refine WC.condFalse rfl ?_)
    refine WQ.ret1 rfl rfl ⟨?_, Below.refl _ _⟩
    rw [decide_eq_false (fun e => hl (by rw [e]))]
end K
end Go.Proofs.Ytdkkaliiofcflaa

/- Equality of arrays of integers. -/
namespace Go.Proofs.Ytdkkaliiofcflaa
open Go.RowKit

theorem part_int {P : Program} (w : World) {e : TypeId} {k : IntKind} (he : P.underlying e = some (.int k)) (l : List Int) (i : Nat) (hi : i < l.length) :
    (part e (l.map (Value.int k)).toArray i).run P w = .ok (.int k (nth l i)) w := by
  have hagg : (isAgg e).run P w = .ok false w := by
    unfold isAgg; rw [Sem.run_bind, run_underlying he w]; rfl
  have hc : (l.map (Value.int k)).toArray[i]? = some (.int k (nth l i)) := by simp [nth, hi]
  simp [part, Sem.run_bind, hagg, hc]
theorem eqItems_ints {P : Program} (w : World) (d : Nat) {e : TypeId} {k : IntKind} (he : P.underlying e = some (.int k)) (xs ys : List Int) :
    ∀ is : List Nat, (∀ i ∈ is, i < xs.length ∧ i < ys.length) → (Op.eqItems (d + 1) e 1 (xs.map (Value.int k)).toArray (ys.map (Value.int k)).toArray is).run P w = .ok (is.all fun i => nth xs i == nth ys i) w
  | [], _ => by simp [Op.eqItems]
  | i :: is, h => by
    obtain ⟨h1, h2⟩ := h i (by simp)
    have ih := eqItems_ints w d he xs ys is (fun j hj => h j (by simp [hj]))
    simp only [Op.eqItems, Sem.run_bind, Nat.mul_one, part_int w he xs i h1, part_int w he ys i h2, Result.andThen_ok, run_equalIn_int w d e k k (nth xs i) (nth ys i) he, List.all_cons]
    by_cases hx : (nth xs i == nth ys i) = true
    · simp [hx, ih]
    · simp [hx]
theorem all_nth (xs ys : List Int) (n : Nat) (ha : xs.length = n) (hb : ys.length = n) : ((List.range n).all fun i => nth xs i == nth ys i) = decide (xs = ys) := by
  rw [Bool.eq_iff_iff]
  simp only [List.all_eq_true, List.mem_range, beq_iff_eq, decide_eq_true_eq]
  constructor
  · intro h
    apply List.ext_getElem (ha.trans hb.symm)
    intro i h1 h2
    have := h i (by omega)
    simpa [nth, h1, h2] using this
  · intro h i _; rw [h]
theorem run_eql_ints {P : Program} (w : World) {t e : TypeId} {k : IntKind} {n : Nat} {i : TypeInfo} (hu : P.underlying t = some (.array n e)) (he : P.underlying e = some (.int k)) (hi : P.info? e = some i) (hs : i.size = 1)
    (xs ys : List Int) (ha : xs.length = n) (hb : ys.length = n) :
    (binOp .eql t (.agg (xs.map (Value.int k)).toArray) (.agg (ys.map (Value.int k)).toArray)).run P w = .ok (.bool (decide (xs = ys))) w := by
  have hc : P.cellsOf e = 1 := by simp [Program.cellsOf, hi, hs]
  have h1 : (Op.equalIn (9999 + 1) t (.agg (xs.map (Value.int k)).toArray) (.agg (ys.map (Value.int k)).toArray)).run P w = .ok (decide (xs = ys)) w := by
    rw [run_equalIn_array w 9999 _ _ hu hi, hc, eqItems_ints w 9998 he xs ys (List.range n) (fun j hj => by simp at hj; omega), all_nth xs ys n ha hb]
  have hg : (binOp .eql t (.agg (xs.map (Value.int k)).toArray) (.agg (ys.map (Value.int k)).toArray)).run P w = ((Op.equalIn 10000 t (.agg (xs.map (Value.int k)).toArray) (.agg (ys.map (Value.int k)).toArray)).run P w).andThen fun b w' => .ok (.bool b) w' := run_eql_struct w t _ _
  rw [hg, h1]; rfl

end Go.Proofs.Ytdkkaliiofcflaa

/- The law's heavy, nums, values, requests (chapter 25). -/
namespace Go.Proofs.Ytdkkaliiofcflaa
open Go.RowKit
namespace K
theorem hash_eqlW (a b : List Int) (ha : a.length = 32) (hb : b.length = 32) (W : World) : (binOp .eql 25 (.agg (a.map (Value.int .u8)).toArray) (.agg (b.map (Value.int .u8)).toArray)).run Try.prog W = .ok (.bool (decide (a = b))) W := by
  have hq : (Try.prog.info? 5).map (fun i => (i.zero, i.size, i.bytes)) = some (some (.int .u8 0), 1, 1) := by kernel_rfl
  obtain ⟨ie, hie, he⟩ := Option.map_eq_some_iff.1 hq
  obtain ⟨-, he2⟩ := Prod.mk.inj he
  exact run_eql_ints W Try.underlying25 Try.underlying5 hie (Prod.mk.inj he2).1 a b ha hb
theorem hash_guardW (x y : Operand) (a b : Array Value) (W : World) : (eqGuard .eql 25 x y (.agg a) (.agg b)).run Try.prog W = .ok () W := by
  have h : Try.prog.eqGuardType Try.prog.depth 25 = false := by kernel_rfl
  simp [eqGuard, h]
section
variable {n : Nat} {Q : Exit → Act → World → Prop} {l : Env} {w w' : World} {ops : Array Oper} {o : Oper} {rest : List Oper} {d : Nat}
theorem WL.eqlHw {x y : Operand} {t2 : Nat} {a b : List Int} (hg : o.guard = none) (hd : o.dst = some d) (hn : Nat.blt d n = true) (ho : o.op = .binOp .eql 25 x y t2) (hx : evl l x = some (.agg (a.map (Value.int .u8)).toArray)) (hy : evl l y = some (.agg (b.map (Value.int .u8)).toArray))
    (ha : a.length = 32) (hb : b.length = 32) (h : WL n ops Q rest ((d, .bool (decide (a = b))) :: l) w) : WL n ops Q (o :: rest) l w :=
  WL.step hg hd hn (fun c hc => by
    unfold execOp
    rw [ho]
    simp only [hc.eval hx, hc.eval hy, Sem.run_bind, hash_guardW, Result.andThen_ok, hash_eqlW a b ha hb w]
    rfl) h
end
theorem heavy25_any {f n : Nat} {w : World} {sl : Value} {l : List V} (h : IsVs f w sl l) (hsm : ∀ x ∈ l, Sml f x) (hn : n ≤ 140737488355328) :
    Calls Try.prog 6 #[sl, .int .i64 (n : Int)] w fun e w' => Below w.heap.size w w' ∧ ∃ b, e = .returned (.bool b) ∧ (b = false → Few f l n) := by
  obtain ⟨sp, cap, rfl, hcap1, hcap2, hrow⟩ := h
  refine enter (args := [.slice sp l.length cap, .int .i64 (n : Int)]) Try.func6 rfl Try.ntmps6 rfl ?_
  repeat (first | refine WC.seq ?_ | refine WC.block ?_ | refine WC.region ?_ | refine WL.nil ?_ | refine WC.skip ?_ | refine WC.exit ?_ | refine WC.ret ?_ | refine WQ.then rfl ?_ | refine WQ.thenExit ?_ | refine WQ.thenRet ?_ | refine WQ.blk ?_ | refine WQ.blkRet ?_ | refine WQ.blkHere rfl ?_ | refine WQ.blkOther rfl ?_)
  refine WL.box rfl rfl rfl rfl rfl fun g w1 hf => ?_
  have hblk : VBlk 3 w1 g [.int .i64 n] := hf.blk
  have hg0 : w.heap.size ≤ g := by rw [hf.eq]; exact Nat.le_refl _
  have hbel1 : Below w.heap.size w w1 := hf.below
  clear hf
  repeat (first | ((with_reducible refine WL.topT ?_ ?_); omega) | ((with_reducible refine WL.topF ?_ ?_); omega) | ((with_reducible refine WL.top64 ?_ ?_); omega) | refine WC.seq ?_ | refine WC.block ?_ | refine WC.region ?_ | refine WL.nil ?_ | refine WC.skip ?_ | refine WC.exit ?_ | refine WC.ret ?_ | refine WQ.then rfl ?_ | refine WQ.thenExit ?_ | refine WQ.thenRet ?_ | refine WQ.blk ?_ | refine WQ.blkRet ?_ | refine WQ.blkHere rfl ?_ | refine WQ.blkOther rfl ?_ | refine WL.pure rfl rfl rfl rfl ?_ | refine WL.on rfl rfl ?_ | refine WL.off rfl rfl rfl ?_ | refine WC.condTrue rfl ?_ | refine WC.condFalse rfl ?_)
  refine WC.loop (fun i : Nat => [(0, .slice sp l.length cap), (3, .pointer (some ⟨g, 0, none⟩)), (5, .int .i64 i)])
    (fun i w' => i ≤ l.length ∧ Below w.heap.size w w' ∧ ∃ x : Nat, (x ≤ 2000 ∨ i = 0) ∧ x ≤ 140737488355328 ∧ VBlk 3 w' g [.int .i64 x] ∧ grtK 2000 (grt 2000 f) (l.drop i) x = grtK 2000 (grt 2000 f) l n) (fun i => l.length - i) 0 ⟨rfl, rfl, rfl, trivial⟩ ⟨Nat.zero_le _, hbel1, n, .inr rfl, hn, hblk, rfl⟩ ?_
  rintro i wr ⟨hi, hbelr, x, hx2, hxb, hbx, hx⟩
  generalize hRR : grtK 2000 (grt 2000 f) l n = RR at hx ⊢
  by_cases hik : i < l.length
  · obtain ⟨kb, ko, rfl, hkb, hcells⟩ := hrow (by omega)
    obtain ⟨c, hc6, hci, hcr⟩ := hcells i hik
    have hdr : l.drop i = l.getD i noV :: l.drop (i + 1) := by
      rw [List.drop_eq_getElem_cons hik]
      simp [hik]
    have hsmi := hsm (l.getD i noV) (by rw [List.getD_eq_getElem?_getD, List.getElem?_eq_getElem hik]; exact List.getElem_mem hik)
    rw [hdr] at hx
    unfold grtK at hx
    have hcr' : wr.rangeAt kb (ko + i * 6) c := fun j u hu => by rw [hbelr.cell (p := ⟨kb, ko + i * 6 + j, none⟩) hkb]; exact hcr j u hu
    repeat (first | ((with_reducible refine WL.topT ?_ ?_); omega) | ((with_reducible refine WL.topF ?_ ?_); omega) | ((with_reducible refine WL.top64 ?_ ?_); omega) | refine WC.seq ?_ | refine WC.block ?_ | refine WC.region ?_ | refine WL.nil ?_ | refine WC.skip ?_ | refine WC.exit ?_ | refine WC.ret ?_ | refine WQ.then rfl ?_ | refine WQ.thenExit ?_ | refine WQ.thenRet ?_ | refine WQ.blk ?_ | refine WQ.blkRet ?_ | refine WQ.blkHere rfl ?_ | refine WQ.blkOther rfl ?_ | refine WL.pure rfl rfl rfl rfl ?_ | refine WL.on rfl rfl ?_ | refine WL.off rfl rfl rfl ?_ | refine WC.condTrue rfl ?_ | refine WC.condFalse rfl ?_)
    refine WL.idx i (ko + i * 6) rfl rfl rfl rfl rfl rfl rfl rfl hik rfl ?_
    refine WL.loadMid rfl rfl rfl rfl rfl rfl hcr' hc6 ?_
    refine WL.call rfl rfl rfl rfl rfl Try.func21 rfl (by kernel_rfl) (great_any f hci hsmi hbelr hg0 hbx hxb) ?_
    rintro e w4 ⟨rfl, hb4, hk4⟩
    refine ⟨_, rfl, ?_⟩
    have hbel4 : Below w.heap.size w w4 := hbelr.trans (hk4.mono fun b hb => ⟨Nat.lt_of_lt_of_le hb hbelr.size, Nat.ne_of_lt (Nat.lt_of_lt_of_le hb hg0)⟩ : Keep (fun b => b < w.heap.size) wr w4).below
    by_cases h20 : 2000 < grt 2000 f (l.getD i noV) x
    · repeat (first | ((with_reducible refine WL.topT ?_ ?_); omega) | ((with_reducible refine WL.topF ?_ ?_); omega) | ((with_reducible refine WL.top64 ?_ ?_); omega) | refine WC.seq ?_ | refine WC.block ?_ | refine WC.region ?_ | refine WL.nil ?_ | refine WC.skip ?_ | refine WC.exit ?_ | refine WC.ret ?_ | refine WQ.then rfl ?_ | refine WQ.thenExit ?_ | refine WQ.thenRet ?_ | refine WQ.blk ?_ | refine WQ.blkRet ?_ | refine WQ.blkHere rfl ?_ | refine WQ.blkOther rfl ?_ | refine WL.pure rfl rfl rfl rfl ?_ | refine WL.on rfl rfl ?_ | refine WL.off rfl rfl rfl ?_ | refine WC.condTrue rfl ?_ | refine WC.condFalse rfl ?_)
      exact WQ.ret1 rfl rfl ⟨hbel4, true, rfl, fun h => by cases h⟩
    · have hp := grt_pos (B := 2000) f (l.getD i noV) x hsmi (by omega)
      rw [if_pos (by omega)] at hx
      repeat (first | ((with_reducible refine WL.topT ?_ ?_); omega) | ((with_reducible refine WL.topF ?_ ?_); omega) | ((with_reducible refine WL.top64 ?_ ?_); omega) | refine WC.seq ?_ | refine WC.block ?_ | refine WC.region ?_ | refine WL.nil ?_ | refine WC.skip ?_ | refine WC.exit ?_ | refine WC.ret ?_ | refine WQ.then rfl ?_ | refine WQ.thenExit ?_ | refine WQ.thenRet ?_ | refine WQ.blk ?_ | refine WQ.blkRet ?_ | refine WQ.blkHere rfl ?_ | refine WQ.blkOther rfl ?_ | refine WL.pure rfl rfl rfl rfl ?_ | refine WL.on rfl rfl ?_ | refine WL.off rfl rfl rfl ?_ | refine WC.condTrue rfl ?_ | refine WC.condFalse rfl ?_)
      exact WQ.again (i + 1) ⟨rfl, rfl, rfl, trivial⟩ ⟨hik, hbel4, _, .inl (by omega), by omega, hb4, hx⟩ (by show l.length - (i + 1) < l.length - i; omega)
  · obtain rfl : i = l.length := by omega
    rw [List.drop_length] at hx
    unfold grtK at hx
    repeat (first | ((with_reducible refine WL.topT ?_ ?_); omega) | ((with_reducible refine WL.topF ?_ ?_); omega) | ((with_reducible refine WL.top64 ?_ ?_); omega) | refine WC.seq ?_ | refine WC.block ?_ | refine WC.region ?_ | refine WL.nil ?_ | refine WC.skip ?_ | refine WC.exit ?_ | refine WC.ret ?_ | refine WQ.then rfl ?_ | refine WQ.thenExit ?_ | refine WQ.thenRet ?_ | refine WQ.blk ?_ | refine WQ.blkRet ?_ | refine WQ.blkHere rfl ?_ | refine WQ.blkOther rfl ?_ | refine WL.pure rfl rfl rfl rfl ?_ | refine WL.on rfl rfl ?_ | refine WL.off rfl rfl rfl ?_ | refine WC.condTrue rfl ?_ | refine WC.condFalse rfl ?_)
    refine WL.load rfl rfl rfl rfl rfl rfl (hbx.cell 0 (by simp)) ?_
    refine WL.pure rfl rfl rfl rfl ?_
    refine WL.pure rfl rfl rfl rfl ?_
    repeat (first | ((with_reducible refine WL.topT ?_ ?_); omega) | ((with_reducible refine WL.topF ?_ ?_); omega) | ((with_reducible refine WL.top64 ?_ ?_); omega) | refine WC.seq ?_ | refine WC.block ?_ | refine WC.region ?_ | refine WL.nil ?_ | refine WC.skip ?_ | refine WC.exit ?_ | refine WC.ret ?_ | refine WQ.then rfl ?_ | refine WQ.thenExit ?_ | refine WQ.thenRet ?_ | refine WQ.blk ?_ | refine WQ.blkRet ?_ | refine WQ.blkHere rfl ?_ | refine WQ.blkOther rfl ?_ | refine WL.pure rfl rfl rfl rfl ?_ | refine WL.on rfl rfl ?_ | refine WL.off rfl rfl rfl ?_ | refine WC.condTrue rfl ?_ | refine WC.condFalse rfl ?_)
    refine WQ.ret1 rfl rfl ⟨hbelr, _, rfl, fun hd => ?_⟩
    have hle : x ≤ 2000 := by
      have := of_decide_eq_false hd
      simp at this
      omega
    rw [hx] at hle
    rw [← hRR] at hle
    exact ⟨hsm, by have := (grtK_count l n hsm hle).1; omega, hle⟩
theorem nums25_any {w : World} {a b : Value} {l1 l2 : List Int} (h1 : Sl .i64 w a l1) (h2 : Sl .i64 w b l2) :
    Calls Try.prog 36 #[a, b] w fun e w' => e = .returned (.bool (decide (l1 = l2))) ∧ Below w.heap.size w w' := by
  refine enter (args := [a, b]) Try.func36 rfl Try.ntmps36 rfl ?_
  have hs1 := h1
  have hs2 := h2
  obtain ⟨sp1, cap1, rfl, hc1, hm1, -, -⟩ := h1
  obtain ⟨sp2, cap2, rfl, -, -, -, -⟩ := h2
  by_cases hl : l1.length = l2.length
  · repeat (first | ((with_reducible refine WL.topT ?_ ?_); omega) | ((with_reducible refine WL.topF ?_ ?_); omega) | ((with_reducible refine WL.top64 ?_ ?_); omega) | refine WC.seq ?_ | refine WC.block ?_ | refine WC.region ?_ | refine WL.nil ?_ | refine WC.skip ?_ | refine WC.exit ?_ | refine WC.ret ?_ | refine WQ.then rfl ?_ | refine WQ.thenExit ?_ | refine WQ.thenRet ?_ | refine WQ.blk ?_ | refine WQ.blkRet ?_ | refine WQ.blkHere rfl ?_ | refine WQ.blkOther rfl ?_ | refine WL.pure rfl rfl rfl rfl ?_ | refine WL.on rfl rfl ?_ | refine WL.off rfl rfl rfl ?_ | refine WC.condTrue rfl ?_ | refine WC.condFalse rfl ?_)
    refine WC.loop (fun i : Nat => [(0, .slice sp1 l1.length cap1), (1, .slice sp2 l2.length cap2), (5, .int .i64 i)]) (fun i w' => i ≤ l1.length ∧ l1.take i = l2.take i ∧ Below w.heap.size w w') (fun i => l1.length - i) 0 ⟨rfl, rfl, rfl, trivial⟩
      ⟨Nat.zero_le _, by simp, Below.refl _ _⟩ ?_
    rintro i wr ⟨hi, ht, hb⟩
    have hr1 := hs1.of_below hb
    have hr2 := hs2.of_below hb
    by_cases hik : i < l1.length
    · repeat (first | ((with_reducible refine WL.topT ?_ ?_); omega) | ((with_reducible refine WL.topF ?_ ?_); omega) | ((with_reducible refine WL.top64 ?_ ?_); omega) | refine WC.seq ?_ | refine WC.block ?_ | refine WC.region ?_ | refine WL.nil ?_ | refine WC.skip ?_ | refine WC.exit ?_ | refine WC.ret ?_ | refine WQ.then rfl ?_ | refine WQ.thenExit ?_ | refine WQ.thenRet ?_ | refine WQ.blk ?_ | refine WQ.blkRet ?_ | refine WQ.blkHere rfl ?_ | refine WQ.blkOther rfl ?_ | refine WL.pure rfl rfl rfl rfl ?_ | refine WL.on rfl rfl ?_ | refine WL.off rfl rfl rfl ?_ | refine WC.condTrue rfl ?_ | refine WC.condFalse rfl ?_)
      refine WC.drawn 8 (fun wx => wx.heap = wr.heap) fun w2 hd => ?_
      have hb2 : Below w.heap.size w w2 := hb.trans (hd.below _)
      have hS : w2.heap = wr.heap := hd.heap
      (((first | refine WD.free 0 rfl (by kernel_rfl) rfl rfl (fun _ _ _ _ _ h => h) rfl rfl (.inr hS) ?_ | refine WD.skip 0 rfl (by kernel_rfl) rfl rfl (fun _ _ _ _ _ h => h) rfl (.inr hS) ?_); try (first | ((with_reducible refine WD.topT ?_ ?_); omega) | ((with_reducible refine WD.topF ?_ ?_); omega) | ((with_reducible refine WD.top64 ?_ ?_); omega))); ((first | refine WD.free 1 rfl (by kernel_rfl) rfl rfl (fun _ _ _ _ _ h => h) rfl rfl (.inr hS) ?_ | refine WD.skip 1 rfl (by kernel_rfl) rfl rfl (fun _ _ _ _ _ h => h) rfl (.inr hS) ?_); try (first | ((with_reducible refine WD.topT ?_ ?_); omega) | ((with_reducible refine WD.topF ?_ ?_); omega) | ((with_reducible refine WD.top64 ?_ ?_); omega))))
      refine WD.idxI 2 i rfl (by kernel_rfl) rfl rfl (fun _ _ _ _ _ h => h) rfl rfl rfl rfl hr1 rfl rfl hik (.inr hS) fun p hp => ?_
      refine WD.load 3 [8] rfl (by kernel_rfl) rfl rfl (fun _ _ _ _ _ h => h) rfl rfl rfl rfl (fun wx hx => (heap_cell hx _).trans hp) hS ?_
      (((first | refine WD.free 4 rfl (by kernel_rfl) rfl rfl (fun _ _ _ _ _ h => h) rfl rfl (.inr hS) ?_ | refine WD.skip 4 rfl (by kernel_rfl) rfl rfl (fun _ _ _ _ _ h => h) rfl (.inr hS) ?_); try (first | ((with_reducible refine WD.topT ?_ ?_); omega) | ((with_reducible refine WD.topF ?_ ?_); omega) | ((with_reducible refine WD.top64 ?_ ?_); omega))); ((first | refine WD.free 5 rfl (by kernel_rfl) rfl rfl (fun _ _ _ _ _ h => h) rfl rfl (.inr hS) ?_ | refine WD.skip 5 rfl (by kernel_rfl) rfl rfl (fun _ _ _ _ _ h => h) rfl (.inr hS) ?_); try (first | ((with_reducible refine WD.topT ?_ ?_); omega) | ((with_reducible refine WD.topF ?_ ?_); omega) | ((with_reducible refine WD.top64 ?_ ?_); omega))))
      refine WD.idxI 6 i rfl (by kernel_rfl) rfl rfl (fun _ _ _ _ _ h => h) rfl rfl rfl rfl hr2 rfl rfl (by omega) (.inr hS) fun p2 hp2 => ?_
      refine WD.load 7 [8] rfl (by kernel_rfl) rfl rfl (fun _ _ _ _ _ h => h) rfl rfl rfl rfl (fun wx hx => (heap_cell hx _).trans hp2) hS ?_
      refine WD.one 8 (by kernel_rfl) rfl ?_
      refine WL.pure rfl rfl rfl rfl ?_
      refine WL.nil (WQ.dk (.inl rfl) ?_)
      refine WD.done (by kernel_rfl) ?_
      repeat (first | ((with_reducible refine WL.topT ?_ ?_); omega) | ((with_reducible refine WL.topF ?_ ?_); omega) | ((with_reducible refine WL.top64 ?_ ?_); omega) | refine WC.seq ?_ | refine WC.block ?_ | refine WC.region ?_ | refine WL.nil ?_ | refine WC.skip ?_ | refine WC.exit ?_ | refine WC.ret ?_ | refine WQ.then rfl ?_ | refine WQ.thenExit ?_ | refine WQ.thenRet ?_ | refine WQ.blk ?_ | refine WQ.blkRet ?_ | refine WQ.blkHere rfl ?_ | refine WQ.blkOther rfl ?_ | refine WL.pure rfl rfl rfl rfl ?_ | refine WL.on rfl rfl ?_ | refine WL.off rfl rfl rfl ?_ | refine WC.condTrue rfl ?_ | refine WC.condFalse rfl ?_)
      refine WC.condS rfl (fun hne => ?_) fun heq => ?_
      · repeat (first | ((with_reducible refine WL.topT ?_ ?_); omega) | ((with_reducible refine WL.topF ?_ ?_); omega) | ((with_reducible refine WL.top64 ?_ ?_); omega) | refine WC.seq ?_ | refine WC.block ?_ | refine WC.region ?_ | refine WL.nil ?_ | refine WC.skip ?_ | refine WC.exit ?_ | refine WC.ret ?_ | refine WQ.then rfl ?_ | refine WQ.thenExit ?_ | refine WQ.thenRet ?_ | refine WQ.blk ?_ | refine WQ.blkRet ?_ | refine WQ.blkHere rfl ?_ | refine WQ.blkOther rfl ?_ | refine WL.pure rfl rfl rfl rfl ?_ | refine WL.on rfl rfl ?_ | refine WL.off rfl rfl rfl ?_ | refine WC.condTrue rfl ?_ | refine WC.condFalse rfl ?_)
        refine WQ.ret1 rfl rfl ⟨?_, hb2⟩
        rw [decide_eq_false (fun e => hne (by rw [e]))]
      · repeat (first | ((with_reducible refine WL.topT ?_ ?_); omega) | ((with_reducible refine WL.topF ?_ ?_); omega) | ((with_reducible refine WL.top64 ?_ ?_); omega) | refine WC.seq ?_ | refine WC.block ?_ | refine WC.region ?_ | refine WL.nil ?_ | refine WC.skip ?_ | refine WC.exit ?_ | refine WC.ret ?_ | refine WQ.then rfl ?_ | refine WQ.thenExit ?_ | refine WQ.thenRet ?_ | refine WQ.blk ?_ | refine WQ.blkRet ?_ | refine WQ.blkHere rfl ?_ | refine WQ.blkOther rfl ?_ | refine WL.pure rfl rfl rfl rfl ?_ | refine WL.on rfl rfl ?_ | refine WL.off rfl rfl rfl ?_ | refine WC.condTrue rfl ?_ | refine WC.condFalse rfl ?_)
        refine WQ.again (i + 1) ⟨rfl, rfl, rfl, trivial⟩ ⟨hik, take_snoc_eq ht hik (by omega) ?_, hb2⟩ (by show l1.length - (i + 1) < l1.length - i; omega)
        have : nth l1 i = nth l2 i := by simpa using heq
        simpa [nth, hik, show i < l2.length by omega] using this
    · obtain rfl : i = l1.length := by omega
      repeat (first | ((with_reducible refine WL.topT ?_ ?_); omega) | ((with_reducible refine WL.topF ?_ ?_); omega) | ((with_reducible refine WL.top64 ?_ ?_); omega) | refine WC.seq ?_ | refine WC.block ?_ | refine WC.region ?_ | refine WL.nil ?_ | refine WC.skip ?_ | refine WC.exit ?_ | refine WC.ret ?_ | refine WQ.then rfl ?_ | refine WQ.thenExit ?_ | refine WQ.thenRet ?_ | refine WQ.blk ?_ | refine WQ.blkRet ?_ | refine WQ.blkHere rfl ?_ | refine WQ.blkOther rfl ?_ | refine WL.pure rfl rfl rfl rfl ?_ | refine WL.on rfl rfl ?_ | refine WL.off rfl rfl rfl ?_ | refine WC.condTrue rfl ?_ | refine WC.condFalse rfl ?_)
      refine WQ.ret1 rfl rfl ⟨?_, hb⟩
      have : l1 = l2 := by rw [List.take_length, hl, List.take_length] at ht; exact ht
      simp [this]
  · repeat (first | ((with_reducible refine WL.topT ?_ ?_); omega) | ((with_reducible refine WL.topF ?_ ?_); omega) | ((with_reducible refine WL.top64 ?_ ?_); omega) | refine WC.seq ?_ | refine WC.block ?_ | refine WC.region ?_ | refine WL.nil ?_ | refine WC.skip ?_ | refine WC.exit ?_ | refine WC.ret ?_ | refine WQ.then rfl ?_ | refine WQ.thenExit ?_ | refine WQ.thenRet ?_ | refine WQ.blk ?_ | refine WQ.blkRet ?_ | refine WQ.blkHere rfl ?_ | refine WQ.blkOther rfl ?_ | refine WL.pure rfl rfl rfl rfl ?_ | refine WL.on rfl rfl ?_ | refine WL.off rfl rfl rfl ?_ | refine WC.condTrue rfl ?_ | refine WC.condFalse rfl ?_)
    refine WQ.ret1 rfl rfl ⟨?_, Below.refl _ _⟩
    rw [decide_eq_false (fun e => hl (by rw [e]))]
/-- The same values, in two places. -/
theorem vals25_any {f1 f2 : Nat} {w : World} {a b : Value} {l : List V} (h1 : IsVs f1 w a l) (h2 : IsVs f2 w b l) :
    Calls Try.prog 37 #[a, b] w fun e w' => e = .returned (.bool true) ∧ Below w.heap.size w w' := by
  obtain ⟨sp1, cap1, rfl, hc1, hm1, hr1⟩ := h1
  obtain ⟨sp2, cap2, rfl, -, -, hr2⟩ := h2
  refine enter (args := [.slice sp1 l.length cap1, .slice sp2 l.length cap2]) Try.func37 rfl Try.ntmps37 rfl ?_
  repeat (first | ((with_reducible refine WL.topT ?_ ?_); omega) | ((with_reducible refine WL.topF ?_ ?_); omega) | ((with_reducible refine WL.top64 ?_ ?_); omega) | refine WC.seq ?_ | refine WC.block ?_ | refine WC.region ?_ | refine WL.nil ?_ | refine WC.skip ?_ | refine WC.exit ?_ | refine WC.ret ?_ | refine WQ.then rfl ?_ | refine WQ.thenExit ?_ | refine WQ.thenRet ?_ | refine WQ.blk ?_ | refine WQ.blkRet ?_ | refine WQ.blkHere rfl ?_ | refine WQ.blkOther rfl ?_ | refine WL.pure rfl rfl rfl rfl ?_ | refine WL.on rfl rfl ?_ | refine WL.off rfl rfl rfl ?_ | refine WC.condTrue rfl ?_ | refine WC.condFalse rfl ?_)
  refine WC.loop (fun i : Nat => [(0, .slice sp1 l.length cap1), (1, .slice sp2 l.length cap2), (5, .int .i64 i)]) (fun i w' => i ≤ l.length ∧ Below w.heap.size w w') (fun i => l.length - i) 0 ⟨rfl, rfl, rfl, trivial⟩
    ⟨Nat.zero_le _, Below.refl _ _⟩ ?_
  rintro i wr ⟨hi, hb⟩
  by_cases hik : i < l.length
  · obtain ⟨kb1, ko1, rfl, hkb1, hcells1⟩ := hr1 (by omega)
    obtain ⟨kb2, ko2, rfl, hkb2, hcells2⟩ := hr2 (by omega)
    obtain ⟨c1, hc61, hci1, hcr1⟩ := hcells1 i hik
    obtain ⟨c2, hc62, hci2, hcr2⟩ := hcells2 i hik
    have x1 : wr.rangeAt kb1 (ko1 + i * 6) c1 := fun j u hu => by rw [hb.cell (p := ⟨kb1, ko1 + i * 6 + j, none⟩) hkb1]; exact hcr1 j u hu
    have x2 : wr.rangeAt kb2 (ko2 + i * 6) c2 := fun j u hu => by rw [hb.cell (p := ⟨kb2, ko2 + i * 6 + j, none⟩) hkb2]; exact hcr2 j u hu
    repeat (first | ((with_reducible refine WL.topT ?_ ?_); omega) | ((with_reducible refine WL.topF ?_ ?_); omega) | ((with_reducible refine WL.top64 ?_ ?_); omega) | refine WC.seq ?_ | refine WC.block ?_ | refine WC.region ?_ | refine WL.nil ?_ | refine WC.skip ?_ | refine WC.exit ?_ | refine WC.ret ?_ | refine WQ.then rfl ?_ | refine WQ.thenExit ?_ | refine WQ.thenRet ?_ | refine WQ.blk ?_ | refine WQ.blkRet ?_ | refine WQ.blkHere rfl ?_ | refine WQ.blkOther rfl ?_ | refine WL.pure rfl rfl rfl rfl ?_ | refine WL.on rfl rfl ?_ | refine WL.off rfl rfl rfl ?_ | refine WC.condTrue rfl ?_ | refine WC.condFalse rfl ?_)
    refine WC.drawn 8 (fun wx => wx.heap = wr.heap) fun w2 hd => ?_
    have hb2 : Below w.heap.size w w2 := hb.trans (hd.below _)
    have hS : w2.heap = wr.heap := hd.heap
    (((first | refine WD.free 0 rfl (by kernel_rfl) rfl rfl (fun _ _ _ _ _ h => h) rfl rfl (.inr hS) ?_ | refine WD.skip 0 rfl (by kernel_rfl) rfl rfl (fun _ _ _ _ _ h => h) rfl (.inr hS) ?_); try (first | ((with_reducible refine WD.topT ?_ ?_); omega) | ((with_reducible refine WD.topF ?_ ?_); omega) | ((with_reducible refine WD.top64 ?_ ?_); omega))); ((first | refine WD.free 1 rfl (by kernel_rfl) rfl rfl (fun _ _ _ _ _ h => h) rfl rfl (.inr hS) ?_ | refine WD.skip 1 rfl (by kernel_rfl) rfl rfl (fun _ _ _ _ _ h => h) rfl (.inr hS) ?_); try (first | ((with_reducible refine WD.topT ?_ ?_); omega) | ((with_reducible refine WD.topF ?_ ?_); omega) | ((with_reducible refine WD.top64 ?_ ?_); omega))))
    refine WD.idx 2 i (ko1 + i * 6) rfl (by kernel_rfl) rfl rfl (fun _ _ _ _ _ h => h) rfl rfl rfl rfl rfl rfl hik rfl (.inr hS) ?_
    refine WD.loadMid 3 [8, 9] rfl (by kernel_rfl) rfl rfl (fun _ _ _ _ _ h => h) rfl rfl rfl rfl (fun wx hx j u hu => (heap_cell hx _).trans (x1 j u hu)) hc61 hS ?_
    (((first | refine WD.free 4 rfl (by kernel_rfl) rfl rfl (fun _ _ _ _ _ h => h) rfl rfl (.inr hS) ?_ | refine WD.skip 4 rfl (by kernel_rfl) rfl rfl (fun _ _ _ _ _ h => h) rfl (.inr hS) ?_); try (first | ((with_reducible refine WD.topT ?_ ?_); omega) | ((with_reducible refine WD.topF ?_ ?_); omega) | ((with_reducible refine WD.top64 ?_ ?_); omega))); ((first | refine WD.free 5 rfl (by kernel_rfl) rfl rfl (fun _ _ _ _ _ h => h) rfl rfl (.inr hS) ?_ | refine WD.skip 5 rfl (by kernel_rfl) rfl rfl (fun _ _ _ _ _ h => h) rfl (.inr hS) ?_); try (first | ((with_reducible refine WD.topT ?_ ?_); omega) | ((with_reducible refine WD.topF ?_ ?_); omega) | ((with_reducible refine WD.top64 ?_ ?_); omega))))
    refine WD.idx 6 i (ko2 + i * 6) rfl (by kernel_rfl) rfl rfl (fun _ _ _ _ _ h => h) rfl rfl rfl rfl rfl rfl hik rfl (.inr hS) ?_
    refine WD.loadMid 7 [8, 9] rfl (by kernel_rfl) rfl rfl (fun _ _ _ _ _ h => h) rfl rfl rfl rfl (fun wx hx j u hu => (heap_cell hx _).trans (x2 j u hu)) hc62 hS ?_
    refine WD.one 8 (by kernel_rfl) rfl ?_
    refine WL.call rfl rfl rfl rfl rfl Try.func59 rfl (by kernel_rfl) (equal_any f1 (hci1.below hb2) (hci2.below hb2)) ?_
    rintro _ w3 ⟨⟨eb, rfl, heb⟩, hk3⟩
    refine ⟨_, rfl, ?_⟩
    obtain rfl : eb = true := heb.2 rfl
    refine WL.nil (WQ.dk (.inl rfl) ?_)
    (((first | refine WD.free 9 rfl (by kernel_rfl) rfl rfl (fun _ _ _ _ _ h => h) rfl rfl (.inl rfl) ?_ | refine WD.skip 9 rfl (by kernel_rfl) rfl rfl (fun _ _ _ _ _ h => h) rfl (.inl rfl) ?_); try (first | ((with_reducible refine WD.topT ?_ ?_); omega) | ((with_reducible refine WD.topF ?_ ?_); omega) | ((with_reducible refine WD.top64 ?_ ?_); omega))))
    refine WD.done (by kernel_rfl) ?_
    repeat (first | ((with_reducible refine WL.topT ?_ ?_); omega) | ((with_reducible refine WL.topF ?_ ?_); omega) | ((with_reducible refine WL.top64 ?_ ?_); omega) | refine WC.seq ?_ | refine WC.block ?_ | refine WC.region ?_ | refine WL.nil ?_ | refine WC.skip ?_ | refine WC.exit ?_ | refine WC.ret ?_ | refine WQ.then rfl ?_ | refine WQ.thenExit ?_ | refine WQ.thenRet ?_ | refine WQ.blk ?_ | refine WQ.blkRet ?_ | refine WQ.blkHere rfl ?_ | refine WQ.blkOther rfl ?_ | refine WL.pure rfl rfl rfl rfl ?_ | refine WL.on rfl rfl ?_ | refine WL.off rfl rfl rfl ?_ | refine WC.condTrue rfl ?_ | refine WC.condFalse rfl ?_)
    exact WQ.again (i + 1) ⟨rfl, rfl, rfl, trivial⟩ ⟨hik, hb2.trans (hk3.mono hb2.size)⟩ (by show l.length - (i + 1) < l.length - i; omega)
  · obtain rfl : i = l.length := by omega
    repeat (first | ((with_reducible refine WL.topT ?_ ?_); omega) | ((with_reducible refine WL.topF ?_ ?_); omega) | ((with_reducible refine WL.top64 ?_ ?_); omega) | refine WC.seq ?_ | refine WC.block ?_ | refine WC.region ?_ | refine WL.nil ?_ | refine WC.skip ?_ | refine WC.exit ?_ | refine WC.ret ?_ | refine WQ.then rfl ?_ | refine WQ.thenExit ?_ | refine WQ.thenRet ?_ | refine WQ.blk ?_ | refine WQ.blkRet ?_ | refine WQ.blkHere rfl ?_ | refine WQ.blkOther rfl ?_ | refine WL.pure rfl rfl rfl rfl ?_ | refine WL.on rfl rfl ?_ | refine WL.off rfl rfl rfl ?_ | refine WC.condTrue rfl ?_ | refine WC.condFalse rfl ?_)
    exact WQ.ret1 rfl rfl ⟨rfl, hb⟩
end K
end Go.Proofs.Ytdkkaliiofcflaa

/- The document's frames (chapters 1, 4): Short, Sum, Encode. -/
namespace Go.Proofs.Ytdkkaliiofcflaa
open Go.RowKit
namespace K
theorem rshort_any (n : Nat) (w : World) : Calls Try.prog 53 #[.int .u32 (n : Int)] w (Makes w (Crc.be4 n)) := by
  refine enter (args := [.int .u32 (n : Int)]) Try.func53 rfl Try.ntmps53 rfl ?_
  have h4 : [IntKind.u8.wrap ((n : Int) / ((2 ^ min 24 IntKind.u32.bits : Nat) : Int)), IntKind.u8.wrap ((n : Int) / ((2 ^ min 16 IntKind.u32.bits : Nat) : Int)), IntKind.u8.wrap ((n : Int) / ((2 ^ min 8 IntKind.u32.bits : Nat) : Int)), IntKind.u8.wrap (n : Int)] = Crc.be4 n := by
    unfold Crc.be4
    rw [show ((2 ^ min 24 IntKind.u32.bits : Nat) : Int) = 16777216 from rfl, show ((2 ^ min 16 IntKind.u32.bits : Nat) : Int) = 65536 from rfl, show ((2 ^ min 8 IntKind.u32.bits : Nat) : Int) = 256 from rfl]
    simp only [IntKind.wrap_u8]
    simp
  repeat (first | ((with_reducible refine WL.topT ?_ ?_); omega) | ((with_reducible refine WL.topF ?_ ?_); omega) | ((with_reducible refine WL.top64 ?_ ?_); omega) | refine WC.seq ?_ | refine WC.block ?_ | refine WC.region ?_ | refine WL.nil ?_ | refine WC.skip ?_ | refine WC.exit ?_ | refine WC.ret ?_ | refine WQ.then rfl ?_ | refine WQ.thenExit ?_ | refine WQ.thenRet ?_ | refine WQ.blk ?_ | refine WQ.blkRet ?_ | refine WQ.blkHere rfl ?_ | refine WQ.blkOther rfl ?_ | refine WL.pure rfl rfl rfl rfl ?_ | refine WL.on rfl rfl ?_ | refine WL.off rfl rfl rfl ?_ | refine WC.condTrue rfl ?_ | refine WC.condFalse rfl ?_)
  refine WL.lit rfl rfl rfl rfl rfl rfl rfl fun v w1 h1 h2 h3 => ?_
  rw [h4] at h1
  repeat (first | ((with_reducible refine WL.topT ?_ ?_); omega) | ((with_reducible refine WL.topF ?_ ?_); omega) | ((with_reducible refine WL.top64 ?_ ?_); omega) | refine WC.seq ?_ | refine WC.block ?_ | refine WC.region ?_ | refine WL.nil ?_ | refine WC.skip ?_ | refine WC.exit ?_ | refine WC.ret ?_ | refine WQ.then rfl ?_ | refine WQ.thenExit ?_ | refine WQ.thenRet ?_ | refine WQ.blk ?_ | refine WQ.blkRet ?_ | refine WQ.blkHere rfl ?_ | refine WQ.blkOther rfl ?_ | refine WL.pure rfl rfl rfl rfl ?_ | refine WL.on rfl rfl ?_ | refine WL.off rfl rfl rfl ?_ | refine WC.condTrue rfl ?_ | refine WC.condFalse rfl ?_)
  exact WQ.ret1 rfl rfl ⟨v, rfl, h1, h2, h3⟩
/-- So many steps. -/
def stepN : Nat → BitVec 32 → BitVec 32
  | 0, c => c
  | j + 1, c => stepN j (Crc.step c)
theorem stepN_8 (c : BitVec 32) : stepN 8 c = Crc.step8 c := rfl
theorem and1_32 (c : BitVec 32) : bits .and .u32 (c.toNat : Int) 1 = ((c.toNat % 2 : Nat) : Int) := by
  have h := c.isLt
  have := Go.bits_mask .u32 32 (by decide) (fun n h0 h1 => by rw [IntKind.wrap_u32]; omega) 1 (by decide) (c.toNat : Int) (by omega) (by omega)
  rw [show ((2 : Int) ^ 1 - 1) = 1 by decide, show ((2 : Int) ^ 1) = 2 by decide] at this
  omega
theorem shr1_32 (c : BitVec 32) : (c.toNat : Int) / ((2 ^ min 1 IntKind.u32.bits : Nat) : Int) = ((c >>> 1).toNat : Int) := by
  rw [show ((2 ^ min 1 IntKind.u32.bits : Nat) : Int) = 2 from rfl, BitVec.toNat_ushiftRight, Nat.shiftRight_eq_div_pow]
  omega
theorem low_bit (c : BitVec 32) : c.getLsbD 0 = decide (c.toNat % 2 = 1) := by
  rw [BitVec.getLsbD, Nat.testBit_zero]
theorem step_odd (c : BitVec 32) (h : c.toNat % 2 = 1) : bits .xor .u32 ((c.toNat : Int) / ((2 ^ min 1 IntKind.u32.bits : Nat) : Int)) 3988292384 = ((Crc.step c).toNat : Int) := by
  rw [shr1_32, xor32]
  unfold Crc.step
  rw [low_bit, decide_eq_true h, if_pos rfl]
  rfl
theorem step_ev (c : BitVec 32) (h : ¬ c.toNat % 2 = 1) : (c.toNat : Int) / ((2 ^ min 1 IntKind.u32.bits : Nat) : Int) = ((Crc.step c).toNat : Int) := by
  rw [shr1_32, Crc.step_even c (by rw [low_bit, decide_eq_false h])]
theorem rsum_any {w : World} {v : Value} {l : List Int} (hv : Sl .u8 w v l) (hb : ∀ c ∈ l, 0 ≤ c ∧ c ≤ 255) (hl : l.length ≤ 140737488355328) :
    Calls Try.prog 54 #[v] w fun e w' => e = .returned (.int .u32 (Crc.crcN l : Nat)) ∧ w' = w := by
  obtain ⟨sp, cap, rfl, -⟩ := id hv
  refine enter (args := [.slice sp l.length cap]) Try.func54 rfl Try.ntmps54 rfl ?_
  repeat (first | ((with_reducible refine WL.topT ?_ ?_); omega) | ((with_reducible refine WL.topF ?_ ?_); omega) | ((with_reducible refine WL.top64 ?_ ?_); omega) | refine WC.seq ?_ | refine WC.block ?_ | refine WC.region ?_ | refine WL.nil ?_ | refine WC.skip ?_ | refine WC.exit ?_ | refine WC.ret ?_ | refine WQ.then rfl ?_ | refine WQ.thenExit ?_ | refine WQ.thenRet ?_ | refine WQ.blk ?_ | refine WQ.blkRet ?_ | refine WQ.blkHere rfl ?_ | refine WQ.blkOther rfl ?_ | refine WL.pure rfl rfl rfl rfl ?_ | refine WL.on rfl rfl ?_ | refine WL.off rfl rfl rfl ?_ | refine WC.condTrue rfl ?_ | refine WC.condFalse rfl ?_)
  refine WC.loop (fun i : Nat × BitVec 32 => [(0, .slice sp l.length cap), (3, .int .u32 (i.2.toNat : Int)), (4, .int .i64 i.1)])
    (fun i w' => i.1 ≤ l.length ∧ i.2 = Crc.run 0xffffffff#32 (l.take i.1) ∧ w' = w) (fun i => l.length - i.1) (0, 0xffffffff#32) ⟨rfl, rfl, rfl, trivial⟩ ⟨Nat.zero_le _, rfl, rfl⟩ ?_
  rintro ⟨i, c⟩ _ ⟨hi, hc, rfl⟩
  simp only at hi hc ⊢
  by_cases h : i < l.length
  · have hbc := hb (nth l i) (nth_mem' l i h)
    have hu : IntKind.u32.wrap (nth l i) = nth l i := by rw [IntKind.wrap_u32]; omega
    repeat (first | ((with_reducible refine WL.topT ?_ ?_); omega) | ((with_reducible refine WL.topF ?_ ?_); omega) | ((with_reducible refine WL.top64 ?_ ?_); omega) | refine WC.seq ?_ | refine WC.block ?_ | refine WC.region ?_ | refine WL.nil ?_ | refine WC.skip ?_ | refine WC.exit ?_ | refine WC.ret ?_ | refine WQ.then rfl ?_ | refine WQ.thenExit ?_ | refine WQ.thenRet ?_ | refine WQ.blk ?_ | refine WQ.blkRet ?_ | refine WQ.blkHere rfl ?_ | refine WQ.blkOther rfl ?_ | refine WL.pure rfl rfl rfl rfl ?_ | refine WL.on rfl rfl ?_ | refine WL.off rfl rfl rfl ?_ | refine WC.condTrue rfl ?_ | refine WC.condFalse rfl ?_)
    refine WL.idxI i rfl rfl rfl rfl rfl rfl hv rfl rfl h fun p hp => ?_
    repeat (first | ((with_reducible refine WL.topT ?_ ?_); omega) | ((with_reducible refine WL.topF ?_ ?_); omega) | ((with_reducible refine WL.top64 ?_ ?_); omega) | refine WC.seq ?_ | refine WC.block ?_ | refine WC.region ?_ | refine WL.nil ?_ | refine WC.skip ?_ | refine WC.exit ?_ | refine WC.ret ?_ | refine WQ.then rfl ?_ | refine WQ.thenExit ?_ | refine WQ.thenRet ?_ | refine WQ.blk ?_ | refine WQ.blkRet ?_ | refine WQ.blkHere rfl ?_ | refine WQ.blkOther rfl ?_ | refine WL.pure rfl rfl rfl rfl ?_ | refine WL.on rfl rfl ?_ | refine WL.off rfl rfl rfl ?_ | refine WL.load rfl rfl rfl rfl rfl rfl (by assumption) ?_ | refine WC.condTrue rfl ?_ | refine WC.condFalse rfl ?_)
    have e1 : bits .xor .u32 (c.toNat : Int) (IntKind.u32.wrap (nth l i)) = ((c ^^^ BitVec.ofInt 32 (nth l i)).toNat : Int) := by rw [hu]; exact xor32 c _
    have hnext : Crc.run 0xffffffff#32 (l.take (i + 1)) = Crc.step8 (c ^^^ BitVec.ofInt 32 (nth l i)) := by
      rw [take_succ' l i h, Crc.run_app, ← hc]; rfl
    generalize hd : c ^^^ BitVec.ofInt 32 (nth l i) = d at e1 hnext
    refine WC.loop (fun j : Nat × BitVec 32 => [(0, .slice sp l.length cap), (3, .int .u32 (j.2.toNat : Int)), (4, .int .i64 i), (5, .int .i64 j.1)])
      (fun j wx => j.1 ≤ 8 ∧ stepN (8 - j.1) j.2 = Crc.step8 d ∧ wx = _) (fun j => 8 - j.1) (0, d) ⟨rfl, congrArg (fun z => some (Value.int .u32 z)) e1, rfl, rfl, trivial⟩ ⟨Nat.zero_le _, rfl, rfl⟩ ?_
    rintro ⟨j, y⟩ _ ⟨hj, hy, rfl⟩
    simp only at hj hy ⊢
    by_cases h8 : j < 8
    · rw [show 8 - j = (8 - (j + 1)) + 1 by omega] at hy
      have hy' : stepN (8 - (j + 1)) (Crc.step y) = Crc.step8 d := hy
      have ha := and1_32 y
      by_cases h2 : y.toNat % 2 = 1
      · have ht : bits .and .u32 (y.toNat : Int) 1 = 1 := by omega
        repeat (first | ((with_reducible refine WL.topT ?_ ?_); omega) | ((with_reducible refine WL.topF ?_ ?_); omega) | ((with_reducible refine WL.top64 ?_ ?_); omega) | refine WC.seq ?_ | refine WC.block ?_ | refine WC.region ?_ | refine WL.nil ?_ | refine WC.skip ?_ | refine WC.exit ?_ | refine WC.ret ?_ | refine WQ.then rfl ?_ | refine WQ.thenExit ?_ | refine WQ.thenRet ?_ | refine WQ.blk ?_ | refine WQ.blkRet ?_ | refine WQ.blkHere rfl ?_ | refine WQ.blkOther rfl ?_ | refine WL.pure rfl rfl rfl rfl ?_ | refine WL.on rfl rfl ?_ | refine WL.off rfl rfl rfl ?_ | refine WC.condTrue rfl ?_ | refine WC.condFalse rfl ?_)
        exact WQ.again (j + 1, Crc.step y) ⟨rfl, congrArg (fun z => some (Value.int .u32 z)) (step_odd y h2), rfl, rfl, trivial⟩ ⟨by show j + 1 ≤ 8; omega, hy', rfl⟩ (by show 8 - (j + 1) < 8 - j; omega)
      · have ht : bits .and .u32 (y.toNat : Int) 1 ≠ 1 := by omega
        repeat (first | ((with_reducible refine WL.topT ?_ ?_); omega) | ((with_reducible refine WL.topF ?_ ?_); omega) | ((with_reducible refine WL.top64 ?_ ?_); omega) | refine WC.seq ?_ | refine WC.block ?_ | refine WC.region ?_ | refine WL.nil ?_ | refine WC.skip ?_ | refine WC.exit ?_ | refine WC.ret ?_ | refine WQ.then rfl ?_ | refine WQ.thenExit ?_ | refine WQ.thenRet ?_ | refine WQ.blk ?_ | refine WQ.blkRet ?_ | refine WQ.blkHere rfl ?_ | refine WQ.blkOther rfl ?_ | refine WL.pure rfl rfl rfl rfl ?_ | refine WL.on rfl rfl ?_ | refine WL.off rfl rfl rfl ?_ | refine WC.condTrue rfl ?_ | refine WC.condFalse rfl ?_)
        exact WQ.again (j + 1, Crc.step y) ⟨rfl, congrArg (fun z => some (Value.int .u32 z)) (step_ev y h2), rfl, rfl, trivial⟩ ⟨by show j + 1 ≤ 8; omega, hy', rfl⟩ (by show 8 - (j + 1) < 8 - j; omega)
    · obtain rfl : j = 8 := by omega
      have hy' : y = Crc.step8 d := hy
      repeat (first | ((with_reducible refine WL.topT ?_ ?_); omega) | ((with_reducible refine WL.topF ?_ ?_); omega) | ((with_reducible refine WL.top64 ?_ ?_); omega) | refine WC.seq ?_ | refine WC.block ?_ | refine WC.region ?_ | refine WL.nil ?_ | refine WC.skip ?_ | refine WC.exit ?_ | refine WC.ret ?_ | refine WQ.then rfl ?_ | refine WQ.thenExit ?_ | refine WQ.thenRet ?_ | refine WQ.blk ?_ | refine WQ.blkRet ?_ | refine WQ.blkHere rfl ?_ | refine WQ.blkOther rfl ?_ | refine WL.pure rfl rfl rfl rfl ?_ | refine WL.on rfl rfl ?_ | refine WL.off rfl rfl rfl ?_ | refine WC.condTrue rfl ?_ | refine WC.condFalse rfl ?_)
      exact WQ.again (i + 1, y) ⟨rfl, rfl, rfl, trivial⟩ ⟨by show i + 1 ≤ l.length; omega, hy'.trans hnext.symm, rfl⟩ (by show l.length - (i + 1) < l.length - i; omega)
  · have hfin : bits .xor .u32 (if IntKind.u32.signed = true then -1 else IntKind.u32.max) (c.toNat : Int) = ((Crc.crcN l : Nat) : Int) := by
      rw [List.take_of_length_le (by omega)] at hc
      show bits .xor .u32 4294967295 (c.toNat : Int) = ((Crc.sum l).toNat : Int)
      have := xor32 0xffffffff#32 (c.toNat : Int)
      rw [show (((0xffffffff#32).toNat : Nat) : Int) = 4294967295 from rfl] at this
      rw [this, BitVec.ofInt_natCast, BitVec.ofNat_toNat, BitVec.setWidth_eq]
      unfold Crc.sum
      rw [← hc, show (0xffffffff#32 : BitVec 32) = BitVec.allOnes 32 by decide, BitVec.allOnes_xor]
    repeat (first | ((with_reducible refine WL.topT ?_ ?_); omega) | ((with_reducible refine WL.topF ?_ ?_); omega) | ((with_reducible refine WL.top64 ?_ ?_); omega) | refine WC.seq ?_ | refine WC.block ?_ | refine WC.region ?_ | refine WL.nil ?_ | refine WC.skip ?_ | refine WC.exit ?_ | refine WC.ret ?_ | refine WQ.then rfl ?_ | refine WQ.thenExit ?_ | refine WQ.thenRet ?_ | refine WQ.blk ?_ | refine WQ.blkRet ?_ | refine WQ.blkHere rfl ?_ | refine WQ.blkOther rfl ?_ | refine WL.pure rfl rfl rfl rfl ?_ | refine WL.on rfl rfl ?_ | refine WL.off rfl rfl rfl ?_ | refine WC.condTrue rfl ?_ | refine WC.condFalse rfl ?_)
    exact WQ.ret1 (v := .int .u32 (Crc.crcN l : Nat)) rfl (congrArg (fun z => some (Value.int .u32 z)) hfin) ⟨rfl, rfl⟩
theorem rfenc_any {w : World} {v : Value} {p : List Int} (hv : Sl .u8 w v p) (hp : Frm.Byt p) (hl : p.length ≤ 140737488355328) : Calls Try.prog 29 #[v] w (FrmOut w p) := by
  obtain ⟨sp, cap, rfl, h1, h2, -⟩ := id hv
  refine enter (args := [.slice sp p.length cap]) Try.func29 rfl Try.ntmps29 rfl ?_
  unfold FrmOut
  by_cases h : 524288 < p.length
  · rw [if_pos h, if_pos h]
    repeat (first | ((with_reducible refine WL.topT ?_ ?_); omega) | ((with_reducible refine WL.topF ?_ ?_); omega) | ((with_reducible refine WL.top64 ?_ ?_); omega) | refine WC.seq ?_ | refine WC.block ?_ | refine WC.region ?_ | refine WL.nil ?_ | refine WC.skip ?_ | refine WC.exit ?_ | refine WC.ret ?_ | refine WQ.then rfl ?_ | refine WQ.thenExit ?_ | refine WQ.thenRet ?_ | refine WQ.blk ?_ | refine WQ.blkRet ?_ | refine WQ.blkHere rfl ?_ | refine WQ.blkOther rfl ?_ | refine WL.pure rfl rfl rfl rfl ?_ | refine WL.on rfl rfl ?_ | refine WL.off rfl rfl rfl ?_ | refine WC.condTrue rfl ?_ | refine WC.condFalse rfl ?_)
    exact WQ.ret2 rfl rfl rfl ⟨_, rfl, Bu.nil w, Below.refl _ _, fun g h => by cases h⟩
  rw [if_neg h, if_neg h]
  have hw32 : IntKind.u32.wrap (p.length : Int) = (p.length : Int) := wraps_u32 _ (by omega) (by omega)
  repeat (first | ((with_reducible refine WL.topT ?_ ?_); omega) | ((with_reducible refine WL.topF ?_ ?_); omega) | ((with_reducible refine WL.top64 ?_ ?_); omega) | refine WC.seq ?_ | refine WC.block ?_ | refine WC.region ?_ | refine WL.nil ?_ | refine WC.skip ?_ | refine WC.exit ?_ | refine WC.ret ?_ | refine WQ.then rfl ?_ | refine WQ.thenExit ?_ | refine WQ.thenRet ?_ | refine WQ.blk ?_ | refine WQ.blkRet ?_ | refine WQ.blkHere rfl ?_ | refine WQ.blkOther rfl ?_ | refine WL.pure rfl rfl rfl rfl ?_ | refine WL.on rfl rfl ?_ | refine WL.off rfl rfl rfl ?_ | refine WC.condTrue rfl ?_ | refine WC.condFalse rfl ?_)
  refine WL.as 10 (.int .u32 (p.length : Int)) rfl (congrArg (Value.int .u32) hw32) ?_
  refine WL.call rfl rfl rfl rfl rfl Try.func53 rfl (by kernel_rfl) (rshort_any p.length w) ?_
  rintro _ w1 ⟨b1, rfl, q1, k1, o1⟩
  refine ⟨_, rfl, ?_⟩
  repeat (first | ((with_reducible refine WL.topT ?_ ?_); omega) | ((with_reducible refine WL.topF ?_ ?_); omega) | ((with_reducible refine WL.top64 ?_ ?_); omega) | refine WC.seq ?_ | refine WC.block ?_ | refine WC.region ?_ | refine WL.nil ?_ | refine WC.skip ?_ | refine WC.exit ?_ | refine WC.ret ?_ | refine WQ.then rfl ?_ | refine WQ.thenExit ?_ | refine WQ.thenRet ?_ | refine WQ.blk ?_ | refine WQ.blkRet ?_ | refine WQ.blkHere rfl ?_ | refine WQ.blkOther rfl ?_ | refine WL.pure rfl rfl rfl rfl ?_ | refine WL.on rfl rfl ?_ | refine WL.off rfl rfl rfl ?_ | refine WC.condTrue rfl ?_ | refine WC.condFalse rfl ?_)
  refine WL.call rfl rfl rfl rfl rfl Try.func54 rfl (by kernel_rfl) (rsum_any q1.sl (Crc.be4_byt _) (by show 4 ≤ _; omega)) ?_
  rintro _ _ ⟨rfl, rfl⟩
  refine ⟨_, rfl, ?_⟩
  refine WL.call rfl rfl rfl rfl rfl Try.func53 rfl (by kernel_rfl) (rshort_any _ _) ?_
  rintro _ w2 ⟨b2, rfl, q2, k2, o2⟩
  refine ⟨_, rfl, ?_⟩
  refine WL.app rfl rfl rfl rfl rfl (q1.below k2) rfl q2.sl (by show 4 + 4 ≤ _; omega) fun b3 w3 q3 g3 => ?_
  have hw2 : Below w.heap.size w w2 := k1.trans (k2.mono k1.size)
  have ap3 : Apart w w3 b3 := Apart.grow ⟨hw2, o1⟩ g3
  have q3' : Bu w3 b3 (Frm.headF p.length) := q3
  clear q3 g3 q1 q2 k2 o2
  repeat (first | ((with_reducible refine WL.topT ?_ ?_); omega) | ((with_reducible refine WL.topF ?_ ?_); omega) | ((with_reducible refine WL.top64 ?_ ?_); omega) | refine WC.seq ?_ | refine WC.block ?_ | refine WC.region ?_ | refine WL.nil ?_ | refine WC.skip ?_ | refine WC.exit ?_ | refine WC.ret ?_ | refine WQ.then rfl ?_ | refine WQ.thenExit ?_ | refine WQ.thenRet ?_ | refine WQ.blk ?_ | refine WQ.blkRet ?_ | refine WQ.blkHere rfl ?_ | refine WQ.blkOther rfl ?_ | refine WL.pure rfl rfl rfl rfl ?_ | refine WL.on rfl rfl ?_ | refine WL.off rfl rfl rfl ?_ | refine WC.condTrue rfl ?_ | refine WC.condFalse rfl ?_)
  refine WL.app rfl rfl rfl rfl rfl q3' rfl (hv.of_below ap3.below) (by rw [Frm.headF_len]; omega) fun b4 w4 q4 g4 => ?_
  have ap4 := ap3.grow g4
  clear g4 q3'
  have hH : Frm.Byt (Frm.headF p.length ++ p) := fun c hc => (List.mem_append.1 hc).elim (fun h => by unfold Frm.headF at h; exact (List.mem_append.1 h).elim (Crc.be4_byt _ c) (Crc.be4_byt _ c)) (hp c)
  have hHl : (Frm.headF p.length ++ p).length = p.length + 8 := by rw [List.length_append, Frm.headF_len]; omega
  repeat (first | ((with_reducible refine WL.topT ?_ ?_); omega) | ((with_reducible refine WL.topF ?_ ?_); omega) | ((with_reducible refine WL.top64 ?_ ?_); omega) | refine WC.seq ?_ | refine WC.block ?_ | refine WC.region ?_ | refine WL.nil ?_ | refine WC.skip ?_ | refine WC.exit ?_ | refine WC.ret ?_ | refine WQ.then rfl ?_ | refine WQ.thenExit ?_ | refine WQ.thenRet ?_ | refine WQ.blk ?_ | refine WQ.blkRet ?_ | refine WQ.blkHere rfl ?_ | refine WQ.blkOther rfl ?_ | refine WL.pure rfl rfl rfl rfl ?_ | refine WL.on rfl rfl ?_ | refine WL.off rfl rfl rfl ?_ | refine WC.condTrue rfl ?_ | refine WC.condFalse rfl ?_)
  refine WL.call rfl rfl rfl rfl rfl Try.func54 rfl (by kernel_rfl) (rsum_any q4.sl hH (by omega)) ?_
  rintro _ _ ⟨rfl, rfl⟩
  refine ⟨_, rfl, ?_⟩
  refine WL.call rfl rfl rfl rfl rfl Try.func53 rfl (by kernel_rfl) (rshort_any _ _) ?_
  rintro _ w5 ⟨b5, rfl, q5, k5, o5⟩
  refine ⟨_, rfl, ?_⟩
  refine WL.app rfl rfl rfl rfl rfl (q4.below k5) rfl q5.sl (by rw [hHl]; show p.length + 8 + 4 ≤ _; omega) fun b6 w6 q6 g6 => ?_
  have ap6 := ap4.grow (((Grow.refl _ b4).below k5).trans g6)
  repeat (first | ((with_reducible refine WL.topT ?_ ?_); omega) | ((with_reducible refine WL.topF ?_ ?_); omega) | ((with_reducible refine WL.top64 ?_ ?_); omega) | refine WC.seq ?_ | refine WC.block ?_ | refine WC.region ?_ | refine WL.nil ?_ | refine WC.skip ?_ | refine WC.exit ?_ | refine WC.ret ?_ | refine WQ.then rfl ?_ | refine WQ.thenExit ?_ | refine WQ.thenRet ?_ | refine WQ.blk ?_ | refine WQ.blkRet ?_ | refine WQ.blkHere rfl ?_ | refine WQ.blkOther rfl ?_ | refine WL.pure rfl rfl rfl rfl ?_ | refine WL.on rfl rfl ?_ | refine WL.off rfl rfl rfl ?_ | refine WC.condTrue rfl ?_ | refine WC.condFalse rfl ?_)
  refine WQ.ret2 rfl rfl rfl ⟨b6, rfl, ?_, ap6.below, ap6.own⟩
  have : Frm.frameL p = Frm.headF p.length ++ p ++ Crc.be4 (Crc.crcN (Frm.headF p.length ++ p)) := by unfold Frm.frameL; rw [List.append_assoc]
  rw [this]
  exact q6
end K
end Go.Proofs.Ytdkkaliiofcflaa

/- The document's Uvarint (chapter 1). -/
namespace Go.Proofs.Ytdkkaliiofcflaa
open Go.RowKit
namespace K

theorem ruvarint_any (u : Nat) (hu : u < 18446744073709551616) (w : World) :
    Calls Try.prog 50 #[.int .u64 u] w fun e w' => ∃ b, e = .returned b ∧ Bu w' b (uvB u) ∧ Below w.heap.size w w' ∧ ∀ g, b.ownBlock = some g → w.heap.size ≤ g := by
  refine enter (args := [.int .u64 u]) Try.func50 rfl Try.ntmps50 rfl ?_
  have h1 : u < 2 * 128 ^ 9 := by omega
  have h2 : uvB u = [] ++ uvF (9 + 1) u := by rw [List.nil_append]; rfl
  repeat (first | ((with_reducible refine WL.topT ?_ ?_); omega) | ((with_reducible refine WL.topF ?_ ?_); omega) | ((with_reducible refine WL.top64 ?_ ?_); omega) | refine WC.seq ?_ | refine WC.block ?_ | refine WC.region ?_ | refine WL.nil ?_ | refine WC.skip ?_ | refine WC.exit ?_ | refine WC.ret ?_ | refine WQ.then rfl ?_ | refine WQ.thenExit ?_ | refine WQ.thenRet ?_ | refine WQ.blk ?_ | refine WQ.blkRet ?_ | refine WQ.blkHere rfl ?_ | refine WQ.blkOther rfl ?_ | refine WL.pure rfl rfl rfl rfl ?_ | refine WL.on rfl rfl ?_ | refine WL.off rfl rfl rfl ?_ | refine WC.condTrue rfl ?_ | refine WC.condFalse rfl ?_)
  refine WC.loop (fun i : Nat × Nat × List Int × Value => [(0, .int .u64 i.2.1), (3, i.2.2.2)])
    (fun i w' => i.2.1 < 2 * 128 ^ i.1 ∧ i.1 ≤ 9 ∧ uvB u = i.2.2.1 ++ uvF (i.1 + 1) i.2.1 ∧ i.2.2.1.length ≤ 9 ∧ Bu w' i.2.2.2 i.2.2.1 ∧ Grow w (.slice none 0 0) w' i.2.2.2) (fun i => i.1) (9, u, [], .slice none 0 0) ⟨rfl, rfl, trivial⟩ ⟨h1, Nat.le_refl 9, h2, Nat.zero_le 9, Bu.nil w, Grow.refl _ _⟩ ?_
  rintro ⟨f, c, A, v⟩ wr ⟨hc, hf, hA, hl, hb, hg⟩
  simp only at hc hf hA hl hb hg ⊢
  have hle : (128 : Nat) ^ f ≤ 128 ^ 9 := Nat.pow_le_pow_right (by decide) hf
  by_cases h : c < 128
  · have hw : IntKind.u8.wrap (c : Int) = (c : Int) := by rw [IntKind.wrap_u8]; omega
    have hfin : uvF (f + 1) c = [(c : Int)] := by rw [uvF, if_pos h]
    repeat (first | ((with_reducible refine WL.topT ?_ ?_); omega) | ((with_reducible refine WL.topF ?_ ?_); omega) | ((with_reducible refine WL.top64 ?_ ?_); omega) | refine WC.seq ?_ | refine WC.block ?_ | refine WC.region ?_ | refine WL.nil ?_ | refine WC.skip ?_ | refine WC.exit ?_ | refine WC.ret ?_ | refine WQ.then rfl ?_ | refine WQ.thenExit ?_ | refine WQ.thenRet ?_ | refine WQ.blk ?_ | refine WQ.blkRet ?_ | refine WQ.blkHere rfl ?_ | refine WQ.blkOther rfl ?_ | refine WL.pure rfl rfl rfl rfl ?_ | refine WL.on rfl rfl ?_ | refine WL.off rfl rfl rfl ?_ | refine WC.condTrue rfl ?_ | refine WC.condFalse rfl ?_)
    refine WL.push rfl rfl rfl rfl rfl rfl rfl rfl rfl rfl rfl (fun _ => rfl) rfl hb (by simp only [List.length_cons, List.length_nil]; omega) fun b2 w2 hb2 hg2 => ?_
    repeat (first | ((with_reducible refine WL.topT ?_ ?_); omega) | ((with_reducible refine WL.topF ?_ ?_); omega) | ((with_reducible refine WL.top64 ?_ ?_); omega) | refine WC.seq ?_ | refine WC.block ?_ | refine WC.region ?_ | refine WL.nil ?_ | refine WC.skip ?_ | refine WC.exit ?_ | refine WC.ret ?_ | refine WQ.then rfl ?_ | refine WQ.thenExit ?_ | refine WQ.thenRet ?_ | refine WQ.blk ?_ | refine WQ.blkRet ?_ | refine WQ.blkHere rfl ?_ | refine WQ.blkOther rfl ?_ | refine WL.pure rfl rfl rfl rfl ?_ | refine WL.on rfl rfl ?_ | refine WL.off rfl rfl rfl ?_ | refine WC.condTrue rfl ?_ | refine WC.condFalse rfl ?_)
    have hg3 := hg.trans hg2
    refine WQ.ret1 rfl rfl ⟨b2, rfl, ?_, hg3.old (Nat.le_refl _) (fun g h => by cases h), hg3.own (Nat.le_refl _) (fun g h => by cases h)⟩
    rw [hw] at hb2
    rw [hA, hfin]
    exact hb2
  · obtain ⟨f, rfl⟩ : ∃ f', f = f' + 1 := ⟨f - 1, by
      cases f with
      | zero => simp at hc; omega
      | succ f => rfl⟩
    have hbig : uvF (f + 1 + 1) c = ((c % 128 + 128 : Nat) : Int) :: uvF (f + 1) (c / 128) := uvF_big (by omega)
    have hw : bits .or .u8 (IntKind.u8.wrap (bits .and .u64 (c : Int) 127)) 128 = ((c % 128 + 128 : Nat) : Int) := by
      have := or128 (c % 128) (by omega)
      rw [and127 c (by omega), show IntKind.u8.wrap ((c % 128 : Nat) : Int) = ((c % 128 : Nat) : Int) by rw [IntKind.wrap_u8]; omega, this]; omega
    repeat (first | ((with_reducible refine WL.topT ?_ ?_); omega) | ((with_reducible refine WL.topF ?_ ?_); omega) | ((with_reducible refine WL.top64 ?_ ?_); omega) | refine WC.seq ?_ | refine WC.block ?_ | refine WC.region ?_ | refine WL.nil ?_ | refine WC.skip ?_ | refine WC.exit ?_ | refine WC.ret ?_ | refine WQ.then rfl ?_ | refine WQ.thenExit ?_ | refine WQ.thenRet ?_ | refine WQ.blk ?_ | refine WQ.blkRet ?_ | refine WQ.blkHere rfl ?_ | refine WQ.blkOther rfl ?_ | refine WL.pure rfl rfl rfl rfl ?_ | refine WL.on rfl rfl ?_ | refine WL.off rfl rfl rfl ?_ | refine WC.condTrue rfl ?_ | refine WC.condFalse rfl ?_)
    refine WL.push rfl rfl rfl rfl rfl rfl rfl rfl rfl rfl rfl (fun _ => rfl) rfl hb (by simp only [List.length_cons, List.length_nil]; omega) fun b2 w2 hb2 hg2 => ?_
    rw [hw] at hb2
    repeat (first | ((with_reducible refine WL.topT ?_ ?_); omega) | ((with_reducible refine WL.topF ?_ ?_); omega) | ((with_reducible refine WL.top64 ?_ ?_); omega) | refine WC.seq ?_ | refine WC.block ?_ | refine WC.region ?_ | refine WL.nil ?_ | refine WC.skip ?_ | refine WC.exit ?_ | refine WC.ret ?_ | refine WQ.then rfl ?_ | refine WQ.thenExit ?_ | refine WQ.thenRet ?_ | refine WQ.blk ?_ | refine WQ.blkRet ?_ | refine WQ.blkHere rfl ?_ | refine WQ.blkOther rfl ?_ | refine WL.pure rfl rfl rfl rfl ?_ | refine WL.on rfl rfl ?_ | refine WL.off rfl rfl rfl ?_ | refine WC.condTrue rfl ?_ | refine WC.condFalse rfl ?_)
    refine WQ.again (f, c / 128, A ++ [((c % 128 + 128 : Nat) : Int)], b2) ⟨congrArg (fun z => some (Value.int .u64 z)) (shr7 c), rfl, trivial⟩
      ⟨by rw [Nat.pow_succ] at hc; show c / 128 < 2 * 128 ^ f; omega, by show f ≤ 9; omega, by show uvB u = A ++ [((c % 128 + 128 : Nat) : Int)] ++ uvF (f + 1) (c / 128); rw [hA, hbig]; simp, ?_, hb2, hg.trans hg2⟩ (by show f < f + 1; omega)
    show (A ++ [((c % 128 + 128 : Nat) : Int)]).length ≤ 9
    have := congrArg List.length hA
    rw [List.length_append, hbig, List.length_cons] at this
    have h10 : (uvB u).length ≤ 10 := uvF_len 10 u
    have h1 : 1 ≤ (uvF (f + 1) (c / 128)).length := by unfold uvF; split <;> simp
    rw [List.length_append]; simp only [List.length_cons, List.length_nil]; omega
end K
end Go.Proofs.Ytdkkaliiofcflaa

/- The document's Uvarint, Zig, text (chapters 1, 7). -/
namespace Go.Proofs.Ytdkkaliiofcflaa
open Go.RowKit
namespace K

theorem rzig_any (v : Int) (h : -9223372036854775808 ≤ v ∧ v ≤ 9223372036854775807) (w : World) : Calls Try.prog 52 #[.int .i64 v] w fun e w' => e = .returned (.int .u64 (zig v : Nat)) ∧ w' = w := by
  refine enter (args := [.int .i64 v]) Try.func52 rfl Try.ntmps52 rfl ?_
  repeat (first | ((with_reducible refine WL.topT ?_ ?_); omega) | ((with_reducible refine WL.topF ?_ ?_); omega) | ((with_reducible refine WL.top64 ?_ ?_); omega) | refine WC.seq ?_ | refine WC.block ?_ | refine WC.region ?_ | refine WL.nil ?_ | refine WC.skip ?_ | refine WC.exit ?_ | refine WC.ret ?_ | refine WQ.then rfl ?_ | refine WQ.thenExit ?_ | refine WQ.thenRet ?_ | refine WQ.blk ?_ | refine WQ.blkRet ?_ | refine WQ.blkHere rfl ?_ | refine WQ.blkOther rfl ?_ | refine WL.pure rfl rfl rfl rfl ?_ | refine WL.on rfl rfl ?_ | refine WL.off rfl rfl rfl ?_ | refine WC.condTrue rfl ?_ | refine WC.condFalse rfl ?_)
  by_cases hv : 0 ≤ v
  · refine WC.condT rfl hv ?_
    have e : IntKind.u64.wrap (2 * IntKind.u64.wrap v) = (zig v : Nat) := by unfold zig; rw [if_pos hv, IntKind.wrap_u64, IntKind.wrap_u64]; omega
    repeat (first | ((with_reducible refine WL.topT ?_ ?_); omega) | ((with_reducible refine WL.topF ?_ ?_); omega) | ((with_reducible refine WL.top64 ?_ ?_); omega) | refine WC.seq ?_ | refine WC.block ?_ | refine WC.region ?_ | refine WL.nil ?_ | refine WC.skip ?_ | refine WC.exit ?_ | refine WC.ret ?_ | refine WQ.then rfl ?_ | refine WQ.thenExit ?_ | refine WQ.thenRet ?_ | refine WQ.blk ?_ | refine WQ.blkRet ?_ | refine WQ.blkHere rfl ?_ | refine WQ.blkOther rfl ?_ | refine WL.pure rfl rfl rfl rfl ?_ | refine WL.on rfl rfl ?_ | refine WL.off rfl rfl rfl ?_ | refine WC.condTrue rfl ?_ | refine WC.condFalse rfl ?_)
    exact WQ.ret1 rfl rfl ⟨congrArg (fun z => Ending.returned (Value.int .u64 z)) e, rfl⟩
  · refine WC.condF rfl hv ?_
    have e : IntKind.u64.wrap (IntKind.u64.wrap (2 * IntKind.u64.wrap (IntKind.i64.wrap (0 - (v + 1)))) + 1) = (zig v : Nat) := by unfold zig; rw [if_neg hv]; simp only [IntKind.wrap_u64, IntKind.wrap_i64]; omega
    repeat (first | refine WC.seq ?_ | refine WC.block ?_ | refine WC.region ?_ | refine WL.nil ?_ | refine WC.skip ?_ | refine WC.exit ?_ | refine WC.ret ?_ | refine WQ.then rfl ?_ | refine WQ.thenExit ?_ | refine WQ.thenRet ?_ | refine WQ.blk ?_ | refine WQ.blkRet ?_ | refine WQ.blkHere rfl ?_ | refine WQ.blkOther rfl ?_)
    refine WL.pure rfl rfl rfl rfl ?_
    refine WL.pureAs (.int .i64 (v + 1)) rfl rfl rfl rfl (congrArg (Value.int .i64) (IntWalk.i64_in _ (by omega))) ?_
    refine WL.pure rfl rfl rfl rfl ?_
    refine WL.pure rfl rfl rfl rfl ?_
    refine WL.pure rfl rfl rfl rfl ?_
    refine WL.pure rfl rfl rfl rfl ?_
    refine WL.pure rfl rfl rfl rfl ?_
    repeat (first | refine WC.seq ?_ | refine WC.block ?_ | refine WC.region ?_ | refine WL.nil ?_ | refine WC.skip ?_ | refine WC.exit ?_ | refine WC.ret ?_ | refine WQ.then rfl ?_ | refine WQ.thenExit ?_ | refine WQ.thenRet ?_ | refine WQ.blk ?_ | refine WQ.blkRet ?_ | refine WQ.blkHere rfl ?_ | refine WQ.blkOther rfl ?_)
    exact WQ.ret1 rfl rfl ⟨congrArg (fun z => Ending.returned (Value.int .u64 z)) e, rfl⟩
theorem rtext_any {w : World} {b : Value} {l : List Int} {s : ByteArray} (hb : Bu w b l) (hm : l.length + 10 + s.size ≤ 70368744178000) :
    Calls Try.prog 80 #[b, .string s] w fun e w' => ∃ b', e = .returned b' ∧ Bu w' b' (l ++ (uvB s.size ++ byI s)) ∧ Grow w b w' b' := by
  refine enter (args := [b, .string s]) Try.func80 rfl Try.ntmps80 rfl ?_
  have e8 : IntKind.u64.wrap (s.size : Int) = ((s.size : Nat) : Int) := by rw [IntKind.wrap_u64]; omega
  have hul : (uvB s.size).length ≤ 10 := uvF_len 10 _
  repeat (first | ((with_reducible refine WL.topT ?_ ?_); omega) | ((with_reducible refine WL.topF ?_ ?_); omega) | ((with_reducible refine WL.top64 ?_ ?_); omega) | refine WC.seq ?_ | refine WC.block ?_ | refine WC.region ?_ | refine WL.nil ?_ | refine WC.skip ?_ | refine WC.exit ?_ | refine WC.ret ?_ | refine WQ.then rfl ?_ | refine WQ.thenExit ?_ | refine WQ.thenRet ?_ | refine WQ.blk ?_ | refine WQ.blkRet ?_ | refine WQ.blkHere rfl ?_ | refine WQ.blkOther rfl ?_ | refine WL.pure rfl rfl rfl rfl ?_ | refine WL.on rfl rfl ?_ | refine WL.off rfl rfl rfl ?_ | refine WC.condTrue rfl ?_ | refine WC.condFalse rfl ?_)
  refine WL.call rfl rfl rfl rfl rfl Try.func50 rfl (by kernel_rfl) (by rw [e8]; exact ruvarint_any s.size (by omega) w) ?_
  rintro _ w2 ⟨b2, rfl, hb2, hk2, -⟩
  refine ⟨_, rfl, ?_⟩
  refine WL.app rfl rfl rfl rfl rfl (hb.below hk2) rfl hb2.sl (by omega) fun b3 w3 hb3 hg3 => ?_
  repeat (first | ((with_reducible refine WL.topT ?_ ?_); omega) | ((with_reducible refine WL.topF ?_ ?_); omega) | ((with_reducible refine WL.top64 ?_ ?_); omega) | refine WC.seq ?_ | refine WC.block ?_ | refine WC.region ?_ | refine WL.nil ?_ | refine WC.skip ?_ | refine WC.exit ?_ | refine WC.ret ?_ | refine WQ.then rfl ?_ | refine WQ.thenExit ?_ | refine WQ.thenRet ?_ | refine WQ.blk ?_ | refine WQ.blkRet ?_ | refine WQ.blkHere rfl ?_ | refine WQ.blkOther rfl ?_ | refine WL.pure rfl rfl rfl rfl ?_ | refine WL.on rfl rfl ?_ | refine WL.off rfl rfl rfl ?_ | refine WC.condTrue rfl ?_ | refine WC.condFalse rfl ?_)
  refine WL.appS rfl rfl rfl rfl rfl hb3 rfl (by rw [List.length_append]; omega) fun b4 w4 hb4 hg4 => ?_
  repeat (first | ((with_reducible refine WL.topT ?_ ?_); omega) | ((with_reducible refine WL.topF ?_ ?_); omega) | ((with_reducible refine WL.top64 ?_ ?_); omega) | refine WC.seq ?_ | refine WC.block ?_ | refine WC.region ?_ | refine WL.nil ?_ | refine WC.skip ?_ | refine WC.exit ?_ | refine WC.ret ?_ | refine WQ.then rfl ?_ | refine WQ.thenExit ?_ | refine WQ.thenRet ?_ | refine WQ.blk ?_ | refine WQ.blkRet ?_ | refine WQ.blkHere rfl ?_ | refine WQ.blkOther rfl ?_ | refine WL.pure rfl rfl rfl rfl ?_ | refine WL.on rfl rfl ?_ | refine WL.off rfl rfl rfl ?_ | refine WC.condTrue rfl ?_ | refine WC.condFalse rfl ?_)
  exact WQ.ret1 rfl rfl ⟨b4, rfl, by rw [← List.append_assoc]; exact hb4, (((Grow.refl w b).below hk2).trans hg3).trans hg4⟩
end K
end Go.Proofs.Ytdkkaliiofcflaa
