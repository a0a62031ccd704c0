/- Texts for LawWirDt, part 5 of 6. -/
import Derived.Test.YtdkkaliiofcflaaZLawWirDt4
import Derived.DeepKeys
namespace Go.Proofs.Ytdkkaliiofcflaa
open Go.RowKit
namespace K
structure RqOk (r : Rq) : Prop where
  kind : 1 ≤ r.kind ∧ r.kind ≤ 20
  seq : 0 ≤ r.seq ∧ r.seq ≤ 9007199254740992
  nums : r.nums.length ≤ 8
  r64 : R64w r.nums
  text : r.text.size ≤ 4096
  params : r.params.length ≤ 40
  backs : Backs r.params
  hash : r.hash.length = 32
  hbyt : Frm.Byt r.hash
  byt : Frm.Byt (rqB r)
  len : (rqB r).length ≤ 524288
def RqDec (w : World) (r : Rq) : Ending → World → Prop := fun e w' => ∃ nv pv, e = .returned (.tuple #[.agg (rqC r nv pv).toArray, .int .i64 0]) ∧ Below w.heap.size w w' ∧ Sl .i64 w' nv r.nums ∧ IsVs 17 w' pv r.params
set_option maxHeartbeats 4000000 in
theorem wdec_ok {w : World} {v : Value} {r : Rq} (h : RqOk r) (hv : Sl .u8 w v (Frm.frameL (rqB r))) : Calls Try.prog 11 #[v] w (RqDec w r) := by
  obtain ⟨kind, seq, nums, text, params, hash⟩ := r; obtain ⟨hk, hs, hn8, h64, ht, hp40, hbk, hh, hhb, hby, hlen⟩ := h; simp only at hk hs hn8 h64 ht hp40 hbk hh hhb; obtain ⟨sq, rfl⟩ : ∃ n : Nat, seq = (n : Int) := ⟨seq.toNat, by omega⟩; have hall : rqB ⟨kind, sq, nums, text, params, hash⟩ = 81 :: kind :: (uvB sq ++ (uvB nums.length ++ (nmB nums ++ (uvB text.size ++ (bytesI text ++ (uvB params.length ++ (vlB params ++ (hash ++ [])))))))) := by
    unfold rqB headB valsB; simp [List.append_assoc]
  have htl := bytesI_len text; refine enter (args := [v]) Try.func11 rfl Try.ntmps11 rfl ?_; refine K.kgn ?_; refine WL.alloc (z := .agg zReq.toArray) rfl rfl rfl rfl (fun _ => by kernel_rfl) fun g1 w1 hf0 => ?_; have hf1 : Fresh w g1 w1 32 zReq := hf0; clear hf0; have hB1 := hf1.below; have hg1 := hf1.eq; have hz1 := hf1.size; have T1 := hf1.blk; clear hf1; refine K.kgo ?_; refine WL.call rfl rfl rfl rfl rfl Try.func30 rfl (by kernel_rfl) (wopen_ok (hv.of_below hB1) hby hlen) ?_; rintro _ w2 ⟨rb, rfl, hr2, k2, hrb⟩; refine ⟨_, rfl, ?_⟩; rw [hall] at hr2; clear hall hby hlen hv; have T2 := T1.below k2 T1.lt; have hz2 := k2.size; refine K.kgo ?_; refine WL.alloc (z := .agg zReq.toArray) rfl rfl rfl rfl (fun _ => by kernel_rfl) fun gx w3 hf0 => ?_; have hf3 : Fresh w2 gx w3 32 zReq := hf0; clear hf0; have hgx := hf3.eq; have hz3 := hf3.size; have s3 : DSt 32 w2.heap.size rb gx w3.heap.size w1 w3 _ zReq (.slice none 0 0) [] (.slice none 0 0) [] :=
    ⟨hr2.keep (Keep.of_below hf3.below) fun b hb => hb, by omega, by omega, Nat.le_refl _, hrb, hf3.blk, OwnE.nil _ _ _ _ _ _, ⟨fun _ => False, OwnE.nil _ _ _ _ _ _, fun b hb => hb.elim⟩, k2.trans (hf3.below.mono hz2)⟩
  clear hf3 hr2; have hrg := s3.rg; refine K.kgo ?_; refine WL.call rfl rfl rfl rfl rfl Try.func31 rfl (by kernel_rfl) (wbyte_any s3.r) ?_; rintro _ w4 ⟨rfl, hr4, k4⟩; refine ⟨_, rfl, ?_⟩; have s4 := s3.call hr4 k4; clear s3 hr4 k4; obtain ⟨sp4, cap4, hb4, -⟩ := s4.r.ex; refine K.kgo ?_; refine WL.load rfl rfl rfl rfl rfl rfl (hb4.cell 1 (by simp)) ?_; refine WL.as 24 (.bool false) rfl rfl ?_; refine K.kgo ?_; refine WL.store rfl rfl rfl rfl rfl rfl (by kernel_rfl) (hb4.cell 1 (by simp)) (hb4.free 1) ?_; have s5 := s4.bad; generalize w4.setCell ⟨rb, 1, none⟩ (.bool false) = w5 at s5 ⊢; clear s4 hb4; refine K.kgo ?_; refine WL.call rfl rfl rfl rfl rfl Try.func31 rfl (by kernel_rfl) (wbyte_any s5.r) ?_; rintro _ w6 ⟨rfl, hr6, k6⟩; refine ⟨_, rfl, ?_⟩; have s6 := s5.call hr6 k6; clear s5 hr6 k6; refine K.kgo ?_; refine WL.store rfl rfl rfl rfl rfl rfl (by kernel_rfl) (s6.x.cell 0 (by simp [zReq, reqC])) (s6.x.free 0) ?_; have s7 := s6.put 0 (.int .i64 kind); generalize w6.setCell ⟨gx, 0, none⟩ (.int .i64 kind) = w7 at s7 ⊢; clear s6; refine K.kgo ?_; refine WL.call rfl rfl rfl rfl rfl Try.func32 rfl (by kernel_rfl) (wupTo_any (most := 9007199254740992) s7.r (by omega) (by omega)) ?_; rintro _ w8 ⟨rfl, hr8, k8⟩; refine ⟨_, rfl, ?_⟩; have s8 := s7.call hr8 k8; clear s7 hr8 k8; refine K.kgo ?_; refine WL.store rfl rfl rfl rfl rfl rfl (by kernel_rfl) (s8.x.cell 1 (by simp [zReq, reqC])) (s8.x.free 1) ?_; have s9 := s8.put 1 (.int .i64 sq); generalize w8.setCell ⟨gx, 1, none⟩ (.int .i64 sq) = w9 at s9 ⊢; clear s8; refine K.kgo ?_; refine WL.call rfl rfl rfl rfl rfl Try.func33 rfl (by kernel_rfl) (wnums_any s9.r (by have := s9.hs; omega) hn8 h64) ?_; rintro _ w10 ⟨nv, rfl, hN, hr10, k10⟩; refine ⟨_, rfl, ?_⟩; have s10' := s9.call hr10 k10; have s10 : DSt 32 w2.heap.size rb gx w3.heap.size w1 w10 _ ((zReq.set 0 (.int .i64 kind)).set 1 (.int .i64 sq)) nv nums (.slice none 0 0) [] :=
    { s10' with n := hN.keep (Keep.refl (fun _ => True) w10) (fun _ _ => trivial) (fun b hb => by have := s9.hs; omega) fun _ _ h => h }
  have hnv := hN.one; clear s9 s10' hr10 k10 hN; refine K.kgo ?_; refine WL.store rfl rfl rfl rfl rfl hnv (by kernel_rfl) (s10.x.cell 2 (by simp [zReq, reqC])) (s10.x.free 2) ?_; have s11 := s10.put 2 nv; generalize w10.setCell ⟨gx, 2, none⟩ nv = w11 at s11 ⊢; clear s10; refine K.kgo ?_; refine WL.call rfl rfl rfl rfl rfl Try.func32 rfl (by kernel_rfl) (wupTo_any (most := 4096) s11.r (by omega) (by omega)) ?_; rintro _ w12 ⟨rfl, hr12, k12⟩; refine ⟨_, rfl, ?_⟩; have s12 := s11.call hr12 k12; clear s11 hr12 k12; refine WL.call rfl rfl rfl rfl rfl Try.func34 rfl (by kernel_rfl) (wtake_any (k := text.size) (A := bytesI text) s12.r htl (by omega)) ?_; rintro _ w13 ⟨tv, rfl, htv, hr13, k13⟩; refine ⟨_, rfl, ?_⟩; have s13 := s12.call hr13 k13; clear s12 hr13 k13; refine WL.strOf rfl rfl rfl rfl rfl rfl rfl rfl htv.sl ?_; rw [strOf_bytesI]; clear htv; refine K.kgo ?_; refine WL.store rfl rfl rfl rfl rfl rfl (by kernel_rfl) (s13.x.cell 3 (by simp [zReq, reqC])) (s13.x.free 3) ?_; have s14 := s13.put 3 (.string text); generalize w13.setCell ⟨gx, 3, none⟩ (.string text) = w14 at s14 ⊢; clear s13; refine K.kgo ?_; refine WL.call rfl rfl rfl rfl rfl Try.func35 rfl (by kernel_rfl) (wreadvals_any (most := 40) s14.r (by have := s14.hs; omega) hp40 (by omega) hbk) ?_; rintro _ w15 ⟨pv, rfl, hV, hr15, k15⟩; refine ⟨_, rfl, ?_⟩; have s15' := s14.call hr15 k15; obtain ⟨q, hV, hq⟩ := hV; have hpv := hV.one; have s15 : DSt 32 w2.heap.size rb gx w3.heap.size w1 w15 _ ((((zReq.set 0 (.int .i64 kind)).set 1 (.int .i64 sq)).set 2 nv).set 3 (.string text)) nv nums pv params :=
    { s15' with v := ⟨q, hV.keep (Keep.refl (fun _ => True) w15) (fun _ _ => trivial) (fun b hb => by have := s14.hs; omega) fun _ _ h => h, fun b hb => ⟨by have := (hq b hb).1; have := s14.hs; omega, (hq b hb).2⟩⟩ }
  clear s14 s15' hr15 k15 hV hq; refine K.kgo ?_; refine WL.store rfl rfl rfl rfl rfl hpv (by kernel_rfl) (s15.x.cell 4 (by simp [zReq, reqC])) (s15.x.free 4) ?_; have s16 := s15.put 4 pv; generalize w15.setCell ⟨gx, 4, none⟩ pv = w16 at s16 ⊢; clear s15; refine K.kgo ?_; refine WC.drawn 4 (fun _ => True) fun w17 hd17 => ?_; have s17 := s16.down (hd17.below _); clear s16 hd17; have hS : True := trivial; refine K.fr [0] hS ?_; refine WD.all 1 rfl (by kernel_rfl) rfl rfl (fun _ _ _ _ _ h => h) rfl rfl rfl rfl (.inr hS) ?_; refine K.fr [2] hS ?_; refine K.wo 3 ?_; refine WL.call rfl rfl rfl rfl rfl Try.func34 rfl (by kernel_rfl) (wtake_any (k := 32) (A := hash) s17.r hh (by omega)) ?_; rintro _ w18 ⟨hv, rfl, hhv, hr18, k18⟩; refine ⟨_, rfl, ?_⟩; have s18 := s17.call hr18 k18; clear s17 hr18 k18; refine K.di hS ?_; refine K.wo 4 ?_; refine WL.copy rfl rfl rfl rfl rfl rfl hhv.sl (by omega) s18.x (by simp [zReq, reqC]) ?_; refine K.dl ?_; refine WD.done (by kernel_rfl) ?_; have hcp : (((((zReq.set 0 (.int .i64 kind)).set 1 (.int .i64 sq)).set 2 nv).set 3 (.string text)).set 4 pv).take (0 + 5) ++ hash.map (Value.int .u8) ++ (((((zReq.set 0 (.int .i64 kind)).set 1 (.int .i64 sq)).set 2 nv).set 3 (.string text)).set 4 pv).drop (0 + 5 + hash.length) = rqC ⟨kind, sq, nums, text, params, hash⟩ nv pv := by
    rw [hh, show (((((zReq.set 0 (.int .i64 kind)).set 1 (.int .i64 sq)).set 2 nv).set 3 (.string text)).set 4 pv).drop (0 + 5 + 32) = [] from rfl, List.append_nil]
    rfl
  rw [hcp]; have s19 := s18.row (rqC ⟨kind, sq, nums, text, params, hash⟩ nv pv); generalize w18.setRow gx (rqC ⟨kind, sq, nums, text, params, hash⟩ nv pv).toArray = w19 at s19 ⊢; clear s18 hcp hhv; obtain ⟨sp19, cap19, hb19, -⟩ := s19.r.ex; simp only [List.length_nil] at hb19; have c1 : w19.cell? ⟨rb, 1, none⟩ = some (.bool false) := hb19.cell 1 (by simp); have c0 : w19.cell? ⟨rb, 0, none⟩ = some (.slice sp19 0 cap19) := hb19.cell 0 (by simp); have x0 : w19.cell? ⟨gx, 0, none⟩ = some (.int .i64 kind) := s19.x.cell 0 (by simp [rqC]); have hlen37 : (rqC ⟨kind, sq, nums, text, params, hash⟩ nv pv).length = 37 := by simp [rqC, hh]
  have hones : Ones (rqC ⟨kind, sq, nums, text, params, hash⟩ nv pv) := by
    intro u hu; unfold rqC at hu; simp only [List.mem_cons, List.mem_map] at hu; rcases hu with rfl | rfl | rfl | rfl | rfl | ⟨a, -, rfl⟩ <;> first | rfl | assumption
  have T19 := T1.below s19.below T1.lt; refine K.kgl ?_; refine WL.loadMid rfl rfl rfl rfl rfl rfl (VBlk.rangeAt s19.x) hlen37 ?_; refine WL.storeRow rfl rfl rfl rfl rfl rfl T19 hlen37 (by rfl) hones ?_; have hset : Keep (fun b => b ≠ g1) w19 (w19.setRow g1 (rqC ⟨kind, sq, nums, text, params, hash⟩ nv pv).toArray) := Keep.setRow (Keep.refl _ w19) (fun hk => hk rfl) _; have hkw : Below w.heap.size w (w19.setRow g1 (rqC ⟨kind, sq, nums, text, params, hash⟩ nv pv).toArray) := below_setRow (hB1.trans (s19.below.mono hB1.size)) (by omega) _; have T20 := T19.setRow (rqC ⟨kind, sq, nums, text, params, hash⟩ nv pv); have hN := s19.n.keep (P' := intP) (O' := fun _ => True) hset (fun g hg => by have := s19.n.own hg; omega) (fun _ _ => trivial) fun _ _ h => h; obtain ⟨q2, hV, hq2⟩ := s19.v; have hV2 := hV.keep (P' := IsVo q2 17 (w19.setRow g1 (rqC ⟨kind, sq, nums, text, params, hash⟩ nv pv).toArray)) (O' := fun _ => True) hset (fun g hg => by have := hV.own hg; omega) (fun _ _ => trivial) fun y cs hy => hy.keep hset (fun b hb _ => by have := (hq2 b hb).1; omega) fun b hb => hb; generalize w19.setRow g1 (rqC ⟨kind, sq, nums, text, params, hash⟩ nv pv).toArray = w20 at hkw T20 hN hV2 ⊢; refine K.kgo ?_; exact WQ.retCTw rfl rfl rfl rfl hlen37 T20 ⟨nv, pv, rfl, hkw, intP_sl hN.els, elsV hV2.els⟩
end K
end Go.Proofs.Ytdkkaliiofcflaa

namespace Go.Proofs.Ytdkkaliiofcflaa
open Go.RowKit
namespace K
def stepN : Nat → BitVec 32 → BitVec 32
  | 0, c => c
  | j + 1, c => stepN j (Crc.step c)
theorem and1_32 (c : BitVec 32) : bits .and .u32 (c.toNat : Int) 1 = ((c.toNat % 2 : Nat) : Int) := by
  have h := c.isLt; have := Go.bits_mask .u32 32 (by decide) (fun n h0 h1 => by rw [IntKind.wrap_u32]; omega) 1 (by decide) (c.toNat : Int) (by omega) (by omega); rw [show ((2 : Int) ^ 1 - 1) = 1 by decide, show ((2 : Int) ^ 1) = 2 by decide] at this; omega
theorem shr1_32 (c : BitVec 32) : (c.toNat : Int) / ((2 ^ min 1 IntKind.u32.bits : Nat) : Int) = ((c >>> 1).toNat : Int) := by
  rw [show ((2 ^ min 1 IntKind.u32.bits : Nat) : Int) = 2 from rfl, BitVec.toNat_ushiftRight, Nat.shiftRight_eq_div_pow]; omega
theorem low_bit (c : BitVec 32) : c.getLsbD 0 = decide (c.toNat % 2 = 1) := by
  rw [BitVec.getLsbD, Nat.testBit_zero]
theorem step_odd (c : BitVec 32) (h : c.toNat % 2 = 1) : bits .xor .u32 ((c.toNat : Int) / ((2 ^ min 1 IntKind.u32.bits : Nat) : Int)) 3988292384 = ((Crc.step c).toNat : Int) := by
  rw [shr1_32, xor32]; unfold Crc.step; rw [low_bit, decide_eq_true h, if_pos rfl]
  rfl
theorem step_ev (c : BitVec 32) (h : ¬ c.toNat % 2 = 1) : (c.toNat : Int) / ((2 ^ min 1 IntKind.u32.bits : Nat) : Int) = ((Crc.step c).toNat : Int) := by
  rw [shr1_32, Crc.step_even c (by rw [low_bit, decide_eq_false h])]
theorem rsum_any {w : World} {v : Value} {l : List Int} (hv : Sl .u8 w v l) (hb : ∀ c ∈ l, 0 ≤ c ∧ c ≤ 255) (hl : l.length ≤ 140737488355328) :
    Calls Try.prog 54 #[v] w fun e w' => e = .returned (.int .u32 (Crc.crcN l : Nat)) ∧ w' = w := by
  obtain ⟨sp, cap, rfl, -⟩ := id hv; refine enter (args := [.slice sp l.length cap]) Try.func54 rfl Try.ntmps54 rfl ?_; refine K.kgo ?_; refine WC.loop (fun i : Nat × BitVec 32 => [(0, .slice sp l.length cap), (3, .int .u32 (i.2.toNat : Int)), (4, .int .i64 i.1)])
    (fun i w' => i.1 ≤ l.length ∧ i.2 = Crc.run 0xffffffff#32 (l.take i.1) ∧ w' = w) (fun i => l.length - i.1) (0, 0xffffffff#32) ⟨rfl, rfl, rfl, trivial⟩ ⟨Nat.zero_le _, rfl, rfl⟩ ?_
  rintro ⟨i, c⟩ _ ⟨hi, hc, rfl⟩; simp only at hi hc ⊢
  by_cases h : i < l.length
  · have hbc := hb (nth l i) (nth_mem' l i h)
    have hu : IntKind.u32.wrap (nth l i) = nth l i := by rw [IntKind.wrap_u32]; omega
    refine K.kgo ?_; refine WL.idxI i rfl rfl rfl rfl rfl rfl hv rfl rfl h fun p hp => ?_; refine K.kgl ?_; have e1 : bits .xor .u32 (c.toNat : Int) (IntKind.u32.wrap (nth l i)) = ((c ^^^ BitVec.ofInt 32 (nth l i)).toNat : Int) := by rw [hu]; exact xor32 c _
    have hnext : Crc.run 0xffffffff#32 (l.take (i + 1)) = Crc.step8 (c ^^^ BitVec.ofInt 32 (nth l i)) := by
      rw [take_succ' l i h, Crc.run_app, ← hc]; rfl
    generalize hd : c ^^^ BitVec.ofInt 32 (nth l i) = d at e1 hnext; refine WC.loop (fun j : Nat × BitVec 32 => [(0, .slice sp l.length cap), (3, .int .u32 (j.2.toNat : Int)), (4, .int .i64 i), (5, .int .i64 j.1)])
      (fun j wx => j.1 ≤ 8 ∧ stepN (8 - j.1) j.2 = Crc.step8 d ∧ wx = _) (fun j => 8 - j.1) (0, d) ⟨rfl, congrArg (fun z => some (Value.int .u32 z)) e1, rfl, rfl, trivial⟩ ⟨Nat.zero_le _, rfl, rfl⟩ ?_
    rintro ⟨j, y⟩ _ ⟨hj, hy, rfl⟩; simp only at hj hy ⊢
    by_cases h8 : j < 8
    · rw [show 8 - j = (8 - (j + 1)) + 1 by omega] at hy
      have hy' : stepN (8 - (j + 1)) (Crc.step y) = Crc.step8 d := hy; have ha := and1_32 y
      by_cases h2 : y.toNat % 2 = 1
      · have ht : bits .and .u32 (y.toNat : Int) 1 = 1 := by omega
        refine K.kgo ?_; exact WQ.again (j + 1, Crc.step y) ⟨rfl, congrArg (fun z => some (Value.int .u32 z)) (step_odd y h2), rfl, rfl, trivial⟩ ⟨by show j + 1 ≤ 8; omega, hy', rfl⟩ (by show 8 - (j + 1) < 8 - j; omega)
      · have ht : bits .and .u32 (y.toNat : Int) 1 ≠ 1 := by omega
        refine K.kgo ?_; exact WQ.again (j + 1, Crc.step y) ⟨rfl, congrArg (fun z => some (Value.int .u32 z)) (step_ev y h2), rfl, rfl, trivial⟩ ⟨by show j + 1 ≤ 8; omega, hy', rfl⟩ (by show 8 - (j + 1) < 8 - j; omega)
    · obtain rfl : j = 8 := by omega
      have hy' : y = Crc.step8 d := hy; refine K.kgo ?_; exact WQ.again (i + 1, y) ⟨rfl, rfl, rfl, trivial⟩ ⟨by show i + 1 ≤ l.length; omega, hy'.trans hnext.symm, rfl⟩ (by show l.length - (i + 1) < l.length - i; omega)
  · have hfin : bits .xor .u32 (if IntKind.u32.signed = true then -1 else IntKind.u32.max) (c.toNat : Int) = ((Crc.crcN l : Nat) : Int) := by
      rw [List.take_of_length_le (by omega)] at hc
      show bits .xor .u32 4294967295 (c.toNat : Int) = ((Crc.sum l).toNat : Int)
      have := xor32 0xffffffff#32 (c.toNat : Int); rw [show (((0xffffffff#32).toNat : Nat) : Int) = 4294967295 from rfl] at this; rw [this, BitVec.ofInt_natCast, BitVec.ofNat_toNat, BitVec.setWidth_eq]; unfold Crc.sum; rw [← hc, show (0xffffffff#32 : BitVec 32) = BitVec.allOnes 32 by decide, BitVec.allOnes_xor]
    refine K.kgo ?_; exact WQ.ret1 (v := .int .u32 (Crc.crcN l : Nat)) rfl (congrArg (fun z => some (Value.int .u32 z)) hfin) ⟨rfl, rfl⟩
end K
end Go.Proofs.Ytdkkaliiofcflaa

namespace Go.Proofs.Ytdkkaliiofcflaa
open Go.RowKit
namespace K

end K
end Go.Proofs.Ytdkkaliiofcflaa

namespace Go.Proofs.Ytdkkaliiofcflaa
open Go.RowKit
namespace K

end K
end Go.Proofs.Ytdkkaliiofcflaa

namespace Go.Proofs.Ytdkkaliiofcflaa
open Go.RowKit
namespace K

end K
end Go.Proofs.Ytdkkaliiofcflaa

namespace Go.Proofs.Ytdkkaliiofcflaa
open Go.RowKit
namespace K

end K
end Go.Proofs.Ytdkkaliiofcflaa

namespace Go.Proofs.Ytdkkaliiofcflaa
open Go.RowKit
namespace K
end K
end Go.Proofs.Ytdkkaliiofcflaa

namespace Go.Proofs.Ytdkkaliiofcflaa
open Go.RowKit
namespace K
def rpC (r : Rp) (nv pv dv : Value) : List Value := [.int .i64 r.seq, .int .i64 r.err, nv, pv, dv]
structure IsRp (f : Nat) (w : World) (r : Rp) (nv pv dv : Value) : Prop where
  nums : Sl .i64 w nv r.nums
  r64 : R64w r.nums
  rows : IsVs f w pv r.rows
  data : Sl .u8 w dv r.data
  byt : Frm.Byt r.data
set_option maxHeartbeats 2000000 in
theorem rpenc_any {f n : Nat} {w : World} {r : Rp} {nv pv dv : Value} (h : IsRp f w r nv pv dv) (hfew : Few f r.rows n) (hd : r.data.length ≤ 10000) :
    Calls Try.prog 14 #[.agg (rpC r nv pv dv).toArray] w (FrOut w (rpE r) (rpB r)) := by
  obtain ⟨⟨seq, err, nums, rows, data⟩, rfl⟩ : ∃ r', r = r' := ⟨r, rfl⟩; obtain ⟨hnums, h64, hpar, hdat, hdb⟩ := h; simp only at hnums h64 hpar hdat hdb hfew hd; obtain ⟨sn, cn, rfl, -⟩ := id hnums; obtain ⟨sp, cp, rfl, -⟩ := id hpar; obtain ⟨sd, cd, rfl, -⟩ := id hdat; have hfl := hfew.len; refine enter (args := [.agg (rpC ⟨seq, err, nums, rows, data⟩ (.slice sn nums.length cn) (.slice sp rows.length cp) (.slice sd data.length cd)).toArray]) Try.func14 rfl Try.ntmps14 rfl ?_; generalize hr : (⟨seq, err, nums, rows, data⟩ : Rp) = r; have hcells : rpC r (.slice sn nums.length cn) (.slice sp rows.length cp) (.slice sd data.length cd) = [.int .i64 seq, .int .i64 err, .slice sn nums.length cn, .slice sp rows.length cp, .slice sd data.length cd] := by rw [← hr]; rfl
  rw [hcells]; refine K.kgn ?_; refine WL.box rfl rfl rfl rfl rfl fun g w1 hf0 => ?_; have hf : Fresh w g w1 45 [.int .i64 seq, .int .i64 err, .slice sn nums.length cn, .slice sp rows.length cp, .slice sd data.length cd] := hf0; clear hf0; have hB := hf.below; have T1 := hf.blk; clear hf; have cell : ∀ {wx : World}, VBlk 45 wx g [.int .i64 seq, .int .i64 err, .slice sn nums.length cn, .slice sp rows.length cp, .slice sd data.length cd] → wx.cell? ⟨g, 0, none⟩ = some (.int .i64 seq) ∧ wx.cell? ⟨g, 1, none⟩ = some (.int .i64 err) ∧ wx.cell? ⟨g, 2, none⟩ = some (.slice sn nums.length cn) ∧ wx.cell? ⟨g, 3, none⟩ = some (.slice sp rows.length cp) ∧ wx.cell? ⟨g, 4, none⟩ = some (.slice sd data.length cd) := fun h =>
    ⟨h.cell 0 (by simp), h.cell 1 (by simp), h.cell 2 (by simp), h.cell 3 (by simp), h.cell 4 (by simp)⟩
  obtain ⟨c0, c1, c2, c3, c4⟩ := cell T1; have bad1 : (err < 0 ∨ 100 < err ∨ seq < 0 ∨ 9007199254740992 < seq ∨ 8 < nums.length) → rpE r = 1 := fun h => by rw [← hr]; unfold rpE; rw [if_pos h]
  by_cases h1 : err < 0
  · refine K.kgl ?_
    exact WQ.ret2 rfl rfl rfl (FrOut.bad (bad1 (.inl h1)) (by decide) hB)
  by_cases h2 : 100 < err
  · refine K.kgl ?_
    exact WQ.ret2 rfl rfl rfl (FrOut.bad (bad1 (.inr (.inl h2))) (by decide) hB)
  by_cases h3 : seq < 0
  · refine K.kgl ?_
    exact WQ.ret2 rfl rfl rfl (FrOut.bad (bad1 (.inr (.inr (.inl h3)))) (by decide) hB)
  by_cases h4 : 9007199254740992 < seq
  · refine K.kgl ?_
    exact WQ.ret2 rfl rfl rfl (FrOut.bad (bad1 (.inr (.inr (.inr (.inl h4))))) (by decide) hB)
  by_cases h8 : 8 < nums.length
  · refine K.kgl ?_
    exact WQ.ret2 rfl rfl rfl (FrOut.bad (bad1 (.inr (.inr (.inr (.inr h8))))) (by decide) hB)
  clear bad1; have hno : ¬ (err < 0 ∨ 100 < err ∨ seq < 0 ∨ 9007199254740992 < seq ∨ 8 < nums.length) := by omega
  have he : rpE r = vlE rows := by rw [← hr]; unfold rpE; rw [if_neg hno, if_neg (show ¬ 4096 < rows.length by omega)]
  refine K.kgl ?_; have hw8 : IntKind.u8.wrap err = err := by rw [IntKind.wrap_u8]; omega
  obtain ⟨sq, rfl⟩ : ∃ n : Nat, seq = (n : Int) := ⟨seq.toNat, by omega⟩; have hhl := headB_len 82 err sq nums (by omega); clear c0 c1 c2 c3 c4; refine WC.drawn 10 (fun wx => VBlk 45 wx g [.int .i64 sq, .int .i64 err, .slice sn nums.length cn, .slice sp rows.length cp, .slice sd data.length cd]) fun w2 hdr => ?_; have k2 : Below w1.heap.size w1 w2 := hdr.below _; have hS := T1.below k2 T1.lt; clear hdr; refine K.fr [0, 3, 5, 8] hS ?_; refine K.wl 1 [2, 7, 10, 11, 12, 13, 14, 15] rfl rfl rfl rfl rfl rfl rfl (fun wx hx => (cell hx).2.1) hS ?_; refine K.wl 4 [7, 10, 11, 12, 13, 14, 15] rfl rfl rfl rfl rfl rfl rfl (fun wx hx => (cell hx).1) hS ?_; refine K.wl 6 [7, 10, 11, 12, 13, 14, 15] rfl rfl rfl rfl rfl rfl rfl (fun wx hx => (cell hx).2.2.1) hS ?_; refine K.wl 9 [10, 11, 12, 13, 14, 15] rfl rfl rfl rfl rfl rfl rfl (fun wx hx => (cell hx).2.2.2.1) hS ?_; refine K.fr [2] hS ?_; refine K.wo 7 ?_; refine WL.as 39 (.int .u8 err) rfl (congrArg (Value.int .u8) hw8) ?_; refine WL.call rfl rfl rfl rfl rfl Try.func22 rfl (by kernel_rfl) (whead_any 82 err sq (by omega) ((hnums.of_below hB).of_below k2) h64 (by omega)) ?_; rintro _ w3 ⟨b3, rfl, q3, k3, o3⟩; refine ⟨_, rfl, ?_⟩; have ap3 : Apart w1 w3 b3 := ⟨k2.trans (k3.mono k2.size), fun x hx => Nat.le_trans k2.size (o3 x hx)⟩; replace hS := T1.below ap3.below T1.lt; refine K.di hS ?_; refine K.wo 10 ?_; refine WL.call rfl rfl rfl rfl rfl Try.func23 rfl (by kernel_rfl) (wvalues_any (hpar.below hB) hfew ap3 q3 (by omega)) ?_; rintro _ w6 ⟨b6, rfl, ap6, q6⟩; refine ⟨_, rfl, ?_⟩; have T6 := T1.below ap6.below T1.lt; refine K.dl ?_
  (refine K.fzl 11 rfl (q := ?_); refine K.fzl 12 rfl (q := ?_); refine K.fzl 13 rfl (q := ?_); refine K.fzl 14 rfl (q := ?_); refine K.fzl 15 rfl (q := ?_))
  refine WD.done (by kernel_rfl) ?_; have hw6 : Below w.heap.size w w6 := hB.trans (ap6.below.mono hB.size)
  by_cases hv : vlE rows ≠ 0
  · refine K.kgo ?_
    exact WQ.ret2 rfl rfl rfl (FrOut.bad he hv hw6)
  replace hv : vlE rows = 0 := by omega
  rw [if_pos hv] at q6; rw [hv]; have hvl := valsB_len hfew hv; have hvb := valsB_byt (vlE_mem hv); have hul := uvB_lenw data.length; refine K.kgo ?_; refine WC.drawn 7 (fun wx => VBlk 45 wx g [.int .i64 sq, .int .i64 err, .slice sn nums.length cn, .slice sp rows.length cp, .slice sd data.length cd]) fun w7 hdr => ?_; have k7 : Below w6.heap.size w6 w7 := hdr.below _; have hS := T6.below k7 T6.lt; have q7 := q6.below k7; have ap7 : Apart w1 w7 b6 := ap6.grow ((Grow.refl w6 b6).below k7); clear hdr; refine K.fr [0, 1, 5] hS ?_; refine K.wl 2 [3, 4, 7, 8, 9, 10, 11, 12] rfl rfl rfl rfl rfl rfl rfl (fun wx hx => (cell hx).2.2.2.2) hS ?_; refine K.wl 6 [7, 8, 9, 10, 11, 12] rfl rfl rfl rfl rfl rfl rfl (fun wx hx => (cell hx).2.2.2.2) hS ?_; refine K.fr [3] hS ?_; refine K.wo 4 ?_; refine WL.call rfl rfl rfl rfl rfl Try.func24 rfl (by kernel_rfl) (wcount_any q7 data.length (by omega) (by rw [List.length_append]; omega)) ?_; rintro _ w8 ⟨b8, rfl, q8, g8⟩; refine ⟨_, rfl, ?_⟩; have ap8 := ap7.grow g8; replace hS := T1.below ap8.below T1.lt; refine K.di hS ?_; refine K.wo 7 ?_; refine WL.app rfl rfl rfl rfl rfl q8 rfl ((hdat.of_below hB).of_below ap8.below) (by simp only [List.length_append]; omega) fun b9 w9 q9 g9 => ?_; have ap9 := ap8.grow g9; have hall : headB 82 err sq nums ++ valsB rows ++ uvB data.length ++ data = rpB r := by rw [← hr]; unfold rpB; simp [List.append_assoc]
  have hbytes : Frm.Byt (rpB r) := by
    rw [← hall]; intro c hc; simp only [List.mem_append] at hc; rcases hc with ((h | h) | h) | h
    · exact headB_byt (by omega) (by omega) _ _ c h
    · exact hvb c h
    · exact uvB_bytw _ c h
    · exact hdb c h
  have hlen : (rpB r).length ≤ 300000 := by rw [← hall]; simp only [List.length_append]; omega
  rw [hall] at q9; refine K.dl ?_; refine K.wo 8 ?_; refine WL.call rfl rfl rfl rfl rfl Try.func25 rfl (by kernel_rfl) (fenc_any q9.sl hbytes (by omega)) ?_; rintro _ w10 ⟨b10, rfl, q10, k10, o10⟩; refine ⟨_, rfl, ?_⟩; have hw9 : Below w.heap.size w w9 := hB.trans (ap9.below.mono hB.size); rw [if_neg (by omega)] at q10; rw [if_neg (by omega)]; refine K.dl ?_
  (refine K.fzl 9 rfl (q := ?_); refine K.fzl 10 rfl (q := ?_); refine K.fzl 11 rfl (q := ?_); refine K.fzl 12 rfl (q := ?_))
  refine WD.done (by kernel_rfl) ?_; refine K.kgo ?_; refine WQ.ret2 rfl rfl rfl ⟨b10, ?_, ⟨hw9.trans (k10.mono hw9.size), fun x hx => Nat.le_trans hw9.size (o10 x hx)⟩, ?_⟩
  · rw [he, hv]; rfl
  · rw [if_pos (by rw [he, hv])]; exact q10
end K
end Go.Proofs.Ytdkkaliiofcflaa

namespace Go.Proofs.Ytdkkaliiofcflaa
open Go.RowKit
namespace K
structure RpOk (r : Rp) : Prop where
  err : 0 ≤ r.err ∧ r.err ≤ 100
  seq : 0 ≤ r.seq ∧ r.seq ≤ 9007199254740992
  nums : r.nums.length ≤ 8
  r64 : R64w r.nums
  rows : r.rows.length ≤ 4096
  backs : Backs r.rows
  data : r.data.length ≤ 524288
  dbyt : Frm.Byt r.data
  byt : Frm.Byt (rpB r)
  len : (rpB r).length ≤ 524288
def RpDec (w : World) (r : Rp) : Ending → World → Prop := fun e w' => ∃ nv pv dv, e = .returned (.tuple #[.agg (rpC r nv pv dv).toArray, .int .i64 0]) ∧ Below w.heap.size w w' ∧ Sl .i64 w' nv r.nums ∧ IsVs 17 w' pv r.rows ∧ Sl .u8 w' dv r.data
abbrev zRep : List Value := [.int .i64 0, .int .i64 0, .slice none 0 0, .slice none 0 0, .slice none 0 0]
set_option maxHeartbeats 4000000 in
theorem wdecR_ok {w : World} {v : Value} {r : Rp} (h : RpOk r) (hv : Sl .u8 w v (Frm.frameL (rpB r))) : Calls Try.prog 17 #[v] w (RpDec w r) := by
  obtain ⟨seq, err, nums, rows, data⟩ := r; obtain ⟨hk, hs, hn8, h64, hr4, hbk, hdl, hdb, hby, hlen⟩ := h; simp only at hk hs hn8 h64 hr4 hbk hdl hdb; obtain ⟨sq, rfl⟩ : ∃ n : Nat, seq = (n : Int) := ⟨seq.toNat, by omega⟩; have hall : rpB ⟨sq, err, nums, rows, data⟩ = 82 :: err :: (uvB sq ++ (uvB nums.length ++ (nmB nums ++ (uvB rows.length ++ (vlB rows ++ (uvB data.length ++ (data ++ []))))))) := by
    unfold rpB headB valsB; simp [List.append_assoc]
  refine enter (args := [v]) Try.func17 rfl Try.ntmps17 rfl ?_; refine K.kgn ?_; refine WL.alloc (z := .agg zRep.toArray) rfl rfl rfl rfl (fun _ => by kernel_rfl) fun g1 w1 hf0 => ?_; have hf1 : Fresh w g1 w1 45 zRep := hf0; clear hf0; have hB1 := hf1.below; have hg1 := hf1.eq; have hz1 := hf1.size; have T1 := hf1.blk; clear hf1; refine K.kgo ?_; refine WL.call rfl rfl rfl rfl rfl Try.func30 rfl (by kernel_rfl) (wopen_ok (hv.of_below hB1) hby hlen) ?_; rintro _ w2 ⟨rb, rfl, hr2, k2, hrb⟩; refine ⟨_, rfl, ?_⟩; rw [hall] at hr2; clear hall hby hlen hv; have T2 := T1.below k2 T1.lt; have hz2 := k2.size; refine K.kgo ?_; refine WL.alloc (z := .agg zRep.toArray) rfl rfl rfl rfl (fun _ => by kernel_rfl) fun gx w3 hf0 => ?_; have hf3 : Fresh w2 gx w3 45 zRep := hf0; clear hf0; have hgx := hf3.eq; have hz3 := hf3.size; have s3 : DSt 45 w2.heap.size rb gx w3.heap.size w1 w3 _ zRep (.slice none 0 0) [] (.slice none 0 0) [] :=
    ⟨hr2.keep (Keep.of_below hf3.below) fun b hb => hb, by omega, by omega, Nat.le_refl _, hrb, hf3.blk, OwnE.nil _ _ _ _ _ _, ⟨fun _ => False, OwnE.nil _ _ _ _ _ _, fun b hb => hb.elim⟩, k2.trans (hf3.below.mono hz2)⟩
  clear hf3 hr2; have hrg := s3.rg; refine K.kgo ?_; refine WL.call rfl rfl rfl rfl rfl Try.func31 rfl (by kernel_rfl) (wbyte_any s3.r) ?_; rintro _ w4 ⟨rfl, hr4, k4⟩; refine ⟨_, rfl, ?_⟩; have s4 := s3.call hr4 k4; clear s3 hr4 k4; obtain ⟨sp4, cap4, hb4, -⟩ := s4.r.ex; refine K.kgo ?_; refine WL.load rfl rfl rfl rfl rfl rfl (hb4.cell 1 (by simp)) ?_; refine WL.as 24 (.bool false) rfl rfl ?_; refine K.kgo ?_; refine WL.store rfl rfl rfl rfl rfl rfl (by kernel_rfl) (hb4.cell 1 (by simp)) (hb4.free 1) ?_; have s5 := s4.bad; generalize w4.setCell ⟨rb, 1, none⟩ (.bool false) = w5 at s5 ⊢; clear s4 hb4; refine K.kgo ?_; refine WL.call rfl rfl rfl rfl rfl Try.func31 rfl (by kernel_rfl) (wbyte_any s5.r) ?_; rintro _ w6 ⟨rfl, hr6, k6⟩; refine ⟨_, rfl, ?_⟩; have s6 := s5.call hr6 k6; clear s5 hr6 k6; refine K.kgo ?_; refine WL.store rfl rfl rfl rfl rfl rfl (by kernel_rfl) (s6.x.cell 1 (by simp)) (s6.x.free 1) ?_; have s7 := s6.put 1 (.int .i64 err); generalize w6.setCell ⟨gx, 1, none⟩ (.int .i64 err) = w7 at s7 ⊢; clear s6; refine K.kgo ?_; refine WL.call rfl rfl rfl rfl rfl Try.func32 rfl (by kernel_rfl) (wupTo_any (most := 9007199254740992) s7.r (by omega) (by omega)) ?_; rintro _ w8 ⟨rfl, hr8, k8⟩; refine ⟨_, rfl, ?_⟩; have s8 := s7.call hr8 k8; clear s7 hr8 k8; refine K.kgo ?_; refine WL.store rfl rfl rfl rfl rfl rfl (by kernel_rfl) (s8.x.cell 0 (by simp)) (s8.x.free 0) ?_; have s9 := s8.put 0 (.int .i64 sq); generalize w8.setCell ⟨gx, 0, none⟩ (.int .i64 sq) = w9 at s9 ⊢; clear s8; refine K.kgo ?_; refine WL.call rfl rfl rfl rfl rfl Try.func33 rfl (by kernel_rfl) (wnums_any s9.r (by have := s9.hs; omega) hn8 h64) ?_; rintro _ w10 ⟨nv, rfl, hN, hr10, k10⟩; refine ⟨_, rfl, ?_⟩; have s10' := s9.call hr10 k10; have s10 : DSt 45 w2.heap.size rb gx w3.heap.size w1 w10 _ ((zRep.set 1 (.int .i64 err)).set 0 (.int .i64 sq)) nv nums (.slice none 0 0) [] :=
    { s10' with n := hN.keep (Keep.refl (fun _ => True) w10) (fun _ _ => trivial) (fun b hb => by have := s9.hs; omega) fun _ _ h => h }
  have hnv := hN.one; clear s9 s10' hr10 k10 hN; refine K.kgo ?_; refine WL.store rfl rfl rfl rfl rfl hnv (by kernel_rfl) (s10.x.cell 2 (by simp)) (s10.x.free 2) ?_; have s11 := s10.put 2 nv; generalize w10.setCell ⟨gx, 2, none⟩ nv = w11 at s11 ⊢; clear s10; refine K.kgo ?_; refine WL.call rfl rfl rfl rfl rfl Try.func35 rfl (by kernel_rfl) (wreadvals_any (most := 4096) s11.r (by have := s11.hs; omega) hr4 (by omega) hbk) ?_; rintro _ w15 ⟨pv, rfl, hV, hr15, k15⟩; refine ⟨_, rfl, ?_⟩; have s15' := s11.call hr15 k15; obtain ⟨q, hV, hq⟩ := hV; have hpv := hV.one; have s15 : DSt 45 w2.heap.size rb gx w3.heap.size w1 w15 _ (((zRep.set 1 (.int .i64 err)).set 0 (.int .i64 sq)).set 2 nv) nv nums pv rows :=
    { s15' with v := ⟨q, hV.keep (Keep.refl (fun _ => True) w15) (fun _ _ => trivial) (fun b hb => by have := s11.hs; omega) fun _ _ h => h, fun b hb => ⟨by have := (hq b hb).1; have := s11.hs; omega, (hq b hb).2⟩⟩ }
  clear s11 s15' hr15 k15 hV hq; refine K.kgo ?_; refine WL.store rfl rfl rfl rfl rfl hpv (by kernel_rfl) (s15.x.cell 3 (by simp)) (s15.x.free 3) ?_; have s16 := s15.put 3 pv; generalize w15.setCell ⟨gx, 3, none⟩ pv = w16 at s16 ⊢; clear s15; refine K.kgo ?_; refine WL.call rfl rfl rfl rfl rfl Try.func32 rfl (by kernel_rfl) (wupTo_any (most := 524288) s16.r (by omega) (by omega)) ?_; rintro _ w17 ⟨rfl, hr17, k17⟩; refine ⟨_, rfl, ?_⟩; have s17 := s16.call hr17 k17; clear s16 hr17 k17; refine WL.call rfl rfl rfl rfl rfl Try.func34 rfl (by kernel_rfl) (wtake_any (k := data.length) (A := data) s17.r rfl (by omega)) ?_; rintro _ w18 ⟨tv, rfl, htv, hr18, k18⟩; refine ⟨_, rfl, ?_⟩; have s18 := s17.call hr18 k18; clear s17 hr18 k18; refine WL.app rfl rfl rfl rfl rfl (Bu.nil w18) rfl htv.sl (by simp only [List.length_nil]; omega) fun dv w19 hdv hgd => ?_; rw [List.nil_append] at hdv; have kd : Below w18.heap.size w18 w19 := hgd.old (Nat.le_refl _) (fun g h => by cases h); have hod : ∀ g, dv.ownBlock = some g → w18.heap.size ≤ g := fun g h => hgd.own (Nat.le_refl _) (fun g h => by cases h) g h; have hs18 := s18.hs; have s19 := s18.down kd; have hdv1 := hdv.cell1; clear s18 htv hgd kd; have hgg := s19.hg; refine K.kgo ?_; refine WL.store rfl rfl rfl rfl rfl hdv1 (by kernel_rfl) (s19.x.cell 4 (by simp)) (s19.x.free 4) ?_; have s20 := s19.put 4 dv; have hk19 : Keep (fun b => b ≠ gx) w19 (w19.setCell ⟨gx, 4, none⟩ dv) := (Keep.refl _ w19).setCell (fun hk => hk rfl) _; have hdv2 := hdv.keep hk19 (fun g h => by have := hod g h; omega); clear hk19; generalize w19.setCell ⟨gx, 4, none⟩ dv = w20 at s20 hdv2 ⊢; clear s19 hdv; have hcp : (((((zRep.set 1 (.int .i64 err)).set 0 (.int .i64 sq)).set 2 nv).set 3 pv).set 4 dv) = rpC ⟨sq, err, nums, rows, data⟩ nv pv dv := rfl; rw [hcp] at s20; obtain ⟨sp20, cap20, hb20, -⟩ := s20.r.ex; simp only [List.length_nil] at hb20; have c1 : w20.cell? ⟨rb, 1, none⟩ = some (.bool false) := hb20.cell 1 (by simp); have c0 : w20.cell? ⟨rb, 0, none⟩ = some (.slice sp20 0 cap20) := hb20.cell 0 (by simp); have x1 : w20.cell? ⟨gx, 1, none⟩ = some (.int .i64 err) := s20.x.cell 1 (by simp [rpC]); have hones : Ones (rpC ⟨sq, err, nums, rows, data⟩ nv pv dv) := by
    intro u hu; unfold rpC at hu; simp only [List.mem_cons, List.not_mem_nil, or_false] at hu; rcases hu with rfl | rfl | rfl | rfl | rfl <;> first | rfl | assumption
  have T20 := T1.below s20.below T1.lt; refine K.kgl ?_; refine WL.loadMid rfl rfl rfl rfl rfl rfl (VBlk.rangeAt s20.x) rfl ?_; refine WL.storeRow rfl rfl rfl rfl rfl rfl T20 rfl (by rfl) hones ?_; have hset : Keep (fun b => b ≠ g1) w20 (w20.setRow g1 (rpC ⟨sq, err, nums, rows, data⟩ nv pv dv).toArray) := Keep.setRow (Keep.refl _ w20) (fun hk => hk rfl) _; have hkw : Below w.heap.size w (w20.setRow g1 (rpC ⟨sq, err, nums, rows, data⟩ nv pv dv).toArray) := below_setRow (hB1.trans (s20.below.mono hB1.size)) (by omega) _; have T21 := T20.setRow (rpC ⟨sq, err, nums, rows, data⟩ nv pv dv); have hN := s20.n.keep (P' := intP) (O' := fun _ => True) hset (fun g hg => by have := s20.n.own hg; omega) (fun _ _ => trivial) fun _ _ h => h; have hD := hdv2.keep hset (fun g h => by have := hod g h; omega); obtain ⟨q2, hV, hq2⟩ := s20.v; have hV2 := hV.keep (P' := IsVo q2 17 (w20.setRow g1 (rpC ⟨sq, err, nums, rows, data⟩ nv pv dv).toArray)) (O' := fun _ => True) hset (fun g hg => by have := hV.own hg; omega) (fun _ _ => trivial) fun y cs hy => hy.keep hset (fun b hb _ => by have := (hq2 b hb).1; omega) fun b hb => hb; generalize w20.setRow g1 (rpC ⟨sq, err, nums, rows, data⟩ nv pv dv).toArray = w21 at hkw T21 hN hV2 hD ⊢; refine K.kgo ?_; exact WQ.retCTw rfl rfl rfl rfl rfl T21 ⟨nv, pv, dv, rfl, hkw, intP_sl hN.els, elsV hV2.els, hD.sl⟩
end K
end Go.Proofs.Ytdkkaliiofcflaa

namespace Go.Proofs.Ytdkkaliiofcflaa
open Go.RowKit
namespace K
def qK (m : Int) (o : Ro) : Ro := if (qB o).1 = m then (qB o).2 else none
def qE (vs : Option (List V × List Int)) : Ro := match vs with | some (_, r) => some r | none => none
theorem qB_rng {o : Ro} (h : ∀ l, o = some l → Byt l) : 0 ≤ (qB o).1 ∧ (qB o).1 ≤ 255 := by
  have hb := (qT_byt (n := 1) h).1
  show 0 ≤ nth (qT 1 o).1 0 ∧ nth (qT 1 o).1 0 ≤ 255
  cases hq : (qT 1 o).1 with
  | nil => exact ⟨Int.le_refl 0, by show (0 : Int) ≤ 255; omega⟩
  | cons a r => rw [hq] at hb; exact hb a (by simp)
theorem qK_M {m : Int} (hm : m ≠ 0) (P : List Int) : (qB (qK m (some P))).2 = qM m P ∧ (qM m P ≠ none → (qB (qK m (some P))).1 = nth P 1) := by
  match P with
  | [] =>
    have e : qK m (some []) = none := if_neg (fun h => hm h.symm); rw [e]; exact ⟨rfl, fun h => absurd rfl h⟩
  | [a] =>
    have e : qM m [a] = none := rfl; refine ⟨?_, fun h => absurd e h⟩; rw [e]; unfold qK
    split <;> rfl
  | a :: b :: r =>
    by_cases ha : a = m
    · have e : qK m (some (a :: b :: r)) = some (b :: r) := if_pos ha
      have e2 : qM m (a :: b :: r) = some r := if_pos ha; rw [e, e2]; exact ⟨rfl, fun _ => rfl⟩
    · have e : qK m (some (a :: b :: r)) = none := if_neg ha
      have e2 : qM m (a :: b :: r) = none := if_neg ha; rw [e, e2]; exact ⟨rfl, fun h => absurd rfl h⟩
theorem rq_bad {P : List Int} (h : rdRq P = none) {o3 : Ro} {k : Int} (h3 : o3 = (qB (qK 81 (some P))).2) (hk : k = (qB (qK 81 (some P))).1) :
    (qT 32 (qE (qVals 40 (qT (qUp 4096 (qNums (qUp 9007199254740992 o3).2).2).1 (qUp 4096 (qNums (qUp 9007199254740992 o3).2).2).2).2))).2 = none ∨
    (∃ l, (qT 32 (qE (qVals 40 (qT (qUp 4096 (qNums (qUp 9007199254740992 o3).2).2).1 (qUp 4096 (qNums (qUp 9007199254740992 o3).2).2).2).2))).2 = some l ∧ 0 < l.length) ∨ k < 1 ∨ 20 < k := by
  obtain ⟨e3, ek⟩ := qK_M (m := 81) (by omega) P; rw [← h3] at e3; rw [← hk, ← e3] at ek; unfold rdRq at h; rw [← e3] at h; cases h4 : qVals 40 (qT (qUp 4096 (qNums (qUp 9007199254740992 o3).2).2).1 (qUp 4096 (qNums (qUp 9007199254740992 o3).2).2).2).2 with
  | none => exact .inl rfl
  | some p =>
    obtain ⟨vs, r⟩ := p; have ho : o3 ≠ none := fun e => by
      rw [e, qUp_none, qNums_none, qUp_none] at h4; exact absurd h4 (by rw [show (qT 0 none).2 = none from rfl, qVals_none]; exact fun h => by cases h)
    rw [h4] at h; simp only at h
    show (qT 32 (some r)).2 = none ∨ (∃ l, (qT 32 (some r)).2 = some l ∧ 0 < l.length) ∨ k < 1 ∨ 20 < k
    by_cases hl : r.length < 32
    · exact .inl (by rw [show qT 32 (some r) = ([], none) from if_pos hl])
    · rw [show qT 32 (some r) = (r.take 32, some (r.drop 32)) from if_neg hl]
      by_cases hl2 : r.length = 32
      · split at h
        · cases h
        · rename_i hn
          rw [ek ho]; refine .inr (.inr ?_); omega
      · exact .inr (.inl ⟨_, rfl, by rw [List.length_drop]; omega⟩)
theorem rp_bad {P : List Int} (h : rdRp P = none) {o3 : Ro} {k : Int} (h3 : o3 = (qB (qK 82 (some P))).2) (hk : k = (qB (qK 82 (some P))).1) :
    (qT (qUp 524288 (qE (qVals 4096 (qNums (qUp 9007199254740992 o3).2).2))).1 (qUp 524288 (qE (qVals 4096 (qNums (qUp 9007199254740992 o3).2).2))).2).2 = none ∨
    (∃ l, (qT (qUp 524288 (qE (qVals 4096 (qNums (qUp 9007199254740992 o3).2).2))).1 (qUp 524288 (qE (qVals 4096 (qNums (qUp 9007199254740992 o3).2).2))).2).2 = some l ∧ 0 < l.length) ∨ 100 < k := by
  obtain ⟨e3, ek⟩ := qK_M (m := 82) (by omega) P; rw [← h3] at e3; rw [← hk, ← e3] at ek; unfold rdRp at h; rw [← e3] at h; cases h4 : qVals 4096 (qNums (qUp 9007199254740992 o3).2).2 with
  | none => exact .inl (by show (qT (qUp 524288 none).1 (qUp 524288 none).2).2 = none; rw [qUp_none]; rfl)
  | some p =>
    obtain ⟨vs, r⟩ := p; have ho : o3 ≠ none := fun e => by
      rw [e, qUp_none, qNums_none] at h4; exact absurd h4 (by rw [qVals_none]; exact fun h => by cases h)
    rw [h4] at h; simp only at h
    show (qT (qUp 524288 (some r)).1 (qUp 524288 (some r)).2).2 = none ∨ (∃ l, (qT (qUp 524288 (some r)).1 (qUp 524288 (some r)).2).2 = some l ∧ 0 < l.length) ∨ 100 < k
    rcases hT : qT (qUp 524288 (some r)).1 (qUp 524288 (some r)).2 with ⟨d, o⟩
    rw [hT] at h; cases o with
    | none => exact .inl rfl
    | some l =>
      cases l with
      | cons a l => exact .inr (.inl ⟨_, rfl, Nat.succ_pos _⟩)
      | nil =>
        simp only at h
        split at h
        · cases h
        · rename_i hn
          rw [ek ho]; exact .inr (.inr (by omega))
structure XSt (T B rb gx : Nat) (w0 w : World) (o : Ro) (cells : List Value) : Prop where
  r : WX B w rb o
  hBg : B ≤ gx
  hg : gx < w.heap.size
  w0r : w0.heap.size ≤ rb
  x : VBlk T w gx cells
  below : Below w0.heap.size w0 w
section
variable {T B rb gx : Nat} {w0 w w' : World} {o o' : Ro} {cells cells' : List Value}
theorem XSt.rg (s : XSt T B rb gx w0 w o cells) : rb < gx := Nat.lt_of_lt_of_le s.r.rlt s.hBg
theorem XSt.keep (s : XSt T B rb gx w0 w o cells) {K : Nat → Prop} (k : Keep K w w') (hK : ∀ b, b < w.heap.size → b ≠ rb → b ≠ gx → K b) (r' : WX B w' rb o') (x' : VBlk T w' gx cells') : XSt T B rb gx w0 w' o' cells' := by
  have h1 := s.rg; have h3 := s.w0r; have h4 := s.hg; exact ⟨r', s.hBg, Nat.lt_of_lt_of_le s.hg k.size, s.w0r, x', s.below.trans (Keep.below (k.mono fun b hb => hK b (by omega) (by omega) (by omega)))⟩
theorem XSt.call (s : XSt T B rb gx w0 w o cells) (r' : WX B w' rb o') (k : KeepR rb w w') : XSt T B rb gx w0 w' o' cells :=
  s.keep k (fun b h1 h2 _ => ⟨h1, h2⟩) r' (s.x.keep k ⟨s.x.lt, by have := s.rg; omega⟩)
theorem XSt.put (s : XSt T B rb gx w0 w o cells) (i : Nat) (u : Value) : XSt T B rb gx w0 (w.setCell ⟨gx, i, none⟩ u) o (cells.set i u) :=
  s.keep (K := fun b => b ≠ gx) ((Keep.refl _ w).setCell (fun hk => hk rfl) _) (fun b _ _ h => h) (s.r.keep (K := fun b => b ≠ gx) ((Keep.refl _ w).setCell (fun hk => hk rfl) _) fun b hb => by have := s.hBg; omega) (s.x.set i u)
theorem XSt.row (s : XSt T B rb gx w0 w o cells) (cs : List Value) : XSt T B rb gx w0 (w.setRow gx cs.toArray) o cs :=
  s.keep (K := fun b => b ≠ gx) (Keep.setRow (Keep.refl _ w) (fun hk => hk rfl) _) (fun b _ _ h => h) (s.r.keep (K := fun b => b ≠ gx) (Keep.setRow (Keep.refl _ w) (fun hk => hk rfl) _) fun b hb => by have := s.hBg; omega) (s.x.setRow cs)
theorem XSt.down (s : XSt T B rb gx w0 w o cells) (k : Below w.heap.size w w') : XSt T B rb gx w0 w' o cells :=
  s.keep (Keep.of_below k) (fun b h _ _ => h) (s.r.keep (Keep.of_below k) fun b hb => by have := s.hBg; have := s.hg; omega) (s.x.below k s.x.lt)
end
theorem ValsX.wx {B rb : Nat} {w w' : World} {v : Value} {x : Option (List V × List Int)} (h : ValsX B rb w v w' x) : WX B w' rb (qE x) := by
  cases x with
  | none => exact h
  | some p => exact h.2
theorem zRep_ones : Ones zRep := by
  intro u hu; simp only [zRep, List.mem_cons, List.not_mem_nil, or_false] at hu; rcases hu with rfl | rfl | rfl | rfl | rfl <;> rfl
set_option maxHeartbeats 4000000 in
theorem wdec_none {w : World} {v : Value} {P : List Int} (hv : Sl .u8 w v (Frm.frameL P)) (hby : Frm.Byt P) (hlen : P.length ≤ 524288) (hn : rdRq P = none) : Calls Try.prog 11 #[v] w fun e w' => e = .returned (.tuple #[.agg zReq.toArray, .int .i64 3]) ∧ Below w.heap.size w w' := by
  refine enter (args := [v]) Try.func11 rfl Try.ntmps11 rfl ?_; refine K.kgn ?_; refine WL.alloc (z := .agg zReq.toArray) rfl rfl rfl rfl (fun _ => by kernel_rfl) fun g1 w1 hf0 => ?_; have hf1 : Fresh w g1 w1 32 zReq := hf0; clear hf0; have hB1 := hf1.below; have hg1 := hf1.eq; have hz1 := hf1.size; have T1 := hf1.blk; clear hf1; refine K.kgo ?_; refine WL.call rfl rfl rfl rfl rfl Try.func30 rfl (by kernel_rfl) (wopen_ok (hv.of_below hB1) hby hlen) ?_; rintro _ w2 ⟨rb, rfl, hr2, k2, hrb⟩; refine ⟨_, rfl, ?_⟩; clear hby hlen hv; have hz2 := k2.size; refine K.kgo ?_; refine WL.alloc (z := .agg zReq.toArray) rfl rfl rfl rfl (fun _ => by kernel_rfl) fun gx w3 hf0 => ?_; have hf3 : Fresh w2 gx w3 32 zReq := hf0; clear hf0; have hgx := hf3.eq; have hz3 := hf3.size; have s3 : XSt 32 w2.heap.size rb gx w1 w3 (some P) zReq :=
    ⟨WX.keep (o := some P) hr2 (Keep.of_below hf3.below) fun b hb => hb, by omega, by omega, hrb, hf3.blk, k2.trans (hf3.below.mono hz2)⟩
  clear hf3 hr2 k2; have hrg := s3.rg; refine WL.nil ?_
  repeat (first | refine WC.seq ?_ | refine WQ.then rfl ?_)
  refine WC.mid (fun _ : Unit => [(2, .pointer (some ⟨g1, 0, none⟩)), (4, .pointer (some ⟨rb, 0, none⟩)), (6, .pointer (some ⟨gx, 0, none⟩))]) (fun _ w5 => XSt 32 w2.heap.size rb gx w1 w5 (qK 81 (some P)) zReq) rfl ?_ ?_
  · refine K.kgo ?_
    refine WL.call rfl rfl rfl rfl rfl Try.func31 rfl (by kernel_rfl) (byte_x s3.r) ?_; rintro _ w4 ⟨rfl, hr4, k4⟩; refine ⟨_, rfl, ?_⟩; have s4 := s3.call hr4 k4; clear s3 hr4 k4; obtain ⟨sp4, n4, cap4, hb4⟩ := s4.r.ex
    by_cases hc : (qB (some P)).1 = 81
    · have e5 : qK 81 (some P) = (qB (some P)).2 := if_pos hc
      obtain ⟨l4, h4l⟩ : ∃ l, (qB (some P)).2 = some l := by
        cases P with
        | nil => exact absurd hc (by decide)
        | cons a l => exact ⟨l, rfl⟩
      rw [e5]; clear e5; rw [h4l] at s4 hb4 ⊢; generalize (qB (some P)).1 = c at hc ⊢; refine K.kgo ?_; refine WL.load rfl rfl rfl rfl rfl rfl (hb4.cell 1 (by simp)) ?_; refine WL.as 24 (.bool false) rfl rfl ?_; refine K.kgo ?_; refine WL.store rfl rfl rfl rfl rfl rfl (by kernel_rfl) (hb4.cell 1 (by simp)) (hb4.free 1) ?_; exact WL.nil (WQ.meet () ⟨rfl, rfl, rfl, trivial⟩ (s4.call (WX.setF s4.r) (KeepR.set _ _ _ _)))
    · have e5 : qK 81 (some P) = none := if_neg hc
      rw [e5]; generalize (qB (some P)).1 = c at hc ⊢; refine K.kgo ?_; refine WL.store rfl rfl rfl rfl rfl rfl (by kernel_rfl) (hb4.cell 1 (by simp)) (hb4.free 1) ?_; exact WL.nil (WQ.meet () ⟨rfl, rfl, rfl, trivial⟩ (s4.call s4.r.setT (KeepR.set _ _ _ _)))
  rintro ⟨⟩ w5 s5; clear s3; have hbad := rq_bad hn rfl rfl; have hrng := qB_rng s5.r.byt; generalize qK 81 (some P) = o2 at s5 hbad hrng; refine K.kgo ?_; refine WL.call rfl rfl rfl rfl rfl Try.func31 rfl (by kernel_rfl) (byte_x s5.r) ?_; rintro _ w6 ⟨rfl, hr6, k6⟩; refine ⟨_, rfl, ?_⟩; have s6 := s5.call hr6 k6; clear s5 hr6 k6; generalize (qB o2).1 = kd at hbad hrng ⊢; generalize (qB o2).2 = o3 at hbad s6; refine K.kgo ?_; refine WL.store rfl rfl rfl rfl rfl rfl (by kernel_rfl) (s6.x.cell 0 (by simp [zReq, reqC])) (s6.x.free 0) ?_; have s7 := s6.put 0 (.int .i64 kd); generalize w6.setCell ⟨gx, 0, none⟩ (.int .i64 kd) = w7 at s7 ⊢; clear s6; refine K.kgo ?_; refine WL.call rfl rfl rfl rfl rfl Try.func32 rfl (by kernel_rfl) (upTo_x 9007199254740992 s7.r (by omega)) ?_; rintro _ w8 ⟨rfl, hr, kk⟩; refine ⟨_, rfl, ?_⟩; have s8 := s7.call hr kk; clear s7 hr kk; generalize (qUp 9007199254740992 o3).1 = m8 at hbad ⊢; generalize (qUp 9007199254740992 o3).2 = o8 at hbad s8; refine K.kgo ?_; refine WL.store rfl rfl rfl rfl rfl rfl (by kernel_rfl) (s8.x.cell 1 (by simp [zReq, reqC])) (s8.x.free 1) ?_; have s9 := s8.put 1 (.int .i64 m8); generalize w8.setCell ⟨gx, 1, none⟩ (.int .i64 m8) = w9 at s9 ⊢; clear s8; refine K.kgo ?_; refine WL.call rfl rfl rfl rfl rfl Try.func33 rfl (by kernel_rfl) (nums_x s9.r (by have := s9.hg; have := s9.hBg; omega)) ?_; rintro _ w10 ⟨nv, rfl, hN, hr, kk⟩; refine ⟨_, rfl, ?_⟩; have s10 := s9.call hr kk; have hnv := hN.one; clear s9 hr kk hN; generalize (qNums o8).2 = o10 at hbad s10; refine K.kgo ?_; refine WL.store rfl rfl rfl rfl rfl hnv (by kernel_rfl) (s10.x.cell 2 (by simp [zReq, reqC])) (s10.x.free 2) ?_; have s11 := s10.put 2 nv; generalize w10.setCell ⟨gx, 2, none⟩ nv = w11 at s11 ⊢; clear s10; refine K.kgo ?_; have hm12 := qUp_le 4096 o10; refine WL.call rfl rfl rfl rfl rfl Try.func32 rfl (by kernel_rfl) (upTo_x 4096 s11.r (by omega)) ?_; rintro _ w12 ⟨rfl, hr, kk⟩; refine ⟨_, rfl, ?_⟩; have s12 := s11.call hr kk; clear s11 hr kk; generalize (qUp 4096 o10).1 = m12 at hm12 hbad ⊢; generalize (qUp 4096 o10).2 = o12 at hbad s12; refine WL.call rfl rfl rfl rfl rfl Try.func34 rfl (by kernel_rfl) (take_x m12 s12.r (by omega)) ?_; rintro _ w13 ⟨tv, rfl, htv, hr, kk⟩; refine ⟨_, rfl, ?_⟩; have s13 := s12.call hr kk; have htb := qT_byt (n := m12) s12.r.byt; clear s12 hr kk; generalize (qT m12 o12).1 = tx at htv htb; generalize (qT m12 o12).2 = o13 at hbad s13; refine WL.strOf rfl rfl rfl rfl rfl rfl rfl rfl htv.sl ?_; clear htv; refine K.kgo ?_; refine WL.store rfl rfl rfl rfl rfl rfl (by kernel_rfl) (s13.x.cell 3 (by simp [zReq, reqC])) (s13.x.free 3) ?_; have s14 := s13.put 3 (.string (strOfNums tx)); generalize w13.setCell ⟨gx, 3, none⟩ (.string (strOfNums tx)) = w14 at s14 ⊢; clear s13; refine K.kgo ?_; refine WL.call rfl rfl rfl rfl rfl Try.func35 rfl (by kernel_rfl) (values_x 40 s14.r (by have := s14.hg; have := s14.hBg; omega) (by omega)) ?_; rintro _ w15 ⟨pv, rfl, hpv, hr, kk⟩; refine ⟨_, rfl, ?_⟩; have s15 := s14.call hr.wx kk; clear s14 hr kk; generalize qE (qVals 40 o13) = o15 at hbad s15; refine K.kgo ?_; refine WL.store rfl rfl rfl rfl rfl hpv (by kernel_rfl) (s15.x.cell 4 (by simp [zReq, reqC])) (s15.x.free 4) ?_; have s16 := s15.put 4 pv; generalize w15.setCell ⟨gx, 4, none⟩ pv = w16 at s16 ⊢; clear s15; refine K.kgo ?_; refine WC.drawn 4 (fun _ => True) fun w17 hd17 => ?_; have s17 := s16.down (hd17.below _); clear s16 hd17; have hS : True := trivial; refine K.fr [0] hS ?_; refine WD.all 1 rfl (by kernel_rfl) rfl rfl (fun _ _ _ _ _ h => h) rfl rfl rfl rfl (.inr hS) ?_; refine K.fr [2] hS ?_; refine K.wo 3 ?_; refine WL.call rfl rfl rfl rfl rfl Try.func34 rfl (by kernel_rfl) (take_x 32 s17.r (by omega)) ?_; rintro _ w18 ⟨tv, rfl, htv, hr, kk⟩; refine ⟨_, rfl, ?_⟩; have s18 := s17.call hr kk; have htb := qT_byt (n := 32) s17.r.byt; clear s17 hr kk; generalize (qT 32 o15).1 = th at htv htb; generalize (qT 32 o15).2 = oF at hbad s18; refine K.di hS ?_; refine K.wo 4 ?_; refine WL.copy rfl rfl rfl rfl rfl rfl htv.sl (by omega) s18.x (by simp [zReq, reqC]) ?_; refine K.dl ?_; refine WD.done (by kernel_rfl) ?_; have s19 := s18.row ((((((zReq.set 0 (.int .i64 kd)).set 1 (.int .i64 m8)).set 2 nv).set 3 (.string (strOfNums tx))).set 4 pv).take (0 + 5) ++ th.map (Value.int .u8) ++ (((((zReq.set 0 (.int .i64 kd)).set 1 (.int .i64 m8)).set 2 nv).set 3 (.string (strOfNums tx))).set 4 pv).drop (0 + 5 + th.length)); generalize (World.setRow w18 gx _) = w19 at s19 ⊢; have x0 : w19.cell? ⟨gx, 0, none⟩ = some (.int .i64 kd) := s19.x.cell 0 (by simp [zReq, reqC]); clear s18 htv; obtain ⟨spF, nF, capF, hbF⟩ := s19.r.ex; have T9 := T1.below s19.below T1.lt; have hkw : Below w.heap.size w (w19.setRow g1 zReq.toArray) := below_setRow (hB1.trans (s19.below.mono hB1.size)) (by omega) _; have T10 := T9.setRow zReq; have c1 : w19.cell? ⟨rb, 1, none⟩ = some (.bool oF.isNone) := hbF.cell 1 (by simp); rcases hbad with rfl | ⟨l, rfl, hl⟩ | hk
  · have c1 : w19.cell? ⟨rb, 1, none⟩ = some (.bool true) := c1
    refine K.kgl ?_; refine WL.build zReq rfl rfl rfl rfl rfl (by kernel_rfl) ?_; refine K.kgo ?_; refine WL.storeRow rfl rfl rfl rfl rfl rfl T9 rfl rfl zReq_ones ?_; generalize w19.setRow g1 zReq.toArray = wz at hkw T10 ⊢; refine K.kgo ?_; exact WQ.retCTw rfl rfl rfl rfl rfl T10 ⟨rfl, hkw⟩
  · obtain ⟨spL, capL, hbL, -⟩ := WR.ex s19.r
    have c1 : w19.cell? ⟨rb, 1, none⟩ = some (.bool false) := hbL.cell 1 (by simp); have c0 : w19.cell? ⟨rb, 0, none⟩ = some (.slice spL l.length capL) := hbL.cell 0 (by simp); refine K.kgl ?_; refine WL.build zReq rfl rfl rfl rfl rfl (by kernel_rfl) ?_; refine K.kgo ?_; refine WL.storeRow rfl rfl rfl rfl rfl rfl T9 rfl rfl zReq_ones ?_; generalize w19.setRow g1 zReq.toArray = wz at hkw T10 ⊢; refine K.kgo ?_; exact WQ.retCTw rfl rfl rfl rfl rfl T10 ⟨rfl, hkw⟩
  · cases oF with
    | none =>
      have c1 : w19.cell? ⟨rb, 1, none⟩ = some (.bool true) := c1; refine K.kgl ?_; refine WL.build zReq rfl rfl rfl rfl rfl (by kernel_rfl) ?_; refine K.kgo ?_; refine WL.storeRow rfl rfl rfl rfl rfl rfl T9 rfl rfl zReq_ones ?_; generalize w19.setRow g1 zReq.toArray = wz at hkw T10 ⊢; refine K.kgo ?_; exact WQ.retCTw rfl rfl rfl rfl rfl T10 ⟨rfl, hkw⟩
    | some l =>
      obtain ⟨spL, capL, hbL, -⟩ := WR.ex s19.r; have c1 : w19.cell? ⟨rb, 1, none⟩ = some (.bool false) := hbL.cell 1 (by simp); have c0 : w19.cell? ⟨rb, 0, none⟩ = some (.slice spL l.length capL) := hbL.cell 0 (by simp)
      by_cases hl : 0 < l.length
      · refine K.kgl ?_
        refine WL.build zReq rfl rfl rfl rfl rfl (by kernel_rfl) ?_; refine K.kgo ?_; refine WL.storeRow rfl rfl rfl rfl rfl rfl T9 rfl rfl zReq_ones ?_; generalize w19.setRow g1 zReq.toArray = wz at hkw T10 ⊢; refine K.kgo ?_; exact WQ.retCTw rfl rfl rfl rfl rfl T10 ⟨rfl, hkw⟩
      · rcases hk with hk | hk
        · refine K.kgl ?_
          refine WL.build zReq rfl rfl rfl rfl rfl (by kernel_rfl) ?_; refine K.kgo ?_; refine WL.storeRow rfl rfl rfl rfl rfl rfl T9 rfl rfl zReq_ones ?_; generalize w19.setRow g1 zReq.toArray = wz at hkw T10 ⊢; refine K.kgo ?_; exact WQ.retCTw rfl rfl rfl rfl rfl T10 ⟨rfl, hkw⟩
        · refine K.kgl ?_
          refine WL.build zReq rfl rfl rfl rfl rfl (by kernel_rfl) ?_; refine K.kgo ?_; refine WL.storeRow rfl rfl rfl rfl rfl rfl T9 rfl rfl zReq_ones ?_; generalize w19.setRow g1 zReq.toArray = wz at hkw T10 ⊢; refine K.kgo ?_; exact WQ.retCTw rfl rfl rfl rfl rfl T10 ⟨rfl, hkw⟩
set_option maxHeartbeats 4000000 in
theorem wdecR_none {w : World} {v : Value} {P : List Int} (hv : Sl .u8 w v (Frm.frameL P)) (hby : Frm.Byt P) (hlen : P.length ≤ 524288) (hn : rdRp P = none) : Calls Try.prog 17 #[v] w fun e w' => e = .returned (.tuple #[.agg zRep.toArray, .int .i64 3]) ∧ Below w.heap.size w w' := by
  refine enter (args := [v]) Try.func17 rfl Try.ntmps17 rfl ?_; refine K.kgn ?_; refine WL.alloc (z := .agg zRep.toArray) rfl rfl rfl rfl (fun _ => by kernel_rfl) fun g1 w1 hf0 => ?_; have hf1 : Fresh w g1 w1 45 zRep := hf0; clear hf0; have hB1 := hf1.below; have hg1 := hf1.eq; have hz1 := hf1.size; have T1 := hf1.blk; clear hf1; refine K.kgo ?_; refine WL.call rfl rfl rfl rfl rfl Try.func30 rfl (by kernel_rfl) (wopen_ok (hv.of_below hB1) hby hlen) ?_; rintro _ w2 ⟨rb, rfl, hr2, k2, hrb⟩; refine ⟨_, rfl, ?_⟩; clear hby hlen hv; have hz2 := k2.size; refine K.kgo ?_; refine WL.alloc (z := .agg zRep.toArray) rfl rfl rfl rfl (fun _ => by kernel_rfl) fun gx w3 hf0 => ?_; have hf3 : Fresh w2 gx w3 45 zRep := hf0; clear hf0; have hgx := hf3.eq; have hz3 := hf3.size; have s3 : XSt 45 w2.heap.size rb gx w1 w3 (some P) zRep :=
    ⟨WX.keep (o := some P) hr2 (Keep.of_below hf3.below) fun b hb => hb, by omega, by omega, hrb, hf3.blk, k2.trans (hf3.below.mono hz2)⟩
  clear hf3 hr2 k2; have hrg := s3.rg; refine WL.nil ?_
  repeat (first | refine WC.seq ?_ | refine WQ.then rfl ?_)
  refine WC.mid (fun _ : Unit => [(2, .pointer (some ⟨g1, 0, none⟩)), (4, .pointer (some ⟨rb, 0, none⟩)), (6, .pointer (some ⟨gx, 0, none⟩))]) (fun _ w5 => XSt 45 w2.heap.size rb gx w1 w5 (qK 82 (some P)) zRep) rfl ?_ ?_
  · refine K.kgo ?_
    refine WL.call rfl rfl rfl rfl rfl Try.func31 rfl (by kernel_rfl) (byte_x s3.r) ?_; rintro _ w4 ⟨rfl, hr4, k4⟩; refine ⟨_, rfl, ?_⟩; have s4 := s3.call hr4 k4; clear s3 hr4 k4; obtain ⟨sp4, n4, cap4, hb4⟩ := s4.r.ex
    by_cases hc : (qB (some P)).1 = 82
    · have e5 : qK 82 (some P) = (qB (some P)).2 := if_pos hc
      obtain ⟨l4, h4l⟩ : ∃ l, (qB (some P)).2 = some l := by
        cases P with
        | nil => exact absurd hc (by decide)
        | cons a l => exact ⟨l, rfl⟩
      rw [e5]; clear e5; rw [h4l] at s4 hb4 ⊢; generalize (qB (some P)).1 = c at hc ⊢; refine K.kgo ?_; refine WL.load rfl rfl rfl rfl rfl rfl (hb4.cell 1 (by simp)) ?_; refine WL.as 24 (.bool false) rfl rfl ?_; refine K.kgo ?_; refine WL.store rfl rfl rfl rfl rfl rfl (by kernel_rfl) (hb4.cell 1 (by simp)) (hb4.free 1) ?_; exact WL.nil (WQ.meet () ⟨rfl, rfl, rfl, trivial⟩ (s4.call (WX.setF s4.r) (KeepR.set _ _ _ _)))
    · have e5 : qK 82 (some P) = none := if_neg hc
      rw [e5]; generalize (qB (some P)).1 = c at hc ⊢; refine K.kgo ?_; refine WL.store rfl rfl rfl rfl rfl rfl (by kernel_rfl) (hb4.cell 1 (by simp)) (hb4.free 1) ?_; exact WL.nil (WQ.meet () ⟨rfl, rfl, rfl, trivial⟩ (s4.call s4.r.setT (KeepR.set _ _ _ _)))
  rintro ⟨⟩ w5 s5; clear s3; have hbad := rp_bad hn rfl rfl; have hrng := qB_rng s5.r.byt; generalize qK 82 (some P) = o2 at s5 hbad hrng; refine K.kgo ?_; refine WL.call rfl rfl rfl rfl rfl Try.func31 rfl (by kernel_rfl) (byte_x s5.r) ?_; rintro _ w6 ⟨rfl, hr6, k6⟩; refine ⟨_, rfl, ?_⟩; have s6 := s5.call hr6 k6; clear s5 hr6 k6; generalize (qB o2).1 = kd at hbad hrng ⊢; generalize (qB o2).2 = o3 at hbad s6; refine K.kgo ?_; refine WL.store rfl rfl rfl rfl rfl rfl (by kernel_rfl) (s6.x.cell 1 (by simp)) (s6.x.free 1) ?_; have s7 := s6.put 1 (.int .i64 kd); generalize w6.setCell ⟨gx, 1, none⟩ (.int .i64 kd) = w7 at s7 ⊢; clear s6; refine K.kgo ?_; refine WL.call rfl rfl rfl rfl rfl Try.func32 rfl (by kernel_rfl) (upTo_x 9007199254740992 s7.r (by omega)) ?_; rintro _ w8 ⟨rfl, hr, kk⟩; refine ⟨_, rfl, ?_⟩; have s8 := s7.call hr kk; clear s7 hr kk; generalize (qUp 9007199254740992 o3).1 = m8 at hbad ⊢; generalize (qUp 9007199254740992 o3).2 = o8 at hbad s8; refine K.kgo ?_; refine WL.store rfl rfl rfl rfl rfl rfl (by kernel_rfl) (s8.x.cell 0 (by simp)) (s8.x.free 0) ?_; have s9 := s8.put 0 (.int .i64 m8); generalize w8.setCell ⟨gx, 0, none⟩ (.int .i64 m8) = w9 at s9 ⊢; clear s8; refine K.kgo ?_; refine WL.call rfl rfl rfl rfl rfl Try.func33 rfl (by kernel_rfl) (nums_x s9.r (by have := s9.hg; have := s9.hBg; omega)) ?_; rintro _ w10 ⟨nv, rfl, hN, hr, kk⟩; refine ⟨_, rfl, ?_⟩; have s10 := s9.call hr kk; have hnv := hN.one; clear s9 hr kk hN; generalize (qNums o8).2 = o10 at hbad s10; refine K.kgo ?_; refine WL.store rfl rfl rfl rfl rfl hnv (by kernel_rfl) (s10.x.cell 2 (by simp)) (s10.x.free 2) ?_; have s11 := s10.put 2 nv; generalize w10.setCell ⟨gx, 2, none⟩ nv = w11 at s11 ⊢; clear s10; refine K.kgo ?_; refine WL.call rfl rfl rfl rfl rfl Try.func35 rfl (by kernel_rfl) (values_x 4096 s11.r (by have := s11.hg; have := s11.hBg; omega) (by omega)) ?_; rintro _ w12 ⟨pv, rfl, hpv, hr, kk⟩; refine ⟨_, rfl, ?_⟩; have s12 := s11.call hr.wx kk; clear s11 hr kk; generalize qE (qVals 4096 o10) = o12 at hbad s12; refine K.kgo ?_; refine WL.store rfl rfl rfl rfl rfl hpv (by kernel_rfl) (s12.x.cell 3 (by simp)) (s12.x.free 3) ?_; have s13 := s12.put 3 pv; generalize w12.setCell ⟨gx, 3, none⟩ pv = w13 at s13 ⊢; clear s12; refine K.kgo ?_; have hm14 := qUp_le 524288 o12; refine WL.call rfl rfl rfl rfl rfl Try.func32 rfl (by kernel_rfl) (upTo_x 524288 s13.r (by omega)) ?_; rintro _ w14 ⟨rfl, hr, kk⟩; refine ⟨_, rfl, ?_⟩; have s14 := s13.call hr kk; clear s13 hr kk; generalize (qUp 524288 o12).1 = m14 at hm14 hbad ⊢; generalize (qUp 524288 o12).2 = o14 at hbad s14; refine WL.call rfl rfl rfl rfl rfl Try.func34 rfl (by kernel_rfl) (take_x m14 s14.r (by omega)) ?_; rintro _ w15 ⟨tv, rfl, htv, hr, kk⟩; refine ⟨_, rfl, ?_⟩; have s15 := s14.call hr kk; have htb := qT_byt (n := m14) s14.r.byt; clear s14 hr kk; generalize (qT m14 o14).1 = td at htv htb; generalize (qT m14 o14).2 = oF at hbad s15; refine WL.app rfl rfl rfl rfl rfl (Bu.nil w15) rfl htv.sl (by simp only [List.length_nil]; omega) fun dv w16 hdv hgd => ?_; have kd2 : Below w15.heap.size w15 w16 := hgd.old (Nat.le_refl _) (fun g h => by cases h); have hdo : dv.oneCell' = true := by obtain ⟨_, _, rfl, -⟩ := hdv.sl; rfl
  have s16 := s15.down kd2; clear s15 hgd hdv kd2 htv; refine K.kgo ?_; refine WL.store rfl rfl rfl rfl rfl hdo (by kernel_rfl) (s16.x.cell 4 (by simp)) (s16.x.free 4) ?_; have s17 := s16.put 4 dv; generalize w16.setCell ⟨gx, 4, none⟩ dv = w17 at s17 ⊢; clear s16; have x0 : w17.cell? ⟨gx, 1, none⟩ = some (.int .i64 kd) := s17.x.cell 1 (by simp); obtain ⟨spF, nF, capF, hbF⟩ := s17.r.ex; have T9 := T1.below s17.below T1.lt; have hkw : Below w.heap.size w (w17.setRow g1 zRep.toArray) := below_setRow (hB1.trans (s17.below.mono hB1.size)) (by omega) _; have T10 := T9.setRow zRep; have c1 : w17.cell? ⟨rb, 1, none⟩ = some (.bool oF.isNone) := hbF.cell 1 (by simp); rcases hbad with rfl | ⟨l, rfl, hl⟩ | hk
  · have c1 : w17.cell? ⟨rb, 1, none⟩ = some (.bool true) := c1
    refine K.kgl ?_; refine WL.build zRep rfl rfl rfl rfl rfl (by kernel_rfl) ?_; refine K.kgo ?_; refine WL.storeRow rfl rfl rfl rfl rfl rfl T9 rfl rfl zRep_ones ?_; generalize w17.setRow g1 zRep.toArray = wz at hkw T10 ⊢; refine K.kgo ?_; exact WQ.retCTw rfl rfl rfl rfl rfl T10 ⟨rfl, hkw⟩
  · obtain ⟨spL, capL, hbL, -⟩ := WR.ex s17.r
    have c1 : w17.cell? ⟨rb, 1, none⟩ = some (.bool false) := hbL.cell 1 (by simp); have c0 : w17.cell? ⟨rb, 0, none⟩ = some (.slice spL l.length capL) := hbL.cell 0 (by simp); refine K.kgl ?_; refine WL.build zRep rfl rfl rfl rfl rfl (by kernel_rfl) ?_; refine K.kgo ?_; refine WL.storeRow rfl rfl rfl rfl rfl rfl T9 rfl rfl zRep_ones ?_; generalize w17.setRow g1 zRep.toArray = wz at hkw T10 ⊢; refine K.kgo ?_; exact WQ.retCTw rfl rfl rfl rfl rfl T10 ⟨rfl, hkw⟩
  · cases oF with
    | none =>
      have c1 : w17.cell? ⟨rb, 1, none⟩ = some (.bool true) := c1; refine K.kgl ?_; refine WL.build zRep rfl rfl rfl rfl rfl (by kernel_rfl) ?_; refine K.kgo ?_; refine WL.storeRow rfl rfl rfl rfl rfl rfl T9 rfl rfl zRep_ones ?_; generalize w17.setRow g1 zRep.toArray = wz at hkw T10 ⊢; refine K.kgo ?_; exact WQ.retCTw rfl rfl rfl rfl rfl T10 ⟨rfl, hkw⟩
    | some l =>
      obtain ⟨spL, capL, hbL, -⟩ := WR.ex s17.r; have c1 : w17.cell? ⟨rb, 1, none⟩ = some (.bool false) := hbL.cell 1 (by simp); have c0 : w17.cell? ⟨rb, 0, none⟩ = some (.slice spL l.length capL) := hbL.cell 0 (by simp)
      by_cases hl : 0 < l.length
      · refine K.kgl ?_
        refine WL.build zRep rfl rfl rfl rfl rfl (by kernel_rfl) ?_; refine K.kgo ?_; refine WL.storeRow rfl rfl rfl rfl rfl rfl T9 rfl rfl zRep_ones ?_; generalize w17.setRow g1 zRep.toArray = wz at hkw T10 ⊢; refine K.kgo ?_; exact WQ.retCTw rfl rfl rfl rfl rfl T10 ⟨rfl, hkw⟩
      · refine K.kgl ?_
        refine WL.build zRep rfl rfl rfl rfl rfl (by kernel_rfl) ?_; refine K.kgo ?_; refine WL.storeRow rfl rfl rfl rfl rfl rfl T9 rfl rfl zRep_ones ?_; generalize w17.setRow g1 zRep.toArray = wz at hkw T10 ⊢; refine K.kgo ?_; exact WQ.retCTw rfl rfl rfl rfl rfl T10 ⟨rfl, hkw⟩
end K
end Go.Proofs.Ytdkkaliiofcflaa

namespace Go.Proofs.Ytdkkaliiofcflaa
open Go.RowKit
namespace K
def qR (mark least most : Int) (P : List Int) : Ro := if 2 ≤ P.length ∧ nth P 0 = mark ∧ least ≤ nth P 1 ∧ nth P 1 ≤ most then some (P.drop 2) else none
theorem qNs_stop {i : Nat} {o : Ro} (h : (qNs i o).2 = none) : ∀ k, (qNs (i + k) o).2 = none
  | 0 => h
  | k + 1 => by
    rw [show i + (k + 1) = (i + k) + 1 by omega, qNs_snoc, qNs_stop h k]
    rfl
variable {B rb : Nat} {w : World}
set_option maxHeartbeats 2000000 in
theorem begin5_x {P : List Int} {mark least most : Int} (h : WX5 B w rb (some P)) (hB : B ≤ w.heap.size) (hm0 : mark ≠ 0) :
    Calls Try.prog 39 #[.pointer (some ⟨rb, 0, none⟩), .int .u8 mark, .int .i64 least, .int .i64 most] w fun e w' => ∃ (kd : Int) (v : Value) (ns : List Int), e = .returned (.tuple #[.int .i64 kd, .int .i64 ((qUp 9007199254740992 (qR mark least most P)).1 : Nat), v]) ∧ (qR mark least most P ≠ none → kd = nth P 1) ∧
      OwnE 3 1 0 intP (fun b => w.heap.size ≤ b) w' v ns ∧ ((qNums (qUp 9007199254740992 (qR mark least most P)).2).2 ≠ none → ns = (qNums (qUp 9007199254740992 (qR mark least most P)).2).1) ∧ WX5 B w' rb (qNums (qUp 9007199254740992 (qR mark least most P)).2).2 ∧ KeepR rb w w' := by
  refine enter (args := [.pointer (some ⟨rb, 0, none⟩), .int .u8 mark, .int .i64 least, .int .i64 most]) Try.func39 rfl Try.ntmps39 rfl ?_; have hrB := h.rlt; refine K.kgo ?_; refine WL.call rfl rfl rfl rfl rfl Try.func40 rfl (by kernel_rfl) (raw5_x 2 h hB (by omega)) ?_; rintro _ w1 ⟨mv, L, rfl, hsl, hbL, hL, h1, k1⟩; refine ⟨_, rfl, ?_⟩; have hqR : (qT 2 (some P)).2 = none ∧ L = [0, 0] ∧ P.length < 2 ∨ (qT 2 (some P)).2 = some (P.drop 2) ∧ L = P.take 2 ∧ 2 ≤ P.length := by
    by_cases hl : P.length < 2
    · have e : qT 2 (some P) = ([], none) := if_pos hl
      rw [e] at hL ⊢; exact .inl ⟨rfl, hL, hl⟩
    · have e : qT 2 (some P) = (P.take 2, some (P.drop 2)) := if_neg hl
      rw [e] at hL ⊢; rw [if_neg (fun h => by cases h)] at hL; exact .inr ⟨rfl, hL, by omega⟩
  have hLl : L.length = 2 := by
    rcases hqR with ⟨-, rfl, -⟩ | ⟨-, rfl, h2⟩
    · rfl
    · rw [List.length_take]; omega
  have hn0 : 2 ≤ P.length ∧ nth L 0 = nth P 0 ∧ nth L 1 = nth P 1 ∨ P.length < 2 ∧ nth L 0 = 0 ∧ nth L 1 = 0 := by
    rcases hqR with ⟨-, rfl, h2⟩ | ⟨-, rfl, h2⟩
    · exact .inr ⟨h2, rfl, rfl⟩
    · match P, h2 with
      | a :: b :: r, _ => exact .inl ⟨by simp, rfl, rfl⟩
  have hb1 := hbL _ (nth_mem' L 1 (by omega)); generalize hk : nth L 1 = kd at hb1 hn0; generalize hc : nth L 0 = c0 at hn0; obtain ⟨spm, capm, rfl, -⟩ := id hsl; have hkd : qR mark least most P ≠ none → kd = nth P 1 := fun hq => by
    unfold qR at hq
    split at hq
    · omega
    · exact absurd rfl hq
  have hst : WX5 B w1 rb (if c0 = mark ∧ least ≤ kd ∧ kd ≤ most then qR mark least most P else (qT 2 (some P)).2) := by
    split
    · rename_i hq
      have e : qR mark least most P = (qT 2 (some P)).2 := by
        rcases hqR with ⟨-, -, h2⟩ | ⟨e, -, h2⟩
        · omega
        · rw [e]
          exact if_pos ⟨h2, by omega⟩
      rw [e]; exact h1
    · exact h1
  clear hL hbL h1; refine K.kgo ?_; refine WL.idxI 1 rfl rfl rfl rfl rfl rfl hsl rfl rfl (by omega) fun p hp => ?_; rw [hk] at hp; refine K.kgl ?_; refine WL.idxI 0 rfl rfl rfl rfl rfl rfl hsl rfl rfl (by omega) fun p0 hp0 => ?_; rw [hc] at hp0; refine WL.load rfl rfl rfl rfl rfl rfl hp0 ?_; obtain ⟨sp1, n1, cap1, hb⟩ := hst.ex; refine WL.mid (fun b : Bool => [(0, .pointer (some ⟨rb, 0, none⟩)), (12, .int .i64 kd), (37, .bool b)]) (fun b wx => b = decide (¬ (c0 = mark ∧ least ≤ kd ∧ kd ≤ most)) ∧ wx = w1) rfl ?_ ?_
  · by_cases c1 : c0 = mark
    · by_cases c2 : kd < least
      · refine K.kgo ?_
        exact WQ.meet true ⟨rfl, rfl, rfl, trivial⟩ ⟨by rw [decide_eq_true]; omega, rfl⟩
      · by_cases c3 : most < kd
        · refine K.kgo ?_
          exact WQ.meet true ⟨rfl, rfl, rfl, trivial⟩ ⟨by rw [decide_eq_true]; omega, rfl⟩
        · refine K.kgo ?_
          exact WQ.meet false ⟨rfl, rfl, rfl, trivial⟩ ⟨by rw [decide_eq_false]; omega, rfl⟩
    · refine K.kgo ?_
      exact WQ.meet true ⟨rfl, rfl, rfl, trivial⟩ ⟨by rw [decide_eq_true]; omega, rfl⟩
  rintro b _ ⟨hbd, rfl⟩; refine WC.mid (fun _ : Unit => [(0, .pointer (some ⟨rb, 0, none⟩)), (12, .int .i64 kd)]) (fun _ w' => WX5 B w' rb (qR mark least most P) ∧ KeepR rb w w') rfl ?_ ?_
  · cases b with
    | true =>
      have hq := of_decide_eq_true hbd.symm; have e : qR mark least most P = none := if_neg (by omega); rw [e]; refine K.kgo ?_; refine WL.store rfl rfl rfl rfl rfl rfl (by kernel_rfl) (hb.cell 1 (by simp)) (hb.free 1) ?_; exact WL.nil (WQ.meet () ⟨rfl, rfl, trivial⟩ ⟨hst.setT, k1.trans (KeepR.set _ _ _ _)⟩)
    | false =>
      have hq := Decidable.not_not.1 (of_decide_eq_false hbd.symm); rw [if_pos hq] at hst; refine K.kgo ?_; exact WQ.meet () ⟨rfl, rfl, trivial⟩ ⟨hst, k1⟩
  rintro ⟨⟩ w2 ⟨h2, k2⟩; clear hst hb hbd hp hp0 hsl k1 hqR hn0; generalize qR mark least most P = o2 at h2 hkd ⊢; refine K.kgo ?_; refine WL.call rfl rfl rfl rfl rfl Try.func41 rfl (by kernel_rfl) (count5_x 9007199254740992 h2 (by omega)) ?_; rintro _ w3 ⟨rfl, h3, k3⟩; refine ⟨_, rfl, ?_⟩; generalize (qUp 9007199254740992 o2).1 = sq; generalize (qUp 9007199254740992 o2).2 = o3 at h3 ⊢; refine K.kgo ?_; refine WL.call rfl rfl rfl rfl rfl Try.func41 rfl (by kernel_rfl) (count5_x 8 h3 (by omega)) ?_; rintro _ w4 ⟨rfl, h4, k4⟩; refine ⟨_, rfl, ?_⟩; have hm := qUp_le 8 o3; unfold qNums; generalize (qUp 8 o3).1 = m at hm ⊢; generalize (qUp 8 o3).2 = o4 at h4 ⊢; have k5 : KeepR rb w w4 := (k2.trans k3).trans k4; clear k2 k3 k4 h2 h3; refine K.kgo ?_; refine WC.loop (fun i : Nat × Value => [(0, .pointer (some ⟨rb, 0, none⟩)), (12, .int .i64 kd), (13, .int .i64 sq), (14, .int .i64 m), (15, i.2), (16, .int .i64 i.1)])
    (fun i wr => i.1 ≤ m ∧ WX5 B wr rb (qNs i.1 o4).2 ∧ OwnE 3 1 0 intP (fun b => w.heap.size ≤ b) wr i.2 (qNs i.1 o4).1 ∧ KeepR rb w wr) (fun i => m - i.1) (0, .slice none 0 0) ⟨rfl, rfl, rfl, rfl, rfl, rfl, trivial⟩
    ⟨Nat.zero_le _, h4, OwnE.nil _ _ _ _ _ _, k5⟩ ?_
  rintro ⟨i, v⟩ wr ⟨hi, hr, ho, hk6⟩; simp only at hi hr ho hk6 ⊢
  by_cases hik : i < m
  · obtain ⟨spr, nr, capr, hbr⟩ := hr.ex
    have hlt := qNs_len i o4; have hsn := qNs_snoc i o4; have hstop := qNs_stop (i := i) (o := o4); generalize (qNs i o4).1 = ns at ho hlt hsn; generalize (qNs i o4).2 = oi at hr hbr hsn hstop; cases oi with
    | none =>
      have hfin : (qNs m o4).2 = none := by
        have := hstop rfl (m - i)
        rwa [show i + (m - i) = m by omega] at this
      have c1 : wr.cell? ⟨rb, 1, none⟩ = some (.bool true) := hbr.cell 1 (by simp); refine K.kgl ?_; refine WQ.ret3 rfl rfl rfl rfl ⟨kd, v, ns, rfl, hkd, ho, fun hq => absurd hfin hq, ?_, hk6⟩; rw [hfin]; exact hr
    | some li =>
      have hzl := qU_lt (WX5.byt hr); have c1 : wr.cell? ⟨rb, 1, none⟩ = some (.bool false) := hbr.cell 1 (by simp); refine K.kgl ?_; refine WL.call rfl rfl rfl rfl rfl Try.func62 rfl (by kernel_rfl) (number5_x hr) ?_; rintro _ w6 ⟨rfl, h6, k6⟩; refine ⟨_, rfl, ?_⟩; refine WL.call rfl rfl rfl rfl rfl Try.func61 rfl (by kernel_rfl) (rzag_any _ hzl w6) ?_; rintro _ _ ⟨rfl, rfl⟩; refine ⟨_, rfl, ?_⟩; have ho2 := ho.keep (P' := intP) (O' := fun b => w.heap.size ≤ b) k6 (fun g hg => ⟨ho.lt hg, by have := ho.own hg; omega⟩) (fun _ h => h) fun _ _ h => h; refine WL.lit1 (cs := [.int .i64 (zag (qU (some li)).1)]) rfl rfl rfl rfl rfl rfl rfl rfl ⟨by omega, by omega⟩ (by kernel_rfl) fun g7 w7 hf7 => ?_; have hz7 := hf7.size; have k7 := hf7.below; have h7 := h6.keep (Keep.of_below k7) fun b hb => by have := k6.size; have := hk6.size; omega
      have ho7 := ho2.keep (P' := intP) (O' := fun b => w.heap.size ≤ b) (Keep.of_below k7) (fun g hg => ho2.lt hg) (fun _ h => h) fun _ _ h => h; refine WL.snoc (y := zag (qU (some li)).1) rfl rfl rfl rfl elemI1 rfl ho7 rfl hf7.blk (by intro u hu; simp at hu; rw [hu]; rfl) rfl rfl (by omega) (by omega) fun v8 w8 ho8 hg8 => ?_; have k27 : KeepR rb w w7 := (hk6.trans k6).trans (KeepR.below k7); have hzw := k27.size; refine K.kgo ?_; refine WQ.again (i + 1, v8) ⟨rfl, rfl, rfl, rfl, rfl, rfl, trivial⟩ ⟨by show i + 1 ≤ m; omega, ?_, ?_, ?_⟩ (by show m - (i + 1) < m - i; omega)
      · show WX5 B w8 rb (qNs (i + 1) o4).2
        rw [hsn]; exact h7.keep hg8.1 (fun b hb => ⟨by omega, fun e => by have := ho7.own e; omega⟩)
      · show OwnE _ _ _ _ _ _ _ (qNs (i + 1) o4).1
        rw [hsn]; exact ho8.keep (Keep.refl (fun _ => True) w8) (fun _ _ => trivial) (fun b hb => by omega) fun _ _ h => h
      · exact Keep.trans k27 (hg8.1.mono fun b hb => ⟨by have := hb.1; omega, fun e => by have := ho7.own e; have := hb.1; omega⟩)
  · obtain rfl : i = m := by omega
    refine K.kgo ?_; exact WQ.ret3 rfl rfl rfl rfl ⟨kd, v, _, rfl, hkd, ho, fun _ => rfl, hr, hk6⟩
end K
end Go.Proofs.Ytdkkaliiofcflaa

namespace Go.Proofs.Ytdkkaliiofcflaa
open Go.RowKit
namespace K
variable {B rb : Nat} {w : World} {o : Ro}
def ValsX5 (B rb : Nat) (w : World) (v : Value) (w' : World) : Option (List V × List Int) → Prop
  | some (l, r) => (∃ q : Nat → Prop, OwnE 60 6 noV (IsVo q 17 w') (fun b => w.heap.size ≤ b) w' v l ∧ ∀ b, q b → w.heap.size ≤ b ∧ b < w'.heap.size) ∧ WX5 B w' rb (some r)
  | none => WX5 B w' rb none
def VSt (B rb m : Nat) (l1 : List Int) (w : World) (i : Nat) (v : Value) (st : Option (List V × List Int)) (wr : World) : Prop :=
  i ≤ m ∧ KeepR rb w wr ∧ v.oneCell' = true ∧ match st with
  | some (vs, ri) => qVs i (some l1) = some (vs, ri) ∧ WR5 B wr rb ri ∧ ∃ q : Nat → Prop, OwnE 60 6 noV (IsVo q 17 wr) (fun b => w.heap.size ≤ b) wr v vs ∧ ∀ b, q b → w.heap.size ≤ b ∧ b < wr.heap.size ∧ v.ownBlock ≠ some b
  | none => qVs m (some l1) = none ∧ WX5 B wr rb none
set_option maxHeartbeats 4000000 in
theorem values5_x (most : Nat) (h : WX5 B w rb o) (hB : B ≤ w.heap.size) (hmm : most ≤ 1000000) :
    Calls Try.prog 42 #[.pointer (some ⟨rb, 0, none⟩), .int .i64 (most : Int)] w fun e w' => ∃ v, e = .returned v ∧ v.oneCell' = true ∧ ValsX5 B rb w v w' (qVals most o) ∧ KeepR rb w w' := by
  refine enter (args := [.pointer (some ⟨rb, 0, none⟩), .int .i64 (most : Int)]) Try.func42 rfl Try.ntmps42 rfl ?_; have hrB := h.rlt; refine K.kgo ?_; refine WL.call rfl rfl rfl rfl rfl Try.func41 rfl (by kernel_rfl) (count5_x most h (by omega)) ?_; rintro _ w1 ⟨rfl, h1, k1⟩; refine ⟨_, rfl, ?_⟩; unfold qVals; have hm := qUp_le most o; have hz := qUp_zero (most := most) (o := o); generalize (qUp most o).1 = m at hm hz ⊢; generalize (qUp most o).2 = o1 at h1 hz ⊢; refine K.kgo ?_; cases o1 with
  | none =>
    have hz := hz rfl; subst hz; refine WC.loop (fun _ : Unit => [(0, .pointer (some ⟨rb, 0, none⟩)), (5, .int .i64 0), (6, .slice none 0 0), (7, .int .i64 0)])
      (fun _ wr => wr = w1) (fun _ => 0) () ⟨rfl, rfl, rfl, rfl, trivial⟩ rfl ?_
    rintro _ _ rfl; refine K.kgo ?_; exact WQ.ret1 rfl rfl ⟨_, rfl, rfl, h1, k1⟩
  | some l1 =>
    clear hz; refine WC.loop (fun i : Nat × Value × Option (List V × List Int) => [(0, .pointer (some ⟨rb, 0, none⟩)), (5, .int .i64 m), (6, i.2.1), (7, .int .i64 i.1)])
      (fun i wr => VSt B rb m l1 w i.1 i.2.1 i.2.2 wr) (fun i => m - i.1) (0, .slice none 0 0, some ([], l1)) ⟨rfl, rfl, rfl, rfl, trivial⟩
      ⟨Nat.zero_le _, k1, rfl, rfl, h1, fun _ => False, OwnE.nil _ _ _ _ _ _, fun b h => h.elim⟩ ?_
    rintro ⟨i, v, st⟩ wr ⟨hi, hk, hone, hst⟩; simp only at hi hk hone hst ⊢; cases st with
    | none =>
      obtain ⟨hend, hr⟩ := hst; rw [hend]; obtain ⟨spr, nr, capr, hbr⟩ := hr.ex; have c1 : wr.cell? ⟨rb, 1, none⟩ = some (.bool true) := hbr.cell 1 (by simp)
      by_cases hik : i < m
      · refine K.kgl ?_
        exact WQ.ret1 rfl rfl ⟨v, rfl, hone, hr, hk⟩
      · obtain rfl : i = m := by omega
        refine K.kgo ?_; exact WQ.ret1 rfl rfl ⟨v, rfl, hone, hr, hk⟩
    | some p =>
      obtain ⟨vs, ri⟩ := p; obtain ⟨hqi, hr, q, ho, hq⟩ := hst; have hvl := qVs_len hqi
      by_cases hik : i < m
      · have hsn := qVs_snoc i (some l1)
        rw [hqi] at hsn; simp only at hsn; have hstop := qVs_stop (i := i + 1) (o := some l1); have hzr := hk.size; have hri : WX5 B wr rb (some ri) := hr; obtain ⟨spr, capr, hbr, -⟩ := hr.ex; have c1 : wr.cell? ⟨rb, 1, none⟩ = some (.bool false) := hbr.cell 1 (by simp); refine K.kgl ?_; refine WL.call rfl rfl rfl rfl rfl Try.func41 rfl (by kernel_rfl) (count5_x 65536 hri (by omega)) ?_; rintro _ w2 ⟨rfl, h2, k2⟩; refine ⟨_, rfl, ?_⟩; have hz2 := k2.size; have hm2 := qUp_le 65536 (some ri); have hqv : qV (some ri) = (match (qT (qUp 65536 (some ri)).1 (qUp 65536 (some ri)).2).2 with | none => none | some r => match readV true (qT (qUp 65536 (some ri)).1 (qUp 65536 (some ri)).2).1 with | .ok v _ => some (v, r) | .bad _ => none) := rfl; generalize (qUp 65536 (some ri)).1 = m2 at hm2 hqv ⊢; generalize (qUp 65536 (some ri)).2 = o2 at h2 hqv ⊢; refine WL.call rfl rfl rfl rfl rfl Try.func40 rfl (by kernel_rfl) (raw5_x m2 h2 (by omega) (by omega)) ?_; rintro _ w3 ⟨tv, L, rfl, htv, hbL, hL, h3, k3⟩; refine ⟨_, rfl, ?_⟩; have hbl := (qT_byt (n := m2) h2.byt).2; generalize (qT m2 o2).1 = t at hL hbl hqv; generalize (qT m2 o2).2 = o3 at hL h3 hqv; have hLl : L.length ≤ 65536 := by
          by_cases he : o3 = none
          · rw [if_pos he] at hL
            rw [hL, List.length_replicate]; omega
          · rw [if_neg he] at hL
            rw [hL]; omega
        refine WL.call rfl rfl rfl rfl rfl Try.func63 rfl (by kernel_rfl) (decode7_any htv hbL (by omega)) ?_; rintro _ w4 ⟨k4, y, cs, e4, rfl, hv4, hm4⟩; refine ⟨_, rfl, ?_⟩; have hz3 := k3.size; have hz4 := k4.size; have kr4 : KeepR rb wr w4 := (k2.trans k3).trans (KeepR.below k4); have h4 := h3.keep (Keep.of_below k4) fun b hb => by omega
        have hc6 := hv4.len
        -- what comes of it
        have hcase : (o3 = none ∨ e4 ≠ 0) ∧ qV (some ri) = none ∨ (∃ r', o3 = some r' ∧ e4 = 0 ∧ qV (some ri) = some (y, r')) := by
          cases o3 with
          | none => exact .inl ⟨.inl rfl, hqv⟩
          | some r' =>
            rw [if_neg (fun h => by cases h)] at hL; subst hL; simp only at hqv; cases hrd : readV true L with
            | ok y' r2 =>
              rw [hrd] at hm4 hqv; obtain ⟨rfl, he⟩ := hm4; exact .inr ⟨r', rfl, he, hqv⟩
            | bad z =>
              rw [hrd] at hm4 hqv; exact .inl ⟨.inr hm4, hqv⟩
        clear hm4 hqv hL; refine K.kgo ?_; refine WL.alloc (z := .agg zCells.toArray) rfl rfl rfl rfl (fun _ => by kernel_rfl) fun g5 w5 hf5 => ?_; have hf5' : Fresh w4 g5 w5 60 zCells := hf5; clear hf5; have hg5 := hf5'.eq; have hz5 := hf5'.size; refine K.kgo ?_; refine WL.storeRow rfl rfl rfl rfl rfl rfl hf5'.blk hc6 (by rfl) hv4.one ?_; have k6 : Below w4.heap.size w4 (w5.setRow g5 cs.toArray) := below_setRow hf5'.below (by rw [hg5]; exact Nat.le_refl _) _; have T6 := hf5'.blk.setRow cs; have hz6 : (w5.setRow g5 cs.toArray).heap.size = w5.heap.size := by simp
        generalize w5.setRow g5 cs.toArray = w6 at k6 T6 hz6 ⊢; clear hf5'; have h6 := h4.keep (Keep.of_below k6) fun b hb => by omega
        obtain ⟨sp6, n6, cap6, hb6⟩ := h6.ex; have kr6 : KeepR rb w4 w6 := KeepR.below k6; refine WL.pure rfl rfl rfl rfl ?_; refine WL.nil ?_
        repeat (first | refine WC.seq ?_ | refine WQ.then rfl ?_)
        refine WC.mid (fun _ : Ro => [(0, .pointer (some ⟨rb, 0, none⟩)), (5, .int .i64 m), (6, v), (7, .int .i64 i), (8, .pointer (some ⟨g5, 0, none⟩))])
          (fun oq wx => (match oq with | none => qV (some ri) = none | some r' => qV (some ri) = some (y, r')) ∧ WX5 B wx rb oq ∧ VBlk 60 wx g5 cs ∧ KeepR rb w4 wx ∧ wx.heap.size = w6.heap.size) rfl ?_ ?_
        · have T7 : ∀ u, VBlk 60 (w6.setCell ⟨rb, 1, none⟩ u) g5 cs := fun u => T6.other _ _ (by show g5 ≠ rb; omega)
          have kr7 : ∀ u, KeepR rb w4 (w6.setCell ⟨rb, 1, none⟩ u) := fun u => kr6.trans (KeepR.set _ _ _ _); rcases hcase with ⟨hbad, hqv⟩ | ⟨r', rfl, he4, hqv⟩
          · cases o3 with
            | none =>
              have c1 : w6.cell? ⟨rb, 1, none⟩ = some (.bool true) := hb6.cell 1 (by simp); refine K.kgl ?_; refine WL.store rfl rfl rfl rfl rfl rfl (by kernel_rfl) (hb6.cell 1 (by simp)) (hb6.free 1) ?_; exact WL.nil (WQ.meet none ⟨rfl, rfl, rfl, rfl, rfl, trivial⟩ ⟨hqv, h6.setT, T7 _, kr7 _, by simp⟩)
            | some r3 =>
              have he4 : e4 ≠ 0 := hbad.elim (fun h => by cases h) id; have c1 : w6.cell? ⟨rb, 1, none⟩ = some (.bool false) := hb6.cell 1 (by simp); refine K.kgl ?_; refine WL.store rfl rfl rfl rfl rfl rfl (by kernel_rfl) (hb6.cell 1 (by simp)) (hb6.free 1) ?_; exact WL.nil (WQ.meet none ⟨rfl, rfl, rfl, rfl, rfl, trivial⟩ ⟨hqv, h6.setT, T7 _, kr7 _, by simp⟩)
          · have c1 : w6.cell? ⟨rb, 1, none⟩ = some (.bool false) := hb6.cell 1 (by simp)
            refine K.kgl ?_; refine WL.store rfl rfl rfl rfl rfl rfl (by kernel_rfl) (hb6.cell 1 (by simp)) (hb6.free 1) ?_; exact WL.nil (WQ.meet (some r') ⟨rfl, rfl, rfl, rfl, rfl, trivial⟩ ⟨hqv, WX5.setF h6, T7 _, kr7 _, by simp⟩)
        rintro oq w7 ⟨hqv, h7, T7, kr6, hz7⟩; clear h6 hb6 T6 hcase h4 h3 h2 k6; refine K.kgo ?_; refine WL.loadMid rfl rfl rfl rfl rfl rfl (VBlk.rangeAt T7) hc6 ?_; refine WL.lit1 rfl rfl rfl rfl rfl rfl rfl hc6 ⟨by omega, by omega⟩ (by kernel_rfl) fun g8 w8 hf8 => ?_; have hz8 := hf8.size; have kr8 : KeepR rb wr w8 := (kr4.trans kr6).trans (KeepR.below hf8.below); have h8 := h7.keep (Keep.of_below hf8.below) fun b hb => by omega
        have hrB' : rb < w.heap.size := by omega
        have ho8 : OwnE 60 6 noV (IsVo (fun b => q b ∨ (w3.heap.size ≤ b ∧ b < w4.heap.size)) 17 w8) (fun b => w.heap.size ≤ b) w8 v vs :=
          ho.keep kr8 (fun g hg => ⟨ho.lt hg, by have := ho.own hg; omega⟩) (fun _ h => h) fun x cs hx => hx.keep kr8 (fun b hb _ => ⟨(hq b hb).2.1, by have := (hq b hb).1; omega⟩) fun b hb => .inl hb
        have kr48 : KeepR rb w4 w8 := kr6.trans (KeepR.below hf8.below); have hv8 : IsVo (fun b => q b ∨ (w3.heap.size ≤ b ∧ b < w4.heap.size)) 17 w8 y cs := hv4.there.keep kr48 (fun b hb _ => ⟨hb.2, by have := hb.1; omega⟩) fun b hb => .inr hb; have hlt : vs.length ≤ i := by omega
        refine WL.snoc rfl rfl rfl rfl elemV6 rfl ho8 rfl hf8.blk hv4.one hc6 hv8 (by omega) (by omega) fun v9 w9 ho9 hg9 => ?_; have hz9 := hg9.1.size; have hq9 : ∀ b, (q b ∨ (w3.heap.size ≤ b ∧ b < w4.heap.size)) → w.heap.size ≤ b ∧ b < w8.heap.size ∧ v.ownBlock ≠ some b := fun b hb => hb.elim (fun h => by
            obtain ⟨h1, h2, h3⟩ := hq b h; exact ⟨h1, by omega, h3⟩) fun h => ⟨by omega, by omega, fun e => by have := ho.lt e; omega⟩
        have h9 := h8.keep hg9.1 (fun b hb => ⟨by omega, fun e => by have := ho8.own e; omega⟩); have k9 : KeepR rb w w9 := Keep.trans (hk.trans kr8) (hg9.1.mono fun b hb => ⟨by have := hb.1; have := kr8.size; omega, fun e => by have := ho8.own e; have := hb.1; omega⟩); have hone9 := ho9.one; refine K.kgo ?_; cases oq with
        | none =>
          simp only at hqv; rw [hqv] at hsn; have hend : qVs m (some l1) = none := by
            have := hstop hsn (m - (i + 1))
            rwa [show i + 1 + (m - (i + 1)) = m by omega] at this
          exact WQ.again (i + 1, v9, none) ⟨rfl, rfl, rfl, rfl, trivial⟩ ⟨by show i + 1 ≤ m; omega, k9, hone9, hend, h9⟩ (by show m - (i + 1) < m - i; omega)
        | some r' =>
          simp only at hqv; rw [hqv] at hsn; refine WQ.again (i + 1, v9, some (vs ++ [y], r')) ⟨rfl, rfl, rfl, rfl, trivial⟩ ⟨by show i + 1 ≤ m; omega, k9, hone9, hsn, h9, (fun b => q b ∨ (w3.heap.size ≤ b ∧ b < w4.heap.size)), ?_, fun b hb => ?_⟩ (by show m - (i + 1) < m - i; omega)
          · exact ho9.keep (Keep.refl (fun _ => True) w9) (fun _ _ => trivial) (fun b hb => by omega) fun x cs hx => hx.keep hg9.1 (fun b hb _ => (hq9 b hb).2) fun b hb => hb
          · obtain ⟨e1, e2, e3⟩ := hq9 b hb
            exact ⟨e1, by omega, fun e => (hg9.2 b e).elim e3 fun h4 => by omega⟩
      · obtain rfl : i = m := by omega
        rw [hqi]; refine K.kgo ?_; exact WQ.ret1 rfl rfl ⟨v, rfl, ho.one, ⟨⟨q, ho, fun b hb => ⟨(hq b hb).1, (hq b hb).2.1⟩⟩, hr⟩, hk⟩
end K
end Go.Proofs.Ytdkkaliiofcflaa

namespace Go.Proofs.Ytdkkaliiofcflaa
open Go.RowKit
namespace K
theorem sl_lh {w0 : World} {sp : Option Addr} {cap : Nat} {k : IntKind} {zs : List Int} (h : Sl k w0 (.slice sp zs.length cap) zs) {i j : Nat} (hij : i ≤ j) (hj : j ≤ zs.length) : Sl k w0 (sliced sp i j cap 1) ((zs.take j).drop i) := by
  obtain ⟨sp', cap', he, hc, hm, hr, h0⟩ := h; obtain ⟨rfl, -, rfl⟩ : sp = sp' ∧ zs.length = zs.length ∧ cap = cap' := by injection he with a b c; exact ⟨a, b, c⟩
  unfold sliced; have hl : ((zs.take j).drop i).length = j - i := by rw [List.length_drop, List.length_take]; omega
  refine ⟨if cap = i then sp else sp.map (·.add (i * 1)), cap - i, by rw [hl], by rw [hl]; omega, by omega, fun hl2 => ?_, fun hn => ?_⟩
  · rw [hl] at hl2
    obtain ⟨b, o, rfl, hb, hrow⟩ := hr (by omega); rw [if_neg (by omega)]; refine ⟨b, o + i, by simp [Addr.add_mid], hb, fun q hq => ?_⟩; rw [hl] at hq; have := hrow (i + q) (by omega); rw [show o + i + q = o + (i + q) by omega, this]; simp [nth, List.getD_eq_getElem?_getD, List.getElem?_drop, show i + q < j by omega]
  · by_cases e : cap = i
    · omega
    · rw [if_neg e] at hn
      cases sp with
      | none => have := h0 rfl; omega
      | some p => cases hn
section
variable {n : NN} {Q : Exit → Act → World → Prop} {l : Env} {w : World} {ops : Array Oper} {o : Oper} {rest : List Oper} {d : Nat}
theorem WL.fromto {t e : Nat} {x lo hi : Operand} {v : Value} {k k1 kk : IntKind} {y z : Int} {zs : List Int} {w0 : World} (hg : o.guard = none) (hd : o.dst = some d) (hn : Nat.blt d n.n = true) (ho : o.op = .slice t x (some lo) (some hi) none) (ht : tyOf ty t = some (.slice e 1))
    (hx : evl l x = some v) (hlo : evl l lo = some (.int k1 y)) (hhi : evl l hi = some (.int kk z)) (h0 : 0 ≤ y) (hyz : y ≤ z) (h1 : z ≤ zs.length) (hs : Sl k w0 v zs) (h : ∀ v', Sl k w0 v' ((zs.take z.toNat).drop y.toNat) → WL n ops Q rest ((d, v') :: l) w) : WL n ops Q (o :: rest) l w := by
  have hs0 := hs; obtain ⟨sp, cap, rfl, hc, hm, hr, hn0⟩ := hs; refine WL.step hg hd hn (v := sliced sp y.toNat z.toNat cap 1) (fun a ha => ?_) (h _ (sl_lh hs0 (by omega) (by omega))); obtain ⟨hu, hsz⟩ := TyOk.of tyOk ht; have he : Try.prog.elem t = e := by simp [Program.elem, hu]
  have hu' : Try.prog.underlying t = some (.slice (Try.prog.elem t)) := by rw [he]; exact hu
  have hs : (sizeOf e).run Try.prog w = .ok 1 w := by
    cases hq : Try.prog.info? e with
    | none => rw [hq] at hsz; cases hsz
    | some q => rw [hq] at hsz; simp at hsz; simp [sizeOf, typeInfo, hq, hsz]
  unfold execOp; rw [ho]; simp [ha.eval hx, ha.eval hlo, ha.eval hhi, run_sliceAt_slice w t _ _ _ _ hu', run_slice_lh w t sp zs.length cap hu' k1 kk y z h0 hyz (by omega), he, hs]
end
theorem rreadS_any {w : World} {v : Value} {l : List Int} (hv : Sl .u8 w v l) (hb : Frm.Byt l) :
    Calls Try.prog 74 #[v] w fun e w' => e = .returned (.tuple (rsV l).toArray) ∧ Below w.heap.size w w' := by
  obtain ⟨sp, cap, rfl, h1, h2, -⟩ := id hv; refine enter (args := [.slice sp l.length cap]) Try.func74 rfl Try.ntmps74 rfl ?_; unfold rsV
  by_cases h : l.length < 4
  · rw [if_pos h]
    refine K.kgo ?_; exact WQ.ret2 rfl rfl rfl ⟨rfl, Below.refl _ _⟩
  rw [if_neg h]; have hfin := num4_nth (by omega) hb; have a0 := hb _ (nth_mem' l 0 (by omega)); have a1 := hb _ (nth_mem' l 1 (by omega)); have a2 := hb _ (nth_mem' l 2 (by omega)); have a3 := hb _ (nth_mem' l 3 (by omega)); have h32 := four32 _ _ _ _ a0 a1 a2 a3; rw [hfin] at h32; clear hfin a0 a1 a2 a3; refine K.kgo ?_; refine WC.drawn 21 (fun wx => wx.heap = w.heap) fun w2 hd => ?_; have hb2 : Below w.heap.size w w2 := hd.below _; have hS : w2.heap = w.heap := hd.heap; clear hd; refine K.fr [0, 5, 11, 17] hS ?_; refine WD.idxI 1 0 rfl (by kernel_rfl) rfl rfl (fun _ _ _ _ _ h => h) rfl rfl rfl rfl hv rfl rfl (by omega) (.inr hS) fun p0 q0 => ?_; refine K.wl 2 [3, 4, 10, 16, 21, 22, 23] rfl rfl rfl rfl rfl rfl rfl (fun wx hx => (heap_cell hx _).trans q0) hS ?_; refine WD.idxI 6 1 rfl (by kernel_rfl) rfl rfl (fun _ _ _ _ _ h => h) rfl rfl rfl rfl hv rfl rfl (by omega) (.inr hS) fun p1 q1 => ?_; refine K.wl 7 [8, 9, 10, 16, 21, 22, 23] rfl rfl rfl rfl rfl rfl rfl (fun wx hx => (heap_cell hx _).trans q1) hS ?_; refine WD.idxI 12 2 rfl (by kernel_rfl) rfl rfl (fun _ _ _ _ _ h => h) rfl rfl rfl rfl hv rfl rfl (by omega) (.inr hS) fun p2 q2 => ?_; refine K.wl 13 [14, 15, 16, 21, 22, 23] rfl rfl rfl rfl rfl rfl rfl (fun wx hx => (heap_cell hx _).trans q2) hS ?_; refine WD.idxI 18 3 rfl (by kernel_rfl) rfl rfl (fun _ _ _ _ _ h => h) rfl rfl rfl rfl hv rfl rfl (by omega) (.inr hS) fun p3 q3 => ?_; refine K.wl 19 [20, 21, 22, 23] rfl rfl rfl rfl rfl rfl rfl (fun wx hx => (heap_cell hx _).trans q3) hS ?_; refine K.fr [3, 4, 8, 9, 10, 14, 15, 16, 20] hS ?_; refine K.wo 21 ?_; refine WL.pure rfl rfl rfl rfl ?_; refine WL.as 28 (.int .u32 ((Crc.num4 l : Nat) : Int)) rfl (congrArg (Value.int .u32) h32) ?_; refine K.dl ?_
  (refine K.fzl 22 rfl (q := ?_); refine K.fzl 23 rfl (q := ?_))
  refine WD.done (by kernel_rfl) ?_; refine K.kgo ?_; exact WQ.ret2 rfl rfl rfl ⟨rfl, hb2⟩
set_option maxHeartbeats 1000000 in
theorem rfdec_any {w : World} {v : Value} {l : List Int} (hv : Sl .u8 w v l) (hb : Frm.Byt l) (hl : l.length ≤ 140737488355328) : Calls Try.prog 60 #[v] w (FdcOut w l) := by
  obtain ⟨sp, cap, rfl, h1, h2, -⟩ := id hv; refine enter (args := [.slice sp l.length cap]) Try.func60 rfl Try.ntmps60 rfl ?_
  by_cases c8 : l.length < 8
  · have e2 : Frm.decF l = (2, [], 0) := by unfold Frm.decF; rw [if_pos c8]
    refine K.kgo ?_; exact WQ.ret3w rfl rfl rfl rfl (FdcOut.bad e2 (Below.refl _ _))
  have hbd : Frm.Byt (l.drop 4) := fun c hc => hb c (List.mem_of_mem_drop hc); have hn := Crc.num4_lt l hb; have hm := Crc.num4_lt _ hbd; have hcs := Crc.crcN_lt (Crc.be4 (Crc.num4 l)); have h4 : l.take 4 = Crc.be4 (Crc.num4 l) := by
    have := be4_split (l := l) (by omega) hb
    conv => lhs; rw [this]
    rfl
  have hdef : Frm.decF l = (if Crc.num4 (l.drop 4) ≠ Crc.crcN (Crc.be4 (Crc.num4 l)) then (4, [], 0)
    else if 524288 < Crc.num4 l then (5, [], 0)
    else if l.length < Crc.num4 l + 12 then (2, [], 0)
    else if Crc.num4 (l.drop (8 + Crc.num4 l)) ≠ Crc.crcN (l.take (8 + Crc.num4 l)) then (4, [], 0)
    else (0, (l.take (8 + Crc.num4 l)).drop 8, Crc.num4 l + 12)) := by
    conv => lhs; unfold Frm.decF
    rw [if_neg c8]
  have e1 : rsV l = [.int .u32 (Crc.num4 l : Nat), .int .i64 0] := by unfold rsV; rw [if_neg (by omega)]
  have e3 : rsV (l.drop 4) = [.int .u32 (Crc.num4 (l.drop 4) : Nat), .int .i64 0] := by unfold rsV; rw [if_neg (by rw [List.length_drop]; omega)]
  refine K.kgo ?_; refine WL.call rfl rfl rfl rfl rfl Try.func74 rfl (by kernel_rfl) (rreadS_any hv hb) ?_; rintro _ w1 ⟨rfl, k1⟩; refine ⟨_, rfl, ?_⟩; rw [e1]; generalize hN : Crc.num4 l = N at hn hcs hdef h4 ⊢; generalize hM : Crc.num4 (l.drop 4) = M at hm hdef e3 ⊢; refine K.kgo ?_; refine WL.from rfl rfl rfl rfl rfl rfl rfl (by omega) (by omega) (hv.of_below k1) fun v2 hv2 => ?_
  rw [show (4 : Int).toNat = 4 from rfl] at hv2; refine WL.call rfl rfl rfl rfl rfl Try.func74 rfl (by kernel_rfl) (rreadS_any hv2 hbd) ?_; rintro _ w2 ⟨rfl, k2⟩; refine ⟨_, rfl, ?_⟩; rw [e3]; have hw2 : Below w.heap.size w w2 := k1.trans (k2.mono k1.size); have hv22 := hv.of_below hw2; clear k1 k2 hv2; refine K.kgo ?_; refine WL.upto rfl rfl rfl rfl rfl rfl rfl (by omega) (by omega) hv22 fun v3 hv3 => ?_; rw [show (4 : Int).toNat = 4 from rfl, h4] at hv3; refine WL.call rfl rfl rfl rfl rfl Try.func54 rfl (by kernel_rfl) (rsum_any hv3 (Crc.be4_byt _) (by show 4 ≤ _; omega)) ?_; rintro _ _ ⟨rfl, rfl⟩; refine ⟨_, rfl, ?_⟩; generalize hC : Crc.crcN (Crc.be4 N) = C at hcs hdef ⊢
  by_cases c1 : ¬ M = C
  · rw [if_pos c1] at hdef
    refine K.kgo ?_; exact WQ.ret3w rfl rfl rfl rfl (FdcOut.bad hdef hw2)
  rw [if_neg c1] at hdef; replace c1 : M = C := by omega
  by_cases c2 : 524288 < N
  · rw [if_pos c2] at hdef
    refine K.kgo ?_; exact WQ.ret3w rfl rfl rfl rfl (FdcOut.bad hdef hw2)
  rw [if_neg c2] at hdef
  by_cases c3 : l.length < N + 12
  · rw [if_pos c3] at hdef
    refine K.kgo ?_; exact WQ.ret3w rfl rfl rfl rfl (FdcOut.bad hdef hw2)
  rw [if_neg c3] at hdef; have hz3 : ((8 : Int) + (N : Int)).toNat = 8 + N := by omega
  have hbd4 : Frm.Byt (l.drop (8 + N)) := fun c hc => hb c (List.mem_of_mem_drop hc); have e4 : rsV (l.drop (8 + N)) = [.int .u32 (Crc.num4 (l.drop (8 + N)) : Nat), .int .i64 0] := by unfold rsV; rw [if_neg (by rw [List.length_drop]; omega)]
  have hl3 : (l.take (8 + N)).length = 8 + N := by rw [List.length_take]; omega
  have hbt : Frm.Byt (l.take (8 + N)) := fun c hc => hb c (List.mem_of_mem_take hc); refine K.kgo ?_; refine WL.from rfl rfl rfl rfl rfl rfl rfl (by omega) (by omega) hv22 fun v4 hv4 => ?_
  rw [hz3] at hv4; refine WL.call rfl rfl rfl rfl rfl Try.func74 rfl (by kernel_rfl) (rreadS_any hv4 hbd4) ?_; rintro _ w3 ⟨rfl, k3⟩; refine ⟨_, rfl, ?_⟩; rw [e4]; have hw3 : Below w.heap.size w w3 := hw2.trans (k3.mono hw2.size); have hv33 := hv.of_below hw3; clear k3 hv4 hv22; refine K.kgo ?_; refine WL.upto rfl rfl rfl rfl rfl rfl rfl (by omega) (by omega) hv33 fun v5 hv5 => ?_; rw [hz3] at hv5; refine WL.call rfl rfl rfl rfl rfl Try.func54 rfl (by kernel_rfl) (rsum_any hv5 hbt (by omega)) ?_; rintro _ w3 ⟨rfl, rfl⟩; refine ⟨_, rfl, ?_⟩; generalize Crc.num4 (l.drop (8 + N)) = x at hdef ⊢; generalize Crc.crcN (l.take (8 + N)) = y at hdef ⊢
  by_cases c4 : x ≠ y
  · rw [if_pos c4] at hdef
    refine K.kgo ?_; exact WQ.ret3w rfl rfl rfl rfl (FdcOut.bad hdef hw3)
  rw [if_neg c4] at hdef; have hl5 : ((l.take (8 + N)).drop 8).length = N := by rw [List.length_drop]; omega
  refine K.kgo ?_; refine WL.empty rfl rfl rfl rfl rfl fun g6 w6 hf0 => ?_; have hf6 : Fresh w3 g6 w6 5 [] := hf0; clear hf0; have hg6 : w3.heap.size ≤ g6 := by rw [hf6.eq]; exact Nat.le_refl _
  have hv36 := hv33.of_below hf6.below; refine K.kgo ?_; refine WL.fromto rfl rfl rfl rfl rfl rfl rfl rfl (by omega) (by omega) (by omega) hv36 fun v7 hv7 => ?_; rw [hz3, show (8 : Int).toNat = 8 from rfl] at hv7; refine WL.app rfl rfl rfl rfl rfl (Bu.ofFresh hf6) rfl hv7 (by simp only [List.length_nil]; omega) fun b8 w8 q8 g8 => ?_; have hk8 : Below w3.heap.size w3 w8 := hf6.below.trans (g8.old hf6.below.size fun g hg => by cases hg; exact hg6); have ho8 : ∀ g, b8.ownBlock = some g → w3.heap.size ≤ g := g8.own hf6.below.size fun g hg => by cases hg; exact hg6
  rw [List.nil_append] at q8; refine K.kgo ?_; refine WQ.ret3w rfl rfl rfl rfl ?_; unfold FdcOut; rw [hdef]; refine ⟨b8, ?_, q8, hw3.trans (hk8.mono hw3.size), fun g hg => Nat.le_trans hw3.size (ho8 g hg)⟩; have hfin : (8 : Int) + (N : Int) + 4 = ((N + 12 : Nat) : Int) := by omega
  show Ending.returned (.tuple #[b8, .int .i64 ((8 : Int) + (N : Int) + 4), .int .i64 0]) = _
  rw [hfin]
end K
end Go.Proofs.Ytdkkaliiofcflaa

namespace Go.Proofs.Ytdkkaliiofcflaa
open Go.RowKit
namespace K
theorem qR_M {m lo hi : Int} {P : List Int} (h : lo ≤ nth P 1 ∧ nth P 1 ≤ hi) : qR m lo hi P = qM m P := by
  match P with
  | [] => exact if_neg (fun q => by have := q.1; simp at this)
  | [a] => exact if_neg (fun q => by have := q.1; simp at this)
  | a :: b :: r =>
    by_cases ha : a = m
    · have e2 : qM m (a :: b :: r) = some r := if_pos ha
      rw [e2]; exact if_pos ⟨by simp, ha, h⟩
    · have e2 : qM m (a :: b :: r) = none := if_neg ha
      rw [e2]; exact if_neg fun q => ha q.2.1
theorem qR_no {m lo hi : Int} {P : List Int} (h : ¬ (lo ≤ nth P 1 ∧ nth P 1 ≤ hi)) : qR m lo hi P = none := if_neg fun q => h q.2.2
theorem rq5_fin {P : List Int} {o2 o3 o4 o5 o6 : Ro} {m : Nat} (h2 : o2 = qR 81 1 20 P) (h3 : o3 = (qUp 9007199254740992 o2).2) (h4 : o4 = (qNums o3).2) (hm : m = (qUp 4096 o4).1) (h5 : o5 = (qUp 4096 o4).2) (h6 : o6 = (qT m o5).2) :
    (∃ vs r, qVals 40 o6 = some (vs, r) ∧ r.length = 32 ∧ rdRq P = some ⟨nth P 1, (qUp 9007199254740992 o2).1, (qNums o3).1, strOfNums (qT m o5).1, vs, r⟩ ∧ o2 ≠ none ∧ o4 ≠ none ∧ o6 ≠ none) ∨ (rdRq P = none ∧ (qT 32 (qE (qVals 40 o6))).2 ≠ some []) := by
  by_cases hk : 1 ≤ nth P 1 ∧ nth P 1 ≤ 20
  · rw [qR_M hk] at h2
    subst h2 h3 h4 hm h5 h6; unfold rdRq; cases hV : qVals 40 (qT (qUp 4096 (qNums (qUp 9007199254740992 (qM 81 P)).2).2).1 (qUp 4096 (qNums (qUp 9007199254740992 (qM 81 P)).2).2).2).2 with
    | none => exact .inr ⟨rfl, fun h => by cases h⟩
    | some p =>
      obtain ⟨vs, r⟩ := p; simp only
      by_cases hl : r.length = 32
      · rw [if_pos ⟨hl, hk⟩]
        refine .inl ⟨vs, r, rfl, hl, rfl, fun e => ?_, fun e => ?_, fun e => ?_⟩
        · rw [e, qUp_none, qNums_none, qUp_none, show (qT 0 none).2 = none from rfl, qVals_none] at hV
          cases hV
        · rw [e, qUp_none, show (qT 0 none).2 = none from rfl, qVals_none] at hV
          cases hV
        · rw [e, qVals_none] at hV
          cases hV
      · rw [if_neg fun q => hl q.1]
        refine .inr ⟨rfl, fun h => ?_⟩; change (if r.length < 32 then (([], none) : List Int × Ro) else (r.take 32, some (r.drop 32))).2 = some [] at h
        split at h
        · cases h
        · have := congrArg List.length (Option.some.inj h)
          rw [List.length_drop, List.length_nil] at this; omega
  · rw [qR_no hk] at h2
    subst h2; rw [qUp_none] at h3; subst h3; rw [qNums_none] at h4; subst h4; rw [qUp_none] at hm h5; subst hm h5; have h6 : o6 = none := h6; subst h6; rw [qVals_none]; refine .inr ⟨?_, fun h => by cases h⟩; unfold rdRq; cases qVals 40 (qT (qUp 4096 (qNums (qUp 9007199254740992 (qM 81 P)).2).2).1 (qUp 4096 (qNums (qUp 9007199254740992 (qM 81 P)).2).2).2).2 with
    | none => rfl
    | some p => exact if_neg fun q => hk q.2
theorem rp5_fin {P : List Int} (hb : Byt P) {o2 o3 o4 : Ro} (h2 : o2 = qR 82 0 100 P) (h3 : o3 = (qUp 9007199254740992 o2).2) (h4 : o4 = (qNums o3).2) :
    (∃ vs r d, qVals 4096 o4 = some (vs, r) ∧ qT (qUp 524288 (some r)).1 (qUp 524288 (some r)).2 = (d, some []) ∧ rdRp P = some ⟨((qUp 9007199254740992 o2).1 : Nat), nth P 1, (qNums o3).1, vs, d⟩ ∧ o2 ≠ none ∧ o4 ≠ none) ∨ (rdRp P = none ∧ (qT (qUp 524288 (qE (qVals 4096 o4))).1 (qUp 524288 (qE (qVals 4096 o4))).2).2 ≠ some []) := by
  have h0 : 0 ≤ nth P 1 := by
    match P with
    | [] => exact Int.le_refl 0
    | [a] => exact Int.le_refl 0
    | a :: b :: r => exact (hb b (by simp)).1
  by_cases hk : nth P 1 ≤ 100
  · rw [qR_M ⟨h0, hk⟩] at h2
    subst h2 h3 h4; unfold rdRp; cases hV : qVals 4096 (qNums (qUp 9007199254740992 (qM 82 P)).2).2 with
    | none => exact .inr ⟨rfl, by show (qT (qUp 524288 none).1 (qUp 524288 none).2).2 ≠ some []; rw [qUp_none]; exact fun h => by cases h⟩
    | some p =>
      obtain ⟨vs, r⟩ := p; simp only
      rcases hT : qT (qUp 524288 (some r)).1 (qUp 524288 (some r)).2 with ⟨d, o⟩
      have hE : qE (some (vs, r)) = some r := rfl; rw [hE, hT]; have ho : ∀ {q : Prop}, qVals 4096 none = some (vs, r) → q := fun h => by rw [qVals_none] at h; cases h
      cases o with
      | none => exact .inr ⟨rfl, fun h => by cases h⟩
      | some l =>
        cases l with
        | cons a l => exact .inr ⟨rfl, fun h => by cases h⟩
        | nil =>
          simp only
          rw [if_pos hk]; refine .inl ⟨vs, r, d, rfl, hT, rfl, fun e => ?_, fun e => ?_⟩
          · rw [e, qUp_none, qNums_none] at hV
            exact ho hV
          · rw [e] at hV
            exact ho hV
  · rw [qR_no (fun q => hk q.2)] at h2
    subst h2; rw [qUp_none] at h3; subst h3; rw [qNums_none] at h4; subst h4; rw [qVals_none]; refine .inr ⟨?_, by show (qT (qUp 524288 none).1 (qUp 524288 none).2).2 ≠ some []; rw [qUp_none]; exact fun h => by cases h⟩; unfold rdRp; cases qVals 4096 (qNums (qUp 9007199254740992 (qM 82 P)).2).2 with
    | none => rfl
    | some p =>
      obtain ⟨vs, r⟩ := p; simp only
      split
      · exact if_neg hk
      · rfl
theorem not_nil {o : Ro} (h : o ≠ some []) : o = none ∨ ∃ l, o = some l ∧ 0 < l.length := by
  cases o with
  | none => exact .inl rfl
  | some l =>
    cases l with
    | nil => exact absurd rfl h
    | cons a l => exact .inr ⟨_, rfl, Nat.succ_pos _⟩
theorem ropen_ok {w : World} {v : Value} {P : List Int} (hv : Sl .u8 w v (Frm.frameL P)) (hb : Frm.Byt P) (hl : P.length ≤ 524288) :
    Calls Try.prog 38 #[v] w fun e w' => ∃ rb, e = .returned (.tuple #[.pointer (some ⟨rb, 0, none⟩), .int .i64 0]) ∧ WR5 w'.heap.size w' rb P ∧ Below w.heap.size w w' ∧ w.heap.size ≤ rb := by
  have hFl := Frm.frameL_len P; have hFb : Frm.Byt (Frm.frameL P) := fun c hc => by
    unfold Frm.frameL Frm.headF at hc; rcases List.mem_append.1 hc with h | h
    · exact (List.mem_append.1 h).elim (Crc.be4_byt _ c) (Crc.be4_byt _ c)
    · exact (List.mem_append.1 h).elim (hb c) (Crc.be4_byt _ c)
  have hdec : Frm.decF (Frm.frameL P) = (0, P, P.length + 12) := by
    have := Frm.decF_enc hl []
    rwa [List.append_nil] at this
  generalize Frm.frameL P = F at hv hFl hFb hdec; obtain ⟨sp, cap, rfl, -⟩ := id hv; refine enter (args := [.slice sp F.length cap]) Try.func38 rfl Try.ntmps38 rfl ?_; refine K.kgo ?_; refine WL.call rfl rfl rfl rfl rfl Try.func60 rfl (by kernel_rfl) (rfdec_any hv hFb (by omega)) ?_; rintro _ w1 ⟨b, rfl, q1, k1, o1⟩; refine ⟨_, rfl, ?_⟩; have d1 : (Frm.decF F).1 = 0 := by rw [hdec]
  have d2 : (Frm.decF F).2.1 = P := by rw [hdec]
  have d3 : (Frm.decF F).2.2 = P.length + 12 := by rw [hdec]
  rw [d2] at q1; rw [d1, d3]; obtain ⟨spb, capb, rfl, -⟩ := id q1.form; have hF' : ((P.length + 12 : Nat) : Int) = (F.length : Int) := by omega
  refine K.kgo ?_; refine WL.build [.slice spb P.length capb, .bool false] rfl rfl rfl rfl rfl (by kernel_rfl) ?_; refine WL.box rfl rfl rfl rfl rfl fun g w2 hf0 => ?_; have hf : Fresh w1 g w2 88 [.slice spb P.length capb, .bool false] := hf0; clear hf0; have hge := hf.eq; have hgs := hf.size; have q2 := q1.below hf.below; have T := hf.blk; have k2 : Below w.heap.size w w2 := k1.trans (hf.below.mono k1.size); refine K.kgo ?_; refine WQ.ret2 rfl rfl rfl ⟨g, rfl, ⟨by omega, hb, ?_⟩, k2, by have := k1.size; omega⟩; have hob : (Value.slice spb P.length capb).ownBlock ≠ some g := fun e => by have := q1.lt _ e; omega
  exact ⟨spb, capb, T, q2.sl, fun h0 b' o' s' n' c' e => by
    injection e with e1 _ _
    subst e1; have : (Value.slice (some ⟨b', o', s'⟩) P.length capb).ownBlock = some b' := rfl; exact ⟨q2.lt _ this, fun e => hob (by rw [this, e])⟩⟩
theorem ropen_bad {w : World} {v : Value} {l : List Int} {x : Int} (hv : Sl .u8 w v l) (hb : Frm.Byt l) (hl : l.length ≤ 140737488355328) (hx : Bad l x) : Calls Try.prog 38 #[v] w fun e w' => e = .returned (.tuple #[.pointer none, .int .i64 x]) ∧ Below w.heap.size w w' := by
  obtain ⟨sp, cap, rfl, h1, h2, -⟩ := id hv; refine enter (args := [.slice sp l.length cap]) Try.func38 rfl Try.ntmps38 rfl ?_; refine K.kgo ?_; refine WL.call rfl rfl rfl rfl rfl Try.func60 rfl (by kernel_rfl) (rfdec_any hv hb hl) ?_; rintro _ w1 ⟨b, rfl, -, k1, -⟩; refine ⟨_, rfl, ?_⟩; unfold Bad at hx; generalize (Frm.decF l).1 = e at hx ⊢; generalize (Frm.decF l).2.2 = m at hx ⊢; rcases hx with ⟨rfl, h0⟩ | ⟨rfl, h3, rfl⟩
  · refine K.kgo ?_
    exact WQ.ret2 rfl rfl rfl ⟨rfl, k1⟩
  · have h3' : (m : Int) ≠ (l.length : Int) := by omega
    refine K.kgo ?_; exact WQ.ret2 rfl rfl rfl ⟨rfl, k1⟩
theorem rdec_bad {w : World} {v : Value} {l : List Int} {x : Int} (hv : Sl .u8 w v l) (hb : Frm.Byt l) (hl : l.length ≤ 140737488355328) (hx : Bad l x) (h0 : x ≠ 0) : Calls Try.prog 19 #[v] w fun e w' => e = .returned (.tuple #[.agg zReq.toArray, .int .i64 x]) ∧ Below w.heap.size w w' := by
  obtain ⟨sp, cap, rfl, h1, h2, -⟩ := id hv; refine enter (args := [.slice sp l.length cap]) Try.func19 rfl Try.ntmps19 rfl ?_; refine K.kgn ?_; refine WL.alloc (z := .agg zReq.toArray) rfl rfl rfl rfl (fun _ => by kernel_rfl) fun g w1 hf0 => ?_; have hf : Fresh w g w1 33 zReq := hf0; clear hf0; have hB := hf.below; have hg := hf.eq; have T := hf.blk; clear hf; refine K.kgo ?_; refine WL.call rfl rfl rfl rfl rfl Try.func38 rfl (by kernel_rfl) (ropen_bad (hv.of_below hB) hb hl hx) ?_; rintro _ w2 ⟨rfl, k2⟩; refine ⟨_, rfl, ?_⟩; have T2 := T.below k2 T.lt; refine K.kgo ?_; refine WL.build zReq rfl rfl rfl rfl rfl (by kernel_rfl) ?_; refine K.kgo ?_; refine WL.storeRow rfl rfl rfl rfl rfl rfl T2 rfl rfl zReq_ones ?_; have hw2 : Below w.heap.size w w2 := hB.trans (k2.mono hB.size); have hw3 : Below w.heap.size w (w2.setRow g zReq.toArray) := below_setRow hw2 (by omega) _; have T3 := T2.setRow zReq; generalize w2.setRow g zReq.toArray = w3 at hw3 T3 ⊢; refine K.kgo ?_; exact WQ.retCTw rfl rfl rfl rfl rfl T3 ⟨rfl, hw3⟩
structure XSt5 (T B rb gx : Nat) (w0 w : World) (o : Ro) (cells : List Value) : Prop where
  r : WX5 B w rb o
  hBg : B ≤ gx
  hg : gx < w.heap.size
  w0r : w0.heap.size ≤ rb
  x : VBlk T w gx cells
  below : Below w0.heap.size w0 w
section
variable {T B rb gx : Nat} {w0 w w' : World} {o o' : Ro} {cells cells' : List Value}
theorem XSt5.rg (s : XSt5 T B rb gx w0 w o cells) : rb < gx := Nat.lt_of_lt_of_le s.r.rlt s.hBg
theorem XSt5.keep (s : XSt5 T B rb gx w0 w o cells) {K : Nat → Prop} (k : Keep K w w') (hK : ∀ b, b < w.heap.size → b ≠ rb → b ≠ gx → K b) (r' : WX5 B w' rb o') (x' : VBlk T w' gx cells') : XSt5 T B rb gx w0 w' o' cells' := by
  have h1 := s.rg; have h3 := s.w0r; have h4 := s.hg; exact ⟨r', s.hBg, Nat.lt_of_lt_of_le s.hg k.size, s.w0r, x', s.below.trans (Keep.below (k.mono fun b hb => hK b (by omega) (by omega) (by omega)))⟩
theorem XSt5.call (s : XSt5 T B rb gx w0 w o cells) (r' : WX5 B w' rb o') (k : KeepR rb w w') : XSt5 T B rb gx w0 w' o' cells :=
  s.keep k (fun b h1 h2 _ => ⟨h1, h2⟩) r' (s.x.keep k ⟨s.x.lt, by have := s.rg; omega⟩)
theorem XSt5.put (s : XSt5 T B rb gx w0 w o cells) (i : Nat) (u : Value) : XSt5 T B rb gx w0 (w.setCell ⟨gx, i, none⟩ u) o (cells.set i u) :=
  s.keep (K := fun b => b ≠ gx) ((Keep.refl _ w).setCell (fun hk => hk rfl) _) (fun b _ _ h => h) (s.r.keep (K := fun b => b ≠ gx) ((Keep.refl _ w).setCell (fun hk => hk rfl) _) fun b hb => by have := s.hBg; omega) (s.x.set i u)
theorem XSt5.row (s : XSt5 T B rb gx w0 w o cells) (cs : List Value) : XSt5 T B rb gx w0 (w.setRow gx cs.toArray) o cs :=
  s.keep (K := fun b => b ≠ gx) (Keep.setRow (Keep.refl _ w) (fun hk => hk rfl) _) (fun b _ _ h => h) (s.r.keep (K := fun b => b ≠ gx) (Keep.setRow (Keep.refl _ w) (fun hk => hk rfl) _) fun b hb => by have := s.hBg; omega) (s.x.setRow cs)
theorem XSt5.down (s : XSt5 T B rb gx w0 w o cells) (k : Below w.heap.size w w') : XSt5 T B rb gx w0 w' o cells :=
  s.keep (Keep.of_below k) (fun b h _ _ => h) (s.r.keep (Keep.of_below k) fun b hb => by have := s.hBg; have := s.hg; omega) (s.x.below k s.x.lt)
end
theorem XSt5.grow {T B rb gx : Nat} {w0 w w' : World} {o o' : Ro} {cells cells' : List Value} (s : XSt5 T B rb gx w0 w o cells) {K : Nat → Prop} (k : Keep K w w') (hK : ∀ b, b < w0.heap.size → K b) (r' : WX5 B w' rb o') (x' : VBlk T w' gx cells') : XSt5 T B rb gx w0 w' o' cells' :=
  ⟨r', s.hBg, Nat.lt_of_lt_of_le s.hg k.size, s.w0r, x', s.below.trans (Keep.below (k.mono hK))⟩
theorem ValsX5.wx {B rb : Nat} {w w' : World} {v : Value} {x : Option (List V × List Int)} (h : ValsX5 B rb w v w' x) : WX5 B w' rb (qE x) := by
  cases x with
  | none => exact h
  | some p => exact h.2
theorem zRep_ones5 : Ones zRep := by
  intro u hu; simp only [zRep, List.mem_cons, List.not_mem_nil, or_false] at hu; rcases hu with rfl | rfl | rfl | rfl | rfl <;> rfl
theorem rdecR_bad {w : World} {v : Value} {l : List Int} {x : Int} (hv : Sl .u8 w v l) (hb : Frm.Byt l) (hl : l.length ≤ 140737488355328) (hx : Bad l x) (h0 : x ≠ 0) : Calls Try.prog 20 #[v] w fun e w' => e = .returned (.tuple #[.agg zRep.toArray, .int .i64 x]) ∧ Below w.heap.size w w' := by
  obtain ⟨sp, cap, rfl, h1, h2, -⟩ := id hv; refine enter (args := [.slice sp l.length cap]) Try.func20 rfl Try.ntmps20 rfl ?_; refine K.kgn ?_; refine WL.alloc (z := .agg zRep.toArray) rfl rfl rfl rfl (fun _ => by kernel_rfl) fun g w1 hf0 => ?_; have hf : Fresh w g w1 46 zRep := hf0; clear hf0; have hB := hf.below; have hg := hf.eq; have T := hf.blk; clear hf; refine K.kgo ?_; refine WL.call rfl rfl rfl rfl rfl Try.func38 rfl (by kernel_rfl) (ropen_bad (hv.of_below hB) hb hl hx) ?_; rintro _ w2 ⟨rfl, k2⟩; refine ⟨_, rfl, ?_⟩; have T2 := T.below k2 T.lt; refine K.kgo ?_; refine WL.build zRep rfl rfl rfl rfl rfl (by kernel_rfl) ?_; refine K.kgo ?_; refine WL.storeRow rfl rfl rfl rfl rfl rfl T2 rfl rfl zRep_ones5 ?_; have hw2 : Below w.heap.size w w2 := hB.trans (k2.mono hB.size); have hw3 : Below w.heap.size w (w2.setRow g zRep.toArray) := below_setRow hw2 (by omega) _; have T3 := T2.setRow zRep; generalize w2.setRow g zRep.toArray = w3 at hw3 T3 ⊢; refine K.kgo ?_; exact WQ.retCTw rfl rfl rfl rfl rfl T3 ⟨rfl, hw3⟩
theorem wdecR_bad {w : World} {v : Value} {l : List Int} {x : Int} (hv : Sl .u8 w v l) (hb : Frm.Byt l) (hl : l.length ≤ 140737488355328) (hx : Bad l x) (h0 : x ≠ 0) : Calls Try.prog 17 #[v] w fun e w' => e = .returned (.tuple #[.agg zRep.toArray, .int .i64 x]) ∧ Below w.heap.size w w' := by
  obtain ⟨sp, cap, rfl, h1, h2, -⟩ := id hv; refine enter (args := [.slice sp l.length cap]) Try.func17 rfl Try.ntmps17 rfl ?_; refine K.kgn ?_; refine WL.alloc (z := .agg zRep.toArray) rfl rfl rfl rfl (fun _ => by kernel_rfl) fun g w1 hf0 => ?_; have hf : Fresh w g w1 45 zRep := hf0; clear hf0; have hB := hf.below; have hg := hf.eq; have T := hf.blk; clear hf; refine K.kgo ?_; refine WL.call rfl rfl rfl rfl rfl Try.func30 rfl (by kernel_rfl) (wopen_bad (hv.of_below hB) hb hl hx) ?_; rintro _ w2 ⟨rfl, k2⟩; refine ⟨_, rfl, ?_⟩; have T2 := T.below k2 T.lt; refine K.kgo ?_; refine WL.build zRep rfl rfl rfl rfl rfl (by kernel_rfl) ?_; refine K.kgo ?_; refine WL.storeRow rfl rfl rfl rfl rfl rfl T2 rfl rfl zRep_ones5 ?_; have hw2 : Below w.heap.size w w2 := hB.trans (k2.mono hB.size); have hw3 : Below w.heap.size w (w2.setRow g zRep.toArray) := below_setRow hw2 (by omega) _; have T3 := T2.setRow zRep; generalize w2.setRow g zRep.toArray = w3 at hw3 T3 ⊢; refine K.kgo ?_; exact WQ.retCTw rfl rfl rfl rfl rfl T3 ⟨rfl, hw3⟩
set_option maxHeartbeats 4000000 in
theorem rdec_none {w : World} {v : Value} {P : List Int} (hv : Sl .u8 w v (Frm.frameL P)) (hby : Frm.Byt P) (hlen : P.length ≤ 524288) (hn : rdRq P = none) : Calls Try.prog 19 #[v] w fun e w' => e = .returned (.tuple #[.agg zReq.toArray, .int .i64 3]) ∧ Below w.heap.size w w' := by
  refine enter (args := [v]) Try.func19 rfl Try.ntmps19 rfl ?_; refine K.kgn ?_; refine WL.alloc (z := .agg zReq.toArray) rfl rfl rfl rfl (fun _ => by kernel_rfl) fun g1 w1 hf0 => ?_; have hf1 : Fresh w g1 w1 33 zReq := hf0; clear hf0; have hB1 := hf1.below; have hg1 := hf1.eq; have hz1 := hf1.size; have T1 := hf1.blk; clear hf1; refine K.kgo ?_; refine WL.call rfl rfl rfl rfl rfl Try.func38 rfl (by kernel_rfl) (ropen_ok (hv.of_below hB1) hby hlen) ?_; rintro _ w2 ⟨rb, rfl, hr2, k2, hrb⟩; refine ⟨_, rfl, ?_⟩; clear hlen hv; have hz2 := k2.size; refine K.kgo ?_; refine WL.alloc (z := .agg zReq.toArray) rfl rfl rfl rfl (fun _ => by kernel_rfl) fun gx w3 hf0 => ?_; have hf3 : Fresh w2 gx w3 33 zReq := hf0; clear hf0; have hgx := hf3.eq; have hz3 := hf3.size; have s3 : XSt5 33 w2.heap.size rb gx w1 w3 (some P) zReq :=
    ⟨WX5.keep (o := some P) hr2 (Keep.of_below hf3.below) fun b hb => hb, by omega, by omega, hrb, hf3.blk, k2.trans (hf3.below.mono hz2)⟩
  clear hf3 hr2 k2; have hrg := s3.rg; obtain ⟨o2, h2⟩ : ∃ o, o = qR 81 1 20 P := ⟨_, rfl⟩; obtain ⟨o3, h3⟩ : ∃ o, o = (qUp 9007199254740992 o2).2 := ⟨_, rfl⟩; obtain ⟨o4, h4⟩ : ∃ o, o = (qNums o3).2 := ⟨_, rfl⟩; refine K.kgo ?_; refine WL.call rfl rfl rfl rfl rfl Try.func39 rfl (by kernel_rfl) (begin5_x s3.r (by have := s3.hg; have := s3.hBg; omega) (by omega)) ?_; rintro _ w4 ⟨kd, nv, ns, rfl, -, hN, -, hr, kk⟩; refine ⟨_, rfl, ?_⟩; have hnv := hN.one; rw [← h2, ← h3, ← h4] at hr; have s4 := s3.call hr kk; clear s3 hr kk hN; rw [← h2]; obtain ⟨sq, hsq⟩ : ∃ q : Nat, q = (qUp 9007199254740992 o2).1 := ⟨_, rfl⟩; rw [← hsq]; refine K.kgo ?_; refine WL.store (v := .int .i64 kd) rfl rfl rfl rfl rfl rfl (by kernel_rfl) (s4.x.cell 0 (by simp [zReq, reqC])) (s4.x.free 0) ?_; have s5 := s4.put 0 (.int .i64 kd); generalize w4.setCell ⟨gx, 0, none⟩ (.int .i64 kd) = w5 at s5 ⊢; clear s4; refine K.kgo ?_; refine WL.store (v := .int .i64 sq) rfl rfl rfl rfl rfl rfl (by kernel_rfl) (s5.x.cell 1 (by simp [zReq, reqC])) (s5.x.free 1) ?_; have s6 := s5.put 1 (.int .i64 sq); generalize w5.setCell ⟨gx, 1, none⟩ (.int .i64 sq) = w6 at s6 ⊢; clear s5; refine K.kgo ?_; refine WL.store (v := nv) rfl rfl rfl rfl rfl hnv (by kernel_rfl) (s6.x.cell 2 (by simp [zReq, reqC])) (s6.x.free 2) ?_; have s7 := s6.put 2 nv; generalize w6.setCell ⟨gx, 2, none⟩ nv = w7 at s7 ⊢; clear s6; refine K.kgo ?_; obtain ⟨m, hm⟩ : ∃ q : Nat, q = (qUp 4096 o4).1 := ⟨_, rfl⟩; obtain ⟨o5, ho5⟩ : ∃ q, q = (qUp 4096 o4).2 := ⟨_, rfl⟩; have hlem := qUp_le 4096 o4; refine WL.call rfl rfl rfl rfl rfl Try.func41 rfl (by kernel_rfl) (count5_x 4096 s7.r (by omega)) ?_; rintro _ w8 ⟨rfl, hr, kk⟩; refine ⟨_, rfl, ?_⟩; rw [← ho5] at hr; rw [← hm] at hlem ⊢; have s8 := s7.call hr kk; clear s7 hr kk; obtain ⟨o6, ho6⟩ : ∃ q, q = (qT m o5).2 := ⟨_, rfl⟩; have hle := (qT_byt (n := m) s8.r.byt).2; refine WL.call rfl rfl rfl rfl rfl Try.func40 rfl (by kernel_rfl) (raw5_x m s8.r (by have := s8.hg; have := s8.hBg; omega) (by omega)) ?_; rintro _ w9 ⟨tv, L, rfl, htv, -, hL, hr, kk⟩; refine ⟨_, rfl, ?_⟩; have hLl : L.length ≤ 32 ∨ L.length ≤ m := by
    split at hL
    · rw [hL, List.length_replicate]; exact .inl (Nat.min_le_right _ _)
    · rw [hL]; exact .inr hle
  clear hL hle; rw [← ho6] at hr; have s9 := s8.call hr kk; clear s8 hr kk; refine WL.strOf rfl rfl rfl rfl rfl rfl rfl rfl htv ?_; clear htv hLl; refine K.kgo ?_; refine WL.store (v := .string (strOfNums L)) rfl rfl rfl rfl rfl rfl (by kernel_rfl) (s9.x.cell 3 (by simp [zReq, reqC])) (s9.x.free 3) ?_; have s10 := s9.put 3 (.string (strOfNums L)); generalize w9.setCell ⟨gx, 3, none⟩ (.string (strOfNums L)) = w10 at s10 ⊢; clear s9; have hfin := rq5_fin h2 h3 h4 hm ho5 ho6; refine K.kgo ?_; obtain ⟨o7, ho7⟩ : ∃ q, q = qE (qVals 40 o6) := ⟨_, rfl⟩; refine WL.call rfl rfl rfl rfl rfl Try.func42 rfl (by kernel_rfl) (values5_x 40 s10.r (by have := s10.hg; have := s10.hBg; omega) (by omega)) ?_; rintro _ w11 ⟨pv, rfl, hpv, hr, kk⟩; refine ⟨_, rfl, ?_⟩; have hr := hr.wx; rw [← ho7] at hr; have s11 := s10.call hr kk; clear s10 hr kk; refine K.kgo ?_; refine WL.store (v := pv) rfl rfl rfl rfl rfl hpv (by kernel_rfl) (s11.x.cell 4 (by simp [zReq, reqC])) (s11.x.free 4) ?_; have s12 := s11.put 4 pv; generalize w11.setCell ⟨gx, 4, none⟩ pv = w12 at s12 ⊢; clear s11; refine K.kgo ?_; refine WC.drawn 4 (fun _ => True) fun w13 hd => ?_; have s13 := s12.down (hd.below _); clear s12 hd; have hS : True := trivial; refine K.fr [0] hS ?_; refine WD.all 1 rfl (by kernel_rfl) rfl rfl (fun _ _ _ _ _ h => h) rfl rfl rfl rfl (.inr hS) ?_; refine K.fr [2] hS ?_; refine K.wo 3 ?_; obtain ⟨tx, htx⟩ : ∃ q : ByteArray, q = strOfNums L := ⟨_, rfl⟩; rw [← htx] at s13 ⊢; clear L htx; obtain ⟨oF, hoF⟩ : ∃ q, q = (qT 32 o7).2 := ⟨_, rfl⟩; have hle := (qT_byt (n := 32) s13.r.byt).2; refine WL.call rfl rfl rfl rfl rfl Try.func40 rfl (by kernel_rfl) (raw5_x 32 s13.r (by have := s13.hg; have := s13.hBg; omega) (by omega)) ?_; rintro _ w14 ⟨tv, L, rfl, htv, -, hL, hr, kk⟩; refine ⟨_, rfl, ?_⟩; have hLl : L.length ≤ 32 ∨ L.length ≤ 32 := by
    split at hL
    · rw [hL, List.length_replicate]; exact .inl (Nat.min_le_right _ _)
    · rw [hL]; exact .inr hle
  clear hL hle; rw [← hoF] at hr; have s14 := s13.call hr kk; clear s13 hr kk; refine K.di hS ?_; refine K.wo 4 ?_; refine WL.copy rfl rfl rfl rfl rfl rfl htv (by omega) s14.x (by simp [zReq, reqC]) ?_; refine K.dl ?_; refine WD.done (by kernel_rfl) ?_; have s15 := s14.row ((((((zReq.set 0 (.int .i64 kd)).set 1 (.int .i64 sq)).set 2 nv).set 3 (.string tx)).set 4 pv).take (0 + 5) ++ L.map (Value.int .u8) ++ (((((zReq.set 0 (.int .i64 kd)).set 1 (.int .i64 sq)).set 2 nv).set 3 (.string tx)).set 4 pv).drop (0 + 5 + L.length)); generalize (World.setRow w14 gx _) = w15 at s15 ⊢; clear s14 htv; have hbad := not_nil (hfin.elim (fun ⟨_, _, _, _, h, _⟩ => by rw [hn] at h; cases h) fun h => h.2); rw [← ho7, ← hoF] at hbad; obtain ⟨spF, nF, capF, hbF⟩ := s15.r.ex; have T9 := T1.below s15.below T1.lt; have hkw : Below w.heap.size w (w15.setRow g1 zReq.toArray) := below_setRow (hB1.trans (s15.below.mono hB1.size)) (by omega) _; have T10 := T9.setRow zReq; clear hoF; rcases hbad with rfl | ⟨l, rfl, hl⟩
  · have c1 : w15.cell? ⟨rb, 1, none⟩ = some (.bool true) := hbF.cell 1 (by simp)
    refine K.kgl ?_; refine WL.build zReq rfl rfl rfl rfl rfl (by kernel_rfl) ?_; refine K.kgo ?_; refine WL.storeRow rfl rfl rfl rfl rfl rfl T9 rfl rfl zReq_ones ?_; generalize w15.setRow g1 zReq.toArray = wz at hkw T10 ⊢; refine K.kgo ?_; exact WQ.retCTw rfl rfl rfl rfl rfl T10 ⟨rfl, hkw⟩
  · obtain ⟨spL, capL, hbL, -⟩ := WR5.ex s15.r
    have c1 : w15.cell? ⟨rb, 1, none⟩ = some (.bool false) := hbL.cell 1 (by simp); have c0 : w15.cell? ⟨rb, 0, none⟩ = some (.slice spL l.length capL) := hbL.cell 0 (by simp); refine K.kgl ?_; refine WL.build zReq rfl rfl rfl rfl rfl (by kernel_rfl) ?_; refine K.kgo ?_; refine WL.storeRow rfl rfl rfl rfl rfl rfl T9 rfl rfl zReq_ones ?_; generalize w15.setRow g1 zReq.toArray = wz at hkw T10 ⊢; refine K.kgo ?_; exact WQ.retCTw rfl rfl rfl rfl rfl T10 ⟨rfl, hkw⟩
set_option maxHeartbeats 4000000 in
theorem rdecR_none {w : World} {v : Value} {P : List Int} (hv : Sl .u8 w v (Frm.frameL P)) (hby : Frm.Byt P) (hlen : P.length ≤ 524288) (hn : rdRp P = none) : Calls Try.prog 20 #[v] w fun e w' => e = .returned (.tuple #[.agg zRep.toArray, .int .i64 3]) ∧ Below w.heap.size w w' := by
  refine enter (args := [v]) Try.func20 rfl Try.ntmps20 rfl ?_; refine K.kgn ?_; refine WL.alloc (z := .agg zRep.toArray) rfl rfl rfl rfl (fun _ => by kernel_rfl) fun g1 w1 hf0 => ?_; have hf1 : Fresh w g1 w1 46 zRep := hf0; clear hf0; have hB1 := hf1.below; have hg1 := hf1.eq; have hz1 := hf1.size; have T1 := hf1.blk; clear hf1; refine K.kgo ?_; refine WL.call rfl rfl rfl rfl rfl Try.func38 rfl (by kernel_rfl) (ropen_ok (hv.of_below hB1) hby hlen) ?_; rintro _ w2 ⟨rb, rfl, hr2, k2, hrb⟩; refine ⟨_, rfl, ?_⟩; clear hlen hv; have hz2 := k2.size; refine K.kgo ?_; refine WL.alloc (z := .agg zRep.toArray) rfl rfl rfl rfl (fun _ => by kernel_rfl) fun gx w3 hf0 => ?_; have hf3 : Fresh w2 gx w3 46 zRep := hf0; clear hf0; have hgx := hf3.eq; have hz3 := hf3.size; have s3 : XSt5 46 w2.heap.size rb gx w1 w3 (some P) zRep :=
    ⟨WX5.keep (o := some P) hr2 (Keep.of_below hf3.below) fun b hb => hb, by omega, by omega, hrb, hf3.blk, k2.trans (hf3.below.mono hz2)⟩
  clear hf3 hr2 k2; have hrg := s3.rg; obtain ⟨o2, h2⟩ : ∃ o, o = qR 82 0 100 P := ⟨_, rfl⟩; obtain ⟨o3, h3⟩ : ∃ o, o = (qUp 9007199254740992 o2).2 := ⟨_, rfl⟩; obtain ⟨o4, h4⟩ : ∃ o, o = (qNums o3).2 := ⟨_, rfl⟩; refine K.kgo ?_; refine WL.call rfl rfl rfl rfl rfl Try.func39 rfl (by kernel_rfl) (begin5_x s3.r (by have := s3.hg; have := s3.hBg; omega) (by omega)) ?_; rintro _ w4 ⟨kd, nv, ns, rfl, -, hN, -, hr, kk⟩; refine ⟨_, rfl, ?_⟩; have hnv := hN.one; rw [← h2, ← h3, ← h4] at hr; have s4 := s3.call hr kk; clear s3 hr kk hN; rw [← h2]; obtain ⟨sq, hsq⟩ : ∃ q : Nat, q = (qUp 9007199254740992 o2).1 := ⟨_, rfl⟩; rw [← hsq]; refine K.kgo ?_; refine WL.store (v := .int .i64 kd) rfl rfl rfl rfl rfl rfl (by kernel_rfl) (s4.x.cell 1 (by simp)) (s4.x.free 1) ?_; have s5 := s4.put 1 (.int .i64 kd); generalize w4.setCell ⟨gx, 1, none⟩ (.int .i64 kd) = w5 at s5 ⊢; clear s4; refine K.kgo ?_; refine WL.store (v := .int .i64 sq) rfl rfl rfl rfl rfl rfl (by kernel_rfl) (s5.x.cell 0 (by simp)) (s5.x.free 0) ?_; have s6 := s5.put 0 (.int .i64 sq); generalize w5.setCell ⟨gx, 0, none⟩ (.int .i64 sq) = w6 at s6 ⊢; clear s5; refine K.kgo ?_; refine WL.store (v := nv) rfl rfl rfl rfl rfl hnv (by kernel_rfl) (s6.x.cell 2 (by simp)) (s6.x.free 2) ?_; have s7 := s6.put 2 nv; generalize w6.setCell ⟨gx, 2, none⟩ nv = w7 at s7 ⊢; clear s6; have hfin := rp5_fin hby h2 h3 h4; refine K.kgo ?_; obtain ⟨o7, ho7⟩ : ∃ q, q = qE (qVals 4096 o4) := ⟨_, rfl⟩; refine WL.call rfl rfl rfl rfl rfl Try.func42 rfl (by kernel_rfl) (values5_x 4096 s7.r (by have := s7.hg; have := s7.hBg; omega) (by omega)) ?_; rintro _ w8 ⟨pv, rfl, hpv, hr, kk⟩; refine ⟨_, rfl, ?_⟩; have hr := hr.wx; rw [← ho7] at hr; have s8 := s7.call hr kk; clear s7 hr kk; refine K.kgo ?_; refine WL.store (v := pv) rfl rfl rfl rfl rfl hpv (by kernel_rfl) (s8.x.cell 3 (by simp)) (s8.x.free 3) ?_; have s9 := s8.put 3 pv; generalize w8.setCell ⟨gx, 3, none⟩ pv = w9 at s9 ⊢; clear s8; refine K.kgo ?_; refine WL.empty rfl rfl rfl rfl rfl fun g6 w10 hf0 => ?_; have hf6 : Fresh w9 g6 w10 5 [] := hf0; clear hf0; have s10 := s9.down hf6.below; have q10 := Bu.ofFresh hf6; have hg6 : w9.heap.size ≤ g6 := by rw [hf6.eq]; exact Nat.le_refl _
  have hs9 := s9.hg; have hgr := s9.rg; clear s9 hf6; refine K.kgo ?_; obtain ⟨m, hm⟩ : ∃ q : Nat, q = (qUp 524288 o7).1 := ⟨_, rfl⟩; obtain ⟨o8, ho8⟩ : ∃ q, q = (qUp 524288 o7).2 := ⟨_, rfl⟩; have hlem := qUp_le 524288 o7; refine WL.call rfl rfl rfl rfl rfl Try.func41 rfl (by kernel_rfl) (count5_x 524288 s10.r (by omega)) ?_; rintro _ w11 ⟨rfl, hr, kk⟩; refine ⟨_, rfl, ?_⟩; rw [← ho8] at hr; rw [← hm] at hlem ⊢; have s11 := s10.call hr kk; have q11 := q10.keep kk (fun g hg => by cases hg; exact ⟨q10.lt _ rfl, by show g6 ≠ rb; omega⟩); clear s10 hr kk q10; obtain ⟨oF, hoF⟩ : ∃ q, q = (qT m o8).2 := ⟨_, rfl⟩; have hle := (qT_byt (n := m) s11.r.byt).2; refine WL.call rfl rfl rfl rfl rfl Try.func40 rfl (by kernel_rfl) (raw5_x m s11.r (by have := s11.hg; have := s11.hBg; omega) (by omega)) ?_; rintro _ w12 ⟨tv, L, rfl, htv, -, hL, hr, kk⟩; refine ⟨_, rfl, ?_⟩; have hLl : L.length ≤ 32 ∨ L.length ≤ m := by
    split at hL
    · rw [hL, List.length_replicate]; exact .inl (Nat.min_le_right _ _)
    · rw [hL]; exact .inr hle
  clear hL hle; rw [← hoF] at hr; have s12 := s11.call hr kk; have q12 := q11.keep kk (fun g hg => by cases hg; exact ⟨q11.lt _ rfl, by show g6 ≠ rb; omega⟩); clear s11 hr kk q11; refine WL.app rfl rfl rfl rfl rfl q12 rfl htv (by simp only [List.length_nil]; omega) fun dv w13 hdv hgd => ?_; have hdo : dv.oneCell' = true := by obtain ⟨_, _, rfl, -⟩ := hdv.sl; rfl
  have hne6 : ∀ b, b < w9.heap.size → (Value.slice (some ⟨g6, 0, none⟩) 0 0).ownBlock ≠ some b := fun b hb e => by
    have : g6 = b := Option.some.inj e; omega
  have hs12 := s12.hg; have hs12b := s12.hBg; have hs12r := s12.w0r; have s13 : XSt5 46 w2.heap.size rb gx w1 w13 oF _ := s12.grow hgd.1 (fun b hb => ⟨by omega, hne6 b (by omega)⟩) (s12.r.keep hgd.1 fun b hb => ⟨by omega, hne6 b (by omega)⟩) (s12.x.keep hgd.1 ⟨s12.x.lt, hne6 gx (by omega)⟩); clear s12 hgd hdv htv; refine K.kgo ?_; refine WL.store (v := dv) rfl rfl rfl rfl rfl hdo (by kernel_rfl) (s13.x.cell 4 (by simp)) (s13.x.free 4) ?_; have s14 := s13.put 4 dv; generalize w13.setCell ⟨gx, 4, none⟩ dv = w14 at s14 ⊢; clear s13; have hbad := not_nil (hfin.elim (fun ⟨_, _, _, _, _, h, _⟩ => by rw [hn] at h; cases h) fun h => h.2); rw [← ho7, ← hm, ← ho8, ← hoF] at hbad; obtain ⟨spF, nF, capF, hbF⟩ := s14.r.ex; have T9 := T1.below s14.below T1.lt; have hkw : Below w.heap.size w (w14.setRow g1 zRep.toArray) := below_setRow (hB1.trans (s14.below.mono hB1.size)) (by omega) _; have T10 := T9.setRow zRep; clear hoF; rcases hbad with rfl | ⟨l, rfl, hl⟩
  · have c1 : w14.cell? ⟨rb, 1, none⟩ = some (.bool true) := hbF.cell 1 (by simp)
    refine K.kgl ?_; refine WL.build zRep rfl rfl rfl rfl rfl (by kernel_rfl) ?_; refine K.kgo ?_; refine WL.storeRow rfl rfl rfl rfl rfl rfl T9 rfl rfl zRep_ones5 ?_; generalize w14.setRow g1 zRep.toArray = wz at hkw T10 ⊢; refine K.kgo ?_; exact WQ.retCTw rfl rfl rfl rfl rfl T10 ⟨rfl, hkw⟩
  · obtain ⟨spL, capL, hbL, -⟩ := WR5.ex s14.r
    have c1 : w14.cell? ⟨rb, 1, none⟩ = some (.bool false) := hbL.cell 1 (by simp); have c0 : w14.cell? ⟨rb, 0, none⟩ = some (.slice spL l.length capL) := hbL.cell 0 (by simp); refine K.kgl ?_; refine WL.build zRep rfl rfl rfl rfl rfl (by kernel_rfl) ?_; refine K.kgo ?_; refine WL.storeRow rfl rfl rfl rfl rfl rfl T9 rfl rfl zRep_ones5 ?_; generalize w14.setRow g1 zRep.toArray = wz at hkw T10 ⊢; refine K.kgo ?_; exact WQ.retCTw rfl rfl rfl rfl rfl T10 ⟨rfl, hkw⟩
end K
end Go.Proofs.Ytdkkaliiofcflaa

namespace Go.Proofs.Ytdkkaliiofcflaa
open Go.RowKit
namespace K
structure ESt (T B rb gx S4 : Nat) (w0 w : World) (rest : Ro) (cells : List Value) (nv : Value) (ns : List Int) (pv : Value) (vs : List V) : Prop where
  r : WX5 B w rb rest
  hBg : B ≤ gx
  hg : gx < S4
  hs : S4 ≤ w.heap.size
  w0r : w0.heap.size ≤ rb
  x : VBlk T w gx cells
  n : OwnE 3 1 0 intP (fun b => S4 ≤ b) w nv ns
  v : ∃ q : Nat → Prop, OwnE 60 6 noV (IsVo q 17 w) (fun b => S4 ≤ b) w pv vs ∧ ∀ b, q b → S4 ≤ b ∧ b < w.heap.size
  below : Below w0.heap.size w0 w
section
variable {T B rb gx S4 : Nat} {w0 w w' : World} {rest rest' : Ro} {cells cells' : List Value} {nv : Value} {ns : List Int} {pv : Value} {vs : List V}
theorem ESt.rg (s : ESt T B rb gx S4 w0 w rest cells nv ns pv vs) : rb < gx := Nat.lt_of_lt_of_le s.r.rlt s.hBg
theorem ESt.keep (s : ESt T B rb gx S4 w0 w rest cells nv ns pv vs) {K : Nat → Prop} (k : Keep K w w') (hK : ∀ b, b < w.heap.size → b ≠ rb → b ≠ gx → K b) (r' : WX5 B w' rb rest') (x' : VBlk T w' gx cells') : ESt T B rb gx S4 w0 w' rest' cells' nv ns pv vs := by
  have h1 := s.rg; have h2 := s.hg; have h3 := s.w0r; have h4 := s.hs; refine ⟨r', s.hBg, s.hg, Nat.le_trans s.hs k.size, s.w0r, x', s.n.keep k (fun g hg => hK g (s.n.lt hg) (by have := s.n.own hg; omega) (by have := s.n.own hg; omega)) (fun _ h => h) fun _ _ h => h, ?_, ?_⟩
  · obtain ⟨q, ho, hq⟩ := s.v
    refine ⟨q, ho.keep k (fun g hg => hK g (ho.lt hg) (by have := ho.own hg; omega) (by have := ho.own hg; omega)) (fun _ h => h) fun y cs hy => hy.keep k (fun b hb _ => hK b (hq b hb).2 (by have := (hq b hb).1; omega) (by have := (hq b hb).1; omega)) fun b hb => hb, fun b hb => ⟨(hq b hb).1, by have := (hq b hb).2; have := k.size; omega⟩⟩
  · exact s.below.trans (Keep.below (k.mono fun b hb => hK b (by omega) (by omega) (by omega)))
theorem ESt.call (s : ESt T B rb gx S4 w0 w rest cells nv ns pv vs) (r' : WX5 B w' rb rest') (k : KeepR rb w w') : ESt T B rb gx S4 w0 w' rest' cells nv ns pv vs :=
  s.keep k (fun b h1 h2 _ => ⟨h1, h2⟩) r' (s.x.keep k ⟨s.x.lt, by have := s.rg; omega⟩)
theorem ESt.put (s : ESt T B rb gx S4 w0 w rest cells nv ns pv vs) (i : Nat) (u : Value) : ESt T B rb gx S4 w0 (w.setCell ⟨gx, i, none⟩ u) rest (cells.set i u) nv ns pv vs :=
  s.keep (K := fun b => b ≠ gx) ((Keep.refl _ w).setCell (fun hk => hk rfl) _) (fun b _ _ h => h) (s.r.keep (K := fun b => b ≠ gx) ((Keep.refl _ w).setCell (fun hk => hk rfl) _) fun b hb => by have := s.hBg; omega) (s.x.set i u)
theorem ESt.row (s : ESt T B rb gx S4 w0 w rest cells nv ns pv vs) (cs : List Value) : ESt T B rb gx S4 w0 (w.setRow gx cs.toArray) rest cs nv ns pv vs :=
  s.keep (K := fun b => b ≠ gx) (Keep.setRow (Keep.refl _ w) (fun hk => hk rfl) _) (fun b _ _ h => h) (s.r.keep (K := fun b => b ≠ gx) (Keep.setRow (Keep.refl _ w) (fun hk => hk rfl) _) fun b hb => by have := s.hBg; omega) (s.x.setRow cs)
theorem ESt.down (s : ESt T B rb gx S4 w0 w rest cells nv ns pv vs) (k : Below w.heap.size w w') : ESt T B rb gx S4 w0 w' rest cells nv ns pv vs :=
  s.keep (Keep.of_below k) (fun b h _ _ => h) (s.r.keep (Keep.of_below k) fun b hb => by have := s.hBg; have := s.hg; have := s.hs; omega) (s.x.below k s.x.lt)
end
set_option maxHeartbeats 4000000 in
theorem rdec_ok {w : World} {v : Value} {P : List Int} {r : Rq} (hv : Sl .u8 w v (Frm.frameL P)) (hby : Frm.Byt P) (hlen : P.length ≤ 524288) (hn : rdRq P = some r) : Calls Try.prog 19 #[v] w (RqDec w r) := by
  obtain ⟨o2, h2⟩ : ∃ o, o = qR 81 1 20 P := ⟨_, rfl⟩; obtain ⟨o3, h3⟩ : ∃ o, o = (qUp 9007199254740992 o2).2 := ⟨_, rfl⟩; obtain ⟨o4, h4⟩ : ∃ o, o = (qNums o3).2 := ⟨_, rfl⟩; obtain ⟨sq, hsq⟩ : ∃ q : Nat, q = (qUp 9007199254740992 o2).1 := ⟨_, rfl⟩; obtain ⟨m, hm⟩ : ∃ q : Nat, q = (qUp 4096 o4).1 := ⟨_, rfl⟩; obtain ⟨o5, h5⟩ : ∃ q, q = (qUp 4096 o4).2 := ⟨_, rfl⟩; obtain ⟨o6, h6⟩ : ∃ q, q = (qT m o5).2 := ⟨_, rfl⟩; rcases rq5_fin h2 h3 h4 hm h5 h6 with ⟨vs, r0, hV, hr32, hr, n2, n4, n6⟩ | ⟨hno, -⟩
  rotate_left
  · rw [hn] at hno; cases hno
  rw [hn] at hr; obtain rfl := Option.some.inj hr; clear hr hn; rw [← hsq]; have hmle := qUp_le 4096 o4; rw [← hm] at hmle; have hTl := qT_ok (n := 32) (o := some r0) (t := r0) (r := []) (by
    show (if r0.length < 32 then (([], none) : List Int × Ro) else (r0.take 32, some (r0.drop 32))) = (r0, some [])
    rw [if_neg (by omega), List.take_of_length_le (by omega), List.drop_of_length_le (by omega)])
  have hT32 : qT 32 (some r0) = (r0, some []) := by
    show (if r0.length < 32 then (([], none) : List Int × Ro) else (r0.take 32, some (r0.drop 32))) = (r0, some [])
    rw [if_neg (by omega), List.take_of_length_le (by omega), List.drop_of_length_le (by omega)]
  clear hTl; refine enter (args := [v]) Try.func19 rfl Try.ntmps19 rfl ?_; refine K.kgn ?_; refine WL.alloc (z := .agg zReq.toArray) rfl rfl rfl rfl (fun _ => by kernel_rfl) fun g1 w1 hf0 => ?_; have hf1 : Fresh w g1 w1 33 zReq := hf0; clear hf0; have hB1 := hf1.below; have hg1 := hf1.eq; have hz1 := hf1.size; have T1 := hf1.blk; clear hf1; refine K.kgo ?_; refine WL.call rfl rfl rfl rfl rfl Try.func38 rfl (by kernel_rfl) (ropen_ok (hv.of_below hB1) hby hlen) ?_; rintro _ w2 ⟨rb, rfl, hr2, k2, hrb⟩; refine ⟨_, rfl, ?_⟩; clear hlen hv; have hz2 := k2.size; refine K.kgo ?_; refine WL.alloc (z := .agg zReq.toArray) rfl rfl rfl rfl (fun _ => by kernel_rfl) fun gx w3 hf0 => ?_; have hf3 : Fresh w2 gx w3 33 zReq := hf0; clear hf0; have hgx := hf3.eq; have hz3 := hf3.size; have s3 : ESt 33 w2.heap.size rb gx w3.heap.size w1 w3 (some P) zReq (.slice none 0 0) [] (.slice none 0 0) [] :=
    ⟨WX5.keep (o := some P) hr2 (Keep.of_below hf3.below) fun b hb => hb, by omega, by omega, Nat.le_refl _, hrb, hf3.blk, OwnE.nil _ _ _ _ _ _, ⟨fun _ => False, OwnE.nil _ _ _ _ _ _, fun b hb => hb.elim⟩, k2.trans (hf3.below.mono hz2)⟩
  clear hf3 hr2 k2; have hrg := s3.rg; refine K.kgo ?_; refine WL.call rfl rfl rfl rfl rfl Try.func39 rfl (by kernel_rfl) (begin5_x s3.r (by have := s3.hg; have := s3.hBg; omega) (by omega)) ?_; rintro _ w4 ⟨kd, nv, ns, rfl, hkd, hN, hns, hr, kk⟩; refine ⟨_, rfl, ?_⟩; have hnv := hN.one; rw [← h2, ← h3, ← h4] at hr; rw [← h2] at hkd ⊢; rw [← h2, ← h3, ← h4] at hns; obtain rfl := hkd n2; obtain rfl := hns n4; clear hkd hns; rw [← hsq]; have s4' := s3.call hr kk; have s4 : ESt 33 w2.heap.size rb gx w3.heap.size w1 w4 o4 zReq nv (qNums o3).1 (.slice none 0 0) [] :=
    { s4' with n := hN }
  clear s3 s4' hr kk hN; generalize hkd : nth P 1 = kd; generalize hns : (qNums o3).1 = ns at s4; refine K.kgo ?_; refine WL.store (v := .int .i64 kd) rfl rfl rfl rfl rfl rfl (by kernel_rfl) (s4.x.cell 0 (by simp [zReq, reqC])) (s4.x.free 0) ?_; have s5 := s4.put 0 (.int .i64 kd); generalize w4.setCell ⟨gx, 0, none⟩ (.int .i64 kd) = w5 at s5 ⊢; clear s4; refine K.kgo ?_; refine WL.store (v := .int .i64 sq) rfl rfl rfl rfl rfl rfl (by kernel_rfl) (s5.x.cell 1 (by simp [zReq, reqC])) (s5.x.free 1) ?_; have s6 := s5.put 1 (.int .i64 sq); generalize w5.setCell ⟨gx, 1, none⟩ (.int .i64 sq) = w6 at s6 ⊢; clear s5; refine K.kgo ?_; refine WL.store (v := nv) rfl rfl rfl rfl rfl hnv (by kernel_rfl) (s6.x.cell 2 (by simp [zReq, reqC])) (s6.x.free 2) ?_; have s7 := s6.put 2 nv; generalize w6.setCell ⟨gx, 2, none⟩ nv = w7 at s7 ⊢; clear s6; refine K.kgo ?_; refine WL.call rfl rfl rfl rfl rfl Try.func41 rfl (by kernel_rfl) (count5_x 4096 s7.r (by omega)) ?_; rintro _ w8 ⟨rfl, hr, kk⟩; refine ⟨_, rfl, ?_⟩; rw [← h5] at hr; rw [← hm]; have s8 := s7.call hr kk; clear s7 hr kk; refine WL.call rfl rfl rfl rfl rfl Try.func40 rfl (by kernel_rfl) (raw5_x m s8.r (by have := s8.hg; have := s8.hBg; have := s8.hs; omega) (by omega)) ?_; rintro _ w9 ⟨tv, L, rfl, htv, -, hL, hr, kk⟩; refine ⟨_, rfl, ?_⟩; rw [← h6, if_neg n6] at hL; rw [← h6] at hr; subst hL; have s9 := s8.call hr kk; clear s8 hr kk; refine WL.strOf rfl rfl rfl rfl rfl rfl rfl rfl htv ?_; clear htv; generalize htx : strOfNums (qT m o5).1 = tx; refine K.kgo ?_; refine WL.store (v := .string tx) rfl rfl rfl rfl rfl rfl (by kernel_rfl) (s9.x.cell 3 (by simp [zReq, reqC])) (s9.x.free 3) ?_; have s10 := s9.put 3 (.string tx); generalize w9.setCell ⟨gx, 3, none⟩ (.string tx) = w10 at s10 ⊢; clear s9; refine K.kgo ?_; refine WL.call rfl rfl rfl rfl rfl Try.func42 rfl (by kernel_rfl) (values5_x 40 s10.r (by have := s10.hg; have := s10.hBg; have := s10.hs; omega) (by omega)) ?_; rintro _ w11 ⟨pv, rfl, hpv, hr, kk⟩; refine ⟨_, rfl, ?_⟩; rw [hV] at hr; obtain ⟨⟨q, hO, hq⟩, hr⟩ := hr; have s11' := s10.call hr kk; have s11 : ESt 33 w2.heap.size rb gx w3.heap.size w1 w11 (some r0) ((((zReq.set 0 (.int .i64 kd)).set 1 (.int .i64 sq)).set 2 nv).set 3 (.string tx)) nv ns pv vs :=
    { s11' with v := ⟨q, hO.keep (Keep.refl (fun _ => True) w11) (fun _ _ => trivial) (fun b hb => by have := s10.hs; omega) fun _ _ h => h, fun b hb => ⟨by have := (hq b hb).1; have := s10.hs; omega, (hq b hb).2⟩⟩ }
  clear s10 s11' hr kk hO hq; refine K.kgo ?_; refine WL.store (v := pv) rfl rfl rfl rfl rfl hpv (by kernel_rfl) (s11.x.cell 4 (by simp [zReq, reqC])) (s11.x.free 4) ?_; have s12 := s11.put 4 pv; generalize w11.setCell ⟨gx, 4, none⟩ pv = w12 at s12 ⊢; clear s11; refine K.kgo ?_; refine WC.drawn 4 (fun _ => True) fun w13 hd => ?_; have s13 := s12.down (hd.below _); clear s12 hd; have hS : True := trivial; refine K.fr [0] hS ?_; refine WD.all 1 rfl (by kernel_rfl) rfl rfl (fun _ _ _ _ _ h => h) rfl rfl rfl rfl (.inr hS) ?_; refine K.fr [2] hS ?_; refine K.wo 3 ?_; refine WL.call rfl rfl rfl rfl rfl Try.func40 rfl (by kernel_rfl) (raw5_x 32 s13.r (by have := s13.hg; have := s13.hBg; have := s13.hs; omega) (by omega)) ?_; rintro _ w14 ⟨hv, L, rfl, hhv, -, hL, hr, kk⟩; refine ⟨_, rfl, ?_⟩; rw [hT32] at hL hr; rw [if_neg (fun h => by cases h)] at hL; have hL : L = r0 := hL; subst hL; have s14 := s13.call hr kk; clear s13 hr kk; refine K.di hS ?_; refine K.wo 4 ?_; refine WL.copy rfl rfl rfl rfl rfl rfl hhv (by omega) s14.x (by simp [zReq, reqC]) ?_; refine K.dl ?_; refine WD.done (by kernel_rfl) ?_; have hcp : (((((zReq.set 0 (.int .i64 kd)).set 1 (.int .i64 sq)).set 2 nv).set 3 (.string tx)).set 4 pv).take (0 + 5) ++ L.map (Value.int .u8) ++ (((((zReq.set 0 (.int .i64 kd)).set 1 (.int .i64 sq)).set 2 nv).set 3 (.string tx)).set 4 pv).drop (0 + 5 + L.length) = rqC ⟨kd, sq, ns, tx, vs, L⟩ nv pv := by
    rw [hr32, show (((((zReq.set 0 (.int .i64 kd)).set 1 (.int .i64 sq)).set 2 nv).set 3 (.string tx)).set 4 pv).drop (0 + 5 + 32) = [] from rfl, List.append_nil]
    rfl
  rw [hcp]; have s15 := s14.row (rqC ⟨kd, sq, ns, tx, vs, L⟩ nv pv); generalize w14.setRow gx (rqC ⟨kd, sq, ns, tx, vs, L⟩ nv pv).toArray = w15 at s15 ⊢; clear s14 hcp hhv; obtain ⟨sp19, cap19, hb19, -⟩ := WR5.ex s15.r; have c1 : w15.cell? ⟨rb, 1, none⟩ = some (.bool false) := hb19.cell 1 (by simp); have c0 : w15.cell? ⟨rb, 0, none⟩ = some (.slice sp19 0 cap19) := hb19.cell 0 (by simp); have hlen37 : (rqC ⟨kd, sq, ns, tx, vs, L⟩ nv pv).length = 37 := by simp [rqC, hr32]
  have hones : Ones (rqC ⟨kd, sq, ns, tx, vs, L⟩ nv pv) := by
    intro u hu; unfold rqC at hu; simp only [List.mem_cons, List.mem_map] at hu; rcases hu with rfl | rfl | rfl | rfl | rfl | ⟨a, -, rfl⟩ <;> first | rfl | assumption
  have T19 := T1.below s15.below T1.lt; refine K.kgl ?_; refine WL.loadMid rfl rfl rfl rfl rfl rfl (VBlk.rangeAt s15.x) hlen37 ?_; refine WL.storeRow rfl rfl rfl rfl rfl rfl T19 hlen37 (by rfl) hones ?_; have hset : Keep (fun b => b ≠ g1) w15 (w15.setRow g1 (rqC ⟨kd, sq, ns, tx, vs, L⟩ nv pv).toArray) := Keep.setRow (Keep.refl _ w15) (fun hk => hk rfl) _; have hkw : Below w.heap.size w (w15.setRow g1 (rqC ⟨kd, sq, ns, tx, vs, L⟩ nv pv).toArray) := below_setRow (hB1.trans (s15.below.mono hB1.size)) (by omega) _; have T20 := T19.setRow (rqC ⟨kd, sq, ns, tx, vs, L⟩ nv pv); have hN := s15.n.keep (P' := intP) (O' := fun _ => True) hset (fun g hg => by have := s15.n.own hg; omega) (fun _ _ => trivial) fun _ _ h => h; obtain ⟨q2, hV, hq2⟩ := s15.v; have hV2 := hV.keep (P' := IsVo q2 17 (w15.setRow g1 (rqC ⟨kd, sq, ns, tx, vs, L⟩ nv pv).toArray)) (O' := fun _ => True) hset (fun g hg => by have := hV.own hg; omega) (fun _ _ => trivial) fun y cs hy => hy.keep hset (fun b hb _ => by have := (hq2 b hb).1; omega) fun b hb => hb; generalize w15.setRow g1 (rqC ⟨kd, sq, ns, tx, vs, L⟩ nv pv).toArray = w16 at hkw T20 hN hV2 ⊢; refine K.kgo ?_; exact WQ.retCTw rfl rfl rfl rfl hlen37 T20 ⟨nv, pv, rfl, hkw, intP_sl hN.els, elsV hV2.els⟩
set_option maxHeartbeats 4000000 in
theorem rdecR_ok {w : World} {v : Value} {P : List Int} {r : Rp} (hv : Sl .u8 w v (Frm.frameL P)) (hby : Frm.Byt P) (hlen : P.length ≤ 524288) (hn : rdRp P = some r) : Calls Try.prog 20 #[v] w (RpDec w r) := by
  obtain ⟨o2, h2⟩ : ∃ o, o = qR 82 0 100 P := ⟨_, rfl⟩; obtain ⟨o3, h3⟩ : ∃ o, o = (qUp 9007199254740992 o2).2 := ⟨_, rfl⟩; obtain ⟨o4, h4⟩ : ∃ o, o = (qNums o3).2 := ⟨_, rfl⟩; obtain ⟨sq, hsq⟩ : ∃ q : Nat, q = (qUp 9007199254740992 o2).1 := ⟨_, rfl⟩; rcases rp5_fin hby h2 h3 h4 with ⟨vs, r0, d, hV, hT, hr, n2, n4⟩ | ⟨hno, -⟩
  rotate_left
  · rw [hn] at hno; cases hno
  rw [hn] at hr; obtain rfl := Option.some.inj hr; clear hr hn; rw [← hsq]; have hdle := qUp_le 524288 (some r0); have hTk := qT_ok hT; refine enter (args := [v]) Try.func20 rfl Try.ntmps20 rfl ?_; refine K.kgn ?_; refine WL.alloc (z := .agg zRep.toArray) rfl rfl rfl rfl (fun _ => by kernel_rfl) fun g1 w1 hf0 => ?_; have hf1 : Fresh w g1 w1 46 zRep := hf0; clear hf0; have hB1 := hf1.below; have hg1 := hf1.eq; have hz1 := hf1.size; have T1 := hf1.blk; clear hf1; refine K.kgo ?_; refine WL.call rfl rfl rfl rfl rfl Try.func38 rfl (by kernel_rfl) (ropen_ok (hv.of_below hB1) hby hlen) ?_; rintro _ w2 ⟨rb, rfl, hr2, k2, hrb⟩; refine ⟨_, rfl, ?_⟩; clear hlen hv; have hz2 := k2.size; refine K.kgo ?_; refine WL.alloc (z := .agg zRep.toArray) rfl rfl rfl rfl (fun _ => by kernel_rfl) fun gx w3 hf0 => ?_; have hf3 : Fresh w2 gx w3 46 zRep := hf0; clear hf0; have hgx := hf3.eq; have hz3 := hf3.size; have s3 : ESt 46 w2.heap.size rb gx w3.heap.size w1 w3 (some P) zRep (.slice none 0 0) [] (.slice none 0 0) [] :=
    ⟨WX5.keep (o := some P) hr2 (Keep.of_below hf3.below) fun b hb => hb, by omega, by omega, Nat.le_refl _, hrb, hf3.blk, OwnE.nil _ _ _ _ _ _, ⟨fun _ => False, OwnE.nil _ _ _ _ _ _, fun b hb => hb.elim⟩, k2.trans (hf3.below.mono hz2)⟩
  clear hf3 hr2 k2; have hrg := s3.rg; refine K.kgo ?_; refine WL.call rfl rfl rfl rfl rfl Try.func39 rfl (by kernel_rfl) (begin5_x s3.r (by have := s3.hg; have := s3.hBg; omega) (by omega)) ?_; rintro _ w4 ⟨kd, nv, ns, rfl, hkd, hN, hns, hr, kk⟩; refine ⟨_, rfl, ?_⟩; have hnv := hN.one; rw [← h2, ← h3, ← h4] at hr; rw [← h2] at hkd ⊢; rw [← h2, ← h3, ← h4] at hns; obtain rfl := hkd n2; obtain rfl := hns n4; clear hkd hns; rw [← hsq]; have s4' := s3.call hr kk; have s4 : ESt 46 w2.heap.size rb gx w3.heap.size w1 w4 o4 zRep nv (qNums o3).1 (.slice none 0 0) [] :=
    { s4' with n := hN }
  clear s3 s4' hr kk hN; generalize hkd : nth P 1 = kd; generalize hns : (qNums o3).1 = ns at s4; refine K.kgo ?_; refine WL.store (v := .int .i64 kd) rfl rfl rfl rfl rfl rfl (by kernel_rfl) (s4.x.cell 1 (by simp)) (s4.x.free 1) ?_; have s5 := s4.put 1 (.int .i64 kd); generalize w4.setCell ⟨gx, 1, none⟩ (.int .i64 kd) = w5 at s5 ⊢; clear s4; refine K.kgo ?_; refine WL.store (v := .int .i64 sq) rfl rfl rfl rfl rfl rfl (by kernel_rfl) (s5.x.cell 0 (by simp)) (s5.x.free 0) ?_; have s6 := s5.put 0 (.int .i64 sq); generalize w5.setCell ⟨gx, 0, none⟩ (.int .i64 sq) = w6 at s6 ⊢; clear s5; refine K.kgo ?_; refine WL.store (v := nv) rfl rfl rfl rfl rfl hnv (by kernel_rfl) (s6.x.cell 2 (by simp)) (s6.x.free 2) ?_; have s7 := s6.put 2 nv; generalize w6.setCell ⟨gx, 2, none⟩ nv = w7 at s7 ⊢; clear s6; refine K.kgo ?_; refine WL.call rfl rfl rfl rfl rfl Try.func42 rfl (by kernel_rfl) (values5_x 4096 s7.r (by have := s7.hg; have := s7.hBg; have := s7.hs; omega) (by omega)) ?_; rintro _ w8 ⟨pv, rfl, hpv, hr, kk⟩; refine ⟨_, rfl, ?_⟩; rw [hV] at hr; obtain ⟨⟨q, hO, hq⟩, hr⟩ := hr; have s8' := s7.call hr kk; have s8 : ESt 46 w2.heap.size rb gx w3.heap.size w1 w8 (some r0) (((zRep.set 1 (.int .i64 kd)).set 0 (.int .i64 sq)).set 2 nv) nv ns pv vs :=
    { s8' with v := ⟨q, hO.keep (Keep.refl (fun _ => True) w8) (fun _ _ => trivial) (fun b hb => by have := s7.hs; omega) fun _ _ h => h, fun b hb => ⟨by have := (hq b hb).1; have := s7.hs; omega, (hq b hb).2⟩⟩ }
  clear s7 s8' hr kk hO hq; refine K.kgo ?_; refine WL.store (v := pv) rfl rfl rfl rfl rfl hpv (by kernel_rfl) (s8.x.cell 3 (by simp)) (s8.x.free 3) ?_; have s9 := s8.put 3 pv; generalize w8.setCell ⟨gx, 3, none⟩ pv = w9 at s9 ⊢; clear s8; refine K.kgo ?_; refine WL.empty rfl rfl rfl rfl rfl fun g6 w10 hf0 => ?_; have hf6 : Fresh w9 g6 w10 5 [] := hf0; clear hf0; have q10 := Bu.ofFresh hf6; have hg6 : w9.heap.size ≤ g6 := by rw [hf6.eq]; exact Nat.le_refl _
  have hs9 := s9.hs; have hs9g := s9.hg; have hs9b := s9.hBg; have hgr := s9.rg; have k10 : KeepR rb w9 w10 := KeepR.below hf6.below; have r10 := s9.r.keep (Keep.of_below hf6.below) (fun b hb => by omega); have hz10 := k10.size; clear hf6; refine K.kgo ?_; refine WL.call rfl rfl rfl rfl rfl Try.func41 rfl (by kernel_rfl) (count5_x 524288 r10 (by omega)) ?_; rintro _ w11 ⟨rfl, r11, k11⟩; refine ⟨_, rfl, ?_⟩; have q11 := q10.keep k11 (fun g hg => by cases hg; exact ⟨q10.lt _ rfl, by show g6 ≠ rb; omega⟩); have hz11 := k11.size; clear q10; refine WL.call rfl rfl rfl rfl rfl Try.func40 rfl (by kernel_rfl) (raw5_x _ r11 (by omega) (by omega)) ?_; rintro _ w12 ⟨tv, L, rfl, htv, -, hL, r12, k12⟩; refine ⟨_, rfl, ?_⟩; rw [hT] at hL r12; rw [if_neg (fun h => by cases h)] at hL; have hL : L = d := hL; subst hL; have q12 := q11.keep k12 (fun g hg => by cases hg; exact ⟨q11.lt _ rfl, by show g6 ≠ rb; omega⟩); have hz12 := k12.size; clear q11; refine WL.app rfl rfl rfl rfl rfl q12 rfl htv (by simp only [List.length_nil]; omega) fun dv w13 hdv hgd => ?_; rw [List.nil_append] at hdv; have hdv1 := hdv.cell1; have hdo : ∀ g, dv.ownBlock = some g → w9.heap.size ≤ g := fun g hg => (hgd.2 g hg).elim (fun h => by have : g6 = g := Option.some.inj h; omega) fun h => by omega
  have hne6 : ∀ b, b ≠ g6 → (Value.slice (some ⟨g6, 0, none⟩) 0 0).ownBlock ≠ some b := fun b hb e => hb (Option.some.inj e).symm; have k13 : KeepR rb w9 w13 := Keep.trans ((k10.trans k11).trans k12) (Keep.mono hgd.1 fun b hb => ⟨by have := hb.1; omega, hne6 b (by have := hb.1; omega)⟩); have s13 := s9.call (r12.keep hgd.1 fun b hb => ⟨by omega, hne6 b (by omega)⟩) k13; clear s9 r10 r11 r12 k10 k11 k12 k13 hgd htv q12; refine K.kgo ?_; refine WL.store (v := dv) rfl rfl rfl rfl rfl hdv1 (by kernel_rfl) (s13.x.cell 4 (by simp)) (s13.x.free 4) ?_; have s14 := s13.put 4 dv; have hk13 : Keep (fun b => b ≠ gx) w13 (w13.setCell ⟨gx, 4, none⟩ dv) := (Keep.refl _ w13).setCell (fun hk => hk rfl) _; have hdv2 := hdv.keep hk13 (fun g h => by have := hdo g h; omega); clear hk13; generalize w13.setCell ⟨gx, 4, none⟩ dv = w14 at s14 hdv2 ⊢; clear s13 hdv; have hcp : (((((zRep.set 1 (.int .i64 kd)).set 0 (.int .i64 sq)).set 2 nv).set 3 pv).set 4 dv) = rpC ⟨sq, kd, ns, vs, L⟩ nv pv dv := rfl; rw [hcp] at s14; obtain ⟨sp20, cap20, hb20, -⟩ := WR5.ex s14.r; simp only [List.length_nil] at hb20; have c1 : w14.cell? ⟨rb, 1, none⟩ = some (.bool false) := hb20.cell 1 (by simp); have c0 : w14.cell? ⟨rb, 0, none⟩ = some (.slice sp20 0 cap20) := hb20.cell 0 (by simp); have hones : Ones (rpC ⟨sq, kd, ns, vs, L⟩ nv pv dv) := by
    intro u hu; unfold rpC at hu; simp only [List.mem_cons, List.not_mem_nil, or_false] at hu; rcases hu with rfl | rfl | rfl | rfl | rfl <;> first | rfl | assumption
  have T19 := T1.below s14.below T1.lt; refine K.kgl ?_; refine WL.loadMid rfl rfl rfl rfl rfl rfl (VBlk.rangeAt s14.x) rfl ?_; refine WL.storeRow rfl rfl rfl rfl rfl rfl T19 rfl (by rfl) hones ?_; have hset : Keep (fun b => b ≠ g1) w14 (w14.setRow g1 (rpC ⟨sq, kd, ns, vs, L⟩ nv pv dv).toArray) := Keep.setRow (Keep.refl _ w14) (fun hk => hk rfl) _; have hkw : Below w.heap.size w (w14.setRow g1 (rpC ⟨sq, kd, ns, vs, L⟩ nv pv dv).toArray) := below_setRow (hB1.trans (s14.below.mono hB1.size)) (by omega) _; have T20 := T19.setRow (rpC ⟨sq, kd, ns, vs, L⟩ nv pv dv); have hN := s14.n.keep (P' := intP) (O' := fun _ => True) hset (fun g hg => by have := s14.n.own hg; omega) (fun _ _ => trivial) fun _ _ h => h; obtain ⟨q2, hV, hq2⟩ := s14.v; have hV2 := hV.keep (P' := IsVo q2 17 (w14.setRow g1 (rpC ⟨sq, kd, ns, vs, L⟩ nv pv dv).toArray)) (O' := fun _ => True) hset (fun g hg => by have := hV.own hg; omega) (fun _ _ => trivial) fun y cs hy => hy.keep hset (fun b hb _ => by have := (hq2 b hb).1; omega) fun b hb => hb; generalize w14.setRow g1 (rpC ⟨sq, kd, ns, vs, L⟩ nv pv dv).toArray = w16 at hset hkw T20 hN hV2 ⊢; refine K.kgo ?_; have hdv3 := hdv2.keep hset (fun g h => by have := hdo g h; omega); exact WQ.retCTw rfl rfl rfl rfl rfl T20 ⟨nv, pv, dv, rfl, hkw, intP_sl hN.els, elsV hV2.els, hdv3.sl⟩
end K
end Go.Proofs.Ytdkkaliiofcflaa

namespace Go.Proofs.Ytdkkaliiofcflaa
open Go.RowKit
namespace K

end K
end Go.Proofs.Ytdkkaliiofcflaa

namespace Go.Proofs.Ytdkkaliiofcflaa
open Go.RowKit
namespace K

theorem same7_any {w : World} {a b : Value} {l1 l2 : List Int} (h1 : Sl .u8 w a l1) (h2 : Sl .u8 w b l2) :
    Calls Try.prog 9 #[a, b] w fun e w' => e = .returned (.bool (decide (l1 = l2))) ∧ Below w.heap.size w w' := by
  refine enter (args := [a, b]) Try.func9 rfl Try.ntmps9 rfl ?_; have hs1 := h1; have hs2 := h2; obtain ⟨sp1, cap1, rfl, hc1, hm1, -, -⟩ := h1; obtain ⟨sp2, cap2, rfl, -, -, -, -⟩ := h2
  by_cases hl : l1.length = l2.length
  · refine K.kgo ?_
    refine WC.loop (fun i : Nat => [(0, .slice sp1 l1.length cap1), (1, .slice sp2 l2.length cap2), (5, .int .i64 i)]) (fun i w' => i ≤ l1.length ∧ l1.take i = l2.take i ∧ Below w.heap.size w w') (fun i => l1.length - i) 0 ⟨rfl, rfl, rfl, trivial⟩
      ⟨Nat.zero_le _, by simp, Below.refl _ _⟩ ?_
    rintro i wr ⟨hi, ht, hb⟩; have hr1 := hs1.of_below hb; have hr2 := hs2.of_below hb
    by_cases hik : i < l1.length
    · refine K.kgo ?_
      refine WC.drawn 8 (fun wx => wx.heap = wr.heap) fun w2 hd => ?_; have hb2 : Below w.heap.size w w2 := hb.trans (hd.below _); have hS : w2.heap = wr.heap := hd.heap; refine K.fr [0, 1] hS ?_; refine WD.idxI 2 i rfl (by kernel_rfl) rfl rfl (fun _ _ _ _ _ h => h) rfl rfl rfl rfl hr1 rfl rfl hik (.inr hS) fun p hp => ?_; refine K.wl 3 [8] rfl rfl rfl rfl rfl rfl rfl (fun wx hx => (heap_cell hx _).trans hp) hS ?_; refine K.fr [4, 5] hS ?_; refine WD.idxI 6 i rfl (by kernel_rfl) rfl rfl (fun _ _ _ _ _ h => h) rfl rfl rfl rfl hr2 rfl rfl (by omega) (.inr hS) fun p2 hp2 => ?_; refine K.wl 7 [8] rfl rfl rfl rfl rfl rfl rfl (fun wx hx => (heap_cell hx _).trans hp2) hS ?_; refine K.wo 8 ?_; refine WL.pure rfl rfl rfl rfl ?_; refine K.dl ?_; refine WD.done (by kernel_rfl) ?_; refine K.kgo ?_; refine WC.condS rfl (fun hne => ?_) fun heq => ?_
      · refine K.kgo ?_
        refine WQ.ret1 rfl rfl ⟨?_, hb2⟩; rw [decide_eq_false (fun e => hne (by rw [e]))]
      · refine K.kgo ?_
        refine WQ.again (i + 1) ⟨rfl, rfl, rfl, trivial⟩ ⟨hik, take_snoc_eq ht hik (by omega) ?_, hb2⟩ (by show l1.length - (i + 1) < l1.length - i; omega); have : nth l1 i = nth l2 i := by simpa using heq
        simpa [nth, hik, show i < l2.length by omega] using this
    · obtain rfl : i = l1.length := by omega
      refine K.kgo ?_; refine WQ.ret1 rfl rfl ⟨?_, hb⟩; have : l1 = l2 := by rw [List.take_length, hl, List.take_length] at ht; exact ht
      simp [this]
  · refine K.kgo ?_
    refine WQ.ret1 rfl rfl ⟨?_, Below.refl _ _⟩; rw [decide_eq_false (fun e => hl (by rw [e]))]
end K
end Go.Proofs.Ytdkkaliiofcflaa

namespace Go.Proofs.Ytdkkaliiofcflaa
open Go.RowKit

theorem part_int {P : Program} (w : World) {e : TypeId} {k : IntKind} (he : P.underlying e = some (.int k)) (l : List Int) (i : Nat) (hi : i < l.length) :
    (part e (l.map (Value.int k)).toArray i).run P w = .ok (.int k (nth l i)) w := by
  have hagg : (isAgg e).run P w = .ok false w := by
    unfold isAgg; rw [Sem.run_bind, run_underlying he w]; rfl
  have hc : (l.map (Value.int k)).toArray[i]? = some (.int k (nth l i)) := by simp [nth, hi]
  simp [part, Sem.run_bind, hagg, hc]
theorem eqItems_ints {P : Program} (w : World) (d : Nat) {e : TypeId} {k : IntKind} (he : P.underlying e = some (.int k)) (xs ys : List Int) :
    ∀ is : List Nat, (∀ i ∈ is, i < xs.length ∧ i < ys.length) → (Op.eqItems (d + 1) e 1 (xs.map (Value.int k)).toArray (ys.map (Value.int k)).toArray is).run P w = .ok (is.all fun i => nth xs i == nth ys i) w
  | [], _ => by simp [Op.eqItems]
  | i :: is, h => by
    obtain ⟨h1, h2⟩ := h i (by simp); have ih := eqItems_ints w d he xs ys is (fun j hj => h j (by simp [hj])); simp only [Op.eqItems, Sem.run_bind, Nat.mul_one, part_int w he xs i h1, part_int w he ys i h2, Result.andThen_ok, run_equalIn_int w d e k k (nth xs i) (nth ys i) he, List.all_cons]
    by_cases hx : (nth xs i == nth ys i) = true
    · simp [hx, ih]
    · simp [hx]
theorem all_nth (xs ys : List Int) (n : Nat) (ha : xs.length = n) (hb : ys.length = n) : ((List.range n).all fun i => nth xs i == nth ys i) = decide (xs = ys) := by
  rw [Bool.eq_iff_iff]; simp only [List.all_eq_true, List.mem_range, beq_iff_eq, decide_eq_true_eq]
  constructor
  · intro h
    apply List.ext_getElem (ha.trans hb.symm)
    intro i h1 h2; have := h i (by omega)
    simpa [nth, h1, h2] using this
  · intro h i _; rw [h]
theorem run_eql_ints {P : Program} (w : World) {t e : TypeId} {k : IntKind} {n : Nat} {i : TypeInfo} (hu : P.underlying t = some (.array n e)) (he : P.underlying e = some (.int k)) (hi : P.info? e = some i) (hs : i.size = 1)
    (xs ys : List Int) (ha : xs.length = n) (hb : ys.length = n) :
    (binOp .eql t (.agg (xs.map (Value.int k)).toArray) (.agg (ys.map (Value.int k)).toArray)).run P w = .ok (.bool (decide (xs = ys))) w := by
  have hc : P.cellsOf e = 1 := by simp [Program.cellsOf, hi, hs]
  have h1 : (Op.equalIn (9999 + 1) t (.agg (xs.map (Value.int k)).toArray) (.agg (ys.map (Value.int k)).toArray)).run P w = .ok (decide (xs = ys)) w := by
    rw [run_equalIn_array w 9999 _ _ hu hi, hc, eqItems_ints w 9998 he xs ys (List.range n) (fun j hj => by simp at hj; omega), all_nth xs ys n ha hb]
  have hg : (binOp .eql t (.agg (xs.map (Value.int k)).toArray) (.agg (ys.map (Value.int k)).toArray)).run P w = ((Op.equalIn 10000 t (.agg (xs.map (Value.int k)).toArray) (.agg (ys.map (Value.int k)).toArray)).run P w).andThen fun b w' => .ok (.bool b) w' := run_eql_struct w t _ _; rw [hg, h1]; rfl

end Go.Proofs.Ytdkkaliiofcflaa

namespace Go.Proofs.Ytdkkaliiofcflaa
open Go.RowKit
namespace K
theorem hash_eqlW (a b : List Int) (ha : a.length = 32) (hb : b.length = 32) (W : World) : (binOp .eql 25 (.agg (a.map (Value.int .u8)).toArray) (.agg (b.map (Value.int .u8)).toArray)).run Try.prog W = .ok (.bool (decide (a = b))) W := by
  have hq : (Try.prog.info? 5).map (fun i => (i.zero, i.size, i.bytes)) = some (some (.int .u8 0), 1, 1) := by kernel_rfl
  obtain ⟨ie, hie, he⟩ := Option.map_eq_some_iff.1 hq; obtain ⟨-, he2⟩ := Prod.mk.inj he; exact run_eql_ints W Try.underlying25 Try.underlying5 hie (Prod.mk.inj he2).1 a b ha hb
theorem hash_guardW (x y : Operand) (a b : Array Value) (W : World) : (eqGuard .eql 25 x y (.agg a) (.agg b)).run Try.prog W = .ok () W := by
  have h : Try.prog.eqGuardType Try.prog.depth 25 = false := by kernel_rfl
  simp [eqGuard, h]
section
variable {n : NN} {Q : Exit → Act → World → Prop} {l : Env} {w w' : World} {ops : Array Oper} {o : Oper} {rest : List Oper} {d : Nat}
theorem WL.eqlHw {x y : Operand} {t2 : Nat} {a b : List Int} (hg : o.guard = none) (hd : o.dst = some d) (hn : Nat.blt d n.n = true) (ho : o.op = .binOp .eql 25 x y t2) (hx : evl l x = some (.agg (a.map (Value.int .u8)).toArray)) (hy : evl l y = some (.agg (b.map (Value.int .u8)).toArray))
    (ha : a.length = 32) (hb : b.length = 32) (h : WL n ops Q rest ((d, .bool (decide (a = b))) :: l) w) : WL n ops Q (o :: rest) l w :=
  WL.step hg hd hn (fun c hc => by
    unfold execOp; rw [ho]; simp only [hc.eval hx, hc.eval hy, Sem.run_bind, hash_guardW, Result.andThen_ok, hash_eqlW a b ha hb w]
    rfl) h
end
theorem nums25_any {w : World} {a b : Value} {l1 l2 : List Int} (h1 : Sl .i64 w a l1) (h2 : Sl .i64 w b l2) :
    Calls Try.prog 36 #[a, b] w fun e w' => e = .returned (.bool (decide (l1 = l2))) ∧ Below w.heap.size w w' := by
  refine enter (args := [a, b]) Try.func36 rfl Try.ntmps36 rfl ?_; have hs1 := h1; have hs2 := h2; obtain ⟨sp1, cap1, rfl, hc1, hm1, -, -⟩ := h1; obtain ⟨sp2, cap2, rfl, -, -, -, -⟩ := h2
  by_cases hl : l1.length = l2.length
  · refine K.kgo ?_
    refine WC.loop (fun i : Nat => [(0, .slice sp1 l1.length cap1), (1, .slice sp2 l2.length cap2), (5, .int .i64 i)]) (fun i w' => i ≤ l1.length ∧ l1.take i = l2.take i ∧ Below w.heap.size w w') (fun i => l1.length - i) 0 ⟨rfl, rfl, rfl, trivial⟩
      ⟨Nat.zero_le _, by simp, Below.refl _ _⟩ ?_
    rintro i wr ⟨hi, ht, hb⟩; have hr1 := hs1.of_below hb; have hr2 := hs2.of_below hb
    by_cases hik : i < l1.length
    · refine K.kgo ?_
      refine WC.drawn 8 (fun wx => wx.heap = wr.heap) fun w2 hd => ?_; have hb2 : Below w.heap.size w w2 := hb.trans (hd.below _); have hS : w2.heap = wr.heap := hd.heap; refine K.fr [0, 1] hS ?_; refine WD.idxI 2 i rfl (by kernel_rfl) rfl rfl (fun _ _ _ _ _ h => h) rfl rfl rfl rfl hr1 rfl rfl hik (.inr hS) fun p hp => ?_; refine K.wl 3 [8] rfl rfl rfl rfl rfl rfl rfl (fun wx hx => (heap_cell hx _).trans hp) hS ?_; refine K.fr [4, 5] hS ?_; refine WD.idxI 6 i rfl (by kernel_rfl) rfl rfl (fun _ _ _ _ _ h => h) rfl rfl rfl rfl hr2 rfl rfl (by omega) (.inr hS) fun p2 hp2 => ?_; refine K.wl 7 [8] rfl rfl rfl rfl rfl rfl rfl (fun wx hx => (heap_cell hx _).trans hp2) hS ?_; refine K.wo 8 ?_; refine WL.pure rfl rfl rfl rfl ?_; refine K.dl ?_; refine WD.done (by kernel_rfl) ?_; refine K.kgo ?_; refine WC.condS rfl (fun hne => ?_) fun heq => ?_
      · refine K.kgo ?_
        refine WQ.ret1 rfl rfl ⟨?_, hb2⟩; rw [decide_eq_false (fun e => hne (by rw [e]))]
      · refine K.kgo ?_
        refine WQ.again (i + 1) ⟨rfl, rfl, rfl, trivial⟩ ⟨hik, take_snoc_eq ht hik (by omega) ?_, hb2⟩ (by show l1.length - (i + 1) < l1.length - i; omega); have : nth l1 i = nth l2 i := by simpa using heq
        simpa [nth, hik, show i < l2.length by omega] using this
    · obtain rfl : i = l1.length := by omega
      refine K.kgo ?_; refine WQ.ret1 rfl rfl ⟨?_, hb⟩; have : l1 = l2 := by rw [List.take_length, hl, List.take_length] at ht; exact ht
      simp [this]
  · refine K.kgo ?_
    refine WQ.ret1 rfl rfl ⟨?_, Below.refl _ _⟩; rw [decide_eq_false (fun e => hl (by rw [e]))]
theorem vals25_any {f1 f2 : Nat} {w : World} {a b : Value} {l : List V} (h1 : IsVs f1 w a l) (h2 : IsVs f2 w b l) :
    Calls Try.prog 37 #[a, b] w fun e w' => e = .returned (.bool true) ∧ Below w.heap.size w w' := by
  obtain ⟨sp1, cap1, rfl, hc1, hm1, hr1⟩ := h1; obtain ⟨sp2, cap2, rfl, -, -, hr2⟩ := h2; refine enter (args := [.slice sp1 l.length cap1, .slice sp2 l.length cap2]) Try.func37 rfl Try.ntmps37 rfl ?_; refine K.kgo ?_; refine WC.loop (fun i : Nat => [(0, .slice sp1 l.length cap1), (1, .slice sp2 l.length cap2), (5, .int .i64 i)]) (fun i w' => i ≤ l.length ∧ Below w.heap.size w w') (fun i => l.length - i) 0 ⟨rfl, rfl, rfl, trivial⟩
    ⟨Nat.zero_le _, Below.refl _ _⟩ ?_
  rintro i wr ⟨hi, hb⟩
  by_cases hik : i < l.length
  · obtain ⟨kb1, ko1, rfl, hkb1, hcells1⟩ := hr1 (by omega)
    obtain ⟨kb2, ko2, rfl, hkb2, hcells2⟩ := hr2 (by omega); obtain ⟨c1, hc61, hci1, hcr1⟩ := hcells1 i hik; obtain ⟨c2, hc62, hci2, hcr2⟩ := hcells2 i hik; have x1 : wr.rangeAt kb1 (ko1 + i * 6) c1 := fun j u hu => by rw [hb.cell (p := ⟨kb1, ko1 + i * 6 + j, none⟩) hkb1]; exact hcr1 j u hu
    have x2 : wr.rangeAt kb2 (ko2 + i * 6) c2 := fun j u hu => by rw [hb.cell (p := ⟨kb2, ko2 + i * 6 + j, none⟩) hkb2]; exact hcr2 j u hu
    refine K.kgo ?_; refine WC.drawn 8 (fun wx => wx.heap = wr.heap) fun w2 hd => ?_; have hb2 : Below w.heap.size w w2 := hb.trans (hd.below _); have hS : w2.heap = wr.heap := hd.heap; refine K.fr [0, 1] hS ?_; refine K.wi 2 i (ko1 + i * 6) rfl rfl rfl rfl rfl rfl rfl rfl rfl hik rfl (.inr hS) ?_; refine K.wm 3 [8, 9] rfl rfl rfl rfl rfl rfl rfl (fun wx hx j u hu => (heap_cell hx _).trans (x1 j u hu)) hc61 hS ?_; refine K.fr [4, 5] hS ?_; refine K.wi 6 i (ko2 + i * 6) rfl rfl rfl rfl rfl rfl rfl rfl rfl hik rfl (.inr hS) ?_; refine K.wm 7 [8, 9] rfl rfl rfl rfl rfl rfl rfl (fun wx hx j u hu => (heap_cell hx _).trans (x2 j u hu)) hc62 hS ?_; refine K.wo 8 ?_; refine WL.call rfl rfl rfl rfl rfl Try.func59 rfl (by kernel_rfl) (equal_any f1 (hci1.below hb2) (hci2.below hb2)) ?_; rintro _ w3 ⟨⟨eb, rfl, heb⟩, hk3⟩; refine ⟨_, rfl, ?_⟩; obtain rfl : eb = true := heb.2 rfl; refine K.dl ?_
    (refine K.fzl 9 rfl (q := ?_))
    refine WD.done (by kernel_rfl) ?_; refine K.kgo ?_; exact WQ.again (i + 1) ⟨rfl, rfl, rfl, trivial⟩ ⟨hik, hb2.trans (hk3.mono hb2.size)⟩ (by show l.length - (i + 1) < l.length - i; omega)
  · obtain rfl : i = l.length := by omega
    refine K.kgo ?_; exact WQ.ret1 rfl rfl ⟨rfl, hb⟩
end K
end Go.Proofs.Ytdkkaliiofcflaa

namespace Go.Proofs.Ytdkkaliiofcflaa
open Go.RowKit
namespace K

theorem roomyL_any {w : World} {v : Value} {l : List Int} (hv : Sl .u8 w v l) (hl : l.length ≤ 35184372088832) :
    Calls Try.prog 13 #[v] w fun e w' => ∃ rv, e = .returned rv ∧ Sl .u8 w' rv (l ++ [171]) ∧ Below w.heap.size w w' := by
  obtain ⟨sp, cap, rfl, -⟩ := id hv; refine enter (args := [.slice sp l.length cap]) Try.func13 rfl Try.ntmps13 rfl ?_; refine K.kgo ?_; refine WL.empty rfl rfl rfl rfl rfl fun g w1 hf => ?_; have hB1 := hf.below; have hq1 := Bu.ofFresh hf; have ho1 : ∀ g', (Value.slice (some ⟨g, 0, none⟩) 0 0).ownBlock = some g' → w.heap.size ≤ g' := fun g' h => by cases h; rw [hf.eq]; exact Nat.le_refl _
  clear hf; refine K.kgo ?_; refine WL.app rfl rfl rfl rfl rfl hq1 rfl (hv.of_below hB1) (by simp only [List.length_nil]; omega) fun b2 w2 q2 g2 => ?_; rw [List.nil_append] at q2; have hB2 := hB1.trans (g2.old hB1.size ho1); have ho2 := g2.own hB1.size ho1; clear g2 hq1 ho1; refine WL.push (zs := [171]) rfl rfl rfl rfl rfl rfl rfl rfl rfl rfl rfl (fun _ => rfl) rfl q2 (by simp only [List.length_singleton]; omega) fun b3 w3 q3 g3 => ?_; have hB3 := hB2.trans (g3.old hB2.size ho2); have ho3 := g3.own hB2.size ho2; clear g3 q2 ho2; refine WL.push (zs := [171]) rfl rfl rfl rfl rfl rfl rfl rfl rfl rfl rfl (fun _ => rfl) rfl q3 (by simp only [List.length_append, List.length_singleton]; omega) fun b4 w4 q4 g4 => ?_; have hB4 := hB3.trans (g4.old hB3.size ho3); clear g4 q3 ho3; refine K.kgo ?_; refine WL.upto rfl rfl rfl rfl rfl rfl rfl (by omega) (by simp only [List.length_append, List.length_singleton]; omega) q4.sl fun rv hrv => ?_; refine K.kgo ?_; refine WQ.ret1 rfl rfl ⟨rv, rfl, ?_, hB4⟩; have e : ((l.length : Int) + 1).toNat = (l ++ [171]).length := by rw [List.length_append, List.length_singleton]; omega
  rw [e, List.take_left'] at hrv
  · exact hrv
  · rfl
theorem standsL_any {w : World} {rv v : Value} {l : List Int} (h1 : Sl .u8 w rv (l ++ [171])) (h2 : Sl .u8 w v l) (hl : l.length ≤ 35184372088832) :
    Calls Try.prog 16 #[rv, v] w fun e w' => e = .returned (.bool true) ∧ Below w.heap.size w w' := by
  have hlen : (l ++ [171]).length = l.length + 1 := by simp
  have hn : nth (l ++ [171]) l.length = 171 := by simp [nth]
  have htk : (l ++ [171]).take l.length = l := List.take_left' rfl; generalize l ++ [171] = L at h1 hlen hn htk; obtain ⟨sp1, cap1, rfl, -⟩ := id h1; obtain ⟨sp2, cap2, rfl, -⟩ := id h2; refine enter (args := [.slice sp1 L.length cap1, .slice sp2 l.length cap2]) Try.func16 rfl Try.ntmps16 rfl ?_; refine K.kgo ?_; refine WL.upto rfl rfl rfl rfl rfl rfl rfl (by omega) (by omega) h1 fun rv2 hrv2 => ?_; rw [show ((l.length : Int)).toNat = l.length by omega, htk] at hrv2; refine K.kgo ?_; refine WL.call rfl rfl rfl rfl rfl Try.func9 rfl (by kernel_rfl) (same7_any hrv2 h2) ?_; rintro _ w3 ⟨rfl, k3⟩; refine ⟨_, rfl, ?_⟩; rw [decide_eq_true (rfl : l = l)]; refine K.kgo ?_; refine WL.idxI l.length rfl rfl rfl rfl rfl rfl (h1.of_below k3) rfl rfl (by omega) fun p hp => ?_; rw [hn] at hp; refine K.kgl ?_; exact WQ.ret1 rfl rfl ⟨rfl, k3⟩
end K
end Go.Proofs.Ytdkkaliiofcflaa

namespace Go.Proofs.Ytdkkaliiofcflaa
open Go.RowKit
namespace K
set_option maxHeartbeats 1000000 in
theorem replies_any {f1 f2 : Nat} {w : World} {r : Rp} {n1 n2 p1 p2 d1 d2 : Value} (h1 : Sl .i64 w n1 r.nums) (h2 : Sl .i64 w n2 r.nums) (h3 : IsVs f1 w p1 r.rows) (h4 : IsVs f2 w p2 r.rows) (h5 : Sl .u8 w d1 r.data) (h6 : Sl .u8 w d2 r.data) :
    Calls Try.prog 18 #[.agg (rpC r n1 p1 d1).toArray, .agg (rpC r n2 p2 d2).toArray] w fun e w' => e = .returned (.bool true) ∧ Below w.heap.size w w' := by
  obtain ⟨sn1, cn1, rfl, -⟩ := id h1; obtain ⟨sn2, cn2, rfl, -⟩ := id h2; obtain ⟨sp1, cp1, rfl, -⟩ := id h3; obtain ⟨sp2, cp2, rfl, -⟩ := id h4; obtain ⟨sd1, cd1, rfl, -⟩ := id h5; obtain ⟨sd2, cd2, rfl, -⟩ := id h6; refine enter (args := [.agg (rpC r (.slice sn1 r.nums.length cn1) (.slice sp1 r.rows.length cp1) (.slice sd1 r.data.length cd1)).toArray, .agg (rpC r (.slice sn2 r.nums.length cn2) (.slice sp2 r.rows.length cp2) (.slice sd2 r.data.length cd2)).toArray]) Try.func18 rfl Try.ntmps18 rfl ?_; refine K.kgn ?_; refine WL.box rfl rfl rfl rfl rfl fun g1 w1 hf0 => ?_; have hf1 : Fresh w g1 w1 45 (rpC r (.slice sn1 r.nums.length cn1) (.slice sp1 r.rows.length cp1) (.slice sd1 r.data.length cd1)) := hf0; clear hf0; refine WL.box rfl rfl rfl rfl rfl fun g2 w2 hf0 => ?_; have hf2 : Fresh w1 g2 w2 46 (rpC r (.slice sn2 r.nums.length cn2) (.slice sp2 r.rows.length cp2) (.slice sd2 r.data.length cd2)) := hf0; clear hf0; have A := hf1.blk.below hf2.below hf1.blk.lt; have B := hf2.blk; have hb2 : Below w.heap.size w w2 := hf1.below.trans (hf2.below.mono hf1.below.size); clear hf1 hf2; have a0 : w2.cell? ⟨g1, 0, none⟩ = some (.int .i64 r.seq) := A.cell 0 (by simp [rpC]); have a1 : w2.cell? ⟨g1, 1, none⟩ = some (.int .i64 r.err) := A.cell 1 (by simp [rpC]); have a2 : w2.cell? ⟨g1, 2, none⟩ = some (.slice sn1 r.nums.length cn1) := A.cell 2 (by simp [rpC]); have b0 : w2.cell? ⟨g2, 0, none⟩ = some (.int .i64 r.seq) := B.cell 0 (by simp [rpC]); have b1 : w2.cell? ⟨g2, 1, none⟩ = some (.int .i64 r.err) := B.cell 1 (by simp [rpC]); have b2 : w2.cell? ⟨g2, 2, none⟩ = some (.slice sn2 r.nums.length cn2) := B.cell 2 (by simp [rpC]); refine K.kgl ?_; refine WL.call rfl rfl rfl rfl rfl Try.func36 rfl (by kernel_rfl) (nums25_any (h1.of_below hb2) (h2.of_below hb2)) ?_; rintro _ w3 ⟨rfl, k3⟩; refine ⟨_, rfl, ?_⟩; rw [decide_eq_true (rfl : r.nums = r.nums)]; have A3 := A.below k3 A.lt; have B3 := B.below k3 B.lt; have hb3 : Below w.heap.size w w3 := hb2.trans (k3.mono hb2.size); clear a0 a1 a2 b0 b1 b2 A B; have a3 : w3.cell? ⟨g1, 3, none⟩ = some (.slice sp1 r.rows.length cp1) := A3.cell 3 (by simp [rpC]); have b3 : w3.cell? ⟨g2, 3, none⟩ = some (.slice sp2 r.rows.length cp2) := B3.cell 3 (by simp [rpC]); refine K.kgl ?_; refine WL.call rfl rfl rfl rfl rfl Try.func37 rfl (by kernel_rfl) (vals25_any (h3.below hb3) (h4.below hb3)) ?_; rintro _ w4 ⟨rfl, k4⟩; refine ⟨_, rfl, ?_⟩; have A4 := A3.below k4 A3.lt; have B4 := B3.below k4 B3.lt; have hb4 : Below w.heap.size w w4 := hb3.trans (k4.mono hb3.size); clear a3 b3 A3 B3; have a4 : w4.cell? ⟨g1, 4, none⟩ = some (.slice sd1 r.data.length cd1) := A4.cell 4 (by simp [rpC]); have b4 : w4.cell? ⟨g2, 4, none⟩ = some (.slice sd2 r.data.length cd2) := B4.cell 4 (by simp [rpC]); refine K.kgl ?_; refine WL.call rfl rfl rfl rfl rfl Try.func9 rfl (by kernel_rfl) (same7_any (h5.of_below hb4) (h6.of_below hb4)) ?_; rintro _ w5 ⟨rfl, k5⟩; refine ⟨_, rfl, ?_⟩; rw [decide_eq_true (rfl : r.data = r.data)]; refine K.kgo ?_; exact WQ.ret1 rfl rfl ⟨rfl, hb4.trans (k5.mono hb4.size)⟩
end K
end Go.Proofs.Ytdkkaliiofcflaa

namespace Go.Proofs.Ytdkkaliiofcflaa
open Go.RowKit
namespace K
def zRqv : Rq := ⟨0, 0, [], ByteArray.mk #[], [], List.replicate 32 0⟩
def zRpv : Rp := ⟨0, 0, [], [], []⟩
def rqRes (l : List Int) : Rq × Int := if (Frm.decF l).1 ≠ 0 then (zRqv, (Frm.decF l).1) else if (Frm.decF l).2.2 ≠ l.length then (zRqv, 3) else match rdRq (Frm.decF l).2.1 with | some r => (r, 0) | none => (zRqv, 3)
def rpRes (l : List Int) : Rp × Int := if (Frm.decF l).1 ≠ 0 then (zRpv, (Frm.decF l).1) else if (Frm.decF l).2.2 ≠ l.length then (zRpv, 3) else match rdRp (Frm.decF l).2.1 with | some r => (r, 0) | none => (zRpv, 3)
def RqAll (w : World) (l : List Int) : Ending → World → Prop := fun e w' => ∃ nv pv, e = .returned (.tuple #[.agg (rqC (rqRes l).1 nv pv).toArray, .int .i64 (rqRes l).2]) ∧ Below w.heap.size w w' ∧ Sl .i64 w' nv (rqRes l).1.nums ∧ IsVs 17 w' pv (rqRes l).1.params
def RpAll (w : World) (l : List Int) : Ending → World → Prop := fun e w' => ∃ nv pv dv, e = .returned (.tuple #[.agg (rpC (rpRes l).1 nv pv dv).toArray, .int .i64 (rpRes l).2]) ∧ Below w.heap.size w w' ∧ Sl .i64 w' nv (rpRes l).1.nums ∧ IsVs 17 w' pv (rpRes l).1.rows ∧ Sl .u8 w' dv (rpRes l).1.data
theorem zRq_cells : rqC zRqv (.slice none 0 0) (.slice none 0 0) = zReq := rfl
theorem zRp_cells : rpC zRpv (.slice none 0 0) (.slice none 0 0) (.slice none 0 0) = zRep := rfl
theorem isVs_nil (f : Nat) (w : World) : IsVs f w (.slice none 0 0) [] := ⟨none, 0, rfl, Nat.le_refl _, by omega, fun h => absurd h (by simp)⟩
theorem RqAll.zero {w w' : World} {l : List Int} {x : Int} (h : rqRes l = (zRqv, x)) (hB : Below w.heap.size w w') : RqAll w l (.returned (.tuple #[.agg zReq.toArray, .int .i64 x])) w' := by
  unfold RqAll; rw [h]; exact ⟨.slice none 0 0, .slice none 0 0, by rw [zRq_cells], hB, Sl.nil _ _, isVs_nil _ _⟩
theorem RpAll.zero {w w' : World} {l : List Int} {x : Int} (h : rpRes l = (zRpv, x)) (hB : Below w.heap.size w w') : RpAll w l (.returned (.tuple #[.agg zRep.toArray, .int .i64 x])) w' := by
  unfold RpAll; rw [h]; exact ⟨.slice none 0 0, .slice none 0 0, .slice none 0 0, by rw [zRp_cells], hB, Sl.nil _ _, isVs_nil _ _, Sl.nil _ _⟩
theorem frame_cases {l : List Int} (hb : Frm.Byt l) : (∃ x, Bad l x ∧ x ≠ 0 ∧ rqRes l = (zRqv, x) ∧ rpRes l = (zRpv, x)) ∨
    ∃ P, l = Frm.frameL P ∧ Frm.Byt P ∧ P.length ≤ 524288 ∧ P.length + 12 = l.length ∧ rqRes l = (match rdRq P with | some r => (r, 0) | none => (zRqv, 3)) ∧ rpRes l = (match rdRp P with | some r => (r, 0) | none => (zRpv, 3)) := by
  by_cases c1 : (Frm.decF l).1 ≠ 0
  · exact .inl ⟨_, .inl ⟨rfl, c1⟩, c1, if_pos c1, if_pos c1⟩
  · by_cases c2 : (Frm.decF l).2.2 ≠ l.length
    · refine .inl ⟨3, .inr ⟨by omega, c2, rfl⟩, by omega, ?_, ?_⟩
      · unfold rqRes
        rw [if_neg c1, if_pos c2]
      · unfold rpRes
        rw [if_neg c1, if_pos c2]
    · right
      have h0 : (Frm.decF l).1 = 0 := by omega
      have h2 : (Frm.decF l).2.2 = l.length := by omega
      obtain ⟨⟨r, hr⟩, hn, hP⟩ := decF_can (P := (Frm.decF l).2.1) (n := (Frm.decF l).2.2) hb (by rw [← h0]); have hFl := Frm.frameL_len (Frm.decF l).2.1; have hr0 : r = [] := by
        have := congrArg List.length hr; rw [List.length_append] at this; exact List.eq_nil_of_length_eq_zero (by omega)
      rw [hr0, List.append_nil] at hr; refine ⟨(Frm.decF l).2.1, hr, ?_, hP, by omega, ?_, ?_⟩
      · intro c hc
        refine hb c ?_; rw [hr]; unfold Frm.frameL; exact List.mem_append.2 (.inr (List.mem_append.2 (.inl hc)))
      · unfold rqRes
        rw [if_neg c1, if_neg c2]
      · unfold rpRes
        rw [if_neg c1, if_neg c2]
theorem RqBack.ok {P : List Int} {r : Rq} (h : RqBack P r) (hb : Frm.Byt P) (hl : P.length ≤ 524288) : RqOk r :=
  ⟨h.kind, h.seq, h.nums, h.r64, h.text, h.params, h.backs, h.hash, h.hbyt, by rw [h.bytes]; exact hb, by rw [h.bytes]; exact hl⟩
theorem RpBack.ok {P : List Int} {r : Rp} (h : RpBack P r) (hb : Frm.Byt P) (hl : P.length ≤ 524288) : RpOk r :=
  ⟨h.err, h.seq, h.nums, h.r64, h.rows, h.backs, h.data, h.dbyt, by rw [h.bytes]; exact hb, by rw [h.bytes]; exact hl⟩
variable {w : World} {v : Value} {l : List Int}
theorem wdecode_all (hv : Sl .u8 w v l) (hb : Frm.Byt l) (hl : l.length ≤ 140737488355328) : Calls Try.prog 11 #[v] w (RqAll w l) := by
  rcases frame_cases hb with ⟨x, hx, h0, hr, -⟩ | ⟨P, hlP, hbP, hP, -, hr, -⟩
  · refine (wdec_bad hv hb hl hx h0).mono ?_
    rintro _ w' ⟨rfl, hB⟩; exact RqAll.zero hr hB
  · cases hq : rdRq P with
    | none =>
      rw [hq] at hr; rw [hlP] at hv; refine (wdec_none hv hbP hP hq).mono ?_; rintro _ w' ⟨rfl, hB⟩; exact RqAll.zero hr hB
    | some r =>
      rw [hq] at hr; have hk := rdRq_ok hbP hq; rw [hlP, ← hk.bytes] at hv; refine (wdec_ok (hk.ok hbP hP) hv).mono ?_; rintro _ w' ⟨nv, pv, rfl, hB, hn, hp⟩; unfold RqAll; rw [hr]; exact ⟨nv, pv, rfl, hB, hn, hp⟩
theorem rdecode_all (hv : Sl .u8 w v l) (hb : Frm.Byt l) (hl : l.length ≤ 140737488355328) : Calls Try.prog 19 #[v] w (RqAll w l) := by
  rcases frame_cases hb with ⟨x, hx, h0, hr, -⟩ | ⟨P, hlP, hbP, hP, -, hr, -⟩
  · refine (rdec_bad hv hb hl hx h0).mono ?_
    rintro _ w' ⟨rfl, hB⟩; exact RqAll.zero hr hB
  · cases hq : rdRq P with
    | none =>
      rw [hq] at hr; rw [hlP] at hv; refine (rdec_none hv hbP hP hq).mono ?_; rintro _ w' ⟨rfl, hB⟩; exact RqAll.zero hr hB
    | some r =>
      rw [hq] at hr; rw [hlP] at hv; refine (rdec_ok hv hbP hP hq).mono ?_; rintro _ w' ⟨nv, pv, rfl, hB, hn, hp⟩; unfold RqAll; rw [hr]; exact ⟨nv, pv, rfl, hB, hn, hp⟩
theorem wdecodeR_all (hv : Sl .u8 w v l) (hb : Frm.Byt l) (hl : l.length ≤ 140737488355328) : Calls Try.prog 17 #[v] w (RpAll w l) := by
  rcases frame_cases hb with ⟨x, hx, h0, -, hr⟩ | ⟨P, hlP, hbP, hP, -, -, hr⟩
  · refine (wdecR_bad hv hb hl hx h0).mono ?_
    rintro _ w' ⟨rfl, hB⟩; exact RpAll.zero hr hB
  · cases hq : rdRp P with
    | none =>
      rw [hq] at hr; rw [hlP] at hv; refine (wdecR_none hv hbP hP hq).mono ?_; rintro _ w' ⟨rfl, hB⟩; exact RpAll.zero hr hB
    | some r =>
      rw [hq] at hr; have hk := rdRp_ok hbP hq; rw [hlP, ← hk.bytes] at hv; refine (wdecR_ok (hk.ok hbP hP) hv).mono ?_; rintro _ w' ⟨nv, pv, dv, rfl, hB, hn, hp, hd⟩; unfold RpAll; rw [hr]; exact ⟨nv, pv, dv, rfl, hB, hn, hp, hd⟩
theorem rdecodeR_all (hv : Sl .u8 w v l) (hb : Frm.Byt l) (hl : l.length ≤ 140737488355328) : Calls Try.prog 20 #[v] w (RpAll w l) := by
  rcases frame_cases hb with ⟨x, hx, h0, -, hr⟩ | ⟨P, hlP, hbP, hP, -, -, hr⟩
  · refine (rdecR_bad hv hb hl hx h0).mono ?_
    rintro _ w' ⟨rfl, hB⟩; exact RpAll.zero hr hB
  · cases hq : rdRp P with
    | none =>
      rw [hq] at hr; rw [hlP] at hv; refine (rdecR_none hv hbP hP hq).mono ?_; rintro _ w' ⟨rfl, hB⟩; exact RpAll.zero hr hB
    | some r =>
      rw [hq] at hr; rw [hlP] at hv; refine (rdecR_ok hv hbP hP hq).mono ?_; rintro _ w' ⟨nv, pv, dv, rfl, hB, hn, hp, hd⟩; unfold RpAll; rw [hr]; exact ⟨nv, pv, dv, rfl, hB, hn, hp, hd⟩
theorem vlE_zero : ∀ {l : List V}, (∀ v ∈ l, (encR v).2 = 0) → vlE l = 0
  | [], _ => rfl
  | v :: l, h => by
    unfold vlE; rw [if_neg (by have := h v (by simp); omega)]; exact vlE_zero fun x hx => h x (by simp [hx])
theorem vlB_take_le (l : List V) (i : Nat) : (vlB (l.take i)).length ≤ (vlB l).length := by
  conv => rhs; rw [← List.take_append_drop i l]
  rw [vlB_app, List.length_append]; omega
theorem few_of {f n : Nat} {l : List V} (h1 : l.length ≤ 4096) (h2 : ∀ v ∈ l, chk 16 v = 0 ∧ (encV 16 v).length ≤ 65536) (h3 : (vlB l).length ≤ 200000) : Few f l n :=
  ⟨h1, fun hv _ => by have := (h2 _ hv).2; omega, fun i _ => Nat.le_trans (vlB_take_le l i) h3⟩
theorem rq_read (hb : Frm.Byt l) (hl : l.length ≤ 8000) (h : (rqRes l).2 = 0) : ∃ P, l = Frm.frameL P ∧ RqBack P (rqRes l).1 ∧ rqE (rqRes l).1 = 0 ∧ Few 17 (rqRes l).1.params 0 := by
  rcases frame_cases hb with ⟨x, -, h0, hr, -⟩ | ⟨P, hlP, hbP, hP, hl2, hr, -⟩
  · rw [hr] at h; exact absurd h h0
  · cases hq : rdRq P with
    | none => rw [hr, hq] at h; cases h
    | some r =>
      rw [hq] at hr; rw [hr]; have hk := rdRq_ok hbP hq; have hvl : (vlB r.params).length ≤ P.length := by
        rw [← hk.bytes]; unfold rqB valsB; simp only [List.length_append]; omega
      refine ⟨P, hlP, hk, ?_, few_of (by have := hk.params; show r.params.length ≤ 4096; omega) hk.good (by show (vlB r.params).length ≤ 200000; omega)⟩; have k1 := hk.kind; have k2 := hk.seq; have k3 := hk.nums; have k4 := hk.text; have k5 := hk.params
      show rqE r = 0
      unfold rqE; rw [if_neg (by omega), if_neg (by omega)]; exact vlE_zero fun v hv => encR_zero (hk.good v hv).1 (hk.good v hv).2
theorem rp_read (hb : Frm.Byt l) (hl : l.length ≤ 8000) (h : (rpRes l).2 = 0) : ∃ P, l = Frm.frameL P ∧ RpBack P (rpRes l).1 ∧ rpE (rpRes l).1 = 0 ∧ Few 17 (rpRes l).1.rows 0 ∧ (rpRes l).1.data.length ≤ 10000 := by
  rcases frame_cases hb with ⟨x, -, h0, -, hr⟩ | ⟨P, hlP, hbP, hP, hl2, -, hr⟩
  · rw [hr] at h; exact absurd h h0
  · cases hq : rdRp P with
    | none => rw [hr, hq] at h; cases h
    | some r =>
      rw [hq] at hr; rw [hr]; have hk := rdRp_ok hbP hq; have hvl : (vlB r.rows).length + r.data.length ≤ P.length := by
        rw [← hk.bytes]; unfold rpB valsB; simp only [List.length_append]; omega
      refine ⟨P, hlP, hk, ?_, few_of hk.rows hk.good (by show (vlB r.rows).length ≤ 200000; omega), by show r.data.length ≤ 10000; omega⟩; have k1 := hk.err; have k2 := hk.seq; have k3 := hk.nums; have k5 := hk.rows
      show rpE r = 0
      unfold rpE; rw [if_neg (by omega), if_neg (by omega)]; exact vlE_zero fun v hv => encR_zero (hk.good v hv).1 (hk.good v hv).2
theorem rqRes_hash (hb : Frm.Byt l) : (rqRes l).1.hash.length = 32 := by
  rcases frame_cases hb with ⟨x, -, h0, hr, -⟩ | ⟨P, hlP, hbP, hP, hl2, hr, -⟩
  · rw [hr]; rfl
  · cases hq : rdRq P with
    | none => rw [hr, hq]; rfl
    | some r =>
      rw [hr, hq]; exact (rdRq_ok hbP hq).hash
theorem rqC_ones {w : World} {f : Nat} {r : Rq} {nv pv : Value} (h1 : Sl .i64 w nv r.nums) (h2 : IsVs f w pv r.params) : Ones (rqC r nv pv) := by
  obtain ⟨sn, cn, rfl, -⟩ := h1; obtain ⟨sp, cp, rfl, -⟩ := h2; intro u hu; unfold rqC at hu; simp only [List.mem_cons, List.mem_map] at hu; rcases hu with rfl | rfl | rfl | rfl | rfl | ⟨a, -, rfl⟩ <;> rfl
theorem rpC_ones {w : World} {f : Nat} {r : Rp} {nv pv dv : Value} (h1 : Sl .i64 w nv r.nums) (h2 : IsVs f w pv r.rows) (h3 : Sl .u8 w dv r.data) : Ones (rpC r nv pv dv) := by
  obtain ⟨sn, cn, rfl, -⟩ := h1; obtain ⟨sp, cp, rfl, -⟩ := h2; obtain ⟨sd, cd, rfl, -⟩ := h3; intro u hu; unfold rpC at hu; simp only [List.mem_cons, List.not_mem_nil, or_false] at hu; rcases hu with rfl | rfl | rfl | rfl | rfl <;> rfl
end K
end Go.Proofs.Ytdkkaliiofcflaa

namespace Go.Proofs.Ytdkkaliiofcflaa
open Go.RowKit
namespace K
end K
end Go.Proofs.Ytdkkaliiofcflaa

namespace Go.Proofs.Ytdkkaliiofcflaa
open Go.RowKit
namespace K
theorem rq_hashAt {T g : Nat} {w : World} {r : Rq} {nv pv : Value} (h : VBlk T w g (rqC r nv pv)) : w.rangeAt g (0 + 5) (r.hash.map (Value.int .u8)) := fun j u hj => by
  have := (VBlk.rangeAt h) (5 + j) u (by unfold rqC; rw [show 5 + j = (j + 1 + 1 + 1 + 1 + 1) by omega]; simpa using hj); rw [show (0 + 5 + j) = 0 + (5 + j) by omega]; exact this
set_option maxHeartbeats 1000000 in
theorem requests_any {f1 f2 : Nat} {w : World} {r : Rq} {n1 n2 p1 p2 : Value} (hh : r.hash.length = 32) (h1 : Sl .i64 w n1 r.nums) (h2 : Sl .i64 w n2 r.nums) (h3 : IsVs f1 w p1 r.params) (h4 : IsVs f2 w p2 r.params) :
    Calls Try.prog 12 #[.agg (rqC r n1 p1).toArray, .agg (rqC r n2 p2).toArray] w fun e w' => e = .returned (.bool true) ∧ Below w.heap.size w w' := by
  obtain ⟨sn1, cn1, rfl, -⟩ := id h1; obtain ⟨sn2, cn2, rfl, -⟩ := id h2; obtain ⟨sp1, cp1, rfl, -⟩ := id h3; obtain ⟨sp2, cp2, rfl, -⟩ := id h4; refine enter (args := [.agg (rqC r (.slice sn1 r.nums.length cn1) (.slice sp1 r.params.length cp1)).toArray, .agg (rqC r (.slice sn2 r.nums.length cn2) (.slice sp2 r.params.length cp2)).toArray]) Try.func12 rfl Try.ntmps12 rfl ?_; refine K.kgn ?_; refine WL.box rfl rfl rfl rfl rfl fun g1 w1 hf0 => ?_; have hf1 : Fresh w g1 w1 32 (rqC r (.slice sn1 r.nums.length cn1) (.slice sp1 r.params.length cp1)) := hf0; clear hf0; refine WL.box rfl rfl rfl rfl rfl fun g2 w2 hf0 => ?_; have hf2 : Fresh w1 g2 w2 33 (rqC r (.slice sn2 r.nums.length cn2) (.slice sp2 r.params.length cp2)) := hf0; clear hf0; have A := hf1.blk.below hf2.below hf1.blk.lt; have B := hf2.blk; have hb2 : Below w.heap.size w w2 := hf1.below.trans (hf2.below.mono hf1.below.size); clear hf1 hf2; have a0 : w2.cell? ⟨g1, 0, none⟩ = some (.int .i64 r.kind) := A.cell 0 (by simp [rqC]); have a1 : w2.cell? ⟨g1, 1, none⟩ = some (.int .i64 r.seq) := A.cell 1 (by simp [rqC]); have a2 : w2.cell? ⟨g1, 2, none⟩ = some (.slice sn1 r.nums.length cn1) := A.cell 2 (by simp [rqC]); have b0 : w2.cell? ⟨g2, 0, none⟩ = some (.int .i64 r.kind) := B.cell 0 (by simp [rqC]); have b1 : w2.cell? ⟨g2, 1, none⟩ = some (.int .i64 r.seq) := B.cell 1 (by simp [rqC]); have b2 : w2.cell? ⟨g2, 2, none⟩ = some (.slice sn2 r.nums.length cn2) := B.cell 2 (by simp [rqC]); refine K.kgl ?_; refine WL.call rfl rfl rfl rfl rfl Try.func36 rfl (by kernel_rfl) (nums25_any (h1.of_below hb2) (h2.of_below hb2)) ?_; rintro _ w3 ⟨rfl, k3⟩; refine ⟨_, rfl, ?_⟩; rw [decide_eq_true (rfl : r.nums = r.nums)]; have A3 := A.below k3 A.lt; have B3 := B.below k3 B.lt; have hb3 : Below w.heap.size w w3 := hb2.trans (k3.mono hb2.size); clear a0 a1 a2 b0 b1 b2 A B; have a3 : w3.cell? ⟨g1, 3, none⟩ = some (.string r.text) := A3.cell 3 (by simp [rqC]); have a4 : w3.cell? ⟨g1, 4, none⟩ = some (.slice sp1 r.params.length cp1) := A3.cell 4 (by simp [rqC]); have b3 : w3.cell? ⟨g2, 3, none⟩ = some (.string r.text) := B3.cell 3 (by simp [rqC]); have b4 : w3.cell? ⟨g2, 4, none⟩ = some (.slice sp2 r.params.length cp2) := B3.cell 4 (by simp [rqC]); refine K.kgl ?_; refine WL.as 31 (.bool true) rfl (by simp) ?_; refine K.kgl ?_; refine WL.call rfl rfl rfl rfl rfl Try.func37 rfl (by kernel_rfl) (vals25_any (h3.below hb3) (h4.below hb3)) ?_; rintro _ w4 ⟨rfl, k4⟩; refine ⟨_, rfl, ?_⟩; have A4 := A3.below k4 A3.lt; have B4 := B3.below k4 B3.lt; have hb4 : Below w.heap.size w w4 := hb3.trans (k4.mono hb3.size); clear a3 a4 b3 b4 A3 B3; refine K.kgo ?_; refine WL.loadMid rfl rfl rfl rfl rfl rfl (rq_hashAt A4) (by rw [List.length_map, hh]) ?_; refine K.kgo ?_; refine WL.loadMid rfl rfl rfl rfl rfl rfl (rq_hashAt B4) (by rw [List.length_map, hh]) ?_; refine WL.on rfl rfl ?_; refine WL.eqlHw rfl rfl rfl rfl rfl rfl hh hh ?_; rw [decide_eq_true (rfl : r.hash = r.hash)]; refine K.kgo ?_; exact WQ.ret1 rfl rfl ⟨rfl, hb4⟩
end K
end Go.Proofs.Ytdkkaliiofcflaa
