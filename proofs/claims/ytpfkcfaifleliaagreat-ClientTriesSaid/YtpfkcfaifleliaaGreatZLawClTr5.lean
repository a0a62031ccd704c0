/- Texts for LawClTr, part 5 of 6. -/
import Derived.Test.YtpfkcfaifleliaaGreatZLawClTr4
namespace Go.Proofs.YtpfkcfaifleliaaGreat
open Go.RowKit
namespace K
theorem elsV {q O : Nat → Prop} {w : World} {f : Nat} {v : Value} {l : List V} (h : Els 6 noV (IsVo q f w) O w v l) : IsVs f w v l := by
  obtain ⟨sp, cap, k1, k2, k3, -, k4⟩ := h; refine ⟨sp, cap, k1, k2, k3, fun h0 => ?_⟩; obtain ⟨b, o, e, hb, -, hr⟩ := k4 h0; refine ⟨b, o, e, hb, fun j hj => ?_⟩; obtain ⟨cs, hc, hp, hat⟩ := hr j hj; exact ⟨cs, hc, IsVo.isV hp, hat⟩
structure DSt (T B rb gx S4 : Nat) (w0 w : World) (rest : List Int) (cells : List Value) (nv : Value) (ns : List Int) (pv : Value) (vs : List V) : Prop where
  r : WR B w rb rest
  hBg : B ≤ gx
  hg : gx < S4
  hs : S4 ≤ w.heap.size
  w0r : w0.heap.size ≤ rb
  x : VBlk T w gx cells
  n : OwnE 3 1 0 intP (fun b => S4 ≤ b) w nv ns
  v : ∃ q : Nat → Prop, OwnE 82 6 noV (IsVo q 17 w) (fun b => S4 ≤ b) w pv vs ∧ ∀ b, q b → S4 ≤ b ∧ b < w.heap.size
  below : Below w0.heap.size w0 w
section
variable {T B rb gx S4 : Nat} {w0 w w' : World} {rest rest' : List Int} {cells cells' : List Value} {nv : Value} {ns : List Int} {pv : Value} {vs : List V}
theorem DSt.rg (s : DSt T B rb gx S4 w0 w rest cells nv ns pv vs) : rb < gx := Nat.lt_of_lt_of_le s.r.rlt s.hBg
theorem DSt.keep (s : DSt T B rb gx S4 w0 w rest cells nv ns pv vs) {K : Nat → Prop} (k : Keep K w w') (hK : ∀ b, b < w.heap.size → b ≠ rb → b ≠ gx → K b) (r' : WR B w' rb rest') (x' : VBlk T w' gx cells') : DSt T B rb gx S4 w0 w' rest' cells' nv ns pv vs := by
  have h1 := s.rg; have h2 := s.hg; have h3 := s.w0r; have h4 := s.hs; refine ⟨r', s.hBg, s.hg, Nat.le_trans s.hs k.size, s.w0r, x', s.n.keep k (fun g hg => hK g (s.n.lt hg) (by have := s.n.own hg; omega) (by have := s.n.own hg; omega)) (fun _ h => h) fun _ _ h => h, ?_, ?_⟩
  · obtain ⟨q, ho, hq⟩ := s.v
    refine ⟨q, ho.keep k (fun g hg => hK g (ho.lt hg) (by have := ho.own hg; omega) (by have := ho.own hg; omega)) (fun _ h => h) fun y cs hy => hy.keep k (fun b hb _ => hK b (hq b hb).2 (by have := (hq b hb).1; omega) (by have := (hq b hb).1; omega)) fun b hb => hb, fun b hb => ⟨(hq b hb).1, by have := (hq b hb).2; have := k.size; omega⟩⟩
  · exact s.below.trans (Keep.below (k.mono fun b hb => hK b (by omega) (by omega) (by omega)))
theorem DSt.call (s : DSt T B rb gx S4 w0 w rest cells nv ns pv vs) (r' : WR B w' rb rest') (k : KeepR rb w w') : DSt T B rb gx S4 w0 w' rest' cells nv ns pv vs :=
  s.keep k (fun b h1 h2 _ => ⟨h1, h2⟩) r' (s.x.keep k ⟨s.x.lt, by have := s.rg; omega⟩)
theorem DSt.put (s : DSt T B rb gx S4 w0 w rest cells nv ns pv vs) (i : Nat) (u : Value) : DSt T B rb gx S4 w0 (w.setCell ⟨gx, i, none⟩ u) rest (cells.set i u) nv ns pv vs :=
  s.keep (K := fun b => b ≠ gx) ((Keep.refl _ w).setCell (fun hk => hk rfl) _) (fun b _ _ h => h) (s.r.keep (K := fun b => b ≠ gx) ((Keep.refl _ w).setCell (fun hk => hk rfl) _) fun b hb => by have := s.hBg; omega) (s.x.set i u)
theorem DSt.bad (s : DSt T B rb gx S4 w0 w rest cells nv ns pv vs) : DSt T B rb gx S4 w0 (w.setCell ⟨rb, 1, none⟩ (.bool false)) rest cells nv ns pv vs := s.call s.r.setF (KeepR.set _ _ _ _)
theorem DSt.down (s : DSt T B rb gx S4 w0 w rest cells nv ns pv vs) (k : Below w.heap.size w w') : DSt T B rb gx S4 w0 w' rest cells nv ns pv vs :=
  s.keep (Keep.of_below k) (fun b h _ _ => h) (s.r.keep (Keep.of_below k) fun b hb => by have := s.hBg; have := s.hg; have := s.hs; omega) (s.x.below k s.x.lt)
end
theorem wopen_ok {w : World} {v : Value} {P : List Int} (hv : Sl .u8 w v (Frm.frameL P)) (hb : Frm.Byt P) (hl : P.length ≤ 524288) :
    Calls Tryz.prog 53 #[v] w fun e w' => ∃ rb, e = .returned (.tuple #[.pointer (some ⟨rb, 0, none⟩), .int .i64 0]) ∧ WR w'.heap.size w' rb P ∧ Below w.heap.size w w' ∧ w.heap.size ≤ rb := by
  have hFl := Frm.frameL_len P; have hFb : Frm.Byt (Frm.frameL P) := fun c hc => by
    unfold Frm.frameL Frm.headF at hc; rcases List.mem_append.1 hc with h | h
    · exact (List.mem_append.1 h).elim (Crc.be4_byt _ c) (Crc.be4_byt _ c)
    · exact (List.mem_append.1 h).elim (hb c) (Crc.be4_byt _ c)
  have hdec : Frm.decF (Frm.frameL P) = (0, P, P.length + 12) := by
    have := Frm.decF_enc hl []
    rwa [List.append_nil] at this
  generalize Frm.frameL P = F at hv hFl hFb hdec; obtain ⟨sp, cap, rfl, -⟩ := id hv; refine enter (args := [.slice sp F.length cap]) Tryz.func53 rfl Tryz.ntmps53 rfl ?_; refine K.kgo ?_; refine WL.call rfl rfl rfl rfl rfl Tryz.func86 rfl (by kernel_rfl) (fdec_any hv hFb (by omega)) ?_; rintro _ w1 ⟨b, rfl, q1, k1, o1⟩; refine ⟨_, rfl, ?_⟩; have d1 : (Frm.decF F).1 = 0 := by rw [hdec]
  have d2 : (Frm.decF F).2.1 = P := by rw [hdec]
  have d3 : (Frm.decF F).2.2 = P.length + 12 := by rw [hdec]
  rw [d2] at q1; rw [d1, d3]; obtain ⟨spb, capb, rfl, -⟩ := id q1.form; have hF' : ((P.length + 12 : Nat) : Int) = (F.length : Int) := by omega
  refine K.kgo ?_; refine WL.build [.slice spb P.length capb, .bool false] rfl rfl rfl rfl rfl (by kernel_rfl) ?_; refine WL.box rfl rfl rfl rfl rfl fun g w2 hf0 => ?_; have hf : Fresh w1 g w2 155 [.slice spb P.length capb, .bool false] := hf0; clear hf0; have hge := hf.eq; have hgs := hf.size; have q2 := q1.below hf.below; have T := hf.blk; have k2 : Below w.heap.size w w2 := k1.trans (hf.below.mono k1.size); refine K.kgo ?_; refine WQ.ret2 rfl rfl rfl ⟨g, rfl, ⟨by omega, hb, ?_⟩, k2, by have := k1.size; omega⟩; have hob : (Value.slice spb P.length capb).ownBlock ≠ some g := fun e => by have := q1.lt _ e; omega
  exact ⟨spb, capb, T, q2.sl, fun h0 b' o' s' n' c' e => by
    injection e with e1 _ _
    subst e1; have : (Value.slice (some ⟨b', o', s'⟩) P.length capb).ownBlock = some b' := rfl; exact ⟨q2.lt _ this, fun e => hob (by rw [this, e])⟩⟩
end K
end Go.Proofs.YtpfkcfaifleliaaGreat

namespace Go.Proofs.YtpfkcfaifleliaaGreat
open Go.RowKit
namespace K
variable {n : NN} {Q : Exit → Act → World → Prop} {l : Env} {w w' : World} {ops : Array Oper} {o : Oper} {rest : List Oper} {d : Nat}
theorem copy_run {v : Value} {x : List Int} {b off m T : Nat} {cs : List Value} (ty' : Nat) (hb : VBlk T w b cs) (hs : Sl .u8 w v x) (hx : x.length ≤ m) (hfit : off + m ≤ cs.length) :
    (Builtin.copy_ #[47, 47] ty' #[.slice (some ⟨b, off, none⟩) m m, v]).run Tryz.prog w = .ok (.int .i64 x.length) (w.setRow b (cs.take off ++ x.map (Value.int .u8) ++ cs.drop (off + x.length)).toArray) := by
  have hsz : (Tryz.prog.info? 5).map (·.size) = some 1 := by kernel_rfl
  obtain ⟨sp, cap, rfl, h1, h2, h3, h4⟩ := hs; rcases Nat.eq_zero_or_pos x.length with h0 | h0
  · obtain rfl := List.eq_nil_of_length_eq_zero h0
    have hself : w.setRow b (cs.take off ++ ([] : List Int).map (Value.int .u8) ++ cs.drop (off + ([] : List Int).length)).toArray = w := by
      simp only [List.map_nil, List.append_nil, List.length_nil, Nat.add_zero, List.take_append_drop]; exact setRow_self w b cs.toArray T (0, 0) hb
    rw [hself]; cases sp with
    | none =>
      obtain rfl := h4 rfl; have := run_copy_nil Tryz.prog w 47 47 ty' 5 ⟨b, off, none⟩ m m Tryz.underlying47 (by rw [hsz]; rfl); simp only [List.length_nil]; rw [this]; have e0 : ((0 : Nat) : Int) = 0 := rfl; rw [e0, goInt]
    | some p =>
      have := run_copy_row Tryz.prog w 47 47 ty' 5 b off m m p 0 cap cs.toArray T [] Tryz.underlying47 hsz hb (by simp) (by simp) (by simp; omega) (by simp); have hself2 : w.setRow b (cs.toArray.toList.take off ++ [] ++ cs.toArray.toList.drop (off + ([] : List Value).length)).toArray = w := by
        simp only [List.append_nil, List.length_nil, Nat.add_zero, List.take_append_drop]; exact setRow_self w b cs.toArray T (0, 0) hb
      rw [hself2] at this; exact this
  · obtain ⟨b2, o2, rfl, hlt, hr⟩ := h3 h0
    have := run_copy_row Tryz.prog w 47 47 ty' 5 b off m m ⟨b2, o2, none⟩ x.length cap cs.toArray T (x.map (Value.int .u8)) Tryz.underlying47 hsz hb (by rw [List.length_map]; exact (Nat.min_eq_left hx).symm)
      (fun j v hj => by
        rw [List.getElem?_map] at hj; obtain ⟨z, hz, rfl⟩ := Option.map_eq_some_iff.1 hj; have hjl : j < x.length := by
          rcases Nat.lt_or_ge j x.length with h | h
          · exact h
          · rw [List.getElem?_eq_none h] at hz; cases hz
        have := hr.at j hjl; have e1 : (⟨b2, o2, none⟩ : Addr).add j = ⟨b2, o2 + j, none⟩ := by unfold Addr.add; split <;> simp_all
        rw [e1, this]; have : nth x j = z := by unfold nth; rw [List.getD_eq_getElem?_getD, hz]; rfl
        rw [this])
      (by simp only [List.length_map, List.size_toArray]; omega) (Ones.int _ _)
    refine this.trans ?_; simp only [List.length_map]
    rfl
theorem WL.copy {x y : Operand} {v : Value} {z : List Int} {b off m T : Nat} {cs : List Value} (hg : o.guard = none) (hd : o.dst = some d) (hn : Nat.blt d n.n = true)
    (ho : o.op = .call { callee := .builtin .copy, args := #[x, y], argTypes := #[47, 47] }) (hx : evl l x = some (.slice (some ⟨b, off, none⟩) m m)) (hy : evl l y = some v) (hs : Sl .u8 w v z) (hz : z.length ≤ m) (hb : VBlk T w b cs) (hfit : off + m ≤ cs.length)
    (h : WL n ops Q rest ((d, .int .i64 z.length) :: l) (w.setRow b (cs.take off ++ z.map (Value.int .u8) ++ cs.drop (off + z.length)).toArray)) : WL n ops Q (o :: rest) l w := by
  have hr := copy_run o.type hb hs hz hfit; refine WL.step hg hd hn (fun a ha => ?_) h; unfold execOp; simp only [ho, resolve, invoke, builtin, Sem.run_bind, Sem.run_pure, Result.andThen_ok, List.map_toArray, List.map_cons, List.map_nil, ha.eval hx, ha.eval hy, hr]
end K
end Go.Proofs.YtpfkcfaifleliaaGreat

namespace Go.Proofs.YtpfkcfaifleliaaGreat
open Go.RowKit
namespace K
def RqDec (w : World) (r : Rq) : Ending → World → Prop := fun e w' => ∃ nv pv, e = .returned (.tuple #[.agg (rqC r nv pv).toArray, .int .i64 0]) ∧ Below w.heap.size w w' ∧ Sl .i64 w' nv r.nums ∧ IsVs 17 w' pv r.params
end K
end Go.Proofs.YtpfkcfaifleliaaGreat

namespace Go.Proofs.YtpfkcfaifleliaaGreat
open Go.RowKit
namespace K
theorem rshort_any (n : Nat) (w : World) : Calls Tryz.prog 51 #[.int .u32 (n : Int)] w (Makes w (Crc.be4 n)) := by
  refine enter (args := [.int .u32 (n : Int)]) Tryz.func51 rfl Tryz.ntmps51 rfl ?_; have h4 : [IntKind.u8.wrap ((n : Int) / ((2 ^ min 24 IntKind.u32.bits : Nat) : Int)), IntKind.u8.wrap ((n : Int) / ((2 ^ min 16 IntKind.u32.bits : Nat) : Int)), IntKind.u8.wrap ((n : Int) / ((2 ^ min 8 IntKind.u32.bits : Nat) : Int)), IntKind.u8.wrap (n : Int)] = Crc.be4 n := by
    unfold Crc.be4; rw [show ((2 ^ min 24 IntKind.u32.bits : Nat) : Int) = 16777216 from rfl, show ((2 ^ min 16 IntKind.u32.bits : Nat) : Int) = 65536 from rfl, show ((2 ^ min 8 IntKind.u32.bits : Nat) : Int) = 256 from rfl]; simp only [IntKind.wrap_u8]; simp
  refine K.kgo ?_; refine WL.lit rfl rfl rfl rfl rfl rfl rfl fun v w1 h1 h2 h3 => ?_; rw [h4] at h1; refine K.kgo ?_; exact WQ.ret1 rfl rfl ⟨v, rfl, h1, h2, h3⟩
def stepN : Nat → BitVec 32 → BitVec 32
  | 0, c => c
  | j + 1, c => stepN j (Crc.step c)
theorem and1_32 (c : BitVec 32) : bits .and .u32 (c.toNat : Int) 1 = ((c.toNat % 2 : Nat) : Int) := by
  have h := c.isLt; have := Go.bits_mask .u32 32 (by decide) (fun n h0 h1 => by rw [IntKind.wrap_u32]; omega) 1 (by decide) (c.toNat : Int) (by omega) (by omega); rw [show ((2 : Int) ^ 1 - 1) = 1 by decide, show ((2 : Int) ^ 1) = 2 by decide] at this; omega
theorem shr1_32 (c : BitVec 32) : (c.toNat : Int) / ((2 ^ min 1 IntKind.u32.bits : Nat) : Int) = ((c >>> 1).toNat : Int) := by
  rw [show ((2 ^ min 1 IntKind.u32.bits : Nat) : Int) = 2 from rfl, BitVec.toNat_ushiftRight, Nat.shiftRight_eq_div_pow]; omega
theorem low_bit (c : BitVec 32) : c.getLsbD 0 = decide (c.toNat % 2 = 1) := by
  rw [BitVec.getLsbD, Nat.testBit_zero]
theorem step_odd (c : BitVec 32) (h : c.toNat % 2 = 1) : bits .xor .u32 ((c.toNat : Int) / ((2 ^ min 1 IntKind.u32.bits : Nat) : Int)) 3988292384 = ((Crc.step c).toNat : Int) := by
  rw [shr1_32, xor32]; unfold Crc.step; rw [low_bit, decide_eq_true h, if_pos rfl]
  rfl
theorem step_ev (c : BitVec 32) (h : ¬ c.toNat % 2 = 1) : (c.toNat : Int) / ((2 ^ min 1 IntKind.u32.bits : Nat) : Int) = ((Crc.step c).toNat : Int) := by
  rw [shr1_32, Crc.step_even c (by rw [low_bit, decide_eq_false h])]
theorem rsum_any {w : World} {v : Value} {l : List Int} (hv : Sl .u8 w v l) (hb : ∀ c ∈ l, 0 ≤ c ∧ c ≤ 255) (hl : l.length ≤ 140737488355328) :
    Calls Tryz.prog 52 #[v] w fun e w' => e = .returned (.int .u32 (Crc.crcN l : Nat)) ∧ w' = w := by
  obtain ⟨sp, cap, rfl, -⟩ := id hv; refine enter (args := [.slice sp l.length cap]) Tryz.func52 rfl Tryz.ntmps52 rfl ?_; refine K.kgo ?_; refine WC.loop (fun i : Nat × BitVec 32 => [(0, .slice sp l.length cap), (3, .int .u32 (i.2.toNat : Int)), (4, .int .i64 i.1)])
    (fun i w' => i.1 ≤ l.length ∧ i.2 = Crc.run 0xffffffff#32 (l.take i.1) ∧ w' = w) (fun i => l.length - i.1) (0, 0xffffffff#32) ⟨rfl, rfl, rfl, trivial⟩ ⟨Nat.zero_le _, rfl, rfl⟩ ?_
  rintro ⟨i, c⟩ _ ⟨hi, hc, rfl⟩; simp only at hi hc ⊢
  by_cases h : i < l.length
  · have hbc := hb (nth l i) (nth_mem' l i h)
    have hu : IntKind.u32.wrap (nth l i) = nth l i := by rw [IntKind.wrap_u32]; omega
    refine K.kgo ?_; refine WL.idxI i rfl rfl rfl rfl rfl rfl hv rfl rfl h fun p hp => ?_; refine K.kgl ?_; have e1 : bits .xor .u32 (c.toNat : Int) (IntKind.u32.wrap (nth l i)) = ((c ^^^ BitVec.ofInt 32 (nth l i)).toNat : Int) := by rw [hu]; exact xor32 c _
    have hnext : Crc.run 0xffffffff#32 (l.take (i + 1)) = Crc.step8 (c ^^^ BitVec.ofInt 32 (nth l i)) := by
      rw [take_succ' l i h, Crc.run_app, ← hc]; rfl
    generalize hd : c ^^^ BitVec.ofInt 32 (nth l i) = d at e1 hnext; refine WC.loop (fun j : Nat × BitVec 32 => [(0, .slice sp l.length cap), (3, .int .u32 (j.2.toNat : Int)), (4, .int .i64 i), (5, .int .i64 j.1)])
      (fun j wx => j.1 ≤ 8 ∧ stepN (8 - j.1) j.2 = Crc.step8 d ∧ wx = _) (fun j => 8 - j.1) (0, d) ⟨rfl, congrArg (fun z => some (Value.int .u32 z)) e1, rfl, rfl, trivial⟩ ⟨Nat.zero_le _, rfl, rfl⟩ ?_
    rintro ⟨j, y⟩ _ ⟨hj, hy, rfl⟩; simp only at hj hy ⊢
    by_cases h8 : j < 8
    · rw [show 8 - j = (8 - (j + 1)) + 1 by omega] at hy
      have hy' : stepN (8 - (j + 1)) (Crc.step y) = Crc.step8 d := hy; have ha := and1_32 y
      by_cases h2 : y.toNat % 2 = 1
      · have ht : bits .and .u32 (y.toNat : Int) 1 = 1 := by omega
        refine K.kgo ?_; exact WQ.again (j + 1, Crc.step y) ⟨rfl, congrArg (fun z => some (Value.int .u32 z)) (step_odd y h2), rfl, rfl, trivial⟩ ⟨by show j + 1 ≤ 8; omega, hy', rfl⟩ (by show 8 - (j + 1) < 8 - j; omega)
      · have ht : bits .and .u32 (y.toNat : Int) 1 ≠ 1 := by omega
        refine K.kgo ?_; exact WQ.again (j + 1, Crc.step y) ⟨rfl, congrArg (fun z => some (Value.int .u32 z)) (step_ev y h2), rfl, rfl, trivial⟩ ⟨by show j + 1 ≤ 8; omega, hy', rfl⟩ (by show 8 - (j + 1) < 8 - j; omega)
    · obtain rfl : j = 8 := by omega
      have hy' : y = Crc.step8 d := hy; refine K.kgo ?_; exact WQ.again (i + 1, y) ⟨rfl, rfl, rfl, trivial⟩ ⟨by show i + 1 ≤ l.length; omega, hy'.trans hnext.symm, rfl⟩ (by show l.length - (i + 1) < l.length - i; omega)
  · have hfin : bits .xor .u32 (if IntKind.u32.signed = true then -1 else IntKind.u32.max) (c.toNat : Int) = ((Crc.crcN l : Nat) : Int) := by
      rw [List.take_of_length_le (by omega)] at hc
      show bits .xor .u32 4294967295 (c.toNat : Int) = ((Crc.sum l).toNat : Int)
      have := xor32 0xffffffff#32 (c.toNat : Int); rw [show (((0xffffffff#32).toNat : Nat) : Int) = 4294967295 from rfl] at this; rw [this, BitVec.ofInt_natCast, BitVec.ofNat_toNat, BitVec.setWidth_eq]; unfold Crc.sum; rw [← hc, show (0xffffffff#32 : BitVec 32) = BitVec.allOnes 32 by decide, BitVec.allOnes_xor]
    refine K.kgo ?_; exact WQ.ret1 (v := .int .u32 (Crc.crcN l : Nat)) rfl (congrArg (fun z => some (Value.int .u32 z)) hfin) ⟨rfl, rfl⟩
theorem rfenc_any {w : World} {v : Value} {p : List Int} (hv : Sl .u8 w v p) (hp : Frm.Byt p) (hl : p.length ≤ 140737488355328) : Calls Tryz.prog 30 #[v] w (FrmOut w p) := by
  obtain ⟨sp, cap, rfl, h1, h2, -⟩ := id hv; refine enter (args := [.slice sp p.length cap]) Tryz.func30 rfl Tryz.ntmps30 rfl ?_; unfold FrmOut
  by_cases h : 524288 < p.length
  · rw [if_pos h, if_pos h]
    refine K.kgo ?_; exact WQ.ret2 rfl rfl rfl ⟨_, rfl, Bu.nil w, Below.refl _ _, fun g h => by cases h⟩
  rw [if_neg h, if_neg h]; have hw32 : IntKind.u32.wrap (p.length : Int) = (p.length : Int) := wraps_u32 _ (by omega) (by omega); refine K.kgo ?_; refine WL.as 10 (.int .u32 (p.length : Int)) rfl (congrArg (Value.int .u32) hw32) ?_; refine WL.call rfl rfl rfl rfl rfl Tryz.func51 rfl (by kernel_rfl) (rshort_any p.length w) ?_; rintro _ w1 ⟨b1, rfl, q1, k1, o1⟩; refine ⟨_, rfl, ?_⟩; refine K.kgo ?_; refine WL.call rfl rfl rfl rfl rfl Tryz.func52 rfl (by kernel_rfl) (rsum_any q1.sl (Crc.be4_byt _) (by show 4 ≤ _; omega)) ?_; rintro _ _ ⟨rfl, rfl⟩; refine ⟨_, rfl, ?_⟩; refine WL.call rfl rfl rfl rfl rfl Tryz.func51 rfl (by kernel_rfl) (rshort_any _ _) ?_; rintro _ w2 ⟨b2, rfl, q2, k2, o2⟩; refine ⟨_, rfl, ?_⟩; refine WL.app rfl rfl rfl rfl rfl (q1.below k2) rfl q2.sl (by show 4 + 4 ≤ _; omega) fun b3 w3 q3 g3 => ?_; have hw2 : Below w.heap.size w w2 := k1.trans (k2.mono k1.size); have ap3 : Apart w w3 b3 := Apart.grow ⟨hw2, o1⟩ g3; have q3' : Bu w3 b3 (Frm.headF p.length) := q3; clear q3 g3 q1 q2 k2 o2; refine K.kgo ?_; refine WL.app rfl rfl rfl rfl rfl q3' rfl (hv.of_below ap3.below) (by rw [Frm.headF_len]; omega) fun b4 w4 q4 g4 => ?_; have ap4 := ap3.grow g4; clear g4 q3'; have hH : Frm.Byt (Frm.headF p.length ++ p) := fun c hc => (List.mem_append.1 hc).elim (fun h => by unfold Frm.headF at h; exact (List.mem_append.1 h).elim (Crc.be4_byt _ c) (Crc.be4_byt _ c)) (hp c); have hHl : (Frm.headF p.length ++ p).length = p.length + 8 := by rw [List.length_append, Frm.headF_len]; omega
  refine K.kgo ?_; refine WL.call rfl rfl rfl rfl rfl Tryz.func52 rfl (by kernel_rfl) (rsum_any q4.sl hH (by omega)) ?_; rintro _ _ ⟨rfl, rfl⟩; refine ⟨_, rfl, ?_⟩; refine WL.call rfl rfl rfl rfl rfl Tryz.func51 rfl (by kernel_rfl) (rshort_any _ _) ?_; rintro _ w5 ⟨b5, rfl, q5, k5, o5⟩; refine ⟨_, rfl, ?_⟩; refine WL.app rfl rfl rfl rfl rfl (q4.below k5) rfl q5.sl (by rw [hHl]; show p.length + 8 + 4 ≤ _; omega) fun b6 w6 q6 g6 => ?_; have ap6 := ap4.grow (((Grow.refl _ b4).below k5).trans g6); refine K.kgo ?_; refine WQ.ret2 rfl rfl rfl ⟨b6, rfl, ?_, ap6.below, ap6.own⟩; have : Frm.frameL p = Frm.headF p.length ++ p ++ Crc.be4 (Crc.crcN (Frm.headF p.length ++ p)) := by unfold Frm.frameL; rw [List.append_assoc]
  rw [this]; exact q6
end K
end Go.Proofs.YtpfkcfaifleliaaGreat

namespace Go.Proofs.YtpfkcfaifleliaaGreat
open Go.RowKit
namespace K

theorem ruvarint_any (u : Nat) (hu : u < 18446744073709551616) (w : World) :
    Calls Tryz.prog 48 #[.int .u64 u] w fun e w' => ∃ b, e = .returned b ∧ Bu w' b (uvB u) ∧ Below w.heap.size w w' ∧ ∀ g, b.ownBlock = some g → w.heap.size ≤ g := by
  refine enter (args := [.int .u64 u]) Tryz.func48 rfl Tryz.ntmps48 rfl ?_; have h1 : u < 2 * 128 ^ 9 := by omega
  have h2 : uvB u = [] ++ uvF (9 + 1) u := by rw [List.nil_append]; rfl
  refine K.kgo ?_; refine WC.loop (fun i : Nat × Nat × List Int × Value => [(0, .int .u64 i.2.1), (3, i.2.2.2)])
    (fun i w' => i.2.1 < 2 * 128 ^ i.1 ∧ i.1 ≤ 9 ∧ uvB u = i.2.2.1 ++ uvF (i.1 + 1) i.2.1 ∧ i.2.2.1.length ≤ 9 ∧ Bu w' i.2.2.2 i.2.2.1 ∧ Grow w (.slice none 0 0) w' i.2.2.2) (fun i => i.1) (9, u, [], .slice none 0 0) ⟨rfl, rfl, trivial⟩ ⟨h1, Nat.le_refl 9, h2, Nat.zero_le 9, Bu.nil w, Grow.refl _ _⟩ ?_
  rintro ⟨f, c, A, v⟩ wr ⟨hc, hf, hA, hl, hb, hg⟩; simp only at hc hf hA hl hb hg ⊢; have hle : (128 : Nat) ^ f ≤ 128 ^ 9 := Nat.pow_le_pow_right (by decide) hf
  by_cases h : c < 128
  · have hw : IntKind.u8.wrap (c : Int) = (c : Int) := by rw [IntKind.wrap_u8]; omega
    have hfin : uvF (f + 1) c = [(c : Int)] := by rw [uvF, if_pos h]
    refine K.kgo ?_; refine WL.push rfl rfl rfl rfl rfl rfl rfl rfl rfl rfl rfl (fun _ => rfl) rfl hb (by simp only [List.length_cons, List.length_nil]; omega) fun b2 w2 hb2 hg2 => ?_; refine K.kgo ?_; have hg3 := hg.trans hg2; refine WQ.ret1 rfl rfl ⟨b2, rfl, ?_, hg3.old (Nat.le_refl _) (fun g h => by cases h), hg3.own (Nat.le_refl _) (fun g h => by cases h)⟩; rw [hw] at hb2; rw [hA, hfin]; exact hb2
  · obtain ⟨f, rfl⟩ : ∃ f', f = f' + 1 := ⟨f - 1, by
      cases f with
      | zero => simp at hc; omega
      | succ f => rfl⟩
    have hbig : uvF (f + 1 + 1) c = ((c % 128 + 128 : Nat) : Int) :: uvF (f + 1) (c / 128) := uvF_big (by omega); have hw : bits .or .u8 (IntKind.u8.wrap (bits .and .u64 (c : Int) 127)) 128 = ((c % 128 + 128 : Nat) : Int) := by
      have := or128 (c % 128) (by omega); rw [and127 c (by omega), show IntKind.u8.wrap ((c % 128 : Nat) : Int) = ((c % 128 : Nat) : Int) by rw [IntKind.wrap_u8]; omega, this]; omega
    refine K.kgo ?_; refine WL.push rfl rfl rfl rfl rfl rfl rfl rfl rfl rfl rfl (fun _ => rfl) rfl hb (by simp only [List.length_cons, List.length_nil]; omega) fun b2 w2 hb2 hg2 => ?_; rw [hw] at hb2; refine K.kgo ?_; refine WQ.again (f, c / 128, A ++ [((c % 128 + 128 : Nat) : Int)], b2) ⟨congrArg (fun z => some (Value.int .u64 z)) (shr7 c), rfl, trivial⟩
      ⟨by rw [Nat.pow_succ] at hc; show c / 128 < 2 * 128 ^ f; omega, by show f ≤ 9; omega, by show uvB u = A ++ [((c % 128 + 128 : Nat) : Int)] ++ uvF (f + 1) (c / 128); rw [hA, hbig]; simp, ?_, hb2, hg.trans hg2⟩ (by show f < f + 1; omega)
    show (A ++ [((c % 128 + 128 : Nat) : Int)]).length ≤ 9
    have := congrArg List.length hA; rw [List.length_append, hbig, List.length_cons] at this; have h10 : (uvB u).length ≤ 10 := uvF_len 10 u; have h1 : 1 ≤ (uvF (f + 1) (c / 128)).length := by unfold uvF; split <;> simp
    rw [List.length_append]; simp only [List.length_cons, List.length_nil]; omega
end K
end Go.Proofs.YtpfkcfaifleliaaGreat

namespace Go.Proofs.YtpfkcfaifleliaaGreat
open Go.RowKit
namespace K

theorem rzig_any (v : Int) (h : -9223372036854775808 ≤ v ∧ v ≤ 9223372036854775807) (w : World) : Calls Tryz.prog 50 #[.int .i64 v] w fun e w' => e = .returned (.int .u64 (zig v : Nat)) ∧ w' = w := by
  refine enter (args := [.int .i64 v]) Tryz.func50 rfl Tryz.ntmps50 rfl ?_; refine K.kgo ?_
  by_cases hv : 0 ≤ v
  · refine WC.condT rfl hv ?_
    have e : IntKind.u64.wrap (2 * IntKind.u64.wrap v) = (zig v : Nat) := by unfold zig; rw [if_pos hv, IntKind.wrap_u64, IntKind.wrap_u64]; omega
    refine K.kgo ?_; exact WQ.ret1 rfl rfl ⟨congrArg (fun z => Ending.returned (Value.int .u64 z)) e, rfl⟩
  · refine WC.condF rfl hv ?_
    have e : IntKind.u64.wrap (IntKind.u64.wrap (2 * IntKind.u64.wrap (IntKind.i64.wrap (0 - (v + 1)))) + 1) = (zig v : Nat) := by unfold zig; rw [if_neg hv]; simp only [IntKind.wrap_u64, IntKind.wrap_i64]; omega
    refine K.kgn ?_; refine WL.pure rfl rfl rfl rfl ?_; refine WL.pureAs (.int .i64 (v + 1)) rfl rfl rfl rfl (congrArg (Value.int .i64) (IntWalk.i64_in _ (by omega))) ?_; refine WL.pure rfl rfl rfl rfl ?_; refine WL.pure rfl rfl rfl rfl ?_; refine WL.pure rfl rfl rfl rfl ?_; refine WL.pure rfl rfl rfl rfl ?_; refine WL.pure rfl rfl rfl rfl ?_; refine K.kgn ?_; exact WQ.ret1 rfl rfl ⟨congrArg (fun z => Ending.returned (Value.int .u64 z)) e, rfl⟩
theorem rtext_any {w : World} {b : Value} {l : List Int} {s : ByteArray} (hb : Bu w b l) (hm : l.length + 10 + s.size ≤ 70368744178000) :
    Calls Tryz.prog 115 #[b, .string s] w fun e w' => ∃ b', e = .returned b' ∧ Bu w' b' (l ++ (uvB s.size ++ byI s)) ∧ Grow w b w' b' := by
  refine enter (args := [b, .string s]) Tryz.func115 rfl Tryz.ntmps115 rfl ?_; have e8 : IntKind.u64.wrap (s.size : Int) = ((s.size : Nat) : Int) := by rw [IntKind.wrap_u64]; omega
  have hul : (uvB s.size).length ≤ 10 := uvF_len 10 _; refine K.kgo ?_; refine WL.call rfl rfl rfl rfl rfl Tryz.func48 rfl (by kernel_rfl) (by rw [e8]; exact ruvarint_any s.size (by omega) w) ?_; rintro _ w2 ⟨b2, rfl, hb2, hk2, -⟩; refine ⟨_, rfl, ?_⟩; refine WL.app rfl rfl rfl rfl rfl (hb.below hk2) rfl hb2.sl (by omega) fun b3 w3 hb3 hg3 => ?_; refine K.kgo ?_; refine WL.appS rfl rfl rfl rfl rfl hb3 rfl (by rw [List.length_append]; omega) fun b4 w4 hb4 hg4 => ?_; refine K.kgo ?_; exact WQ.ret1 rfl rfl ⟨b4, rfl, by rw [← List.append_assoc]; exact hb4, (((Grow.refl w b).below hk2).trans hg3).trans hg4⟩
end K
end Go.Proofs.YtpfkcfaifleliaaGreat

namespace Go.Proofs.YtpfkcfaifleliaaGreat
open Go.RowKit
namespace K

set_option maxHeartbeats 16000000 in
theorem rbytes_any (m : Nat) (ih : ∀ {f : Nat} {w0 w : World} {v : V} {cs : List Value} {b : Value} {l : List Int}, IsV f w0 v cs → chk m v = 0 → Bu w b l → Apart w0 w b → l.length + (encV m v).length ≤ 70368744177664 →
      Calls Tryz.prog 85 #[b, .agg cs.toArray] w fun e w' => ∃ b', e = .returned b' ∧ Bu w' b' (l ++ encV m v) ∧ Grow w b w' b') {f : Nat} {w0 w : World} {v : V} {cs : List Value} {b : Value} {l : List Int}
    (hv : IsV f w0 v cs) (hc : chk (m + 1) v = 0) (hb : Bu w b l) (ha : Apart w0 w b) (hm : l.length + (encV (m + 1) v).length ≤ 70368744177664) :
    Calls Tryz.prog 85 #[b, .agg cs.toArray] w fun e w' => ∃ b', e = .returned b' ∧ Bu w' b' (l ++ encV (m + 1) v) ∧ Grow w b w' b' := by
  obtain ⟨hk, f2, f3, f4, f5, fk, ft, f9⟩ := shp_form (chk_shp hc); cases f with
  | zero => exact hv.elim
  | succ f =>
  obtain ⟨sn, sk, rfl, wk, wn, ws, -, hnames, hkids⟩ := hv; have hkey := encV_two (m := m) (v := v); rw [hkey] at hm; have hn : -9223372036854775808 ≤ v.n ∧ v.n ≤ 9223372036854775807 := by simp [Lit.wf, IntKind.min, IntKind.max, IntKind.bits, IntKind.signed] at wn; omega
  have hzl := zig_lt hn; refine enter (args := [b, .agg (six v sn sk).toArray]) Tryz.func85 rfl Tryz.ntmps85 rfl ?_; refine K.kgo ?_; refine WL.box rfl rfl rfl rfl rfl fun g w1 hf => ?_; have hf' : Fresh w g w1 82 (six v sn sk) := hf; clear hf; have hb1 : Bu w1 b l := hb.below hf'.below; have hg1 : Grow w b w1 b := (Grow.refl w b).below hf'.below; have ha1 : Apart w0 w1 b := ha.grow hg1; have hR : ∀ {wk vk}, Grow w1 b wk vk → VBlk 82 wk g (six v sn sk) := fun h => hf'.stand hb h; have fin : ∀ {b' w' x}, Bu w' b' (l ++ v.k :: x) → Grow w1 b w' b' → (v.k :: x = encV (m + 1) v) → ∃ b'', Ending.returned b' = .returned b'' ∧ Bu w' b'' (l ++ encV (m + 1) v) ∧ Grow w b w' b'' :=
    fun {b' w' x} h1 h2 h3 => ⟨b', rfl, by rw [← h3]; exact h1, hg1.trans h2⟩
  have e8 : IntKind.u8.wrap v.k = v.k := by rw [IntKind.wrap_u8]; omega
  have hl1 : l.length + 1 ≤ 70368744177664 := by simp at hm; omega
  have g0 := Grow.refl w1 b; refine K.kgo ?_; refine WL.load rfl rfl rfl rfl rfl rfl ((hR g0).cell 0 (by simp)) ?_; refine K.kgo ?_; refine WL.push rfl rfl rfl rfl rfl rfl rfl rfl rfl rfl rfl (fun _ => rfl) rfl hb1 (by simp; omega) fun b2 w2 hb2 g2 => ?_; rw [e8] at hb2; refine K.kgo ?_; refine WL.load rfl rfl rfl rfl rfl rfl ((hR g2).cell 0 (by simp)) ?_; have hl2 : (l ++ [v.k]).length = l.length + 1 := by simp
  have hL0 : ∀ x, l ++ v.k :: x = (l ++ [v.k]) ++ x := fun x => by simp
  generalize hL : l ++ [v.k] = L at hb2 hl2 hL0; have hl3 : L.length + (encV (m + 1) v).length ≤ 70368744177664 + 1 := by rw [hkey]; simp at hm ⊢; omega
  by_cases k1 : v.k = 1
  · refine K.kgo ?_
    refine WQ.ret1 rfl rfl (fin (x := []) (by rw [hL0, List.append_nil]; exact hb2) g2 ?_); rw [hkey]; simp [k1]
  by_cases k2 : v.k = 2
  · have hx := f2 k2
    have e8 : IntKind.u8.wrap v.n = v.n := by rw [IntKind.wrap_u8]; omega
    have hkx : encV (m + 1) v = v.k :: [v.n] := by rw [hkey, if_pos k2]
    rw [hkx] at hl3; simp at hl3
    refine K.kgo ?_; refine WL.load rfl rfl rfl rfl rfl rfl ((hR g2).cell 1 (by simp)) ?_; refine K.kgo ?_; refine WL.push rfl rfl rfl rfl rfl rfl rfl rfl rfl rfl rfl (fun _ => rfl) rfl hb2 (by simp; omega) fun b3 w5 hb3 g3 => ?_; refine K.kgo ?_; refine WQ.ret1 rfl rfl (fin (x := [v.n]) ?_ (g2.trans g3) hkx.symm); rw [hL0, ← e8]; exact hb3
  by_cases k34 : v.k = 3 ∨ v.k = 4
  · have hu := uvF_len 10 (zig v.n)
    have hu : (uvB (zig v.n)).length ≤ 10 := hu; rcases k34 with k3 | k4
    · have hkx : encV (m + 1) v = v.k :: uvB (zig v.n) := by rw [hkey, if_neg k2, if_pos k3]
      rw [hkx] at hl3; simp at hl3
      refine K.kgo ?_; refine WL.load rfl rfl rfl rfl rfl rfl ((hR g2).cell 1 (by simp)) ?_; refine K.kgo ?_; refine WL.call rfl rfl rfl rfl rfl Tryz.func50 rfl (by kernel_rfl) (rzig_any v.n hn w2) ?_; rintro e w2 ⟨rfl, rfl⟩; refine ⟨_, rfl, ?_⟩; refine WL.call rfl rfl rfl rfl rfl Tryz.func48 rfl (by kernel_rfl) (ruvarint_any (zig v.n) hzl _) ?_; rintro _ w3 ⟨b3, rfl, hb3, hk3, -⟩; refine ⟨_, rfl, ?_⟩; refine WL.app rfl rfl rfl rfl rfl (hb2.below hk3) rfl hb3.sl (by omega) fun b4 w4 hb4 hg4 => ?_; refine K.kgo ?_; exact WQ.ret1 rfl rfl (fin (by rw [hL0]; exact hb4) ((g2.below hk3).trans hg4) hkx.symm)
    · have hx := f4 k4
      have e8 : IntKind.u8.wrap v.s = v.s := by rw [IntKind.wrap_u8]; omega
      have k3 : ¬ v.k = 3 := by omega
      have hkx : encV (m + 1) v = v.k :: (uvB (zig v.n) ++ [v.s]) := by rw [hkey, if_neg k2, if_neg k3, if_pos k4]
      rw [hkx] at hl3; simp at hl3
      refine K.kgo ?_; refine WL.load rfl rfl rfl rfl rfl rfl ((hR g2).cell 1 (by simp)) ?_; refine K.kgo ?_; refine WL.call rfl rfl rfl rfl rfl Tryz.func50 rfl (by kernel_rfl) (rzig_any v.n hn w2) ?_; rintro e w2 ⟨rfl, rfl⟩; refine ⟨_, rfl, ?_⟩; refine WL.call rfl rfl rfl rfl rfl Tryz.func48 rfl (by kernel_rfl) (ruvarint_any (zig v.n) hzl _) ?_; rintro _ w3 ⟨b3, rfl, hb3, hk3, -⟩; refine ⟨_, rfl, ?_⟩; refine WL.app rfl rfl rfl rfl rfl (hb2.below hk3) rfl hb3.sl (by omega) fun b4 w4 hb4 hg4 => ?_; have g4 := (g2.below hk3).trans hg4; refine K.kgo ?_; refine WL.load rfl rfl rfl rfl rfl rfl ((hR g4).cell 2 (by simp)) ?_; refine K.kgo ?_; refine WL.push rfl rfl rfl rfl rfl rfl rfl rfl rfl rfl rfl (fun _ => rfl) rfl hb4 (by simp; omega) fun b5 w7 hb5 g5 => ?_; refine K.kgo ?_; refine WQ.ret1 rfl rfl (fin (x := uvB (zig v.n) ++ [v.s]) ?_ (g4.trans g5) hkx.symm); rw [hL0, ← List.append_assoc, ← e8]; exact hb5
  have k3 : ¬ v.k = 3 := by omega
  have k4 : ¬ v.k = 4 := by omega
  by_cases k5 : v.k = 5
  · have hx := f5 k5
    have e8 : IntKind.u64.wrap v.n = (v.n.toNat : Int) := by rw [IntKind.wrap_u64]; omega
    have hkx : encV (m + 1) v = v.k :: uvB v.n.toNat := by rw [hkey, if_neg k2, if_neg k3, if_neg k4, if_pos k5]
    have hu : (uvB v.n.toNat).length ≤ 10 := uvF_len 10 _; rw [hkx] at hl3; simp at hl3
    refine K.kgo ?_; refine WL.load rfl rfl rfl rfl rfl rfl ((hR g2).cell 1 (by simp)) ?_; refine K.kgo ?_; refine WL.call rfl rfl rfl rfl rfl Tryz.func48 rfl (by kernel_rfl) (by rw [e8]; exact ruvarint_any v.n.toNat (by omega) _) ?_; rintro _ w3 ⟨b3, rfl, hb3, hk3, -⟩; refine ⟨_, rfl, ?_⟩; refine WL.app rfl rfl rfl rfl rfl (hb2.below hk3) rfl hb3.sl (by omega) fun b4 w4 hb4 hg4 => ?_; refine K.kgo ?_; exact WQ.ret1 rfl rfl (fin (by rw [hL0]; exact hb4) ((g2.below hk3).trans hg4) hkx.symm)
  by_cases k67 : v.k = 6 ∨ v.k = 7
  · have hkx : encV (m + 1) v = v.k :: (uvB v.t.size ++ byI v.t) := by rw [hkey, if_neg k2, if_neg k3, if_neg k4, if_neg k5, if_pos k67]
    have hbl := byI_len v.t; rw [hkx] at hl3; simp only [List.length_cons, List.length_append] at hl3; rcases k67 with k6 | k7
    all_goals
      refine K.kgo ?_; refine WL.load rfl rfl rfl rfl rfl rfl ((hR g2).cell 3 (by simp)) ?_; refine WL.call rfl rfl rfl rfl rfl Tryz.func115 rfl (by kernel_rfl) (rtext_any hb2 (by omega)) ?_; rintro _ w3 ⟨b3, rfl, hb3, g3⟩; refine ⟨_, rfl, ?_⟩; refine K.kgo ?_; exact WQ.ret1 rfl rfl (fin (by rw [hL0]; exact hb3) (g2.trans g3) hkx.symm)
  have k89 : v.k = 8 ∨ v.k = 9 := by omega
  obtain ⟨sp, cap, rfl, hcap1, hcap2, hrow⟩ := hkids; have hkx : encV (m + 1) v = v.k :: (uvB v.kids.length ++ (List.range v.kids.length).flatMap (pieceE (encV m) (decide (v.k = 9)) v.names v.kids)) := by rw [hkey, if_neg k2, if_neg k3, if_neg k4, if_neg k5, if_neg k67, if_pos k89]
  rw [hkx] at hl3; simp only [List.length_cons, List.length_append] at hl3; have hkid : ∀ j, j < v.kids.length → chk m (v.kids.getD j noV) = 0 := fun j hj => chk_kid hc hj; have round : ∀ i, i + 1 ≤ v.kids.length → ((List.range i).flatMap (pieceE (encV m) (decide (v.k = 9)) v.names v.kids)).length + (pieceE (encV m) (decide (v.k = 9)) v.names v.kids i).length ≤ ((List.range v.kids.length).flatMap (pieceE (encV m) (decide (v.k = 9)) v.names v.kids)).length := fun i hi => by
    have := range_len_le (pieceE (encV m) (decide (v.k = 9)) v.names v.kids) hi; rw [range_piece, List.length_append] at this; exact this
  have eK : IntKind.u64.wrap (v.kids.length : Int) = ((v.kids.length : Nat) : Int) := by rw [IntKind.wrap_u64]; omega
  have huk : (uvB v.kids.length).length ≤ 10 := uvF_len 10 _; have hL1 : ∀ x, l ++ v.k :: (uvB v.kids.length ++ x) = (L ++ uvB v.kids.length) ++ x := fun x => by rw [hL0, List.append_assoc]
  rcases k89 with k8 | k9
  · rw [show decide (v.k = 9) = false from decide_eq_false (by omega)] at hkx hl3 round
    refine K.kgo ?_; refine WL.load rfl rfl rfl rfl rfl rfl ((hR g2).cell 5 (by simp)) ?_; refine K.kgo ?_; refine WL.call rfl rfl rfl rfl rfl Tryz.func48 rfl (by kernel_rfl) (by rw [eK]; exact ruvarint_any v.kids.length (by omega) _) ?_; rintro _ w3 ⟨b3, rfl, hb3, hk3, -⟩; refine ⟨_, rfl, ?_⟩; refine WL.app rfl rfl rfl rfl rfl (hb2.below hk3) rfl hb3.sl (by omega) fun b4 w4 hb4 hg4 => ?_; have g4 := (g2.below hk3).trans hg4; have hLl : (L ++ uvB v.kids.length).length = L.length + (uvB v.kids.length).length := List.length_append; generalize L ++ uvB v.kids.length = M at hb4 hL1 hLl; refine K.kgo ?_; refine WC.loop (fun i : Nat × Value => [(0, i.2), (3, .pointer (some ⟨g, 0, none⟩)), (5, .int .i64 i.1)])
      (fun i w' => i.1 ≤ v.kids.length ∧ Bu w' i.2 (M ++ (List.range i.1).flatMap (pieceE (encV m) false v.names v.kids)) ∧ Grow w1 b w' i.2) (fun i => v.kids.length - i.1) (0, b4)
      ⟨rfl, rfl, rfl, trivial⟩ ⟨Nat.zero_le _, by simpa using hb4, g4⟩ ?_
    rintro ⟨i, br⟩ wr ⟨hi, hbr, hgr⟩; simp only at hi hbr hgr ⊢; refine K.kgo ?_; refine WL.load rfl rfl rfl rfl rfl rfl ((hR hgr).cell 5 (by simp)) ?_
    by_cases hik : i < v.kids.length
    · obtain ⟨kb, ko, rfl, hkb, hcells⟩ := hrow (by omega)
      obtain ⟨c, hc6, hci, hcr⟩ := hcells i hik; have hro := round i hik; refine K.kgo ?_; refine WL.load rfl rfl rfl rfl rfl rfl ((hR hgr).cell 0 (by simp)) ?_; have hpc : pieceE (encV m) false v.names v.kids i = encV m (v.kids.getD i noV) := rfl; rw [hpc] at hro; refine K.kgo ?_; refine WL.load rfl rfl rfl rfl rfl rfl ((hR hgr).cell 5 (by simp)) ?_; refine K.kgo ?_; refine WL.idx i (ko + i * 6) rfl rfl rfl rfl rfl rfl rfl rfl hik rfl ?_; have har2 := ha1.grow hgr; refine WL.loadMid rfl rfl rfl rfl rfl rfl (fun j u hu => (har2.below.cell (p := ⟨kb, ko + i * 6 + j, none⟩) hkb).trans (hcr j u hu)) hc6 ?_; refine WL.call rfl rfl rfl rfl rfl Tryz.func85 rfl (by kernel_rfl) (ih (w0 := w0) hci (hkid i hik) hbr har2 (by rw [List.length_append]; omega)) ?_; rintro _ w6 ⟨b6, rfl, hb6, hg6⟩; refine ⟨_, rfl, ?_⟩; refine K.kgo ?_; refine WQ.again (i + 1, b6) ⟨rfl, rfl, rfl, trivial⟩ ⟨hik, ?_, hgr.trans hg6⟩ (by show v.kids.length - (i + 1) < v.kids.length - i; omega)
      show Bu w6 b6 (M ++ (List.range (i + 1)).flatMap _)
      rw [range_piece, hpc]
      simpa [List.append_assoc] using hb6
    · obtain rfl : i = v.kids.length := by omega
      refine K.kgo ?_; exact WQ.ret1 rfl rfl (fin (by rw [hL1]; exact hbr) hgr hkx.symm)
  · rw [show decide (v.k = 9) = true from decide_eq_true k9] at hkx hl3 round
    obtain ⟨np, nc, rfl, nl, nc2, nsz, nr⟩ := hnames; have hnk := (f9 k9).1; refine K.kgo ?_; refine WL.load rfl rfl rfl rfl rfl rfl ((hR g2).cell 5 (by simp)) ?_; refine K.kgo ?_; refine WL.call rfl rfl rfl rfl rfl Tryz.func48 rfl (by kernel_rfl) (by rw [eK]; exact ruvarint_any v.kids.length (by omega) _) ?_; rintro _ w3 ⟨b3, rfl, hb3, hk3, -⟩; refine ⟨_, rfl, ?_⟩; refine WL.app rfl rfl rfl rfl rfl (hb2.below hk3) rfl hb3.sl (by omega) fun b4 w4 hb4 hg4 => ?_; have g4 := (g2.below hk3).trans hg4; have hLl : (L ++ uvB v.kids.length).length = L.length + (uvB v.kids.length).length := List.length_append; generalize L ++ uvB v.kids.length = M at hb4 hL1 hLl; refine K.kgo ?_; refine WC.loop (fun i : Nat × Value => [(0, i.2), (3, .pointer (some ⟨g, 0, none⟩)), (5, .int .i64 i.1)])
      (fun i w' => i.1 ≤ v.kids.length ∧ Bu w' i.2 (M ++ (List.range i.1).flatMap (pieceE (encV m) true v.names v.kids)) ∧ Grow w1 b w' i.2) (fun i => v.kids.length - i.1) (0, b4)
      ⟨rfl, rfl, rfl, trivial⟩ ⟨Nat.zero_le _, by simpa using hb4, g4⟩ ?_
    rintro ⟨i, br⟩ wr ⟨hi, hbr, hgr⟩; simp only at hi hbr hgr ⊢; refine K.kgo ?_; refine WL.load rfl rfl rfl rfl rfl rfl ((hR hgr).cell 5 (by simp)) ?_
    by_cases hik : i < v.kids.length
    · obtain ⟨kb, ko, rfl, hkb, hcells⟩ := hrow (by omega)
      obtain ⟨c, hc6, hci, hcr⟩ := hcells i hik; have hro := round i hik; refine K.kgo ?_; refine WL.load rfl rfl rfl rfl rfl rfl ((hR hgr).cell 0 (by simp)) ?_; obtain ⟨nb, no, rfl, hnb, hnr⟩ := nr (by omega); have hnc := hnr i (by omega); have hpc : pieceE (encV m) true v.names v.kids i = (uvB (v.names.getD i noT).size ++ byI (v.names.getD i noT)) ++ encV m (v.kids.getD i noV) := rfl; rw [hpc] at hro; have hbl := byI_len (v.names.getD i noT); have hul : (uvB (v.names.getD i noT).size).length ≤ 10 := uvF_len 10 _; have hns : (v.names.getD i noT).size ≤ 40 := (f9 k9).2 _ (by simp [show i < v.names.length by omega]); simp only [List.length_append] at hro; have har := ha1.grow hgr; refine K.kgo ?_; refine WL.load rfl rfl rfl rfl rfl rfl ((hR hgr).cell 4 (by simp)) ?_; refine K.kgo ?_; refine WL.idx i (no + i) rfl rfl rfl rfl rfl rfl rfl rfl (by omega) (by omega) ?_; refine WL.load rfl rfl rfl rfl rfl rfl ((har.below.cell (p := ⟨nb, no + i, none⟩) hnb).trans hnc) ?_; refine WL.call rfl rfl rfl rfl rfl Tryz.func115 rfl (by kernel_rfl) (rtext_any hbr (by rw [List.length_append]; omega)) ?_; rintro _ w5 ⟨b5, rfl, hb5, hg5⟩; refine ⟨_, rfl, ?_⟩; have g5 := hgr.trans hg5; refine K.kgo ?_; refine WL.load rfl rfl rfl rfl rfl rfl ((hR g5).cell 5 (by simp)) ?_; refine K.kgo ?_; refine WL.idx i (ko + i * 6) rfl rfl rfl rfl rfl rfl rfl rfl hik rfl ?_; have har2 := ha1.grow g5; refine WL.loadMid rfl rfl rfl rfl rfl rfl (fun j u hu => (har2.below.cell (p := ⟨kb, ko + i * 6 + j, none⟩) hkb).trans (hcr j u hu)) hc6 ?_; refine WL.call rfl rfl rfl rfl rfl Tryz.func85 rfl (by kernel_rfl) (ih (w0 := w0) hci (hkid i hik) hb5 har2 (by rw [List.length_append, List.length_append, List.length_append]; omega)) ?_; rintro _ w6 ⟨b6, rfl, hb6, hg6⟩; refine ⟨_, rfl, ?_⟩; refine K.kgo ?_; refine WQ.again (i + 1, b6) ⟨rfl, rfl, rfl, trivial⟩ ⟨hik, ?_, g5.trans hg6⟩ (by show v.kids.length - (i + 1) < v.kids.length - i; omega)
      show Bu w6 b6 (M ++ (List.range (i + 1)).flatMap _)
      rw [range_piece, hpc]
      simpa [List.append_assoc] using hb6
    · obtain rfl : i = v.kids.length := by omega
      refine K.kgo ?_; exact WQ.ret1 rfl rfl (fin (by rw [hL1]; exact hbr) hgr hkx.symm)
theorem rbytes_all : ∀ (m : Nat) {f : Nat} {w0 w : World} {v : V} {cs : List Value} {b : Value} {l : List Int}, IsV f w0 v cs → chk m v = 0 → Bu w b l → Apart w0 w b → l.length + (encV m v).length ≤ 70368744177664 →
      Calls Tryz.prog 85 #[b, .agg cs.toArray] w fun e w' => ∃ b', e = .returned b' ∧ Bu w' b' (l ++ encV m v) ∧ Grow w b w' b'
  | 0, _, _, _, _, _, _, _, _, h, _, _, _ => by cases h
  | m + 1, _, _, _, _, _, _, _, hv, hc, hb, ha, hm => rbytes_any m (rbytes_all m) hv hc hb ha hm
end K
end Go.Proofs.YtpfkcfaifleliaaGreat

namespace Go.Proofs.YtpfkcfaifleliaaGreat
open Go.RowKit
namespace K

def prtK (g : V → Nat → Nat) : List V → Nat → Nat
  | [], n => n
  | k :: r, n => if n ≤ 65536 then prtK g r (g k n) else n
def prt : Nat → V → Nat → Nat
  | 0, _, n => n
  | f + 1, v, n => prtK (prt f) v.kids (n + 1 + v.t.size)
theorem prtK_enc {f m : Nat} (ih : ∀ (v : V) (n : Nat), chk m v = 0 → prt f v n ≤ n + (encV m v).length) : ∀ (l : List V) (n : Nat), (∀ x ∈ l, chk m x = 0) → prtK (prt f) l n ≤ n + (l.flatMap (encV m)).length
  | [], n, _ => by simp [prtK]
  | k :: r, n, h => by
    unfold prtK; rw [List.flatMap_cons, List.length_append]
    split
    · have h1 := ih k n (h k (by simp))
      have h2 := prtK_enc ih r (prt f k n) fun x hx => h x (List.mem_cons_of_mem _ hx); omega
    · omega
theorem pieces_ge (ky : V → List Int) (st : Bool) (names : List ByteArray) (kids : List V) : (kids.flatMap ky).length ≤ ((List.range kids.length).flatMap (pieceE ky st names kids)).length := by
  have key : ∀ i, i ≤ kids.length → ((kids.take i).flatMap ky).length ≤ ((List.range i).flatMap (pieceE ky st names kids)).length := by
    intro i
    induction i with
    | zero => intro _; simp
    | succ i ih =>
      intro hi; have h1 := ih (by omega); have ht : kids.take (i + 1) = kids.take i ++ [kids.getD i noV] := by
        rw [List.take_add_one]; simp [show i < kids.length by omega]
      rw [range_piece, List.length_append, ht, List.flatMap_append, List.length_append]; have h2 : ([kids.getD i noV].flatMap ky).length ≤ (pieceE ky st names kids i).length := by
        unfold pieceE; rw [List.length_append]; generalize kids.getD i noV = kd; simp
      omega
  have := key kids.length (Nat.le_refl _)
  rwa [List.take_length] at this
theorem prt_enc : ∀ (f m : Nat) (v : V) (n : Nat), chk m v = 0 → prt f v n ≤ n + (encV m v).length
  | 0, _, _, n, _ => by unfold prt; omega
  | _ + 1, 0, _, _, h => by cases h
  | f + 1, m + 1, v, n, hc => by
    unfold prt; have h1 := prtK_enc (prt_enc f m) v.kids (n + 1 + v.t.size) fun x hx => chk_mem hc hx; have hbody : 1 + v.t.size + (v.kids.flatMap (encV m)).length ≤ (encV (m + 1) v).length := by
      rcases shp_full (chk_shp hc) with ⟨h, e⟩ | ⟨h, e, _⟩ | ⟨h, e⟩ | ⟨h, e, _⟩ | ⟨h, e, _⟩ | ⟨h, e, _⟩ | ⟨h, e, _⟩ | ⟨h, e, _⟩
      all_goals rw [encV_two, List.length_cons]
      · rw [e]; simp [V.t, V.kids, noT]
      · rw [e]; simp [V.t, V.kids, noT]
      · rw [e]; simp [V.t, V.kids, noT]
      · rw [e]; simp [V.t, V.kids, noT]
      · rw [e]; simp [V.t, V.kids, noT]
      · rw [if_neg (by omega), if_neg (by omega), if_neg (by omega), if_neg (by omega), if_pos h, List.length_append, byI_len]
        have : v.kids = [] := by rw [e]; rfl
        rw [this]; simp; omega
      · rw [if_neg (by omega), if_neg (by omega), if_neg (by omega), if_neg (by omega), if_neg (by omega), if_pos (.inl h), List.length_append]
        have ht : v.t.size = 0 := by rw [e]; rfl
        have := pieces_ge (encV m) (decide (v.k = 9)) v.names v.kids; omega
      · rw [if_neg (by omega), if_neg (by omega), if_neg (by omega), if_neg (by omega), if_neg (by omega), if_pos (.inr h), List.length_append]
        have ht : v.t.size = 0 := by rw [e]; rfl
        have := pieces_ge (encV m) (decide (v.k = 9)) v.names v.kids; omega
    omega

set_option maxHeartbeats 4000000 in
theorem parts_any : ∀ (f : Nat) {w0 w : World} {v : V} {cs : List Value} {pb n : Nat}, IsV f w0 v cs → Below w0.heap.size w0 w → w0.heap.size ≤ pb → VBlk 3 w pb [.int .i64 n] → n ≤ 140737488355328 →
    Calls Tryz.prog 84 #[.agg cs.toArray, .pointer (some ⟨pb, 0, none⟩)] w fun e w' => e = .returned (.bool (decide (65536 < prt f v n))) ∧ VBlk 3 w' pb [.int .i64 (prt f v n)] ∧ Keep (fun b => b < w.heap.size ∧ b ≠ pb) w w'
  | 0, _, _, _, _, _, _, h, _, _, _, _ => h.elim
  | f + 1, w0, w, v, cs, pb, n, hv, hbel, hpb, hblk, hn => by
    have ih := @parts_any f; obtain ⟨sn, sk, rfl, -, -, -, htz, -, ⟨sp, cap, rfl, hcap1, hcap2, hrow⟩⟩ := hv; have hgr : prt (f + 1) v n = prtK (prt f) v.kids (n + 1 + v.t.size) := rfl; rw [hgr]; refine enter (args := [.agg (six v sn (.slice sp v.kids.length cap)).toArray, .pointer (some ⟨pb, 0, none⟩)]) Tryz.func84 rfl Tryz.ntmps84 rfl ?_; refine K.kgo ?_; refine WL.box rfl rfl rfl rfl rfl fun g w1 hf => ?_; have hf' : Fresh w g w1 82 (six v sn (.slice sp v.kids.length cap)) := hf; clear hf; have hpw := hblk.lt; have hne : g ≠ pb := by rw [hf'.eq]; omega
    have hblk1 : VBlk 3 w1 pb [.int .i64 n] := hblk.below hf'.below hpw; have hkeep1 : Keep (fun b => b < w.heap.size ∧ b ≠ pb) w w1 := (Keep.of_below hf'.below).mono fun _ h => h.1; refine K.kgo ?_; refine WC.drawn 10 (fun wx => VBlk 3 wx pb [.int .i64 n] ∧ VBlk 82 wx g (six v sn (.slice sp v.kids.length cap))) fun w2 hd2 => ?_; have hS : VBlk 3 w2 pb [.int .i64 n] ∧ VBlk 82 w2 g (six v sn (.slice sp v.kids.length cap)) := ⟨hblk1.below (hd2.below _) hblk1.lt, hf'.blk.below (hd2.below _) hf'.blk.lt⟩; refine K.fr [0, 1, 2] hS ?_; refine K.wl 3 [4, 8, 9, 10] rfl rfl rfl rfl rfl rfl rfl (fun wx hx => hx.1.cell 0 (by simp)) hS ?_; refine K.fr [4, 5] hS ?_; refine K.wl 6 [7, 8, 9, 10] rfl rfl rfl rfl rfl rfl rfl (fun wx hx => hx.2.cell 3 (by simp)) hS ?_; refine K.fr [7, 8, 9] hS ?_; refine K.wo 10 ?_; have e2 : (n : Int) + 1 + (v.t.size : Int) = ((n + 1 + v.t.size : Nat) : Int) := by omega
    generalize n + 1 + v.t.size = n1 at e2 ⊢; refine WL.store (v := .int .i64 n1) rfl rfl rfl rfl (congrArg (fun z => some (Value.int .i64 z)) e2) rfl (by kernel_rfl) (hS.1.cell 0 (by simp)) (hS.1.free 0) ?_; have hb2 : VBlk 3 (w2.setCell ⟨pb, 0, none⟩ (.int .i64 n1)) pb [.int .i64 n1] := hS.1.set 0 (.int .i64 n1); have hg2 : VBlk 82 (w2.setCell ⟨pb, 0, none⟩ (.int .i64 n1)) g (six v sn (.slice sp v.kids.length cap)) := hS.2.other _ _ hne; have hk2 : Keep (fun b => b < w.heap.size ∧ b ≠ pb) w (w2.setCell ⟨pb, 0, none⟩ (.int .i64 n1)) := (hkeep1.trans ((Keep.of_below (hd2.below w1.heap.size)).mono fun b hb => Nat.lt_of_lt_of_le hb.1 hf'.below.size)).setCell (fun h => h.2 rfl) _; generalize w2.setCell ⟨pb, 0, none⟩ (.int .i64 n1) = w3 at hb2 hg2 hk2; refine K.dl ?_; refine WD.done (by kernel_rfl) ?_; refine K.kgo ?_; generalize hRR : prtK (prt f) v.kids n1 = RR; have hgw : g < w3.heap.size := hg2.lt; refine WC.loop (fun i : Nat => [(1, .pointer (some ⟨pb, 0, none⟩)), (2, .pointer (some ⟨g, 0, none⟩)), (5, .int .i64 i)])
      (fun i w' => i ≤ v.kids.length ∧ Keep (fun b => b < w3.heap.size ∧ b ≠ pb) w3 w' ∧ ∃ x : Nat, VBlk 3 w' pb [.int .i64 x] ∧ prtK (prt f) (v.kids.drop i) x = RR) (fun i => v.kids.length - i) 0
      ⟨rfl, rfl, rfl, trivial⟩ ⟨Nat.zero_le _, Keep.refl _ _, n1, hb2, hRR⟩ ?_
    rintro i wr ⟨hi, hkr, x, hbx, hx⟩; have hgr2 : VBlk 82 wr g (six v sn (.slice sp v.kids.length cap)) := hg2.keep hkr ⟨hgw, hne⟩; have hkw : Keep (fun b => b < w.heap.size ∧ b ≠ pb) w wr := hk2.trans (hkr.mono fun b hb => ⟨Nat.lt_of_lt_of_le hb.1 hk2.size, hb.2⟩); have hlast : ∀ {wz : World} {xz : Nat}, VBlk 3 wz pb [.int .i64 xz] → Keep (fun b => b < w.heap.size ∧ b ≠ pb) w wz → xz = RR → (Ending.returned (.bool (decide ((65536 : Int) < (xz : Int)))) = .returned (.bool (decide (65536 < RR))) ∧ VBlk 3 wz pb [.int .i64 (RR)] ∧ Keep (fun b => b < w.heap.size ∧ b ≠ pb) w wz) :=
      fun h1 h2 h3 => ⟨by rw [← h3]; congr 2; simp only [decide_eq_decide]; omega, by rw [← h3]; exact h1, h2⟩
    refine K.kgo ?_; refine WL.load rfl rfl rfl rfl rfl rfl (hgr2.cell 5 (by simp)) ?_
    by_cases hik : i < v.kids.length
    · have hdr : v.kids.drop i = v.kids.getD i noV :: v.kids.drop (i + 1) := by
        rw [List.drop_eq_getElem_cons hik]; simp [hik]
      rw [hdr] at hx; refine K.kgo ?_; refine WL.load rfl rfl rfl rfl rfl rfl (hbx.cell 0 (by simp)) ?_
      by_cases hx2 : x ≤ 65536
      · obtain ⟨kb, ko, rfl, hkb, hcells⟩ := hrow (by omega)
        obtain ⟨c, hc6, hci, hcr⟩ := hcells i hik; have hbelr : Below w0.heap.size w0 wr := (hbel.trans ((hkw.mono fun b hb => ⟨Nat.lt_of_lt_of_le hb hbel.size, Nat.ne_of_lt (Nat.lt_of_lt_of_le hb hpb)⟩ : Keep (fun b => b < w0.heap.size) w wr).below)); have hcr' : wr.rangeAt kb (ko + i * 6) c := fun j u hu => by rw [hbelr.cell (p := ⟨kb, ko + i * 6 + j, none⟩) hkb]; exact hcr j u hu
        unfold prtK at hx; rw [if_pos hx2] at hx; refine K.kgo ?_; refine WL.load rfl rfl rfl rfl rfl rfl (hgr2.cell 5 (by simp)) ?_; refine K.kgo ?_; refine WL.idx i (ko + i * 6) rfl rfl rfl rfl rfl rfl rfl rfl hik rfl ?_; refine WL.loadMid rfl rfl rfl rfl rfl rfl hcr' hc6 ?_; refine K.kgo ?_; refine WL.call rfl rfl rfl rfl rfl Tryz.func84 rfl (by kernel_rfl) (ih (n := x) hci hbelr hpb hbx (by omega)) ?_; rintro e w4 ⟨rfl, hb4, hk4⟩; refine ⟨_, rfl, ?_⟩; refine K.kgo ?_; exact WQ.again (i + 1) ⟨rfl, rfl, rfl, trivial⟩ ⟨hik, hkr.trans (hk4.mono fun b hb => ⟨Nat.lt_of_lt_of_le hb.1 hkr.size, hb.2⟩), _, hb4, hx⟩ (by show v.kids.length - (i + 1) < v.kids.length - i; omega)
      · unfold prtK at hx
        rw [if_neg hx2] at hx; refine K.kgo ?_; refine WL.load rfl rfl rfl rfl rfl rfl (hbx.cell 0 (by simp)) ?_; refine WL.pure rfl rfl rfl rfl ?_; refine WL.pure rfl rfl rfl rfl ?_; refine K.kgo ?_; exact WQ.ret1 rfl rfl ⟨congrArg (fun b => Ending.returned (Value.bool b)) (decide_eq_true (by omega)).symm, (hlast hbx hkw hx).2⟩
    · obtain rfl : i = v.kids.length := by omega
      rw [List.drop_length] at hx; unfold prtK at hx; refine K.kgo ?_; refine WL.load rfl rfl rfl rfl rfl rfl (hbx.cell 0 (by simp)) ?_; refine WL.pure rfl rfl rfl rfl ?_; refine WL.pure rfl rfl rfl rfl ?_; refine K.kgo ?_; exact WQ.ret1 rfl rfl (hlast hbx hkw hx)

theorem rencode_any {f : Nat} {w : World} {v : V} {cs : List Value} (h : IsV f w v cs) (hlen : chk 16 v = 0 → (encV 16 v).length ≤ 70368744177664) :
    Calls Tryz.prog 49 #[.agg cs.toArray] w (EncPost w v) := by
  have hcs := h.len; refine enter (args := [.agg cs.toArray]) Tryz.func49 rfl Tryz.ntmps49 rfl ?_; refine K.kgo ?_; refine WL.box rfl rfl rfl rfl rfl fun g w1 hf => ?_; have hf' : Fresh w g w1 82 cs := hf; clear hf; have hz1 := hf'.size; have h1 := h.below hf'.below; refine K.kgo ?_; refine WL.loadMid rfl rfl rfl rfl rfl rfl (VBlk.rangeAt hf'.blk) hcs ?_; refine WL.call rfl rfl rfl rfl rfl Tryz.func83 rfl (by kernel_rfl) (rCheck_any h1) ?_; rintro _ w2 ⟨rfl, hb2⟩; refine ⟨_, rfl, ?_⟩; have hw2 : Below w.heap.size w w2 := hf'.below.trans (hb2.mono (by omega)); have hblk2 := hf'.blk.below hb2 hf'.blk.lt
  by_cases hc : chk 16 v = 0
  · refine K.kgo ?_
    refine WL.alloc (z := .int .i64 0) rfl rfl rfl rfl (fun _ => by kernel_rfl) fun pb w3 hf3 => ?_; have hf3' : Fresh w2 pb w3 3 [.int .i64 0] := hf3; clear hf3; have hb3 := hf3'.blk; have hpb := hf3'.eq; have hblk3 := hblk2.below hf3'.below hblk2.lt; have hgp : g ≠ pb := by have := hblk2.lt; omega
    refine K.kgo ?_; refine WL.store (v := .int .i64 0) rfl rfl rfl rfl rfl rfl (by kernel_rfl) (hb3.cell 0 (by simp)) (hb3.free 0) ?_; have hb4 := hb3.set 0 (.int .i64 0); have hblk4 : VBlk 82 (w3.setCell ⟨pb, 0, none⟩ (.int .i64 0)) g cs := hblk3.other _ _ hgp; have hk4 : Below w2.heap.size w2 (w3.setCell ⟨pb, 0, none⟩ (.int .i64 0)) := Keep.below ((Keep.of_below hf3'.below).setCell (fun hk => by simp only at hk; omega) _); generalize w3.setCell ⟨pb, 0, none⟩ (.int .i64 0) = w4 at hb4 hblk4 hk4; simp only [List.set_cons_zero] at hb4; have hw4 : Below w.heap.size w w4 := hw2.trans (hk4.mono hw2.size); have hpw : w.heap.size ≤ pb := by have := hw2.size; omega
    clear hf3'; refine K.kgo ?_; refine WL.loadMid rfl rfl rfl rfl rfl rfl (VBlk.rangeAt hblk4) hcs ?_; refine WL.call rfl rfl rfl rfl rfl Tryz.func84 rfl (by kernel_rfl) (parts_any (n := 0) f h hw4 hpw hb4 (by omega)) ?_; rintro _ w5 ⟨rfl, hb5, hk5⟩; refine ⟨_, rfl, ?_⟩; have hw5 : Below w.heap.size w w5 := hw4.trans (Keep.below (Keep.mono hk5 fun b (hb : b < w.heap.size) => ⟨Nat.lt_of_lt_of_le hb hw4.size, by omega⟩)); have hblk5 := hblk4.keep hk5 ⟨hblk4.lt, hgp⟩; have hpe := prt_enc f 16 v 0 hc
    by_cases hp : 65536 < prt f v 0
    · have hr : encR v = ([], 5) := by unfold encR; rw [if_neg (by simpa using hc), if_pos (by omega)]
      refine K.kgo ?_; exact WQ.ret2 rfl rfl rfl ⟨_, by rw [hr], by rw [hr]; exact Bu.nil _, hw5, fun g hg => by cases hg⟩
    refine K.kgo ?_; refine WL.loadMid rfl rfl rfl rfl rfl rfl (VBlk.rangeAt hblk5) hcs ?_; refine WL.call rfl rfl rfl rfl rfl Tryz.func85 rfl (by kernel_rfl) (rbytes_all 16 (h.below hw5) hc (Bu.nil w5) ⟨Below.refl _ _, fun g hg => by cases hg⟩ (by have := hlen hc; simp only [List.length_nil]; omega)) ?_; rintro _ w6 ⟨b, rfl, hb, hg⟩; refine ⟨_, rfl, ?_⟩; rw [List.nil_append] at hb; obtain ⟨sp, cap, rfl, hl1, hl2⟩ := hb.form; have hw6 : Below w.heap.size w w6 := hw5.trans (hg.old (B := w.heap.size) (hw5.size) fun g h => by cases h)
    by_cases hbig : 65536 < (encV 16 v).length
    · have hr : encR v = ([], 5) := by unfold encR; rw [if_neg (by simpa using hc), if_pos hbig]
      refine K.kgo ?_; exact WQ.ret2 rfl rfl rfl ⟨_, by rw [hr], by rw [hr]; exact Bu.nil _, hw6, fun g hg => by cases hg⟩
    · have hr : encR v = (encV 16 v, 0) := by unfold encR; rw [if_neg (by simpa using hc), if_neg hbig]
      refine K.kgo ?_; exact WQ.ret2 rfl rfl rfl ⟨_, by rw [hr], by rw [hr]; exact hb, hw6, fun g h => (hg.2 g h).elim (fun h2 => by cases h2) fun h2 => by have := hw5.size; omega⟩
  · have hr : encR v = ([], chk 16 v) := by unfold encR; rw [if_pos hc]
    refine K.kgo ?_; exact WQ.ret2 rfl rfl rfl ⟨_, by rw [hr], by rw [hr]; exact Bu.nil _, hw2, fun g hg => by cases hg⟩
end K
end Go.Proofs.YtpfkcfaifleliaaGreat

namespace Go.Proofs.YtpfkcfaifleliaaGreat
open Go.RowKit
namespace K
theorem rbegin_any {w : World} {nv : Value} {nums : List Int} (m k : Int) (hk : 0 ≤ k ∧ k ≤ 255) (n : Nat) (hn : n ≤ 9007199254740992) (hs : Sl .i64 w nv nums) (h64 : R64w nums) (h8 : nums.length ≤ 8) :
    Calls Tryz.prog 29 #[.int .u8 m, .int .i64 k, .int .i64 (n : Int), nv] w (Makes w (headB m k n nums)) := by
  obtain ⟨sp, cap, rfl, -⟩ := id hs; refine enter (args := [.int .u8 m, .int .i64 k, .int .i64 (n : Int), .slice sp nums.length cap]) Tryz.func29 rfl Tryz.ntmps29 rfl ?_; have hul := uvB_lenw n; have hw8 : IntKind.u8.wrap k = k := by rw [IntKind.wrap_u8]; omega
  have hw64 : IntKind.u64.wrap (n : Int) = (n : Int) := wraps_u64 _ (by omega) (by omega); have hl64 : IntKind.u64.wrap (nums.length : Int) = (nums.length : Int) := wraps_u64 _ (by omega) (by omega); refine K.kgo ?_; refine WL.as 13 (.int .u8 k) rfl (congrArg (Value.int .u8) hw8) ?_; refine WL.lit rfl rfl rfl rfl rfl rfl rfl fun v w1 h1 h2 h3 => ?_; refine K.kgo ?_; refine WL.as 16 (.int .u64 (n : Int)) rfl (congrArg (Value.int .u64) hw64) ?_; refine WL.call rfl rfl rfl rfl rfl Tryz.func48 rfl (by kernel_rfl) (ruvarint_any n (by omega) w1) ?_; rintro _ w2 ⟨u2, rfl, q2, k2, -⟩; refine ⟨_, rfl, ?_⟩; refine WL.app rfl rfl rfl rfl rfl (h1.below k2) rfl q2.sl (by simp only [List.length_cons, List.length_nil]; omega) fun b3 w3 q3 g3 => ?_; have ap3 : Apart w w3 b3 := Apart.grow ⟨h2, h3⟩ (((Grow.refl _ v).below k2).trans g3); clear h1 q2 k2 g3 h2 h3; refine K.kgo ?_; refine WL.as 22 (.int .u64 (nums.length : Int)) rfl (congrArg (Value.int .u64) hl64) ?_; refine WL.call rfl rfl rfl rfl rfl Tryz.func48 rfl (by kernel_rfl) (ruvarint_any nums.length (by omega) w3) ?_; rintro _ w4 ⟨u4, rfl, q4, k4, -⟩; refine ⟨_, rfl, ?_⟩; have hul4 := uvB_lenw nums.length; refine WL.app rfl rfl rfl rfl rfl (q3.below k4) rfl q4.sl (by simp only [List.length_append, List.length_cons, List.length_nil]; omega) fun b5 w5 q5 g5 => ?_; have ap5 := ap3.grow (((Grow.refl _ b3).below k4).trans g5); have q5' : Bu w5 b5 (m :: k :: (uvB n ++ (uvB nums.length ++ nmB (nums.take 0)))) := by simpa [nmB] using q5
  clear q3 q4 k4 q5 g5 ap3; refine K.kgo ?_; refine WC.loop (fun i : Nat × Value => [(3, .slice sp nums.length cap), (9, i.2), (10, .int .i64 i.1)])
    (fun i wr => i.1 ≤ nums.length ∧ Apart w wr i.2 ∧ Bu wr i.2 (m :: k :: (uvB n ++ (uvB nums.length ++ nmB (nums.take i.1))))) (fun i => nums.length - i.1) (0, b5) ⟨rfl, rfl, rfl, trivial⟩ ⟨Nat.zero_le _, ap5, q5'⟩ ?_
  rintro ⟨i, b⟩ wr ⟨hi, ap, q⟩; simp only at hi ap q ⊢
  by_cases hik : i < nums.length
  · have hr := h64 _ (nth_mem' nums i hik)
    have hzl := zig_lt hr; refine K.kgo ?_; refine WL.idxI i rfl rfl rfl rfl rfl rfl (hs.of_below ap.below) rfl rfl hik fun p hp => ?_; refine K.kgl ?_; refine WL.call rfl rfl rfl rfl rfl Tryz.func50 rfl (by kernel_rfl) (rzig_any (nth nums i) hr wr) ?_; rintro _ _ ⟨rfl, rfl⟩; refine ⟨_, rfl, ?_⟩; refine WL.call rfl rfl rfl rfl rfl Tryz.func48 rfl (by kernel_rfl) (ruvarint_any (zig (nth nums i)) hzl _) ?_; rintro _ w5 ⟨u, rfl, h5, k5, o5⟩; refine ⟨_, rfl, ?_⟩; have hnl := nmB_len (nums.take i); have hul3 := uvB_lenw (zig (nth nums i)); refine WL.app rfl rfl rfl rfl rfl (q.below k5) rfl h5.sl (by simp only [List.length_cons, List.length_append, List.length_take] at *; omega) fun b6 w6 q6 g6 => ?_; refine K.kgo ?_; refine WQ.again (i + 1, b6) ⟨rfl, rfl, rfl, trivial⟩ ⟨by show i + 1 ≤ nums.length; omega, ap.grow (((Grow.refl _ b).below k5).trans g6), ?_⟩ (by show nums.length - (i + 1) < nums.length - i; omega)
    show Bu w6 b6 (m :: k :: (uvB n ++ (uvB nums.length ++ nmB (nums.take (i + 1)))))
    rw [nmB_take hik]
    simpa [List.append_assoc] using q6
  · obtain rfl : i = nums.length := by omega
    rw [List.take_length] at q; refine K.kgo ?_; exact WQ.ret1 rfl rfl ⟨b, rfl, q, ap.below, ap.own⟩
theorem r25text_any {w : World} {b : Value} {L : List Int} {t : ByteArray} (hb : Bu w b L) (hL : L.length ≤ 1000000) (ht : t.size ≤ 1000000) :
    Calls Tryz.prog 31 #[b, .string t] w (Adds w b (L ++ (uvB t.size ++ bytesI t))) := by
  refine enter (args := [b, .string t]) Tryz.func31 rfl Tryz.ntmps31 rfl ?_; have hl64 : IntKind.u64.wrap (t.size : Int) = (t.size : Int) := wraps_u64 _ (by omega) (by omega); have hul := uvB_lenw t.size; refine K.kgo ?_; refine WL.as 8 (.int .u64 (t.size : Int)) rfl (congrArg (Value.int .u64) hl64) ?_; refine WL.call rfl rfl rfl rfl rfl Tryz.func48 rfl (by kernel_rfl) (ruvarint_any t.size (by omega) w) ?_; rintro _ w2 ⟨u2, rfl, q2, k2, -⟩; refine ⟨_, rfl, ?_⟩; refine WL.app rfl rfl rfl rfl rfl (hb.below k2) rfl q2.sl (by omega) fun b3 w3 q3 g3 => ?_; refine K.kgo ?_; refine WL.appS rfl rfl rfl rfl rfl q3 rfl (by rw [List.length_append]; omega) fun b4 w4 q4 g4 => ?_; refine K.kgo ?_; rw [List.append_assoc] at q4; exact WQ.ret1 rfl rfl ⟨b4, rfl, q4, (((Grow.refl _ b).below k2).trans g3).trans g4⟩
theorem bytesI_strOf {zs : List Int} (h : Frm.Byt zs) : bytesI (strOfNums zs) = zs := by
  unfold bytesI; rw [strOfNums_mk, ByteArray.toList_eq]
  show List.map _ ((zs.map fun c => UInt8.ofNat c.toNat).toArray.toList) = zs
  rw [List.map_map]
  conv => rhs; rw [← List.map_id zs]
  refine List.map_congr_left fun c hc => ?_; have := h c hc
  show ((UInt8.ofNat c.toNat).toNat : Int) = c
  rw [UInt8.toNat_ofNat']; omega
set_option maxHeartbeats 1000000 in
theorem rvalues_any {f : Nat} {w0 w : World} {b pv : Value} {L : List Int} {l : List V} {n : Nat} (hl : IsVs f w0 pv l) (hfew : Few f l n) (ap : Apart w0 w b) (hb : Bu w b L) (hL : L.length ≤ 100000) :
    Calls Tryz.prog 28 #[b, pv] w (ValsOut w0 L l) := by
  obtain ⟨sp, cap, rfl, hcap1, hcap2, hrow⟩ := hl; refine enter (args := [b, .slice sp l.length cap]) Tryz.func28 rfl Tryz.ntmps28 rfl ?_; have hl2 := hfew.len; have hl64 : IntKind.u64.wrap (l.length : Int) = (l.length : Int) := wraps_u64 _ (by omega) (by omega); have hul := uvB_lenw l.length; refine K.kgo ?_; refine WL.as 15 (.int .u64 (l.length : Int)) rfl (congrArg (Value.int .u64) hl64) ?_; refine WL.call rfl rfl rfl rfl rfl Tryz.func48 rfl (by kernel_rfl) (ruvarint_any l.length (by omega) w) ?_; rintro _ w2 ⟨u2, rfl, q2, k2, -⟩; refine ⟨_, rfl, ?_⟩; refine WL.app rfl rfl rfl rfl rfl (hb.below k2) rfl q2.sl (by omega) fun b3 w3 q3 g3 => ?_; have ap3 := ap.grow (((Grow.refl _ b).below k2).trans g3); have q3' : Bu w3 b3 (L ++ (uvB l.length ++ vlB (l.take 0))) := by simpa [vlB] using q3
  clear q3 g3 ap hb q2 k2; refine K.kgo ?_; refine WC.loop (fun i : Nat × Value => [(0, i.2), (1, .slice sp l.length cap), (6, .int .i64 i.1)])
    (fun i wr => i.1 ≤ l.length ∧ Apart w0 wr i.2 ∧ Bu wr i.2 (L ++ (uvB l.length ++ vlB (l.take i.1))) ∧ ∀ v ∈ l.take i.1, (encR v).2 = 0) (fun i => l.length - i.1) (0, b3) ⟨rfl, rfl, rfl, trivial⟩ ⟨Nat.zero_le _, ap3, q3', by simp⟩ ?_
  rintro ⟨i, b⟩ wr ⟨hi, ap, q, hok⟩; simp only at hi ap q hok ⊢
  by_cases hik : i < l.length
  · obtain ⟨kb, ko, rfl, hkb, hcells⟩ := hrow (by omega)
    obtain ⟨c, hc6, hci, hcr⟩ := hcells i hik; have hmem : l.getD i noV ∈ l := by rw [List.getD_eq_getElem?_getD, List.getElem?_eq_getElem hik]; exact List.getElem_mem hik
    have hvl := hfew.take i hok; have hvt := vlE_take hik hok; have hBt := vlB_take hik; have hone := hfew.one hmem; have hf1 := hfew.take (i + 1); generalize hvd : l.getD i noV = v at hci hmem hvt hBt hone; replace hvd := hvd.symm; refine K.kgo ?_; refine WL.idx i (ko + i * 6) rfl rfl rfl rfl rfl rfl rfl rfl hik rfl ?_; refine WL.loadMid rfl rfl rfl rfl rfl rfl (fun j u hu => (ap.below.cell (p := ⟨kb, ko + i * 6 + j, none⟩) hkb).trans (hcr j u hu)) hc6 ?_; refine WL.call rfl rfl rfl rfl rfl Tryz.func49 rfl (by kernel_rfl) (rencode_any (hci.below ap.below) hone) ?_; rintro _ w6 ⟨b6, rfl, q6, k56, o6⟩; refine ⟨_, rfl, ?_⟩; have hq6 := q.below k56; have g6 : Grow wr b w6 b := (Grow.refl wr b).below k56
    by_cases he : (encR v).2 ≠ 0
    · have hE := hvt he
      refine K.kgo ?_; refine WQ.ret2 rfl rfl rfl ⟨.slice none 0 0, ?_, ⟨ap.below.trans (k56.mono ap.below.size), fun g h => by cases h⟩, ?_⟩
      · rw [hE]; rfl
      · rw [if_neg (by rw [hE]; exact he)]; exact Bu.nil _
    · replace he : (encR v).2 = 0 := by omega
      obtain ⟨hc0, h65, hx⟩ := encR_ok he; rw [hx] at q6; rw [he]; have hok' : ∀ x ∈ l.take (i + 1), (encR x).2 = 0 := by
        intro x hx; rw [List.take_add_one, List.mem_append] at hx; rcases hx with h | h
        · exact hok x h
        · have hg : l[i]? = some v := by rw [hvd]; simp [hik]
          rw [hg] at h; simp at h
          rw [h]; exact he
      have hf2 := hf1 hok'; have hbyt := encV_byt 16 hc0; refine K.kgo ?_; refine WL.strOf rfl rfl rfl rfl rfl rfl rfl rfl q6.sl ?_; have hz1 : (strOfNums (encV 16 v)).size = (encV 16 v).length := strOfNums_size _; have hz2 : bytesI (strOfNums (encV 16 v)) = encV 16 v := bytesI_strOf hbyt; refine WL.call rfl rfl rfl rfl rfl Tryz.func31 rfl (by kernel_rfl) (r25text_any hq6 (by simp only [List.length_append]; omega) (by omega)) ?_; rintro _ w7 ⟨b7, rfl, q7, g7⟩; refine ⟨_, rfl, ?_⟩; rw [hz1, hz2, List.append_assoc, List.append_assoc, ← hBt] at q7; have hlen : (L ++ (uvB l.length ++ vlB (l.take (i + 1)))).length ≤ 400000 := by simp only [List.length_append]; omega
      obtain ⟨sp7, cap7, rfl, -⟩ := q7.form; refine K.kgo ?_; exact WQ.again (i + 1, .slice sp7 _ cap7) ⟨rfl, rfl, rfl, trivial⟩ ⟨by show i + 1 ≤ l.length; omega, ap.grow (g6.trans g7), q7, hok'⟩ (by show l.length - (i + 1) < l.length - i; omega)
  · obtain rfl : i = l.length := by omega
    rw [List.take_length] at q hok; have hE := vlE_all hok; refine K.kgo ?_; refine WQ.ret2 rfl rfl rfl ⟨b, by rw [hE], ap, ?_⟩; rw [if_pos hE]; exact q
end K
end Go.Proofs.YtpfkcfaifleliaaGreat

namespace Go.Proofs.YtpfkcfaifleliaaGreat
open Go.RowKit
namespace K
def rpC (r : Rp) (nv pv dv : Value) : List Value := [.int .i64 r.seq, .int .i64 r.err, nv, pv, dv]
structure IsRp (f : Nat) (w : World) (r : Rp) (nv pv dv : Value) : Prop where
  nums : Sl .i64 w nv r.nums
  r64 : R64w r.nums
  rows : IsVs f w pv r.rows
  data : Sl .u8 w dv r.data
  byt : Frm.Byt r.data
set_option maxHeartbeats 2000000 in
theorem rrpenc_any {f n : Nat} {w : World} {r : Rp} {nv pv dv : Value} (h : IsRp f w r nv pv dv) (hfew : Few f r.rows n) (hd : r.data.length ≤ 10000) :
    Calls Tryz.prog 13 #[.agg (rpC r nv pv dv).toArray] w (FrOut w (rpE r) (rpB r)) := by
  obtain ⟨⟨seq, err, nums, rows, data⟩, rfl⟩ : ∃ r', r = r' := ⟨r, rfl⟩; obtain ⟨hnums, h64, hpar, hdat, hdb⟩ := h; simp only at hnums h64 hpar hdat hdb hfew hd; obtain ⟨sn, cn, rfl, -⟩ := id hnums; obtain ⟨sp, cp, rfl, -⟩ := id hpar; obtain ⟨sd, cd, rfl, -⟩ := id hdat; have hfl := hfew.len; refine enter (args := [.agg (rpC ⟨seq, err, nums, rows, data⟩ (.slice sn nums.length cn) (.slice sp rows.length cp) (.slice sd data.length cd)).toArray]) Tryz.func13 rfl Tryz.ntmps13 rfl ?_; generalize hr : (⟨seq, err, nums, rows, data⟩ : Rp) = r; have hcells : rpC r (.slice sn nums.length cn) (.slice sp rows.length cp) (.slice sd data.length cd) = [.int .i64 seq, .int .i64 err, .slice sn nums.length cn, .slice sp rows.length cp, .slice sd data.length cd] := by rw [← hr]; rfl
  rw [hcells]; refine K.kgn ?_; refine WL.box rfl rfl rfl rfl rfl fun g w1 hf0 => ?_; have hf : Fresh w g w1 53 [.int .i64 seq, .int .i64 err, .slice sn nums.length cn, .slice sp rows.length cp, .slice sd data.length cd] := hf0; clear hf0; have hB := hf.below; have T1 := hf.blk; clear hf; have cell : ∀ {wx : World}, VBlk 53 wx g [.int .i64 seq, .int .i64 err, .slice sn nums.length cn, .slice sp rows.length cp, .slice sd data.length cd] → wx.cell? ⟨g, 0, none⟩ = some (.int .i64 seq) ∧ wx.cell? ⟨g, 1, none⟩ = some (.int .i64 err) ∧ wx.cell? ⟨g, 2, none⟩ = some (.slice sn nums.length cn) ∧ wx.cell? ⟨g, 3, none⟩ = some (.slice sp rows.length cp) ∧ wx.cell? ⟨g, 4, none⟩ = some (.slice sd data.length cd) := fun h =>
    ⟨h.cell 0 (by simp), h.cell 1 (by simp), h.cell 2 (by simp), h.cell 3 (by simp), h.cell 4 (by simp)⟩
  obtain ⟨c0, c1, c2, c3, c4⟩ := cell T1; have bad1 : (err < 0 ∨ 100 < err ∨ seq < 0 ∨ 9007199254740992 < seq ∨ 8 < nums.length) → rpE r = 1 := fun h => by rw [← hr]; unfold rpE; rw [if_pos h]
  by_cases h1 : err < 0
  · refine K.kgl ?_
    exact WQ.ret2 rfl rfl rfl (FrOut.bad (bad1 (.inl h1)) (by decide) hB)
  by_cases h2 : 100 < err
  · refine K.kgl ?_
    exact WQ.ret2 rfl rfl rfl (FrOut.bad (bad1 (.inr (.inl h2))) (by decide) hB)
  by_cases h3 : seq < 0
  · refine K.kgl ?_
    exact WQ.ret2 rfl rfl rfl (FrOut.bad (bad1 (.inr (.inr (.inl h3)))) (by decide) hB)
  by_cases h4 : 9007199254740992 < seq
  · refine K.kgl ?_
    exact WQ.ret2 rfl rfl rfl (FrOut.bad (bad1 (.inr (.inr (.inr (.inl h4))))) (by decide) hB)
  by_cases h8 : 8 < nums.length
  · refine K.kgl ?_
    exact WQ.ret2 rfl rfl rfl (FrOut.bad (bad1 (.inr (.inr (.inr (.inr h8))))) (by decide) hB)
  clear bad1; have hno : ¬ (err < 0 ∨ 100 < err ∨ seq < 0 ∨ 9007199254740992 < seq ∨ 8 < nums.length) := by omega
  have he : rpE r = vlE rows := by rw [← hr]; unfold rpE; rw [if_neg hno, if_neg (show ¬ 4096 < rows.length by omega)]
  refine K.kgl ?_; obtain ⟨sq, rfl⟩ : ∃ n : Nat, seq = (n : Int) := ⟨seq.toNat, by omega⟩; have hhl := headB_len 82 err sq nums (by omega); clear c0 c1 c2 c3 c4; refine WC.drawn 9 (fun wx => VBlk 53 wx g [.int .i64 sq, .int .i64 err, .slice sn nums.length cn, .slice sp rows.length cp, .slice sd data.length cd]) fun w2 hdr => ?_; have k2 : Below w1.heap.size w1 w2 := hdr.below _; have hS := T1.below k2 T1.lt; clear hdr; refine K.fr [0, 2, 4, 7] hS ?_; refine K.wl 1 [6, 9, 10, 11, 12, 13, 14] rfl rfl rfl rfl rfl rfl rfl (fun wx hx => (cell hx).2.1) hS ?_; refine K.wl 3 [6, 9, 10, 11, 12, 13, 14] rfl rfl rfl rfl rfl rfl rfl (fun wx hx => (cell hx).1) hS ?_; refine K.wl 5 [6, 9, 10, 11, 12, 13, 14] rfl rfl rfl rfl rfl rfl rfl (fun wx hx => (cell hx).2.2.1) hS ?_; refine K.wl 8 [9, 10, 11, 12, 13, 14] rfl rfl rfl rfl rfl rfl rfl (fun wx hx => (cell hx).2.2.2.1) hS ?_; refine K.wo 6 ?_; refine WL.call rfl rfl rfl rfl rfl Tryz.func29 rfl (by kernel_rfl) (rbegin_any 82 err (by omega) sq (by omega) ((hnums.of_below hB).of_below k2) h64 (by omega)) ?_; rintro _ w3 ⟨b3, rfl, q3, k3, o3⟩; refine ⟨_, rfl, ?_⟩; have ap3 : Apart w1 w3 b3 := ⟨k2.trans (k3.mono k2.size), fun x hx => Nat.le_trans k2.size (o3 x hx)⟩; replace hS := T1.below ap3.below T1.lt; refine K.di hS ?_; refine K.wo 9 ?_; refine WL.call rfl rfl rfl rfl rfl Tryz.func28 rfl (by kernel_rfl) (rvalues_any (hpar.below hB) hfew ap3 q3 (by omega)) ?_; rintro _ w6 ⟨b6, rfl, ap6, q6⟩; refine ⟨_, rfl, ?_⟩; have T6 := T1.below ap6.below T1.lt; refine K.dl ?_
  (refine K.fzl 10 rfl (q := ?_); refine K.fzl 11 rfl (q := ?_); refine K.fzl 12 rfl (q := ?_); refine K.fzl 13 rfl (q := ?_); refine K.fzl 14 rfl (q := ?_))
  refine WD.done (by kernel_rfl) ?_; have hw6 : Below w.heap.size w w6 := hB.trans (ap6.below.mono hB.size)
  by_cases hv : vlE rows ≠ 0
  · refine K.kgo ?_
    exact WQ.ret2 rfl rfl rfl (FrOut.bad he hv hw6)
  replace hv : vlE rows = 0 := by omega
  rw [if_pos hv] at q6; rw [hv]; have hvl := valsB_len hfew hv; have hvb := valsB_byt (vlE_mem hv); have hul := uvB_lenw data.length; have d4 : w6.cell? ⟨g, 4, none⟩ = some (.slice sd data.length cd) := (cell T6).2.2.2.2; refine K.kgl ?_; refine WL.strOf rfl rfl rfl rfl rfl rfl rfl rfl ((hdat.of_below hB).of_below ap6.below) ?_; have hz1 : (strOfNums data).size = data.length := strOfNums_size _; have hz2 : bytesI (strOfNums data) = data := bytesI_strOf hdb; refine WL.call rfl rfl rfl rfl rfl Tryz.func31 rfl (by kernel_rfl) (r25text_any q6 (by rw [List.length_append]; omega) (by omega)) ?_; rintro _ w9 ⟨b9, rfl, q9, g9⟩; refine ⟨_, rfl, ?_⟩; rw [hz1, hz2] at q9; have ap9 := ap6.grow g9; have hall : headB 82 err sq nums ++ valsB rows ++ (uvB data.length ++ data) = rpB r := by rw [← hr]; unfold rpB; rfl
  have hbytes : Frm.Byt (rpB r) := by
    rw [← hall]; intro c hc; simp only [List.mem_append] at hc; rcases hc with (h | h) | h | h
    · exact headB_byt (by omega) (by omega) _ _ c h
    · exact hvb c h
    · exact uvB_bytw _ c h
    · exact hdb c h
  have hlen : (rpB r).length ≤ 300000 := by rw [← hall]; simp only [List.length_append]; omega
  rw [hall] at q9; refine WL.call rfl rfl rfl rfl rfl Tryz.func30 rfl (by kernel_rfl) (rfenc_any q9.sl hbytes (by omega)) ?_; rintro _ w10 ⟨b10, rfl, q10, k10, o10⟩; refine ⟨_, rfl, ?_⟩; have hw9 : Below w.heap.size w w9 := hB.trans (ap9.below.mono hB.size); rw [if_neg (by omega)] at q10; rw [if_neg (by omega)]; refine K.kgo ?_; refine WQ.ret2 rfl rfl rfl ⟨b10, ?_, ⟨hw9.trans (k10.mono hw9.size), fun x hx => Nat.le_trans hw9.size (o10 x hx)⟩, ?_⟩
  · rw [he, hv]; rfl
  · rw [if_pos (by rw [he, hv])]; exact q10
end K
end Go.Proofs.YtpfkcfaifleliaaGreat

namespace Go.Proofs.YtpfkcfaifleliaaGreat
open Go.RowKit
namespace K
structure RpOk (r : Rp) : Prop where
  err : 0 ≤ r.err ∧ r.err ≤ 100
  seq : 0 ≤ r.seq ∧ r.seq ≤ 9007199254740992
  nums : r.nums.length ≤ 8
  r64 : R64w r.nums
  rows : r.rows.length ≤ 4096
  backs : Backs r.rows
  data : r.data.length ≤ 524288
  dbyt : Frm.Byt r.data
  byt : Frm.Byt (rpB r)
  len : (rpB r).length ≤ 524288
abbrev zRep : List Value := [.int .i64 0, .int .i64 0, .slice none 0 0, .slice none 0 0, .slice none 0 0]
def RpDecS (w : World) (r : Rp) : Ending → World → Prop := fun e w' => ∃ nv pv dv, e = .returned (.tuple #[.agg (rpC r nv pv dv).toArray, .int .i64 0]) ∧ Below w.heap.size w w' ∧ Ones (rpC r nv pv dv) ∧ ∀ w2, Keep (fun b => w.heap.size ≤ b ∧ b < w'.heap.size) w' w2 → Sl .i64 w2 nv r.nums ∧ IsVs 17 w2 pv r.rows ∧ Sl .u8 w2 dv r.data
set_option maxHeartbeats 4000000 in
theorem wdecR_S {w : World} {v : Value} {r : Rp} (h : RpOk r) (hv : Sl .u8 w v (Frm.frameL (rpB r))) : Calls Tryz.prog 32 #[v] w (RpDecS w r) := by
  obtain ⟨seq, err, nums, rows, data⟩ := r; obtain ⟨hk, hs, hn8, h64, hr4, hbk, hdl, hdb, hby, hlen⟩ := h; simp only at hk hs hn8 h64 hr4 hbk hdl hdb; obtain ⟨sq, rfl⟩ : ∃ n : Nat, seq = (n : Int) := ⟨seq.toNat, by omega⟩; have hall : rpB ⟨sq, err, nums, rows, data⟩ = 82 :: err :: (uvB sq ++ (uvB nums.length ++ (nmB nums ++ (uvB rows.length ++ (vlB rows ++ (uvB data.length ++ (data ++ []))))))) := by
    unfold rpB headB valsB; simp [List.append_assoc]
  refine enter (args := [v]) Tryz.func32 rfl Tryz.ntmps32 rfl ?_; refine K.kgn ?_; refine WL.alloc (z := .agg zRep.toArray) rfl rfl rfl rfl (fun _ => by kernel_rfl) fun g1 w1 hf0 => ?_; have hf1 : Fresh w g1 w1 111 zRep := hf0; clear hf0; have hB1 := hf1.below; have hg1 := hf1.eq; have hz1 := hf1.size; have T1 := hf1.blk; clear hf1; refine K.kgo ?_; refine WL.call rfl rfl rfl rfl rfl Tryz.func53 rfl (by kernel_rfl) (wopen_ok (hv.of_below hB1) hby hlen) ?_; rintro _ w2 ⟨rb, rfl, hr2, k2, hrb⟩; refine ⟨_, rfl, ?_⟩; rw [hall] at hr2; clear hall hby hlen hv; have T2 := T1.below k2 T1.lt; have hz2 := k2.size; refine K.kgo ?_; refine WL.alloc (z := .agg zRep.toArray) rfl rfl rfl rfl (fun _ => by kernel_rfl) fun gx w3 hf0 => ?_; have hf3 : Fresh w2 gx w3 111 zRep := hf0; clear hf0; have hgx := hf3.eq; have hz3 := hf3.size; have s3 : DSt 111 w2.heap.size rb gx w3.heap.size w1 w3 _ zRep (.slice none 0 0) [] (.slice none 0 0) [] :=
    ⟨hr2.keep (Keep.of_below hf3.below) fun b hb => hb, by omega, by omega, Nat.le_refl _, hrb, hf3.blk, OwnE.nil _ _ _ _ _ _, ⟨fun _ => False, OwnE.nil _ _ _ _ _ _, fun b hb => hb.elim⟩, k2.trans (hf3.below.mono hz2)⟩
  clear hf3 hr2; have hrg := s3.rg; refine K.kgo ?_; refine WL.call rfl rfl rfl rfl rfl Tryz.func54 rfl (by kernel_rfl) (wbyte_any s3.r) ?_; rintro _ w4 ⟨rfl, hr4, k4⟩; refine ⟨_, rfl, ?_⟩; have s4 := s3.call hr4 k4; clear s3 hr4 k4; obtain ⟨sp4, cap4, hb4, -⟩ := s4.r.ex; refine K.kgo ?_; refine WL.load rfl rfl rfl rfl rfl rfl (hb4.cell 1 (by simp)) ?_; refine WL.as 24 (.bool false) rfl rfl ?_; refine K.kgo ?_; refine WL.store rfl rfl rfl rfl rfl rfl (by kernel_rfl) (hb4.cell 1 (by simp)) (hb4.free 1) ?_; have s5 := s4.bad; generalize w4.setCell ⟨rb, 1, none⟩ (.bool false) = w5 at s5 ⊢; clear s4 hb4; refine K.kgo ?_; refine WL.call rfl rfl rfl rfl rfl Tryz.func54 rfl (by kernel_rfl) (wbyte_any s5.r) ?_; rintro _ w6 ⟨rfl, hr6, k6⟩; refine ⟨_, rfl, ?_⟩; have s6 := s5.call hr6 k6; clear s5 hr6 k6; refine K.kgo ?_; refine WL.store rfl rfl rfl rfl rfl rfl (by kernel_rfl) (s6.x.cell 1 (by simp)) (s6.x.free 1) ?_; have s7 := s6.put 1 (.int .i64 err); generalize w6.setCell ⟨gx, 1, none⟩ (.int .i64 err) = w7 at s7 ⊢; clear s6; refine K.kgo ?_; refine WL.call rfl rfl rfl rfl rfl Tryz.func55 rfl (by kernel_rfl) (wupTo_any (most := 9007199254740992) s7.r (by omega) (by omega)) ?_; rintro _ w8 ⟨rfl, hr8, k8⟩; refine ⟨_, rfl, ?_⟩; have s8 := s7.call hr8 k8; clear s7 hr8 k8; refine K.kgo ?_; refine WL.store rfl rfl rfl rfl rfl rfl (by kernel_rfl) (s8.x.cell 0 (by simp)) (s8.x.free 0) ?_; have s9 := s8.put 0 (.int .i64 sq); generalize w8.setCell ⟨gx, 0, none⟩ (.int .i64 sq) = w9 at s9 ⊢; clear s8; refine K.kgo ?_; refine WL.call rfl rfl rfl rfl rfl Tryz.func56 rfl (by kernel_rfl) (wnums_any s9.r (by have := s9.hs; omega) hn8 h64) ?_; rintro _ w10 ⟨nv, rfl, hN, hr10, k10⟩; refine ⟨_, rfl, ?_⟩; have s10' := s9.call hr10 k10; have s10 : DSt 111 w2.heap.size rb gx w3.heap.size w1 w10 _ ((zRep.set 1 (.int .i64 err)).set 0 (.int .i64 sq)) nv nums (.slice none 0 0) [] :=
    { s10' with n := hN.keep (Keep.refl (fun _ => True) w10) (fun _ _ => trivial) (fun b hb => by have := s9.hs; omega) fun _ _ h => h }
  have hnv := hN.one; clear s9 s10' hr10 k10 hN; refine K.kgo ?_; refine WL.store rfl rfl rfl rfl rfl hnv (by kernel_rfl) (s10.x.cell 2 (by simp)) (s10.x.free 2) ?_; have s11 := s10.put 2 nv; generalize w10.setCell ⟨gx, 2, none⟩ nv = w11 at s11 ⊢; clear s10; refine K.kgo ?_; refine WL.call rfl rfl rfl rfl rfl Tryz.func57 rfl (by kernel_rfl) (wreadvals_any (most := 4096) s11.r (by have := s11.hs; omega) hr4 (by omega) hbk) ?_; rintro _ w15 ⟨pv, rfl, hV, hr15, k15⟩; refine ⟨_, rfl, ?_⟩; have s15' := s11.call hr15 k15; obtain ⟨q, hV, hq⟩ := hV; have hpv := hV.one; have s15 : DSt 111 w2.heap.size rb gx w3.heap.size w1 w15 _ (((zRep.set 1 (.int .i64 err)).set 0 (.int .i64 sq)).set 2 nv) nv nums pv rows :=
    { s15' with v := ⟨q, hV.keep (Keep.refl (fun _ => True) w15) (fun _ _ => trivial) (fun b hb => by have := s11.hs; omega) fun _ _ h => h, fun b hb => ⟨by have := (hq b hb).1; have := s11.hs; omega, (hq b hb).2⟩⟩ }
  clear s11 s15' hr15 k15 hV hq; refine K.kgo ?_; refine WL.store rfl rfl rfl rfl rfl hpv (by kernel_rfl) (s15.x.cell 3 (by simp)) (s15.x.free 3) ?_; have s16 := s15.put 3 pv; generalize w15.setCell ⟨gx, 3, none⟩ pv = w16 at s16 ⊢; clear s15; refine K.kgo ?_; refine WL.call rfl rfl rfl rfl rfl Tryz.func55 rfl (by kernel_rfl) (wupTo_any (most := 524288) s16.r (by omega) (by omega)) ?_; rintro _ w17 ⟨rfl, hr17, k17⟩; refine ⟨_, rfl, ?_⟩; have s17 := s16.call hr17 k17; clear s16 hr17 k17; refine WL.call rfl rfl rfl rfl rfl Tryz.func58 rfl (by kernel_rfl) (wtake_any (k := data.length) (A := data) s17.r rfl (by omega)) ?_; rintro _ w18 ⟨tv, rfl, htv, hr18, k18⟩; refine ⟨_, rfl, ?_⟩; have s18 := s17.call hr18 k18; clear s17 hr18 k18; refine WL.app rfl rfl rfl rfl rfl (Bu.nil w18) rfl htv.sl (by simp only [List.length_nil]; omega) fun dv w19 hdv hgd => ?_; rw [List.nil_append] at hdv; have kd : Below w18.heap.size w18 w19 := hgd.old (Nat.le_refl _) (fun g h => by cases h); have hod : ∀ g, dv.ownBlock = some g → w18.heap.size ≤ g := fun g h => hgd.own (Nat.le_refl _) (fun g h => by cases h) g h; have hs18 := s18.hs; have s19 := s18.down kd; have hdv1 := hdv.cell1; clear s18 htv hgd kd; have hgg := s19.hg; refine K.kgo ?_; refine WL.store rfl rfl rfl rfl rfl hdv1 (by kernel_rfl) (s19.x.cell 4 (by simp)) (s19.x.free 4) ?_; have s20 := s19.put 4 dv; have hk19 : Keep (fun b => b ≠ gx) w19 (w19.setCell ⟨gx, 4, none⟩ dv) := (Keep.refl _ w19).setCell (fun hk => hk rfl) _; have hdv2 := hdv.keep hk19 (fun g h => by have := hod g h; omega); clear hk19; generalize w19.setCell ⟨gx, 4, none⟩ dv = w20 at s20 hdv2 ⊢; clear s19 hdv; have hcp : (((((zRep.set 1 (.int .i64 err)).set 0 (.int .i64 sq)).set 2 nv).set 3 pv).set 4 dv) = rpC ⟨sq, err, nums, rows, data⟩ nv pv dv := rfl; rw [hcp] at s20; obtain ⟨sp20, cap20, hb20, -⟩ := s20.r.ex; simp only [List.length_nil] at hb20; have c1 : w20.cell? ⟨rb, 1, none⟩ = some (.bool false) := hb20.cell 1 (by simp); have c0 : w20.cell? ⟨rb, 0, none⟩ = some (.slice sp20 0 cap20) := hb20.cell 0 (by simp); have x1 : w20.cell? ⟨gx, 1, none⟩ = some (.int .i64 err) := s20.x.cell 1 (by simp [rpC]); have hones : Ones (rpC ⟨sq, err, nums, rows, data⟩ nv pv dv) := by
    intro u hu; unfold rpC at hu; simp only [List.mem_cons, List.not_mem_nil, or_false] at hu; rcases hu with rfl | rfl | rfl | rfl | rfl <;> first | rfl | assumption
  have T20 := T1.below s20.below T1.lt; refine K.kgl ?_; refine WL.loadMid rfl rfl rfl rfl rfl rfl (VBlk.rangeAt s20.x) rfl ?_; refine WL.storeRow rfl rfl rfl rfl rfl rfl T20 rfl (by rfl) hones ?_; have hset : Keep (fun b => b ≠ g1) w20 (w20.setRow g1 (rpC ⟨sq, err, nums, rows, data⟩ nv pv dv).toArray) := Keep.setRow (Keep.refl _ w20) (fun hk => hk rfl) _; have hkw : Below w.heap.size w (w20.setRow g1 (rpC ⟨sq, err, nums, rows, data⟩ nv pv dv).toArray) := below_setRow (hB1.trans (s20.below.mono hB1.size)) (by omega) _; have T21 := T20.setRow (rpC ⟨sq, err, nums, rows, data⟩ nv pv dv); have hN := s20.n.keep (P' := intP) (O' := fun b => w.heap.size ≤ b) hset (fun g hg => by have := s20.n.own hg; omega) (fun b hb => by omega) fun _ _ h => h; have hD := hdv2.keep hset (fun g h => by have := hod g h; omega); obtain ⟨q2, hV, hq2⟩ := s20.v; have hV2 := hV.keep (P' := IsVo q2 17 (w20.setRow g1 (rpC ⟨sq, err, nums, rows, data⟩ nv pv dv).toArray)) (O' := fun b => w.heap.size ≤ b) hset (fun g hg => by have := hV.own hg; omega) (fun b hb => by omega) fun y cs hy => hy.keep hset (fun b hb _ => by have := (hq2 b hb).1; omega) fun b hb => hb; have hz18 := s20.hs; generalize w20.setRow g1 (rpC ⟨sq, err, nums, rows, data⟩ nv pv dv).toArray = w21 at hkw T21 hN hV2 hD ⊢; refine K.kgo ?_; refine WQ.retCTw rfl rfl rfl rfl rfl T21 ⟨nv, pv, dv, rfl, hkw, hones, fun w2 hk2 => ⟨intP_sl (hN.keep (P' := intP) (O' := fun _ => True) hk2 (fun g hg => ⟨hN.own hg, hN.lt hg⟩) (fun _ _ => trivial) fun _ _ h => h).els, elsV (hV2.keep (P' := IsVo q2 17 w2) (O' := fun _ => True) hk2 (fun g hg => ⟨hV2.own hg, hV2.lt hg⟩) (fun _ _ => trivial) fun y cs hy => hy.keep hk2 (fun b hb hlt => ⟨by have := (hq2 b hb).1; omega, hlt⟩) fun b hb => hb).els, (hD.keep hk2 (fun g h => ⟨by have := hod g h; omega, hD.lt g h⟩)).sl⟩⟩
end K
end Go.Proofs.YtpfkcfaifleliaaGreat

namespace Go.Proofs.YtpfkcfaifleliaaGreat
open Go.RowKit
namespace K
def qE (vs : Option (List V × List Int)) : Ro := match vs with | some (_, r) => some r | none => none
section
variable {T B rb gx : Nat} {w0 w w' : World} {o o' : Ro} {cells cells' : List Value}
end
end K
end Go.Proofs.YtpfkcfaifleliaaGreat

namespace Go.Proofs.YtpfkcfaifleliaaGreat
open Go.RowKit
namespace K
def qR (mark least most : Int) (P : List Int) : Ro := if 2 ≤ P.length ∧ nth P 0 = mark ∧ least ≤ nth P 1 ∧ nth P 1 ≤ most then some (P.drop 2) else none
theorem qNs_stop {i : Nat} {o : Ro} (h : (qNs i o).2 = none) : ∀ k, (qNs (i + k) o).2 = none
  | 0 => h
  | k + 1 => by
    rw [show i + (k + 1) = (i + k) + 1 by omega, qNs_snoc, qNs_stop h k]
    rfl
variable {B rb : Nat} {w : World}
set_option maxHeartbeats 2000000 in
theorem begin5_x {P : List Int} {mark least most : Int} (h : WX5 B w rb (some P)) (hB : B ≤ w.heap.size) (hm0 : mark ≠ 0) :
    Calls Tryz.prog 38 #[.pointer (some ⟨rb, 0, none⟩), .int .u8 mark, .int .i64 least, .int .i64 most] w fun e w' => ∃ (kd : Int) (v : Value) (ns : List Int), e = .returned (.tuple #[.int .i64 kd, .int .i64 ((qUp 9007199254740992 (qR mark least most P)).1 : Nat), v]) ∧ (qR mark least most P ≠ none → kd = nth P 1) ∧
      OwnE 3 1 0 intP (fun b => w.heap.size ≤ b) w' v ns ∧ ((qNums (qUp 9007199254740992 (qR mark least most P)).2).2 ≠ none → ns = (qNums (qUp 9007199254740992 (qR mark least most P)).2).1) ∧ WX5 B w' rb (qNums (qUp 9007199254740992 (qR mark least most P)).2).2 ∧ KeepR rb w w' := by
  refine enter (args := [.pointer (some ⟨rb, 0, none⟩), .int .u8 mark, .int .i64 least, .int .i64 most]) Tryz.func38 rfl Tryz.ntmps38 rfl ?_; have hrB := h.rlt; refine K.kgo ?_; refine WL.call rfl rfl rfl rfl rfl Tryz.func39 rfl (by kernel_rfl) (raw5_x 2 h hB (by omega)) ?_; rintro _ w1 ⟨mv, L, rfl, hsl, hbL, hL, h1, k1⟩; refine ⟨_, rfl, ?_⟩; have hqR : (qT 2 (some P)).2 = none ∧ L = [0, 0] ∧ P.length < 2 ∨ (qT 2 (some P)).2 = some (P.drop 2) ∧ L = P.take 2 ∧ 2 ≤ P.length := by
    by_cases hl : P.length < 2
    · have e : qT 2 (some P) = ([], none) := if_pos hl
      rw [e] at hL ⊢; exact .inl ⟨rfl, hL, hl⟩
    · have e : qT 2 (some P) = (P.take 2, some (P.drop 2)) := if_neg hl
      rw [e] at hL ⊢; rw [if_neg (fun h => by cases h)] at hL; exact .inr ⟨rfl, hL, by omega⟩
  have hLl : L.length = 2 := by
    rcases hqR with ⟨-, rfl, -⟩ | ⟨-, rfl, h2⟩
    · rfl
    · rw [List.length_take]; omega
  have hn0 : 2 ≤ P.length ∧ nth L 0 = nth P 0 ∧ nth L 1 = nth P 1 ∨ P.length < 2 ∧ nth L 0 = 0 ∧ nth L 1 = 0 := by
    rcases hqR with ⟨-, rfl, h2⟩ | ⟨-, rfl, h2⟩
    · exact .inr ⟨h2, rfl, rfl⟩
    · match P, h2 with
      | a :: b :: r, _ => exact .inl ⟨by simp, rfl, rfl⟩
  have hb1 := hbL _ (nth_mem' L 1 (by omega)); generalize hk : nth L 1 = kd at hb1 hn0; generalize hc : nth L 0 = c0 at hn0; obtain ⟨spm, capm, rfl, -⟩ := id hsl; have hkd : qR mark least most P ≠ none → kd = nth P 1 := fun hq => by
    unfold qR at hq
    split at hq
    · omega
    · exact absurd rfl hq
  have hst : WX5 B w1 rb (if c0 = mark ∧ least ≤ kd ∧ kd ≤ most then qR mark least most P else (qT 2 (some P)).2) := by
    split
    · rename_i hq
      have e : qR mark least most P = (qT 2 (some P)).2 := by
        rcases hqR with ⟨-, -, h2⟩ | ⟨e, -, h2⟩
        · omega
        · rw [e]
          exact if_pos ⟨h2, by omega⟩
      rw [e]; exact h1
    · exact h1
  clear hL hbL h1; refine K.kgo ?_; refine WL.idxI 1 rfl rfl rfl rfl rfl rfl hsl rfl rfl (by omega) fun p hp => ?_; rw [hk] at hp; refine K.kgl ?_; refine WL.idxI 0 rfl rfl rfl rfl rfl rfl hsl rfl rfl (by omega) fun p0 hp0 => ?_; rw [hc] at hp0; refine WL.load rfl rfl rfl rfl rfl rfl hp0 ?_; obtain ⟨sp1, n1, cap1, hb⟩ := hst.ex; refine WL.mid (fun b : Bool => [(0, .pointer (some ⟨rb, 0, none⟩)), (12, .int .i64 kd), (37, .bool b)]) (fun b wx => b = decide (¬ (c0 = mark ∧ least ≤ kd ∧ kd ≤ most)) ∧ wx = w1) rfl ?_ ?_
  · by_cases c1 : c0 = mark
    · by_cases c2 : kd < least
      · refine K.kgo ?_
        exact WQ.meet true ⟨rfl, rfl, rfl, trivial⟩ ⟨by rw [decide_eq_true]; omega, rfl⟩
      · by_cases c3 : most < kd
        · refine K.kgo ?_
          exact WQ.meet true ⟨rfl, rfl, rfl, trivial⟩ ⟨by rw [decide_eq_true]; omega, rfl⟩
        · refine K.kgo ?_
          exact WQ.meet false ⟨rfl, rfl, rfl, trivial⟩ ⟨by rw [decide_eq_false]; omega, rfl⟩
    · refine K.kgo ?_
      exact WQ.meet true ⟨rfl, rfl, rfl, trivial⟩ ⟨by rw [decide_eq_true]; omega, rfl⟩
  rintro b _ ⟨hbd, rfl⟩; refine WC.mid (fun _ : Unit => [(0, .pointer (some ⟨rb, 0, none⟩)), (12, .int .i64 kd)]) (fun _ w' => WX5 B w' rb (qR mark least most P) ∧ KeepR rb w w') rfl ?_ ?_
  · cases b with
    | true =>
      have hq := of_decide_eq_true hbd.symm; have e : qR mark least most P = none := if_neg (by omega); rw [e]; refine K.kgo ?_; refine WL.store rfl rfl rfl rfl rfl rfl (by kernel_rfl) (hb.cell 1 (by simp)) (hb.free 1) ?_; exact WL.nil (WQ.meet () ⟨rfl, rfl, trivial⟩ ⟨hst.setT, k1.trans (KeepR.set _ _ _ _)⟩)
    | false =>
      have hq := Decidable.not_not.1 (of_decide_eq_false hbd.symm); rw [if_pos hq] at hst; refine K.kgo ?_; exact WQ.meet () ⟨rfl, rfl, trivial⟩ ⟨hst, k1⟩
  rintro ⟨⟩ w2 ⟨h2, k2⟩; clear hst hb hbd hp hp0 hsl k1 hqR hn0; generalize qR mark least most P = o2 at h2 hkd ⊢; refine K.kgo ?_; refine WL.call rfl rfl rfl rfl rfl Tryz.func40 rfl (by kernel_rfl) (count5_x 9007199254740992 h2 (by omega)) ?_; rintro _ w3 ⟨rfl, h3, k3⟩; refine ⟨_, rfl, ?_⟩; generalize (qUp 9007199254740992 o2).1 = sq; generalize (qUp 9007199254740992 o2).2 = o3 at h3 ⊢; refine K.kgo ?_; refine WL.call rfl rfl rfl rfl rfl Tryz.func40 rfl (by kernel_rfl) (count5_x 8 h3 (by omega)) ?_; rintro _ w4 ⟨rfl, h4, k4⟩; refine ⟨_, rfl, ?_⟩; have hm := qUp_le 8 o3; unfold qNums; generalize (qUp 8 o3).1 = m at hm ⊢; generalize (qUp 8 o3).2 = o4 at h4 ⊢; have k5 : KeepR rb w w4 := (k2.trans k3).trans k4; clear k2 k3 k4 h2 h3; refine K.kgo ?_; refine WC.loop (fun i : Nat × Value => [(0, .pointer (some ⟨rb, 0, none⟩)), (12, .int .i64 kd), (13, .int .i64 sq), (14, .int .i64 m), (15, i.2), (16, .int .i64 i.1)])
    (fun i wr => i.1 ≤ m ∧ WX5 B wr rb (qNs i.1 o4).2 ∧ OwnE 3 1 0 intP (fun b => w.heap.size ≤ b) wr i.2 (qNs i.1 o4).1 ∧ KeepR rb w wr) (fun i => m - i.1) (0, .slice none 0 0) ⟨rfl, rfl, rfl, rfl, rfl, rfl, trivial⟩
    ⟨Nat.zero_le _, h4, OwnE.nil _ _ _ _ _ _, k5⟩ ?_
  rintro ⟨i, v⟩ wr ⟨hi, hr, ho, hk6⟩; simp only at hi hr ho hk6 ⊢
  by_cases hik : i < m
  · obtain ⟨spr, nr, capr, hbr⟩ := hr.ex
    have hlt := qNs_len i o4; have hsn := qNs_snoc i o4; have hstop := qNs_stop (i := i) (o := o4); generalize (qNs i o4).1 = ns at ho hlt hsn; generalize (qNs i o4).2 = oi at hr hbr hsn hstop; cases oi with
    | none =>
      have hfin : (qNs m o4).2 = none := by
        have := hstop rfl (m - i)
        rwa [show i + (m - i) = m by omega] at this
      have c1 : wr.cell? ⟨rb, 1, none⟩ = some (.bool true) := hbr.cell 1 (by simp); refine K.kgl ?_; refine WQ.ret3 rfl rfl rfl rfl ⟨kd, v, ns, rfl, hkd, ho, fun hq => absurd hfin hq, ?_, hk6⟩; rw [hfin]; exact hr
    | some li =>
      have hzl := qU_lt (WX5.byt hr); have c1 : wr.cell? ⟨rb, 1, none⟩ = some (.bool false) := hbr.cell 1 (by simp); refine K.kgl ?_; refine WL.call rfl rfl rfl rfl rfl Tryz.func65 rfl (by kernel_rfl) (number5_x hr) ?_; rintro _ w6 ⟨rfl, h6, k6⟩; refine ⟨_, rfl, ?_⟩; refine WL.call rfl rfl rfl rfl rfl Tryz.func64 rfl (by kernel_rfl) (rzag_any _ hzl w6) ?_; rintro _ _ ⟨rfl, rfl⟩; refine ⟨_, rfl, ?_⟩; have ho2 := ho.keep (P' := intP) (O' := fun b => w.heap.size ≤ b) k6 (fun g hg => ⟨ho.lt hg, by have := ho.own hg; omega⟩) (fun _ h => h) fun _ _ h => h; refine WL.lit1 (cs := [.int .i64 (zag (qU (some li)).1)]) rfl rfl rfl rfl rfl rfl rfl rfl ⟨by omega, by omega⟩ (by kernel_rfl) fun g7 w7 hf7 => ?_; have hz7 := hf7.size; have k7 := hf7.below; have h7 := h6.keep (Keep.of_below k7) fun b hb => by have := k6.size; have := hk6.size; omega
      have ho7 := ho2.keep (P' := intP) (O' := fun b => w.heap.size ≤ b) (Keep.of_below k7) (fun g hg => ho2.lt hg) (fun _ h => h) fun _ _ h => h; refine WL.snoc (y := zag (qU (some li)).1) rfl rfl rfl rfl elemI1 rfl ho7 rfl hf7.blk (by intro u hu; simp at hu; rw [hu]; rfl) rfl rfl (by omega) (by omega) fun v8 w8 ho8 hg8 => ?_; have k27 : KeepR rb w w7 := (hk6.trans k6).trans (KeepR.below k7); have hzw := k27.size; refine K.kgo ?_; refine WQ.again (i + 1, v8) ⟨rfl, rfl, rfl, rfl, rfl, rfl, trivial⟩ ⟨by show i + 1 ≤ m; omega, ?_, ?_, ?_⟩ (by show m - (i + 1) < m - i; omega)
      · show WX5 B w8 rb (qNs (i + 1) o4).2
        rw [hsn]; exact h7.keep hg8.1 (fun b hb => ⟨by omega, fun e => by have := ho7.own e; omega⟩)
      · show OwnE _ _ _ _ _ _ _ (qNs (i + 1) o4).1
        rw [hsn]; exact ho8.keep (Keep.refl (fun _ => True) w8) (fun _ _ => trivial) (fun b hb => by omega) fun _ _ h => h
      · exact Keep.trans k27 (hg8.1.mono fun b hb => ⟨by have := hb.1; omega, fun e => by have := ho7.own e; have := hb.1; omega⟩)
  · obtain rfl : i = m := by omega
    refine K.kgo ?_; exact WQ.ret3 rfl rfl rfl rfl ⟨kd, v, _, rfl, hkd, ho, fun _ => rfl, hr, hk6⟩
end K
end Go.Proofs.YtpfkcfaifleliaaGreat

namespace Go.Proofs.YtpfkcfaifleliaaGreat
open Go.RowKit
namespace K
variable {B rb : Nat} {w : World} {o : Ro}
def ValsX5 (B rb : Nat) (w : World) (v : Value) (w' : World) : Option (List V × List Int) → Prop
  | some (l, r) => (∃ q : Nat → Prop, OwnE 82 6 noV (IsVo q 17 w') (fun b => w.heap.size ≤ b) w' v l ∧ ∀ b, q b → w.heap.size ≤ b ∧ b < w'.heap.size) ∧ WX5 B w' rb (some r)
  | none => WX5 B w' rb none
def VSt (B rb m : Nat) (l1 : List Int) (w : World) (i : Nat) (v : Value) (st : Option (List V × List Int)) (wr : World) : Prop :=
  i ≤ m ∧ KeepR rb w wr ∧ v.oneCell' = true ∧ match st with
  | some (vs, ri) => qVs i (some l1) = some (vs, ri) ∧ WR5 B wr rb ri ∧ ∃ q : Nat → Prop, OwnE 82 6 noV (IsVo q 17 wr) (fun b => w.heap.size ≤ b) wr v vs ∧ ∀ b, q b → w.heap.size ≤ b ∧ b < wr.heap.size ∧ v.ownBlock ≠ some b
  | none => qVs m (some l1) = none ∧ WX5 B wr rb none
set_option maxHeartbeats 4000000 in
theorem values5_x (most : Nat) (h : WX5 B w rb o) (hB : B ≤ w.heap.size) (hmm : most ≤ 1000000) :
    Calls Tryz.prog 41 #[.pointer (some ⟨rb, 0, none⟩), .int .i64 (most : Int)] w fun e w' => ∃ v, e = .returned v ∧ v.oneCell' = true ∧ ValsX5 B rb w v w' (qVals most o) ∧ KeepR rb w w' := by
  refine enter (args := [.pointer (some ⟨rb, 0, none⟩), .int .i64 (most : Int)]) Tryz.func41 rfl Tryz.ntmps41 rfl ?_; have hrB := h.rlt; refine K.kgo ?_; refine WL.call rfl rfl rfl rfl rfl Tryz.func40 rfl (by kernel_rfl) (count5_x most h (by omega)) ?_; rintro _ w1 ⟨rfl, h1, k1⟩; refine ⟨_, rfl, ?_⟩; unfold qVals; have hm := qUp_le most o; have hz := qUp_zero (most := most) (o := o); generalize (qUp most o).1 = m at hm hz ⊢; generalize (qUp most o).2 = o1 at h1 hz ⊢; refine K.kgo ?_; cases o1 with
  | none =>
    have hz := hz rfl; subst hz; refine WC.loop (fun _ : Unit => [(0, .pointer (some ⟨rb, 0, none⟩)), (5, .int .i64 0), (6, .slice none 0 0), (7, .int .i64 0)])
      (fun _ wr => wr = w1) (fun _ => 0) () ⟨rfl, rfl, rfl, rfl, trivial⟩ rfl ?_
    rintro _ _ rfl; refine K.kgo ?_; exact WQ.ret1 rfl rfl ⟨_, rfl, rfl, h1, k1⟩
  | some l1 =>
    clear hz; refine WC.loop (fun i : Nat × Value × Option (List V × List Int) => [(0, .pointer (some ⟨rb, 0, none⟩)), (5, .int .i64 m), (6, i.2.1), (7, .int .i64 i.1)])
      (fun i wr => VSt B rb m l1 w i.1 i.2.1 i.2.2 wr) (fun i => m - i.1) (0, .slice none 0 0, some ([], l1)) ⟨rfl, rfl, rfl, rfl, trivial⟩
      ⟨Nat.zero_le _, k1, rfl, rfl, h1, fun _ => False, OwnE.nil _ _ _ _ _ _, fun b h => h.elim⟩ ?_
    rintro ⟨i, v, st⟩ wr ⟨hi, hk, hone, hst⟩; simp only at hi hk hone hst ⊢; cases st with
    | none =>
      obtain ⟨hend, hr⟩ := hst; rw [hend]; obtain ⟨spr, nr, capr, hbr⟩ := hr.ex; have c1 : wr.cell? ⟨rb, 1, none⟩ = some (.bool true) := hbr.cell 1 (by simp)
      by_cases hik : i < m
      · refine K.kgl ?_
        exact WQ.ret1 rfl rfl ⟨v, rfl, hone, hr, hk⟩
      · obtain rfl : i = m := by omega
        refine K.kgo ?_; exact WQ.ret1 rfl rfl ⟨v, rfl, hone, hr, hk⟩
    | some p =>
      obtain ⟨vs, ri⟩ := p; obtain ⟨hqi, hr, q, ho, hq⟩ := hst; have hvl := qVs_len hqi
      by_cases hik : i < m
      · have hsn := qVs_snoc i (some l1)
        rw [hqi] at hsn; simp only at hsn; have hstop := qVs_stop (i := i + 1) (o := some l1); have hzr := hk.size; have hri : WX5 B wr rb (some ri) := hr; obtain ⟨spr, capr, hbr, -⟩ := hr.ex; have c1 : wr.cell? ⟨rb, 1, none⟩ = some (.bool false) := hbr.cell 1 (by simp); refine K.kgl ?_; refine WL.call rfl rfl rfl rfl rfl Tryz.func40 rfl (by kernel_rfl) (count5_x 65536 hri (by omega)) ?_; rintro _ w2 ⟨rfl, h2, k2⟩; refine ⟨_, rfl, ?_⟩; have hz2 := k2.size; have hm2 := qUp_le 65536 (some ri); have hqv : qV (some ri) = (match (qT (qUp 65536 (some ri)).1 (qUp 65536 (some ri)).2).2 with | none => none | some r => match readV true (qT (qUp 65536 (some ri)).1 (qUp 65536 (some ri)).2).1 with | .ok v _ => some (v, r) | .bad _ => none) := rfl; generalize (qUp 65536 (some ri)).1 = m2 at hm2 hqv ⊢; generalize (qUp 65536 (some ri)).2 = o2 at h2 hqv ⊢; refine WL.call rfl rfl rfl rfl rfl Tryz.func39 rfl (by kernel_rfl) (raw5_x m2 h2 (by omega) (by omega)) ?_; rintro _ w3 ⟨tv, L, rfl, htv, hbL, hL, h3, k3⟩; refine ⟨_, rfl, ?_⟩; have hbl := (qT_byt (n := m2) h2.byt).2; generalize (qT m2 o2).1 = t at hL hbl hqv; generalize (qT m2 o2).2 = o3 at hL h3 hqv; have hLl : L.length ≤ 65536 := by
          by_cases he : o3 = none
          · rw [if_pos he] at hL
            rw [hL, List.length_replicate]; omega
          · rw [if_neg he] at hL
            rw [hL]; omega
        refine WL.call rfl rfl rfl rfl rfl Tryz.func66 rfl (by kernel_rfl) (decode7_any htv hbL (by omega)) ?_; rintro _ w4 ⟨k4, y, cs, e4, rfl, hv4, hm4⟩; refine ⟨_, rfl, ?_⟩; have hz3 := k3.size; have hz4 := k4.size; have kr4 : KeepR rb wr w4 := (k2.trans k3).trans (KeepR.below k4); have h4 := h3.keep (Keep.of_below k4) fun b hb => by omega
        have hc6 := hv4.len
        -- what comes of it
        have hcase : (o3 = none ∨ e4 ≠ 0) ∧ qV (some ri) = none ∨ (∃ r', o3 = some r' ∧ e4 = 0 ∧ qV (some ri) = some (y, r')) := by
          cases o3 with
          | none => exact .inl ⟨.inl rfl, hqv⟩
          | some r' =>
            rw [if_neg (fun h => by cases h)] at hL; subst hL; simp only at hqv; cases hrd : readV true L with
            | ok y' r2 =>
              rw [hrd] at hm4 hqv; obtain ⟨rfl, he⟩ := hm4; exact .inr ⟨r', rfl, he, hqv⟩
            | bad z =>
              rw [hrd] at hm4 hqv; exact .inl ⟨.inr hm4, hqv⟩
        clear hm4 hqv hL; refine K.kgo ?_; refine WL.alloc (z := .agg zCells.toArray) rfl rfl rfl rfl (fun _ => by kernel_rfl) fun g5 w5 hf5 => ?_; have hf5' : Fresh w4 g5 w5 82 zCells := hf5; clear hf5; have hg5 := hf5'.eq; have hz5 := hf5'.size; refine K.kgo ?_; refine WL.storeRow rfl rfl rfl rfl rfl rfl hf5'.blk hc6 (by rfl) hv4.one ?_; have k6 : Below w4.heap.size w4 (w5.setRow g5 cs.toArray) := below_setRow hf5'.below (by rw [hg5]; exact Nat.le_refl _) _; have T6 := hf5'.blk.setRow cs; have hz6 : (w5.setRow g5 cs.toArray).heap.size = w5.heap.size := by simp
        generalize w5.setRow g5 cs.toArray = w6 at k6 T6 hz6 ⊢; clear hf5'; have h6 := h4.keep (Keep.of_below k6) fun b hb => by omega
        obtain ⟨sp6, n6, cap6, hb6⟩ := h6.ex; have kr6 : KeepR rb w4 w6 := KeepR.below k6; refine WL.pure rfl rfl rfl rfl ?_; refine WL.nil ?_
        repeat (first | refine WC.seq ?_ | refine WQ.then rfl ?_)
        refine WC.mid (fun _ : Ro => [(0, .pointer (some ⟨rb, 0, none⟩)), (5, .int .i64 m), (6, v), (7, .int .i64 i), (8, .pointer (some ⟨g5, 0, none⟩))])
          (fun oq wx => (match oq with | none => qV (some ri) = none | some r' => qV (some ri) = some (y, r')) ∧ WX5 B wx rb oq ∧ VBlk 82 wx g5 cs ∧ KeepR rb w4 wx ∧ wx.heap.size = w6.heap.size) rfl ?_ ?_
        · have T7 : ∀ u, VBlk 82 (w6.setCell ⟨rb, 1, none⟩ u) g5 cs := fun u => T6.other _ _ (by show g5 ≠ rb; omega)
          have kr7 : ∀ u, KeepR rb w4 (w6.setCell ⟨rb, 1, none⟩ u) := fun u => kr6.trans (KeepR.set _ _ _ _); rcases hcase with ⟨hbad, hqv⟩ | ⟨r', rfl, he4, hqv⟩
          · cases o3 with
            | none =>
              have c1 : w6.cell? ⟨rb, 1, none⟩ = some (.bool true) := hb6.cell 1 (by simp); refine K.kgl ?_; refine WL.store rfl rfl rfl rfl rfl rfl (by kernel_rfl) (hb6.cell 1 (by simp)) (hb6.free 1) ?_; exact WL.nil (WQ.meet none ⟨rfl, rfl, rfl, rfl, rfl, trivial⟩ ⟨hqv, h6.setT, T7 _, kr7 _, by simp⟩)
            | some r3 =>
              have he4 : e4 ≠ 0 := hbad.elim (fun h => by cases h) id; have c1 : w6.cell? ⟨rb, 1, none⟩ = some (.bool false) := hb6.cell 1 (by simp); refine K.kgl ?_; refine WL.store rfl rfl rfl rfl rfl rfl (by kernel_rfl) (hb6.cell 1 (by simp)) (hb6.free 1) ?_; exact WL.nil (WQ.meet none ⟨rfl, rfl, rfl, rfl, rfl, trivial⟩ ⟨hqv, h6.setT, T7 _, kr7 _, by simp⟩)
          · have c1 : w6.cell? ⟨rb, 1, none⟩ = some (.bool false) := hb6.cell 1 (by simp)
            refine K.kgl ?_; refine WL.store rfl rfl rfl rfl rfl rfl (by kernel_rfl) (hb6.cell 1 (by simp)) (hb6.free 1) ?_; exact WL.nil (WQ.meet (some r') ⟨rfl, rfl, rfl, rfl, rfl, trivial⟩ ⟨hqv, WX5.setF h6, T7 _, kr7 _, by simp⟩)
        rintro oq w7 ⟨hqv, h7, T7, kr6, hz7⟩; clear h6 hb6 T6 hcase h4 h3 h2 k6; refine K.kgo ?_; refine WL.loadMid rfl rfl rfl rfl rfl rfl (VBlk.rangeAt T7) hc6 ?_; refine WL.lit1 rfl rfl rfl rfl rfl rfl rfl hc6 ⟨by omega, by omega⟩ (by kernel_rfl) fun g8 w8 hf8 => ?_; have hz8 := hf8.size; have kr8 : KeepR rb wr w8 := (kr4.trans kr6).trans (KeepR.below hf8.below); have h8 := h7.keep (Keep.of_below hf8.below) fun b hb => by omega
        have hrB' : rb < w.heap.size := by omega
        have ho8 : OwnE 82 6 noV (IsVo (fun b => q b ∨ (w3.heap.size ≤ b ∧ b < w4.heap.size)) 17 w8) (fun b => w.heap.size ≤ b) w8 v vs :=
          ho.keep kr8 (fun g hg => ⟨ho.lt hg, by have := ho.own hg; omega⟩) (fun _ h => h) fun x cs hx => hx.keep kr8 (fun b hb _ => ⟨(hq b hb).2.1, by have := (hq b hb).1; omega⟩) fun b hb => .inl hb
        have kr48 : KeepR rb w4 w8 := kr6.trans (KeepR.below hf8.below); have hv8 : IsVo (fun b => q b ∨ (w3.heap.size ≤ b ∧ b < w4.heap.size)) 17 w8 y cs := hv4.there.keep kr48 (fun b hb _ => ⟨hb.2, by have := hb.1; omega⟩) fun b hb => .inr hb; have hlt : vs.length ≤ i := by omega
        refine WL.snoc rfl rfl rfl rfl elemV6 rfl ho8 rfl hf8.blk hv4.one hc6 hv8 (by omega) (by omega) fun v9 w9 ho9 hg9 => ?_; have hz9 := hg9.1.size; have hq9 : ∀ b, (q b ∨ (w3.heap.size ≤ b ∧ b < w4.heap.size)) → w.heap.size ≤ b ∧ b < w8.heap.size ∧ v.ownBlock ≠ some b := fun b hb => hb.elim (fun h => by
            obtain ⟨h1, h2, h3⟩ := hq b h; exact ⟨h1, by omega, h3⟩) fun h => ⟨by omega, by omega, fun e => by have := ho.lt e; omega⟩
        have h9 := h8.keep hg9.1 (fun b hb => ⟨by omega, fun e => by have := ho8.own e; omega⟩); have k9 : KeepR rb w w9 := Keep.trans (hk.trans kr8) (hg9.1.mono fun b hb => ⟨by have := hb.1; have := kr8.size; omega, fun e => by have := ho8.own e; have := hb.1; omega⟩); have hone9 := ho9.one; refine K.kgo ?_; cases oq with
        | none =>
          simp only at hqv; rw [hqv] at hsn; have hend : qVs m (some l1) = none := by
            have := hstop hsn (m - (i + 1))
            rwa [show i + 1 + (m - (i + 1)) = m by omega] at this
          exact WQ.again (i + 1, v9, none) ⟨rfl, rfl, rfl, rfl, trivial⟩ ⟨by show i + 1 ≤ m; omega, k9, hone9, hend, h9⟩ (by show m - (i + 1) < m - i; omega)
        | some r' =>
          simp only at hqv; rw [hqv] at hsn; refine WQ.again (i + 1, v9, some (vs ++ [y], r')) ⟨rfl, rfl, rfl, rfl, trivial⟩ ⟨by show i + 1 ≤ m; omega, k9, hone9, hsn, h9, (fun b => q b ∨ (w3.heap.size ≤ b ∧ b < w4.heap.size)), ?_, fun b hb => ?_⟩ (by show m - (i + 1) < m - i; omega)
          · exact ho9.keep (Keep.refl (fun _ => True) w9) (fun _ _ => trivial) (fun b hb => by omega) fun x cs hx => hx.keep hg9.1 (fun b hb _ => (hq9 b hb).2) fun b hb => hb
          · obtain ⟨e1, e2, e3⟩ := hq9 b hb
            exact ⟨e1, by omega, fun e => (hg9.2 b e).elim e3 fun h4 => by omega⟩
      · obtain rfl : i = m := by omega
        rw [hqi]; refine K.kgo ?_; exact WQ.ret1 rfl rfl ⟨v, rfl, ho.one, ⟨⟨q, ho, fun b hb => ⟨(hq b hb).1, (hq b hb).2.1⟩⟩, hr⟩, hk⟩
end K
end Go.Proofs.YtpfkcfaifleliaaGreat

namespace Go.Proofs.YtpfkcfaifleliaaGreat
open Go.RowKit
namespace K
theorem rreadS_any {w : World} {v : Value} {l : List Int} (hv : Sl .u8 w v l) (hb : Frm.Byt l) :
    Calls Tryz.prog 93 #[v] w fun e w' => e = .returned (.tuple (rsV l).toArray) ∧ Below w.heap.size w w' := by
  obtain ⟨sp, cap, rfl, h1, h2, -⟩ := id hv; refine enter (args := [.slice sp l.length cap]) Tryz.func93 rfl Tryz.ntmps93 rfl ?_; unfold rsV
  by_cases h : l.length < 4
  · rw [if_pos h]
    refine K.kgo ?_; exact WQ.ret2 rfl rfl rfl ⟨rfl, Below.refl _ _⟩
  rw [if_neg h]; have hfin := num4_nth (by omega) hb; have a0 := hb _ (nth_mem' l 0 (by omega)); have a1 := hb _ (nth_mem' l 1 (by omega)); have a2 := hb _ (nth_mem' l 2 (by omega)); have a3 := hb _ (nth_mem' l 3 (by omega)); have h32 := four32 _ _ _ _ a0 a1 a2 a3; rw [hfin] at h32; clear hfin a0 a1 a2 a3; refine K.kgo ?_; refine WC.drawn 21 (fun wx => wx.heap = w.heap) fun w2 hd => ?_; have hb2 : Below w.heap.size w w2 := hd.below _; have hS : w2.heap = w.heap := hd.heap; clear hd; refine K.fr [0, 5, 11, 17] hS ?_; refine WD.idxI 1 0 rfl (by kernel_rfl) rfl rfl (fun _ _ _ _ _ h => h) rfl rfl rfl rfl hv rfl rfl (by omega) (.inr hS) fun p0 q0 => ?_; refine K.wl 2 [3, 4, 10, 16, 21, 22, 23] rfl rfl rfl rfl rfl rfl rfl (fun wx hx => (heap_cell hx _).trans q0) hS ?_; refine WD.idxI 6 1 rfl (by kernel_rfl) rfl rfl (fun _ _ _ _ _ h => h) rfl rfl rfl rfl hv rfl rfl (by omega) (.inr hS) fun p1 q1 => ?_; refine K.wl 7 [8, 9, 10, 16, 21, 22, 23] rfl rfl rfl rfl rfl rfl rfl (fun wx hx => (heap_cell hx _).trans q1) hS ?_; refine WD.idxI 12 2 rfl (by kernel_rfl) rfl rfl (fun _ _ _ _ _ h => h) rfl rfl rfl rfl hv rfl rfl (by omega) (.inr hS) fun p2 q2 => ?_; refine K.wl 13 [14, 15, 16, 21, 22, 23] rfl rfl rfl rfl rfl rfl rfl (fun wx hx => (heap_cell hx _).trans q2) hS ?_; refine WD.idxI 18 3 rfl (by kernel_rfl) rfl rfl (fun _ _ _ _ _ h => h) rfl rfl rfl rfl hv rfl rfl (by omega) (.inr hS) fun p3 q3 => ?_; refine K.wl 19 [20, 21, 22, 23] rfl rfl rfl rfl rfl rfl rfl (fun wx hx => (heap_cell hx _).trans q3) hS ?_; refine K.fr [3, 4, 8, 9, 10, 14, 15, 16, 20] hS ?_; refine K.wo 21 ?_; refine WL.pure rfl rfl rfl rfl ?_; refine WL.as 28 (.int .u32 ((Crc.num4 l : Nat) : Int)) rfl (congrArg (Value.int .u32) h32) ?_; refine K.dl ?_
  (refine K.fzl 22 rfl (q := ?_); refine K.fzl 23 rfl (q := ?_))
  refine WD.done (by kernel_rfl) ?_; refine K.kgo ?_; exact WQ.ret2 rfl rfl rfl ⟨rfl, hb2⟩
end K
end Go.Proofs.YtpfkcfaifleliaaGreat

namespace Go.Proofs.YtpfkcfaifleliaaGreat
open Go.RowKit
namespace K
theorem sl_lh {w0 : World} {sp : Option Addr} {cap : Nat} {k : IntKind} {zs : List Int} (h : Sl k w0 (.slice sp zs.length cap) zs) {i j : Nat} (hij : i ≤ j) (hj : j ≤ zs.length) : Sl k w0 (sliced sp i j cap 1) ((zs.take j).drop i) := by
  obtain ⟨sp', cap', he, hc, hm, hr, h0⟩ := h; obtain ⟨rfl, -, rfl⟩ : sp = sp' ∧ zs.length = zs.length ∧ cap = cap' := by injection he with a b c; exact ⟨a, b, c⟩
  unfold sliced; have hl : ((zs.take j).drop i).length = j - i := by rw [List.length_drop, List.length_take]; omega
  refine ⟨if cap = i then sp else sp.map (·.add (i * 1)), cap - i, by rw [hl], by rw [hl]; omega, by omega, fun hl2 => ?_, fun hn => ?_⟩
  · rw [hl] at hl2
    obtain ⟨b, o, rfl, hb, hrow⟩ := hr (by omega); rw [if_neg (by omega)]; refine ⟨b, o + i, by simp [Addr.add_mid], hb, fun q hq => ?_⟩; rw [hl] at hq; have := hrow (i + q) (by omega); rw [show o + i + q = o + (i + q) by omega, this]; simp [nth, List.getD_eq_getElem?_getD, List.getElem?_drop, show i + q < j by omega]
  · by_cases e : cap = i
    · omega
    · rw [if_neg e] at hn
      cases sp with
      | none => have := h0 rfl; omega
      | some p => cases hn
section
variable {n : NN} {Q : Exit → Act → World → Prop} {l : Env} {w : World} {ops : Array Oper} {o : Oper} {rest : List Oper} {d : Nat}
theorem WL.fromto {t e : Nat} {x lo hi : Operand} {v : Value} {k k1 kk : IntKind} {y z : Int} {zs : List Int} {w0 : World} (hg : o.guard = none) (hd : o.dst = some d) (hn : Nat.blt d n.n = true) (ho : o.op = .slice t x (some lo) (some hi) none) (ht : tyOf ty t = some (.slice e 1))
    (hx : evl l x = some v) (hlo : evl l lo = some (.int k1 y)) (hhi : evl l hi = some (.int kk z)) (h0 : 0 ≤ y) (hyz : y ≤ z) (h1 : z ≤ zs.length) (hs : Sl k w0 v zs) (h : ∀ v', Sl k w0 v' ((zs.take z.toNat).drop y.toNat) → WL n ops Q rest ((d, v') :: l) w) : WL n ops Q (o :: rest) l w := by
  have hs0 := hs; obtain ⟨sp, cap, rfl, hc, hm, hr, hn0⟩ := hs; refine WL.step hg hd hn (v := sliced sp y.toNat z.toNat cap 1) (fun a ha => ?_) (h _ (sl_lh hs0 (by omega) (by omega))); obtain ⟨hu, hsz⟩ := TyOk.of tyOk ht; have he : Tryz.prog.elem t = e := by simp [Program.elem, hu]
  have hu' : Tryz.prog.underlying t = some (.slice (Tryz.prog.elem t)) := by rw [he]; exact hu
  have hs : (sizeOf e).run Tryz.prog w = .ok 1 w := by
    cases hq : Tryz.prog.info? e with
    | none => rw [hq] at hsz; cases hsz
    | some q => rw [hq] at hsz; simp at hsz; simp [sizeOf, typeInfo, hq, hsz]
  unfold execOp; rw [ho]; simp [ha.eval hx, ha.eval hlo, ha.eval hhi, run_sliceAt_slice w t _ _ _ _ hu', run_slice_lh w t sp zs.length cap hu' k1 kk y z h0 hyz (by omega), he, hs]
end
set_option maxHeartbeats 1000000 in
theorem rfdec_any {w : World} {v : Value} {l : List Int} (hv : Sl .u8 w v l) (hb : Frm.Byt l) (hl : l.length ≤ 140737488355328) : Calls Tryz.prog 63 #[v] w (FdcOut w l) := by
  obtain ⟨sp, cap, rfl, h1, h2, -⟩ := id hv; refine enter (args := [.slice sp l.length cap]) Tryz.func63 rfl Tryz.ntmps63 rfl ?_
  by_cases c8 : l.length < 8
  · have e2 : Frm.decF l = (2, [], 0) := by unfold Frm.decF; rw [if_pos c8]
    refine K.kgo ?_; exact WQ.ret3w rfl rfl rfl rfl (FdcOut.bad e2 (Below.refl _ _))
  have hbd : Frm.Byt (l.drop 4) := fun c hc => hb c (List.mem_of_mem_drop hc); have hn := Crc.num4_lt l hb; have hm := Crc.num4_lt _ hbd; have hcs := Crc.crcN_lt (Crc.be4 (Crc.num4 l)); have h4 : l.take 4 = Crc.be4 (Crc.num4 l) := by
    have := be4_split (l := l) (by omega) hb
    conv => lhs; rw [this]
    rfl
  have hdef : Frm.decF l = (if Crc.num4 (l.drop 4) ≠ Crc.crcN (Crc.be4 (Crc.num4 l)) then (4, [], 0)
    else if 524288 < Crc.num4 l then (5, [], 0)
    else if l.length < Crc.num4 l + 12 then (2, [], 0)
    else if Crc.num4 (l.drop (8 + Crc.num4 l)) ≠ Crc.crcN (l.take (8 + Crc.num4 l)) then (4, [], 0)
    else (0, (l.take (8 + Crc.num4 l)).drop 8, Crc.num4 l + 12)) := by
    conv => lhs; unfold Frm.decF
    rw [if_neg c8]
  have e1 : rsV l = [.int .u32 (Crc.num4 l : Nat), .int .i64 0] := by unfold rsV; rw [if_neg (by omega)]
  have e3 : rsV (l.drop 4) = [.int .u32 (Crc.num4 (l.drop 4) : Nat), .int .i64 0] := by unfold rsV; rw [if_neg (by rw [List.length_drop]; omega)]
  refine K.kgo ?_; refine WL.call rfl rfl rfl rfl rfl Tryz.func93 rfl (by kernel_rfl) (rreadS_any hv hb) ?_; rintro _ w1 ⟨rfl, k1⟩; refine ⟨_, rfl, ?_⟩; rw [e1]; generalize hN : Crc.num4 l = N at hn hcs hdef h4 ⊢; generalize hM : Crc.num4 (l.drop 4) = M at hm hdef e3 ⊢; refine K.kgo ?_; refine WL.from rfl rfl rfl rfl rfl rfl rfl (by omega) (by omega) (hv.of_below k1) fun v2 hv2 => ?_
  rw [show (4 : Int).toNat = 4 from rfl] at hv2; refine WL.call rfl rfl rfl rfl rfl Tryz.func93 rfl (by kernel_rfl) (rreadS_any hv2 hbd) ?_; rintro _ w2 ⟨rfl, k2⟩; refine ⟨_, rfl, ?_⟩; rw [e3]; have hw2 : Below w.heap.size w w2 := k1.trans (k2.mono k1.size); have hv22 := hv.of_below hw2; clear k1 k2 hv2; refine K.kgo ?_; refine WL.upto rfl rfl rfl rfl rfl rfl rfl (by omega) (by omega) hv22 fun v3 hv3 => ?_; rw [show (4 : Int).toNat = 4 from rfl, h4] at hv3; refine WL.call rfl rfl rfl rfl rfl Tryz.func52 rfl (by kernel_rfl) (rsum_any hv3 (Crc.be4_byt _) (by show 4 ≤ _; omega)) ?_; rintro _ _ ⟨rfl, rfl⟩; refine ⟨_, rfl, ?_⟩; generalize hC : Crc.crcN (Crc.be4 N) = C at hcs hdef ⊢
  by_cases c1 : ¬ M = C
  · rw [if_pos c1] at hdef
    refine K.kgo ?_; exact WQ.ret3w rfl rfl rfl rfl (FdcOut.bad hdef hw2)
  rw [if_neg c1] at hdef; replace c1 : M = C := by omega
  by_cases c2 : 524288 < N
  · rw [if_pos c2] at hdef
    refine K.kgo ?_; exact WQ.ret3w rfl rfl rfl rfl (FdcOut.bad hdef hw2)
  rw [if_neg c2] at hdef
  by_cases c3 : l.length < N + 12
  · rw [if_pos c3] at hdef
    refine K.kgo ?_; exact WQ.ret3w rfl rfl rfl rfl (FdcOut.bad hdef hw2)
  rw [if_neg c3] at hdef; have hz3 : ((8 : Int) + (N : Int)).toNat = 8 + N := by omega
  have hbd4 : Frm.Byt (l.drop (8 + N)) := fun c hc => hb c (List.mem_of_mem_drop hc); have e4 : rsV (l.drop (8 + N)) = [.int .u32 (Crc.num4 (l.drop (8 + N)) : Nat), .int .i64 0] := by unfold rsV; rw [if_neg (by rw [List.length_drop]; omega)]
  have hl3 : (l.take (8 + N)).length = 8 + N := by rw [List.length_take]; omega
  have hbt : Frm.Byt (l.take (8 + N)) := fun c hc => hb c (List.mem_of_mem_take hc); refine K.kgo ?_; refine WL.from rfl rfl rfl rfl rfl rfl rfl (by omega) (by omega) hv22 fun v4 hv4 => ?_
  rw [hz3] at hv4; refine WL.call rfl rfl rfl rfl rfl Tryz.func93 rfl (by kernel_rfl) (rreadS_any hv4 hbd4) ?_; rintro _ w3 ⟨rfl, k3⟩; refine ⟨_, rfl, ?_⟩; rw [e4]; have hw3 : Below w.heap.size w w3 := hw2.trans (k3.mono hw2.size); have hv33 := hv.of_below hw3; clear k3 hv4 hv22; refine K.kgo ?_; refine WL.upto rfl rfl rfl rfl rfl rfl rfl (by omega) (by omega) hv33 fun v5 hv5 => ?_; rw [hz3] at hv5; refine WL.call rfl rfl rfl rfl rfl Tryz.func52 rfl (by kernel_rfl) (rsum_any hv5 hbt (by omega)) ?_; rintro _ w3 ⟨rfl, rfl⟩; refine ⟨_, rfl, ?_⟩; generalize Crc.num4 (l.drop (8 + N)) = x at hdef ⊢; generalize Crc.crcN (l.take (8 + N)) = y at hdef ⊢
  by_cases c4 : x ≠ y
  · rw [if_pos c4] at hdef
    refine K.kgo ?_; exact WQ.ret3w rfl rfl rfl rfl (FdcOut.bad hdef hw3)
  rw [if_neg c4] at hdef; have hl5 : ((l.take (8 + N)).drop 8).length = N := by rw [List.length_drop]; omega
  refine K.kgo ?_; refine WL.empty rfl rfl rfl rfl rfl fun g6 w6 hf0 => ?_; have hf6 : Fresh w3 g6 w6 5 [] := hf0; clear hf0; have hg6 : w3.heap.size ≤ g6 := by rw [hf6.eq]; exact Nat.le_refl _
  have hv36 := hv33.of_below hf6.below; refine K.kgo ?_; refine WL.fromto rfl rfl rfl rfl rfl rfl rfl rfl (by omega) (by omega) (by omega) hv36 fun v7 hv7 => ?_; rw [hz3, show (8 : Int).toNat = 8 from rfl] at hv7; refine WL.app rfl rfl rfl rfl rfl (Bu.ofFresh hf6) rfl hv7 (by simp only [List.length_nil]; omega) fun b8 w8 q8 g8 => ?_; have hk8 : Below w3.heap.size w3 w8 := hf6.below.trans (g8.old hf6.below.size fun g hg => by cases hg; exact hg6); have ho8 : ∀ g, b8.ownBlock = some g → w3.heap.size ≤ g := g8.own hf6.below.size fun g hg => by cases hg; exact hg6
  rw [List.nil_append] at q8; refine K.kgo ?_; refine WQ.ret3w rfl rfl rfl rfl ?_; unfold FdcOut; rw [hdef]; refine ⟨b8, ?_, q8, hw3.trans (hk8.mono hw3.size), fun g hg => Nat.le_trans hw3.size (ho8 g hg)⟩; have hfin : (8 : Int) + (N : Int) + 4 = ((N + 12 : Nat) : Int) := by omega
  show Ending.returned (.tuple #[b8, .int .i64 ((8 : Int) + (N : Int) + 4), .int .i64 0]) = _
  rw [hfin]
end K
end Go.Proofs.YtpfkcfaifleliaaGreat

namespace Go.Proofs.YtpfkcfaifleliaaGreat
open Go.RowKit
namespace K
theorem qR_M {m lo hi : Int} {P : List Int} (h : lo ≤ nth P 1 ∧ nth P 1 ≤ hi) : qR m lo hi P = qM m P := by
  match P with
  | [] => exact if_neg (fun q => by have := q.1; simp at this)
  | [a] => exact if_neg (fun q => by have := q.1; simp at this)
  | a :: b :: r =>
    by_cases ha : a = m
    · have e2 : qM m (a :: b :: r) = some r := if_pos ha
      rw [e2]; exact if_pos ⟨by simp, ha, h⟩
    · have e2 : qM m (a :: b :: r) = none := if_neg ha
      rw [e2]; exact if_neg fun q => ha q.2.1
theorem qR_no {m lo hi : Int} {P : List Int} (h : ¬ (lo ≤ nth P 1 ∧ nth P 1 ≤ hi)) : qR m lo hi P = none := if_neg fun q => h q.2.2
theorem rq5_fin {P : List Int} {o2 o3 o4 o5 o6 : Ro} {m : Nat} (h2 : o2 = qR 81 1 20 P) (h3 : o3 = (qUp 9007199254740992 o2).2) (h4 : o4 = (qNums o3).2) (hm : m = (qUp 4096 o4).1) (h5 : o5 = (qUp 4096 o4).2) (h6 : o6 = (qT m o5).2) :
    (∃ vs r, qVals 40 o6 = some (vs, r) ∧ r.length = 32 ∧ rdRq P = some ⟨nth P 1, (qUp 9007199254740992 o2).1, (qNums o3).1, strOfNums (qT m o5).1, vs, r⟩ ∧ o2 ≠ none ∧ o4 ≠ none ∧ o6 ≠ none) ∨ (rdRq P = none ∧ (qT 32 (qE (qVals 40 o6))).2 ≠ some []) := by
  by_cases hk : 1 ≤ nth P 1 ∧ nth P 1 ≤ 20
  · rw [qR_M hk] at h2
    subst h2 h3 h4 hm h5 h6; unfold rdRq; cases hV : qVals 40 (qT (qUp 4096 (qNums (qUp 9007199254740992 (qM 81 P)).2).2).1 (qUp 4096 (qNums (qUp 9007199254740992 (qM 81 P)).2).2).2).2 with
    | none => exact .inr ⟨rfl, fun h => by cases h⟩
    | some p =>
      obtain ⟨vs, r⟩ := p; simp only
      by_cases hl : r.length = 32
      · rw [if_pos ⟨hl, hk⟩]
        refine .inl ⟨vs, r, rfl, hl, rfl, fun e => ?_, fun e => ?_, fun e => ?_⟩
        · rw [e, qUp_none, qNums_none, qUp_none, show (qT 0 none).2 = none from rfl, qVals_none] at hV
          cases hV
        · rw [e, qUp_none, show (qT 0 none).2 = none from rfl, qVals_none] at hV
          cases hV
        · rw [e, qVals_none] at hV
          cases hV
      · rw [if_neg fun q => hl q.1]
        refine .inr ⟨rfl, fun h => ?_⟩; change (if r.length < 32 then (([], none) : List Int × Ro) else (r.take 32, some (r.drop 32))).2 = some [] at h
        split at h
        · cases h
        · have := congrArg List.length (Option.some.inj h)
          rw [List.length_drop, List.length_nil] at this; omega
  · rw [qR_no hk] at h2
    subst h2; rw [qUp_none] at h3; subst h3; rw [qNums_none] at h4; subst h4; rw [qUp_none] at hm h5; subst hm h5; have h6 : o6 = none := h6; subst h6; rw [qVals_none]; refine .inr ⟨?_, fun h => by cases h⟩; unfold rdRq; cases qVals 40 (qT (qUp 4096 (qNums (qUp 9007199254740992 (qM 81 P)).2).2).1 (qUp 4096 (qNums (qUp 9007199254740992 (qM 81 P)).2).2).2).2 with
    | none => rfl
    | some p => exact if_neg fun q => hk q.2
theorem ropen_ok {w : World} {v : Value} {P : List Int} (hv : Sl .u8 w v (Frm.frameL P)) (hb : Frm.Byt P) (hl : P.length ≤ 524288) :
    Calls Tryz.prog 37 #[v] w fun e w' => ∃ rb, e = .returned (.tuple #[.pointer (some ⟨rb, 0, none⟩), .int .i64 0]) ∧ WR5 w'.heap.size w' rb P ∧ Below w.heap.size w w' ∧ w.heap.size ≤ rb := by
  have hFl := Frm.frameL_len P; have hFb : Frm.Byt (Frm.frameL P) := fun c hc => by
    unfold Frm.frameL Frm.headF at hc; rcases List.mem_append.1 hc with h | h
    · exact (List.mem_append.1 h).elim (Crc.be4_byt _ c) (Crc.be4_byt _ c)
    · exact (List.mem_append.1 h).elim (hb c) (Crc.be4_byt _ c)
  have hdec : Frm.decF (Frm.frameL P) = (0, P, P.length + 12) := by
    have := Frm.decF_enc hl []
    rwa [List.append_nil] at this
  generalize Frm.frameL P = F at hv hFl hFb hdec; obtain ⟨sp, cap, rfl, -⟩ := id hv; refine enter (args := [.slice sp F.length cap]) Tryz.func37 rfl Tryz.ntmps37 rfl ?_; refine K.kgo ?_; refine WL.call rfl rfl rfl rfl rfl Tryz.func63 rfl (by kernel_rfl) (rfdec_any hv hFb (by omega)) ?_; rintro _ w1 ⟨b, rfl, q1, k1, o1⟩; refine ⟨_, rfl, ?_⟩; have d1 : (Frm.decF F).1 = 0 := by rw [hdec]
  have d2 : (Frm.decF F).2.1 = P := by rw [hdec]
  have d3 : (Frm.decF F).2.2 = P.length + 12 := by rw [hdec]
  rw [d2] at q1; rw [d1, d3]; obtain ⟨spb, capb, rfl, -⟩ := id q1.form; have hF' : ((P.length + 12 : Nat) : Int) = (F.length : Int) := by omega
  refine K.kgo ?_; refine WL.build [.slice spb P.length capb, .bool false] rfl rfl rfl rfl rfl (by kernel_rfl) ?_; refine WL.box rfl rfl rfl rfl rfl fun g w2 hf0 => ?_; have hf : Fresh w1 g w2 129 [.slice spb P.length capb, .bool false] := hf0; clear hf0; have hge := hf.eq; have hgs := hf.size; have q2 := q1.below hf.below; have T := hf.blk; have k2 : Below w.heap.size w w2 := k1.trans (hf.below.mono k1.size); refine K.kgo ?_; refine WQ.ret2 rfl rfl rfl ⟨g, rfl, ⟨by omega, hb, ?_⟩, k2, by have := k1.size; omega⟩; have hob : (Value.slice spb P.length capb).ownBlock ≠ some g := fun e => by have := q1.lt _ e; omega
  exact ⟨spb, capb, T, q2.sl, fun h0 b' o' s' n' c' e => by
    injection e with e1 _ _
    subst e1; have : (Value.slice (some ⟨b', o', s'⟩) P.length capb).ownBlock = some b' := rfl; exact ⟨q2.lt _ this, fun e => hob (by rw [this, e])⟩⟩
section
variable {T B rb gx : Nat} {w0 w w' : World} {o o' : Ro} {cells cells' : List Value}
end
end K
end Go.Proofs.YtpfkcfaifleliaaGreat

namespace Go.Proofs.YtpfkcfaifleliaaGreat
open Go.RowKit
namespace K
structure ESt (T B rb gx S4 : Nat) (w0 w : World) (rest : Ro) (cells : List Value) (nv : Value) (ns : List Int) (pv : Value) (vs : List V) : Prop where
  r : WX5 B w rb rest
  hBg : B ≤ gx
  hg : gx < S4
  hs : S4 ≤ w.heap.size
  w0r : w0.heap.size ≤ rb
  x : VBlk T w gx cells
  n : OwnE 3 1 0 intP (fun b => S4 ≤ b) w nv ns
  v : ∃ q : Nat → Prop, OwnE 82 6 noV (IsVo q 17 w) (fun b => S4 ≤ b) w pv vs ∧ ∀ b, q b → S4 ≤ b ∧ b < w.heap.size
  below : Below w0.heap.size w0 w
section
variable {T B rb gx S4 : Nat} {w0 w w' : World} {rest rest' : Ro} {cells cells' : List Value} {nv : Value} {ns : List Int} {pv : Value} {vs : List V}
theorem ESt.rg (s : ESt T B rb gx S4 w0 w rest cells nv ns pv vs) : rb < gx := Nat.lt_of_lt_of_le s.r.rlt s.hBg
theorem ESt.keep (s : ESt T B rb gx S4 w0 w rest cells nv ns pv vs) {K : Nat → Prop} (k : Keep K w w') (hK : ∀ b, b < w.heap.size → b ≠ rb → b ≠ gx → K b) (r' : WX5 B w' rb rest') (x' : VBlk T w' gx cells') : ESt T B rb gx S4 w0 w' rest' cells' nv ns pv vs := by
  have h1 := s.rg; have h2 := s.hg; have h3 := s.w0r; have h4 := s.hs; refine ⟨r', s.hBg, s.hg, Nat.le_trans s.hs k.size, s.w0r, x', s.n.keep k (fun g hg => hK g (s.n.lt hg) (by have := s.n.own hg; omega) (by have := s.n.own hg; omega)) (fun _ h => h) fun _ _ h => h, ?_, ?_⟩
  · obtain ⟨q, ho, hq⟩ := s.v
    refine ⟨q, ho.keep k (fun g hg => hK g (ho.lt hg) (by have := ho.own hg; omega) (by have := ho.own hg; omega)) (fun _ h => h) fun y cs hy => hy.keep k (fun b hb _ => hK b (hq b hb).2 (by have := (hq b hb).1; omega) (by have := (hq b hb).1; omega)) fun b hb => hb, fun b hb => ⟨(hq b hb).1, by have := (hq b hb).2; have := k.size; omega⟩⟩
  · exact s.below.trans (Keep.below (k.mono fun b hb => hK b (by omega) (by omega) (by omega)))
theorem ESt.call (s : ESt T B rb gx S4 w0 w rest cells nv ns pv vs) (r' : WX5 B w' rb rest') (k : KeepR rb w w') : ESt T B rb gx S4 w0 w' rest' cells nv ns pv vs :=
  s.keep k (fun b h1 h2 _ => ⟨h1, h2⟩) r' (s.x.keep k ⟨s.x.lt, by have := s.rg; omega⟩)
theorem ESt.put (s : ESt T B rb gx S4 w0 w rest cells nv ns pv vs) (i : Nat) (u : Value) : ESt T B rb gx S4 w0 (w.setCell ⟨gx, i, none⟩ u) rest (cells.set i u) nv ns pv vs :=
  s.keep (K := fun b => b ≠ gx) ((Keep.refl _ w).setCell (fun hk => hk rfl) _) (fun b _ _ h => h) (s.r.keep (K := fun b => b ≠ gx) ((Keep.refl _ w).setCell (fun hk => hk rfl) _) fun b hb => by have := s.hBg; omega) (s.x.set i u)
theorem ESt.row (s : ESt T B rb gx S4 w0 w rest cells nv ns pv vs) (cs : List Value) : ESt T B rb gx S4 w0 (w.setRow gx cs.toArray) rest cs nv ns pv vs :=
  s.keep (K := fun b => b ≠ gx) (Keep.setRow (Keep.refl _ w) (fun hk => hk rfl) _) (fun b _ _ h => h) (s.r.keep (K := fun b => b ≠ gx) (Keep.setRow (Keep.refl _ w) (fun hk => hk rfl) _) fun b hb => by have := s.hBg; omega) (s.x.setRow cs)
theorem ESt.down (s : ESt T B rb gx S4 w0 w rest cells nv ns pv vs) (k : Below w.heap.size w w') : ESt T B rb gx S4 w0 w' rest cells nv ns pv vs :=
  s.keep (Keep.of_below k) (fun b h _ _ => h) (s.r.keep (Keep.of_below k) fun b hb => by have := s.hBg; have := s.hg; have := s.hs; omega) (s.x.below k s.x.lt)
end
set_option maxHeartbeats 4000000 in
theorem rdec_ok {w : World} {v : Value} {P : List Int} {r : Rq} (hv : Sl .u8 w v (Frm.frameL P)) (hby : Frm.Byt P) (hlen : P.length ≤ 524288) (hn : rdRq P = some r) : Calls Tryz.prog 18 #[v] w (RqDec w r) := by
  obtain ⟨o2, h2⟩ : ∃ o, o = qR 81 1 20 P := ⟨_, rfl⟩; obtain ⟨o3, h3⟩ : ∃ o, o = (qUp 9007199254740992 o2).2 := ⟨_, rfl⟩; obtain ⟨o4, h4⟩ : ∃ o, o = (qNums o3).2 := ⟨_, rfl⟩; obtain ⟨sq, hsq⟩ : ∃ q : Nat, q = (qUp 9007199254740992 o2).1 := ⟨_, rfl⟩; obtain ⟨m, hm⟩ : ∃ q : Nat, q = (qUp 4096 o4).1 := ⟨_, rfl⟩; obtain ⟨o5, h5⟩ : ∃ q, q = (qUp 4096 o4).2 := ⟨_, rfl⟩; obtain ⟨o6, h6⟩ : ∃ q, q = (qT m o5).2 := ⟨_, rfl⟩; rcases rq5_fin h2 h3 h4 hm h5 h6 with ⟨vs, r0, hV, hr32, hr, n2, n4, n6⟩ | ⟨hno, -⟩
  rotate_left
  · rw [hn] at hno; cases hno
  rw [hn] at hr; obtain rfl := Option.some.inj hr; clear hr hn; rw [← hsq]; have hmle := qUp_le 4096 o4; rw [← hm] at hmle; have hTl := qT_ok (n := 32) (o := some r0) (t := r0) (r := []) (by
    show (if r0.length < 32 then (([], none) : List Int × Ro) else (r0.take 32, some (r0.drop 32))) = (r0, some [])
    rw [if_neg (by omega), List.take_of_length_le (by omega), List.drop_of_length_le (by omega)])
  have hT32 : qT 32 (some r0) = (r0, some []) := by
    show (if r0.length < 32 then (([], none) : List Int × Ro) else (r0.take 32, some (r0.drop 32))) = (r0, some [])
    rw [if_neg (by omega), List.take_of_length_le (by omega), List.drop_of_length_le (by omega)]
  clear hTl; refine enter (args := [v]) Tryz.func18 rfl Tryz.ntmps18 rfl ?_; refine K.kgn ?_; refine WL.alloc (z := .agg zReq.toArray) rfl rfl rfl rfl (fun _ => by kernel_rfl) fun g1 w1 hf0 => ?_; have hf1 : Fresh w g1 w1 71 zReq := hf0; clear hf0; have hB1 := hf1.below; have hg1 := hf1.eq; have hz1 := hf1.size; have T1 := hf1.blk; clear hf1; refine K.kgo ?_; refine WL.call rfl rfl rfl rfl rfl Tryz.func37 rfl (by kernel_rfl) (ropen_ok (hv.of_below hB1) hby hlen) ?_; rintro _ w2 ⟨rb, rfl, hr2, k2, hrb⟩; refine ⟨_, rfl, ?_⟩; clear hlen hv; have hz2 := k2.size; refine K.kgo ?_; refine WL.alloc (z := .agg zReq.toArray) rfl rfl rfl rfl (fun _ => by kernel_rfl) fun gx w3 hf0 => ?_; have hf3 : Fresh w2 gx w3 71 zReq := hf0; clear hf0; have hgx := hf3.eq; have hz3 := hf3.size; have s3 : ESt 71 w2.heap.size rb gx w3.heap.size w1 w3 (some P) zReq (.slice none 0 0) [] (.slice none 0 0) [] :=
    ⟨WX5.keep (o := some P) hr2 (Keep.of_below hf3.below) fun b hb => hb, by omega, by omega, Nat.le_refl _, hrb, hf3.blk, OwnE.nil _ _ _ _ _ _, ⟨fun _ => False, OwnE.nil _ _ _ _ _ _, fun b hb => hb.elim⟩, k2.trans (hf3.below.mono hz2)⟩
  clear hf3 hr2 k2; have hrg := s3.rg; refine K.kgo ?_; refine WL.call rfl rfl rfl rfl rfl Tryz.func38 rfl (by kernel_rfl) (begin5_x s3.r (by have := s3.hg; have := s3.hBg; omega) (by omega)) ?_; rintro _ w4 ⟨kd, nv, ns, rfl, hkd, hN, hns, hr, kk⟩; refine ⟨_, rfl, ?_⟩; have hnv := hN.one; rw [← h2, ← h3, ← h4] at hr; rw [← h2] at hkd ⊢; rw [← h2, ← h3, ← h4] at hns; obtain rfl := hkd n2; obtain rfl := hns n4; clear hkd hns; rw [← hsq]; have s4' := s3.call hr kk; have s4 : ESt 71 w2.heap.size rb gx w3.heap.size w1 w4 o4 zReq nv (qNums o3).1 (.slice none 0 0) [] :=
    { s4' with n := hN }
  clear s3 s4' hr kk hN; generalize hkd : nth P 1 = kd; generalize hns : (qNums o3).1 = ns at s4; refine K.kgo ?_; refine WL.store (v := .int .i64 kd) rfl rfl rfl rfl rfl rfl (by kernel_rfl) (s4.x.cell 0 (by simp [zReq, reqC])) (s4.x.free 0) ?_; have s5 := s4.put 0 (.int .i64 kd); generalize w4.setCell ⟨gx, 0, none⟩ (.int .i64 kd) = w5 at s5 ⊢; clear s4; refine K.kgo ?_; refine WL.store (v := .int .i64 sq) rfl rfl rfl rfl rfl rfl (by kernel_rfl) (s5.x.cell 1 (by simp [zReq, reqC])) (s5.x.free 1) ?_; have s6 := s5.put 1 (.int .i64 sq); generalize w5.setCell ⟨gx, 1, none⟩ (.int .i64 sq) = w6 at s6 ⊢; clear s5; refine K.kgo ?_; refine WL.store (v := nv) rfl rfl rfl rfl rfl hnv (by kernel_rfl) (s6.x.cell 2 (by simp [zReq, reqC])) (s6.x.free 2) ?_; have s7 := s6.put 2 nv; generalize w6.setCell ⟨gx, 2, none⟩ nv = w7 at s7 ⊢; clear s6; refine K.kgo ?_; refine WL.call rfl rfl rfl rfl rfl Tryz.func40 rfl (by kernel_rfl) (count5_x 4096 s7.r (by omega)) ?_; rintro _ w8 ⟨rfl, hr, kk⟩; refine ⟨_, rfl, ?_⟩; rw [← h5] at hr; rw [← hm]; have s8 := s7.call hr kk; clear s7 hr kk; refine WL.call rfl rfl rfl rfl rfl Tryz.func39 rfl (by kernel_rfl) (raw5_x m s8.r (by have := s8.hg; have := s8.hBg; have := s8.hs; omega) (by omega)) ?_; rintro _ w9 ⟨tv, L, rfl, htv, -, hL, hr, kk⟩; refine ⟨_, rfl, ?_⟩; rw [← h6, if_neg n6] at hL; rw [← h6] at hr; subst hL; have s9 := s8.call hr kk; clear s8 hr kk; refine WL.strOf rfl rfl rfl rfl rfl rfl rfl rfl htv ?_; clear htv; generalize htx : strOfNums (qT m o5).1 = tx; refine K.kgo ?_; refine WL.store (v := .string tx) rfl rfl rfl rfl rfl rfl (by kernel_rfl) (s9.x.cell 3 (by simp [zReq, reqC])) (s9.x.free 3) ?_; have s10 := s9.put 3 (.string tx); generalize w9.setCell ⟨gx, 3, none⟩ (.string tx) = w10 at s10 ⊢; clear s9; refine K.kgo ?_; refine WL.call rfl rfl rfl rfl rfl Tryz.func41 rfl (by kernel_rfl) (values5_x 40 s10.r (by have := s10.hg; have := s10.hBg; have := s10.hs; omega) (by omega)) ?_; rintro _ w11 ⟨pv, rfl, hpv, hr, kk⟩; refine ⟨_, rfl, ?_⟩; rw [hV] at hr; obtain ⟨⟨q, hO, hq⟩, hr⟩ := hr; have s11' := s10.call hr kk; have s11 : ESt 71 w2.heap.size rb gx w3.heap.size w1 w11 (some r0) ((((zReq.set 0 (.int .i64 kd)).set 1 (.int .i64 sq)).set 2 nv).set 3 (.string tx)) nv ns pv vs :=
    { s11' with v := ⟨q, hO.keep (Keep.refl (fun _ => True) w11) (fun _ _ => trivial) (fun b hb => by have := s10.hs; omega) fun _ _ h => h, fun b hb => ⟨by have := (hq b hb).1; have := s10.hs; omega, (hq b hb).2⟩⟩ }
  clear s10 s11' hr kk hO hq; refine K.kgo ?_; refine WL.store (v := pv) rfl rfl rfl rfl rfl hpv (by kernel_rfl) (s11.x.cell 4 (by simp [zReq, reqC])) (s11.x.free 4) ?_; have s12 := s11.put 4 pv; generalize w11.setCell ⟨gx, 4, none⟩ pv = w12 at s12 ⊢; clear s11; refine K.kgo ?_; refine WC.drawn 4 (fun _ => True) fun w13 hd => ?_; have s13 := s12.down (hd.below _); clear s12 hd; have hS : True := trivial; refine K.fr [0] hS ?_; refine WD.all 1 rfl (by kernel_rfl) rfl rfl (fun _ _ _ _ _ h => h) rfl rfl rfl rfl (.inr hS) ?_; refine K.fr [2] hS ?_; refine K.wo 3 ?_; refine WL.call rfl rfl rfl rfl rfl Tryz.func39 rfl (by kernel_rfl) (raw5_x 32 s13.r (by have := s13.hg; have := s13.hBg; have := s13.hs; omega) (by omega)) ?_; rintro _ w14 ⟨hv, L, rfl, hhv, -, hL, hr, kk⟩; refine ⟨_, rfl, ?_⟩; rw [hT32] at hL hr; rw [if_neg (fun h => by cases h)] at hL; have hL : L = r0 := hL; subst hL; have s14 := s13.call hr kk; clear s13 hr kk; refine K.di hS ?_; refine K.wo 4 ?_; refine WL.copy rfl rfl rfl rfl rfl rfl hhv (by omega) s14.x (by simp [zReq, reqC]) ?_; refine K.dl ?_; refine WD.done (by kernel_rfl) ?_; have hcp : (((((zReq.set 0 (.int .i64 kd)).set 1 (.int .i64 sq)).set 2 nv).set 3 (.string tx)).set 4 pv).take (0 + 5) ++ L.map (Value.int .u8) ++ (((((zReq.set 0 (.int .i64 kd)).set 1 (.int .i64 sq)).set 2 nv).set 3 (.string tx)).set 4 pv).drop (0 + 5 + L.length) = rqC ⟨kd, sq, ns, tx, vs, L⟩ nv pv := by
    rw [hr32, show (((((zReq.set 0 (.int .i64 kd)).set 1 (.int .i64 sq)).set 2 nv).set 3 (.string tx)).set 4 pv).drop (0 + 5 + 32) = [] from rfl, List.append_nil]
    rfl
  rw [hcp]; have s15 := s14.row (rqC ⟨kd, sq, ns, tx, vs, L⟩ nv pv); generalize w14.setRow gx (rqC ⟨kd, sq, ns, tx, vs, L⟩ nv pv).toArray = w15 at s15 ⊢; clear s14 hcp hhv; obtain ⟨sp19, cap19, hb19, -⟩ := WR5.ex s15.r; have c1 : w15.cell? ⟨rb, 1, none⟩ = some (.bool false) := hb19.cell 1 (by simp); have c0 : w15.cell? ⟨rb, 0, none⟩ = some (.slice sp19 0 cap19) := hb19.cell 0 (by simp); have hlen37 : (rqC ⟨kd, sq, ns, tx, vs, L⟩ nv pv).length = 37 := by simp [rqC, hr32]
  have hones : Ones (rqC ⟨kd, sq, ns, tx, vs, L⟩ nv pv) := by
    intro u hu; unfold rqC at hu; simp only [List.mem_cons, List.mem_map] at hu; rcases hu with rfl | rfl | rfl | rfl | rfl | ⟨a, -, rfl⟩ <;> first | rfl | assumption
  have T19 := T1.below s15.below T1.lt; refine K.kgl ?_; refine WL.loadMid rfl rfl rfl rfl rfl rfl (VBlk.rangeAt s15.x) hlen37 ?_; refine WL.storeRow rfl rfl rfl rfl rfl rfl T19 hlen37 (by rfl) hones ?_; have hset : Keep (fun b => b ≠ g1) w15 (w15.setRow g1 (rqC ⟨kd, sq, ns, tx, vs, L⟩ nv pv).toArray) := Keep.setRow (Keep.refl _ w15) (fun hk => hk rfl) _; have hkw : Below w.heap.size w (w15.setRow g1 (rqC ⟨kd, sq, ns, tx, vs, L⟩ nv pv).toArray) := below_setRow (hB1.trans (s15.below.mono hB1.size)) (by omega) _; have T20 := T19.setRow (rqC ⟨kd, sq, ns, tx, vs, L⟩ nv pv); have hN := s15.n.keep (P' := intP) (O' := fun _ => True) hset (fun g hg => by have := s15.n.own hg; omega) (fun _ _ => trivial) fun _ _ h => h; obtain ⟨q2, hV, hq2⟩ := s15.v; have hV2 := hV.keep (P' := IsVo q2 17 (w15.setRow g1 (rqC ⟨kd, sq, ns, tx, vs, L⟩ nv pv).toArray)) (O' := fun _ => True) hset (fun g hg => by have := hV.own hg; omega) (fun _ _ => trivial) fun y cs hy => hy.keep hset (fun b hb _ => by have := (hq2 b hb).1; omega) fun b hb => hb; generalize w15.setRow g1 (rqC ⟨kd, sq, ns, tx, vs, L⟩ nv pv).toArray = w16 at hkw T20 hN hV2 ⊢; refine K.kgo ?_; exact WQ.retCTw rfl rfl rfl rfl hlen37 T20 ⟨nv, pv, rfl, hkw, intP_sl hN.els, elsV hV2.els⟩
end K
end Go.Proofs.YtpfkcfaifleliaaGreat

namespace Go.Proofs.YtpfkcfaifleliaaGreat
open Go.RowKit
namespace K
section
variable {n : NN} {Q : Exit → Act → World → Prop} {l : Env} {w w' : World} {ops : Array Oper} {o : Oper} {rest : List Oper} {d : Nat}
theorem WL.tail1 {t e g off len cap : Nat} {x lo : Operand} {k1 : IntKind} (hg : o.guard = none) (hd : o.dst = some d) (hn : Nat.blt d n.n = true) (ho : o.op = .slice t x (some lo) none none) (ht : tyOf ty t = some (.slice e 1))
    (hx : evl l x = some (.slice (some ⟨g, off, none⟩) len cap)) (hlo : evl l lo = some (.int k1 1)) (h1 : 1 ≤ len)
    (h : WL n ops Q rest ((d, .slice (some ⟨g, if cap = 1 then off else off + 1, none⟩) (len - 1) (cap - 1)) :: l) w) : WL n ops Q (o :: rest) l w :=
  WL.step hg hd hn (fun a ha => by
    obtain ⟨hu', hs⟩ := sliceT ht w; unfold execOp; rw [ho]; have hr := run_slice_l w t (some ⟨g, off, none⟩) len cap hu' k1 1 (by omega) (by omega); simp only [ha.eval hx, ha.eval hlo, Option.map_some, Option.map_none, run_sliceAt_slice w t _ _ _ _ hu', hr, Sem.run_bind, hs, Result.andThen_ok, Sem.run_pure]; unfold sliced
    by_cases hc : cap = 1
    · simp [hc]
    · simp [hc, Addr.add_mid]) h
end
end K
namespace Cl
open K
set_option maxRecDepth 100000
variable {w : World} {cb : Nat}
def rq1 (seq : Nat) : Rq := ⟨1, seq, [], ByteArray.mk #[], [], z32⟩
abbrev opT : Nat := 60
theorem rq1_ok {k : Nat} (h : k ≤ 9007199254740992) : rqE (rq1 k) = 0 := by
  unfold rqE rq1; rw [if_neg (by simp; omega), if_neg (by simp; decide)]
  rfl
theorem rq1_len (k : Nat) : (rqB (rq1 k)).length ≤ 200 := by
  unfold rqB rq1; have h1 := headB_len 81 1 k [] (by simp); have h2 := uvB_lenw (ByteArray.mk #[]).size; have h3 : (valsB []).length ≤ 10 := by unfold valsB; rw [List.length_append]; have := uvB_lenw ([] : List V).length; simp [vlB]; omega
  have h4 : (bytesI (ByteArray.mk #[])).length = 0 := by rw [bytesI_len]; rfl
  simp only [List.length_append, Int.toNat_natCast, z32, List.length_replicate] at *; omega
theorem begins_new {jb : Nat} {c : Cli} {j : Jb} (h : VBlk clT w cb (clC c)) (hj : VBlk jbT w jb (jbC j)) (hn : c.now = some ⟨jb, 0, none⟩) (hne : cb ≠ jb) (hh : c.has = false) (hs : c.seq ≤ 9007199254740990) (hd : j.dig.length = 32) (hd2 : j.nroot.length = 32) :
    Calls Tryz.prog 34 #[.pointer (some ⟨cb, 0, none⟩)] w (Asked w cb jb c j (.func (.func opT) #[.pointer (some ⟨cb, 0, none⟩)] #[]) (Frm.frameL (rqB (rq1 (c.seq + 1))))) := by
  refine enter (args := [.pointer (some ⟨cb, 0, none⟩)]) Tryz.func34 rfl Tryz.ntmps34 rfl ?_; have s4 : w.cell? ⟨cb, 4, none⟩ = some (.bool false) := by have := h.cell 4 (by simp [clC]); rw [this, ← hh]; rfl
  refine K.kgl ?_; refine WL.build (rqC ⟨1, 0, [], ByteArray.mk #[], [], z32⟩ nos nos) rfl rfl rfl rfl rfl (by kernel_rfl) ?_; refine K.kgo ?_; refine WL.fnM rfl rfl rfl rfl rfl ?_; refine WL.call rfl rfl rfl rfl rfl Tryz.func59 rfl (by kernel_rfl) (asks_any (f := 17) (n := 0) (r := ⟨1, 0, [], ByteArray.mk #[], [], z32⟩) h hj hn hne (fun w' _ => ⟨Sl.nil _ _, fun x hx => (by cases hx), isVs_none _ _, rfl, z32_byt⟩) few0 (by decide) hs hd hd2 (rq1_ok (k := c.seq + 1) (by omega)) (by
    have := rq1_len (c.seq + 1)
    show (Frm.frameL (rqB (rq1 (c.seq + 1)))).length ≤ _
    rw [Frm.frameL_len]; omega) rfl) ?_
  rintro _ w2 ⟨v, fb, rfl, h2⟩; refine ⟨_, rfl, ?_⟩; refine K.kgo ?_; exact WQ.ret1 rfl rfl ⟨v, fb, rfl, h2⟩
abbrev opened (cb : Nat) : Value := .func (.func opT) #[.pointer (some ⟨cb, 0, none⟩)] #[]
def jb0 (num : Int) (l : Value) : Jb := ⟨num, l, 1, 0, z32, nos, false, 0, 0, z32, 0, .nilFunc⟩
def Ticked (w : World) (cb : Nat) (c : Cli) (num : Int) (l0 tl : Value) (L : List Int) : Ending → World → Prop := fun e w' => ∃ v jb fb, e = .returned (.tuple #[c.out, v]) ∧ VBlk clT w' cb (clC { c with now := some ⟨jb, 0, none⟩, jobs := tl, seq := c.seq + 1, frame := fb, waited := 0, sends := 1, out := nos }) ∧
  VBlk jbT w' jb (jbC { jb0 num l0 with hears := opened cb }) ∧ Bu w' fb L ∧ (∀ x, fb.ownBlock = some x → w.heap.size ≤ x) ∧ Msg1 w' w.heap.size v c.id L ∧ Keep (fun x => x < w.heap.size ∧ x ≠ cb) w w' ∧ w.heap.size ≤ jb ∧ ∀ x, fb.ownBlock = some x → x ≠ jb
set_option maxHeartbeats 8000000 in
theorem tick_new {c : Cli} {gj oj m cp : Nat} {sl : Option Addr} {nl cl : Nat} (h : VBlk clT w cb (clC c)) (hn : c.now = none) (hh : c.has = false) (hr : c.root.length = 32) (hs : c.seq ≤ 9007199254740990) (hj : c.jobs = .slice (some ⟨gj, oj, none⟩) (m + 1) cp) (hl : w.cell? ⟨gj, oj, none⟩ = some (.slice sl nl cl)) (hlt : gj < w.heap.size) (hnum : 0 ≤ c.nums ∧ c.nums ≤ 1000000) (hm : m ≤ 1000000) :
    Calls Tryz.prog 15 #[.pointer (some ⟨cb, 0, none⟩)] w (Ticked w cb c (c.nums - (m + 1 : Nat)) (.slice sl nl cl) (.slice (some ⟨gj, if cp = 1 then oj else oj + 1, none⟩) m (cp - 1)) (Frm.frameL (rqB (rq1 (c.seq + 1))))) := by
  refine enter (args := [.pointer (some ⟨cb, 0, none⟩)]) Tryz.func15 rfl Tryz.ntmps15 rfl ?_; have s7 : w.cell? ⟨cb, 7, none⟩ = some (.pointer none) := by have := h.cell 7 (by simp [clC]); rw [this, ← hn]; rfl
  have s5 : w.cell? ⟨cb, 5, none⟩ = some (.slice (some ⟨gj, oj, none⟩) (m + 1) cp) := by have := h.cell 5 (by simp [clC]); rw [this, ← hj]; rfl
  have lcb := VBlk.lt h; refine K.kgo ?_; refine WL.nilP rfl rfl rfl rfl rfl rfl (by kernel_rfl) ?_; refine K.kgl ?_; refine WL.nilP rfl rfl rfl rfl rfl rfl (by kernel_rfl) ?_; refine K.kgl ?_; refine WC.drawn 20 (fun wx => VBlk clT wx cb (clC c) ∧ wx.cell? ⟨gj, oj, none⟩ = some (.slice sl nl cl) ∧ Below w.heap.size w wx) fun w1 hdr => ?_; have hS : VBlk clT w1 cb (clC c) ∧ w1.cell? ⟨gj, oj, none⟩ = some (.slice sl nl cl) ∧ Below w.heap.size w w1 := ⟨VBlk.below h (hdr.below _) lcb, ((hdr.below _).cell (p := ⟨gj, oj, none⟩) hlt).trans hl, hdr.below _⟩; have c5 : ∀ wx, VBlk clT wx cb (clC c) → wx.cell? ⟨cb, 5, none⟩ = some (.slice (some ⟨gj, oj, none⟩) (m + 1) cp) := fun wx hx => by have := hx.cell 5 (by simp [clC]); rw [this, ← hj]; rfl
  clear hdr s5 s7 hl; refine K.fr [0, 1, 2, 3] hS ?_; refine K.wl 4 [10, 17, 18, 19, 20, 21] rfl rfl rfl rfl rfl rfl rfl (v := .int .i64 c.nums) (fun wx hx => hx.1.cell 6 (by simp [clC])) hS ?_; refine K.fr [5, 6, 7] hS ?_; refine K.wl 8 [9, 10, 17, 18, 19, 20, 21] rfl rfl rfl rfl rfl rfl rfl (v := .slice (some ⟨gj, oj, none⟩) (m + 1) cp) (fun wx hx => c5 wx hx.1) hS ?_; refine K.fr [9, 10, 11, 12, 13] hS ?_; refine K.wl 14 [15, 16, 17, 18, 19, 20, 21] rfl rfl rfl rfl rfl rfl rfl (v := .slice (some ⟨gj, oj, none⟩) (m + 1) cp) (fun wx hx => c5 wx hx.1) hS ?_; refine K.wi 15 0 oj rfl rfl rfl rfl rfl rfl rfl rfl rfl (by omega) (by simp) (.inr hS) ?_; refine K.wl 16 [17, 18, 19, 20, 21] rfl rfl rfl rfl rfl rfl rfl (v := .slice sl nl cl) (fun wx hx => hx.2.1) hS ?_; refine K.wo 17 ?_; refine WL.build (jbC (jb0 (c.nums - (m + 1 : Nat)) (.slice sl nl cl))) rfl rfl rfl rfl rfl (by kernel_rfl) ?_; refine K.di hS ?_; refine K.wo 18 ?_; refine WL.box rfl rfl rfl rfl rfl fun jb w2 f2 => ?_; have j2 : VBlk jbT w2 jb (jbC (jb0 (c.nums - (m + 1 : Nat)) (.slice sl nl cl))) := f2.blk; have e2 := f2.eq; have b2 := f2.below; have z1 := hS.2.2.size; have hS2 : VBlk clT w2 cb (clC c) ∧ w2.cell? ⟨gj, oj, none⟩ = some (.slice sl nl cl) ∧ Below w.heap.size w w2 := ⟨VBlk.below hS.1 b2 (VBlk.lt hS.1), (b2.cell (p := ⟨gj, oj, none⟩) (by show gj < w1.heap.size; omega)).trans hS.2.1, hS.2.2.trans (b2.mono z1)⟩; clear hS f2 b2; have hS := hS2; clear hS2; refine K.di hS ?_; refine K.fr [19] hS ?_; refine K.wo 20 ?_; refine WL.pure rfl rfl rfl rfl ?_; refine K.dl ?_; refine K.wo 21 ?_; obtain ⟨v2, -, b2⟩ := hS; have hne : cb ≠ jb := by omega
  refine WL.store (v := .pointer (some ⟨jb, 0, none⟩)) rfl rfl rfl rfl rfl rfl (by kernel_rfl) (VBlk.cell v2 7 (by simp [clC])) (VBlk.free v2 7) ?_; have v3 : VBlk clT (w2.setCell ⟨cb, 7, none⟩ (.pointer (some ⟨jb, 0, none⟩))) cb (clC { c with now := some ⟨jb, 0, none⟩ }) := VBlk.set v2 7 _; have j3 := VBlk.other j2 ⟨cb, 7, none⟩ (.pointer (some ⟨jb, 0, none⟩)) (fun e => hne e.symm); have k3 : Keep (fun x => x < w.heap.size ∧ x ≠ cb) w (w2.setCell ⟨cb, 7, none⟩ (.pointer (some ⟨jb, 0, none⟩))) := ((Keep.of_below b2).mono fun x hx => hx.1).setCell (fun hx => hx.2 rfl) _; generalize hw3 : w2.setCell ⟨cb, _, none⟩ (.pointer (some ⟨jb, 0, none⟩)) = w3; have hw3' : w2.setCell ⟨cb, 7, none⟩ (.pointer (some ⟨jb, 0, none⟩)) = w3 := hw3; rw [hw3'] at v3 j3 k3; clear hw3 hw3' v2 j2; refine K.dl ?_; refine WD.done (by kernel_rfl) ?_; have s5 : w3.cell? ⟨cb, 5, none⟩ = some (.slice (some ⟨gj, oj, none⟩) (m + 1) cp) := by have := v3.cell 5 (by simp [clC]); rw [this, ← hj]; rfl
  refine K.kgl ?_; refine WL.tail1 rfl rfl rfl rfl rfl rfl rfl (by omega) ?_; refine K.kgo ?_; refine WL.store (v := .slice (some ⟨gj, if cp = 1 then oj else oj + 1, none⟩) (m + 1 - 1) (cp - 1)) rfl rfl rfl rfl rfl rfl (by kernel_rfl) (VBlk.cell v3 5 (by simp [clC])) (VBlk.free v3 5) ?_; rw [Nat.add_sub_cancel]; have v4 : VBlk clT (w3.setCell ⟨cb, 5, none⟩ (.slice (some ⟨gj, if cp = 1 then oj else oj + 1, none⟩) m (cp - 1))) cb (clC { c with now := some ⟨jb, 0, none⟩, jobs := .slice (some ⟨gj, if cp = 1 then oj else oj + 1, none⟩) m (cp - 1) }) := VBlk.set v3 5 _; generalize (Value.slice (some ⟨gj, if cp = 1 then oj else oj + 1, none⟩) m (cp - 1)) = tl at v4 ⊢; have j4 := VBlk.other j3 ⟨cb, 5, none⟩ tl (fun e => hne e.symm); have k4 := k3.setCell (p := ⟨cb, 5, none⟩) (fun hx => hx.2 rfl) tl; generalize hw4 : w3.setCell ⟨cb, _, none⟩ tl = w4; have hw4' : w3.setCell ⟨cb, 5, none⟩ tl = w4 := hw4; rw [hw4'] at v4 j4 k4; clear hw4 hw4' v3 j3 s5; refine K.kgo ?_; refine WL.call rfl rfl rfl rfl rfl Tryz.func34 rfl (by kernel_rfl) (begins_new v4 j4 rfl hne hh hs rfl rfl) ?_; rintro _ w5 ⟨v, fb, rfl, v5, j5, fb5, o5, m5, k5⟩; refine ⟨_, rfl, ?_⟩; have z4 := k4.size; have ljb := VBlk.lt j4; have k05 : Keep (fun x => x < w.heap.size ∧ x ≠ cb) w w5 := k4.trans (k5.mono fun x hx => ⟨by omega, hx.2, by omega⟩); refine K.kgo ?_; refine WL.call rfl rfl rfl rfl rfl Tryz.func33 rfl (by kernel_rfl) (told_any v5 hr) ?_; rintro _ w6 ⟨rfl, v6, k6⟩; refine ⟨_, rfl, ?_⟩; have z5 := k05.size; have z5' := k5.size; refine K.kgo ?_; obtain ⟨gm, fm, e1m, e2m, e3m, e4m, e5m⟩ := m5; refine WQ.ret2 rfl rfl rfl ⟨v, jb, fb, rfl, v6, VBlk.keep j5 k6 ⟨by omega, fun e => hne e.symm⟩, Bu.keep fb5 k6 (fun x hx => ⟨Bu.lt fb5 x hx, by have := o5 x hx; omega⟩), fun x hx => Nat.le_trans z4 (o5 x hx), ⟨gm, fm, e1m, by omega, VBlk.keep e3m k6 ⟨VBlk.lt e3m, by omega⟩, Bu.keep e4m k6 (fun x hx => ⟨Bu.lt e4m x hx, by have := e5m x hx; omega⟩), fun x hx => Nat.le_trans z4 (e5m x hx)⟩, k05.trans (k6.mono fun x hx => ⟨by omega, hx.2⟩), by omega, fun x hx => by have := o5 x hx; omega⟩
end Cl
end Go.Proofs.YtpfkcfaifleliaaGreat

namespace Go.Proofs.YtpfkcfaifleliaaGreat
namespace K
theorem qU_enc {u : Nat} (h : u < 18446744073709551616) (r : List Int) : qU (some (uvB u ++ r)) = (u, some r) := by
  unfold qU; simp only [rdU_enc h r]
theorem qUp_enc {m u : Nat} (h : u ≤ m) (hm : m < 18446744073709551616) (r : List Int) : qUp m (some (uvB u ++ r)) = (u, some r) := by
  unfold qUp; rw [qU_enc (by omega), if_neg (by simp only; omega)]
theorem zig_lt2 {n : Int} (h : -9223372036854775808 ≤ n ∧ n ≤ 9223372036854775807) : zig n < 18446744073709551616 := by unfold zig; split <;> omega
theorem qNs_enc : ∀ {l : List Int}, R64w l → ∀ r, qNs l.length (some (nmB l ++ r)) = (l, some r)
  | [], _, r => rfl
  | n :: l, h, r => by
    have h1 : nmB (n :: l) ++ r = uvB (zig n) ++ (nmB l ++ r) := by unfold nmB; rw [List.flatMap_cons, List.append_assoc]
    show (zag (qU (some (nmB (n :: l) ++ r))).1 :: (qNs l.length (qU (some (nmB (n :: l) ++ r))).2).1, (qNs l.length (qU (some (nmB (n :: l) ++ r))).2).2) = _
    rw [h1, qU_enc (zig_lt2 (h n (by simp))), zag_zig, qNs_enc (fun x hx => h x (by simp [hx])) r]
def rqK (kind : Int) (seq : Nat) (nums : List Int) (text : ByteArray) (hash : List Int) : Rq := ⟨kind, seq, nums, text, [], hash⟩
theorem rqK_back {kind : Int} {seq : Nat} {nums : List Int} {text : ByteArray} {hash : List Int} (hk : 1 ≤ kind ∧ kind ≤ 20) (hs : seq ≤ 9007199254740992) (hn : nums.length ≤ 8) (h64 : R64w nums) (ht : text.size ≤ 4096) (hh : hash.length = 32) : ∃ t, rdRq (rqB (rqK kind seq nums text hash)) = some (rqK kind seq nums t hash) := by
  have h1 : rqB (rqK kind seq nums text hash) = 81 :: kind :: (uvB seq ++ (uvB nums.length ++ (nmB nums ++ (uvB text.size ++ (bytesI text ++ (uvB 0 ++ hash)))))) := by
    unfold rqB rqK headB valsB vlB; simp only [List.length_nil, List.flatMap_nil, List.append_nil, Int.toNat_natCast, List.cons_append, List.append_assoc]
  have hM : qM 81 (rqB (rqK kind seq nums text hash)) = some (uvB seq ++ (uvB nums.length ++ (nmB nums ++ (uvB text.size ++ (bytesI text ++ (uvB 0 ++ hash)))))) := by rw [h1]; rfl
  have hS := qUp_enc (m := 9007199254740992) hs (by omega) (uvB nums.length ++ (nmB nums ++ (uvB text.size ++ (bytesI text ++ (uvB 0 ++ hash))))); have hN : qNums (some (uvB nums.length ++ (nmB nums ++ (uvB text.size ++ (bytesI text ++ (uvB 0 ++ hash)))))) = (nums, some (uvB text.size ++ (bytesI text ++ (uvB 0 ++ hash)))) := by
    unfold qNums; rw [qUp_enc hn (by omega)]; exact qNs_enc h64 _
  have hT := qUp_enc (m := 4096) ht (by omega) (bytesI text ++ (uvB 0 ++ hash)); have hT2 : qT text.size (some (bytesI text ++ (uvB 0 ++ hash))) = (bytesI text, some (uvB 0 ++ hash)) := by
    have hl : (bytesI text).length = text.size := bytesI_len text; unfold qT; simp only
    rw [if_neg (by rw [List.length_append, hl]; omega), ← hl, List.take_left, List.drop_left]
  have hV : qVals 40 (some (uvB 0 ++ hash)) = some ([], hash) := by
    unfold qVals; rw [qUp_enc (by omega) (by omega)]
    rfl
  refine ⟨strOfNums (bytesI text), ?_⟩; unfold rdRq; rw [hM, hS]; simp only [hN, hT, hT2, hV]; have hk1 : nth (rqB (rqK kind seq nums text hash)) 1 = kind := by rw [h1]; rfl
  rw [hk1, if_pos ⟨hh, hk.1, hk.2⟩]
  rfl
theorem rqK_ok {kind : Int} {seq : Nat} {nums : List Int} {text : ByteArray} {hash : List Int} (hk : 1 ≤ kind ∧ kind ≤ 20) (hs : seq ≤ 9007199254740992) (hn : nums.length ≤ 8) (ht : text.size ≤ 4096) : rqE (rqK kind seq nums text hash) = 0 := by
  unfold rqE rqK; rw [if_neg (by simp only; omega), if_neg (by simp; omega)]
  rfl
theorem rqK_len {kind : Int} {seq : Nat} {nums : List Int} {text : ByteArray} {hash : List Int} (hn : nums.length ≤ 8) (ht : text.size ≤ 4096) (hh : hash.length = 32) : (rqB (rqK kind seq nums text hash)).length ≤ 5000 := by
  unfold rqB rqK; have h1 := headB_len 81 kind (seq : Int).toNat nums hn; have h2 := uvB_lenw text.size; have h3 : (valsB []).length ≤ 10 := by unfold valsB; rw [List.length_append]; have := uvB_lenw ([] : List V).length; simp [vlB]; omega
  have h4 := bytesI_len text; simp only [List.length_append]; omega
theorem rqK_byt {kind : Int} {seq : Nat} {nums : List Int} {text : ByteArray} {hash : List Int} (hk : 1 ≤ kind ∧ kind ≤ 20) (hb : Frm.Byt hash) : Frm.Byt (rqB (rqK kind seq nums text hash)) := fun c hc => by
  unfold rqB rqK at hc; simp only [List.mem_append] at hc; rcases hc with ((hc | hc | hc) | hc) | hc
  · exact headB_byt (by omega) (by omega) _ _ c hc
  · exact uvB_bytw _ c hc
  · unfold bytesI at hc
    obtain ⟨x, -, rfl⟩ := List.mem_map.1 hc; have := x.toNat_lt; omega
  · exact valsB_byt (l := []) (fun v h => by cases h) c hc
  · exact hb c hc
end K
end Go.Proofs.YtpfkcfaifleliaaGreat

namespace Go.Proofs.YtpfkcfaifleliaaGreat
open Go.RowKit
namespace Cl
open K
set_option maxRecDepth 100000
variable {w : World} {cb jb : Nat}
abbrev hC (h : List Int) : List Value := h.map (Value.int .u8)
def R64c (x : Int) : Prop := -9223372036854775808 ≤ x ∧ x ≤ 9223372036854775807
theorem part_at {T b : Nat} {w : World} {cs : List Value} (h : VBlk T w b cs) (a : List Value) (m : List Value) (z : List Value) (e : cs = a ++ (m ++ z)) : w.rangeAt b a.length m := by
  intro j u hj; have := VBlk.rangeAt h (a.length + j) u (by rw [e, List.getElem?_append_right (by omega), Nat.add_sub_cancel_left]; rw [List.getElem?_append_left]; exact hj; rcases Nat.lt_or_ge j m.length with h | h; exact h; rw [List.getElem?_eq_none h] at hj; cases hj)
  rwa [Nat.zero_add] at this
theorem jbC_dig {j : Jb} (h : VBlk jbT w jb (jbC j)) : w.rangeAt jb 4 (hC j.dig) := part_at h [.int .i64 j.num, j.l, .int .i64 j.tries, .int .i64 j.txn] (hC j.dig) _ rfl
theorem jbC_rows {j : Jb} (h : j.dig.length = 32) : (jbC j).getD 36 undef = j.rows := by
  unfold jbC; simp only [List.getD_eq_getElem?_getD, List.getElem?_cons_succ]; rw [show 32 = 32 + 0 from rfl, cut_at (by simpa using h)]
  rfl
theorem jbC_setRows {j : Jb} (h : j.dig.length = 32) (v : Value) : (jbC j).set 36 v = jbC { j with rows := v } := by
  unfold jbC; simp only [List.set_cons_succ]; rw [show 32 = 32 + 0 from rfl, set_at (by simpa using h)]
  rfl
theorem jbC_setDig {j : Jb} (h : j.dig.length = 32) (d : List Int) : (jbC j).take 4 ++ hC d ++ (jbC j).drop (4 + 32) = jbC { j with dig := d } := by
  have h2 : (hC j.dig).length = 32 := by simpa using h
  have e : ∀ z : List Value, List.drop 32 (hC j.dig ++ z) = z := fun z => by rw [← h2, List.drop_left]
  show [Value.int .i64 j.num, j.l, .int .i64 j.tries, .int .i64 j.txn] ++ hC d ++ List.drop 32 (hC j.dig ++ (j.rows :: .bool j.com :: .int .i64 j.block :: .int .i64 j.nsize :: (j.nroot.map (Value.int .u8) ++ [.int .i64 j.err, j.hears]))) = _
  rw [e]; simp [jbC]
theorem hash_nthC {h : List Int} (hh : h.length = 32) : h = (List.range 32).map (nth h) := by
  apply List.ext_getElem (by simp [hh])
  intro i h1 h2; simp [nth, h1]
theorem cell_ints {T g : Nat} {l : List Int} (h : VBlk T w g (l.map (Value.int .i64))) (hl : l.length ≤ 9223372036854775807) : Sl .i64 w (.slice (some ⟨g, 0, none⟩) l.length l.length) l :=
  Sl.mk (Nat.le_refl _) hl (VBlk.lt h) fun j hj => by
    have := VBlk.cell h j (by simpa using hj); rw [Nat.zero_add]; rw [this]; simp [nth, hj]
theorem Asked.up {w w2 : World} {c : Cli} {j : Jb} {hv : Value} {L : List Int} {e : Ending} {w' : World} (hb : Below w.heap.size w w2) (h : Asked w2 cb jb c j hv L e w') : Asked w cb jb c j hv L e w' := by
  obtain ⟨v, fb, h1, h2, h3, h4, h5, ⟨g, fm, m1, m2, m3, m4, m5⟩, h7⟩ := h; have z := hb.size; exact ⟨v, fb, h1, h2, h3, h4, fun x hx => Nat.le_trans z (h5 x hx), ⟨g, fm, m1, Nat.le_trans z m2, m3, m4, fun x hx => Nat.le_trans z (m5 x hx)⟩, ((Keep.of_below hb).mono fun x hx => hx.1).trans (h7.mono fun x hx => ⟨Nat.lt_of_lt_of_le hx.1 z, hx.2⟩)⟩
theorem asks_K {c : Cli} {j : Jb} {kind : Int} {nums : List Int} {text : ByteArray} {hash : List Int} {g : Nat} {hv : Value} (h : VBlk clT w cb (clC c)) (hj : VBlk jbT w jb (jbC j)) (hn : c.now = some ⟨jb, 0, none⟩) (hne : cb ≠ jb) (hs : c.seq ≤ 9007199254740990) (hd : j.dig.length = 32) (hd2 : j.nroot.length = 32)
    (hk : 1 ≤ kind ∧ kind ≤ 20) (hnl : nums.length ≤ 8) (h64 : R64w nums) (ht : text.size ≤ 4096) (hh : hash.length = 32) (hb : Frm.Byt hash) (hg : VBlk 3 w g (nums.map (Value.int .i64))) (hg1 : g ≠ cb) (hg2 : g ≠ jb) (h1 : hv.oneCell' = true) :
    Calls Tryz.prog 59 #[.pointer (some ⟨cb, 0, none⟩), .agg (rqC (rqK kind 0 nums text hash) (.slice (some ⟨g, 0, none⟩) nums.length nums.length) nos).toArray, hv] w (Asked w cb jb c j hv (Frm.frameL (rqB (rqK kind (c.seq + 1) nums text hash)))) :=
  asks_any (f := 17) (n := 0) (r := rqK kind 0 nums text hash) h hj hn hne (fun w' hk => ⟨cell_ints (VBlk.keep hg hk ⟨VBlk.lt hg, hg1, hg2⟩) (by omega), h64, isVs_none _ _, hh, hb⟩) few0 (by show text.size ≤ 100000; omega) hs hd hd2 (rqK_ok (seq := c.seq + 1) hk (by omega) hnl ht) (by
    have := rqK_len (kind := kind) (seq := c.seq + 1) hnl ht hh
    show (Frm.frameL (rqB (rqK kind (c.seq + 1) nums text hash))).length ≤ _
    rw [Frm.frameL_len]; omega) h1
abbrev stF : Nat := 61
abbrev rnF : Nat := 123
abbrev dcF : Nat := 122
abbrev meth (f cb : Nat) : Value := .func (.func f) #[.pointer (some ⟨cb, 0, none⟩)] #[]
def noT : ByteArray := ByteArray.mk #[]
theorem begins_has {c : Cli} {j : Jb} (h : VBlk clT w cb (clC c)) (hj : VBlk jbT w jb (jbC j)) (hn : c.now = some ⟨jb, 0, none⟩) (hne : cb ≠ jb) (hh : c.has = true) (hs : c.seq ≤ 9007199254740990) (hd : j.dig.length = 32) (hd2 : j.nroot.length = 32) (h64 : R64c c.ses) :
    Calls Tryz.prog 34 #[.pointer (some ⟨cb, 0, none⟩)] w (Asked w cb jb c j (meth stF cb) (Frm.frameL (rqB (rqK 3 (c.seq + 1) [c.ses] noT z32)))) := by
  refine enter (args := [.pointer (some ⟨cb, 0, none⟩)]) Tryz.func34 rfl Tryz.ntmps34 rfl ?_; have s4 : w.cell? ⟨cb, 4, none⟩ = some (.bool true) := by have := h.cell 4 (by simp [clC]); rw [this, ← hh]; rfl
  have s3 : w.cell? ⟨cb, 3, none⟩ = some (.int .i64 c.ses) := h.cell 3 (by simp [clC]); refine K.kgl ?_; refine WL.litV [.int .i64 c.ses] rfl rfl rfl rfl rfl rfl (by kernel_rfl) fun g w1 f1 => ?_; have e1 := f1.eq; have lcb := VBlk.lt h; have ljb := VBlk.lt hj; refine K.kgo ?_; refine WL.build (rqC (rqK 3 0 [c.ses] noT z32) (.slice (some ⟨g, 0, none⟩) 1 1) nos) rfl rfl rfl rfl rfl (by kernel_rfl) ?_; refine K.kgo ?_; refine WL.fnM rfl rfl rfl rfl rfl ?_; refine WL.call rfl rfl rfl rfl rfl Tryz.func59 rfl (by kernel_rfl) (asks_K (nums := [c.ses]) (VBlk.below h f1.below lcb) (VBlk.below hj f1.below ljb) hn hne hs hd hd2 (by omega) (by simp) (fun x hx => (by rcases List.mem_cons.1 hx with rfl | hx; exact h64; cases hx)) (by decide) rfl z32_byt f1.blk (by omega) (by omega) rfl) ?_; rintro _ w2 ha; obtain ⟨v, fb, rfl, h2⟩ := Asked.up f1.below ha; refine ⟨_, rfl, ?_⟩; refine K.kgo ?_; exact WQ.ret1 rfl rfl ⟨v, fb, rfl, h2⟩
theorem built5q (g : Nat) (q : Nat → Int) : Tryz.prog.built rqT [(0, .int .i64 5), (2, .slice (some ⟨g, 0, none⟩) 2 2), (5, .agg (hC ((List.range 32).map q)).toArray)] = some (rqC (rqK 5 0 [0, 0] noT ((List.range 32).map q)) (.slice (some ⟨g, 0, none⟩) 2 2) nos).toArray := by kernel_rfl
theorem built5 (g : Nat) {a b : Int} {h : List Int} (hh : h.length = 32) : Tryz.prog.built rqT [(0, .int .i64 5), (2, .slice (some ⟨g, 0, none⟩) 2 2), (5, .agg (hC h).toArray)] = some (rqC (rqK 5 0 [a, b] noT h) (.slice (some ⟨g, 0, none⟩) 2 2) nos).toArray := by
  have := built5q g (nth h); rw [← hash_nthC hh] at this; exact this
set_option maxHeartbeats 8000000 in
theorem runs_any {c : Cli} {j : Jb} {m rc : Nat} {rp : Option Addr} {gl cl : Nat} {s : ByteArray} (h : VBlk clT w cb (clC c)) (hj : VBlk jbT w jb (jbC j)) (hn : c.now = some ⟨jb, 0, none⟩) (hne : cb ≠ jb) (hs : c.seq ≤ 9007199254740990) (hd : j.dig.length = 32) (hd2 : j.nroot.length = 32) (hdb : Frm.Byt j.dig) (h64 : R64c c.ses) (h64b : R64c j.txn)
    (hm : m ≤ 1) (hr : j.rows = .slice rp m rc) (hl : j.l = .slice (some ⟨gl, 0, none⟩) 1 cl) (hgl : ∀ w', Below w.heap.size w w' → w'.rangeAt gl 0 [.string s, nos]) (hsz : s.size ≤ 4096) :
    Calls Tryz.prog 92 #[.pointer (some ⟨cb, 0, none⟩)] w (Asked w cb jb c j (meth (if m = 1 then dcF else rnF) cb) (Frm.frameL (rqB (if m = 1 then rqK 5 (c.seq + 1) [c.ses, j.txn] noT j.dig else rqK 4 (c.seq + 1) [c.ses, j.txn] s z32)))) := by
  refine enter (args := [.pointer (some ⟨cb, 0, none⟩)]) Tryz.func92 rfl Tryz.ntmps92 rfl ?_; have lcb := VBlk.lt h; have ljb := VBlk.lt hj; have s7 : w.cell? ⟨cb, 7, none⟩ = some (.pointer (some ⟨jb, 0, none⟩)) := by have := h.cell 7 (by simp [clC]); rw [this, ← hn]; rfl
  have cr : ∀ wx, VBlk jbT wx jb (jbC j) → wx.cell? ⟨jb, 36, none⟩ = some (.slice rp m rc) := fun wx hx => by have := hx.cell 36 (by rw [jbC_len hd hd2]; omega); rw [jbC_rows hd, hr] at this; exact this
  have cl1 : ∀ wx, VBlk jbT wx jb (jbC j) → wx.cell? ⟨jb, 1, none⟩ = some (.slice (some ⟨gl, 0, none⟩) 1 cl) := fun wx hx => by have := hx.cell 1 (by simp [jbC]); rw [this, ← hl]; rfl
  refine K.kgl ?_; refine WC.drawn 9 (fun wx => VBlk clT wx cb (clC c) ∧ VBlk jbT wx jb (jbC j) ∧ Below w.heap.size w wx) fun w1 hdr => ?_; have hS : VBlk clT w1 cb (clC c) ∧ VBlk jbT w1 jb (jbC j) ∧ Below w.heap.size w w1 := ⟨VBlk.below h (hdr.below _) lcb, VBlk.below hj (hdr.below _) ljb, hdr.below _⟩; clear hdr s7; refine K.fr [0, 1, 2] hS ?_; refine K.wl 3 [8, 9] rfl rfl rfl rfl rfl rfl rfl (v := .int .i64 c.ses) (fun wx hx => hx.1.cell 3 (by simp [clC])) hS ?_; refine K.fr [4, 5, 6] hS ?_; refine K.wl 7 [8, 9] rfl rfl rfl rfl rfl rfl rfl (v := .int .i64 j.txn) (fun wx hx => hx.2.1.cell 3 (by simp [jbC])) hS ?_; refine K.wo 8 ?_; refine WL.litV [.int .i64 c.ses, .int .i64 j.txn] rfl rfl rfl rfl rfl rfl (by kernel_rfl) fun g w2 f2 => ?_; have hg2 : VBlk 3 w2 g ([c.ses, j.txn].map (Value.int .i64)) := f2.blk; have e2 := f2.eq; have z1 := hS.2.2.size; have hS2 : VBlk clT w2 cb (clC c) ∧ VBlk jbT w2 jb (jbC j) ∧ Below w.heap.size w w2 := ⟨VBlk.below hS.1 f2.below (VBlk.lt hS.1), VBlk.below hS.2.1 f2.below (VBlk.lt hS.2.1), hS.2.2.trans (f2.below.mono z1)⟩; clear f2 hS; refine K.di hS2 ?_; refine K.wo 9 ?_; refine WL.pure rfl rfl rfl rfl ?_; refine K.dl ?_; refine WD.done (by kernel_rfl) ?_; refine K.kgo ?_; refine WC.drawn 10 (fun wx => VBlk clT wx cb (clC c) ∧ VBlk jbT wx jb (jbC j) ∧ VBlk 3 wx g ([c.ses, j.txn].map (Value.int .i64)) ∧ Below w.heap.size w wx) fun w3 hdr => ?_; have hS : VBlk clT w3 cb (clC c) ∧ VBlk jbT w3 jb (jbC j) ∧ VBlk 3 w3 g ([c.ses, j.txn].map (Value.int .i64)) ∧ Below w.heap.size w w3 := ⟨VBlk.below hS2.1 (hdr.below _) (VBlk.lt hS2.1), VBlk.below hS2.2.1 (hdr.below _) (VBlk.lt hS2.2.1), VBlk.below hg2 (hdr.below _) (VBlk.lt hg2), hS2.2.2.trans (hdr.below _)⟩; clear hdr hS2 hg2; refine K.fr [0, 1, 2] hS ?_; refine K.wl 3 [4, 10] rfl rfl rfl rfl rfl rfl rfl (v := .slice rp m rc) (fun wx hx => cr wx hx.2.1) hS ?_; refine K.fr [4, 5, 6, 7] hS ?_; refine K.wl 8 [9, 10] rfl rfl rfl rfl rfl rfl rfl (v := .slice (some ⟨gl, 0, none⟩) 1 cl) (fun wx hx => cl1 wx hx.2.1) hS ?_; refine K.fr [9] hS ?_; have hgc : g ≠ cb := by omega
  have hgj : g ≠ jb := by omega
  have hms : ∀ x ∈ [c.ses, j.txn], -9223372036854775808 ≤ x ∧ x ≤ 9223372036854775807 := fun x hx => by
    rcases List.mem_cons.1 hx with rfl | hx
    · exact h64
    · rcases List.mem_cons.1 hx with rfl | hx
      · exact h64b
      · cases hx
  by_cases hm1 : m = 1
  · subst hm1
    rw [if_pos rfl, if_pos rfl]; refine K.wo 10 ?_; refine WL.pure rfl rfl rfl rfl ?_; refine K.dl ?_; refine WD.done (by kernel_rfl) ?_; obtain ⟨v3, j3, g3, b3⟩ := hS; refine K.kgo ?_; refine WL.loadMid rfl rfl rfl rfl rfl rfl (jbC_dig j3) (by simpa using hd) ?_; refine WL.build (rqC (rqK 5 0 [c.ses, j.txn] noT j.dig) (.slice (some ⟨g, 0, none⟩) 2 2) nos) rfl rfl rfl rfl rfl (built5 g hd) ?_; refine K.kgo ?_; refine WL.fnM rfl rfl rfl rfl rfl ?_; refine WL.call rfl rfl rfl rfl rfl Tryz.func59 rfl (by kernel_rfl) (asks_K (nums := [c.ses, j.txn]) v3 j3 hn hne hs hd hd2 (by omega) (by simp) hms (by decide) hd hdb g3 hgc hgj rfl) ?_; rintro _ w5 ha; obtain ⟨v, fb, rfl, h2⟩ := Asked.up b3 ha; refine ⟨_, rfl, ?_⟩; refine K.kgo ?_; exact WQ.ret1 rfl rfl ⟨v, fb, rfl, h2⟩
  · obtain rfl : m = 0 := by omega
    rw [if_neg (by omega), if_neg (by omega)]; refine K.wo 10 ?_; refine WL.pure rfl rfl rfl rfl ?_; refine K.dl ?_; refine WD.done (by kernel_rfl) ?_; refine K.kgo ?_; refine WC.drawn 12 (fun wx => VBlk clT wx cb (clC c) ∧ VBlk jbT wx jb (jbC j) ∧ VBlk 3 wx g ([c.ses, j.txn].map (Value.int .i64)) ∧ Below w.heap.size w wx) fun w4 hdr => ?_; have hS4 : VBlk clT w4 cb (clC c) ∧ VBlk jbT w4 jb (jbC j) ∧ VBlk 3 w4 g ([c.ses, j.txn].map (Value.int .i64)) ∧ Below w.heap.size w w4 := ⟨VBlk.below hS.1 (hdr.below _) (VBlk.lt hS.1), VBlk.below hS.2.1 (hdr.below _) (VBlk.lt hS.2.1), VBlk.below hS.2.2.1 (hdr.below _) (VBlk.lt hS.2.2.1), hS.2.2.2.trans (hdr.below _)⟩; clear hdr hS; have hS := hS4; clear hS4; refine K.fr [0, 1, 2] hS ?_; refine K.wl 3 [9, 10, 12] rfl rfl rfl rfl rfl rfl rfl (v := .slice (some ⟨gl, 0, none⟩) 1 cl) (fun wx hx => cl1 wx hx.2.1) hS ?_; refine K.fr [4, 5, 6] hS ?_; refine K.wl 7 [8, 9, 10, 12] rfl rfl rfl rfl rfl rfl rfl (v := .slice rp 0 rc) (fun wx hx => cr wx hx.2.1) hS ?_; refine K.fr [8] hS ?_; refine K.wi 9 0 0 rfl rfl rfl rfl rfl rfl rfl rfl rfl (by omega) rfl (.inr hS) ?_; refine K.wm 10 [12] rfl rfl rfl rfl rfl rfl rfl (fun wx hx => hgl wx hx.2.2.2) rfl hS ?_; refine K.wo 11 ?_; refine WL.alloc (z := .agg #[.string ByteArray.empty, nos]) rfl rfl rfl rfl (fun _ => by kernel_rfl) fun g8 w6 f6 => ?_; have e6 := f6.eq; have z4 := hS.2.2.2.size; have hS6 : VBlk clT w6 cb (clC c) ∧ VBlk jbT w6 jb (jbC j) ∧ VBlk 3 w6 g ([c.ses, j.txn].map (Value.int .i64)) ∧ Below w.heap.size w w6 := ⟨VBlk.below hS.1 f6.below (VBlk.lt hS.1), VBlk.below hS.2.1 f6.below (VBlk.lt hS.2.1), VBlk.below hS.2.2.1 f6.below (VBlk.lt hS.2.2.1), hS.2.2.2.trans (f6.below.mono z4)⟩; have lg := VBlk.lt hS.2.2.1; have lc4 := VBlk.lt hS.1; have lj4 := VBlk.lt hS.2.1; refine K.di hS6 ?_; refine K.wo 12 ?_; refine WL.storeRow rfl rfl rfl rfl rfl rfl f6.blk rfl rfl (fun u hu => by rcases List.mem_cons.1 hu with rfl | hu; rfl; rcases List.mem_cons.1 hu with rfl | hu; rfl; cases hu) ?_; have t7 : VBlk smT (w6.setRow g8 #[.string s, nos]) g8 [.string s, nos] := f6.blk.setRow [.string s, nos]; have b7 : Below w4.heap.size w4 (w6.setRow g8 #[.string s, nos]) := below_setRow f6.below (by omega) _; have v7 := VBlk.below hS.1 b7 lc4; have j7 := VBlk.below hS.2.1 b7 lj4; have g7 := VBlk.below hS.2.2.1 b7 lg; have b07 := hS.2.2.2.trans (b7.mono z4); generalize hw7 : w6.setRow g8 _ = w7; have hw7' : w6.setRow g8 #[.string s, nos] = w7 := hw7; rw [hw7'] at t7 v7 j7 g7 b07; clear hw7 hw7' f6 hS6 hS b7; refine K.dl ?_; refine WD.done (by kernel_rfl) ?_; have t0 : w7.cell? ⟨g8, 0, none⟩ = some (.string s) := t7.cell 0 (by simp); have t1 : w7.cell? ⟨g8, 1, none⟩ = some nos := t7.cell 1 (by simp); refine K.kgl ?_; refine WL.build (rqC (rqK 4 0 [c.ses, j.txn] s z32) (.slice (some ⟨g, 0, none⟩) 2 2) nos) rfl rfl rfl rfl rfl (by kernel_rfl) ?_; refine K.kgo ?_; refine WL.fnM rfl rfl rfl rfl rfl ?_; refine WL.call rfl rfl rfl rfl rfl Tryz.func59 rfl (by kernel_rfl) (asks_K (nums := [c.ses, j.txn]) v7 j7 hn hne hs hd hd2 (by omega) (by simp) hms hsz rfl z32_byt g7 hgc hgj rfl) ?_; rintro _ w9 ha; obtain ⟨v, fb, rfl, h2⟩ := Asked.up b07 ha; refine ⟨_, rfl, ?_⟩; refine K.kgo ?_; exact WQ.ret1 rfl rfl ⟨v, fb, rfl, h2⟩
end Cl
end Go.Proofs.YtpfkcfaifleliaaGreat

namespace Go.Proofs.YtpfkcfaifleliaaGreat
open Go.RowKit
namespace Cl
open K
set_option maxRecDepth 100000
variable {w : World} {cb jb : Nat}
abbrev rsT : Nat := 61
abbrev rpT : Nat := 111
theorem elemR : ElemV Tryz.prog 44 rsT 5 56 := ElemV.mk' (z := .agg #[.int .i64 0, .int .i64 0, nos, .int .i64 0, .int .i64 0]) Tryz.underlying44 (by kernel_rfl) rfl (by omega)
def badC (num e : Int) : List Value := [.int .i64 num, .int .i64 e, nos, .int .i64 (-1), .int .i64 0]
theorem badC_ones (num e : Int) : Ones (badC num e) := fun u hu => by
  unfold badC at hu; simp only [List.mem_cons, List.not_mem_nil, or_false] at hu; rcases hu with rfl | rfl | rfl | rfl | rfl <;> rfl
def Ended (w : World) (cb : Nat) (c : Cli) (num e : Int) (w' : World) : Prop := ∃ gR cR, VBlk clT w' cb (clC { c with now := none, frame := nos, out := .slice (some ⟨gR, 0, none⟩) 1 cR }) ∧ OwnV rsT 5 w' (fun x => w.heap.size ≤ x) (.slice (some ⟨gR, 0, none⟩) 1 cR) 1 (badC num e) ∧ Keep (fun x => x < w.heap.size ∧ x ≠ cb) w w'
set_option maxHeartbeats 8000000 in
theorem ends_bad {c : Cli} {j : Jb} {e : Int} (h : VBlk clT w cb (clC c)) (hj : VBlk jbT w jb (jbC j)) (hn : c.now = some ⟨jb, 0, none⟩) (hr : c.root.length = 32) (ho : c.out = nos) (he : e ≠ 0 ∧ e ≠ 19) :
    Calls Tryz.prog 35 #[.pointer (some ⟨cb, 0, none⟩), .int .i64 e] w fun r w' => r = .returned (.tuple #[]) ∧ Ended w cb c j.num e w' := by
  refine enter (args := [.pointer (some ⟨cb, 0, none⟩), .int .i64 e]) Tryz.func35 rfl Tryz.ntmps35 rfl ?_; have lcb := VBlk.lt h; have ljb := VBlk.lt hj; have he1 := he.1; have he2 := he.2; have s7 : w.cell? ⟨cb, 7, none⟩ = some (.pointer (some ⟨jb, 0, none⟩)) := by have := h.cell 7 (by simp [clC]); rw [this, ← hn]; rfl
  have s0 : w.cell? ⟨jb, 0, none⟩ = some (.int .i64 j.num) := hj.cell 0 (by simp [jbC]); refine K.kgl ?_; refine WL.build (badC j.num e) rfl rfl rfl rfl rfl (by kernel_rfl) ?_; refine WL.alloc (z := .agg #[.int .i64 0, .int .i64 0, nos, .int .i64 0, .int .i64 0]) rfl rfl rfl rfl (fun _ => by kernel_rfl) fun g1 w1 f1 => ?_; refine WL.storeRow rfl rfl rfl rfl rfl rfl f1.blk rfl rfl (badC_ones _ _) ?_; have e1 := f1.eq; have t2 : VBlk rsT (w1.setRow g1 (badC j.num e).toArray) g1 (badC j.num e) := f1.blk.setRow (badC j.num e); have b2 : Below w.heap.size w (w1.setRow g1 (badC j.num e).toArray) := below_setRow f1.below (by omega) _; generalize w1.setRow g1 (badC j.num e).toArray = w2 at t2 b2 ⊢; clear f1 s7 s0; have v2 := VBlk.below h b2 lcb; refine K.kgo ?_; refine WC.drawn 10 (fun wx => VBlk clT wx cb (clC c) ∧ VBlk rsT wx g1 (badC j.num e) ∧ Below w.heap.size w wx) fun w3 hdr => ?_; have hS : VBlk clT w3 cb (clC c) ∧ VBlk rsT w3 g1 (badC j.num e) ∧ Below w.heap.size w w3 := ⟨VBlk.below v2 (hdr.below _) (VBlk.lt v2), VBlk.below t2 (hdr.below _) (VBlk.lt t2), b2.trans (hdr.below _)⟩; clear hdr v2 t2 b2; refine K.fr [0, 1, 2, 3] hS ?_; refine K.wl 4 [7, 8, 9, 10] rfl rfl rfl rfl rfl rfl rfl (v := nos) (fun wx hx => by have := hx.1.cell 44 (by rw [clC_len hr]; omega); rw [clC_out hr, ho] at this; exact this) hS ?_; refine K.wm 5 [6, 7, 8, 9, 10] rfl rfl rfl rfl rfl rfl rfl (cs := badC j.num e) (fun wx hx => VBlk.rangeAt hx.2.1) rfl hS ?_; refine K.wo 6 ?_; refine WL.lit1 (cs := badC j.num e) rfl rfl rfl rfl rfl rfl rfl rfl ⟨by omega, by omega⟩ (by kernel_rfl) fun g5 w5 f5 => ?_; have z3 := hS.2.2.size; have hS5 : VBlk clT w5 cb (clC c) ∧ VBlk rsT w5 g1 (badC j.num e) ∧ Below w.heap.size w w5 := ⟨VBlk.below hS.1 f5.below (VBlk.lt hS.1), VBlk.below hS.2.1 f5.below (VBlk.lt hS.2.1), hS.2.2.trans (f5.below.mono z3)⟩; have e5 := f5.eq; have z5 := f5.size; refine K.di hS5 ?_; refine K.wo 7 ?_; refine WL.snoc (y := ()) (P := fun (_ : Unit) c => c = badC j.num e) (z := ()) rfl rfl rfl rfl elemR rfl (OwnE.nil _ _ _ _ (fun _ => False) _) rfl f5.blk (badC_ones _ _) rfl rfl (by simp) (by simp) fun v8 w8 own8 gr8 => ?_; have b8 : Below w5.heap.size w5 w8 := gr8.old (Nat.le_refl _) fun g hg => by cases hg
  have hS8 : VBlk clT w8 cb (clC c) ∧ VBlk rsT w8 g1 (badC j.num e) ∧ Below w.heap.size w w8 := ⟨VBlk.below hS5.1 b8 (VBlk.lt hS5.1), VBlk.below hS5.2.1 b8 (VBlk.lt hS5.2.1), hS5.2.2.trans (b8.mono hS5.2.2.size)⟩; obtain ⟨gR, cR, rfl, hO, hown⟩ := own1 own8; clear hS hS5 f5 gr8 own8; have hgR : gR = w5.heap.size := by rcases hO with hO | hO; exact hO.elim; exact hO
  have hS := hS8; clear hS8; refine K.di hS ?_; refine K.fr [8, 9] hS ?_; refine K.wo 10 ?_; obtain ⟨v8, -, b08⟩ := hS; refine WL.store (v := .slice (some ⟨gR, 0, none⟩) 1 cR) rfl rfl rfl rfl rfl rfl (by kernel_rfl) (VBlk.cell v8 44 (by rw [clC_len hr]; omega)) (VBlk.free v8 44) ?_; have v9 := VBlk.set v8 44 (.slice (some ⟨gR, 0, none⟩) 1 cR); rw [clC_set hr] at v9; have n9 := (Keep.refl (fun x => x ≠ cb) w8).setCell (p := ⟨cb, 44, none⟩) (fun hx => hx rfl) (.slice (some ⟨gR, 0, none⟩) 1 cR); have k9 : Keep (fun x => x < w.heap.size ∧ x ≠ cb) w (w8.setCell ⟨cb, 44, none⟩ (.slice (some ⟨gR, 0, none⟩) 1 cR)) := ((Keep.of_below b08).mono fun x hx => hx.1).setCell (fun hx => hx.2 rfl) _; generalize hw9 : w8.setCell ⟨cb, _, none⟩ (.slice (some ⟨gR, 0, none⟩) 1 cR) = w9; have hw9' : w8.setCell ⟨cb, 44, none⟩ (.slice (some ⟨gR, 0, none⟩) 1 cR) = w9 := hw9; rw [hw9'] at v9 n9 k9; clear hw9 hw9' v8 b08; refine K.dl ?_; refine WD.done (by kernel_rfl) ?_; refine K.kgo ?_; refine WL.store (v := .pointer none) rfl rfl rfl rfl rfl rfl (by kernel_rfl) (VBlk.cell v9 7 (by simp [clC])) (VBlk.free v9 7) ?_; have v10 : VBlk clT (w9.setCell ⟨cb, 7, none⟩ (.pointer none)) cb (clC { c with now := none, out := .slice (some ⟨gR, 0, none⟩) 1 cR }) := VBlk.set v9 7 _; have n10 := n9.setCell (p := ⟨cb, 7, none⟩) (fun hx => hx rfl) (.pointer none); have k10 := k9.setCell (p := ⟨cb, 7, none⟩) (fun hx => hx.2 rfl) (.pointer none); generalize hwA : w9.setCell ⟨cb, _, none⟩ (.pointer none) = wA; have hwA' : w9.setCell ⟨cb, 7, none⟩ (.pointer none) = wA := hwA; rw [hwA'] at v10 n10 k10; clear hwA hwA' v9 n9 k9; refine K.kgo ?_; refine WL.store (v := nos) rfl rfl rfl rfl rfl rfl (by kernel_rfl) (VBlk.cell v10 8 (by simp [clC])) (VBlk.free v10 8) ?_; have v11 : VBlk clT (wA.setCell ⟨cb, 8, none⟩ nos) cb (clC { c with now := none, frame := nos, out := .slice (some ⟨gR, 0, none⟩) 1 cR }) := VBlk.set v10 8 _; have n11 := n10.setCell (p := ⟨cb, 8, none⟩) (fun hx => hx rfl) nos; have k11 := k10.setCell (p := ⟨cb, 8, none⟩) (fun hx => hx.2 rfl) nos; refine K.kgo ?_; exact WQ.end0 rfl ⟨rfl, gR, cR, v11, (OwnV.keep hown n11 (fun x hx => by cases hx; show gR ≠ cb; omega)).mono (fun x hx => by rcases hx with hx | hx; exact hx.elim; omega), k11⟩
theorem stops_bad {c : Cli} {j : Jb} {e : Int} (h : VBlk clT w cb (clC c)) (hj : VBlk jbT w jb (jbC j)) (hn : c.now = some ⟨jb, 0, none⟩) (hr : c.root.length = 32) (ho : c.out = nos) (he : e ≠ 0 ∧ e ≠ 19) :
    Calls Tryz.prog 90 #[.pointer (some ⟨cb, 0, none⟩), .int .i64 e] w fun r w' => r = .returned nos ∧ Ended w cb c j.num e w' := by
  refine enter (args := [.pointer (some ⟨cb, 0, none⟩), .int .i64 e]) Tryz.func90 rfl Tryz.ntmps90 rfl ?_; refine K.kgo ?_; refine WL.call rfl rfl rfl rfl rfl Tryz.func35 rfl (by kernel_rfl) (ends_bad h hj hn hr ho he) ?_; rintro _ w1 ⟨rfl, h1⟩; refine ⟨_, rfl, ?_⟩; refine K.kgo ?_; exact WQ.ret1 rfl rfl ⟨rfl, h1⟩
def Overed (w : World) (cb jb : Nat) (c : Cli) (j : Jb) (e : Int) : Ending → World → Prop := fun r w' =>
  if j.tries < c.tries then Asked w cb jb c { j with tries := j.tries + 1 } (meth stF cb) (Frm.frameL (rqB (rqK 3 (c.seq + 1) [c.ses] noT z32))) r w' else r = .returned nos ∧ Ended w cb c j.num e w'
theorem Overed.pos {w w' : World} {c : Cli} {j : Jb} {e : Int} {r : Ending} (h : j.tries < c.tries) (a : Asked w cb jb c { j with tries := j.tries + 1 } (meth stF cb) (Frm.frameL (rqB (rqK 3 (c.seq + 1) [c.ses] noT z32))) r w') : Overed w cb jb c j e r w' := by
  unfold Overed; rw [if_pos h]; exact a
theorem Overed.neg {w w' : World} {c : Cli} {j : Jb} {e : Int} {r : Ending} (h : ¬ j.tries < c.tries) (a : r = .returned nos ∧ Ended w cb c j.num e w') : Overed w cb jb c j e r w' := by
  unfold Overed; rw [if_neg h]; exact a
set_option maxHeartbeats 4000000 in
theorem over_any {c : Cli} {j : Jb} {e : Int} (h : VBlk clT w cb (clC c)) (hj : VBlk jbT w jb (jbC j)) (hn : c.now = some ⟨jb, 0, none⟩) (hne : cb ≠ jb) (hr : c.root.length = 32) (ho : c.out = nos) (he : e ≠ 0 ∧ e ≠ 19 ∧ e ≠ 7) (hh : c.has = true) (hs : c.seq ≤ 9007199254740990) (hd : j.dig.length = 32) (hd2 : j.nroot.length = 32) (h64 : R64c c.ses) (ht : 0 ≤ j.tries ∧ j.tries ≤ 1000) :
    Calls Tryz.prog 150 #[.pointer (some ⟨cb, 0, none⟩), .int .i64 e] w (Overed w cb jb c j e) := by
  refine enter (args := [.pointer (some ⟨cb, 0, none⟩), .int .i64 e]) Tryz.func150 rfl Tryz.ntmps150 rfl ?_; have lcb := VBlk.lt h; have ljb := VBlk.lt hj; have he3 := he.2.2; have c7 : ∀ wx, VBlk clT wx cb (clC c) → wx.cell? ⟨cb, 7, none⟩ = some (.pointer (some ⟨jb, 0, none⟩)) := fun wx hx => by have := hx.cell 7 (by simp [clC]); rw [this, ← hn]; rfl
  refine K.kgo ?_; refine WC.drawn 11 (fun wx => VBlk clT wx cb (clC c) ∧ VBlk jbT wx jb (jbC j) ∧ Below w.heap.size w wx) fun w1 hdr => ?_; have hS : VBlk clT w1 cb (clC c) ∧ VBlk jbT w1 jb (jbC j) ∧ Below w.heap.size w w1 := ⟨VBlk.below h (hdr.below _) lcb, VBlk.below hj (hdr.below _) ljb, hdr.below _⟩; clear hdr; refine K.fr [0, 1, 2] hS ?_; refine K.wl 3 [4, 5, 6, 11] rfl rfl rfl rfl rfl rfl rfl (v := .pointer (some ⟨jb, 0, none⟩)) (fun wx hx => c7 wx hx.1) hS ?_; refine K.fr [4, 5] hS ?_; refine K.wl 6 [11] rfl rfl rfl rfl rfl rfl rfl (v := .int .i64 j.tries) (fun wx hx => hx.2.1.cell 2 (by simp [jbC])) hS ?_; refine K.fr [7, 8, 9] hS ?_; refine K.wl 10 [11] rfl rfl rfl rfl rfl rfl rfl (v := .int .i64 c.tries) (fun wx hx => hx.1.cell 1 (by simp [clC])) hS ?_; refine K.wo 11 ?_
  by_cases ht2 : j.tries < c.tries
  · have ht3 : ¬ c.tries ≤ j.tries := by omega
    (refine WL.pure rfl rfl rfl rfl ?_; try (first | ((with_reducible refine WL.topT ?_ ?_); omega) | ((with_reducible refine WL.topF ?_ ?_); omega) | ((with_reducible refine WL.top64 ?_ ?_); omega)))
    refine K.dl ?_; refine WD.done (by kernel_rfl) ?_; obtain ⟨v1, j1, b1⟩ := hS; have s7 := c7 _ v1; have s2 : w1.cell? ⟨jb, 2, none⟩ = some (.int .i64 j.tries) := j1.cell 2 (by simp [jbC]); refine K.kgl ?_; refine WL.store (v := .int .i64 (j.tries + 1)) rfl rfl rfl rfl rfl rfl (by kernel_rfl) s2 (VBlk.free j1 2) ?_; have j2 : VBlk jbT (w1.setCell ⟨jb, 2, none⟩ (.int .i64 (j.tries + 1))) jb (jbC { j with tries := j.tries + 1 }) := VBlk.set j1 2 _; have v2 := VBlk.other v1 ⟨jb, 2, none⟩ (.int .i64 (j.tries + 1)) hne; have k2 : Keep (fun x => x < w.heap.size ∧ x ≠ cb ∧ x ≠ jb) w (w1.setCell ⟨jb, 2, none⟩ (.int .i64 (j.tries + 1))) := ((Keep.of_below b1).mono fun x hx => hx.1).setCell (fun hx => hx.2.2 rfl) _; generalize hw2 : w1.setCell ⟨jb, _, none⟩ (.int .i64 (j.tries + 1)) = w2; have hw2' : w1.setCell ⟨jb, 2, none⟩ (.int .i64 (j.tries + 1)) = w2 := hw2; rw [hw2'] at j2 v2 k2; clear hw2 hw2' s7 s2 v1 j1; refine K.kgo ?_; refine WL.call rfl rfl rfl rfl rfl Tryz.func34 rfl (by kernel_rfl) (begins_has v2 j2 hn hne hh hs hd hd2 h64) ?_; rintro _ w3 ⟨v, fb, rfl, q1, q2, q3, q4, ⟨g, fm, m1, m2, m3, m4, m5⟩, q6⟩; refine ⟨_, rfl, ?_⟩; have z2 := k2.size; refine K.kgo ?_; exact WQ.ret1 rfl rfl (Overed.pos ht2 ⟨v, fb, rfl, q1, q2, q3, fun x hx => Nat.le_trans z2 (q4 x hx), ⟨g, fm, m1, Nat.le_trans z2 m2, m3, m4, fun x hx => Nat.le_trans z2 (m5 x hx)⟩, k2.trans (q6.mono fun x hx => ⟨Nat.lt_of_lt_of_le hx.1 z2, hx.2⟩)⟩)
  · have ht3 : c.tries ≤ j.tries := by omega
    (refine WL.pure rfl rfl rfl rfl ?_; try (first | ((with_reducible refine WL.topT ?_ ?_); omega) | ((with_reducible refine WL.topF ?_ ?_); omega) | ((with_reducible refine WL.top64 ?_ ?_); omega)))
    refine K.dl ?_; refine WD.done (by kernel_rfl) ?_; obtain ⟨v1, j1, b1⟩ := hS; refine K.kgo ?_; refine WL.call rfl rfl rfl rfl rfl Tryz.func90 rfl (by kernel_rfl) (stops_bad v1 j1 hn hr ho ⟨he.1, he.2.1⟩) ?_; rintro _ w3 ⟨rfl, gR, cR, q1, q2, q3⟩; refine ⟨_, rfl, ?_⟩; have z1 := b1.size; refine K.kgo ?_; exact WQ.ret1 rfl rfl (Overed.neg ht2 ⟨rfl, gR, cR, q1, q2.mono fun x hx => Nat.le_trans z1 hx, ((Keep.of_below b1).mono fun x hx => hx.1).trans (q3.mono fun x hx => ⟨Nat.lt_of_lt_of_le hx.1 z1, hx.2⟩)⟩)
theorem nums1 {nv : Value} {s : Int} (h : Sl .i64 w nv [s]) : ∃ b o cp, nv = .slice (some ⟨b, o, none⟩) 1 cp ∧ b < w.heap.size ∧ w.cell? ⟨b, o, none⟩ = some (.int .i64 s) := by
  obtain ⟨sp, cp, rfl, h1, h2, h3, h4⟩ := h; obtain ⟨b, o, rfl, hb, hr⟩ := h3 (by simp); exact ⟨b, o, cp, rfl, hb, hr 0 (by simp)⟩
set_option maxHeartbeats 4000000 in
theorem opened_ok {c : Cli} {j : Jb} {k s : Int} {nv pv dv : Value} (h : VBlk clT w cb (clC c)) (hj : VBlk jbT w jb (jbC j)) (hn : c.now = some ⟨jb, 0, none⟩) (hne : cb ≠ jb) (hs : c.seq ≤ 9007199254740990) (hd : j.dig.length = 32) (hd2 : j.nroot.length = 32) (h64 : R64c s) (hnv : Sl .i64 w nv [s]) :
    Calls Tryz.prog 60 #[.pointer (some ⟨cb, 0, none⟩), .agg (rpC ⟨k, 0, [s], [], []⟩ nv pv dv).toArray] w (Asked w cb jb { c with ses := s, has := true } j (meth stF cb) (Frm.frameL (rqB (rqK 3 (c.seq + 1) [s] noT z32)))) := by
  obtain ⟨b, o, cp, rfl, hb, hcell⟩ := nums1 hnv; refine enter (args := [.pointer (some ⟨cb, 0, none⟩), .agg (rpC ⟨k, 0, [s], [], []⟩ (.slice (some ⟨b, o, none⟩) 1 cp) pv dv).toArray]) Tryz.func60 rfl Tryz.ntmps60 rfl ?_; refine K.kgn ?_; refine WL.box rfl rfl rfl rfl rfl fun g w1 f1 => ?_; have r1 : VBlk rpT w1 g (rpC ⟨k, 0, [s], [], []⟩ (.slice (some ⟨b, o, none⟩) 1 cp) pv dv) := f1.blk; have v1 := VBlk.below h f1.below (VBlk.lt h); have j1 := VBlk.below hj f1.below (VBlk.lt hj); have b1 := f1.below; have s1 : w1.cell? ⟨g, 1, none⟩ = some (.int .i64 0) := r1.cell 1 (by simp [rpC]); have s2 : w1.cell? ⟨g, 2, none⟩ = some (.slice (some ⟨b, o, none⟩) 1 cp) := r1.cell 2 (by simp [rpC]); have s3 : w1.cell? ⟨b, o, none⟩ = some (.int .i64 s) := (b1.cell (p := ⟨b, o, none⟩) hb).trans hcell; clear f1; refine K.kgl ?_; refine WL.idx 0 o rfl rfl rfl rfl rfl rfl rfl rfl (by omega) (by simp) ?_; refine K.kgl ?_; refine WL.store (v := .int .i64 s) rfl rfl rfl rfl rfl rfl (by kernel_rfl) (VBlk.cell v1 3 (by simp [clC])) (VBlk.free v1 3) ?_; have v2 : VBlk clT (w1.setCell ⟨cb, 3, none⟩ (.int .i64 s)) cb (clC { c with ses := s }) := VBlk.set v1 3 _; have j2 := VBlk.other j1 ⟨cb, 3, none⟩ (.int .i64 s) (fun e => hne e.symm); have k2 : Keep (fun x => x < w.heap.size ∧ x ≠ cb ∧ x ≠ jb) w (w1.setCell ⟨cb, 3, none⟩ (.int .i64 s)) := ((Keep.of_below b1).mono fun x hx => hx.1).setCell (fun hx => hx.2.1 rfl) _; generalize hw2 : w1.setCell ⟨cb, _, none⟩ (.int .i64 s) = w2; have hw2' : w1.setCell ⟨cb, 3, none⟩ (.int .i64 s) = w2 := hw2; rw [hw2'] at j2 v2 k2; clear hw2 hw2' s1 s2 s3 v1 j1 r1; refine K.kgo ?_; refine WL.store (v := .bool true) rfl rfl rfl rfl rfl rfl (by kernel_rfl) (VBlk.cell v2 4 (by simp [clC])) (VBlk.free v2 4) ?_; have v3 : VBlk clT (w2.setCell ⟨cb, 4, none⟩ (.bool true)) cb (clC { c with ses := s, has := true }) := VBlk.set v2 4 _; have j3 := VBlk.other j2 ⟨cb, 4, none⟩ (.bool true) (fun e => hne e.symm); have k3 := k2.setCell (p := ⟨cb, 4, none⟩) (fun hx => hx.2.1 rfl) (.bool true); generalize hw3 : w2.setCell ⟨cb, _, none⟩ (.bool true) = w3; have hw3' : w2.setCell ⟨cb, 4, none⟩ (.bool true) = w3 := hw3; rw [hw3'] at j3 v3 k3; clear hw3 hw3' v2 j2 k2; refine K.kgo ?_; refine WL.call rfl rfl rfl rfl rfl Tryz.func34 rfl (by kernel_rfl) (begins_has v3 j3 hn hne rfl hs hd hd2 h64) ?_; rintro _ w4 ⟨v, fb, rfl, q1, q2, q3, q4, ⟨g, fm, m1, m2, m3, m4, m5⟩, q6⟩; refine ⟨_, rfl, ?_⟩; have z3 := k3.size; refine K.kgo ?_; exact WQ.ret1 rfl rfl ⟨v, fb, rfl, q1, q2, q3, fun x hx => Nat.le_trans z3 (q4 x hx), ⟨g, fm, m1, Nat.le_trans z3 m2, m3, m4, fun x hx => Nat.le_trans z3 (m5 x hx)⟩, k3.trans (q6.mono fun x hx => ⟨Nat.lt_of_lt_of_le hx.1 z3, hx.2⟩)⟩
end Cl
end Go.Proofs.YtpfkcfaifleliaaGreat

namespace Go.Proofs.YtpfkcfaifleliaaGreat
open Go.RowKit
namespace Dig

def rotr (x n : Int) : Int := bits .or .u32 (x / 2 ^ n.toNat) (x * 2 ^ (32 - n).toNat % 4294967296)
def word (a b c d : Int) : Int :=
  bits .or .u32 (bits .or .u32 (bits .or .u32 (a % 4294967296 * 16777216 % 4294967296) (b % 4294967296 * 65536 % 4294967296)) (c % 4294967296 * 256 % 4294967296)) (d % 4294967296)

set_option maxHeartbeats 400000 in
theorem turn_any (x n : Int) (w : World) (hn : 0 ≤ n) (hn2 : n ≤ 32) :
    Calls Tryz.prog 179 #[.int .u32 x, .int .u64 n] w fun e w' => e = .returned (.int .u32 (rotr x n)) ∧ w = w' := by
  go_enter Tryz.func179, Tryz.ntmps179
  go_wp2
  go_ret
  exact ⟨rfl, rfl⟩

set_option maxHeartbeats 400000 in
theorem word_any (b o len cap : Nat) (x0 x1 x2 x3 : Int) (w : World) (hl : 4 ≤ len)
   (h0 : w.cell? ⟨b, o, none⟩ = some (.int .u8 x0)) (h1 : w.cell? ⟨b, o + 1, none⟩ = some (.int .u8 x1))
   (h2 : w.cell? ⟨b, o + 2, none⟩ = some (.int .u8 x2)) (h3 : w.cell? ⟨b, o + 3, none⟩ = some (.int .u8 x3)) :
    Calls Tryz.prog 178 #[.slice (some ⟨b, o, none⟩) len cap] w fun e w' => e = .returned (.int .u32 (word x0 x1 x2 x3)) ∧ Drawn w w' := by
  have a0 : (0 : Int) < len := by omega
  have a1 : (1 : Int) < len := by omega
  have a2 : (2 : Int) < len := by omega
  have a3 : (3 : Int) < len := by omega
  go_enter Tryz.func178, Tryz.ntmps178
  go_wp2
  go_quiet (fail)
  go_wp2
  go_ret
  exact ⟨rfl, Drawn.mk _ _⟩

end Dig
end Go.Proofs.YtpfkcfaifleliaaGreat
