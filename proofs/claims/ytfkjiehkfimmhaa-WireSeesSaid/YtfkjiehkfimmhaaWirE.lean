/- Requests without numbers and values as frames (chapter 25): the program's Encode. -/
import Derived.Test.YtfkjiehkfimmhaaWirG
namespace Go.Proofs.Ytfkjiehkfimmhaa
open Go.RowKit
namespace K
theorem rep_get {α : Type} (n : Nat) (x : α) (j : Nat) (h : j < n) : (List.replicate n x)[j]? = some x := by simp [h]
theorem nth_rep (n : Nat) (j : Nat) (h : j < n) : nth (List.replicate n 0) j = 0 := by simp [nth, h]
theorem uvF_bytw : ∀ (f u : Nat), Frm.Byt (uvF f u)
  | 0, _ => fun c h => by cases h
  | f + 1, u => by
    unfold uvF
    split
    · intro c hc; simp at hc; omega
    · intro c hc
      rcases List.mem_cons.1 hc with rfl | h
      · omega
      · exact uvF_bytw f (u / 128) c h
theorem uvB_bytw (u : Nat) : Frm.Byt (uvB u) := uvF_bytw 10 u
theorem uvB_lenw (u : Nat) : (uvB u).length ≤ 10 := uvF_len 10 u
theorem bytesI_byt (s : ByteArray) : Frm.Byt (bytesI s) := fun c hc => by
  unfold bytesI at hc
  obtain ⟨x, -, rfl⟩ := List.mem_map.1 hc
  have := x.toNat_lt
  omega
/-- A call that makes an own row of bytes longer. -/
def Adds (w : World) (b : Value) (l : List Int) : Ending → World → Prop := fun e w' => ∃ b', e = .returned b' ∧ Bu w' b' l ∧ Grow w b w' b'
theorem wcount_any {w : World} {b : Value} {l : List Int} (hb : Bu w b l) (n : Nat) (hn : n ≤ 9007199254740992) (hl : l.length ≤ 100000000) : Calls Try.prog 9 #[b, .int .i64 (n : Int)] w (Adds w b (l ++ uvB n)) := by
  refine enter (args := [b, .int .i64 (n : Int)]) Try.func9 rfl Try.ntmps9 rfl ?_
  have hw64 : IntKind.u64.wrap (n : Int) = (n : Int) := wraps_u64 _ (by omega) (by omega)
  have hul := uvB_lenw n
  repeat (first | ((with_reducible refine WL.topT ?_ ?_); omega) | ((with_reducible refine WL.topF ?_ ?_); omega) | ((with_reducible refine WL.top64 ?_ ?_); omega) | refine WC.seq ?_ | refine WC.block ?_ | refine WC.region ?_ | refine WL.nil ?_ | refine WC.skip ?_ | refine WC.exit ?_ | refine WC.ret ?_ | refine WQ.then rfl ?_ | refine WQ.thenExit ?_ | refine WQ.thenRet ?_ | refine WQ.blk ?_ | refine WQ.blkRet ?_ | refine WQ.blkHere rfl ?_ | refine WQ.blkOther rfl ?_ | refine WL.pure rfl rfl rfl rfl ?_ | refine WL.on rfl rfl ?_ | refine WL.off rfl rfl rfl ?_ | refine WC.condTrue rfl ?_ | refine WC.condFalse rfl ?_)
  refine WL.as 7 (.int .u64 (n : Int)) rfl (congrArg (Value.int .u64) hw64) ?_
  refine WL.call rfl rfl rfl rfl rfl Try.func17 rfl (by kernel_rfl) (uvarint_any n (by omega) w) ?_
  rintro _ w1 ⟨u, rfl, h1, k1, o1⟩
  refine ⟨_, rfl, ?_⟩
  refine WL.app rfl rfl rfl rfl rfl (hb.below k1) rfl h1.sl (by omega) fun b2 w2 h2 g2 => ?_
  repeat (first | ((with_reducible refine WL.topT ?_ ?_); omega) | ((with_reducible refine WL.topF ?_ ?_); omega) | ((with_reducible refine WL.top64 ?_ ?_); omega) | refine WC.seq ?_ | refine WC.block ?_ | refine WC.region ?_ | refine WL.nil ?_ | refine WC.skip ?_ | refine WC.exit ?_ | refine WC.ret ?_ | refine WQ.then rfl ?_ | refine WQ.thenExit ?_ | refine WQ.thenRet ?_ | refine WQ.blk ?_ | refine WQ.blkRet ?_ | refine WQ.blkHere rfl ?_ | refine WQ.blkOther rfl ?_ | refine WL.pure rfl rfl rfl rfl ?_ | refine WL.on rfl rfl ?_ | refine WL.off rfl rfl rfl ?_ | refine WC.condTrue rfl ?_ | refine WC.condFalse rfl ?_)
  exact WQ.ret1 rfl rfl ⟨b2, rfl, h2, ((Grow.refl w b).below k1).trans g2⟩
theorem whead0_any (m k : Int) (n : Nat) (hn : n ≤ 9007199254740992) (w : World) : Calls Try.prog 7 #[.int .u8 m, .int .u8 k, .int .i64 (n : Int), .slice none 0 0] w (Makes w (m :: k :: (uvB n ++ uvB 0))) := by
  refine enter (args := [.int .u8 m, .int .u8 k, .int .i64 (n : Int), .slice none 0 0]) Try.func7 rfl Try.ntmps7 rfl ?_
  have hul := uvB_lenw n
  repeat (first | ((with_reducible refine WL.topT ?_ ?_); omega) | ((with_reducible refine WL.topF ?_ ?_); omega) | ((with_reducible refine WL.top64 ?_ ?_); omega) | refine WC.seq ?_ | refine WC.block ?_ | refine WC.region ?_ | refine WL.nil ?_ | refine WC.skip ?_ | refine WC.exit ?_ | refine WC.ret ?_ | refine WQ.then rfl ?_ | refine WQ.thenExit ?_ | refine WQ.thenRet ?_ | refine WQ.blk ?_ | refine WQ.blkRet ?_ | refine WQ.blkHere rfl ?_ | refine WQ.blkOther rfl ?_ | refine WL.pure rfl rfl rfl rfl ?_ | refine WL.on rfl rfl ?_ | refine WL.off rfl rfl rfl ?_ | refine WC.condTrue rfl ?_ | refine WC.condFalse rfl ?_)
  refine WL.lit rfl rfl rfl rfl rfl rfl rfl fun v w1 h1 h2 h3 => ?_
  repeat (first | ((with_reducible refine WL.topT ?_ ?_); omega) | ((with_reducible refine WL.topF ?_ ?_); omega) | ((with_reducible refine WL.top64 ?_ ?_); omega) | refine WC.seq ?_ | refine WC.block ?_ | refine WC.region ?_ | refine WL.nil ?_ | refine WC.skip ?_ | refine WC.exit ?_ | refine WC.ret ?_ | refine WQ.then rfl ?_ | refine WQ.thenExit ?_ | refine WQ.thenRet ?_ | refine WQ.blk ?_ | refine WQ.blkRet ?_ | refine WQ.blkHere rfl ?_ | refine WQ.blkOther rfl ?_ | refine WL.pure rfl rfl rfl rfl ?_ | refine WL.on rfl rfl ?_ | refine WL.off rfl rfl rfl ?_ | refine WC.condTrue rfl ?_ | refine WC.condFalse rfl ?_)
  refine WL.call rfl rfl rfl rfl rfl Try.func9 rfl (by kernel_rfl) (wcount_any h1 n hn (by simp)) ?_
  rintro _ w2 ⟨b2, rfl, q2, g2⟩
  refine ⟨_, rfl, ?_⟩
  have e2 : [m, k] ++ uvB n = m :: k :: uvB n := rfl
  repeat (first | ((with_reducible refine WL.topT ?_ ?_); omega) | ((with_reducible refine WL.topF ?_ ?_); omega) | ((with_reducible refine WL.top64 ?_ ?_); omega) | refine WC.seq ?_ | refine WC.block ?_ | refine WC.region ?_ | refine WL.nil ?_ | refine WC.skip ?_ | refine WC.exit ?_ | refine WC.ret ?_ | refine WQ.then rfl ?_ | refine WQ.thenExit ?_ | refine WQ.thenRet ?_ | refine WQ.blk ?_ | refine WQ.blkRet ?_ | refine WQ.blkHere rfl ?_ | refine WQ.blkOther rfl ?_ | refine WL.pure rfl rfl rfl rfl ?_ | refine WL.on rfl rfl ?_ | refine WL.off rfl rfl rfl ?_ | refine WC.condTrue rfl ?_ | refine WC.condFalse rfl ?_)
  refine WL.call rfl rfl rfl rfl rfl Try.func9 rfl (by kernel_rfl) (wcount_any q2 0 (by omega) (by rw [e2]; simp only [List.length_cons]; omega)) ?_
  rintro _ w3 ⟨b3, rfl, q3, g3⟩
  refine ⟨_, rfl, ?_⟩
  have g := g2.trans g3
  repeat (first | ((with_reducible refine WL.topT ?_ ?_); omega) | ((with_reducible refine WL.topF ?_ ?_); omega) | ((with_reducible refine WL.top64 ?_ ?_); omega) | refine WC.seq ?_ | refine WC.block ?_ | refine WC.region ?_ | refine WL.nil ?_ | refine WC.skip ?_ | refine WC.exit ?_ | refine WC.ret ?_ | refine WQ.then rfl ?_ | refine WQ.thenExit ?_ | refine WQ.thenRet ?_ | refine WQ.blk ?_ | refine WQ.blkRet ?_ | refine WQ.blkHere rfl ?_ | refine WQ.blkOther rfl ?_ | refine WL.pure rfl rfl rfl rfl ?_ | refine WL.on rfl rfl ?_ | refine WL.off rfl rfl rfl ?_ | refine WC.condTrue rfl ?_ | refine WC.condFalse rfl ?_)
  refine WC.loop (fun _ : Unit => [(9, b3), (21, .int .i64 0), (22, .int .i64 0)]) (fun _ w' => w' = w3) (fun _ => 0) () ⟨rfl, rfl, rfl, trivial⟩ rfl ?_
  rintro _ _ rfl
  repeat (first | ((with_reducible refine WL.topT ?_ ?_); omega) | ((with_reducible refine WL.topF ?_ ?_); omega) | ((with_reducible refine WL.top64 ?_ ?_); omega) | refine WC.seq ?_ | refine WC.block ?_ | refine WC.region ?_ | refine WL.nil ?_ | refine WC.skip ?_ | refine WC.exit ?_ | refine WC.ret ?_ | refine WQ.then rfl ?_ | refine WQ.thenExit ?_ | refine WQ.thenRet ?_ | refine WQ.blk ?_ | refine WQ.blkRet ?_ | refine WQ.blkHere rfl ?_ | refine WQ.blkOther rfl ?_ | refine WL.pure rfl rfl rfl rfl ?_ | refine WL.on rfl rfl ?_ | refine WL.off rfl rfl rfl ?_ | refine WC.condTrue rfl ?_ | refine WC.condFalse rfl ?_)
  refine WQ.ret1 rfl rfl ⟨b3, rfl, q3, h2.trans (g.old h2.size h3), fun x hx => g.own h2.size h3 x hx⟩
theorem wvalues0_any {w : World} {b : Value} {l : List Int} (hb : Bu w b l) (hl : l.length ≤ 100000000) : Calls Try.prog 8 #[b, .slice none 0 0] w
    fun e w' => ∃ b', e = .returned (.tuple #[b', .int .i64 0]) ∧ Bu w' b' (l ++ uvB 0) ∧ Grow w b w' b' := by
  refine enter (args := [b, .slice none 0 0]) Try.func8 rfl Try.ntmps8 rfl ?_
  repeat (first | ((with_reducible refine WL.topT ?_ ?_); omega) | ((with_reducible refine WL.topF ?_ ?_); omega) | ((with_reducible refine WL.top64 ?_ ?_); omega) | refine WC.seq ?_ | refine WC.block ?_ | refine WC.region ?_ | refine WL.nil ?_ | refine WC.skip ?_ | refine WC.exit ?_ | refine WC.ret ?_ | refine WQ.then rfl ?_ | refine WQ.thenExit ?_ | refine WQ.thenRet ?_ | refine WQ.blk ?_ | refine WQ.blkRet ?_ | refine WQ.blkHere rfl ?_ | refine WQ.blkOther rfl ?_ | refine WL.pure rfl rfl rfl rfl ?_ | refine WL.on rfl rfl ?_ | refine WL.off rfl rfl rfl ?_ | refine WC.condTrue rfl ?_ | refine WC.condFalse rfl ?_)
  refine WL.call rfl rfl rfl rfl rfl Try.func9 rfl (by kernel_rfl) (wcount_any hb 0 (by omega) hl) ?_
  rintro _ w3 ⟨b3, rfl, q3, g3⟩
  refine ⟨_, rfl, ?_⟩
  repeat (first | ((with_reducible refine WL.topT ?_ ?_); omega) | ((with_reducible refine WL.topF ?_ ?_); omega) | ((with_reducible refine WL.top64 ?_ ?_); omega) | refine WC.seq ?_ | refine WC.block ?_ | refine WC.region ?_ | refine WL.nil ?_ | refine WC.skip ?_ | refine WC.exit ?_ | refine WC.ret ?_ | refine WQ.then rfl ?_ | refine WQ.thenExit ?_ | refine WQ.thenRet ?_ | refine WQ.blk ?_ | refine WQ.blkRet ?_ | refine WQ.blkHere rfl ?_ | refine WQ.blkOther rfl ?_ | refine WL.pure rfl rfl rfl rfl ?_ | refine WL.on rfl rfl ?_ | refine WL.off rfl rfl rfl ?_ | refine WC.condTrue rfl ?_ | refine WC.condFalse rfl ?_)
  refine WC.loop (fun _ : Unit => [(0, b3), (15, .int .i64 0), (16, .int .i64 0)]) (fun _ w' => w' = w3) (fun _ => 0) () ⟨rfl, rfl, rfl, trivial⟩ rfl ?_
  rintro _ _ rfl
  repeat (first | ((with_reducible refine WL.topT ?_ ?_); omega) | ((with_reducible refine WL.topF ?_ ?_); omega) | ((with_reducible refine WL.top64 ?_ ?_); omega) | refine WC.seq ?_ | refine WC.block ?_ | refine WC.region ?_ | refine WL.nil ?_ | refine WC.skip ?_ | refine WC.exit ?_ | refine WC.ret ?_ | refine WQ.then rfl ?_ | refine WQ.thenExit ?_ | refine WQ.thenRet ?_ | refine WQ.blk ?_ | refine WQ.blkRet ?_ | refine WQ.blkHere rfl ?_ | refine WQ.blkOther rfl ?_ | refine WL.pure rfl rfl rfl rfl ?_ | refine WL.on rfl rfl ?_ | refine WL.off rfl rfl rfl ?_ | refine WC.condTrue rfl ?_ | refine WC.condFalse rfl ?_)
  exact WQ.ret2 rfl rfl rfl ⟨b3, rfl, q3, g3⟩
/-- The cells of a request without numbers, values and hash. -/
def reqC (kind seq : Int) (text : ByteArray) : List Value := .int .i64 kind :: .int .i64 seq :: .slice none 0 0 :: .string text :: .slice none 0 0 :: List.replicate 32 (.int .u8 0)
/-- What such a request's frame holds. -/
def reqL (kind seq : Int) (text : ByteArray) : List Int := 81 :: kind :: (uvB seq.toNat ++ (uvB 0 ++ (uvB text.size ++ (bytesI text ++ (uvB 0 ++ List.replicate 32 0)))))
theorem reqL_len (kind seq : Int) (text : ByteArray) (h : text.size ≤ 4096) : (reqL kind seq text).length ≤ 5000 := by
  have h1 := uvB_lenw seq.toNat
  have h2 := uvB_lenw 0
  have h3 := uvB_lenw text.size
  have h4 := bytesI_len text
  unfold reqL
  simp only [List.length_cons, List.length_append, List.length_replicate]
  omega
theorem reqL_byt {kind : Int} (hk : 0 ≤ kind ∧ kind ≤ 255) (seq : Int) (text : ByteArray) : Frm.Byt (reqL kind seq text) := by
  unfold reqL
  intro c hc
  simp only [List.mem_cons, List.mem_append] at hc
  rcases hc with rfl | rfl | h | h | h | h | h | h
  · omega
  · exact hk
  · exact uvB_bytw _ c h
  · exact uvB_bytw _ c h
  · exact uvB_bytw _ c h
  · exact bytesI_byt _ c h
  · exact uvB_bytw _ c h
  · have := List.eq_of_mem_replicate h; omega
/-- The error of Encode of such a request. -/
def reqE (kind seq : Int) (text : ByteArray) : Int := if kind < 1 ∨ 20 < kind ∨ seq < 0 ∨ 9007199254740992 < seq then 1 else if 4096 < text.size then 5 else 0
def ReqOut (w : World) (kind seq : Int) (text : ByteArray) : Ending → World → Prop := fun e w' => ∃ b, e = .returned (.tuple #[b, .int .i64 (reqE kind seq text)]) ∧ Below w.heap.size w w' ∧ (reqE kind seq text = 0 → Bu w' b (Frm.frameL (reqL kind seq text)) ∧ ∀ g, b.ownBlock = some g → w.heap.size ≤ g)
theorem ReqOut.bad {w w' : World} {kind seq : Int} {text : ByteArray} {x : Int} {b : Value} (h : reqE kind seq text = x) (hx : x ≠ 0) (hB : Below w.heap.size w w') : ReqOut w kind seq text (.returned (.tuple #[b, .int .i64 x])) w' := ⟨b, by rw [h], hB, fun h0 => absurd (h.symm.trans h0) hx⟩
theorem wenc_any (kind seq : Int) (text : ByteArray) (w : World) : Calls Try.prog 4 #[.agg (reqC kind seq text).toArray] w (ReqOut w kind seq text) := by
  refine enter (args := [.agg (reqC kind seq text).toArray]) Try.func4 rfl Try.ntmps4 rfl ?_
  repeat (first | refine WC.seq ?_ | refine WC.block ?_ | refine WC.region ?_ | refine WL.nil ?_ | refine WC.skip ?_ | refine WC.exit ?_ | refine WC.ret ?_ | refine WQ.then rfl ?_ | refine WQ.thenExit ?_ | refine WQ.thenRet ?_ | refine WQ.blk ?_ | refine WQ.blkRet ?_ | refine WQ.blkHere rfl ?_ | refine WQ.blkOther rfl ?_)
  refine WL.box rfl rfl rfl rfl rfl fun g w1 hf0 => ?_
  have hf : Fresh w g w1 31 (reqC kind seq text) := hf0
  clear hf0
  have hB := hf.below
  have c0 : w1.cell? ⟨g, 0, none⟩ = some (.int .i64 kind) := hf.blk.cell 0 (by unfold reqC; simp)
  have c1 : w1.cell? ⟨g, 1, none⟩ = some (.int .i64 seq) := hf.blk.cell 1 (by unfold reqC; simp)
  have c2 : w1.cell? ⟨g, 2, none⟩ = some (.slice none 0 0) := hf.blk.cell 2 (by unfold reqC; simp)
  have c3 : w1.cell? ⟨g, 3, none⟩ = some (.string text) := hf.blk.cell 3 (by unfold reqC; simp)
  have c4 : w1.cell? ⟨g, 4, none⟩ = some (.slice none 0 0) := hf.blk.cell 4 (by unfold reqC; simp)
  have bad1 : (kind < 1 ∨ 20 < kind ∨ seq < 0 ∨ 9007199254740992 < seq) → reqE kind seq text = 1 := fun h => by unfold reqE; rw [if_pos h]
  by_cases h1 : kind < 1
  · repeat (first | ((with_reducible refine WL.topT ?_ ?_); omega) | ((with_reducible refine WL.topF ?_ ?_); omega) | ((with_reducible refine WL.top64 ?_ ?_); omega) | refine WC.seq ?_ | refine WC.block ?_ | refine WC.region ?_ | refine WL.nil ?_ | refine WC.skip ?_ | refine WC.exit ?_ | refine WC.ret ?_ | refine WQ.then rfl ?_ | refine WQ.thenExit ?_ | refine WQ.thenRet ?_ | refine WQ.blk ?_ | refine WQ.blkRet ?_ | refine WQ.blkHere rfl ?_ | refine WQ.blkOther rfl ?_ | refine WL.pure rfl rfl rfl rfl ?_ | refine WL.on rfl rfl ?_ | refine WL.off rfl rfl rfl ?_ | refine WL.load rfl rfl rfl rfl rfl rfl (by assumption) ?_ | refine WC.condTrue rfl ?_ | refine WC.condFalse rfl ?_)
    exact WQ.ret2 rfl rfl rfl (ReqOut.bad (bad1 (.inl h1)) (by decide) hB)
  by_cases h2 : 20 < kind
  · repeat (first | ((with_reducible refine WL.topT ?_ ?_); omega) | ((with_reducible refine WL.topF ?_ ?_); omega) | ((with_reducible refine WL.top64 ?_ ?_); omega) | refine WC.seq ?_ | refine WC.block ?_ | refine WC.region ?_ | refine WL.nil ?_ | refine WC.skip ?_ | refine WC.exit ?_ | refine WC.ret ?_ | refine WQ.then rfl ?_ | refine WQ.thenExit ?_ | refine WQ.thenRet ?_ | refine WQ.blk ?_ | refine WQ.blkRet ?_ | refine WQ.blkHere rfl ?_ | refine WQ.blkOther rfl ?_ | refine WL.pure rfl rfl rfl rfl ?_ | refine WL.on rfl rfl ?_ | refine WL.off rfl rfl rfl ?_ | refine WL.load rfl rfl rfl rfl rfl rfl (by assumption) ?_ | refine WC.condTrue rfl ?_ | refine WC.condFalse rfl ?_)
    exact WQ.ret2 rfl rfl rfl (ReqOut.bad (bad1 (.inr (.inl h2))) (by decide) hB)
  by_cases h3 : seq < 0
  · repeat (first | ((with_reducible refine WL.topT ?_ ?_); omega) | ((with_reducible refine WL.topF ?_ ?_); omega) | ((with_reducible refine WL.top64 ?_ ?_); omega) | refine WC.seq ?_ | refine WC.block ?_ | refine WC.region ?_ | refine WL.nil ?_ | refine WC.skip ?_ | refine WC.exit ?_ | refine WC.ret ?_ | refine WQ.then rfl ?_ | refine WQ.thenExit ?_ | refine WQ.thenRet ?_ | refine WQ.blk ?_ | refine WQ.blkRet ?_ | refine WQ.blkHere rfl ?_ | refine WQ.blkOther rfl ?_ | refine WL.pure rfl rfl rfl rfl ?_ | refine WL.on rfl rfl ?_ | refine WL.off rfl rfl rfl ?_ | refine WL.load rfl rfl rfl rfl rfl rfl (by assumption) ?_ | refine WC.condTrue rfl ?_ | refine WC.condFalse rfl ?_)
    exact WQ.ret2 rfl rfl rfl (ReqOut.bad (bad1 (.inr (.inr (.inl h3)))) (by decide) hB)
  by_cases h4 : 9007199254740992 < seq
  · repeat (first | ((with_reducible refine WL.topT ?_ ?_); omega) | ((with_reducible refine WL.topF ?_ ?_); omega) | ((with_reducible refine WL.top64 ?_ ?_); omega) | refine WC.seq ?_ | refine WC.block ?_ | refine WC.region ?_ | refine WL.nil ?_ | refine WC.skip ?_ | refine WC.exit ?_ | refine WC.ret ?_ | refine WQ.then rfl ?_ | refine WQ.thenExit ?_ | refine WQ.thenRet ?_ | refine WQ.blk ?_ | refine WQ.blkRet ?_ | refine WQ.blkHere rfl ?_ | refine WQ.blkOther rfl ?_ | refine WL.pure rfl rfl rfl rfl ?_ | refine WL.on rfl rfl ?_ | refine WL.off rfl rfl rfl ?_ | refine WL.load rfl rfl rfl rfl rfl rfl (by assumption) ?_ | refine WC.condTrue rfl ?_ | refine WC.condFalse rfl ?_)
    exact WQ.ret2 rfl rfl rfl (ReqOut.bad (bad1 (.inr (.inr (.inr h4)))) (by decide) hB)
  clear bad1
  have hno : ¬ (kind < 1 ∨ 20 < kind ∨ seq < 0 ∨ 9007199254740992 < seq) := by omega
  by_cases h5 : 4096 < text.size
  · have he : reqE kind seq text = 5 := by unfold reqE; rw [if_neg hno, if_pos h5]
    repeat (first | ((with_reducible refine WL.topT ?_ ?_); omega) | ((with_reducible refine WL.topF ?_ ?_); omega) | ((with_reducible refine WL.top64 ?_ ?_); omega) | refine WC.seq ?_ | refine WC.block ?_ | refine WC.region ?_ | refine WL.nil ?_ | refine WC.skip ?_ | refine WC.exit ?_ | refine WC.ret ?_ | refine WQ.then rfl ?_ | refine WQ.thenExit ?_ | refine WQ.thenRet ?_ | refine WQ.blk ?_ | refine WQ.blkRet ?_ | refine WQ.blkHere rfl ?_ | refine WQ.blkOther rfl ?_ | refine WL.pure rfl rfl rfl rfl ?_ | refine WL.on rfl rfl ?_ | refine WL.off rfl rfl rfl ?_ | refine WL.load rfl rfl rfl rfl rfl rfl (by assumption) ?_ | refine WC.condTrue rfl ?_ | refine WC.condFalse rfl ?_)
    exact WQ.ret2 rfl rfl rfl (ReqOut.bad he (by decide) hB)
  have he : reqE kind seq text = 0 := by unfold reqE; rw [if_neg hno, if_neg h5]
  repeat (first | ((with_reducible refine WL.topT ?_ ?_); omega) | ((with_reducible refine WL.topF ?_ ?_); omega) | ((with_reducible refine WL.top64 ?_ ?_); omega) | refine WC.seq ?_ | refine WC.block ?_ | refine WC.region ?_ | refine WL.nil ?_ | refine WC.skip ?_ | refine WC.exit ?_ | refine WC.ret ?_ | refine WQ.then rfl ?_ | refine WQ.thenExit ?_ | refine WQ.thenRet ?_ | refine WQ.blk ?_ | refine WQ.blkRet ?_ | refine WQ.blkHere rfl ?_ | refine WQ.blkOther rfl ?_ | refine WL.pure rfl rfl rfl rfl ?_ | refine WL.on rfl rfl ?_ | refine WL.off rfl rfl rfl ?_ | refine WL.load rfl rfl rfl rfl rfl rfl (by assumption) ?_ | refine WC.condTrue rfl ?_ | refine WC.condFalse rfl ?_)
  have hw8 : IntKind.u8.wrap kind = kind := by rw [IntKind.wrap_u8]; omega
  obtain ⟨sn, rfl⟩ : ∃ n : Nat, seq = (n : Int) := ⟨seq.toNat, by omega⟩
  refine WL.as 44 (.int .u8 kind) rfl (congrArg (Value.int .u8) hw8) ?_
  refine WL.call rfl rfl rfl rfl rfl Try.func7 rfl (by kernel_rfl) (whead0_any 81 kind sn (by omega) w1) ?_
  rintro _ w2 ⟨b2, rfl, q2, k2, o2⟩
  refine ⟨_, rfl, ?_⟩
  have hfe := hf.eq
  have hfs := hf.size
  have hw2 : Below w.heap.size w w2 := hB.trans (k2.mono hB.size)
  have T2 := hf.blk.below k2 hf.blk.lt
  have own2 : ∀ x, b2.ownBlock = some x → w.heap.size ≤ x ∧ x ≠ g := fun x hx => by have := o2 x hx; omega
  have hAp : ∀ {wx : World} {bx : Value}, Grow w2 b2 wx bx → VBlk 31 wx g (reqC kind sn text) := fun h => T2.keep h.1 ⟨T2.lt, fun e => (own2 _ e).2 rfl⟩
  have u1 := uvB_lenw sn
  have u2 := uvB_lenw 0
  have u3 := uvB_lenw text.size
  have hl2 : (81 :: kind :: (uvB sn ++ uvB 0)).length ≤ 22 := by simp only [List.length_cons, List.length_append]; omega
  clear c0 c1 c2 c3 c4 k2 hf
  repeat (first | ((with_reducible refine WL.topT ?_ ?_); omega) | ((with_reducible refine WL.topF ?_ ?_); omega) | ((with_reducible refine WL.top64 ?_ ?_); omega) | refine WC.seq ?_ | refine WC.block ?_ | refine WC.region ?_ | refine WL.nil ?_ | refine WC.skip ?_ | refine WC.exit ?_ | refine WC.ret ?_ | refine WQ.then rfl ?_ | refine WQ.thenExit ?_ | refine WQ.thenRet ?_ | refine WQ.blk ?_ | refine WQ.blkRet ?_ | refine WQ.blkHere rfl ?_ | refine WQ.blkOther rfl ?_ | refine WL.pure rfl rfl rfl rfl ?_ | refine WL.on rfl rfl ?_ | refine WL.off rfl rfl rfl ?_ | refine WC.condTrue rfl ?_ | refine WC.condFalse rfl ?_)
  refine WC.drawn 10 (fun wx => VBlk 31 wx g (reqC kind sn text)) fun w3 hd => ?_
  have kd : Below w2.heap.size w2 w3 := hd.below _
  have g3 : Grow w2 b2 w3 b2 := (Grow.refl w2 b2).below kd
  have q3 := q2.below kd
  have hS := hAp g3
  clear hd kd
  (((first | refine WD.free 0 rfl (by kernel_rfl) rfl rfl (fun _ _ _ _ _ h => h) rfl rfl (.inr hS) ?_ | refine WD.skip 0 rfl (by kernel_rfl) rfl rfl (fun _ _ _ _ _ h => h) rfl (.inr hS) ?_); try (first | ((with_reducible refine WD.topT ?_ ?_); omega) | ((with_reducible refine WD.topF ?_ ?_); omega) | ((with_reducible refine WD.top64 ?_ ?_); omega))); ((first | refine WD.free 1 rfl (by kernel_rfl) rfl rfl (fun _ _ _ _ _ h => h) rfl rfl (.inr hS) ?_ | refine WD.skip 1 rfl (by kernel_rfl) rfl rfl (fun _ _ _ _ _ h => h) rfl (.inr hS) ?_); try (first | ((with_reducible refine WD.topT ?_ ?_); omega) | ((with_reducible refine WD.topF ?_ ?_); omega) | ((with_reducible refine WD.top64 ?_ ?_); omega))); ((first | refine WD.free 5 rfl (by kernel_rfl) rfl rfl (fun _ _ _ _ _ h => h) rfl rfl (.inr hS) ?_ | refine WD.skip 5 rfl (by kernel_rfl) rfl rfl (fun _ _ _ _ _ h => h) rfl (.inr hS) ?_); try (first | ((with_reducible refine WD.topT ?_ ?_); omega) | ((with_reducible refine WD.topF ?_ ?_); omega) | ((with_reducible refine WD.top64 ?_ ?_); omega))); ((first | refine WD.free 8 rfl (by kernel_rfl) rfl rfl (fun _ _ _ _ _ h => h) rfl rfl (.inr hS) ?_ | refine WD.skip 8 rfl (by kernel_rfl) rfl rfl (fun _ _ _ _ _ h => h) rfl (.inr hS) ?_); try (first | ((with_reducible refine WD.topT ?_ ?_); omega) | ((with_reducible refine WD.topF ?_ ?_); omega) | ((with_reducible refine WD.top64 ?_ ?_); omega))))
  refine WD.load 2 [3, 4, 7, 10, 11, 12, 13, 14, 15] rfl (by kernel_rfl) rfl rfl (fun _ _ _ _ _ h => h) rfl rfl rfl rfl (fun wx hx => VBlk.cell hx 3 (by unfold reqC; simp)) hS ?_
  refine WD.load 6 [7, 10, 11, 12, 13, 14, 15] rfl (by kernel_rfl) rfl rfl (fun _ _ _ _ _ h => h) rfl rfl rfl rfl (fun wx hx => VBlk.cell hx 3 (by unfold reqC; simp)) hS ?_
  refine WD.load 9 [10, 11, 12, 13, 14, 15] rfl (by kernel_rfl) rfl rfl (fun _ _ _ _ _ h => h) rfl rfl rfl rfl (fun wx hx => VBlk.cell hx 4 (by unfold reqC; simp)) hS ?_
  (((first | refine WD.free 3 rfl (by kernel_rfl) rfl rfl (fun _ _ _ _ _ h => h) rfl rfl (.inr hS) ?_ | refine WD.skip 3 rfl (by kernel_rfl) rfl rfl (fun _ _ _ _ _ h => h) rfl (.inr hS) ?_); try (first | ((with_reducible refine WD.topT ?_ ?_); omega) | ((with_reducible refine WD.topF ?_ ?_); omega) | ((with_reducible refine WD.top64 ?_ ?_); omega))))
  refine WD.one 4 (by kernel_rfl) rfl ?_
  refine WL.call rfl rfl rfl rfl rfl Try.func9 rfl (by kernel_rfl) (wcount_any q3 text.size (by omega) (by omega)) ?_
  rintro _ w4 ⟨b4, rfl, q4, g4⟩
  refine ⟨_, rfl, ?_⟩
  replace hS := hAp (g3.trans g4)
  refine WL.nil (WQ.dk (.inr hS) ?_)
  refine WD.one 7 (by kernel_rfl) rfl ?_
  refine WL.appS rfl rfl rfl rfl rfl q4 rfl (by rw [List.length_append]; omega) fun b5 w5 q5 g5 => ?_
  replace hS := hAp ((g3.trans g4).trans g5)
  refine WL.nil (WQ.dk (.inr hS) ?_)
  refine WD.one 10 (by kernel_rfl) rfl ?_
  have ht := bytesI_len text
  refine WL.call rfl rfl rfl rfl rfl Try.func8 rfl (by kernel_rfl) (wvalues0_any q5 (by simp only [List.length_append] at *; omega)) ?_
  rintro _ w6 ⟨b6, rfl, q6, g6⟩
  refine ⟨_, rfl, ?_⟩
  have G6 := ((g3.trans g4).trans g5).trans g6
  have T6 := hAp G6
  refine WL.nil (WQ.dk (.inl rfl) ?_)
  (((first | refine WD.free 11 rfl (by kernel_rfl) rfl rfl (fun _ _ _ _ _ h => h) rfl rfl (.inl rfl) ?_ | refine WD.skip 11 rfl (by kernel_rfl) rfl rfl (fun _ _ _ _ _ h => h) rfl (.inl rfl) ?_); try (first | ((with_reducible refine WD.topT ?_ ?_); omega) | ((with_reducible refine WD.topF ?_ ?_); omega) | ((with_reducible refine WD.top64 ?_ ?_); omega))); ((first | refine WD.free 12 rfl (by kernel_rfl) rfl rfl (fun _ _ _ _ _ h => h) rfl rfl (.inl rfl) ?_ | refine WD.skip 12 rfl (by kernel_rfl) rfl rfl (fun _ _ _ _ _ h => h) rfl (.inl rfl) ?_); try (first | ((with_reducible refine WD.topT ?_ ?_); omega) | ((with_reducible refine WD.topF ?_ ?_); omega) | ((with_reducible refine WD.top64 ?_ ?_); omega))); ((first | refine WD.free 13 rfl (by kernel_rfl) rfl rfl (fun _ _ _ _ _ h => h) rfl rfl (.inl rfl) ?_ | refine WD.skip 13 rfl (by kernel_rfl) rfl rfl (fun _ _ _ _ _ h => h) rfl (.inl rfl) ?_); try (first | ((with_reducible refine WD.topT ?_ ?_); omega) | ((with_reducible refine WD.topF ?_ ?_); omega) | ((with_reducible refine WD.top64 ?_ ?_); omega))); ((first | refine WD.free 14 rfl (by kernel_rfl) rfl rfl (fun _ _ _ _ _ h => h) rfl rfl (.inl rfl) ?_ | refine WD.skip 14 rfl (by kernel_rfl) rfl rfl (fun _ _ _ _ _ h => h) rfl (.inl rfl) ?_); try (first | ((with_reducible refine WD.topT ?_ ?_); omega) | ((with_reducible refine WD.topF ?_ ?_); omega) | ((with_reducible refine WD.top64 ?_ ?_); omega))); ((first | refine WD.free 15 rfl (by kernel_rfl) rfl rfl (fun _ _ _ _ _ h => h) rfl rfl (.inl rfl) ?_ | refine WD.skip 15 rfl (by kernel_rfl) rfl rfl (fun _ _ _ _ _ h => h) rfl (.inl rfl) ?_); try (first | ((with_reducible refine WD.topT ?_ ?_); omega) | ((with_reducible refine WD.topF ?_ ?_); omega) | ((with_reducible refine WD.top64 ?_ ?_); omega))))
  refine WD.done (by kernel_rfl) ?_
  repeat (first | ((with_reducible refine WL.topT ?_ ?_); omega) | ((with_reducible refine WL.topF ?_ ?_); omega) | ((with_reducible refine WL.top64 ?_ ?_); omega) | refine WC.seq ?_ | refine WC.block ?_ | refine WC.region ?_ | refine WL.nil ?_ | refine WC.skip ?_ | refine WC.exit ?_ | refine WC.ret ?_ | refine WQ.then rfl ?_ | refine WQ.thenExit ?_ | refine WQ.thenRet ?_ | refine WQ.blk ?_ | refine WQ.blkRet ?_ | refine WQ.blkHere rfl ?_ | refine WQ.blkOther rfl ?_ | refine WL.pure rfl rfl rfl rfl ?_ | refine WL.on rfl rfl ?_ | refine WL.off rfl rfl rfl ?_ | refine WC.condTrue rfl ?_ | refine WC.condFalse rfl ?_)
  refine WL.all rfl rfl rfl rfl rfl rfl ?_
  have hz : Sl .u8 w6 (.slice (some ⟨g, 0 + 5, none⟩) 32 32) (List.replicate 32 0) := by
    have := Sl.mk (k := .u8) (w := w6) (b := g) (o := 0 + 5) (cap := 32) (l := List.replicate 32 0) (by simp) (by omega) T6.lt (fun j hj => by
      have hj' : j < 32 := by simpa using hj
      have h1 := (VBlk.rangeAt T6) (5 + j) (.int .u8 0) (by unfold reqC; rw [show 5 + j = (j + 1 + 1 + 1 + 1 + 1) by omega]; exact rep_get 32 _ j hj')
      rw [nth_rep 32 j hj']
      rw [show (0 + 5 + j) = 0 + (5 + j) by omega]
      exact h1)
    simpa using this
  have hall : 81 :: kind :: (uvB sn ++ uvB 0) ++ uvB text.size ++ bytesI text ++ uvB 0 ++ List.replicate 32 0 = reqL kind sn text := by unfold reqL; simp [List.append_assoc]
  have hlen := reqL_len kind sn text (by omega)
  have hlen6 : (81 :: kind :: (uvB sn ++ uvB 0) ++ uvB text.size ++ bytesI text ++ uvB 0).length + (List.replicate 32 (0 : Int)).length ≤ 5000 := by rw [← List.length_append, hall]; exact hlen
  refine WL.app rfl rfl rfl rfl rfl q6 rfl hz (by omega) fun b7 w7 q7 g7 => ?_
  rw [hall] at q7
  have G7 := G6.trans g7
  refine WL.call rfl rfl rfl rfl rfl Try.func10 rfl (by kernel_rfl) (fenc_any q7.sl (reqL_byt (by omega) _ _) (by omega)) ?_
  rintro _ w8 ⟨b8, rfl, q8, k8, o8⟩
  refine ⟨_, rfl, ?_⟩
  have hw7 : Below w.heap.size w w7 := hw2.trans (G7.old hw2.size fun x hx => (own2 x hx).1)
  rw [if_neg (by omega)] at q8
  repeat (first | ((with_reducible refine WL.topT ?_ ?_); omega) | ((with_reducible refine WL.topF ?_ ?_); omega) | ((with_reducible refine WL.top64 ?_ ?_); omega) | refine WC.seq ?_ | refine WC.block ?_ | refine WC.region ?_ | refine WL.nil ?_ | refine WC.skip ?_ | refine WC.exit ?_ | refine WC.ret ?_ | refine WQ.then rfl ?_ | refine WQ.thenExit ?_ | refine WQ.thenRet ?_ | refine WQ.blk ?_ | refine WQ.blkRet ?_ | refine WQ.blkHere rfl ?_ | refine WQ.blkOther rfl ?_ | refine WL.pure rfl rfl rfl rfl ?_ | refine WL.on rfl rfl ?_ | refine WL.off rfl rfl rfl ?_ | refine WC.condTrue rfl ?_ | refine WC.condFalse rfl ?_)
  refine WQ.ret2 rfl rfl rfl ⟨b8, ?_, hw7.trans (k8.mono hw7.size), fun _ => ⟨q8, fun x hx => Nat.le_trans hw7.size (o8 x hx)⟩⟩
  rw [he, if_neg (show ¬ 524288 < (reqL kind sn text).length by omega)]
  rfl
end K
end Go.Proofs.Ytfkjiehkfimmhaa
