/- Texts for LawWirDt, part 4 of 6. -/
import Derived.Test.YtdkkaliiofcflaaZLawWirDt3
import Derived.Laws.OwnMore
namespace Go.Proofs.Ytdkkaliiofcflaa
open Go.RowKit
namespace K
theorem rep_get {α : Type} (n : Nat) (x : α) (j : Nat) (h : j < n) : (List.replicate n x)[j]? = some x := by simp [h]
theorem nth_rep (n : Nat) (j : Nat) (h : j < n) : nth (List.replicate n 0) j = 0 := by simp [nth, h]
theorem uvF_bytw : ∀ (f u : Nat), Frm.Byt (uvF f u)
  | 0, _ => fun c h => by cases h
  | f + 1, u => by
    unfold uvF
    split
    · intro c hc; simp at hc; omega
    · intro c hc
      rcases List.mem_cons.1 hc with rfl | h
      · omega
      · exact uvF_bytw f (u / 128) c h
theorem uvB_bytw (u : Nat) : Frm.Byt (uvB u) := uvF_bytw 10 u
theorem uvB_lenw (u : Nat) : (uvB u).length ≤ 10 := uvF_len 10 u
theorem bytesI_byt (s : ByteArray) : Frm.Byt (bytesI s) := fun c hc => by
  unfold bytesI at hc; obtain ⟨x, -, rfl⟩ := List.mem_map.1 hc; have := x.toNat_lt; omega
def Adds (w : World) (b : Value) (l : List Int) : Ending → World → Prop := fun e w' => ∃ b', e = .returned b' ∧ Bu w' b' l ∧ Grow w b w' b'
theorem wcount_any {w : World} {b : Value} {l : List Int} (hb : Bu w b l) (n : Nat) (hn : n ≤ 9007199254740992) (hl : l.length ≤ 100000000) : Calls Try.prog 24 #[b, .int .i64 (n : Int)] w (Adds w b (l ++ uvB n)) := by
  refine enter (args := [b, .int .i64 (n : Int)]) Try.func24 rfl Try.ntmps24 rfl ?_; have hw64 : IntKind.u64.wrap (n : Int) = (n : Int) := wraps_u64 _ (by omega) (by omega); have hul := uvB_lenw n; refine K.kgo ?_; refine WL.as 7 (.int .u64 (n : Int)) rfl (congrArg (Value.int .u64) hw64) ?_; refine WL.call rfl rfl rfl rfl rfl Try.func43 rfl (by kernel_rfl) (uvarint_any n (by omega) w) ?_; rintro _ w1 ⟨u, rfl, h1, k1, o1⟩; refine ⟨_, rfl, ?_⟩; refine WL.app rfl rfl rfl rfl rfl (hb.below k1) rfl h1.sl (by omega) fun b2 w2 h2 g2 => ?_; refine K.kgo ?_; exact WQ.ret1 rfl rfl ⟨b2, rfl, h2, ((Grow.refl w b).below k1).trans g2⟩
theorem whead0_any (m k : Int) (n : Nat) (hn : n ≤ 9007199254740992) (w : World) : Calls Try.prog 22 #[.int .u8 m, .int .u8 k, .int .i64 (n : Int), .slice none 0 0] w (Makes w (m :: k :: (uvB n ++ uvB 0))) := by
  refine enter (args := [.int .u8 m, .int .u8 k, .int .i64 (n : Int), .slice none 0 0]) Try.func22 rfl Try.ntmps22 rfl ?_; have hul := uvB_lenw n; refine K.kgo ?_; refine WL.lit rfl rfl rfl rfl rfl rfl rfl fun v w1 h1 h2 h3 => ?_; refine K.kgo ?_; refine WL.call rfl rfl rfl rfl rfl Try.func24 rfl (by kernel_rfl) (wcount_any h1 n hn (by simp)) ?_; rintro _ w2 ⟨b2, rfl, q2, g2⟩; refine ⟨_, rfl, ?_⟩; have e2 : [m, k] ++ uvB n = m :: k :: uvB n := rfl; refine K.kgo ?_; refine WL.call rfl rfl rfl rfl rfl Try.func24 rfl (by kernel_rfl) (wcount_any q2 0 (by omega) (by rw [e2]; simp only [List.length_cons]; omega)) ?_; rintro _ w3 ⟨b3, rfl, q3, g3⟩; refine ⟨_, rfl, ?_⟩; have g := g2.trans g3; refine K.kgo ?_; refine WC.loop (fun _ : Unit => [(9, b3), (21, .int .i64 0), (22, .int .i64 0)]) (fun _ w' => w' = w3) (fun _ => 0) () ⟨rfl, rfl, rfl, trivial⟩ rfl ?_; rintro _ _ rfl; refine K.kgo ?_; refine WQ.ret1 rfl rfl ⟨b3, rfl, q3, h2.trans (g.old h2.size h3), fun x hx => g.own h2.size h3 x hx⟩
theorem wvalues0_any {w : World} {b : Value} {l : List Int} (hb : Bu w b l) (hl : l.length ≤ 100000000) : Calls Try.prog 23 #[b, .slice none 0 0] w
    fun e w' => ∃ b', e = .returned (.tuple #[b', .int .i64 0]) ∧ Bu w' b' (l ++ uvB 0) ∧ Grow w b w' b' := by
  refine enter (args := [b, .slice none 0 0]) Try.func23 rfl Try.ntmps23 rfl ?_; refine K.kgo ?_; refine WL.call rfl rfl rfl rfl rfl Try.func24 rfl (by kernel_rfl) (wcount_any hb 0 (by omega) hl) ?_; rintro _ w3 ⟨b3, rfl, q3, g3⟩; refine ⟨_, rfl, ?_⟩; refine K.kgo ?_; refine WC.loop (fun _ : Unit => [(0, b3), (15, .int .i64 0), (16, .int .i64 0)]) (fun _ w' => w' = w3) (fun _ => 0) () ⟨rfl, rfl, rfl, trivial⟩ rfl ?_; rintro _ _ rfl; refine K.kgo ?_; exact WQ.ret2 rfl rfl rfl ⟨b3, rfl, q3, g3⟩
def reqC (kind seq : Int) (text : ByteArray) : List Value := .int .i64 kind :: .int .i64 seq :: .slice none 0 0 :: .string text :: .slice none 0 0 :: List.replicate 32 (.int .u8 0)
def reqL (kind seq : Int) (text : ByteArray) : List Int := 81 :: kind :: (uvB seq.toNat ++ (uvB 0 ++ (uvB text.size ++ (bytesI text ++ (uvB 0 ++ List.replicate 32 0)))))
theorem reqL_len (kind seq : Int) (text : ByteArray) (h : text.size ≤ 4096) : (reqL kind seq text).length ≤ 5000 := by
  have h1 := uvB_lenw seq.toNat; have h2 := uvB_lenw 0; have h3 := uvB_lenw text.size; have h4 := bytesI_len text; unfold reqL; simp only [List.length_cons, List.length_append, List.length_replicate]; omega
theorem reqL_byt {kind : Int} (hk : 0 ≤ kind ∧ kind ≤ 255) (seq : Int) (text : ByteArray) : Frm.Byt (reqL kind seq text) := by
  unfold reqL; intro c hc; simp only [List.mem_cons, List.mem_append] at hc; rcases hc with rfl | rfl | h | h | h | h | h | h
  · omega
  · exact hk
  · exact uvB_bytw _ c h
  · exact uvB_bytw _ c h
  · exact uvB_bytw _ c h
  · exact bytesI_byt _ c h
  · exact uvB_bytw _ c h
  · have := List.eq_of_mem_replicate h; omega
def reqE (kind seq : Int) (text : ByteArray) : Int := if kind < 1 ∨ 20 < kind ∨ seq < 0 ∨ 9007199254740992 < seq then 1 else if 4096 < text.size then 5 else 0
def ReqOut (w : World) (kind seq : Int) (text : ByteArray) : Ending → World → Prop := fun e w' => ∃ b, e = .returned (.tuple #[b, .int .i64 (reqE kind seq text)]) ∧ Below w.heap.size w w' ∧ (reqE kind seq text = 0 → Bu w' b (Frm.frameL (reqL kind seq text)) ∧ ∀ g, b.ownBlock = some g → w.heap.size ≤ g)
theorem ReqOut.bad {w w' : World} {kind seq : Int} {text : ByteArray} {x : Int} {b : Value} (h : reqE kind seq text = x) (hx : x ≠ 0) (hB : Below w.heap.size w w') : ReqOut w kind seq text (.returned (.tuple #[b, .int .i64 x])) w' := ⟨b, by rw [h], hB, fun h0 => absurd (h.symm.trans h0) hx⟩
theorem wenc_any (kind seq : Int) (text : ByteArray) (w : World) : Calls Try.prog 7 #[.agg (reqC kind seq text).toArray] w (ReqOut w kind seq text) := by
  refine enter (args := [.agg (reqC kind seq text).toArray]) Try.func7 rfl Try.ntmps7 rfl ?_; refine K.kgn ?_; refine WL.box rfl rfl rfl rfl rfl fun g w1 hf0 => ?_; have hf : Fresh w g w1 32 (reqC kind seq text) := hf0; clear hf0; have hB := hf.below; have c0 : w1.cell? ⟨g, 0, none⟩ = some (.int .i64 kind) := hf.blk.cell 0 (by unfold reqC; simp); have c1 : w1.cell? ⟨g, 1, none⟩ = some (.int .i64 seq) := hf.blk.cell 1 (by unfold reqC; simp); have c2 : w1.cell? ⟨g, 2, none⟩ = some (.slice none 0 0) := hf.blk.cell 2 (by unfold reqC; simp); have c3 : w1.cell? ⟨g, 3, none⟩ = some (.string text) := hf.blk.cell 3 (by unfold reqC; simp); have c4 : w1.cell? ⟨g, 4, none⟩ = some (.slice none 0 0) := hf.blk.cell 4 (by unfold reqC; simp); have bad1 : (kind < 1 ∨ 20 < kind ∨ seq < 0 ∨ 9007199254740992 < seq) → reqE kind seq text = 1 := fun h => by unfold reqE; rw [if_pos h]
  by_cases h1 : kind < 1
  · refine K.kgl ?_
    exact WQ.ret2 rfl rfl rfl (ReqOut.bad (bad1 (.inl h1)) (by decide) hB)
  by_cases h2 : 20 < kind
  · refine K.kgl ?_
    exact WQ.ret2 rfl rfl rfl (ReqOut.bad (bad1 (.inr (.inl h2))) (by decide) hB)
  by_cases h3 : seq < 0
  · refine K.kgl ?_
    exact WQ.ret2 rfl rfl rfl (ReqOut.bad (bad1 (.inr (.inr (.inl h3)))) (by decide) hB)
  by_cases h4 : 9007199254740992 < seq
  · refine K.kgl ?_
    exact WQ.ret2 rfl rfl rfl (ReqOut.bad (bad1 (.inr (.inr (.inr h4)))) (by decide) hB)
  clear bad1; have hno : ¬ (kind < 1 ∨ 20 < kind ∨ seq < 0 ∨ 9007199254740992 < seq) := by omega
  by_cases h5 : 4096 < text.size
  · have he : reqE kind seq text = 5 := by unfold reqE; rw [if_neg hno, if_pos h5]
    refine K.kgl ?_; exact WQ.ret2 rfl rfl rfl (ReqOut.bad he (by decide) hB)
  have he : reqE kind seq text = 0 := by unfold reqE; rw [if_neg hno, if_neg h5]
  refine K.kgl ?_; have hw8 : IntKind.u8.wrap kind = kind := by rw [IntKind.wrap_u8]; omega
  obtain ⟨sn, rfl⟩ : ∃ n : Nat, seq = (n : Int) := ⟨seq.toNat, by omega⟩; refine WL.as 44 (.int .u8 kind) rfl (congrArg (Value.int .u8) hw8) ?_; refine WL.call rfl rfl rfl rfl rfl Try.func22 rfl (by kernel_rfl) (whead0_any 81 kind sn (by omega) w1) ?_; rintro _ w2 ⟨b2, rfl, q2, k2, o2⟩; refine ⟨_, rfl, ?_⟩; have hfe := hf.eq; have hfs := hf.size; have hw2 : Below w.heap.size w w2 := hB.trans (k2.mono hB.size); have T2 := hf.blk.below k2 hf.blk.lt; have own2 : ∀ x, b2.ownBlock = some x → w.heap.size ≤ x ∧ x ≠ g := fun x hx => by have := o2 x hx; omega
  have hAp : ∀ {wx : World} {bx : Value}, Grow w2 b2 wx bx → VBlk 32 wx g (reqC kind sn text) := fun h => T2.keep h.1 ⟨T2.lt, fun e => (own2 _ e).2 rfl⟩; have u1 := uvB_lenw sn; have u2 := uvB_lenw 0; have u3 := uvB_lenw text.size; have hl2 : (81 :: kind :: (uvB sn ++ uvB 0)).length ≤ 22 := by simp only [List.length_cons, List.length_append]; omega
  clear c0 c1 c2 c3 c4 k2 hf; refine K.kgo ?_; refine WC.drawn 10 (fun wx => VBlk 32 wx g (reqC kind sn text)) fun w3 hd => ?_; have kd : Below w2.heap.size w2 w3 := hd.below _; have g3 : Grow w2 b2 w3 b2 := (Grow.refl w2 b2).below kd; have q3 := q2.below kd; have hS := hAp g3; clear hd kd; refine K.fr [0, 1, 5, 8] hS ?_; refine K.wl 2 [3, 4, 7, 10, 11, 12, 13, 14, 15] rfl rfl rfl rfl rfl rfl rfl (fun wx hx => VBlk.cell hx 3 (by unfold reqC; simp)) hS ?_; refine K.wl 6 [7, 10, 11, 12, 13, 14, 15] rfl rfl rfl rfl rfl rfl rfl (fun wx hx => VBlk.cell hx 3 (by unfold reqC; simp)) hS ?_; refine K.wl 9 [10, 11, 12, 13, 14, 15] rfl rfl rfl rfl rfl rfl rfl (fun wx hx => VBlk.cell hx 4 (by unfold reqC; simp)) hS ?_; refine K.fr [3] hS ?_; refine K.wo 4 ?_; refine WL.call rfl rfl rfl rfl rfl Try.func24 rfl (by kernel_rfl) (wcount_any q3 text.size (by omega) (by omega)) ?_; rintro _ w4 ⟨b4, rfl, q4, g4⟩; refine ⟨_, rfl, ?_⟩; replace hS := hAp (g3.trans g4); refine K.di hS ?_; refine K.wo 7 ?_; refine WL.appS rfl rfl rfl rfl rfl q4 rfl (by rw [List.length_append]; omega) fun b5 w5 q5 g5 => ?_; replace hS := hAp ((g3.trans g4).trans g5); refine K.di hS ?_; refine K.wo 10 ?_; have ht := bytesI_len text; refine WL.call rfl rfl rfl rfl rfl Try.func23 rfl (by kernel_rfl) (wvalues0_any q5 (by simp only [List.length_append] at *; omega)) ?_; rintro _ w6 ⟨b6, rfl, q6, g6⟩; refine ⟨_, rfl, ?_⟩; have G6 := ((g3.trans g4).trans g5).trans g6; have T6 := hAp G6; refine K.dl ?_
  (refine K.fzl 11 rfl (q := ?_); refine K.fzl 12 rfl (q := ?_); refine K.fzl 13 rfl (q := ?_); refine K.fzl 14 rfl (q := ?_); refine K.fzl 15 rfl (q := ?_))
  refine WD.done (by kernel_rfl) ?_; refine K.kgo ?_; refine WL.all rfl rfl rfl rfl rfl rfl ?_; have hz : Sl .u8 w6 (.slice (some ⟨g, 0 + 5, none⟩) 32 32) (List.replicate 32 0) := by
    have := Sl.mk (k := .u8) (w := w6) (b := g) (o := 0 + 5) (cap := 32) (l := List.replicate 32 0) (by simp) (by omega) T6.lt (fun j hj => by
      have hj' : j < 32 := by simpa using hj
      have h1 := (VBlk.rangeAt T6) (5 + j) (.int .u8 0) (by unfold reqC; rw [show 5 + j = (j + 1 + 1 + 1 + 1 + 1) by omega]; exact rep_get 32 _ j hj'); rw [nth_rep 32 j hj']; rw [show (0 + 5 + j) = 0 + (5 + j) by omega]; exact h1)
    simpa using this
  have hall : 81 :: kind :: (uvB sn ++ uvB 0) ++ uvB text.size ++ bytesI text ++ uvB 0 ++ List.replicate 32 0 = reqL kind sn text := by unfold reqL; simp [List.append_assoc]
  have hlen := reqL_len kind sn text (by omega); have hlen6 : (81 :: kind :: (uvB sn ++ uvB 0) ++ uvB text.size ++ bytesI text ++ uvB 0).length + (List.replicate 32 (0 : Int)).length ≤ 5000 := by rw [← List.length_append, hall]; exact hlen
  refine WL.app rfl rfl rfl rfl rfl q6 rfl hz (by omega) fun b7 w7 q7 g7 => ?_; rw [hall] at q7; have G7 := G6.trans g7; refine WL.call rfl rfl rfl rfl rfl Try.func25 rfl (by kernel_rfl) (fenc_any q7.sl (reqL_byt (by omega) _ _) (by omega)) ?_; rintro _ w8 ⟨b8, rfl, q8, k8, o8⟩; refine ⟨_, rfl, ?_⟩; have hw7 : Below w.heap.size w w7 := hw2.trans (G7.old hw2.size fun x hx => (own2 x hx).1); rw [if_neg (by omega)] at q8; refine K.kgo ?_; refine WQ.ret2 rfl rfl rfl ⟨b8, ?_, hw7.trans (k8.mono hw7.size), fun _ => ⟨q8, fun x hx => Nat.le_trans hw7.size (o8 x hx)⟩⟩; rw [he, if_neg (show ¬ 524288 < (reqL kind sn text).length by omega)]
  rfl
end K
end Go.Proofs.Ytdkkaliiofcflaa

namespace Go.Proofs.Ytdkkaliiofcflaa
open Go.RowKit
namespace K
section
variable {n : Nat} {l : Env} {w : World} {fn : Func} {R : Ending → World → Prop}
theorem WQ.retCTw {kn : Nat} {md : Option (Option Nat)} {p q g T m : Nat} {ty' : TypeId} {cs : List Value} {x : Value} (hr : fn.results = #[.cell p ty', .tmp q]) (hl : look l p = some (.pointer (some ⟨g, 0, none⟩))) (hq : look l q = some x) (ht : cellsN (tyOf ty ty') = some m) (hm : cs.length = m) (hb : VBlk T w g cs)
    (h : R (.returned (.tuple #[.agg cs.toArray, x])) w) : WQ ⟨kn, [], md⟩ (bodyPost Try.prog fn R) .ret l w :=
  ⟨fun a ha => ⟨ha.defers, _, by
    obtain ⟨_, hu, hdd, hsz⟩ := cellsN_ok tyOk ht; have hp := ha.getD hl; have hx := ha.getD hq; simp only [Array.getD_eq_getD_getElem?] at hp hx; have := run_loadVar_mid (P := Try.prog) w g 0 ty' cs _ (VBlk.rangeAt hb) hu hdd (by rw [hsz, hm]); simp [results, hr, hp, hx, asAddr, this], h⟩⟩
end
def Bad (l : List Int) (e : Int) : Prop := (Frm.decF l).1 = e ∧ e ≠ 0 ∨ (Frm.decF l).1 = 0 ∧ (Frm.decF l).2.2 ≠ l.length ∧ e = 3
theorem wopen_bad {w : World} {v : Value} {l : List Int} {x : Int} (hv : Sl .u8 w v l) (hb : Frm.Byt l) (hl : l.length ≤ 140737488355328) (hx : Bad l x) : Calls Try.prog 30 #[v] w fun e w' => e = .returned (.tuple #[.pointer none, .int .i64 x]) ∧ Below w.heap.size w w' := by
  obtain ⟨sp, cap, rfl, h1, h2, -⟩ := id hv; refine enter (args := [.slice sp l.length cap]) Try.func30 rfl Try.ntmps30 rfl ?_; refine K.kgo ?_; refine WL.call rfl rfl rfl rfl rfl Try.func55 rfl (by kernel_rfl) (fdec_any hv hb hl) ?_; rintro _ w1 ⟨b, rfl, -, k1, -⟩; refine ⟨_, rfl, ?_⟩; unfold Bad at hx; generalize (Frm.decF l).1 = e at hx ⊢; generalize (Frm.decF l).2.2 = m at hx ⊢; rcases hx with ⟨rfl, h0⟩ | ⟨rfl, h3, rfl⟩
  · refine K.kgo ?_
    exact WQ.ret2 rfl rfl rfl ⟨rfl, k1⟩
  · have h3' : (m : Int) ≠ (l.length : Int) := by omega
    refine K.kgo ?_; exact WQ.ret2 rfl rfl rfl ⟨rfl, k1⟩
def zReq : List Value := reqC 0 0 (ByteArray.mk #[])
theorem zReq_ones : Ones zReq := by
  intro u hu; unfold zReq reqC at hu; simp only [List.mem_cons] at hu; rcases hu with rfl | rfl | rfl | rfl | rfl | hu
  · rfl
  · rfl
  · rfl
  · rfl
  · rfl
  · rw [List.eq_of_mem_replicate hu]; rfl
theorem wdec_bad {w : World} {v : Value} {l : List Int} {x : Int} (hv : Sl .u8 w v l) (hb : Frm.Byt l) (hl : l.length ≤ 140737488355328) (hx : Bad l x) (h0 : x ≠ 0) : Calls Try.prog 11 #[v] w fun e w' => e = .returned (.tuple #[.agg zReq.toArray, .int .i64 x]) ∧ Below w.heap.size w w' := by
  obtain ⟨sp, cap, rfl, h1, h2, -⟩ := id hv; refine enter (args := [.slice sp l.length cap]) Try.func11 rfl Try.ntmps11 rfl ?_; refine K.kgn ?_; refine WL.alloc (z := .agg zReq.toArray) rfl rfl rfl rfl (fun _ => by kernel_rfl) fun g w1 hf0 => ?_; have hf : Fresh w g w1 32 zReq := hf0; clear hf0; have hB := hf.below; have hg := hf.eq; have T := hf.blk; clear hf; refine K.kgo ?_; refine WL.call rfl rfl rfl rfl rfl Try.func30 rfl (by kernel_rfl) (wopen_bad (hv.of_below hB) hb hl hx) ?_; rintro _ w2 ⟨rfl, k2⟩; refine ⟨_, rfl, ?_⟩; have T2 := T.below k2 T.lt; refine K.kgo ?_; refine WL.build zReq rfl rfl rfl rfl rfl (by kernel_rfl) ?_; refine K.kgo ?_; refine WL.storeRow rfl rfl rfl rfl rfl rfl T2 rfl rfl zReq_ones ?_; have hw2 : Below w.heap.size w w2 := hB.trans (k2.mono hB.size); have hw3 : Below w.heap.size w (w2.setRow g zReq.toArray) := below_setRow hw2 (by omega) _; have T3 := T2.setRow zReq; generalize w2.setRow g zReq.toArray = w3 at hw3 T3 ⊢; refine K.kgo ?_; exact WQ.retCTw rfl rfl rfl rfl rfl T3 ⟨rfl, hw3⟩
theorem known_any (w : World) : Calls Try.prog 10 #[] w fun e w' => e = .returned (.bool true) ∧ Below w.heap.size w w' := by
  refine enter (args := []) Try.func10 rfl Try.ntmps10 rfl ?_; refine K.kgo ?_; refine WL.build (reqC 1 0 (ByteArray.mk #[])) rfl rfl rfl rfl rfl (by kernel_rfl) ?_; refine WL.call rfl rfl rfl rfl rfl Try.func7 rfl (by kernel_rfl) (wenc_any 1 0 (ByteArray.mk #[]) w) ?_; rintro _ w1 ⟨b, rfl, k1, hs⟩; refine ⟨_, rfl, ?_⟩; have he : reqE 1 0 (ByteArray.mk #[]) = 0 := by decide
  obtain ⟨hb, -⟩ := hs he; rw [he]; have hlen : (Frm.frameL (reqL 1 0 (ByteArray.mk #[]))).length = 50 := by rw [Frm.frameL_len]; decide +kernel
  obtain ⟨sp, cap, rfl, -⟩ := hb.form; rw [hlen]; refine K.kgo ?_; exact WQ.ret1 rfl rfl ⟨rfl, k1⟩
end K
end Go.Proofs.Ytdkkaliiofcflaa

namespace Go.Proofs.Ytdkkaliiofcflaa
open Go.RowKit
namespace K

theorem encV_two {m : Nat} {v : V} : encV (m + 1) v = v.k ::
    (if v.k = 2 then [v.n] else if v.k = 3 then uvB (zig v.n) else if v.k = 4 then uvB (zig v.n) ++ [v.s] else if v.k = 5 then uvB v.n.toNat
     else if v.k = 6 ∨ v.k = 7 then uvB v.t.size ++ byI v.t
     else if v.k = 8 ∨ v.k = 9 then uvB v.kids.length ++ (List.range v.kids.length).flatMap (pieceE (encV m) (decide (v.k = 9)) v.names v.kids) else []) := rfl
set_option maxHeartbeats 16000000 in
theorem clay_any (m : Nat) (ih : ∀ {f : Nat} {w0 w : World} {v : V} {cs : List Value} {b : Value} {l : List Int}, IsV f w0 v cs → chk m v = 0 → Bu w b l → Apart w0 w b → l.length + (encV m v).length ≤ 70368744177664 →
      Calls Try.prog 65 #[b, .agg cs.toArray] w fun e w' => ∃ b', e = .returned b' ∧ Bu w' b' (l ++ encV m v) ∧ Grow w b w' b') {f : Nat} {w0 w : World} {v : V} {cs : List Value} {b : Value} {l : List Int}
    (hv : IsV f w0 v cs) (hc : chk (m + 1) v = 0) (hb : Bu w b l) (ha : Apart w0 w b) (hm : l.length + (encV (m + 1) v).length ≤ 70368744177664) :
    Calls Try.prog 65 #[b, .agg cs.toArray] w fun e w' => ∃ b', e = .returned b' ∧ Bu w' b' (l ++ encV (m + 1) v) ∧ Grow w b w' b' := by
  obtain ⟨hk, f2, f3, f4, f5, fk, ft, f9⟩ := shp_form (chk_shp hc); cases f with
  | zero => exact hv.elim
  | succ f =>
  obtain ⟨sn, sk, rfl, wk, wn, ws, -, hnames, hkids⟩ := hv; have hkey := encV_two (m := m) (v := v); rw [hkey] at hm; have hn : -9223372036854775808 ≤ v.n ∧ v.n ≤ 9223372036854775807 := by simp [Lit.wf, IntKind.min, IntKind.max, IntKind.bits, IntKind.signed] at wn; omega
  have hzl := zig_lt hn; refine enter (args := [b, .agg (six v sn sk).toArray]) Try.func65 rfl Try.ntmps65 rfl ?_; refine K.kgo ?_; refine WL.box rfl rfl rfl rfl rfl fun bb w1 hf => ?_; have hfb : Fresh w bb w1 27 [b] := by obtain ⟨sp, c, rfl, -, -⟩ := hb.form; exact hf
  clear hf; have hbb : bb = w.heap.size := hfb.eq; refine WL.box rfl rfl rfl rfl rfl fun g w2 hf => ?_; have hfg : Fresh w1 g w2 60 (six v sn sk) := hf; clear hf; have hgb : g = bb + 1 := by rw [hfg.eq, hfb.size, hbb]
  have hbw : ∀ x, b.ownBlock = some x → x < w.heap.size := hb.lt; have hbx : Bx bb w2 b l := ⟨(hfb.blk.below hfg.below hfb.blk.lt), (hb.below hfb.below).below hfg.below, fun e => by have := hbw _ e; omega⟩; have hblk : VBlk 60 w2 g (six v sn sk) := hfg.blk; have hgo : b.ownBlock ≠ some g := fun e => by have := hbw _ e; omega
  have hw12 : Below w.heap.size w w2 := hfb.below.trans (hfg.below.mono hfb.below.size); have hsz2 : w2.heap.size = w.heap.size + 2 := by rw [hfg.size, hfb.size]
  clear hfb hfg
  -- what stands while the own row grows
  have hR : ∀ {wk vk}, GrowB bb w2 b wk vk → VBlk 60 wk g (six v sn sk) := fun h => (Bx.keep h hblk hgo (by omega)).1; have hA : ∀ {wk vk}, GrowB bb w2 b wk vk → Apart w0 wk vk := fun {wk vk} h => by
    refine ⟨?_, fun x hx => (h.2 x hx).elim (fun h2 => ha.own x h2) (fun h2 => by have := ha.below.size; omega)⟩; have h1 : Below w0.heap.size w0 w2 := ha.below.trans (hw12.mono ha.below.size); refine h1.trans ((h.1.mono fun x (hx : x < w0.heap.size) => ⟨Nat.lt_of_lt_of_le hx h1.size, fun e => by have := ha.own x e; omega, by have := ha.below.size; omega⟩).below)
  have hG : ∀ {wk vk}, GrowB bb w2 b wk vk → Grow w b wk vk := fun {wk vk} h => by
    refine ⟨?_, fun x hx => (h.2 x hx).imp id (fun h2 => by omega)⟩; have h1 : Keep (fun x => x < w.heap.size ∧ b.ownBlock ≠ some x) w w2 := (Keep.of_below hw12).mono fun _ h => h.1; exact h1.trans (h.1.mono fun x hx => ⟨by omega, hx.2, by omega⟩)
  have g0 : GrowB bb w2 b w2 b := GrowB.refl _ _ _; have fin : ∀ {b' w' x}, Bu w' b' (l ++ v.k :: x) → GrowB bb w2 b w' b' → (v.k :: x = encV (m + 1) v) → ∃ b'', Ending.returned b' = .returned b'' ∧ Bu w' b'' (l ++ encV (m + 1) v) ∧ Grow w b w' b'' :=
    fun {b' w' x} h1 h2 h3 => ⟨b', rfl, by rw [← h3]; exact h1, hG h2⟩
  have e8 : IntKind.u8.wrap v.k = v.k := by rw [IntKind.wrap_u8]; omega
  have hl1 : l.length + 1 ≤ 70368744177664 := by simp at hm; omega
  refine K.kgo ?_; refine WL.fn (caps := [.tmp 2]) rfl rfl rfl rfl rfl ?_; refine K.kgo ?_; refine WL.load rfl rfl rfl rfl rfl rfl (hbx.blk.cell 0 (by simp)) ?_; refine K.kgo ?_; refine WL.load rfl rfl rfl rfl rfl rfl ((hR g0).cell 0 (by simp)) ?_; refine K.kgo ?_; refine WL.push rfl rfl rfl rfl rfl rfl rfl rfl rfl rfl rfl (fun _ => rfl) rfl hbx.bu (by simp; omega) fun b2 w3 hb2 hg2 => ?_; obtain ⟨hblk3, hbx3, g3⟩ := hbx.put hb2 hg2; refine WL.store rfl rfl rfl rfl rfl hb2.cell1 (by kernel_rfl) (hblk3.cell 0 (by simp)) (hblk3.free 0) ?_; generalize w3.setCell ⟨bb, 0, none⟩ b2 = w4 at hbx3 g3; clear hblk3 hg2 hb2; rw [e8] at hbx3; refine K.kgo ?_; refine WL.load rfl rfl rfl rfl rfl rfl ((hR g3).cell 0 (by simp)) ?_; have hl2 : (l ++ [v.k]).length = l.length + 1 := by simp
  have hL0 : ∀ x, l ++ v.k :: x = (l ++ [v.k]) ++ x := fun x => by simp
  generalize hL : l ++ [v.k] = L at hbx3 hl2 hL0; have hl3 : L.length + (encV (m + 1) v).length ≤ 70368744177664 + 1 := by rw [hkey]; simp at hm ⊢; omega
  by_cases k1 : v.k = 1
  · refine K.kgo ?_
    refine WL.load rfl rfl rfl rfl rfl rfl (hbx3.blk.cell 0 (by simp)) ?_; refine K.kgo ?_; refine WQ.ret1 rfl rfl (fin (x := []) (by rw [hL0, List.append_nil]; exact hbx3.bu) g3 ?_); rw [hkey]; simp [k1]
  by_cases k2 : v.k = 2
  · have hx := f2 k2
    have e8 : IntKind.u8.wrap v.n = v.n := by rw [IntKind.wrap_u8]; omega
    have hkx : encV (m + 1) v = v.k :: [v.n] := by rw [hkey, if_pos k2]
    rw [hkx] at hl3; simp at hl3
    refine K.kgo ?_; refine WL.load rfl rfl rfl rfl rfl rfl (hbx3.blk.cell 0 (by simp)) ?_; refine K.kgo ?_; refine WL.load rfl rfl rfl rfl rfl rfl ((hR g3).cell 1 (by simp)) ?_; refine K.kgo ?_; refine WL.push rfl rfl rfl rfl rfl rfl rfl rfl rfl rfl rfl (fun _ => rfl) rfl hbx3.bu (by simp; omega) fun b3 w5 hb3 hg3 => ?_; obtain ⟨hblk4, hbx4, g4⟩ := hbx3.put hb3 hg3; refine WL.store rfl rfl rfl rfl rfl hb3.cell1 (by kernel_rfl) (hblk4.cell 0 (by simp)) (hblk4.free 0) ?_; generalize w5.setCell ⟨bb, 0, none⟩ b3 = w6 at hbx4 g4; refine K.kgo ?_; refine WL.load rfl rfl rfl rfl rfl rfl (hbx4.blk.cell 0 (by simp)) ?_; refine K.kgo ?_; refine WQ.ret1 rfl rfl (fin (x := [v.n]) ?_ (g3.trans g4) hkx.symm); rw [hL0, ← e8]; exact hbx4.bu
  by_cases k3 : v.k = 3
  · have hkx : encV (m + 1) v = v.k :: uvB (zig v.n) := by rw [hkey, if_neg k2, if_pos k3]
    rw [hkx] at hl3; simp at hl3
    refine K.kgo ?_; refine WL.load rfl rfl rfl rfl rfl rfl ((hR g3).cell 1 (by simp)) ?_; refine K.kgo ?_; refine WL.call rfl rfl rfl rfl rfl Try.func44 rfl (by kernel_rfl) (zig_any v.n hn w4) ?_; rintro e _ ⟨rfl, rfl⟩; refine ⟨_, rfl, ?_⟩; refine WL.callF (args := [.tmp 30]) rfl rfl rfl rfl rfl rfl Try.func78 rfl (by kernel_rfl) (lay1_any hzl hbx3 (by omega)) ?_; rintro e w6 ⟨rfl, b4, hbx4, g4⟩; refine ⟨_, rfl, ?_⟩; refine K.kgo ?_; refine WL.load rfl rfl rfl rfl rfl rfl (hbx4.blk.cell 0 (by simp)) ?_; refine K.kgo ?_; exact WQ.ret1 rfl rfl (fin (by rw [hL0]; exact hbx4.bu) (g3.trans g4) hkx.symm)
  by_cases k4 : v.k = 4
  · have hx := f4 k4
    have e8 : IntKind.u8.wrap v.s = v.s := by rw [IntKind.wrap_u8]; omega
    have hkx : encV (m + 1) v = v.k :: (uvB (zig v.n) ++ [v.s]) := by rw [hkey, if_neg k2, if_neg k3, if_pos k4]
    rw [hkx] at hl3; simp at hl3
    refine K.kgo ?_; refine WL.load rfl rfl rfl rfl rfl rfl ((hR g3).cell 1 (by simp)) ?_; refine K.kgo ?_; refine WL.call rfl rfl rfl rfl rfl Try.func44 rfl (by kernel_rfl) (zig_any v.n hn w4) ?_; rintro e _ ⟨rfl, rfl⟩; refine ⟨_, rfl, ?_⟩; refine WL.callF (args := [.tmp 37]) rfl rfl rfl rfl rfl rfl Try.func78 rfl (by kernel_rfl) (lay1_any hzl hbx3 (by omega)) ?_; rintro e w6 ⟨rfl, b4, hbx4, g4⟩; refine ⟨_, rfl, ?_⟩; have g34 := g3.trans g4; refine K.kgo ?_; refine WL.load rfl rfl rfl rfl rfl rfl (hbx4.blk.cell 0 (by simp)) ?_; refine K.kgo ?_; refine WL.load rfl rfl rfl rfl rfl rfl ((hR g34).cell 2 (by simp)) ?_; refine K.kgo ?_; refine WL.push rfl rfl rfl rfl rfl rfl rfl rfl rfl rfl rfl (fun _ => rfl) rfl hbx4.bu (by simp; omega) fun b5 w7 hb5 hg5 => ?_; obtain ⟨hblk5, hbx5, g5⟩ := hbx4.put hb5 hg5; refine WL.store rfl rfl rfl rfl rfl hb5.cell1 (by kernel_rfl) (hblk5.cell 0 (by simp)) (hblk5.free 0) ?_; generalize w7.setCell ⟨bb, 0, none⟩ b5 = w8 at hbx5 g5; refine K.kgo ?_; refine WL.load rfl rfl rfl rfl rfl rfl (hbx5.blk.cell 0 (by simp)) ?_; refine K.kgo ?_; refine WQ.ret1 rfl rfl (fin (x := uvB (zig v.n) ++ [v.s]) ?_ (g34.trans g5) hkx.symm); rw [hL0, ← List.append_assoc, ← e8]; exact hbx5.bu
  by_cases k5 : v.k = 5
  · have hx := f5 k5
    have e8 : IntKind.u64.wrap v.n = (v.n.toNat : Int) := by rw [IntKind.wrap_u64]; omega
    have hkx : encV (m + 1) v = v.k :: uvB v.n.toNat := by rw [hkey, if_neg k2, if_neg k3, if_neg k4, if_pos k5]
    rw [hkx] at hl3; simp at hl3
    refine K.kgo ?_; refine WL.load rfl rfl rfl rfl rfl rfl ((hR g3).cell 1 (by simp)) ?_; refine K.kgo ?_; refine WL.callF (args := [.tmp 50]) rfl rfl rfl rfl rfl rfl Try.func78 rfl (by kernel_rfl) (by rw [e8]; exact lay1_any (by omega) hbx3 (by omega)) ?_; rintro e w6 ⟨rfl, b4, hbx4, g4⟩; refine ⟨_, rfl, ?_⟩; refine K.kgo ?_; refine WL.load rfl rfl rfl rfl rfl rfl (hbx4.blk.cell 0 (by simp)) ?_; refine K.kgo ?_; exact WQ.ret1 rfl rfl (fin (by rw [hL0]; exact hbx4.bu) (g3.trans g4) hkx.symm)
  by_cases k67 : v.k = 6 ∨ v.k = 7
  · have e8 : IntKind.u64.wrap (v.t.size : Int) = ((v.t.size : Nat) : Int) := by rw [IntKind.wrap_u64]; omega
    have hkx : encV (m + 1) v = v.k :: (uvB v.t.size ++ byI v.t) := by rw [hkey, if_neg k2, if_neg k3, if_neg k4, if_neg k5, if_pos k67]
    have hbl := byI_len v.t; rw [hkx] at hl3; simp only [List.length_cons, List.length_append] at hl3; rcases k67 with k6 | k7
    all_goals
      refine K.kgo ?_; refine WL.load rfl rfl rfl rfl rfl rfl ((hR g3).cell 3 (by simp)) ?_; refine K.kgo ?_; refine WL.callF (args := [.tmp 59]) rfl rfl rfl rfl rfl rfl Try.func78 rfl (by kernel_rfl) (by rw [e8]; exact lay1_any (by omega) hbx3 (by omega)) ?_; rintro e w6 ⟨rfl, b4, hbx4, g4⟩; refine ⟨_, rfl, ?_⟩; have g34 := g3.trans g4; refine K.kgo ?_; refine WL.load rfl rfl rfl rfl rfl rfl (hbx4.blk.cell 0 (by simp)) ?_; refine K.kgo ?_; refine WL.load rfl rfl rfl rfl rfl rfl ((hR g34).cell 3 (by simp)) ?_; refine WL.appS rfl rfl rfl rfl rfl hbx4.bu rfl (by rw [List.length_append]; omega) fun b5 w7 hb5 hg5 => ?_; obtain ⟨hblk5, hbx5, g5⟩ := hbx4.put hb5 hg5; refine WL.store rfl rfl rfl rfl rfl hb5.cell1 (by kernel_rfl) (hblk5.cell 0 (by simp)) (hblk5.free 0) ?_; generalize w7.setCell ⟨bb, 0, none⟩ b5 = w8 at hbx5 g5; refine K.kgo ?_; refine WL.load rfl rfl rfl rfl rfl rfl (hbx5.blk.cell 0 (by simp)) ?_; refine K.kgo ?_; refine WQ.ret1 rfl rfl (fin (x := uvB v.t.size ++ byI v.t) ?_ (g34.trans g5) hkx.symm); rw [hL0, ← List.append_assoc]; exact hbx5.bu
  have k89 : v.k = 8 ∨ v.k = 9 := by omega
  obtain ⟨sp, cap, rfl, hcap1, hcap2, hrow⟩ := hkids; have hkx : encV (m + 1) v = v.k :: (uvB v.kids.length ++ (List.range v.kids.length).flatMap (pieceE (encV m) (decide (v.k = 9)) v.names v.kids)) := by rw [hkey, if_neg k2, if_neg k3, if_neg k4, if_neg k5, if_neg k67, if_pos k89]
  rw [hkx] at hl3; simp only [List.length_cons, List.length_append] at hl3; have hkid : ∀ j, j < v.kids.length → chk m (v.kids.getD j noV) = 0 := fun j hj => chk_kid hc hj; have round : ∀ i, i + 1 ≤ v.kids.length → ((List.range i).flatMap (pieceE (encV m) (decide (v.k = 9)) v.names v.kids)).length + (pieceE (encV m) (decide (v.k = 9)) v.names v.kids i).length ≤ ((List.range v.kids.length).flatMap (pieceE (encV m) (decide (v.k = 9)) v.names v.kids)).length := fun i hi => by
    have := range_len_le (pieceE (encV m) (decide (v.k = 9)) v.names v.kids) hi; rw [range_piece, List.length_append] at this; exact this
  have eK : IntKind.u64.wrap (v.kids.length : Int) = ((v.kids.length : Nat) : Int) := by rw [IntKind.wrap_u64]; omega
  have huk : (uvB v.kids.length).length ≤ 10 := uvF_len 10 _; have hL1 : ∀ x, l ++ v.k :: (uvB v.kids.length ++ x) = (L ++ uvB v.kids.length) ++ x := fun x => by rw [hL0, List.append_assoc]
  rcases k89 with k8 | k9
  · rw [show decide (v.k = 9) = false from decide_eq_false (by omega)] at hkx hl3 round
    refine K.kgo ?_; refine WL.load rfl rfl rfl rfl rfl rfl ((hR g3).cell 5 (by simp)) ?_; refine K.kgo ?_; refine WL.callF (args := [.tmp 72]) rfl rfl rfl rfl rfl rfl Try.func78 rfl (by kernel_rfl) (by rw [eK]; exact lay1_any (by omega) hbx3 (by omega)) ?_; rintro e w6 ⟨rfl, b4, hbx4, g4⟩; refine ⟨_, rfl, ?_⟩; have g34 := g3.trans g4; have hLl : (L ++ uvB v.kids.length).length = L.length + (uvB v.kids.length).length := List.length_append; generalize L ++ uvB v.kids.length = M at hbx4 hL1 hLl; refine K.kgo ?_; refine WL.load rfl rfl rfl rfl rfl rfl ((hR g34).cell 5 (by simp)) ?_; refine K.kgo ?_; refine WC.loop (fun i : Nat × Value => [(2, .pointer (some ⟨bb, 0, none⟩)), (3, .pointer (some ⟨g, 0, none⟩)), (5, .func (.func 78) #[] #[.pointer (some ⟨bb, 0, none⟩)]), (75, .slice sp v.kids.length cap), (76, .int .i64 v.kids.length), (77, .int .i64 i.1)])
      (fun i w' => i.1 ≤ v.kids.length ∧ Bx bb w' i.2 (M ++ (List.range i.1).flatMap (pieceE (encV m) false v.names v.kids)) ∧ GrowB bb w2 b w' i.2) (fun i => v.kids.length - i.1) (0, b4)
      ⟨rfl, rfl, rfl, rfl, rfl, rfl, trivial⟩ ⟨Nat.zero_le _, by simpa using hbx4, g34⟩ ?_
    rintro ⟨i, br⟩ wr ⟨hi, hbr, hgr⟩; simp only at hi hbr hgr ⊢
    by_cases hik : i < v.kids.length
    · obtain ⟨kb, ko, rfl, hkb, hcells⟩ := hrow (by omega)
      obtain ⟨c, hc6, hci, hcr⟩ := hcells i hik; have har := hA hgr; have hcr' : wr.rangeAt kb (ko + i * 6) c := fun j u hu => by rw [har.below.cell (p := ⟨kb, ko + i * 6 + j, none⟩) hkb]; exact hcr j u hu
      have hro := round i hik; refine K.kgo ?_; refine WL.idx i (ko + i * 6) rfl rfl rfl rfl rfl rfl rfl rfl hik rfl ?_; refine WL.loadMid rfl rfl rfl rfl rfl rfl hcr' hc6 ?_; refine WL.alloc (z := .agg #[.int .i64 0, .int .i64 0, .int .i64 0, .string ByteArray.empty, .slice none 0 0, .slice none 0 0]) rfl rfl rfl rfl (fun _ => by kernel_rfl) fun g2 w7 hf2 => ?_; refine K.kgo ?_; refine WL.storeRow rfl rfl rfl rfl rfl rfl hf2.blk hc6 rfl (IsV.one hci) ?_; have hb3 : Below wr.heap.size wr (w7.setRow g2 c.toArray) := below_setRow hf2.below (by rw [hf2.eq]; exact Nat.le_refl _) _; have hblk7 : VBlk 60 (w7.setRow g2 c.toArray) g2 c := hf2.blk.setRow c; have hg2e := hf2.eq; generalize w7.setRow g2 c.toArray = w8 at hb3 hblk7; have hbx8 : Bx bb w8 br _ := hbr.below hb3; have hg8 : GrowB bb w2 b w8 br := hgr.below hb3; have hg2o : br.ownBlock ≠ some g2 := fun e => by have := hbr.bu.lt _ e; omega
      have hg2b : g2 ≠ bb := by have := hbr.blk.lt; omega
      refine K.kgo ?_; refine WL.load rfl rfl rfl rfl rfl rfl ((hR hg8).cell 0 (by simp)) ?_; have hpc : pieceE (encV m) false v.names v.kids i = encV m (v.kids.getD i noV) := rfl; rw [hpc] at hro; refine K.kgo ?_; refine WL.load rfl rfl rfl rfl rfl rfl (hbx8.blk.cell 0 (by simp)) ?_; refine WL.loadMid rfl rfl rfl rfl rfl rfl (VBlk.rangeAt hblk7) hc6 ?_; refine WL.call rfl rfl rfl rfl rfl Try.func65 rfl (by kernel_rfl) (ih (w0 := w0) hci (hkid i hik) hbx8.bu (hA hg8) (by rw [List.length_append]; omega)) ?_; rintro e w13 ⟨b13, rfl, hb13, hg13⟩; refine ⟨_, rfl, ?_⟩; obtain ⟨hblk13, hbx14, hg14⟩ := hbx8.put hb13 hg13; refine WL.store rfl rfl rfl rfl rfl hb13.cell1 (by kernel_rfl) (hblk13.cell 0 (by simp)) (hblk13.free 0) ?_; generalize w13.setCell ⟨bb, 0, none⟩ b13 = w14 at hbx14 hg14; refine K.kgo ?_; refine WQ.again (i + 1, b13) ⟨rfl, rfl, rfl, rfl, rfl, rfl, trivial⟩ ⟨hik, ?_, hg8.trans hg14⟩ (by show v.kids.length - (i + 1) < v.kids.length - i; omega)
      show Bx bb w14 b13 (M ++ (List.range (i + 1)).flatMap _)
      rw [range_piece, hpc, ← List.append_assoc]; exact hbx14
    · obtain rfl : i = v.kids.length := by omega
      refine K.kgo ?_; refine WL.load rfl rfl rfl rfl rfl rfl (hbr.blk.cell 0 (by simp)) ?_; refine K.kgo ?_; exact WQ.ret1 rfl rfl (fin (by rw [hL1]; exact hbr.bu) hgr hkx.symm)
  · rw [show decide (v.k = 9) = true from decide_eq_true k9] at hkx hl3 round
    obtain ⟨np, nc, rfl, nl, nc2, nsz, nr⟩ := hnames; have hnk := (f9 k9).1; refine K.kgo ?_; refine WL.load rfl rfl rfl rfl rfl rfl ((hR g3).cell 5 (by simp)) ?_; refine K.kgo ?_; refine WL.callF (args := [.tmp 72]) rfl rfl rfl rfl rfl rfl Try.func78 rfl (by kernel_rfl) (by rw [eK]; exact lay1_any (by omega) hbx3 (by omega)) ?_; rintro e w6 ⟨rfl, b4, hbx4, g4⟩; refine ⟨_, rfl, ?_⟩; have g34 := g3.trans g4; have hLl : (L ++ uvB v.kids.length).length = L.length + (uvB v.kids.length).length := List.length_append; generalize L ++ uvB v.kids.length = M at hbx4 hL1 hLl; refine K.kgo ?_; refine WL.load rfl rfl rfl rfl rfl rfl ((hR g34).cell 5 (by simp)) ?_; refine K.kgo ?_; refine WC.loop (fun i : Nat × Value => [(2, .pointer (some ⟨bb, 0, none⟩)), (3, .pointer (some ⟨g, 0, none⟩)), (5, .func (.func 78) #[] #[.pointer (some ⟨bb, 0, none⟩)]), (75, .slice sp v.kids.length cap), (76, .int .i64 v.kids.length), (77, .int .i64 i.1)])
      (fun i w' => i.1 ≤ v.kids.length ∧ Bx bb w' i.2 (M ++ (List.range i.1).flatMap (pieceE (encV m) true v.names v.kids)) ∧ GrowB bb w2 b w' i.2) (fun i => v.kids.length - i.1) (0, b4)
      ⟨rfl, rfl, rfl, rfl, rfl, rfl, trivial⟩ ⟨Nat.zero_le _, by simpa using hbx4, g34⟩ ?_
    rintro ⟨i, br⟩ wr ⟨hi, hbr, hgr⟩; simp only at hi hbr hgr ⊢
    by_cases hik : i < v.kids.length
    · obtain ⟨kb, ko, rfl, hkb, hcells⟩ := hrow (by omega)
      obtain ⟨c, hc6, hci, hcr⟩ := hcells i hik; have har := hA hgr; have hcr' : wr.rangeAt kb (ko + i * 6) c := fun j u hu => by rw [har.below.cell (p := ⟨kb, ko + i * 6 + j, none⟩) hkb]; exact hcr j u hu
      have hro := round i hik; refine K.kgo ?_; refine WL.idx i (ko + i * 6) rfl rfl rfl rfl rfl rfl rfl rfl hik rfl ?_; refine WL.loadMid rfl rfl rfl rfl rfl rfl hcr' hc6 ?_; refine WL.alloc (z := .agg #[.int .i64 0, .int .i64 0, .int .i64 0, .string ByteArray.empty, .slice none 0 0, .slice none 0 0]) rfl rfl rfl rfl (fun _ => by kernel_rfl) fun g2 w7 hf2 => ?_; refine K.kgo ?_; refine WL.storeRow rfl rfl rfl rfl rfl rfl hf2.blk hc6 rfl (IsV.one hci) ?_; have hb3 : Below wr.heap.size wr (w7.setRow g2 c.toArray) := below_setRow hf2.below (by rw [hf2.eq]; exact Nat.le_refl _) _; have hblk7 : VBlk 60 (w7.setRow g2 c.toArray) g2 c := hf2.blk.setRow c; have hg2e := hf2.eq; generalize w7.setRow g2 c.toArray = w8 at hb3 hblk7; have hbx8 : Bx bb w8 br _ := hbr.below hb3; have hg8 : GrowB bb w2 b w8 br := hgr.below hb3; have hg2o : br.ownBlock ≠ some g2 := fun e => by have := hbr.bu.lt _ e; omega
      have hg2b : g2 ≠ bb := by have := hbr.blk.lt; omega
      refine K.kgo ?_; refine WL.load rfl rfl rfl rfl rfl rfl ((hR hg8).cell 0 (by simp)) ?_; obtain ⟨nb, no, rfl, hnb, hnr⟩ := nr (by omega); have hnc := hnr i (by omega); have hns : (v.names.getD i noT).size ≤ 40 := (f9 k9).2 _ (by simp [show i < v.names.length by omega]); have hpc : pieceE (encV m) true v.names v.kids i = (uvB (v.names.getD i noT).size ++ byI (v.names.getD i noT)) ++ encV m (v.kids.getD i noV) := rfl; rw [hpc] at hro; have hbl := byI_len (v.names.getD i noT); simp only [List.length_append] at hro; have eN : IntKind.u64.wrap ((v.names.getD i noT).size : Int) = (((v.names.getD i noT).size : Nat) : Int) := by rw [IntKind.wrap_u64]; omega
      have hA8 := hA hg8; refine K.kgo ?_; refine WL.load rfl rfl rfl rfl rfl rfl ((hR hg8).cell 4 (by simp)) ?_; refine K.kgo ?_; refine WL.idx i (no + i) rfl rfl rfl rfl rfl rfl rfl rfl (by omega) (by omega) ?_; refine WL.load rfl rfl rfl rfl rfl rfl ((hA8.below.cell (p := ⟨nb, no + i, none⟩) hnb).trans hnc) ?_; refine K.kgo ?_; refine WL.callF (args := [.tmp 92]) rfl rfl rfl rfl rfl rfl Try.func78 rfl (by kernel_rfl) (by rw [eN]; exact lay1_any (by omega) hbx8 (by rw [List.length_append]; omega)) ?_; rintro e w9 ⟨rfl, b9, hbx9, g9⟩; refine ⟨_, rfl, ?_⟩; have hg9 := hg8.trans g9; obtain ⟨hblk9, ho9⟩ := Bx.keep g9 hblk7 hg2o hg2b; have hA9 := hA hg9; refine K.kgo ?_; refine WC.drawn 7 (fun wx => Below w0.heap.size w0 wx ∧ VBlk 27 wx bb [b9] ∧ VBlk 60 wx g (six v (.slice (some ⟨nb, no, none⟩) v.names.length nc) (.slice (some ⟨kb, ko, none⟩) v.kids.length cap))) fun w10 hd10 => ?_; have hS : Below w0.heap.size w0 w10 ∧ VBlk 27 w10 bb [b9] ∧ VBlk 60 w10 g (six v (.slice (some ⟨nb, no, none⟩) v.names.length nc) (.slice (some ⟨kb, ko, none⟩) v.kids.length cap)) :=
        ⟨hA9.below.trans (hd10.below _), hbx9.blk.below (hd10.below _) hbx9.blk.lt, (hR hg9).below (hd10.below _) (hR hg9).lt⟩
      have hbx10 : Bx bb w10 b9 _ := hbx9.below (hd10.below _); have hg10 := hg9.below (hd10.below _); have hblk10 : VBlk 60 w10 g2 c := hblk9.below (hd10.below _) hblk9.lt; refine K.wl 0 [6, 7] rfl rfl rfl rfl rfl rfl rfl (fun wx hx => hx.2.1.cell 0 (by simp)) hS ?_; refine K.fr [1] hS ?_; refine K.wl 2 [4, 5, 6, 7] rfl rfl rfl rfl rfl rfl rfl (fun wx hx => hx.2.2.cell 4 (by simp)) hS ?_; refine K.fr [3] hS ?_; refine K.wi 4 i (no + i) rfl rfl rfl rfl rfl rfl rfl rfl rfl (by omega) (by omega) (.inr hS) ?_; refine K.wl 5 [6, 7] rfl rfl rfl rfl rfl rfl rfl (fun wx hx => (hx.1.cell (p := ⟨nb, no + i, none⟩) hnb).trans hnc) hS ?_; refine K.wo 6 ?_; refine WL.appS rfl rfl rfl rfl rfl hbx10.bu rfl (by rw [List.length_append, List.length_append]; omega) fun b11 w11 hb11 hg11 => ?_; obtain ⟨hblk11, hbx12, hg12⟩ := hbx10.put hb11 hg11; have hg11' : GrowB bb w10 b9 w11 b11 := hg11.box; refine WL.nil (WQ.dk (.inr ⟨(hA (hg10.trans hg11')).below, hblk11, hR (hg10.trans hg11')⟩) ?_); refine K.wo 7 ?_; refine WL.store rfl rfl rfl rfl rfl hb11.cell1 (by kernel_rfl) (hblk11.cell 0 (by simp)) (hblk11.free 0) ?_; refine K.dl ?_; refine WD.done (by kernel_rfl) ?_; obtain ⟨hblk12, ho12⟩ := Bx.keep hg12 hblk10 ho9 hg2b; have hg12' := hg10.trans hg12; generalize w11.setCell ⟨bb, 0, none⟩ b11 = w12 at hbx12 hg12 hblk12 hg12'; refine K.kgo ?_; refine WL.load rfl rfl rfl rfl rfl rfl (hbx12.blk.cell 0 (by simp)) ?_; refine WL.loadMid rfl rfl rfl rfl rfl rfl (VBlk.rangeAt hblk12) hc6 ?_; refine WL.call rfl rfl rfl rfl rfl Try.func65 rfl (by kernel_rfl) (ih (w0 := w0) hci (hkid i hik) hbx12.bu (hA hg12') (by rw [List.length_append, List.length_append, List.length_append, bytesI_len]; omega)) ?_; rintro e w13 ⟨b13, rfl, hb13, hg13⟩; refine ⟨_, rfl, ?_⟩; obtain ⟨hblk13, hbx14, hg14⟩ := hbx12.put hb13 hg13; refine WL.store rfl rfl rfl rfl rfl hb13.cell1 (by kernel_rfl) (hblk13.cell 0 (by simp)) (hblk13.free 0) ?_; generalize w13.setCell ⟨bb, 0, none⟩ b13 = w14 at hbx14 hg14; refine K.kgo ?_; refine WQ.again (i + 1, b13) ⟨rfl, rfl, rfl, rfl, rfl, rfl, trivial⟩ ⟨hik, ?_, hg12'.trans hg14⟩ (by show v.kids.length - (i + 1) < v.kids.length - i; omega)
      show Bx bb w14 b13 (M ++ (List.range (i + 1)).flatMap _)
      rw [range_piece, hpc]
      simpa [List.append_assoc, bytesI, byI] using hbx14
    · obtain rfl : i = v.kids.length := by omega
      refine K.kgo ?_; refine WL.load rfl rfl rfl rfl rfl rfl (hbr.blk.cell 0 (by simp)) ?_; refine K.kgo ?_; exact WQ.ret1 rfl rfl (fin (by rw [hL1]; exact hbr.bu) hgr hkx.symm)
theorem clay_all : ∀ (m : Nat) {f : Nat} {w0 w : World} {v : V} {cs : List Value} {b : Value} {l : List Int}, IsV f w0 v cs → chk m v = 0 → Bu w b l → Apart w0 w b → l.length + (encV m v).length ≤ 70368744177664 →
      Calls Try.prog 65 #[b, .agg cs.toArray] w fun e w' => ∃ b', e = .returned b' ∧ Bu w' b' (l ++ encV m v) ∧ Grow w b w' b'
  | 0, _, _, _, _, _, _, _, _, h, _, _, _ => by cases h
  | m + 1, _, _, _, _, _, _, _, hv, hc, hb, ha, hm => clay_any m (clay_all m) hv hc hb ha hm
end K
end Go.Proofs.Ytdkkaliiofcflaa

namespace Go.Proofs.Ytdkkaliiofcflaa
namespace K

end K
end Go.Proofs.Ytdkkaliiofcflaa

namespace Go.Proofs.Ytdkkaliiofcflaa
open Go.RowKit
namespace K

theorem take_snoc_eq {α : Type} {a b : List α} {i : Nat} (h : a.take i = b.take i) (ha : i < a.length) (hb : i < b.length) (he : a[i] = b[i]) : a.take (i + 1) = b.take (i + 1) := by
  rw [List.take_add_one, List.take_add_one, h, List.getElem?_eq_getElem ha, List.getElem?_eq_getElem hb, he]
theorem V.ext' {a b : V} (h1 : a.k = b.k) (h2 : a.n = b.n) (h3 : a.s = b.s) (h4 : a.t = b.t) (h5 : a.names = b.names) (h6 : a.kids = b.kids) : a = b := by
  cases a; cases b
  simp only [V.k, V.n, V.s, V.t, V.names, V.kids] at h1 h2 h3 h4 h5 h6; subst h1; subst h2; subst h3; subst h4; subst h5; subst h6
  rfl
theorem bytes_ne {a b : ByteArray} (h : ¬ a = b) : ¬ a.toList = b.toList := fun e => h (by
  rw [ByteArray.toList_eq, ByteArray.toList_eq] at e; exact ByteArray.ext (Array.toList_inj.1 e))

set_option maxHeartbeats 8000000 in
theorem equal_any : ∀ (f : Nat) {f2 : Nat} {w : World} {v1 v2 : V} {c1 c2 : List Value}, IsV f w v1 c1 → IsV f2 w v2 c2 →
    Calls Try.prog 59 #[.agg c1.toArray, .agg c2.toArray] w fun e w' => (∃ b, e = .returned (.bool b) ∧ (b = true ↔ v1 = v2)) ∧ Below w.heap.size w w'
  | 0, _, _, _, _, _, _, h, _ => h.elim
  | _ + 1, 0, _, _, _, _, _, _, h => h.elim
  | f + 1, f2 + 1, w, v1, v2, c1, c2, h1, h2 => by
    obtain ⟨sn1, sk1, rfl, -, -, -, -, hn1, hk1⟩ := h1; obtain ⟨sn2, sk2, rfl, -, -, -, -, hn2, hk2⟩ := h2; obtain ⟨np1, nc1, rfl, nl1, nm1, -, nr1⟩ := hn1; obtain ⟨np2, nc2, rfl, nl2, nm2, -, nr2⟩ := hn2; obtain ⟨kp1, kc1, rfl, kl1, km1, kr1⟩ := hk1; obtain ⟨kp2, kc2, rfl, kl2, km2, kr2⟩ := hk2; refine enter (args := [.agg (six v1 (.slice np1 v1.names.length nc1) (.slice kp1 v1.kids.length kc1)).toArray, .agg (six v2 (.slice np2 v2.names.length nc2) (.slice kp2 v2.kids.length kc2)).toArray]) Try.func59 rfl Try.ntmps59 rfl ?_; refine K.kgo ?_; refine WL.box rfl rfl rfl rfl rfl fun g1 w1 hf1 => ?_; have hf1' : Fresh w g1 w1 60 (six v1 (.slice np1 v1.names.length nc1) (.slice kp1 v1.kids.length kc1)) := hf1; clear hf1; refine WL.box rfl rfl rfl rfl rfl fun g2 w2 hf2 => ?_; have hf2' : Fresh w1 g2 w2 60 (six v2 (.slice np2 v2.names.length nc2) (.slice kp2 v2.kids.length kc2)) := hf2; clear hf2; have hb2 : Below w.heap.size w w2 := hf1'.below.trans (hf2'.below.mono hf1'.below.size); have B1 := hf1'.blk.below hf2'.below hf1'.blk.lt; have B2 := hf2'.blk; clear hf1' hf2'; have no : ∀ {wx : World}, Below w.heap.size w wx → ¬ v1 = v2 → (∃ b, Ending.returned (Value.bool false) = .returned (.bool b) ∧ (b = true ↔ v1 = v2)) ∧ Below w.heap.size w wx := fun h1 h2 => ⟨⟨false, rfl, by simp [h2]⟩, h1⟩; refine K.kgo ?_; refine WL.load rfl rfl rfl rfl rfl rfl (B1.cell 0 (by simp)) ?_; refine K.kgo ?_; refine WL.load rfl rfl rfl rfl rfl rfl (B2.cell 0 (by simp)) ?_
    by_cases e1 : v1.k = v2.k
    rotate_left
    · refine K.kgo ?_
      exact WQ.ret1 rfl rfl (no hb2 fun e => e1 (by rw [e]))
    refine K.kgo ?_; refine WL.load rfl rfl rfl rfl rfl rfl (B1.cell 1 (by simp)) ?_; refine K.kgo ?_; refine WL.load rfl rfl rfl rfl rfl rfl (B2.cell 1 (by simp)) ?_
    by_cases e2 : v1.n = v2.n
    rotate_left
    · refine K.kgo ?_
      exact WQ.ret1 rfl rfl (no hb2 fun e => e2 (by rw [e]))
    refine K.kgo ?_; refine WL.load rfl rfl rfl rfl rfl rfl (B1.cell 2 (by simp)) ?_; refine K.kgo ?_; refine WL.load rfl rfl rfl rfl rfl rfl (B2.cell 2 (by simp)) ?_
    by_cases e3 : v1.s = v2.s
    rotate_left
    · refine K.kgo ?_
      exact WQ.ret1 rfl rfl (no hb2 fun e => e3 (by rw [e]))
    refine K.kgo ?_; refine WL.load rfl rfl rfl rfl rfl rfl (B1.cell 3 (by simp)) ?_; refine K.kgo ?_; refine WL.load rfl rfl rfl rfl rfl rfl (B2.cell 3 (by simp)) ?_
    by_cases e4 : v1.t = v2.t
    rotate_left
    · refine WL.on rfl rfl ?_
      refine WL.pureAs (.bool true) rfl rfl rfl rfl (by simp [bytes_ne e4]) ?_; refine K.kgo ?_; exact WQ.ret1 rfl rfl (no hb2 fun e => e4 (by rw [e]))
    refine WL.on rfl rfl ?_; refine WL.pureAs (.bool false) rfl rfl rfl rfl (by simp [e4]) ?_; refine K.kgo ?_; refine WL.load rfl rfl rfl rfl rfl rfl (B1.cell 4 (by simp)) ?_; refine K.kgo ?_; refine WL.load rfl rfl rfl rfl rfl rfl (B2.cell 4 (by simp)) ?_
    by_cases e5 : v1.names.length = v2.names.length
    rotate_left
    · refine K.kgo ?_
      exact WQ.ret1 rfl rfl (no hb2 fun e => e5 (by rw [e]))
    refine K.kgo ?_; refine WL.load rfl rfl rfl rfl rfl rfl (B1.cell 5 (by simp)) ?_; refine K.kgo ?_; refine WL.load rfl rfl rfl rfl rfl rfl (B2.cell 5 (by simp)) ?_
    by_cases e6 : v1.kids.length = v2.kids.length
    rotate_left
    · refine K.kgo ?_
      exact WQ.ret1 rfl rfl (no hb2 fun e => e6 (by rw [e]))
    have hz2 := hb2.size; refine K.kgb ?_; refine WC.mid (fun _ : Unit => [(2, .pointer (some ⟨g1, 0, none⟩)), (3, .pointer (some ⟨g2, 0, none⟩))]) (fun _ wx => v1.names = v2.names ∧ Below w2.heap.size w2 wx) rfl ?_ ?_
    · refine K.kgo ?_
      refine WC.loop (fun i : Nat => [(2, .pointer (some ⟨g1, 0, none⟩)), (3, .pointer (some ⟨g2, 0, none⟩)), (5, .int .i64 i)]) (fun i wx => i ≤ v1.names.length ∧ v1.names.take i = v2.names.take i ∧ Below w2.heap.size w2 wx) (fun i => v1.names.length - i) 0 ⟨rfl, rfl, rfl, trivial⟩ ⟨Nat.zero_le _, by simp, Below.refl _ _⟩ ?_; rintro i wr ⟨hi, ht, hbr⟩; have R1 := B1.below hbr B1.lt; have R2 := B2.below hbr B2.lt; refine K.kgo ?_; refine WL.load rfl rfl rfl rfl rfl rfl (R1.cell 4 (by simp)) ?_
      by_cases hik : i < v1.names.length
      · obtain ⟨b1, o1, rfl, hlt1, hc1⟩ := nr1 (by omega)
        obtain ⟨b2, o2, rfl, hlt2, hc2⟩ := nr2 (by omega); have hc1 := hc1 i hik; have hc2 := hc2 i (by omega); have hbw : Below w.heap.size w wr := hb2.trans (hbr.mono hz2); refine K.kgo ?_; refine WC.drawn 10 (fun wx => wx.heap = wr.heap) fun w3 hd => ?_; have hS : w3.heap = wr.heap := hd.heap; have hb3 : Below w2.heap.size w2 w3 := hbr.trans (hd.below _); refine K.fr [0] hS ?_; refine K.wl 1 [3, 4, 10] rfl rfl rfl rfl rfl rfl rfl (fun wx hx => (heap_cell hx _).trans (R1.cell 4 (by simp))) hS ?_; refine K.fr [2] hS ?_; refine K.wi 3 i (o1 + i) rfl rfl rfl rfl rfl rfl rfl rfl rfl hik (by omega) (.inr hS) ?_; refine K.wl 4 [10] rfl rfl rfl rfl rfl rfl rfl (fun wx hx => (heap_cell hx _).trans ((hbw.cell (p := ⟨b1, o1 + i, none⟩) hlt1).trans hc1)) hS ?_; refine K.fr [5] hS ?_; refine K.wl 6 [8, 9, 10] rfl rfl rfl rfl rfl rfl rfl (fun wx hx => (heap_cell hx _).trans (R2.cell 4 (by simp))) hS ?_; refine K.fr [7] hS ?_; refine K.wi 8 i (o2 + i) rfl rfl rfl rfl rfl rfl rfl rfl rfl (by omega) (by omega) (.inr hS) ?_; refine K.wl 9 [10] rfl rfl rfl rfl rfl rfl rfl (fun wx hx => (heap_cell hx _).trans ((hbw.cell (p := ⟨b2, o2 + i, none⟩) hlt2).trans hc2)) hS ?_; refine K.wo 10 ?_; refine WL.pure rfl rfl rfl rfl ?_; refine K.dl ?_; refine WD.done (by kernel_rfl) ?_; refine K.kgo ?_; have hg1 : v1.names.getD i noT = v1.names[i] := by simp [hik]
        have hg2 : v2.names.getD i noT = v2.names[i] := by simp [show i < v2.names.length by omega]
        refine WC.condB rfl (fun hne => ?_) fun heq => ?_
        · refine K.kgo ?_
          refine WQ.ret1 rfl rfl (no (hb2.trans (hb3.mono hz2)) fun e => ?_); have h := congrArg (fun v => v.names.getD i noT) e; rw [h] at hne; simp at hne
        · refine K.kgo ?_
          refine WQ.again (i + 1) ⟨rfl, rfl, rfl, trivial⟩ ⟨hik, take_snoc_eq ht hik (by omega) ?_, hb3⟩ (by show v1.names.length - (i + 1) < v1.names.length - i; omega); rw [← hg1, ← hg2]; refine Classical.byContradiction fun hne => ?_; exact bytes_ne hne (by simpa using heq)
      · obtain rfl : i = v1.names.length := by omega
        refine K.kgo ?_; exact WQ.meet () ⟨rfl, rfl, trivial⟩ ⟨by rw [List.take_length, e5, List.take_length] at ht; exact ht, hbr⟩
    rintro _ w5 ⟨e7, hb5⟩; refine K.kgo ?_; refine WC.loop (fun i : Nat => [(2, .pointer (some ⟨g1, 0, none⟩)), (3, .pointer (some ⟨g2, 0, none⟩)), (6, .int .i64 i)]) (fun i wx => i ≤ v1.kids.length ∧ v1.kids.take i = v2.kids.take i ∧ Below w2.heap.size w2 wx) (fun i => v1.kids.length - i) 0 ⟨rfl, rfl, rfl, trivial⟩ ⟨Nat.zero_le _, by simp, hb5⟩ ?_; rintro i wr ⟨hi, ht, hbr⟩; have R1 := B1.below hbr B1.lt; have R2 := B2.below hbr B2.lt; refine K.kgo ?_; refine WL.load rfl rfl rfl rfl rfl rfl (R1.cell 5 (by simp)) ?_
    by_cases hik : i < v1.kids.length
    · obtain ⟨b1, o1, rfl, hlt1, hc1⟩ := kr1 (by omega)
      obtain ⟨b2, o2, rfl, hlt2, hc2⟩ := kr2 (by omega); obtain ⟨cs1, hl1, hv1, ha1⟩ := hc1 i hik; obtain ⟨cs2, hl2, hv2, ha2⟩ := hc2 i (by omega); have hbw : Below w.heap.size w wr := hb2.trans (hbr.mono hz2); have ha1' : ∀ {wx : World}, wx.heap = wr.heap → wx.rangeAt b1 (o1 + i * 6) cs1 := fun hx j u hu => (heap_cell hx _).trans ((hbw.cell (p := ⟨b1, o1 + i * 6 + j, none⟩) hlt1).trans (ha1 j u hu)); have ha2' : ∀ {wx : World}, wx.heap = wr.heap → wx.rangeAt b2 (o2 + i * 6) cs2 := fun hx j u hu => (heap_cell hx _).trans ((hbw.cell (p := ⟨b2, o2 + i * 6 + j, none⟩) hlt2).trans (ha2 j u hu)); refine K.kgo ?_; refine WC.drawn 10 (fun wx => wx.heap = wr.heap) fun w3 hd => ?_; have hS : w3.heap = wr.heap := hd.heap; have hb3 : Below w2.heap.size w2 w3 := hbr.trans (hd.below _); refine K.fr [0] hS ?_; refine K.wl 1 [3, 4, 10, 11] rfl rfl rfl rfl rfl rfl rfl (fun wx hx => (heap_cell hx _).trans (R1.cell 5 (by simp))) hS ?_; refine K.fr [2] hS ?_; refine K.wi 3 i (o1 + i * 6) rfl rfl rfl rfl rfl rfl rfl rfl rfl hik rfl (.inr hS) ?_; refine K.wm 4 [10, 11] rfl rfl rfl rfl rfl rfl rfl (fun wx hx => ha1' hx) hl1 hS ?_; refine K.fr [5] hS ?_; refine K.wl 6 [8, 9, 10, 11] rfl rfl rfl rfl rfl rfl rfl (fun wx hx => (heap_cell hx _).trans (R2.cell 5 (by simp))) hS ?_; refine K.fr [7] hS ?_; refine K.wi 8 i (o2 + i * 6) rfl rfl rfl rfl rfl rfl rfl rfl rfl (by omega) rfl (.inr hS) ?_; refine K.wm 9 [10, 11] rfl rfl rfl rfl rfl rfl rfl (fun wx hx => ha2' hx) hl2 hS ?_; refine K.wo 10 ?_; have hbw3 : Below w.heap.size w w3 := hb2.trans (hb3.mono hz2); refine WL.call rfl rfl rfl rfl rfl Try.func59 rfl (by kernel_rfl) (equal_any f (hv1.below hbw3) (hv2.below hbw3)) ?_; rintro _ w4 ⟨⟨b, rfl, hb⟩, hb4⟩; refine ⟨_, rfl, ?_⟩; have hb4' : Below w2.heap.size w2 w4 := hb3.trans (hb4.mono hb3.size); refine K.dl ?_; refine K.wo 11 ?_; refine WL.pure rfl rfl rfl rfl ?_; refine K.dl ?_; refine WD.done (by kernel_rfl) ?_; refine K.kgo ?_; have hg1 : v1.kids.getD i noV = v1.kids[i] := by simp [hik]
      have hg2 : v2.kids.getD i noV = v2.kids[i] := by simp [show i < v2.kids.length by omega]
      refine WC.condB rfl (fun hne => ?_) fun heq => ?_
      · refine K.kgo ?_
        refine WQ.ret1 rfl rfl (no (hb2.trans (hb4'.mono hz2)) fun e => ?_); have := hb.2 (by rw [e]); simp [this] at hne
      · refine K.kgo ?_
        refine WQ.again (i + 1) ⟨rfl, rfl, rfl, trivial⟩ ⟨hik, take_snoc_eq ht hik (by omega) ?_, hb4'⟩ (by show v1.kids.length - (i + 1) < v1.kids.length - i; omega); rw [← hg1, ← hg2]; exact hb.1 (by simpa using heq)
    · obtain rfl : i = v1.kids.length := by omega
      refine K.kgo ?_; refine WQ.ret1 rfl rfl ⟨⟨true, rfl, ⟨fun _ => ?_, fun _ => rfl⟩⟩, hb2.trans (hbr.mono hz2)⟩; rw [List.take_length, e6, List.take_length] at ht; exact V.ext' e1 e2 e3 e4 e7 ht
end K
end Go.Proofs.Ytdkkaliiofcflaa

namespace Go.Proofs.Ytdkkaliiofcflaa
open Go.RowKit
namespace K

def encR (v : V) : List Int × Int := if chk 16 v ≠ 0 then ([], chk 16 v) else if 65536 < (encV 16 v).length then ([], 5) else (encV 16 v, 0)
def EncPost (w : World) (v : V) (e : Ending) (w' : World) : Prop := ∃ b, e = .returned (.tuple #[b, .int .i64 (encR v).2]) ∧ Bu w' b (encR v).1 ∧ Below w.heap.size w w' ∧ ∀ g, b.ownBlock = some g → w.heap.size ≤ g
theorem encode_any {f : Nat} {w : World} {v : V} {cs : List Value} (h : IsV f w v cs) (hlen : chk 16 v = 0 → (encV 16 v).length ≤ 70368744177664) :
    Calls Try.prog 45 #[.agg cs.toArray] w (EncPost w v) := by
  have hcs := h.len; refine enter (args := [.agg cs.toArray]) Try.func45 rfl Try.ntmps45 rfl ?_; refine K.kgo ?_; refine WL.box rfl rfl rfl rfl rfl fun g w1 hf => ?_; have hf' : Fresh w g w1 60 cs := hf; clear hf; have hz1 := hf'.size; have h1 := h.below hf'.below; refine K.kgo ?_; refine WL.loadMid rfl rfl rfl rfl rfl rfl (VBlk.rangeAt hf'.blk) hcs ?_; refine WL.call rfl rfl rfl rfl rfl Try.func64 rfl (by kernel_rfl) (Vl.Check_any h1) ?_; rintro _ w2 ⟨rfl, hb2⟩; refine ⟨_, rfl, ?_⟩; have hw2 : Below w.heap.size w w2 := hf'.below.trans (hb2.mono (by omega))
  by_cases hc : chk 16 v = 0
  · refine K.kgo ?_
    refine WL.loadMid rfl rfl rfl rfl rfl rfl (VBlk.rangeAt (hf'.blk.below hb2 hf'.blk.lt)) hcs ?_; refine WL.call rfl rfl rfl rfl rfl Try.func65 rfl (by kernel_rfl) (clay_all 16 (h1.below hb2) hc (Bu.nil w2) ⟨Below.refl _ _, fun g hg => by cases hg⟩ (by have := hlen hc; simp only [List.length_nil]; omega)) ?_; rintro _ w3 ⟨b, rfl, hb, hg⟩; refine ⟨_, rfl, ?_⟩; rw [List.nil_append] at hb; obtain ⟨sp, cap, rfl, hl1, hl2⟩ := hb.form; have hw3 : Below w.heap.size w w3 := hw2.trans (hg.old (B := w.heap.size) (hw2.size) fun g h => by cases h)
    by_cases hbig : 65536 < (encV 16 v).length
    · have hr : encR v = ([], 5) := by unfold encR; rw [if_neg (by simpa using hc), if_pos hbig]
      refine K.kgo ?_; exact WQ.ret2 rfl rfl rfl ⟨_, by rw [hr], by rw [hr]; exact Bu.nil _, hw3, fun g hg => by cases hg⟩
    · have hr : encR v = (encV 16 v, 0) := by unfold encR; rw [if_neg (by simpa using hc), if_neg hbig]
      refine K.kgo ?_; exact WQ.ret2 rfl rfl rfl ⟨_, by rw [hr], by rw [hr]; exact hb, hw3, fun g h => (hg.2 g h).elim (fun h2 => by cases h2) fun h2 => by have := hw2.size; omega⟩
  · have hr : encR v = ([], chk 16 v) := by unfold encR; rw [if_pos hc]
    refine K.kgo ?_; exact WQ.ret2 rfl rfl rfl ⟨_, by rw [hr], by rw [hr]; exact Bu.nil _, hw2, fun g hg => by cases hg⟩

theorem uvB_len (u : Nat) : (uvB u).length ≤ 10 := uvF_len 10 u
theorem encR_ok {v : V} (h : (encR v).2 = 0) : chk 16 v = 0 ∧ (encV 16 v).length ≤ 65536 ∧ (encR v).1 = encV 16 v := by
  unfold encR at h ⊢
  by_cases hc : chk 16 v = 0
  · rw [if_neg (by simpa using hc)] at h ⊢
    by_cases hb : 65536 < (encV 16 v).length
    · rw [if_pos hb] at h; cases h
    · rw [if_neg hb]; exact ⟨hc, by omega, rfl⟩
  · rw [if_pos hc] at h; exact absurd h hc
theorem Byt.nil : Byt [] := fun c h => by cases h
theorem Byt.one {c : Int} (h : 0 ≤ c ∧ c ≤ 255) : Byt [c] := fun x hx => by simp at hx; rw [hx]; exact h
theorem Byt.cons {c : Int} {l : List Int} (h : 0 ≤ c ∧ c ≤ 255) (hl : Byt l) : Byt (c :: l) := fun x hx => (List.mem_cons.1 hx).elim (fun e => by rw [e]; exact h) (hl x)
theorem uvF_byt : ∀ (f u : Nat), Byt (uvF f u)
  | 0, _ => Byt.nil
  | f + 1, u => by
    unfold uvF
    split
    · exact Byt.one (by omega)
    · exact Byt.cons (by omega) (uvF_byt f (u / 128))
theorem uvB_byt (u : Nat) : Byt (uvB u) := uvF_byt 10 u
theorem byI_byt (s : ByteArray) : Byt (byI s) := fun c hc => by
  unfold byI at hc; obtain ⟨x, -, rfl⟩ := List.mem_map.1 hc; have := x.toNat_lt; omega
theorem encV_byt : ∀ (m : Nat) {v : V}, chk m v = 0 → Byt (encV m v)
  | 0, _, h => by cases h
  | m + 1, v, h => by
    obtain ⟨hk, f2, f3, f4, f5, fk, ft, f9⟩ := shp_form (chk_shp h); rw [encV_two]; refine Byt.cons (by omega) ?_
    split
    · exact Byt.one (by have := f2 (by assumption); omega)
    split
    · exact uvB_byt _
    split
    · exact (uvB_byt _).app (Byt.one (by have := f4 (by assumption); omega))
    split
    · exact uvB_byt _
    split
    · exact (uvB_byt _).app (byI_byt _)
    split
    · refine (uvB_byt _).app fun c hc => ?_
      obtain ⟨j, hj, hc⟩ := List.mem_flatMap.1 hc; have hj := List.mem_range.1 hj; unfold pieceE at hc; rcases List.mem_append.1 hc with hc | hc
      · split at hc
        · exact (uvB_byt _).app (byI_byt _) c hc
        · cases hc
      · exact encV_byt m (chk_kid h hj) c hc
    · exact Byt.nil
theorem read_can {l : List Int} {z : V} {r : List Int} (hb : Byt l) (h : readV true l = .ok z r) : chk 16 z = 0 ∧ encV 16 z = l ∧ l.length ≤ 65536 := by
  unfold readV at h; cases hq : rdV 16 l with
  | bad e => rw [hq] at h; cases h
  | ok v r' =>
    rw [hq] at h; simp only at h
    by_cases hc : chk 16 v = 0
    · rw [if_neg (by simpa using hc)] at h
      by_cases h1 : 0 < r'.length
      · rw [if_pos ⟨trivial, h1⟩] at h; cases h
      rw [if_neg (by simp; simpa using h1)] at h; obtain rfl : r' = [] := by cases r' with
        | nil => rfl
        | cons a b => simp at h1
      by_cases h2 : 65536 < l.length - ([] : List Int).length
      · rw [if_pos h2] at h; cases h
      rw [if_neg h2] at h; cases h
      have := rdV_can 16 hq hc hb; rw [List.append_nil] at this; exact ⟨hc, this.symm, by simpa using h2⟩
    · rw [if_pos hc] at h; cases h
end K
end Go.Proofs.Ytdkkaliiofcflaa

namespace Go.Proofs.Ytdkkaliiofcflaa
namespace K
def nmB (l : List Int) : List Int := l.flatMap fun n => uvB (zig n)
def vlB (l : List V) : List Int := l.flatMap fun v => uvB (encV 16 v).length ++ encV 16 v
def vlE : List V → Int
  | [] => 0
  | v :: r => if (encR v).2 ≠ 0 then (encR v).2 else vlE r
def headB (m k : Int) (seq : Nat) (nums : List Int) : List Int := m :: k :: (uvB seq ++ (uvB nums.length ++ nmB nums))
def valsB (l : List V) : List Int := uvB l.length ++ vlB l
structure Rq where
  kind : Int
  seq : Int
  nums : List Int
  text : ByteArray
  params : List V
  hash : List Int
structure Rp where
  seq : Int
  err : Int
  nums : List Int
  rows : List V
  data : List Int
def rqB (r : Rq) : List Int := headB 81 r.kind r.seq.toNat r.nums ++ (uvB r.text.size ++ bytesI r.text) ++ valsB r.params ++ r.hash
def rqE (r : Rq) : Int := if r.kind < 1 ∨ 20 < r.kind ∨ r.seq < 0 ∨ 9007199254740992 < r.seq ∨ 8 < r.nums.length then 1 else if 4096 < r.text.size ∨ 40 < r.params.length then 5 else vlE r.params
def rpB (r : Rp) : List Int := headB 82 r.err r.seq.toNat r.nums ++ valsB r.rows ++ (uvB r.data.length ++ r.data)
def rpE (r : Rp) : Int := if r.err < 0 ∨ 100 < r.err ∨ r.seq < 0 ∨ 9007199254740992 < r.seq ∨ 8 < r.nums.length then 1 else if 4096 < r.rows.length then 5 else vlE r.rows

theorem vlE_mem : ∀ {l : List V}, vlE l = 0 → ∀ v ∈ l, (encR v).2 = 0
  | [], _, v, h => by cases h
  | k :: r, h, v, hv => by
    unfold vlE at h
    by_cases h0 : (encR k).2 ≠ 0
    · rw [if_pos h0] at h; exact absurd h h0
    · rw [if_neg h0] at h
      rcases List.mem_cons.1 hv with rfl | h1
      · omega
      · exact vlE_mem h v h1
theorem vlE_take {l : List V} {i : Nat} (hi : i < l.length) (h : ∀ v ∈ l.take i, (encR v).2 = 0) : (encR (l.getD i noV)).2 ≠ 0 → vlE l = (encR (l.getD i noV)).2 := by
  induction l generalizing i with
  | nil => simp at hi
  | cons k r ih =>
    intro hne; unfold vlE; cases i with
    | zero => simp only [List.getD_cons_zero] at hne ⊢; rw [if_pos hne]
    | succ i =>
      have h0 : (encR k).2 = 0 := h k (by simp); rw [if_neg (by omega)]; simp only [List.getD_cons_succ] at hne ⊢; exact ih (by simpa using hi) (fun v hv => h v (by simp [hv])) hne
theorem vlE_all {l : List V} (h : ∀ v ∈ l, (encR v).2 = 0) : vlE l = 0 := by
  induction l with
  | nil => rfl
  | cons k r ih =>
    unfold vlE; rw [if_neg (by have := h k (by simp); omega)]; exact ih fun v hv => h v (by simp [hv])
theorem vlB_take {l : List V} {i : Nat} (hi : i < l.length) : vlB (l.take (i + 1)) = vlB (l.take i) ++ (uvB (encV 16 (l.getD i noV)).length ++ encV 16 (l.getD i noV)) := by
  unfold vlB; rw [List.take_add_one, List.flatMap_append]; simp [hi]
theorem nmB_take {l : List Int} {i : Nat} (hi : i < l.length) : nmB (l.take (i + 1)) = nmB (l.take i) ++ uvB (zig (nth l i)) := by
  unfold nmB nth; rw [List.take_add_one, List.flatMap_append]; simp [hi]
theorem nmB_len : ∀ (l : List Int), (nmB l).length ≤ 10 * l.length
  | [] => by simp [nmB]
  | k :: r => by
    have := uvB_len (zig k); have h2 := nmB_len r; unfold nmB at h2 ⊢; rw [List.flatMap_cons, List.length_append, List.length_cons]; omega
theorem vlB_app (a b : List V) : vlB (a ++ b) = vlB a ++ vlB b := by unfold vlB; rw [List.flatMap_append]
structure Few (f : Nat) (l : List V) (n : Nat) : Prop where
  len : l.length ≤ 4096
  one : ∀ {v : V}, v ∈ l → chk 16 v = 0 → (encV 16 v).length ≤ 70368744177664
  take : ∀ i : Nat, (∀ v ∈ l.take i, (encR v).2 = 0) → (vlB (l.take i)).length ≤ 200000
theorem Few.bytes {f : Nat} {l : List V} {n : Nat} (h : Few f l n) (h0 : ∀ v ∈ l, (encR v).2 = 0) : (vlB l).length ≤ 200000 := by
  have := h.take l.length; rw [List.take_length] at this; exact this h0
end K
end Go.Proofs.Ytdkkaliiofcflaa

namespace Go.Proofs.Ytdkkaliiofcflaa
open Go.RowKit
namespace K
abbrev R64w (l : List Int) : Prop := ∀ n ∈ l, -9223372036854775808 ≤ n ∧ n ≤ 9223372036854775807
theorem whead_any {w : World} {nv : Value} {nums : List Int} (m k : Int) (n : Nat) (hn : n ≤ 9007199254740992) (hs : Sl .i64 w nv nums) (h64 : R64w nums) (h8 : nums.length ≤ 8) :
    Calls Try.prog 22 #[.int .u8 m, .int .u8 k, .int .i64 (n : Int), nv] w (Makes w (headB m k n nums)) := by
  obtain ⟨sp, cap, rfl, -⟩ := id hs; refine enter (args := [.int .u8 m, .int .u8 k, .int .i64 (n : Int), .slice sp nums.length cap]) Try.func22 rfl Try.ntmps22 rfl ?_; have hul := uvB_lenw n; refine K.kgo ?_; refine WL.lit rfl rfl rfl rfl rfl rfl rfl fun v w1 h1 h2 h3 => ?_; refine K.kgo ?_; refine WL.call rfl rfl rfl rfl rfl Try.func24 rfl (by kernel_rfl) (wcount_any h1 n hn (by simp)) ?_; rintro _ w2 ⟨b2, rfl, q2, g2⟩; refine ⟨_, rfl, ?_⟩; have e2 : [m, k] ++ uvB n = m :: k :: uvB n := rfl; refine K.kgo ?_; refine WL.call rfl rfl rfl rfl rfl Try.func24 rfl (by kernel_rfl) (wcount_any q2 nums.length (by omega) (by rw [e2]; simp only [List.length_cons]; omega)) ?_; rintro _ w3 ⟨b3, rfl, q3, g3⟩; refine ⟨_, rfl, ?_⟩; have ap3 : Apart w w3 b3 := (Apart.grow ⟨h2, h3⟩ g2).grow g3; have q3' : Bu w3 b3 (m :: k :: (uvB n ++ (uvB nums.length ++ nmB (nums.take 0)))) := by simpa [nmB] using q3
  clear q3 q2 h1 g2 g3 h2 h3; refine K.kgo ?_; refine WC.loop (fun i : Nat × Value => [(9, i.2), (20, .slice sp nums.length cap), (21, .int .i64 nums.length), (22, .int .i64 i.1)])
    (fun i wr => i.1 ≤ nums.length ∧ Apart w wr i.2 ∧ Bu wr i.2 (m :: k :: (uvB n ++ (uvB nums.length ++ nmB (nums.take i.1))))) (fun i => nums.length - i.1) (0, b3) ⟨rfl, rfl, rfl, rfl, trivial⟩ ⟨Nat.zero_le _, ap3, q3'⟩ ?_
  rintro ⟨i, b⟩ wr ⟨hi, ap, q⟩; simp only at hi ap q ⊢
  by_cases hik : i < nums.length
  · have hr := h64 _ (nth_mem' nums i hik)
    have hzl := zig_lt hr; refine K.kgo ?_; refine WL.idxI i rfl rfl rfl rfl rfl rfl (hs.of_below ap.below) rfl rfl hik fun p hp => ?_; refine K.kgl ?_; refine WL.call rfl rfl rfl rfl rfl Try.func44 rfl (by kernel_rfl) (zig_any (nth nums i) hr wr) ?_; rintro _ _ ⟨rfl, rfl⟩; refine ⟨_, rfl, ?_⟩; refine WL.call rfl rfl rfl rfl rfl Try.func43 rfl (by kernel_rfl) (uvarint_any (zig (nth nums i)) hzl _) ?_; rintro _ w5 ⟨u, rfl, h5, k5, o5⟩; refine ⟨_, rfl, ?_⟩; have hnl := nmB_len (nums.take i); have hul2 := uvB_lenw nums.length; have hul3 := uvB_lenw (zig (nth nums i)); refine WL.app rfl rfl rfl rfl rfl (q.below k5) rfl h5.sl (by simp only [List.length_cons, List.length_append, List.length_take] at *; omega) fun b6 w6 q6 g6 => ?_; refine K.kgo ?_; refine WQ.again (i + 1, b6) ⟨rfl, rfl, rfl, rfl, trivial⟩ ⟨by show i + 1 ≤ nums.length; omega, ap.grow (((Grow.refl _ b).below k5).trans g6), ?_⟩ (by show nums.length - (i + 1) < nums.length - i; omega)
    show Bu w6 b6 (m :: k :: (uvB n ++ (uvB nums.length ++ nmB (nums.take (i + 1)))))
    rw [nmB_take hik]
    simpa [List.append_assoc] using q6
  · obtain rfl : i = nums.length := by omega
    rw [List.take_length] at q; refine K.kgo ?_; exact WQ.ret1 rfl rfl ⟨b, rfl, q, ap.below, ap.own⟩
def ValsOut (w0 : World) (L : List Int) (l : List V) : Ending → World → Prop := fun e w' => ∃ b, e = .returned (.tuple #[b, .int .i64 (vlE l)]) ∧ Apart w0 w' b ∧ Bu w' b (if vlE l = 0 then L ++ valsB l else [])
set_option maxHeartbeats 1000000 in
theorem wvalues_any {f : Nat} {w0 w : World} {b pv : Value} {L : List Int} {l : List V} {n : Nat} (hl : IsVs f w0 pv l) (hfew : Few f l n) (ap : Apart w0 w b) (hb : Bu w b L) (hL : L.length ≤ 100000) :
    Calls Try.prog 23 #[b, pv] w (ValsOut w0 L l) := by
  obtain ⟨sp, cap, rfl, hcap1, hcap2, hrow⟩ := hl; refine enter (args := [b, .slice sp l.length cap]) Try.func23 rfl Try.ntmps23 rfl ?_; have hl2 := hfew.len; refine K.kgo ?_; refine WL.call rfl rfl rfl rfl rfl Try.func24 rfl (by kernel_rfl) (wcount_any hb l.length (by omega) (by omega)) ?_; rintro _ w3 ⟨b3, rfl, q3, g3⟩; refine ⟨_, rfl, ?_⟩; have ap3 := ap.grow g3; have q3' : Bu w3 b3 (L ++ (uvB l.length ++ vlB (l.take 0))) := by simpa [vlB] using q3
  clear q3 g3 ap hb; refine K.kgo ?_; refine WC.loop (fun i : Nat × Value => [(0, i.2), (14, .slice sp l.length cap), (15, .int .i64 l.length), (16, .int .i64 i.1)])
    (fun i wr => i.1 ≤ l.length ∧ Apart w0 wr i.2 ∧ Bu wr i.2 (L ++ (uvB l.length ++ vlB (l.take i.1))) ∧ ∀ v ∈ l.take i.1, (encR v).2 = 0) (fun i => l.length - i.1) (0, b3) ⟨rfl, rfl, rfl, rfl, trivial⟩ ⟨Nat.zero_le _, ap3, q3', by simp⟩ ?_
  rintro ⟨i, b⟩ wr ⟨hi, ap, q, hok⟩; simp only at hi ap q hok ⊢
  by_cases hik : i < l.length
  · obtain ⟨kb, ko, rfl, hkb, hcells⟩ := hrow (by omega)
    obtain ⟨c, hc6, hci, hcr⟩ := hcells i hik; have hmem : l.getD i noV ∈ l := by rw [List.getD_eq_getElem?_getD, List.getElem?_eq_getElem hik]; exact List.getElem_mem hik
    have hvl := hfew.take i hok; have hvt := vlE_take hik hok; have hBt := vlB_take hik; have hone := hfew.one hmem; have hul := uvB_lenw l.length; generalize hvd : l.getD i noV = v at hci hmem hvt hBt hone; replace hvd := hvd.symm; refine K.kgo ?_; refine WL.idx i (ko + i * 6) rfl rfl rfl rfl rfl rfl rfl rfl hik rfl ?_; refine WL.loadMid rfl rfl rfl rfl rfl rfl (fun j u hu => (ap.below.cell (p := ⟨kb, ko + i * 6 + j, none⟩) hkb).trans (hcr j u hu)) hc6 ?_; refine WL.alloc (z := .agg zCells.toArray) rfl rfl rfl rfl (fun _ => by kernel_rfl) fun g w4 hf => ?_; have hf' : Fresh wr g w4 60 zCells := hf; clear hf; refine K.kgo ?_; refine WL.storeRow rfl rfl rfl rfl rfl rfl hf'.blk hc6 (by rfl) (IsV.one hci) ?_; have hk5 : Below wr.heap.size wr (w4.setRow g c.toArray) := below_setRow hf'.below (by rw [hf'.eq]; exact Nat.le_refl _) _; have T5 := hf'.blk.setRow c; generalize w4.setRow g c.toArray = w5 at hk5 T5 ⊢; clear hf'; have hb5 : Below w0.heap.size w0 w5 := ap.below.trans (hk5.mono ap.below.size); refine K.kgo ?_; refine WL.loadMid rfl rfl rfl rfl rfl rfl (VBlk.rangeAt T5) hc6 ?_; refine WL.call rfl rfl rfl rfl rfl Try.func45 rfl (by kernel_rfl) (encode_any (hci.below hb5) hone) ?_; rintro _ w6 ⟨b6, rfl, q6, k6, o6⟩; refine ⟨_, rfl, ?_⟩; have k56 : Below wr.heap.size wr w6 := hk5.trans (k6.mono hk5.size); have hq6 := q.below k56; have g6 : Grow wr b w6 b := (Grow.refl wr b).below k56
    by_cases he : (encR v).2 ≠ 0
    · have hE := hvt he
      refine K.kgo ?_; refine WQ.ret2 rfl rfl rfl ⟨.slice none 0 0, ?_, ⟨ap.below.trans (k56.mono ap.below.size), fun g h => by cases h⟩, ?_⟩
      · rw [hE]; rfl
      · rw [if_neg (by rw [hE]; exact he)]; exact Bu.nil _
    · replace he : (encR v).2 = 0 := by omega
      obtain ⟨hc0, h65, hx⟩ := encR_ok he; rw [hx] at q6; rw [he]; obtain ⟨sp6, cap6, rfl, -⟩ := q6.form; refine K.kgo ?_; refine WL.call rfl rfl rfl rfl rfl Try.func24 rfl (by kernel_rfl) (wcount_any hq6 (encV 16 v).length (by omega) (by simp only [List.length_append]; omega)) ?_; rintro _ w7 ⟨b7, rfl, q7, g7⟩; refine ⟨_, rfl, ?_⟩; have hk7 : ∀ {x : Value}, (∀ g, x.ownBlock = some g → b.ownBlock ≠ some g) → Bu w6 x (encV 16 v) → Bu w7 x (encV 16 v) := fun hx h => h.keep g7.1 fun g hg => ⟨h.lt g hg, hx g hg⟩; have q67 := hk7 (fun g hg e => by
        have h1 := o6 g hg; have h2 := q.lt g e; have h3 := hk5.size; omega) q6
      refine K.kgo ?_; refine WL.app rfl rfl rfl rfl rfl q7 rfl q67.sl (by simp only [List.length_append]; have := uvB_lenw (encV 16 v).length; omega) fun b8 w8 q8 g8 => ?_; refine K.kgo ?_; refine WQ.again (i + 1, b8) ⟨rfl, rfl, rfl, rfl, trivial⟩ ⟨by show i + 1 ≤ l.length; omega, ap.grow ((g6.trans g7).trans g8), ?_, ?_⟩ (by show l.length - (i + 1) < l.length - i; omega)
      · show Bu w8 b8 (L ++ (uvB l.length ++ vlB (l.take (i + 1))))
        rw [hBt]
        simpa [List.append_assoc] using q8
      · intro x hx
        rw [List.take_add_one, List.mem_append] at hx; rcases hx with h | h
        · exact hok x h
        · have hg : l[i]? = some v := by rw [hvd]; simp [hik]
          rw [hg] at h; simp at h
          rw [h]; exact he
  · obtain rfl : i = l.length := by omega
    rw [List.take_length] at q hok; have hE := vlE_all hok; refine K.kgo ?_; refine WQ.ret2 rfl rfl rfl ⟨b, by rw [hE], ap, ?_⟩; rw [if_pos hE]; exact q
end K
end Go.Proofs.Ytdkkaliiofcflaa

namespace Go.Proofs.Ytdkkaliiofcflaa
open Go.RowKit
namespace K
def rqC (r : Rq) (nv pv : Value) : List Value := .int .i64 r.kind :: .int .i64 r.seq :: nv :: .string r.text :: pv :: r.hash.map (Value.int .u8)
structure IsRq (f : Nat) (w : World) (r : Rq) (nv pv : Value) : Prop where
  nums : Sl .i64 w nv r.nums
  r64 : R64w r.nums
  params : IsVs f w pv r.params
  hash : r.hash.length = 32
  byt : Frm.Byt r.hash
theorem rq_hash {T g : Nat} {w : World} {r : Rq} {nv pv : Value} (h : VBlk T w g (rqC r nv pv)) (hl : r.hash.length = 32) : Sl .u8 w (.slice (some ⟨g, 0 + 5, none⟩) 32 32) r.hash := by
  have := Sl.mk (k := .u8) (w := w) (b := g) (o := 0 + 5) (cap := 32) (l := r.hash) (by omega) (by omega) h.lt (fun j hj => by
    have h1 := (VBlk.rangeAt h) (5 + j) (.int .u8 (nth r.hash j)) (by unfold rqC; rw [show 5 + j = (j + 1 + 1 + 1 + 1 + 1) by omega]; simp [nth, hj]); rw [show (0 + 5 + j) = 0 + (5 + j) by omega]; exact h1)
  rw [hl] at this; exact this
def FrOut (w : World) (E : Int) (P : List Int) : Ending → World → Prop := fun e w' => ∃ b, e = .returned (.tuple #[b, .int .i64 E]) ∧ Apart w w' b ∧ Bu w' b (if E = 0 then Frm.frameL P else [])
theorem FrOut.bad {w w' : World} {E x : Int} {P : List Int} (h : E = x) (hx : x ≠ 0) (hB : Below w.heap.size w w') : FrOut w E P (.returned (.tuple #[.slice none 0 0, .int .i64 x])) w' :=
  ⟨.slice none 0 0, by rw [h], ⟨hB, fun g h => by cases h⟩, by rw [if_neg (by omega)]; exact Bu.nil _⟩
theorem headB_len (m k : Int) (n : Nat) (nums : List Int) (h : nums.length ≤ 8) : (headB m k n nums).length ≤ 102 := by
  unfold headB; have h1 := uvB_lenw n; have h2 := uvB_lenw nums.length; have h3 := nmB_len nums; simp only [List.length_cons, List.length_append]; omega
theorem nmB_byt (l : List Int) : Frm.Byt (nmB l) := fun c hc => by
  unfold nmB at hc; obtain ⟨n, -, h⟩ := List.mem_flatMap.1 hc; exact uvB_bytw _ c h
theorem headB_byt {m k : Int} (hm : 0 ≤ m ∧ m ≤ 255) (hk : 0 ≤ k ∧ k ≤ 255) (n : Nat) (nums : List Int) : Frm.Byt (headB m k n nums) := fun c hc => by
  unfold headB at hc; simp only [List.mem_cons, List.mem_append] at hc; rcases hc with rfl | rfl | h | h | h
  · exact hm
  · exact hk
  · exact uvB_bytw _ c h
  · exact uvB_bytw _ c h
  · exact nmB_byt _ c h
theorem valsB_byt {l : List V} (h : ∀ v ∈ l, (encR v).2 = 0) : Frm.Byt (valsB l) := fun c hc => by
  unfold valsB vlB at hc; rcases List.mem_append.1 hc with h1 | h1
  · exact uvB_bytw _ c h1
  · obtain ⟨v, hv, h2⟩ := List.mem_flatMap.1 h1
    rcases List.mem_append.1 h2 with h3 | h3
    · exact uvB_bytw _ c h3
    · exact encV_byt 16 (encR_ok (h v hv)).1 c h3
theorem valsB_len {f n : Nat} {l : List V} (h : Few f l n) (h0 : vlE l = 0) : (valsB l).length ≤ 200010 := by
  have h1 := h.bytes (vlE_mem h0); have h2 := uvB_lenw l.length; unfold valsB; rw [List.length_append]; omega
set_option maxHeartbeats 2000000 in
theorem rqenc_any {f n : Nat} {w : World} {r : Rq} {nv pv : Value} (h : IsRq f w r nv pv) (hfew : Few f r.params n) (ht : r.text.size ≤ 100000) :
    Calls Try.prog 7 #[.agg (rqC r nv pv).toArray] w (FrOut w (rqE r) (rqB r)) := by
  obtain ⟨⟨kind, seq, nums, text, params, hash⟩, rfl⟩ : ∃ r', r = r' := ⟨r, rfl⟩; obtain ⟨hnums, h64, hpar, hh, hhb⟩ := h; simp only at hnums h64 hpar hh hhb hfew ht; obtain ⟨sn, cn, rfl, -⟩ := id hnums; obtain ⟨sp, cp, rfl, -⟩ := id hpar; refine enter (args := [.agg (rqC ⟨kind, seq, nums, text, params, hash⟩ (.slice sn nums.length cn) (.slice sp params.length cp)).toArray]) Try.func7 rfl Try.ntmps7 rfl ?_; generalize hr : (⟨kind, seq, nums, text, params, hash⟩ : Rq) = r; have hcells : rqC r (.slice sn nums.length cn) (.slice sp params.length cp) = .int .i64 kind :: .int .i64 seq :: .slice sn nums.length cn :: .string text :: .slice sp params.length cp :: hash.map (Value.int .u8) := by rw [← hr]; rfl
  rw [hcells]; refine K.kgn ?_; refine WL.box rfl rfl rfl rfl rfl fun g w1 hf0 => ?_; have hf : Fresh w g w1 32 (rqC r (.slice sn nums.length cn) (.slice sp params.length cp)) := by rw [hcells]; exact hf0
  clear hf0; have hB := hf.below; have hT0 := hf.blk; have cell : ∀ {wx : World}, VBlk 32 wx g (rqC r (.slice sn nums.length cn) (.slice sp params.length cp)) → wx.cell? ⟨g, 0, none⟩ = some (.int .i64 kind) ∧ wx.cell? ⟨g, 1, none⟩ = some (.int .i64 seq) ∧ wx.cell? ⟨g, 2, none⟩ = some (.slice sn nums.length cn) ∧ wx.cell? ⟨g, 3, none⟩ = some (.string text) ∧ wx.cell? ⟨g, 4, none⟩ = some (.slice sp params.length cp) := fun h => by
    rw [hcells] at h; exact ⟨h.cell 0 (by simp), h.cell 1 (by simp), h.cell 2 (by simp), h.cell 3 (by simp), h.cell 4 (by simp)⟩
  obtain ⟨c0, c1, c2, c3, c4⟩ := cell hT0; have bad1 : (kind < 1 ∨ 20 < kind ∨ seq < 0 ∨ 9007199254740992 < seq ∨ 8 < nums.length) → rqE r = 1 := fun h => by rw [← hr]; unfold rqE; rw [if_pos h]
  by_cases h1 : kind < 1
  · refine K.kgl ?_
    exact WQ.ret2 rfl rfl rfl (FrOut.bad (bad1 (.inl h1)) (by decide) hB)
  by_cases h2 : 20 < kind
  · refine K.kgl ?_
    exact WQ.ret2 rfl rfl rfl (FrOut.bad (bad1 (.inr (.inl h2))) (by decide) hB)
  by_cases h3 : seq < 0
  · refine K.kgl ?_
    exact WQ.ret2 rfl rfl rfl (FrOut.bad (bad1 (.inr (.inr (.inl h3)))) (by decide) hB)
  by_cases h4 : 9007199254740992 < seq
  · refine K.kgl ?_
    exact WQ.ret2 rfl rfl rfl (FrOut.bad (bad1 (.inr (.inr (.inr (.inl h4))))) (by decide) hB)
  by_cases h8 : 8 < nums.length
  · refine K.kgl ?_
    exact WQ.ret2 rfl rfl rfl (FrOut.bad (bad1 (.inr (.inr (.inr (.inr h8))))) (by decide) hB)
  clear bad1; have hno : ¬ (kind < 1 ∨ 20 < kind ∨ seq < 0 ∨ 9007199254740992 < seq ∨ 8 < nums.length) := by omega
  have bad5 : (4096 < text.size ∨ 40 < params.length) → rqE r = 5 := fun h => by rw [← hr]; unfold rqE; rw [if_neg hno, if_pos h]
  by_cases h5 : 4096 < text.size
  · refine K.kgl ?_
    exact WQ.ret2 rfl rfl rfl (FrOut.bad (bad5 (.inl h5)) (by decide) hB)
  by_cases h6 : 40 < params.length
  · refine K.kgl ?_
    exact WQ.ret2 rfl rfl rfl (FrOut.bad (bad5 (.inr h6)) (by decide) hB)
  have he : rqE r = vlE params := by rw [← hr]; unfold rqE; rw [if_neg hno, if_neg (show ¬ (4096 < text.size ∨ 40 < params.length) by omega)]
  clear bad5; refine K.kgl ?_; have hw8 : IntKind.u8.wrap kind = kind := by rw [IntKind.wrap_u8]; omega
  obtain ⟨sq, rfl⟩ : ∃ n : Nat, seq = (n : Int) := ⟨seq.toNat, by omega⟩; refine WL.as 44 (.int .u8 kind) rfl (congrArg (Value.int .u8) hw8) ?_; refine WL.call rfl rfl rfl rfl rfl Try.func22 rfl (by kernel_rfl) (whead_any 81 kind sq (by omega) (hnums.of_below hB) h64 (by omega)) ?_; rintro _ w2 ⟨b2, rfl, q2, k2, o2⟩; refine ⟨_, rfl, ?_⟩; have hfe := hf.eq; have hfs := hf.size; have ap2 : Apart w1 w2 b2 := ⟨k2, o2⟩; have T2 := hT0.below k2 hT0.lt; have own2 : ∀ x, b2.ownBlock = some x → x ≠ g := fun x hx => by have := o2 x hx; omega
  have hAp : ∀ {wx : World} {bx : Value}, Grow w2 b2 wx bx → VBlk 32 wx g (rqC r (.slice sn nums.length cn) (.slice sp params.length cp)) := fun h => T2.keep h.1 ⟨T2.lt, fun e => own2 _ e rfl⟩; have hhl := headB_len 81 kind sq nums (by omega); have u3 := uvB_lenw text.size; have T1 := hT0; clear c0 c1 c2 c3 c4 k2 hf hT0; refine K.kgo ?_; refine WC.drawn 10 (fun wx => VBlk 32 wx g (rqC r (.slice sn nums.length cn) (.slice sp params.length cp))) fun w3 hd => ?_; have kd : Below w2.heap.size w2 w3 := hd.below _; have g3 : Grow w2 b2 w3 b2 := (Grow.refl w2 b2).below kd; have q3 := q2.below kd; have hS := hAp g3; clear hd kd q2; refine K.fr [0, 1, 5, 8] hS ?_; refine K.wl 2 [3, 4, 7, 10, 11, 12, 13, 14, 15] rfl rfl rfl rfl rfl rfl rfl (fun wx hx => (cell hx).2.2.2.1) hS ?_; refine K.wl 6 [7, 10, 11, 12, 13, 14, 15] rfl rfl rfl rfl rfl rfl rfl (fun wx hx => (cell hx).2.2.2.1) hS ?_; refine K.wl 9 [10, 11, 12, 13, 14, 15] rfl rfl rfl rfl rfl rfl rfl (fun wx hx => (cell hx).2.2.2.2) hS ?_; refine K.fr [3] hS ?_; refine K.wo 4 ?_; refine WL.call rfl rfl rfl rfl rfl Try.func24 rfl (by kernel_rfl) (wcount_any q3 text.size (by omega) (by omega)) ?_; rintro _ w4 ⟨b4, rfl, q4, g4⟩; refine ⟨_, rfl, ?_⟩; replace hS := hAp (g3.trans g4); refine K.di hS ?_; refine K.wo 7 ?_; refine WL.appS rfl rfl rfl rfl rfl q4 rfl (by rw [List.length_append]; omega) fun b5 w5 q5 g5 => ?_; replace hS := hAp ((g3.trans g4).trans g5); have ap5 := ap2.grow ((g3.trans g4).trans g5); refine K.di hS ?_; refine K.wo 10 ?_; have htl := bytesI_len text; have hHlen : (headB 81 kind sq nums ++ uvB text.size ++ bytesI text).length ≤ 5000 := by simp only [List.length_append]; omega
  refine WL.call rfl rfl rfl rfl rfl Try.func23 rfl (by kernel_rfl) (wvalues_any (hpar.below hB) hfew ap5 q5 (by omega)) ?_; rintro _ w6 ⟨b6, rfl, ap6, q6⟩; refine ⟨_, rfl, ?_⟩; have T6 : VBlk 32 w6 g (rqC r (.slice sn nums.length cn) (.slice sp params.length cp)) := (T1.below ap6.below T1.lt); refine K.dl ?_
  (refine K.fzl 11 rfl (q := ?_); refine K.fzl 12 rfl (q := ?_); refine K.fzl 13 rfl (q := ?_); refine K.fzl 14 rfl (q := ?_); refine K.fzl 15 rfl (q := ?_))
  refine WD.done (by kernel_rfl) ?_; have hw6 : Below w.heap.size w w6 := hB.trans (ap6.below.mono hB.size)
  by_cases hv : vlE params ≠ 0
  · refine K.kgo ?_
    exact WQ.ret2 rfl rfl rfl (FrOut.bad he hv hw6)
  replace hv : vlE params = 0 := by omega
  rw [if_pos hv] at q6; rw [hv]; have hvl := valsB_len hfew hv; have hvb := valsB_byt (vlE_mem hv); have hrh : r.hash = hash := by rw [← hr]
  have hhs := rq_hash T6 (by rw [hrh]; exact hh); rw [hrh] at hhs; refine K.kgo ?_; refine WL.all rfl rfl rfl rfl rfl rfl ?_; refine WL.app rfl rfl rfl rfl rfl q6 rfl hhs (by rw [List.length_append, hh]; omega) fun b7 w7 q7 g7 => ?_; have hall : headB 81 kind sq nums ++ uvB text.size ++ bytesI text ++ valsB params ++ hash = rqB r := by rw [← hr]; unfold rqB; simp [List.append_assoc]
  have hbytes : Frm.Byt (rqB r) := by
    rw [← hall]; intro c hc; simp only [List.mem_append] at hc; rcases hc with (((h | h) | h) | h) | h
    · exact headB_byt (by omega) (by omega) _ _ c h
    · exact uvB_bytw _ c h
    · exact bytesI_byt _ c h
    · exact hvb c h
    · exact hhb c h
  have hlen : (rqB r).length ≤ 300000 := by rw [← hall, List.length_append, List.length_append, hh]; omega
  rw [hall] at q7; have ap7 := ap6.grow g7; refine WL.call rfl rfl rfl rfl rfl Try.func25 rfl (by kernel_rfl) (fenc_any q7.sl hbytes (by omega)) ?_; rintro _ w8 ⟨b8, rfl, q8, k8, o8⟩; refine ⟨_, rfl, ?_⟩; have hw7 : Below w.heap.size w w7 := hB.trans (ap7.below.mono hB.size); rw [if_neg (by omega)] at q8; rw [if_neg (by omega)]; refine K.kgo ?_; refine WQ.ret2 rfl rfl rfl ⟨b8, ?_, ⟨hw7.trans (k8.mono hw7.size), fun x hx => Nat.le_trans hw7.size (o8 x hx)⟩, ?_⟩
  · rw [he, hv]; rfl
  · rw [if_pos (by rw [he, hv])]; exact q8
end K
end Go.Proofs.Ytdkkaliiofcflaa

namespace Go.Proofs.Ytdkkaliiofcflaa
open Go.RowKit
namespace K
structure WR (B : Nat) (w : World) (rb : Nat) (l : List Int) : Prop where
  rlt : rb < B
  byt : Byt l
  ex : ∃ sp cap, VBlk 75 w rb [.slice sp l.length cap, .bool false] ∧ SlB (fun b => b < B ∧ b ≠ rb) w (.slice sp l.length cap) l
theorem WR.keep {B : Nat} {w w' : World} {rb : Nat} {l : List Int} (h : WR B w rb l) {K : Nat → Prop} (hk : Keep K w w') (hK : ∀ b, b < B → K b) : WR B w' rb l := by
  obtain ⟨sp, cap, h1, h2⟩ := h.ex; exact ⟨h.rlt, h.byt, sp, cap, h1.keep hk (hK _ h.rlt), h2.keep hk fun b hb => hK b hb.1⟩
theorem WR.setL {B : Nat} {w : World} {rb : Nat} {l l' : List Int} {v' : Value} (h : WR B w rb l) (hb : Byt l') (hv : SlB (fun b => b < B ∧ b ≠ rb) w v' l') : WR B (w.setCell ⟨rb, 0, none⟩ v') rb l' := by
  obtain ⟨sp, cap, h1, h2⟩ := h.ex; obtain ⟨sp', cap', rfl, -⟩ := hv.sl; exact ⟨h.rlt, hb, sp', cap', h1.set 0 (.slice sp' l'.length cap'), hv.keep (K := fun b => b ≠ rb) ((Keep.refl _ w).setCell (fun hk => hk rfl) _) fun b hb => hb.2⟩
section
variable {n : NN} {Q : Exit → Act → World → Prop} {l : Env} {w w' : World} {ops : Array Oper} {o : Oper} {rest : List Oper} {d : Nat}
theorem WL.uptoW {O : Nat → Prop} {t e : Nat} {x hi : Operand} {v : Value} {kk : IntKind} {z : Int} {zs : List Int} {w0 : World} (hg : o.guard = none) (hd : o.dst = some d) (hn : Nat.blt d n.n = true) (ho : o.op = .slice t x none (some hi) none) (ht : tyOf ty t = some (.slice e 1))
    (hx : evl l x = some v) (hhi : evl l hi = some (.int kk z)) (h0 : 0 ≤ z) (h1 : z ≤ zs.length) (hs : SlB O w0 v zs) (h : ∀ v', SlB O w0 v' (zs.take z.toNat) → WL n ops Q rest ((d, v') :: l) w) : WL n ops Q (o :: rest) l w := by
  have hs0 := hs.sl; have hlt := hs.lt; obtain ⟨sp, cap, rfl, hc, hm, hr, hn0⟩ := hs.sl; refine WL.step hg hd hn (v := sliced sp 0 z.toNat cap 1) (fun a ha => ?_) (h _ ⟨sl_to hs0 (by omega), fun hl0 b o s m c e => ?_⟩)
  · obtain ⟨hu, hsz⟩ := TyOk.of tyOk ht
    have he : Try.prog.elem t = e := by simp [Program.elem, hu]
    have hu' : Try.prog.underlying t = some (.slice (Try.prog.elem t)) := by rw [he]; exact hu
    have hs : (sizeOf e).run Try.prog w = .ok 1 w := by
      cases hq : Try.prog.info? e with
      | none => rw [hq] at hsz; cases hsz
      | some q => rw [hq] at hsz; simp at hsz; simp [sizeOf, typeInfo, hq, hsz]
    unfold execOp; rw [ho]; simp [ha.eval hx, ha.eval hhi, run_sliceAt_slice w t _ _ _ _ hu', run_slice_h w t sp zs.length cap hu' kk z h0 (by omega), he, hs]
  · unfold sliced at e
    injection e with e1 _ _
    cases sp with
    | none => split at e1 <;> cases e1
    | some p =>
      obtain ⟨pb, po, ps⟩ := p; have := hlt (by rw [List.length_take] at hl0; omega) pb po ps _ _ rfl
      split at e1
      · cases e1; exact this
      · have e2 := congrArg (fun q => q.map Addr.block) e1
        have e3 : ((⟨pb, po, ps⟩ : Addr).add (0 * 1)).block = pb := by unfold Addr.add; split <;> rfl
        simp only [Option.map_some, Option.some.injEq, e3] at e2; rw [← e2]; exact this
end
variable {B rb : Nat} {w : World}
theorem wnumber_any {n : Nat} {r : List Int} (h : WR B w rb (uvB n ++ r)) (hn : n < 18446744073709551616) :
    Calls Try.prog 56 #[.pointer (some ⟨rb, 0, none⟩)] w fun e w' => e = .returned (.int .u64 (n : Int)) ∧ WR B w' rb r ∧ KeepR rb w w' := by
  refine enter (args := [.pointer (some ⟨rb, 0, none⟩)]) Try.func56 rfl Try.ntmps56 rfl ?_; obtain ⟨sp, cap, h1, h2⟩ := h.ex; have hrd := rdU_enc hn r; have hru : ruV (uvB n ++ r) = [.int .u64 (n : Nat), .int .i64 (((uvB n ++ r).length - r.length : Nat) : Int), .int .i64 0] := by unfold ruV; rw [hrd]
  have hbr : Byt r := fun c hc => h.byt c (List.mem_append.2 (.inr hc)); have hdr : (uvB n ++ r).drop ((((uvB n ++ r).length - r.length : Nat) : Int).toNat) = r := by
    rw [List.length_append, Int.toNat_natCast, show (uvB n).length + r.length - r.length = (uvB n).length by omega]; exact List.drop_left' rfl
  have hle : (uvB n ++ r).length - r.length ≤ (uvB n ++ r).length := by omega
  generalize (uvB n ++ r).length - r.length = k at hru hdr hle; refine K.kgo ?_; refine WL.load rfl rfl rfl rfl rfl rfl (h1.cell 1 (by simp)) ?_; refine K.kgo ?_; refine WL.load rfl rfl rfl rfl rfl rfl (h1.cell 0 (by simp)) ?_; refine WL.call rfl rfl rfl rfl rfl Try.func72 rfl (by kernel_rfl) (readUvarint_any h2.sl h.byt) ?_; rintro _ _ ⟨rfl, rfl⟩; refine ⟨_, rfl, ?_⟩; rw [hru]; refine K.kgo ?_; refine WL.load rfl rfl rfl rfl rfl rfl (h1.cell 0 (by simp)) ?_; refine K.kgo ?_; refine WL.fromB (z := (k : Int)) rfl rfl rfl rfl rfl rfl rfl (by omega) (by omega) h2 fun v' hv' => ?_; rw [hdr] at hv'; have hv : v'.oneCell' = true := by obtain ⟨_, _, rfl, -⟩ := hv'.sl; rfl
  refine K.kgo ?_; refine WL.store rfl rfl rfl rfl rfl hv (by kernel_rfl) (h1.cell 0 (by simp)) (h1.free 0) ?_; refine K.kgo ?_; exact WQ.ret1 rfl rfl ⟨rfl, h.setL hbr hv', KeepR.set _ _ _ _⟩
theorem wupTo_any {n most : Nat} {r : List Int} (h : WR B w rb (uvB n ++ r)) (hn : n ≤ most) (hm : most ≤ 9007199254740992) :
    Calls Try.prog 32 #[.pointer (some ⟨rb, 0, none⟩), .int .i64 (most : Int)] w fun e w' => e = .returned (.int .i64 (n : Int)) ∧ WR B w' rb r ∧ KeepR rb w w' := by
  refine enter (args := [.pointer (some ⟨rb, 0, none⟩), .int .i64 (most : Int)]) Try.func32 rfl Try.ntmps32 rfl ?_; have hw64 : IntKind.u64.wrap (most : Int) = (most : Int) := wraps_u64 _ (by omega) (by omega); refine K.kgo ?_; refine WL.call rfl rfl rfl rfl rfl Try.func56 rfl (by kernel_rfl) (wnumber_any h (by omega)) ?_; rintro _ w2 ⟨rfl, h2, k2⟩; refine ⟨_, rfl, ?_⟩; refine K.kgo ?_; exact WQ.ret1 rfl rfl ⟨rfl, h2, k2⟩
theorem wtake_any {k : Nat} {A r : List Int} (h : WR B w rb (A ++ r)) (hk : A.length = k) (hs : k ≤ 9007199254740992) :
    Calls Try.prog 34 #[.pointer (some ⟨rb, 0, none⟩), .int .i64 (k : Int)] w fun e w' => ∃ v, e = .returned v ∧ SlB (fun b => b < B ∧ b ≠ rb) w' v A ∧ WR B w' rb r ∧ KeepR rb w w' := by
  refine enter (args := [.pointer (some ⟨rb, 0, none⟩), .int .i64 (k : Int)]) Try.func34 rfl Try.ntmps34 rfl ?_; obtain ⟨sp, cap, h1, h2⟩ := h.ex; have hbr : Byt r := fun c hc => h.byt c (List.mem_append.2 (.inr hc)); have hdr : (A ++ r).drop k = r := by rw [← hk]; exact List.drop_left' rfl
  have htk : (A ++ r).take k = A := by rw [← hk]; exact List.take_left' rfl
  have hle : k ≤ (A ++ r).length := by rw [List.length_append]; omega
  refine K.kgo ?_; refine WL.load rfl rfl rfl rfl rfl rfl (h1.cell 1 (by simp)) ?_; refine K.kgo ?_; refine WL.load rfl rfl rfl rfl rfl rfl (h1.cell 0 (by simp)) ?_; refine K.kgo ?_; refine WL.load rfl rfl rfl rfl rfl rfl (h1.cell 0 (by simp)) ?_; refine K.kgo ?_; refine WL.uptoW (z := (k : Int)) rfl rfl rfl rfl rfl rfl rfl (by omega) (by omega) h2 fun v1 hv1 => ?_; rw [Int.toNat_natCast, htk] at hv1; refine K.kgo ?_; refine WL.load rfl rfl rfl rfl rfl rfl (h1.cell 0 (by simp)) ?_; refine K.kgo ?_; refine WL.fromB (z := (k : Int)) rfl rfl rfl rfl rfl rfl rfl (by omega) (by omega) h2 fun v' hv' => ?_; rw [Int.toNat_natCast, hdr] at hv'; have hv : v'.oneCell' = true := by obtain ⟨_, _, rfl, -⟩ := hv'.sl; rfl
  refine K.kgo ?_; refine WL.store rfl rfl rfl rfl rfl hv (by kernel_rfl) (h1.cell 0 (by simp)) (h1.free 0) ?_; refine K.kgo ?_; refine WQ.ret1 rfl rfl ⟨v1, rfl, hv1.keep (K := fun b => b ≠ rb) ((Keep.refl _ w).setCell (fun hk => hk rfl) _) fun b hb => hb.2, h.setL hbr hv', KeepR.set _ _ _ _⟩
theorem wbyte_any {c : Int} {r : List Int} (h : WR B w rb (c :: r)) :
    Calls Try.prog 31 #[.pointer (some ⟨rb, 0, none⟩)] w fun e w' => e = .returned (.int .u8 c) ∧ WR B w' rb r ∧ KeepR rb w w' := by
  refine enter (args := [.pointer (some ⟨rb, 0, none⟩)]) Try.func31 rfl Try.ntmps31 rfl ?_; refine K.kgo ?_; refine WL.call rfl rfl rfl rfl rfl Try.func34 rfl (by kernel_rfl) (wtake_any (k := 1) (A := [c]) (r := r) h rfl (by omega)) ?_; rintro _ w2 ⟨v, rfl, hv, h2, k2⟩; refine ⟨_, rfl, ?_⟩; obtain ⟨sp, cap, rfl, -⟩ := id hv.sl; refine K.kgo ?_; refine WL.idxI 0 rfl rfl rfl rfl rfl rfl hv.sl rfl rfl (by simp) fun p hp => ?_; refine K.kgl ?_; exact WQ.ret1 rfl rfl ⟨rfl, h2, k2⟩
end K
end Go.Proofs.Ytdkkaliiofcflaa

namespace Go.Proofs.Ytdkkaliiofcflaa
open Go.RowKit
namespace K
theorem elemI1 : ElemV Try.prog 22 3 1 8 := ElemV.mk' (z := .int .i64 0) Try.underlying22 (by kernel_rfl) rfl (by omega)
def intP (x : Int) (cs : List Value) : Prop := cs = [.int .i64 x]
theorem intP_sl {O : Nat → Prop} {w : World} {v : Value} {l : List Int} (h : Els 1 0 intP O w v l) : Sl .i64 w v l := by
  obtain ⟨sp, cap, h1, h2, h3, h4, h5⟩ := h; refine ⟨sp, cap, h1, h2, h3, fun h0 => ?_, h4⟩; obtain ⟨b, o, e, hb, -, hr⟩ := h5 h0; refine ⟨b, o, e, hb, fun j hj => ?_⟩; obtain ⟨cs, -, hp, hat⟩ := hr j hj; unfold intP at hp; subst hp; have := hat 0 _ rfl; rw [Nat.mul_one, Nat.add_zero] at this; rw [this]
  rfl
theorem nmB_drop {l : List Int} {i : Nat} (hi : i < l.length) : nmB (l.drop i) = uvB (zig (nth l i)) ++ nmB (l.drop (i + 1)) := by
  unfold nmB nth; rw [List.drop_eq_getElem_cons hi, List.flatMap_cons]; simp [hi]
theorem vlB_drop {l : List V} {i : Nat} (hi : i < l.length) : vlB (l.drop i) = uvB (encV 16 (l.getD i noV)).length ++ (encV 16 (l.getD i noV) ++ vlB (l.drop (i + 1))) := by
  unfold vlB; rw [List.drop_eq_getElem_cons hi, List.flatMap_cons]; simp [hi]
theorem snoc_take {α : Type} (l : List α) (z : α) {i : Nat} (h : i < l.length) : l.take (i + 1) = l.take i ++ [l.getD i z] := by rw [List.take_add_one]; simp [h]
variable {B rb : Nat} {w : World}
theorem WR.setF {l : List Int} (h : WR B w rb l) : WR B (w.setCell ⟨rb, 1, none⟩ (.bool false)) rb l := by
  obtain ⟨sp, cap, h1, h2⟩ := h.ex; exact ⟨h.rlt, h.byt, sp, cap, h1.set 1 (.bool false), h2.keep (K := fun b => b ≠ rb) ((Keep.refl _ w).setCell (fun hk => hk rfl) _) fun b hb => hb.2⟩
set_option maxHeartbeats 1000000 in
theorem wnums_any {nums r : List Int} (h : WR B w rb (uvB nums.length ++ (nmB nums ++ r))) (hB : B ≤ w.heap.size) (h8 : nums.length ≤ 8) (h64 : R64w nums) :
    Calls Try.prog 33 #[.pointer (some ⟨rb, 0, none⟩)] w fun e w' => ∃ v, e = .returned v ∧ OwnE 3 1 0 intP (fun b => w.heap.size ≤ b) w' v nums ∧ WR B w' rb r ∧ KeepR rb w w' := by
  refine enter (args := [.pointer (some ⟨rb, 0, none⟩)]) Try.func33 rfl Try.ntmps33 rfl ?_; have hrB := h.rlt; refine K.kgo ?_; refine WL.call rfl rfl rfl rfl rfl Try.func32 rfl (by kernel_rfl) (wupTo_any (most := 8) h h8 (by omega)) ?_; rintro _ w1 ⟨rfl, h1, k1⟩; refine ⟨_, rfl, ?_⟩; refine K.kgo ?_; refine WC.loop (fun i : Nat × Value => [(0, .pointer (some ⟨rb, 0, none⟩)), (3, i.2), (5, .int .i64 nums.length), (6, .int .i64 i.1)])
    (fun i wr => i.1 ≤ nums.length ∧ WR B wr rb (nmB (nums.drop i.1) ++ r) ∧ OwnE 3 1 0 intP (fun b => w.heap.size ≤ b) wr i.2 (nums.take i.1) ∧ KeepR rb w wr) (fun i => nums.length - i.1) (0, .slice none 0 0) ⟨rfl, rfl, rfl, rfl, trivial⟩
    ⟨Nat.zero_le _, h1, OwnE.nil _ _ _ _ _ _, k1⟩ ?_
  rintro ⟨i, v⟩ wr ⟨hi, hr, ho, hk⟩; simp only at hi hr ho hk ⊢
  by_cases hik : i < nums.length
  · have hn := h64 _ (nth_mem' nums i hik)
    have hzl := zig_lt hn; rw [nmB_drop hik, List.append_assoc] at hr; refine K.kgo ?_; refine WL.call rfl rfl rfl rfl rfl Try.func56 rfl (by kernel_rfl) (wnumber_any hr hzl) ?_; rintro _ w2 ⟨rfl, h2, k2⟩; refine ⟨_, rfl, ?_⟩; refine WL.call rfl rfl rfl rfl rfl Try.func57 rfl (by kernel_rfl) (zag_any _ hzl w2) ?_; rintro _ _ ⟨rfl, rfl⟩; refine ⟨_, rfl, ?_⟩; rw [zag_zig]; have ho2 := ho.keep (P' := intP) (O' := fun b => w.heap.size ≤ b) k2 (fun g hg => ⟨ho.lt hg, by have := ho.own hg; omega⟩) (fun _ h => h) fun _ _ h => h; refine WL.lit1 (cs := [.int .i64 (nth nums i)]) rfl rfl rfl rfl rfl rfl rfl rfl ⟨by omega, by omega⟩ (by kernel_rfl) fun g7 w7 hf7 => ?_; have hz7 := hf7.size; have k7 := hf7.below; have h7 := h2.keep (Keep.of_below k7) fun b hb => by have := k2.size; have := hk.size; omega
    have ho7 := ho2.keep (P' := intP) (O' := fun b => w.heap.size ≤ b) (Keep.of_below k7) (fun g hg => ho2.lt hg) (fun _ h => h) fun _ _ h => h; have hlt : (nums.take i).length ≤ i := by rw [List.length_take]; omega
    refine WL.snoc (y := nth nums i) rfl rfl rfl rfl elemI1 rfl ho7 rfl hf7.blk (by intro u hu; simp at hu; rw [hu]; rfl) rfl rfl (by omega) (by omega) fun v8 w8 ho8 hg8 => ?_; have k27 : KeepR rb w w7 := (hk.trans k2).trans (KeepR.below k7); have hzw := k27.size; refine K.kgo ?_; refine WQ.again (i + 1, v8) ⟨rfl, rfl, rfl, rfl, trivial⟩ ⟨by show i + 1 ≤ nums.length; omega, h7.keep hg8.1 (fun b hb => ⟨by omega, fun e => by have := ho7.own e; omega⟩), ?_, ?_⟩ (by show nums.length - (i + 1) < nums.length - i; omega)
    · show OwnE _ _ _ _ _ _ _ (nums.take (i + 1))
      rw [take_succ' nums i hik]; exact ho8.keep (Keep.refl (fun _ => True) w8) (fun _ _ => trivial) (fun b hb => by omega) fun _ _ h => h
    · exact Keep.trans k27 (hg8.1.mono fun b hb => ⟨by have := hb.1; omega, fun e => by have := ho7.own e; have := hb.1; omega⟩)
  · obtain rfl : i = nums.length := by omega
    rw [List.drop_length] at hr; rw [List.take_length] at ho; refine K.kgo ?_; exact WQ.ret1 rfl rfl ⟨v, rfl, ho, hr, hk⟩
def Backs (l : List V) : Prop := ∀ v ∈ l, readV true (encV 16 v) = .ok v [] ∧ Byt (encV 16 v) ∧ (encV 16 v).length ≤ 65536
set_option maxHeartbeats 2000000 in
theorem wreadvals_any {l : List V} {r : List Int} {most : Nat} (h : WR B w rb (uvB l.length ++ (vlB l ++ r))) (hB : B ≤ w.heap.size) (hm : l.length ≤ most) (hmm : most ≤ 1000000) (hl : Backs l) :
    Calls Try.prog 35 #[.pointer (some ⟨rb, 0, none⟩), .int .i64 (most : Int)] w fun e w' => ∃ v, e = .returned v ∧ (∃ q : Nat → Prop, OwnE 60 6 noV (IsVo q 17 w') (fun b => w.heap.size ≤ b) w' v l ∧ ∀ b, q b → w.heap.size ≤ b ∧ b < w'.heap.size) ∧ WR B w' rb r ∧ KeepR rb w w' := by
  refine enter (args := [.pointer (some ⟨rb, 0, none⟩), .int .i64 (most : Int)]) Try.func35 rfl Try.ntmps35 rfl ?_; have hrB := h.rlt; refine K.kgo ?_; refine WL.call rfl rfl rfl rfl rfl Try.func32 rfl (by kernel_rfl) (wupTo_any (most := most) h hm (by omega)) ?_; rintro _ w1 ⟨rfl, h1, k1⟩; refine ⟨_, rfl, ?_⟩; refine K.kgo ?_; refine WC.loop (fun i : Nat × Value => [(0, .pointer (some ⟨rb, 0, none⟩)), (5, i.2), (10, .int .i64 l.length), (11, .int .i64 i.1)])
    (fun i wr => i.1 ≤ l.length ∧ WR B wr rb (vlB (l.drop i.1) ++ r) ∧ (∃ q : Nat → Prop, OwnE 60 6 noV (IsVo q 17 wr) (fun b => w.heap.size ≤ b) wr i.2 (l.take i.1) ∧ ∀ b, q b → w.heap.size ≤ b ∧ b < wr.heap.size ∧ i.2.ownBlock ≠ some b) ∧ KeepR rb w wr) (fun i => l.length - i.1) (0, .slice none 0 0) ⟨rfl, rfl, rfl, rfl, trivial⟩
    ⟨Nat.zero_le _, h1, ⟨fun _ => False, OwnE.nil _ _ _ _ _ _, fun b h => h.elim⟩, k1⟩ ?_
  rintro ⟨i, v⟩ wr ⟨hi, hr, ⟨q, ho, hq⟩, hk⟩; simp only at hi hr ho hq hk ⊢
  by_cases hik : i < l.length
  · have hmem : l.getD i noV ∈ l := by rw [List.getD_eq_getElem?_getD, List.getElem?_eq_getElem hik]; exact List.getElem_mem hik
    obtain ⟨hrd, hby, h65⟩ := hl _ hmem; have htk := snoc_take l noV hik; rw [vlB_drop hik, List.append_assoc, List.append_assoc] at hr; generalize l.getD i noV = x at hmem hrd hby h65 htk hr; have hzr := hk.size; refine K.kgo ?_; refine WL.call rfl rfl rfl rfl rfl Try.func32 rfl (by kernel_rfl) (wupTo_any (most := 65536) hr h65 (by omega)) ?_; rintro _ w2 ⟨rfl, h2, k2⟩; refine ⟨_, rfl, ?_⟩; refine WL.call rfl rfl rfl rfl rfl Try.func34 rfl (by kernel_rfl) (wtake_any (k := (encV 16 x).length) (A := encV 16 x) h2 rfl (by omega)) ?_; rintro _ w3 ⟨tv, rfl, htv, h3, k3⟩; refine ⟨_, rfl, ?_⟩; refine WL.call rfl rfl rfl rfl rfl Try.func58 rfl (by kernel_rfl) (decode_any htv.sl hby (by omega)) ?_; rintro _ w4 ⟨k4, y, cs, e4, rfl, hv4, hm4⟩; refine ⟨_, rfl, ?_⟩; rw [hrd] at hm4; obtain ⟨rfl, rfl⟩ := hm4; have hz2 := k2.size; have hz3 := k3.size; have hz4 := k4.size; have kr4 : KeepR rb wr w4 := (k2.trans k3).trans (KeepR.below k4); have h4 := h3.keep (Keep.of_below k4) fun b hb => by omega
    have hc6 := hv4.len; refine K.kgo ?_; refine WL.alloc (z := .agg zCells.toArray) rfl rfl rfl rfl (fun _ => by kernel_rfl) fun g5 w5 hf5 => ?_; have hf5' : Fresh w4 g5 w5 60 zCells := hf5; clear hf5; have hg5 := hf5'.eq; have hz5 := hf5'.size; refine K.kgo ?_; refine WL.storeRow rfl rfl rfl rfl rfl rfl hf5'.blk hc6 (by rfl) hv4.one ?_; have k6 : Below w4.heap.size w4 (w5.setRow g5 cs.toArray) := below_setRow hf5'.below (by rw [hg5]; exact Nat.le_refl _) _; have T6 := hf5'.blk.setRow cs; have hz6 : (w5.setRow g5 cs.toArray).heap.size = w5.heap.size := by simp
    generalize w5.setRow g5 cs.toArray = w6 at k6 T6 hz6 ⊢; clear hf5'; have h6 := h4.keep (Keep.of_below k6) fun b hb => by omega
    obtain ⟨sp6, cap6, hb6, -⟩ := h6.ex; refine K.kgo ?_; refine WL.load rfl rfl rfl rfl rfl rfl (hb6.cell 1 (by simp)) ?_; refine K.kgo ?_; refine WL.store rfl rfl rfl rfl rfl rfl (by kernel_rfl) (hb6.cell 1 (by simp)) (hb6.free 1) ?_; have h7 := h6.setF; have hset : Keep (fun b => b ≠ rb) w6 (w6.setCell ⟨rb, 1, none⟩ (.bool false)) := (Keep.refl _ w6).setCell (fun hk => hk rfl) _; have T7 : VBlk 60 (w6.setCell ⟨rb, 1, none⟩ (.bool false)) g5 cs := T6.other _ _ (by show g5 ≠ rb; omega); have kr6 : KeepR rb w4 (w6.setCell ⟨rb, 1, none⟩ (.bool false)) := (KeepR.below k6).trans (KeepR.set _ _ _ _); have hz7 : (w6.setCell ⟨rb, 1, none⟩ (.bool false)).heap.size = w6.heap.size := by simp
    generalize w6.setCell ⟨rb, 1, none⟩ (.bool false) = w7 at h7 hset T7 kr6 hz7 ⊢; obtain ⟨sp7, cap7, hb7, -⟩ := h7.ex; refine K.kgo ?_; refine WL.load rfl rfl rfl rfl rfl rfl (hb7.cell 1 (by simp)) ?_; refine K.kgo ?_; refine WL.loadMid rfl rfl rfl rfl rfl rfl (VBlk.rangeAt T7) hc6 ?_; refine WL.lit1 rfl rfl rfl rfl rfl rfl rfl hc6 ⟨by omega, by omega⟩ (by kernel_rfl) fun g8 w8 hf8 => ?_; have hz8 := hf8.size; have kr8 : KeepR rb wr w8 := (kr4.trans kr6).trans (KeepR.below hf8.below); have h8 := h7.keep (Keep.of_below hf8.below) fun b hb => by omega
    have hrB' : rb < w.heap.size := by omega
    have ho8 : OwnE 60 6 noV (IsVo (fun b => q b ∨ (w3.heap.size ≤ b ∧ b < w4.heap.size)) 17 w8) (fun b => w.heap.size ≤ b) w8 v (l.take i) :=
      ho.keep kr8 (fun g hg => ⟨ho.lt hg, by have := ho.own hg; omega⟩) (fun _ h => h) fun x cs hx => hx.keep kr8 (fun b hb _ => ⟨(hq b hb).2.1, by have := (hq b hb).1; omega⟩) fun b hb => .inl hb
    have kr48 : KeepR rb w4 w8 := kr6.trans (KeepR.below hf8.below); have hv8 : IsVo (fun b => q b ∨ (w3.heap.size ≤ b ∧ b < w4.heap.size)) 17 w8 y cs := hv4.there.keep kr48 (fun b hb _ => ⟨hb.2, by have := hb.1; omega⟩) fun b hb => .inr hb; have hlt : (l.take i).length ≤ i := by rw [List.length_take]; omega
    refine WL.snoc rfl rfl rfl rfl elemV6 rfl ho8 rfl hf8.blk hv4.one hc6 hv8 (by omega) (by omega) fun v9 w9 ho9 hg9 => ?_; have hz9 := hg9.1.size; have hq9 : ∀ b, (q b ∨ (w3.heap.size ≤ b ∧ b < w4.heap.size)) → w.heap.size ≤ b ∧ b < w8.heap.size ∧ v.ownBlock ≠ some b := fun b hb => hb.elim (fun h => by
        obtain ⟨h1, h2, h3⟩ := hq b h; exact ⟨h1, by omega, h3⟩) fun h => ⟨by omega, by omega, fun e => by have := ho.lt e; omega⟩
    refine K.kgo ?_; refine WQ.again (i + 1, v9) ⟨rfl, rfl, rfl, rfl, trivial⟩ ⟨by show i + 1 ≤ l.length; omega, h8.keep hg9.1 (fun b hb => ⟨by omega, fun e => by have := ho8.own e; omega⟩), ⟨(fun b => q b ∨ (w3.heap.size ≤ b ∧ b < w4.heap.size)), ?_, fun b hb => ?_⟩, ?_⟩ (by show l.length - (i + 1) < l.length - i; omega)
    · show OwnE _ _ _ _ _ _ _ (l.take (i + 1))
      rw [htk]; exact ho9.keep (Keep.refl (fun _ => True) w9) (fun _ _ => trivial) (fun b hb => by omega) fun x cs hx => hx.keep hg9.1 (fun b hb _ => (hq9 b hb).2) fun b hb => hb
    · obtain ⟨e1, e2, e3⟩ := hq9 b hb
      exact ⟨e1, by omega, fun e => (hg9.2 b e).elim e3 fun h4 => by omega⟩
    · exact Keep.trans (hk.trans kr8) (hg9.1.mono fun b hb => ⟨by have := hb.1; have := kr8.size; omega, fun e => by have := ho8.own e; have := hb.1; omega⟩)
  · obtain rfl : i = l.length := by omega
    rw [List.drop_length] at hr; rw [List.take_length] at ho; refine K.kgo ?_; exact WQ.ret1 rfl rfl ⟨v, rfl, ⟨q, ho, fun b hb => ⟨(hq b hb).1, (hq b hb).2.1⟩⟩, hr, hk⟩
end K
end Go.Proofs.Ytdkkaliiofcflaa

namespace Go.Proofs.Ytdkkaliiofcflaa
namespace K
abbrev Ro := Option (List Int)
def qU : Ro → Nat × Ro
  | none => (0, none)
  | some l => match rdU l with | .ok u r => (u, some r) | .bad _ => (0, none)
def qUp (most : Nat) (o : Ro) : Nat × Ro := if most < (qU o).1 then (0, none) else qU o
def qT (n : Nat) : Ro → List Int × Ro
  | none => ([], none)
  | some l => if l.length < n then ([], none) else (l.take n, some (l.drop n))
def qNs : Nat → Ro → List Int × Ro
  | 0, o => ([], o)
  | n + 1, o => (zag (qU o).1 :: (qNs n (qU o).2).1, (qNs n (qU o).2).2)
def qNums (o : Ro) : List Int × Ro := qNs (qUp 8 o).1 (qUp 8 o).2
def qV (o : Ro) : Option (V × List Int) := match (qT (qUp 65536 o).1 (qUp 65536 o).2).2 with
  | none => none
  | some r => match readV true (qT (qUp 65536 o).1 (qUp 65536 o).2).1 with | .ok v _ => some (v, r) | .bad _ => none
def qVs : Nat → Ro → Option (List V × List Int)
  | 0, none => none
  | 0, some l => some ([], l)
  | n + 1, o => match qV o with | none => none | some (v, r) => match qVs n (some r) with | none => none | some (vs, r2) => some (v :: vs, r2)
def qVals (most : Nat) (o : Ro) : Option (List V × List Int) := qVs (qUp most o).1 (qUp most o).2
def qM (m : Int) : List Int → Ro
  | a :: _ :: r => if a = m then some r else none
  | _ => none
def rdRq (P : List Int) : Option Rq :=
  match qVals 40 (qT (qUp 4096 (qNums (qUp 9007199254740992 (qM 81 P)).2).2).1 (qUp 4096 (qNums (qUp 9007199254740992 (qM 81 P)).2).2).2).2 with
  | none => none
  | some (vs, r) => if r.length = 32 ∧ 1 ≤ nth P 1 ∧ nth P 1 ≤ 20 then
      some ⟨nth P 1, (qUp 9007199254740992 (qM 81 P)).1, (qNums (qUp 9007199254740992 (qM 81 P)).2).1, strOfNums (qT (qUp 4096 (qNums (qUp 9007199254740992 (qM 81 P)).2).2).1 (qUp 4096 (qNums (qUp 9007199254740992 (qM 81 P)).2).2).2).1, vs, r⟩ else none
def rdRp (P : List Int) : Option Rp :=
  match qVals 4096 (qNums (qUp 9007199254740992 (qM 82 P)).2).2 with
  | none => none
  | some (vs, r) => match qT (qUp 524288 (some r)).1 (qUp 524288 (some r)).2 with
    | (d, some []) => if nth P 1 ≤ 100 then some ⟨((qUp 9007199254740992 (qM 82 P)).1 : Nat), nth P 1, (qNums (qUp 9007199254740992 (qM 82 P)).2).1, vs, d⟩ else none
    | _ => none
theorem qU_ok {o : Ro} {u : Nat} {r : List Int} (h : qU o = (u, some r)) (hb : ∀ l, o = some l → Byt l) : o = some (uvB u ++ r) ∧ u < 18446744073709551616 ∧ Byt r := by
  cases o with
  | none => simp [qU] at h
  | some l =>
    replace h : (match rdU l with | .ok u r => (u, some r) | .bad _ => (0, none)) = (u, some r) := h; cases hr : rdU l with
    | bad e => rw [hr] at h; simp at h
    | ok u' r' =>
      rw [hr] at h; simp only [Prod.mk.injEq, Option.some.injEq] at h; obtain ⟨rfl, rfl⟩ := h; obtain ⟨e, hlt⟩ := rdU_can (hb l rfl) hr; exact ⟨by rw [e], hlt, Byt.right (e ▸ hb l rfl)⟩
theorem qUp_ok {most : Nat} {o : Ro} {u : Nat} {r : List Int} (h : qUp most o = (u, some r)) (hb : ∀ l, o = some l → Byt l) : o = some (uvB u ++ r) ∧ u ≤ most ∧ u < 18446744073709551616 ∧ Byt r := by
  unfold qUp at h
  split at h
  · simp at h
  · rename_i hm
    obtain ⟨h1, h2, h3⟩ := qU_ok h hb; rw [h] at hm; exact ⟨h1, by simpa using hm, h2, h3⟩
theorem qT_ok {n : Nat} {o : Ro} {t r : List Int} (h : qT n o = (t, some r)) : o = some (t ++ r) ∧ t.length = n := by
  cases o with
  | none => simp [qT] at h
  | some l =>
    replace h : (if l.length < n then ([], none) else (l.take n, some (l.drop n))) = (t, some r) := h
    split at h
    · simp at h
    · rename_i hl
      simp only [Prod.mk.injEq, Option.some.injEq] at h; obtain ⟨rfl, rfl⟩ := h; exact ⟨by rw [List.take_append_drop], by rw [List.length_take]; omega⟩
theorem qNs_none : ∀ n, (qNs n none).2 = none
  | 0 => rfl
  | n + 1 => by unfold qNs; exact qNs_none n
theorem qNs_ok : ∀ {n : Nat} {o : Ro} {ns r : List Int}, qNs n o = (ns, some r) → (∀ l, o = some l → Byt l) → o = some (nmB ns ++ r) ∧ ns.length = n ∧ R64w ns ∧ Byt r
  | 0, o, ns, r, h, hb => by
    unfold qNs at h; simp only [Prod.mk.injEq] at h; obtain ⟨rfl, rfl⟩ := h; exact ⟨rfl, rfl, (fun _ h => by cases h), hb r rfl⟩
  | n + 1, o, ns, r, h, hb => by
    unfold qNs at h; simp only [Prod.mk.injEq] at h; obtain ⟨rfl, h2⟩ := h; cases hu : (qU o).2 with
    | none => rw [hu, qNs_none] at h2; cases h2
    | some r1 =>
      obtain ⟨e1, hlt, hb1⟩ := qU_ok (u := (qU o).1) (r := r1) (Prod.ext rfl hu) hb; rw [hu] at h2; obtain ⟨e2, hl, h64, hb2⟩ := qNs_ok (n := n) (o := some r1) (ns := (qNs n (some r1)).1) (r := r) (Prod.ext rfl h2) (fun l hl => by cases hl; exact hb1); refine ⟨?_, by rw [List.length_cons, hl], fun x hx => ?_, hb2⟩
      · have e3 : r1 = nmB (qNs n (some r1)).1 ++ r := by simpa using e2
        refine e1.trans ?_; generalize (qNs n (some r1)).1 = ns2 at e3 ⊢; unfold nmB; rw [List.flatMap_cons, zig_zag, List.append_assoc, e3]
        rfl
      · rcases List.mem_cons.1 hx with q | q
        · rw [q]; exact zag_range hlt
        · exact h64 x q
theorem qV_ok {o : Ro} {v : V} {r : List Int} (h : qV o = some (v, r)) (hb : ∀ l, o = some l → Byt l) : o = some (uvB (encV 16 v).length ++ encV 16 v ++ r) ∧ chk 16 v = 0 ∧ (encV 16 v).length ≤ 65536 ∧ Byt r ∧ readV true (encV 16 v) = .ok v [] ∧ Byt (encV 16 v) := by
  unfold qV at h; cases h2 : (qT (qUp 65536 o).1 (qUp 65536 o).2).2 with
  | none => rw [h2] at h; cases h
  | some r1 =>
    rw [h2] at h; simp only at h; cases h3 : readV true (qT (qUp 65536 o).1 (qUp 65536 o).2).1 with
    | bad e => rw [h3] at h; cases h
    | ok v1 r3 =>
      rw [h3] at h; simp only [Option.some.injEq, Prod.mk.injEq] at h; obtain ⟨rfl, rfl⟩ := h; obtain ⟨e2, hl⟩ := qT_ok (t := (qT (qUp 65536 o).1 (qUp 65536 o).2).1) (r := r1) (Prod.ext rfl h2); generalize (qT (qUp 65536 o).1 (qUp 65536 o).2).1 = t at h3 e2 hl; obtain ⟨e1, hm, hlt, hb1⟩ := qUp_ok (u := (qUp 65536 o).1) (r := t ++ r1) (Prod.ext rfl e2) hb; have hbt : Byt t := Byt.left hb1; obtain ⟨c1, c2, c3⟩ := read_can hbt h3; have hr3 : r3 = [] := by
        unfold readV at h3
        split at h3
        · cases h3
        · split at h3
          · cases h3
          · split at h3
            · cases h3
            · split at h3
              · cases h3
              · rename_i q _
                cases h3
                exact List.eq_nil_of_length_eq_zero (Nat.eq_zero_of_not_pos fun h => q ⟨rfl, h⟩)
      subst hr3; rw [← c2] at h3 hl e1 hbt; refine ⟨by rw [e1, ← hl, List.append_assoc], c1, by rw [c2]; exact c3, Byt.right hb1, h3, hbt⟩
theorem qVs_ok : ∀ {n : Nat} {o : Ro} {vs : List V} {r : List Int}, qVs n o = some (vs, r) → (∀ l, o = some l → Byt l) → o = some (vlB vs ++ r) ∧ vs.length = n ∧ (∀ v ∈ vs, chk 16 v = 0 ∧ (encV 16 v).length ≤ 65536) ∧ Backs vs ∧ Byt r
  | 0, none, _, _, h, _ => by cases h
  | 0, some l, vs, r, h, hb => by
    unfold qVs at h; simp only [Option.some.injEq, Prod.mk.injEq] at h; obtain ⟨rfl, rfl⟩ := h; exact ⟨rfl, rfl, (fun _ h => by cases h), (fun _ h => by cases h), hb l rfl⟩
  | n + 1, o, vs, r, h, hb => by
    unfold qVs at h; cases h1 : qV o with
    | none => rw [h1] at h; cases h
    | some p =>
      obtain ⟨v, r1⟩ := p; rw [h1] at h; simp only at h; cases h2 : qVs n (some r1) with
      | none => rw [h2] at h; cases h
      | some p2 =>
        obtain ⟨vs1, r2⟩ := p2; rw [h2] at h; simp only [Option.some.injEq, Prod.mk.injEq] at h; obtain ⟨rfl, rfl⟩ := h; obtain ⟨e1, c1, c2, hb1, c3, c4⟩ := qV_ok h1 hb; obtain ⟨e2, hl, d1, d2, hb2⟩ := qVs_ok h2 (fun l hl => by cases hl; exact hb1); have e3 : r1 = vlB vs1 ++ r2 := by simpa using e2
        refine ⟨?_, by rw [List.length_cons, hl], fun x hx => ?_, fun x hx => ?_, hb2⟩
        · rw [e1, e3]
          unfold vlB; simp [List.flatMap_cons]
        · rcases List.mem_cons.1 hx with q | q
          · rw [q]; exact ⟨c1, c2⟩
          · exact d1 x q
        · rcases List.mem_cons.1 hx with q | q
          · rw [q]; exact ⟨c3, c4, c2⟩
          · exact d2 x q
theorem encR_zero {v : V} (h : chk 16 v = 0) (hl : (encV 16 v).length ≤ 65536) : (encR v).2 = 0 := by
  unfold encR; rw [if_neg (fun q => q h), if_neg (by omega)]
theorem qVs_none : ∀ {n : Nat}, qVs n none = none
  | 0 => rfl
  | _ + 1 => rfl
theorem qM_ok {m : Int} {P r : List Int} (h : qM m P = some r) : P = m :: nth P 1 :: r := by
  unfold qM at h
  split at h
  · rename_i a c r'
    split at h
    · rename_i he
      cases h
      rw [he]; rfl
    · cases h
  · cases h
theorem qUp_none (m : Nat) : qUp m none = (0, none) := by
  unfold qUp; rw [if_neg (show ¬ m < (qU none).1 by show ¬ m < 0; omega)]
  rfl
theorem qNums_none : qNums none = ([], none) := by
  unfold qNums; rw [qUp_none]
  rfl
theorem qVals_none (m : Nat) : qVals m none = none := by
  unfold qVals; rw [qUp_none]
  rfl
structure RqBack (P : List Int) (r : Rq) : Prop where
  bytes : rqB r = P
  kind : 1 ≤ r.kind ∧ r.kind ≤ 20
  seq : 0 ≤ r.seq ∧ r.seq ≤ 9007199254740992
  nums : r.nums.length ≤ 8
  r64 : R64w r.nums
  text : r.text.size ≤ 4096
  params : r.params.length ≤ 40
  good : ∀ v ∈ r.params, chk 16 v = 0 ∧ (encV 16 v).length ≤ 65536
  backs : Backs r.params
  hash : r.hash.length = 32
  hbyt : Frm.Byt r.hash
theorem bytesI_strQ {zs : List Int} (h : Frm.Byt zs) : bytesI (strOfNums zs) = zs := by
  unfold bytesI; rw [strOfNums_mk, ByteArray.toList_eq]
  show List.map _ ((zs.map fun c => UInt8.ofNat c.toNat).toArray.toList) = zs
  rw [List.map_map]
  conv => rhs; rw [← List.map_id zs]
  refine List.map_congr_left fun c hc => ?_; have := h c hc
  show ((UInt8.ofNat c.toNat).toNat : Int) = c
  rw [UInt8.toNat_ofNat']; omega
theorem rdRq_ok {P : List Int} {r : Rq} (hb : Byt P) (h : rdRq P = some r) : RqBack P r := by
  unfold rdRq at h; cases hM : qM 81 P with
  | none => rw [hM, qUp_none, qNums_none, qUp_none] at h; simp [qT, qVals_none] at h
  | some P0 =>
    have eP := qM_ok hM; have hb0 : Byt P0 := by rw [eP] at hb; exact (hb.tail).tail
    rw [hM] at h; cases hS : (qUp 9007199254740992 (some P0)).2 with
    | none => rw [hS, qNums_none, qUp_none] at h; simp [qT, qVals_none] at h
    | some P1 =>
      obtain ⟨s1, s2, -, hb1⟩ := qUp_ok (u := (qUp 9007199254740992 (some P0)).1) (r := P1) (Prod.ext rfl hS) (fun l hl => by cases hl; exact hb0); rw [hS] at h; generalize (qUp 9007199254740992 (some P0)).1 = seq at h s1 s2; cases hN : (qNums (some P1)).2 with
      | none => rw [hN, qUp_none] at h; simp [qT, qVals_none] at h
      | some P2 =>
        have hN2 : qNs (qUp 8 (some P1)).1 (qUp 8 (some P1)).2 = ((qNums (some P1)).1, some P2) := Prod.ext rfl hN; rw [hN] at h; generalize (qNums (some P1)).1 = ns at h hN2; cases hC : (qUp 8 (some P1)).2 with
        | none => rw [hC] at hN2; have := congrArg Prod.snd hN2; rw [qNs_none] at this; cases this
        | some P1' =>
          obtain ⟨n1, n2, -, hb1'⟩ := qUp_ok (u := (qUp 8 (some P1)).1) (r := P1') (Prod.ext rfl hC) (fun l hl => by cases hl; exact hb1); rw [hC] at hN2; obtain ⟨n3, n4, n5, hb2⟩ := qNs_ok hN2 (fun l hl => by cases hl; exact hb1'); cases hT : (qT (qUp 4096 (some P2)).1 (qUp 4096 (some P2)).2).2 with
          | none => rw [hT] at h; simp [qVals_none] at h
          | some P3 =>
            obtain ⟨t1, t2⟩ := qT_ok (t := (qT (qUp 4096 (some P2)).1 (qUp 4096 (some P2)).2).1) (r := P3) (Prod.ext rfl hT); rw [hT] at h; generalize (qT (qUp 4096 (some P2)).1 (qUp 4096 (some P2)).2).1 = tx at h t1 t2; obtain ⟨t3, t4, -, hb3⟩ := qUp_ok (u := (qUp 4096 (some P2)).1) (r := tx ++ P3) (Prod.ext rfl t1) (fun l hl => by cases hl; exact hb2); have hbx : Byt tx := Byt.left hb3; have hb3' : Byt P3 := Byt.right hb3; cases hV : qVals 40 (some P3) with
            | none => rw [hV] at h; cases h
            | some p =>
              obtain ⟨vs, P4⟩ := p; rw [hV] at h; simp only at h; unfold qVals at hV; cases hW : (qUp 40 (some P3)).2 with
              | none => rw [hW, qVs_none] at hV; cases hV
              | some P3' =>
                obtain ⟨v1, v2, -, hb4⟩ := qUp_ok (u := (qUp 40 (some P3)).1) (r := P3') (Prod.ext rfl hW) (fun l hl => by cases hl; exact hb3'); rw [hW] at hV; obtain ⟨v3, v4, v5, v6, hb5⟩ := qVs_ok hV (fun l hl => by cases hl; exact hb4)
                split at h
                · rename_i hf
                  cases h
                  have hsz : (strOfNums tx).size = tx.length := by
                    have := congrArg List.length (bytesI_strQ hbx); rw [← this, bytesI_len]
                  refine ⟨?_, hf.2, by show 0 ≤ (seq : Int) ∧ (seq : Int) ≤ _; omega, by rw [n4]; exact n2, n5, by rw [hsz]; omega, by rw [v4]; exact v2, v5, v6, hf.1, hb5⟩; have e1 : P0 = uvB seq ++ P1 := by simpa using s1
                  have e2 : P1 = uvB ns.length ++ P1' := by rw [n4]; simpa using n1
                  have e3 : P1' = nmB ns ++ P2 := by simpa using n3
                  have e4 : P2 = uvB tx.length ++ (tx ++ P3) := by rw [t2]; simpa using t3
                  have e5 : P3 = uvB vs.length ++ P3' := by rw [v4]; simpa using v1
                  have e6 : P3' = vlB vs ++ P4 := by simpa using v3
                  show headB 81 (nth P 1) (seq : Int).toNat ns ++ (uvB (strOfNums tx).size ++ bytesI (strOfNums tx)) ++ valsB vs ++ P4 = P
                  rw [hsz, bytesI_strQ hbx, Int.toNat_natCast]
                  conv => rhs; rw [eP, e1, e2, e3, e4, e5, e6]
                  unfold headB valsB; simp
                · cases h
structure RpBack (P : List Int) (r : Rp) : Prop where
  bytes : rpB r = P
  err : 0 ≤ r.err ∧ r.err ≤ 100
  seq : 0 ≤ r.seq ∧ r.seq ≤ 9007199254740992
  nums : r.nums.length ≤ 8
  r64 : R64w r.nums
  rows : r.rows.length ≤ 4096
  good : ∀ v ∈ r.rows, chk 16 v = 0 ∧ (encV 16 v).length ≤ 65536
  backs : Backs r.rows
  data : r.data.length ≤ 524288
  dbyt : Frm.Byt r.data
theorem rdRp_ok {P : List Int} {r : Rp} (hb : Byt P) (h : rdRp P = some r) : RpBack P r := by
  unfold rdRp at h; cases hM : qM 82 P with
  | none => rw [hM, qUp_none, qNums_none] at h; simp [qVals_none] at h
  | some P0 =>
    have eP := qM_ok hM; have hb0 : Byt P0 := by rw [eP] at hb; exact (hb.tail).tail
    have hk : 0 ≤ nth P 1 := by rw [eP] at hb; exact (hb _ (by simp)).1
    rw [hM] at h; cases hS : (qUp 9007199254740992 (some P0)).2 with
    | none => rw [hS, qNums_none] at h; simp [qVals_none] at h
    | some P1 =>
      obtain ⟨s1, s2, -, hb1⟩ := qUp_ok (u := (qUp 9007199254740992 (some P0)).1) (r := P1) (Prod.ext rfl hS) (fun l hl => by cases hl; exact hb0); rw [hS] at h; generalize (qUp 9007199254740992 (some P0)).1 = seq at h s1 s2; cases hN : (qNums (some P1)).2 with
      | none => rw [hN] at h; simp [qVals_none] at h
      | some P2 =>
        have hN2 : qNs (qUp 8 (some P1)).1 (qUp 8 (some P1)).2 = ((qNums (some P1)).1, some P2) := Prod.ext rfl hN; rw [hN] at h; generalize (qNums (some P1)).1 = ns at h hN2; cases hC : (qUp 8 (some P1)).2 with
        | none => rw [hC] at hN2; have := congrArg Prod.snd hN2; rw [qNs_none] at this; cases this
        | some P1' =>
          obtain ⟨n1, n2, -, hb1'⟩ := qUp_ok (u := (qUp 8 (some P1)).1) (r := P1') (Prod.ext rfl hC) (fun l hl => by cases hl; exact hb1); rw [hC] at hN2; obtain ⟨n3, n4, n5, hb2⟩ := qNs_ok hN2 (fun l hl => by cases hl; exact hb1'); cases hV : qVals 4096 (some P2) with
          | none => rw [hV] at h; cases h
          | some p =>
            obtain ⟨vs, P4⟩ := p; rw [hV] at h; simp only at h; unfold qVals at hV; cases hW : (qUp 4096 (some P2)).2 with
            | none => rw [hW, qVs_none] at hV; cases hV
            | some P3' =>
              obtain ⟨v1, v2, -, hb4⟩ := qUp_ok (u := (qUp 4096 (some P2)).1) (r := P3') (Prod.ext rfl hW) (fun l hl => by cases hl; exact hb2); rw [hW] at hV; obtain ⟨v3, v4, v5, v6, hb5⟩ := qVs_ok hV (fun l hl => by cases hl; exact hb4)
              split at h
              · rename_i d hd
                split at h
                · rename_i hf
                  cases h
                  obtain ⟨d1, d2⟩ := qT_ok hd; rw [List.append_nil] at d1; obtain ⟨d3, d4, -, hb6⟩ := qUp_ok (u := (qUp 524288 (some P4)).1) (r := d) (Prod.ext rfl d1) (fun l hl => by cases hl; exact hb5); refine ⟨?_, ⟨hk, hf⟩, by show 0 ≤ ((seq : Nat) : Int) ∧ ((seq : Nat) : Int) ≤ _; omega, by rw [n4]; exact n2, n5, by rw [v4]; exact v2, v5, v6, by rw [d2]; exact d4, hb6⟩; have e1 : P0 = uvB seq ++ P1 := by simpa using s1
                  have e2 : P1 = uvB ns.length ++ P1' := by rw [n4]; simpa using n1
                  have e3 : P1' = nmB ns ++ P2 := by simpa using n3
                  have e5 : P2 = uvB vs.length ++ P3' := by rw [v4]; simpa using v1
                  have e6 : P3' = vlB vs ++ P4 := by simpa using v3
                  have e7 : P4 = uvB d.length ++ d := by rw [d2]; simpa using d3
                  show headB 82 (nth P 1) (seq : Int).toNat ns ++ valsB vs ++ (uvB d.length ++ d) = P
                  rw [Int.toNat_natCast]
                  conv => rhs; rw [eP, e1, e2, e3, e5, e6, e7]
                  unfold headB valsB; simp
                · cases h
              · cases h
theorem be4_split {l : List Int} (hl : 4 ≤ l.length) (hb : Byt l) : l = Crc.be4 (Crc.num4 l) ++ l.drop 4 := by
  match l, hl with
  | a :: b :: c :: d :: r, _ =>
    have := (Crc.be4_num4 (hb a (by simp)) (hb b (by simp)) (hb c (by simp)) (hb d (by simp)) r).1; rw [this]
    rfl
theorem byt_drop {l : List Int} (hb : Byt l) (k : Nat) : Byt (l.drop k) := fun c hc => hb c (List.mem_of_mem_drop hc)
theorem decF_can {l P : List Int} {n : Nat} (hb : Byt l) (h : Frm.decF l = (0, P, n)) : (∃ r, l = Frm.frameL P ++ r) ∧ n = P.length + 12 ∧ P.length ≤ 524288 := by
  unfold Frm.decF at h
  by_cases h1 : l.length < 8
  · rw [if_pos h1] at h; simp at h
  rw [if_neg h1] at h
  by_cases h2 : Crc.num4 (l.drop 4) ≠ Crc.crcN (Crc.be4 (Crc.num4 l))
  · rw [if_pos h2] at h; simp at h
  rw [if_neg h2] at h
  by_cases h3 : 524288 < Crc.num4 l
  · rw [if_pos h3] at h; simp at h
  rw [if_neg h3] at h
  by_cases h4 : l.length < Crc.num4 l + 12
  · rw [if_pos h4] at h; simp at h
  rw [if_neg h4] at h
  by_cases h5 : Crc.num4 (l.drop (8 + Crc.num4 l)) ≠ Crc.crcN (l.take (8 + Crc.num4 l))
  · rw [if_pos h5] at h; simp at h
  rw [if_neg h5] at h; simp only [Prod.mk.injEq, true_and] at h; obtain ⟨hP, hn⟩ := h; have h2' := Decidable.not_not.1 h2; have h5' := Decidable.not_not.1 h5; generalize hN : Crc.num4 l = N at *; have hPl : P.length = N := by rw [← hP, List.length_drop, List.length_take]; omega
  have a1 := be4_split (l := l) (by omega) hb; have a2 := be4_split (l := l.drop 4) (by rw [List.length_drop]; omega) (byt_drop hb 4); have a3 := be4_split (l := l.drop (8 + N)) (by rw [List.length_drop]; omega) (byt_drop hb _); rw [hN] at a1; rw [h2', List.drop_drop] at a2; rw [h5', List.drop_drop] at a3; have a4 : l.take (8 + N) = Frm.headF N ++ P := by
    have e : l = Frm.headF N ++ l.drop 8 := by
      unfold Frm.headF; rw [List.append_assoc, ← a2]; exact a1
    rw [← hP]
    conv => lhs; rw [e]
    rw [List.take_append, List.take_of_length_le (by rw [Frm.headF_len]; omega), Frm.headF_len, List.drop_take]
  refine ⟨⟨l.drop (8 + N + 4), ?_⟩, by omega, by omega⟩; unfold Frm.frameL; rw [hPl, ← a4, ← List.append_assoc, ← a4, List.append_assoc, ← a3, List.take_append_drop]
end K
end Go.Proofs.Ytdkkaliiofcflaa

namespace Go.Proofs.Ytdkkaliiofcflaa
open Go.RowKit
namespace K
structure WBad (B : Nat) (w : World) (rb : Nat) : Prop where
  rlt : rb < B
  ex : ∃ sp n cap, VBlk 75 w rb [.slice sp n cap, .bool true]
def WX (B : Nat) (w : World) (rb : Nat) : Ro → Prop
  | some l => WR B w rb l
  | none => WBad B w rb
section
variable {B rb : Nat} {w w' : World} {o : Ro}
theorem WX.rlt (h : WX B w rb o) : rb < B := by
  cases o with
  | none => exact WBad.rlt h
  | some l => exact WR.rlt h
theorem WX.byt (h : WX B w rb o) : ∀ l, o = some l → Byt l := fun l e => by
  subst e; exact WR.byt h
theorem WX.keep (h : WX B w rb o) {K : Nat → Prop} (hk : Keep K w w') (hK : ∀ b, b < B → K b) : WX B w' rb o := by
  cases o with
  | none =>
    obtain ⟨h1, sp, n, cap, h2⟩ := h; exact ⟨h1, sp, n, cap, h2.keep hk (hK _ h1)⟩
  | some l => exact WR.keep h hk hK
theorem WX.ex (h : WX B w rb o) : ∃ sp n cap, VBlk 75 w rb [.slice sp n cap, .bool o.isNone] := by
  cases o with
  | none => exact WBad.ex h
  | some l =>
    obtain ⟨sp, cap, h1, -⟩ := WR.ex h; exact ⟨sp, _, cap, h1⟩
theorem WX.setT (h : WX B w rb o) : WX B (w.setCell ⟨rb, 1, none⟩ (.bool true)) rb none := by
  obtain ⟨sp, n, cap, h1⟩ := h.ex; exact ⟨h.rlt, sp, n, cap, h1.set 1 (.bool true)⟩
theorem WX.setF {l : List Int} (h : WX B w rb (some l)) : WX B (w.setCell ⟨rb, 1, none⟩ (.bool false)) rb (some l) := WR.setF h
theorem qU_lt (h : ∀ l, o = some l → Byt l) : (qU o).1 < 18446744073709551616 := by
  cases o with
  | none => show 0 < _; omega
  | some l =>
    show (match rdU l with | .ok u r => ((u, some r) : Nat × Ro) | .bad _ => (0, none)).1 < _
    cases hr : rdU l with
    | bad e => show 0 < _; omega
    | ok u r => exact (rdU_can (h l rfl) hr).2
theorem qUp_le (most : Nat) (o : Ro) : (qUp most o).1 ≤ most := by
  unfold qUp
  split
  · exact Nat.zero_le _
  · omega
theorem number_x (h : WX B w rb o) :
    Calls Try.prog 56 #[.pointer (some ⟨rb, 0, none⟩)] w fun e w' => e = .returned (.int .u64 ((qU o).1 : Int)) ∧ WX B w' rb (qU o).2 ∧ KeepR rb w w' := by
  cases o with
  | none =>
    obtain ⟨hlt, sp, n, cap, h1⟩ := h; refine enter (args := [.pointer (some ⟨rb, 0, none⟩)]) Try.func56 rfl Try.ntmps56 rfl ?_; refine K.kgo ?_; refine WL.load rfl rfl rfl rfl rfl rfl (h1.cell 1 (by simp)) ?_; refine K.kgo ?_; exact WQ.ret1 rfl rfl ⟨rfl, ⟨hlt, _, _, _, h1⟩, KeepR.refl _ _⟩
  | some l =>
    have h : WR B w rb l := h; cases hr : rdU l with
    | ok u r =>
      obtain ⟨e, hlt⟩ := rdU_can h.byt hr; have h' : WR B w rb (uvB u ++ r) := by rw [← e]; exact h
      have hq : qU (some l) = (u, some r) := by
        show (match rdU l with | .ok u r => ((u, some r) : Nat × Ro) | .bad _ => (0, none)) = _
        rw [hr]
      rw [hq]; exact wnumber_any h' hlt
    | bad x =>
      have hq : qU (some l) = (0, none) := by
        show (match rdU l with | .ok u r => ((u, some r) : Nat × Ro) | .bad _ => (0, none)) = _
        rw [hr]
      rw [hq]; have hx : x = 2 ∨ x = 3 := rdUF_bad _ _ _ _ hr; have hru : ruV l = [.int .u64 0, .int .i64 0, .int .i64 x] := by unfold ruV; rw [hr]
      obtain ⟨sp, cap, h1, h2⟩ := h.ex; refine enter (args := [.pointer (some ⟨rb, 0, none⟩)]) Try.func56 rfl Try.ntmps56 rfl ?_; refine K.kgo ?_; refine WL.load rfl rfl rfl rfl rfl rfl (h1.cell 1 (by simp)) ?_; refine K.kgo ?_; refine WL.load rfl rfl rfl rfl rfl rfl (h1.cell 0 (by simp)) ?_; refine WL.call rfl rfl rfl rfl rfl Try.func72 rfl (by kernel_rfl) (readUvarint_any h2.sl h.byt) ?_; rintro _ _ ⟨rfl, rfl⟩; refine ⟨_, rfl, ?_⟩; rw [hru]; refine K.kgo ?_; refine WL.store rfl rfl rfl rfl rfl rfl (by kernel_rfl) (h1.cell 1 (by simp)) (h1.free 1) ?_; refine K.kgo ?_; exact WQ.ret1 rfl rfl ⟨rfl, WX.setT (o := some l) h, KeepR.set _ _ _ _⟩
theorem upTo_x (most : Nat) (h : WX B w rb o) (hm : most ≤ 9007199254740992) :
    Calls Try.prog 32 #[.pointer (some ⟨rb, 0, none⟩), .int .i64 (most : Int)] w fun e w' => e = .returned (.int .i64 ((qUp most o).1 : Int)) ∧ WX B w' rb (qUp most o).2 ∧ KeepR rb w w' := by
  refine enter (args := [.pointer (some ⟨rb, 0, none⟩), .int .i64 (most : Int)]) Try.func32 rfl Try.ntmps32 rfl ?_; have hw64 : IntKind.u64.wrap (most : Int) = (most : Int) := wraps_u64 _ (by omega) (by omega); refine K.kgo ?_; refine WL.call rfl rfl rfl rfl rfl Try.func56 rfl (by kernel_rfl) (number_x h) ?_; rintro _ w2 ⟨rfl, h2, k2⟩; refine ⟨_, rfl, ?_⟩
  by_cases hu : most < (qU o).1
  · have hq : qUp most o = (0, none) := by unfold qUp; rw [if_pos hu]
    rw [hq]; obtain ⟨sp, n, cap, h3⟩ := h2.ex; generalize (qU o).1 = u at hu ⊢; refine K.kgo ?_; refine WL.store rfl rfl rfl rfl rfl rfl (by kernel_rfl) (h3.cell 1 (by simp)) (h3.free 1) ?_; refine K.kgo ?_; exact WQ.ret1 rfl rfl ⟨rfl, h2.setT, k2.trans (KeepR.set _ _ _ _)⟩
  · have hq : qUp most o = qU o := by unfold qUp; rw [if_neg hu]
    rw [hq]; generalize (qU o).1 = u at hu ⊢; refine K.kgo ?_; exact WQ.ret1 rfl rfl ⟨rfl, h2, k2⟩
theorem slB_nil (O : Nat → Prop) (w : World) : SlB O w (.slice none 0 0) [] := ⟨Sl.nil _ _, fun h => absurd h (by simp)⟩
theorem take_x (k : Nat) (h : WX B w rb o) (hs : k ≤ 9007199254740992) :
    Calls Try.prog 34 #[.pointer (some ⟨rb, 0, none⟩), .int .i64 (k : Int)] w fun e w' => ∃ v, e = .returned v ∧ SlB (fun b => b < B ∧ b ≠ rb) w' v (qT k o).1 ∧ WX B w' rb (qT k o).2 ∧ KeepR rb w w' := by
  cases o with
  | none =>
    obtain ⟨hlt, sp, n, cap, h1⟩ := h; refine enter (args := [.pointer (some ⟨rb, 0, none⟩), .int .i64 (k : Int)]) Try.func34 rfl Try.ntmps34 rfl ?_; refine K.kgo ?_; refine WL.load rfl rfl rfl rfl rfl rfl (h1.cell 1 (by simp)) ?_; refine K.kgo ?_; refine WL.store rfl rfl rfl rfl rfl rfl (by kernel_rfl) (h1.cell 1 (by simp)) (h1.free 1) ?_; refine K.kgo ?_; exact WQ.ret1 rfl rfl ⟨_, rfl, slB_nil _ _, WX.setT (o := none) ⟨hlt, sp, n, cap, h1⟩, KeepR.set _ _ _ _⟩
  | some l =>
    have h : WR B w rb l := h
    by_cases hl : l.length < k
    · have hq : qT k (some l) = ([], none) := if_pos hl
      rw [hq]; obtain ⟨sp, cap, h1, h2⟩ := h.ex; refine enter (args := [.pointer (some ⟨rb, 0, none⟩), .int .i64 (k : Int)]) Try.func34 rfl Try.ntmps34 rfl ?_; refine K.kgo ?_; refine WL.load rfl rfl rfl rfl rfl rfl (h1.cell 1 (by simp)) ?_; refine K.kgo ?_; refine WL.load rfl rfl rfl rfl rfl rfl (h1.cell 0 (by simp)) ?_; refine K.kgo ?_; refine WL.store rfl rfl rfl rfl rfl rfl (by kernel_rfl) (h1.cell 1 (by simp)) (h1.free 1) ?_; refine K.kgo ?_; exact WQ.ret1 rfl rfl ⟨_, rfl, slB_nil _ _, WX.setT (o := some l) h, KeepR.set _ _ _ _⟩
    · have hq : qT k (some l) = (l.take k, some (l.drop k)) := if_neg hl
      rw [hq]; exact wtake_any (A := l.take k) (r := l.drop k) (by rw [List.take_append_drop]; exact h) (by rw [List.length_take]; omega) hs
def qB (o : Ro) : Int × Ro := (nth (qT 1 o).1 0, (qT 1 o).2)
theorem byte_x (h : WX B w rb o) :
    Calls Try.prog 31 #[.pointer (some ⟨rb, 0, none⟩)] w fun e w' => e = .returned (.int .u8 (qB o).1) ∧ WX B w' rb (qB o).2 ∧ KeepR rb w w' := by
  refine enter (args := [.pointer (some ⟨rb, 0, none⟩)]) Try.func31 rfl Try.ntmps31 rfl ?_; refine K.kgo ?_; refine WL.call rfl rfl rfl rfl rfl Try.func34 rfl (by kernel_rfl) (take_x 1 h (by omega)) ?_; rintro _ w2 ⟨v, rfl, hv, h2, k2⟩; refine ⟨_, rfl, ?_⟩; obtain ⟨sp, cap, rfl, -⟩ := id hv.sl; unfold qB; generalize (qT 1 o).1 = l at hv ⊢
  by_cases hl : l.length = 0
  · have hl0 : nth l 0 = 0 := by rw [List.eq_nil_of_length_eq_zero hl]; rfl
    rw [hl0]; refine K.kgo ?_; exact WQ.ret1 rfl rfl ⟨rfl, h2, k2⟩
  · refine K.kgo ?_
    refine WL.idxI 0 rfl rfl rfl rfl rfl rfl hv.sl rfl rfl (by omega) fun p hp => ?_; refine K.kgl ?_; exact WQ.ret1 rfl rfl ⟨rfl, h2, k2⟩
theorem qNs_snoc : ∀ (n : Nat) (o : Ro), qNs (n + 1) o = ((qNs n o).1 ++ [zag (qU (qNs n o).2).1], (qU (qNs n o).2).2)
  | 0, o => rfl
  | n + 1, o => by
    conv => lhs; unfold qNs
    rw [qNs_snoc n]
    rfl
theorem qNs_len : ∀ (n : Nat) (o : Ro), (qNs n o).1.length = n
  | 0, _ => rfl
  | n + 1, o => by
    rw [qNs_snoc, List.length_append, qNs_len n o]
    rfl
theorem nums_x (h : WX B w rb o) (hB : B ≤ w.heap.size) :
    Calls Try.prog 33 #[.pointer (some ⟨rb, 0, none⟩)] w fun e w' => ∃ v, e = .returned v ∧ OwnE 3 1 0 intP (fun b => w.heap.size ≤ b) w' v (qNums o).1 ∧ WX B w' rb (qNums o).2 ∧ KeepR rb w w' := by
  refine enter (args := [.pointer (some ⟨rb, 0, none⟩)]) Try.func33 rfl Try.ntmps33 rfl ?_; have hrB := h.rlt; unfold qNums; have hm := qUp_le 8 o; refine K.kgo ?_; refine WL.call rfl rfl rfl rfl rfl Try.func32 rfl (by kernel_rfl) (upTo_x 8 h (by omega)) ?_; rintro _ w1 ⟨rfl, h1, k1⟩; refine ⟨_, rfl, ?_⟩; generalize (qUp 8 o).1 = m at hm ⊢; generalize (qUp 8 o).2 = o1 at h1 ⊢; refine K.kgo ?_; refine WC.loop (fun i : Nat × Value => [(0, .pointer (some ⟨rb, 0, none⟩)), (3, i.2), (5, .int .i64 m), (6, .int .i64 i.1)])
    (fun i wr => i.1 ≤ m ∧ WX B wr rb (qNs i.1 o1).2 ∧ OwnE 3 1 0 intP (fun b => w.heap.size ≤ b) wr i.2 (qNs i.1 o1).1 ∧ KeepR rb w wr) (fun i => m - i.1) (0, .slice none 0 0) ⟨rfl, rfl, rfl, rfl, trivial⟩
    ⟨Nat.zero_le _, h1, OwnE.nil _ _ _ _ _ _, k1⟩ ?_
  rintro ⟨i, v⟩ wr ⟨hi, hr, ho, hk⟩; simp only at hi hr ho hk ⊢
  by_cases hik : i < m
  · have hzl := qU_lt hr.byt
    have hlt := qNs_len i o1; have hsn := qNs_snoc i o1; generalize (qNs i o1).1 = ns at ho hlt hsn; generalize (qNs i o1).2 = oi at hr hzl hsn; refine K.kgo ?_; refine WL.call rfl rfl rfl rfl rfl Try.func56 rfl (by kernel_rfl) (number_x hr) ?_; rintro _ w2 ⟨rfl, h2, k2⟩; refine ⟨_, rfl, ?_⟩; refine WL.call rfl rfl rfl rfl rfl Try.func57 rfl (by kernel_rfl) (zag_any _ hzl w2) ?_; rintro _ _ ⟨rfl, rfl⟩; refine ⟨_, rfl, ?_⟩; have ho2 := ho.keep (P' := intP) (O' := fun b => w.heap.size ≤ b) k2 (fun g hg => ⟨ho.lt hg, by have := ho.own hg; omega⟩) (fun _ h => h) fun _ _ h => h; refine WL.lit1 (cs := [.int .i64 (zag (qU oi).1)]) rfl rfl rfl rfl rfl rfl rfl rfl ⟨by omega, by omega⟩ (by kernel_rfl) fun g7 w7 hf7 => ?_; have hz7 := hf7.size; have k7 := hf7.below; have h7 := h2.keep (Keep.of_below k7) fun b hb => by have := k2.size; have := hk.size; omega
    have ho7 := ho2.keep (P' := intP) (O' := fun b => w.heap.size ≤ b) (Keep.of_below k7) (fun g hg => ho2.lt hg) (fun _ h => h) fun _ _ h => h; refine WL.snoc (y := zag (qU oi).1) rfl rfl rfl rfl elemI1 rfl ho7 rfl hf7.blk (by intro u hu; simp at hu; rw [hu]; rfl) rfl rfl (by omega) (by omega) fun v8 w8 ho8 hg8 => ?_; have k27 : KeepR rb w w7 := (hk.trans k2).trans (KeepR.below k7); have hzw := k27.size; refine K.kgo ?_; refine WQ.again (i + 1, v8) ⟨rfl, rfl, rfl, rfl, trivial⟩ ⟨by show i + 1 ≤ m; omega, ?_, ?_, ?_⟩ (by show m - (i + 1) < m - i; omega)
    · show WX B w8 rb (qNs (i + 1) o1).2
      rw [hsn]; exact h7.keep hg8.1 (fun b hb => ⟨by omega, fun e => by have := ho7.own e; omega⟩)
    · show OwnE _ _ _ _ _ _ _ (qNs (i + 1) o1).1
      rw [hsn]; exact ho8.keep (Keep.refl (fun _ => True) w8) (fun _ _ => trivial) (fun b hb => by omega) fun _ _ h => h
    · exact Keep.trans k27 (hg8.1.mono fun b hb => ⟨by have := hb.1; omega, fun e => by have := ho7.own e; have := hb.1; omega⟩)
  · obtain rfl : i = m := by omega
    refine K.kgo ?_; exact WQ.ret1 rfl rfl ⟨v, rfl, ho, hr, hk⟩
end
end K
end Go.Proofs.Ytdkkaliiofcflaa

namespace Go.Proofs.Ytdkkaliiofcflaa
open Go.RowKit
namespace K
theorem qVs_snoc : ∀ (i : Nat) (o : Ro), qVs (i + 1) o = (match qVs i o with | none => none | some (vs, r) => match qV (some r) with | none => none | some (v, r') => some (vs ++ [v], r'))
  | 0, none => rfl
  | 0, some l => by
    show (match qV (some l) with | none => none | some (v, r) => match qVs 0 (some r) with | none => none | some (vs, r2) => some (v :: vs, r2)) = (match qV (some l) with | none => none | some (v, r') => some ([] ++ [v], r'))
    cases qV (some l) with
    | none => rfl
    | some p => rfl
  | i + 1, o => by
    show (match qV o with | none => none | some (v, r) => match qVs (i + 1) (some r) with | none => none | some (vs, r2) => some (v :: vs, r2)) = (match (match qV o with | none => none | some (v, r) => match qVs i (some r) with | none => none | some (vs, r2) => some (v :: vs, r2)) with | none => none | some (vs, r) => match qV (some r) with | none => none | some (v, r') => some (vs ++ [v], r'))
    cases qV o with
    | none => rfl
    | some p =>
      obtain ⟨v, r⟩ := p; simp only
      rw [qVs_snoc i (some r)]; cases qVs i (some r) with
      | none => rfl
      | some p2 =>
        obtain ⟨vs, r2⟩ := p2; simp only
        cases qV (some r2) with
        | none => rfl
        | some p3 => rfl
theorem qVs_stop {i : Nat} {o : Ro} (h : qVs i o = none) : ∀ k, qVs (i + k) o = none
  | 0 => h
  | k + 1 => by
    rw [show i + (k + 1) = (i + k) + 1 by omega, qVs_snoc, qVs_stop h k]
theorem qVs_len {i : Nat} {o : Ro} {vs : List V} {r : List Int} (h : qVs i o = some (vs, r)) : vs.length = i := by
  induction i generalizing vs r with
  | zero =>
    cases o with
    | none => cases h
    | some l => cases h; rfl
  | succ i ih =>
    rw [qVs_snoc] at h; cases h1 : qVs i o with
    | none => rw [h1] at h; cases h
    | some p =>
      obtain ⟨vs1, r1⟩ := p; rw [h1] at h; simp only at h; cases h2 : qV (some r1) with
      | none => rw [h2] at h; cases h
      | some p2 =>
        obtain ⟨v, r2⟩ := p2; rw [h2] at h; cases h
        rw [List.length_append, ih h1]
        rfl
theorem qUp_zero {most : Nat} {o : Ro} (h : (qUp most o).2 = none) : (qUp most o).1 = 0 := by
  unfold qUp at h ⊢
  split
  · rfl
  · rename_i hm
    rw [if_neg hm] at h; cases o with
    | none => rfl
    | some l =>
      change (match rdU l with | .ok u r => ((u, some r) : Nat × Ro) | .bad _ => (0, none)).2 = none at h
      show (match rdU l with | .ok u r => ((u, some r) : Nat × Ro) | .bad _ => (0, none)).1 = 0
      cases hr : rdU l with
      | ok u r => rw [hr] at h; cases h
      | bad e => rfl
theorem qT_byt {n : Nat} {o : Ro} (h : ∀ l, o = some l → Byt l) : Byt (qT n o).1 ∧ (qT n o).1.length ≤ n := by
  cases o with
  | none => exact ⟨(fun _ h => by cases h), Nat.zero_le _⟩
  | some l =>
    show Byt (if l.length < n then (([], none) : List Int × Ro) else (l.take n, some (l.drop n))).1 ∧ (if l.length < n then (([], none) : List Int × Ro) else (l.take n, some (l.drop n))).1.length ≤ n
    split
    · exact ⟨(fun _ h => by cases h), Nat.zero_le _⟩
    · exact ⟨fun c hc => h l rfl c (List.mem_of_mem_take hc), by rw [List.length_take]; omega⟩
variable {B rb : Nat} {w : World} {o : Ro}
def ValsX (B rb : Nat) (w : World) (v : Value) (w' : World) : Option (List V × List Int) → Prop
  | some (l, r) => (∃ q : Nat → Prop, OwnE 60 6 noV (IsVo q 17 w') (fun b => w.heap.size ≤ b) w' v l ∧ ∀ b, q b → w.heap.size ≤ b ∧ b < w'.heap.size) ∧ WX B w' rb (some r)
  | none => WX B w' rb none
set_option maxHeartbeats 4000000 in
theorem values_x (most : Nat) (h : WX B w rb o) (hB : B ≤ w.heap.size) (hmm : most ≤ 1000000) :
    Calls Try.prog 35 #[.pointer (some ⟨rb, 0, none⟩), .int .i64 (most : Int)] w fun e w' => ∃ v, e = .returned v ∧ v.oneCell' = true ∧ ValsX B rb w v w' (qVals most o) ∧ KeepR rb w w' := by
  refine enter (args := [.pointer (some ⟨rb, 0, none⟩), .int .i64 (most : Int)]) Try.func35 rfl Try.ntmps35 rfl ?_; have hrB := h.rlt; refine K.kgo ?_; refine WL.call rfl rfl rfl rfl rfl Try.func32 rfl (by kernel_rfl) (upTo_x most h (by omega)) ?_; rintro _ w1 ⟨rfl, h1, k1⟩; refine ⟨_, rfl, ?_⟩; unfold qVals; have hm := qUp_le most o; have hz := qUp_zero (most := most) (o := o); generalize (qUp most o).1 = m at hm hz ⊢; generalize (qUp most o).2 = o1 at h1 hz ⊢; refine K.kgo ?_; cases o1 with
  | none =>
    have hz := hz rfl; subst hz; refine WC.loop (fun _ : Unit => [(0, .pointer (some ⟨rb, 0, none⟩)), (5, .slice none 0 0), (10, .int .i64 0), (11, .int .i64 0)])
      (fun _ wr => wr = w1) (fun _ => 0) () ⟨rfl, rfl, rfl, rfl, trivial⟩ rfl ?_
    rintro _ _ rfl; refine K.kgo ?_; exact WQ.ret1 rfl rfl ⟨_, rfl, rfl, h1, k1⟩
  | some l1 =>
    clear hz; refine WC.loop (fun i : Nat × Value × List V × List Int => [(0, .pointer (some ⟨rb, 0, none⟩)), (5, i.2.1), (10, .int .i64 m), (11, .int .i64 i.1)])
      (fun i wr => i.1 ≤ m ∧ qVs i.1 (some l1) = some i.2.2 ∧ WR B wr rb i.2.2.2 ∧ (∃ q : Nat → Prop, OwnE 60 6 noV (IsVo q 17 wr) (fun b => w.heap.size ≤ b) wr i.2.1 i.2.2.1 ∧ ∀ b, q b → w.heap.size ≤ b ∧ b < wr.heap.size ∧ i.2.1.ownBlock ≠ some b) ∧ KeepR rb w wr) (fun i => m - i.1) (0, .slice none 0 0, [], l1) ⟨rfl, rfl, rfl, rfl, trivial⟩
      ⟨Nat.zero_le _, rfl, h1, ⟨fun _ => False, OwnE.nil _ _ _ _ _ _, fun b h => h.elim⟩, k1⟩ ?_
    rintro ⟨i, v, vs, ri⟩ wr ⟨hi, hqi, hr, ⟨q, ho, hq⟩, hk⟩; simp only at hi hqi hr ho hq hk ⊢; have hvl := qVs_len hqi
    by_cases hik : i < m
    · have hsn := qVs_snoc i (some l1)
      rw [hqi] at hsn; simp only at hsn; cases hqv : qV (some ri) with
      | none =>
        rw [hqv] at hsn; simp only at hsn; have hend : qVs m (some l1) = none := by
          have := qVs_stop hsn (m - (i + 1))
          rwa [show i + 1 + (m - (i + 1)) = m by omega] at this
        rw [hend]; clear hsn hend hqi; have hzr := hk.size; have hri : WX B wr rb (some ri) := hr; refine K.kgo ?_; refine WL.call rfl rfl rfl rfl rfl Try.func32 rfl (by kernel_rfl) (upTo_x 65536 hri (by omega)) ?_; rintro _ w2 ⟨rfl, h2, k2⟩; refine ⟨_, rfl, ?_⟩; have hm2 := qUp_le 65536 (some ri); unfold qV at hqv; generalize (qUp 65536 (some ri)).1 = m2 at hm2 hqv ⊢; generalize (qUp 65536 (some ri)).2 = o2 at h2 hqv ⊢; refine WL.call rfl rfl rfl rfl rfl Try.func34 rfl (by kernel_rfl) (take_x m2 h2 (by omega)) ?_; rintro _ w3 ⟨tv, rfl, htv, h3, k3⟩; refine ⟨_, rfl, ?_⟩; obtain ⟨hby, hbl⟩ := qT_byt (n := m2) h2.byt; generalize (qT m2 o2).1 = t at htv hby hbl hqv; generalize (qT m2 o2).2 = o3 at h3 hqv; refine WL.call rfl rfl rfl rfl rfl Try.func58 rfl (by kernel_rfl) (decode_any htv.sl hby (by omega)) ?_; rintro _ w4 ⟨k4, y, cs, e4, rfl, hv4, hm4⟩; refine ⟨_, rfl, ?_⟩; have hbad : o3 = none ∨ e4 ≠ 0 := by
          cases o3 with
          | none => exact .inl rfl
          | some r3 =>
            simp only at hqv; cases hrd : readV true t with
            | ok v2 r2 => rw [hrd] at hqv; cases hqv
            | bad z => rw [hrd] at hm4; exact .inr (by rw [hm4.2.1]; exact hm4.2.2)
        clear hm4 hqv; have hz2 := k2.size; have hz3 := k3.size; have hz4 := k4.size; have kr4 : KeepR rb wr w4 := (k2.trans k3).trans (KeepR.below k4); have h4 := h3.keep (Keep.of_below k4) fun b hb => by omega
        have hc6 := hv4.len; refine K.kgo ?_; refine WL.alloc (z := .agg zCells.toArray) rfl rfl rfl rfl (fun _ => by kernel_rfl) fun g5 w5 hf5 => ?_; have hf5' : Fresh w4 g5 w5 60 zCells := hf5; clear hf5; have hg5 := hf5'.eq; have hz5 := hf5'.size; refine K.kgo ?_; refine WL.storeRow rfl rfl rfl rfl rfl rfl hf5'.blk hc6 (by rfl) hv4.one ?_; have k6 : Below w4.heap.size w4 (w5.setRow g5 cs.toArray) := below_setRow hf5'.below (by rw [hg5]; exact Nat.le_refl _) _; generalize w5.setRow g5 cs.toArray = w6 at k6 ⊢; clear hf5'; have h6 := h4.keep (Keep.of_below k6) fun b hb => by omega
        obtain ⟨sp6, n6, cap6, hb6⟩ := h6.ex; have h7 := h6.setT; obtain ⟨sp7, n7, cap7, hb7⟩ := h7.ex; have kr7 : KeepR rb w (w6.setCell ⟨rb, 1, none⟩ (.bool true)) := ((hk.trans kr4).trans (KeepR.below k6)).trans (KeepR.set _ _ _ _); rcases hbad with rfl | he4
        · refine K.kgo ?_
          refine WL.load rfl rfl rfl rfl rfl rfl (hb6.cell 1 (by simp)) ?_; refine WL.as 25 (.bool true) rfl rfl ?_; refine K.kgo ?_; refine WL.store rfl rfl rfl rfl rfl rfl (by kernel_rfl) (hb6.cell 1 (by simp)) (hb6.free 1) ?_; generalize w6.setCell ⟨rb, 1, none⟩ (.bool true) = w7 at h7 hb7 kr7 ⊢; refine K.kgo ?_; refine WL.load rfl rfl rfl rfl rfl rfl (hb7.cell 1 (by simp)) ?_; refine WL.as 35 (.bool true) rfl rfl ?_; refine K.kgo ?_; exact WQ.ret1 rfl rfl ⟨_, rfl, rfl, h7, kr7⟩
        · cases o3 with
          | none =>
            refine K.kgo ?_; refine WL.load rfl rfl rfl rfl rfl rfl (hb6.cell 1 (by simp)) ?_; refine WL.as 25 (.bool true) rfl rfl ?_; refine K.kgo ?_; refine WL.store rfl rfl rfl rfl rfl rfl (by kernel_rfl) (hb6.cell 1 (by simp)) (hb6.free 1) ?_; generalize w6.setCell ⟨rb, 1, none⟩ (.bool true) = w7 at h7 hb7 kr7 ⊢; refine K.kgo ?_; refine WL.load rfl rfl rfl rfl rfl rfl (hb7.cell 1 (by simp)) ?_; refine WL.as 35 (.bool true) rfl rfl ?_; refine K.kgo ?_; exact WQ.ret1 rfl rfl ⟨_, rfl, rfl, h7, kr7⟩
          | some r3 =>
            refine K.kgo ?_; refine WL.load rfl rfl rfl rfl rfl rfl (hb6.cell 1 (by simp)) ?_; refine WL.as 25 (.bool false) rfl rfl ?_; refine K.kgo ?_; refine WL.store rfl rfl rfl rfl rfl rfl (by kernel_rfl) (hb6.cell 1 (by simp)) (hb6.free 1) ?_; generalize w6.setCell ⟨rb, 1, none⟩ (.bool true) = w7 at h7 hb7 kr7 ⊢; refine K.kgo ?_; refine WL.load rfl rfl rfl rfl rfl rfl (hb7.cell 1 (by simp)) ?_; refine WL.as 35 (.bool true) rfl rfl ?_; refine K.kgo ?_; exact WQ.ret1 rfl rfl ⟨_, rfl, rfl, h7, kr7⟩
      | some p =>
        obtain ⟨x, r'⟩ := p; rw [hqv] at hsn; simp only at hsn; obtain ⟨e1, c1, h65, hb', hrd, hby⟩ := qV_ok hqv (fun l hl => by cases hl; exact hr.byt); have e1' : ri = uvB (encV 16 x).length ++ (encV 16 x ++ r') := by simpa using e1
        rw [e1'] at hr; clear e1 e1'; have hzr := hk.size; refine K.kgo ?_; refine WL.call rfl rfl rfl rfl rfl Try.func32 rfl (by kernel_rfl) (wupTo_any (most := 65536) hr h65 (by omega)) ?_; rintro _ w2 ⟨rfl, h2, k2⟩; refine ⟨_, rfl, ?_⟩; refine WL.call rfl rfl rfl rfl rfl Try.func34 rfl (by kernel_rfl) (wtake_any (k := (encV 16 x).length) (A := encV 16 x) h2 rfl (by omega)) ?_; rintro _ w3 ⟨tv, rfl, htv, h3, k3⟩; refine ⟨_, rfl, ?_⟩; refine WL.call rfl rfl rfl rfl rfl Try.func58 rfl (by kernel_rfl) (decode_any htv.sl hby (by omega)) ?_; rintro _ w4 ⟨k4, y, cs, e4, rfl, hv4, hm4⟩; refine ⟨_, rfl, ?_⟩; rw [hrd] at hm4; obtain ⟨rfl, rfl⟩ := hm4; have hz2 := k2.size; have hz3 := k3.size; have hz4 := k4.size; have kr4 : KeepR rb wr w4 := (k2.trans k3).trans (KeepR.below k4); have h4 := h3.keep (Keep.of_below k4) fun b hb => by omega
        have hc6 := hv4.len; refine K.kgo ?_; refine WL.alloc (z := .agg zCells.toArray) rfl rfl rfl rfl (fun _ => by kernel_rfl) fun g5 w5 hf5 => ?_; have hf5' : Fresh w4 g5 w5 60 zCells := hf5; clear hf5; have hg5 := hf5'.eq; have hz5 := hf5'.size; refine K.kgo ?_; refine WL.storeRow rfl rfl rfl rfl rfl rfl hf5'.blk hc6 (by rfl) hv4.one ?_; have k6 : Below w4.heap.size w4 (w5.setRow g5 cs.toArray) := below_setRow hf5'.below (by rw [hg5]; exact Nat.le_refl _) _; have T6 := hf5'.blk.setRow cs; have hz6 : (w5.setRow g5 cs.toArray).heap.size = w5.heap.size := by simp
        generalize w5.setRow g5 cs.toArray = w6 at k6 T6 hz6 ⊢; clear hf5'; have h6 := h4.keep (Keep.of_below k6) fun b hb => by omega
        obtain ⟨sp6, cap6, hb6, -⟩ := h6.ex; refine K.kgo ?_; refine WL.load rfl rfl rfl rfl rfl rfl (hb6.cell 1 (by simp)) ?_; refine K.kgo ?_; refine WL.store rfl rfl rfl rfl rfl rfl (by kernel_rfl) (hb6.cell 1 (by simp)) (hb6.free 1) ?_; have h7 := h6.setF; have hset : Keep (fun b => b ≠ rb) w6 (w6.setCell ⟨rb, 1, none⟩ (.bool false)) := (Keep.refl _ w6).setCell (fun hk => hk rfl) _; have T7 : VBlk 60 (w6.setCell ⟨rb, 1, none⟩ (.bool false)) g5 cs := T6.other _ _ (by show g5 ≠ rb; omega); have kr6 : KeepR rb w4 (w6.setCell ⟨rb, 1, none⟩ (.bool false)) := (KeepR.below k6).trans (KeepR.set _ _ _ _); have hz7 : (w6.setCell ⟨rb, 1, none⟩ (.bool false)).heap.size = w6.heap.size := by simp
        generalize w6.setCell ⟨rb, 1, none⟩ (.bool false) = w7 at h7 hset T7 kr6 hz7 ⊢; obtain ⟨sp7, cap7, hb7, -⟩ := h7.ex; refine K.kgo ?_; refine WL.load rfl rfl rfl rfl rfl rfl (hb7.cell 1 (by simp)) ?_; refine K.kgo ?_; refine WL.loadMid rfl rfl rfl rfl rfl rfl (VBlk.rangeAt T7) hc6 ?_; refine WL.lit1 rfl rfl rfl rfl rfl rfl rfl hc6 ⟨by omega, by omega⟩ (by kernel_rfl) fun g8 w8 hf8 => ?_; have hz8 := hf8.size; have kr8 : KeepR rb wr w8 := (kr4.trans kr6).trans (KeepR.below hf8.below); have h8 := h7.keep (Keep.of_below hf8.below) fun b hb => by omega
        have hrB' : rb < w.heap.size := by omega
        have ho8 : OwnE 60 6 noV (IsVo (fun b => q b ∨ (w3.heap.size ≤ b ∧ b < w4.heap.size)) 17 w8) (fun b => w.heap.size ≤ b) w8 v vs :=
          ho.keep kr8 (fun g hg => ⟨ho.lt hg, by have := ho.own hg; omega⟩) (fun _ h => h) fun x cs hx => hx.keep kr8 (fun b hb _ => ⟨(hq b hb).2.1, by have := (hq b hb).1; omega⟩) fun b hb => .inl hb
        have kr48 : KeepR rb w4 w8 := kr6.trans (KeepR.below hf8.below); have hv8 : IsVo (fun b => q b ∨ (w3.heap.size ≤ b ∧ b < w4.heap.size)) 17 w8 y cs := hv4.there.keep kr48 (fun b hb _ => ⟨hb.2, by have := hb.1; omega⟩) fun b hb => .inr hb; have hlt : vs.length ≤ i := by omega
        refine WL.snoc rfl rfl rfl rfl elemV6 rfl ho8 rfl hf8.blk hv4.one hc6 hv8 (by omega) (by omega) fun v9 w9 ho9 hg9 => ?_; have hz9 := hg9.1.size; have hq9 : ∀ b, (q b ∨ (w3.heap.size ≤ b ∧ b < w4.heap.size)) → w.heap.size ≤ b ∧ b < w8.heap.size ∧ v.ownBlock ≠ some b := fun b hb => hb.elim (fun h => by
            obtain ⟨h1, h2, h3⟩ := hq b h; exact ⟨h1, by omega, h3⟩) fun h => ⟨by omega, by omega, fun e => by have := ho.lt e; omega⟩
        refine K.kgo ?_; refine WQ.again (i + 1, v9, vs ++ [y], r') ⟨rfl, rfl, rfl, rfl, trivial⟩ ⟨by show i + 1 ≤ m; omega, hsn, h8.keep hg9.1 (fun b hb => ⟨by omega, fun e => by have := ho8.own e; omega⟩), ⟨(fun b => q b ∨ (w3.heap.size ≤ b ∧ b < w4.heap.size)), ?_, fun b hb => ?_⟩, ?_⟩ (by show m - (i + 1) < m - i; omega)
        · exact ho9.keep (Keep.refl (fun _ => True) w9) (fun _ _ => trivial) (fun b hb => by omega) fun x cs hx => hx.keep hg9.1 (fun b hb _ => (hq9 b hb).2) fun b hb => hb
        · obtain ⟨e1, e2, e3⟩ := hq9 b hb
          exact ⟨e1, by omega, fun e => (hg9.2 b e).elim e3 fun h4 => by omega⟩
        · exact Keep.trans (hk.trans kr8) (hg9.1.mono fun b hb => ⟨by have := hb.1; have := kr8.size; omega, fun e => by have := ho8.own e; have := hb.1; omega⟩)
    · obtain rfl : i = m := by omega
      rw [hqi]; refine K.kgo ?_; exact WQ.ret1 rfl rfl ⟨v, rfl, ho.one, ⟨⟨q, ho, fun b hb => ⟨(hq b hb).1, (hq b hb).2.1⟩⟩, hr⟩, hk⟩
end K
end Go.Proofs.Ytdkkaliiofcflaa

namespace Go.Proofs.Ytdkkaliiofcflaa
open Go.RowKit
namespace K
section
variable {n : NN} {Q : Exit → Act → World → Prop} {l : Env} {w : World} {ops : Array Oper} {o : Oper} {rest : List Oper} {d : Nat}
theorem made_rep (u : Value) (n : Nat) : (madeCells #[u] n).toList = List.replicate n u := by
  apply List.ext_getElem
  · simp [madeCells]
  · intro i h1 h2
    simp [madeCells]
    have : i % 1 = 0 := by omega
    simp [this]
theorem WL.make {t e bytes : Nat} {x : Operand} {k : IntKind} {z : Value} (m : Nat) (u : Value) (hu : z.cells = #[u]) (hi : (Try.prog.info? e).map (fun i => (i.zero, i.size, i.bytes)) = some (some z, 1, bytes)) (hg : o.guard = none) (hd : o.dst = some d) (hn : Nat.blt d n.n = true) (ho : o.op = .makeSlice t x x) (ht : tyOf ty t = some (.slice e 1))
    (hx : evl l x = some (.int k (m : Int))) (hb : bytes * m ≤ 140737488355328) (hm : m ≤ 140737488355328) (h : ∀ g w', Fresh w g w' e (List.replicate m u) → WL n ops Q rest ((d, .slice (some ⟨g, 0, none⟩) m m) :: l) w') : WL n ops Q (o :: rest) l w := by
  have hu2 : Try.prog.underlying t = some (.slice e) := (TyOk.of tyOk ht).1; obtain ⟨i, i1, i2, i3, i4⟩ := info_parts hi; have hb' : (i.bytes : Int) * (m : Int) ≤ 281474976710656 := by
    have : ((i.bytes * m : Nat) : Int) ≤ 281474976710656 := by rw [i4]; omega
    rwa [Int.natCast_mul] at this
  have hr := run_make (P := Try.prog) w t e i z hu2 i1 i2 k k (m : Int) (m : Int) (by omega) (Int.le_refl _) hb' (by omega); simp only [Int.toNat_natCast, i3, Nat.mul_one, hu] at hr; refine WL.step hg hd hn (w' := w.alloc (.cells (madeCells #[u] m) e)) (fun a ha => ?_) (h w.heap.size _ ?_)
  · unfold execOp
    rw [ho]; simp [ha.eval hx, hr, Result.andThen]
  · have : madeCells #[u] m = (List.replicate m u).toArray := by rw [← made_rep]
    rw [this]; exact Fresh.mk' w e _
end
structure WR5 (B : Nat) (w : World) (rb : Nat) (l : List Int) : Prop where
  rlt : rb < B
  byt : Byt l
  ex : ∃ sp cap, VBlk 88 w rb [.slice sp l.length cap, .bool false] ∧ SlB (fun b => b < B ∧ b ≠ rb) w (.slice sp l.length cap) l
theorem WR5.keep {B : Nat} {w w' : World} {rb : Nat} {l : List Int} (h : WR5 B w rb l) {K : Nat → Prop} (hk : Keep K w w') (hK : ∀ b, b < B → K b) : WR5 B w' rb l := by
  obtain ⟨sp, cap, h1, h2⟩ := h.ex; exact ⟨h.rlt, h.byt, sp, cap, h1.keep hk (hK _ h.rlt), h2.keep hk fun b hb => hK b hb.1⟩
theorem WR5.setL {B : Nat} {w : World} {rb : Nat} {l l' : List Int} {v' : Value} (h : WR5 B w rb l) (hb : Byt l') (hv : SlB (fun b => b < B ∧ b ≠ rb) w v' l') : WR5 B (w.setCell ⟨rb, 0, none⟩ v') rb l' := by
  obtain ⟨sp, cap, h1, h2⟩ := h.ex; obtain ⟨sp', cap', rfl, -⟩ := hv.sl; exact ⟨h.rlt, hb, sp', cap', h1.set 0 (.slice sp' l'.length cap'), hv.keep (K := fun b => b ≠ rb) ((Keep.refl _ w).setCell (fun hk => hk rfl) _) fun b hb => hb.2⟩
variable {B rb : Nat} {w : World}
theorem rnumber5_any {n : Nat} {r : List Int} (h : WR5 B w rb (uvB n ++ r)) (hn : n < 18446744073709551616) :
    Calls Try.prog 62 #[.pointer (some ⟨rb, 0, none⟩)] w fun e w' => e = .returned (.int .u64 (n : Int)) ∧ WR5 B w' rb r ∧ KeepR rb w w' := by
  refine enter (args := [.pointer (some ⟨rb, 0, none⟩)]) Try.func62 rfl Try.ntmps62 rfl ?_; obtain ⟨sp, cap, h1, h2⟩ := h.ex; have hrd := rdU_enc hn r; have hru : ruV (uvB n ++ r) = [.int .u64 (n : Nat), .int .i64 (((uvB n ++ r).length - r.length : Nat) : Int), .int .i64 0] := by unfold ruV; rw [hrd]
  have hbr : Byt r := fun c hc => h.byt c (List.mem_append.2 (.inr hc)); have hdr : (uvB n ++ r).drop ((((uvB n ++ r).length - r.length : Nat) : Int).toNat) = r := by
    rw [List.length_append, Int.toNat_natCast, show (uvB n).length + r.length - r.length = (uvB n).length by omega]; exact List.drop_left' rfl
  have hle : (uvB n ++ r).length - r.length ≤ (uvB n ++ r).length := by omega
  generalize (uvB n ++ r).length - r.length = k at hru hdr hle; refine K.kgo ?_; refine WL.load rfl rfl rfl rfl rfl rfl (h1.cell 1 (by simp)) ?_; refine K.kgo ?_; refine WL.load rfl rfl rfl rfl rfl rfl (h1.cell 0 (by simp)) ?_; refine WL.call rfl rfl rfl rfl rfl Try.func75 rfl (by kernel_rfl) (rreadU_any h2.sl h.byt) ?_; rintro _ _ ⟨rfl, rfl⟩; refine ⟨_, rfl, ?_⟩; rw [hru]; refine K.kgo ?_; refine WL.load rfl rfl rfl rfl rfl rfl (h1.cell 0 (by simp)) ?_; refine K.kgo ?_; refine WL.fromB (z := (k : Int)) rfl rfl rfl rfl rfl rfl rfl (by omega) (by omega) h2 fun v' hv' => ?_; rw [hdr] at hv'; have hv : v'.oneCell' = true := by obtain ⟨_, _, rfl, -⟩ := hv'.sl; rfl
  refine K.kgo ?_; refine WL.store rfl rfl rfl rfl rfl hv (by kernel_rfl) (h1.cell 0 (by simp)) (h1.free 0) ?_; refine K.kgo ?_; exact WQ.ret1 rfl rfl ⟨rfl, h.setL hbr hv', KeepR.set _ _ _ _⟩
theorem rtake5_any {k : Nat} {A r : List Int} (h : WR5 B w rb (A ++ r)) (hk : A.length = k) (hs : k ≤ 9007199254740992) :
    Calls Try.prog 40 #[.pointer (some ⟨rb, 0, none⟩), .int .i64 (k : Int)] w fun e w' => ∃ v, e = .returned v ∧ SlB (fun b => b < B ∧ b ≠ rb) w' v A ∧ WR5 B w' rb r ∧ KeepR rb w w' := by
  refine enter (args := [.pointer (some ⟨rb, 0, none⟩), .int .i64 (k : Int)]) Try.func40 rfl Try.ntmps40 rfl ?_; obtain ⟨sp, cap, h1, h2⟩ := h.ex; have hbr : Byt r := fun c hc => h.byt c (List.mem_append.2 (.inr hc)); have hdr : (A ++ r).drop k = r := by rw [← hk]; exact List.drop_left' rfl
  have htk : (A ++ r).take k = A := by rw [← hk]; exact List.take_left' rfl
  have hle : k ≤ (A ++ r).length := by rw [List.length_append]; omega
  refine K.kgo ?_; refine WL.load rfl rfl rfl rfl rfl rfl (h1.cell 1 (by simp)) ?_; refine K.kgo ?_; refine WL.load rfl rfl rfl rfl rfl rfl (h1.cell 0 (by simp)) ?_; refine K.kgo ?_; refine WL.load rfl rfl rfl rfl rfl rfl (h1.cell 0 (by simp)) ?_; refine K.kgo ?_; refine WL.uptoW (z := (k : Int)) rfl rfl rfl rfl rfl rfl rfl (by omega) (by omega) h2 fun v1 hv1 => ?_; rw [Int.toNat_natCast, htk] at hv1; refine K.kgo ?_; refine WL.load rfl rfl rfl rfl rfl rfl (h1.cell 0 (by simp)) ?_; refine K.kgo ?_; refine WL.fromB (z := (k : Int)) rfl rfl rfl rfl rfl rfl rfl (by omega) (by omega) h2 fun v' hv' => ?_; rw [Int.toNat_natCast, hdr] at hv'; have hv : v'.oneCell' = true := by obtain ⟨_, _, rfl, -⟩ := hv'.sl; rfl
  refine K.kgo ?_; refine WL.store rfl rfl rfl rfl rfl hv (by kernel_rfl) (h1.cell 0 (by simp)) (h1.free 0) ?_; refine K.kgo ?_; refine WQ.ret1 rfl rfl ⟨v1, rfl, hv1.keep (K := fun b => b ≠ rb) ((Keep.refl _ w).setCell (fun hk => hk rfl) _) fun b hb => hb.2, h.setL hbr hv', KeepR.set _ _ _ _⟩
theorem WR5.setF {l : List Int} (h : WR5 B w rb l) : WR5 B (w.setCell ⟨rb, 1, none⟩ (.bool false)) rb l := by
  obtain ⟨sp, cap, h1, h2⟩ := h.ex; exact ⟨h.rlt, h.byt, sp, cap, h1.set 1 (.bool false), h2.keep (K := fun b => b ≠ rb) ((Keep.refl _ w).setCell (fun hk => hk rfl) _) fun b hb => hb.2⟩
section
variable {w' : World} {o : Ro}
structure WBad5 (B : Nat) (w : World) (rb : Nat) : Prop where
  rlt : rb < B
  ex : ∃ sp n cap, VBlk 88 w rb [.slice sp n cap, .bool true]
def WX5 (B : Nat) (w : World) (rb : Nat) : Ro → Prop
  | some l => WR5 B w rb l
  | none => WBad5 B w rb
theorem WX5.rlt (h : WX5 B w rb o) : rb < B := by
  cases o with
  | none => exact WBad5.rlt h
  | some l => exact WR5.rlt h
theorem WX5.byt (h : WX5 B w rb o) : ∀ l, o = some l → Byt l := fun l e => by
  subst e; exact WR5.byt h
theorem WX5.keep (h : WX5 B w rb o) {K : Nat → Prop} (hk : Keep K w w') (hK : ∀ b, b < B → K b) : WX5 B w' rb o := by
  cases o with
  | none =>
    obtain ⟨h1, sp, n, cap, h2⟩ := h; exact ⟨h1, sp, n, cap, h2.keep hk (hK _ h1)⟩
  | some l => exact WR5.keep h hk hK
theorem WX5.ex (h : WX5 B w rb o) : ∃ sp n cap, VBlk 88 w rb [.slice sp n cap, .bool o.isNone] := by
  cases o with
  | none => exact WBad5.ex h
  | some l =>
    obtain ⟨sp, cap, h1, -⟩ := WR5.ex h; exact ⟨sp, _, cap, h1⟩
theorem WX5.setT (h : WX5 B w rb o) : WX5 B (w.setCell ⟨rb, 1, none⟩ (.bool true)) rb none := by
  obtain ⟨sp, n, cap, h1⟩ := h.ex; exact ⟨h.rlt, sp, n, cap, h1.set 1 (.bool true)⟩
theorem WX5.setF {l : List Int} (h : WX5 B w rb (some l)) : WX5 B (w.setCell ⟨rb, 1, none⟩ (.bool false)) rb (some l) := WR5.setF h
theorem number5_x (h : WX5 B w rb o) :
    Calls Try.prog 62 #[.pointer (some ⟨rb, 0, none⟩)] w fun e w' => e = .returned (.int .u64 ((qU o).1 : Int)) ∧ WX5 B w' rb (qU o).2 ∧ KeepR rb w w' := by
  cases o with
  | none =>
    obtain ⟨hlt, sp, n, cap, h1⟩ := h; refine enter (args := [.pointer (some ⟨rb, 0, none⟩)]) Try.func62 rfl Try.ntmps62 rfl ?_; refine K.kgo ?_; refine WL.load rfl rfl rfl rfl rfl rfl (h1.cell 1 (by simp)) ?_; refine K.kgo ?_; exact WQ.ret1 rfl rfl ⟨rfl, ⟨hlt, _, _, _, h1⟩, KeepR.refl _ _⟩
  | some l =>
    have h : WR5 B w rb l := h; cases hr : rdU l with
    | ok u r =>
      obtain ⟨e, hlt⟩ := rdU_can h.byt hr; have h' : WR5 B w rb (uvB u ++ r) := by rw [← e]; exact h
      have hq : qU (some l) = (u, some r) := by
        show (match rdU l with | .ok u r => ((u, some r) : Nat × Ro) | .bad _ => (0, none)) = _
        rw [hr]
      rw [hq]; exact rnumber5_any h' hlt
    | bad x =>
      have hq : qU (some l) = (0, none) := by
        show (match rdU l with | .ok u r => ((u, some r) : Nat × Ro) | .bad _ => (0, none)) = _
        rw [hr]
      rw [hq]; have hx : x = 2 ∨ x = 3 := rdUF_bad _ _ _ _ hr; have hru : ruV l = [.int .u64 0, .int .i64 0, .int .i64 x] := by unfold ruV; rw [hr]
      obtain ⟨sp, cap, h1, h2⟩ := h.ex; refine enter (args := [.pointer (some ⟨rb, 0, none⟩)]) Try.func62 rfl Try.ntmps62 rfl ?_; refine K.kgo ?_; refine WL.load rfl rfl rfl rfl rfl rfl (h1.cell 1 (by simp)) ?_; refine K.kgo ?_; refine WL.load rfl rfl rfl rfl rfl rfl (h1.cell 0 (by simp)) ?_; refine WL.call rfl rfl rfl rfl rfl Try.func75 rfl (by kernel_rfl) (rreadU_any h2.sl h.byt) ?_; rintro _ _ ⟨rfl, rfl⟩; refine ⟨_, rfl, ?_⟩; rw [hru]; refine K.kgo ?_; refine WL.store rfl rfl rfl rfl rfl rfl (by kernel_rfl) (h1.cell 1 (by simp)) (h1.free 1) ?_; refine K.kgo ?_; exact WQ.ret1 rfl rfl ⟨rfl, WX5.setT (o := some l) h, KeepR.set _ _ _ _⟩
theorem count5_x (most : Nat) (h : WX5 B w rb o) (hm : most ≤ 9007199254740992) :
    Calls Try.prog 41 #[.pointer (some ⟨rb, 0, none⟩), .int .i64 (most : Int)] w fun e w' => e = .returned (.int .i64 ((qUp most o).1 : Int)) ∧ WX5 B w' rb (qUp most o).2 ∧ KeepR rb w w' := by
  refine enter (args := [.pointer (some ⟨rb, 0, none⟩), .int .i64 (most : Int)]) Try.func41 rfl Try.ntmps41 rfl ?_; have hw64 : IntKind.u64.wrap (most : Int) = (most : Int) := wraps_u64 _ (by omega) (by omega); refine K.kgo ?_; refine WL.call rfl rfl rfl rfl rfl Try.func62 rfl (by kernel_rfl) (number5_x h) ?_; rintro _ w2 ⟨rfl, h2, k2⟩; refine ⟨_, rfl, ?_⟩
  by_cases hu : most < (qU o).1
  · have hq : qUp most o = (0, none) := by unfold qUp; rw [if_pos hu]
    rw [hq]; obtain ⟨sp, n, cap, h3⟩ := h2.ex; generalize (qU o).1 = u at hu ⊢; refine K.kgo ?_; refine WL.store rfl rfl rfl rfl rfl rfl (by kernel_rfl) (h3.cell 1 (by simp)) (h3.free 1) ?_; refine K.kgo ?_; exact WQ.ret1 rfl rfl ⟨rfl, h2.setT, k2.trans (KeepR.set _ _ _ _)⟩
  · have hq : qUp most o = qU o := by unfold qUp; rw [if_neg hu]
    rw [hq]; generalize (qU o).1 = u at hu ⊢; refine K.kgo ?_; exact WQ.ret1 rfl rfl ⟨rfl, h2, k2⟩
end
theorem byt_zeros (n : Nat) : Byt (List.replicate n 0) := fun c hc => by
  rw [List.eq_of_mem_replicate hc]; exact ⟨Int.le_refl 0, by omega⟩
theorem sl_zeros {w w' : World} {g n : Nat} (h : Fresh w g w' 5 (List.replicate n (.int .u8 0))) (hn : n ≤ 140737488355328) : Sl .u8 w' (.slice (some ⟨g, 0, none⟩) n n) (List.replicate n 0) := by
  refine ⟨some ⟨g, 0, none⟩, n, by rw [List.length_replicate], by rw [List.length_replicate]; exact Nat.le_refl _, by omega, fun _ => ⟨g, 0, rfl, h.blk.lt, fun i hi => ?_⟩, fun h => by cases h⟩; rw [List.length_replicate] at hi; have := h.blk.cell i (by rw [List.length_replicate]; exact hi); rw [Nat.zero_add, this]; simp [nth, hi]
theorem raw5_x {B rb : Nat} {w : World} {o : Ro} (k : Nat) (h : WX5 B w rb o) (hB : B ≤ w.heap.size) (hs : k ≤ 9007199254740992) :
    Calls Try.prog 40 #[.pointer (some ⟨rb, 0, none⟩), .int .i64 (k : Int)] w fun e w' => ∃ v L, e = .returned v ∧ Sl .u8 w' v L ∧ Byt L ∧ (if (qT k o).2 = none then L = List.replicate (min k 32) 0 else L = (qT k o).1) ∧ WX5 B w' rb (qT k o).2 ∧ KeepR rb w w' := by
  have hmk : (if (32 : Int) < (k : Int) then (32 : Int) else (k : Int)) = ((min k 32 : Nat) : Int) := by split <;> omega
  have hm32 : min k 32 ≤ 32 := Nat.min_le_right _ _; cases o with
  | none =>
    obtain ⟨hlt, sp, n, cap, h1⟩ := h; have hqT : qT k none = ([], none) := rfl; rw [hqT]; refine enter (args := [.pointer (some ⟨rb, 0, none⟩), .int .i64 (k : Int)]) Try.func40 rfl Try.ntmps40 rfl ?_; refine K.kgo ?_; refine WL.load rfl rfl rfl rfl rfl rfl (h1.cell 1 (by simp)) ?_; refine K.kgo ?_; refine WL.store rfl rfl rfl rfl rfl rfl (by kernel_rfl) (h1.cell 1 (by simp)) (h1.free 1) ?_; have h2 := WX5.setT (o := none) ⟨hlt, sp, n, cap, h1⟩; have k2 : KeepR rb w (w.setCell ⟨rb, 1, none⟩ (.bool true)) := KeepR.set _ _ _ _; generalize w.setCell ⟨rb, 1, none⟩ (.bool true) = w2 at h2 k2 ⊢; refine K.kgo ?_; refine WL.as 23 (.int .i64 ((min k 32 : Nat) : Int)) rfl (congrArg (Value.int .i64) hmk) ?_; refine WL.make (bytes := 1) (z := .int .u8 0) (min k 32) (.int .u8 0) rfl (by kernel_rfl) rfl rfl rfl rfl rfl rfl (by omega) (by omega) fun g w3 hf => ?_; have hf3 : Fresh w2 g w3 5 (List.replicate (min k 32) (.int .u8 0)) := hf; clear hf; refine K.kgo ?_; exact WQ.ret1 rfl rfl ⟨_, List.replicate (min k 32) 0, rfl, sl_zeros hf3 (by omega), byt_zeros _, by rw [if_pos rfl], h2.keep (Keep.of_below hf3.below) fun b hb => by have := k2.size; omega, k2.trans (KeepR.below hf3.below)⟩
  | some l =>
    have h : WR5 B w rb l := h
    by_cases hl : l.length < k
    · have hq : qT k (some l) = ([], none) := if_pos hl
      rw [hq]; obtain ⟨sp, cap, h1, h2⟩ := h.ex; refine enter (args := [.pointer (some ⟨rb, 0, none⟩), .int .i64 (k : Int)]) Try.func40 rfl Try.ntmps40 rfl ?_; refine K.kgo ?_; refine WL.load rfl rfl rfl rfl rfl rfl (h1.cell 1 (by simp)) ?_; refine K.kgo ?_; refine WL.load rfl rfl rfl rfl rfl rfl (h1.cell 0 (by simp)) ?_; refine K.kgo ?_; refine WL.store rfl rfl rfl rfl rfl rfl (by kernel_rfl) (h1.cell 1 (by simp)) (h1.free 1) ?_; have h2 := WX5.setT (o := some l) h; have k2 : KeepR rb w (w.setCell ⟨rb, 1, none⟩ (.bool true)) := KeepR.set _ _ _ _; generalize w.setCell ⟨rb, 1, none⟩ (.bool true) = w2 at h2 k2 ⊢; refine K.kgo ?_; refine WL.as 23 (.int .i64 ((min k 32 : Nat) : Int)) rfl (congrArg (Value.int .i64) hmk) ?_; refine WL.make (bytes := 1) (z := .int .u8 0) (min k 32) (.int .u8 0) rfl (by kernel_rfl) rfl rfl rfl rfl rfl rfl (by omega) (by omega) fun g w3 hf => ?_; have hf3 : Fresh w2 g w3 5 (List.replicate (min k 32) (.int .u8 0)) := hf; clear hf; refine K.kgo ?_; exact WQ.ret1 rfl rfl ⟨_, List.replicate (min k 32) 0, rfl, sl_zeros hf3 (by omega), byt_zeros _, by rw [if_pos rfl], h2.keep (Keep.of_below hf3.below) fun b hb => by have := k2.size; omega, k2.trans (KeepR.below hf3.below)⟩
    · have hq : qT k (some l) = (l.take k, some (l.drop k)) := if_neg hl
      rw [hq]; refine (rtake5_any (A := l.take k) (r := l.drop k) (k := k) (by rw [List.take_append_drop]; exact h) (by rw [List.length_take]; omega) hs).mono ?_; rintro e w' ⟨v, rfl, hv, h2, k2⟩; exact ⟨v, _, rfl, hv.sl, fun c hc => h.byt c (List.mem_of_mem_take hc), by rw [if_neg (fun h => by cases h)], h2, k2⟩
end K
end Go.Proofs.Ytdkkaliiofcflaa

namespace Go.Proofs.Ytdkkaliiofcflaa
open Go.RowKit
namespace K
theorem strOf_bytesI (t : ByteArray) : strOfNums (bytesI t) = t := by
  rw [strOfNums_mk]; unfold bytesI; rw [List.map_map, ByteArray.toList_eq]; have : (t.data.toList.map ((fun (c : Int) => UInt8.ofNat c.toNat) ∘ fun c : UInt8 => (c.toNat : Int))) = t.data.toList := by
    conv => rhs; rw [← List.map_id t.data.toList]
    refine List.map_congr_left fun c _ => ?_; simp
  rw [this]
theorem elsV {q O : Nat → Prop} {w : World} {f : Nat} {v : Value} {l : List V} (h : Els 6 noV (IsVo q f w) O w v l) : IsVs f w v l := by
  obtain ⟨sp, cap, k1, k2, k3, -, k4⟩ := h; refine ⟨sp, cap, k1, k2, k3, fun h0 => ?_⟩; obtain ⟨b, o, e, hb, -, hr⟩ := k4 h0; refine ⟨b, o, e, hb, fun j hj => ?_⟩; obtain ⟨cs, hc, hp, hat⟩ := hr j hj; exact ⟨cs, hc, IsVo.isV hp, hat⟩
structure DSt (T B rb gx S4 : Nat) (w0 w : World) (rest : List Int) (cells : List Value) (nv : Value) (ns : List Int) (pv : Value) (vs : List V) : Prop where
  r : WR B w rb rest
  hBg : B ≤ gx
  hg : gx < S4
  hs : S4 ≤ w.heap.size
  w0r : w0.heap.size ≤ rb
  x : VBlk T w gx cells
  n : OwnE 3 1 0 intP (fun b => S4 ≤ b) w nv ns
  v : ∃ q : Nat → Prop, OwnE 60 6 noV (IsVo q 17 w) (fun b => S4 ≤ b) w pv vs ∧ ∀ b, q b → S4 ≤ b ∧ b < w.heap.size
  below : Below w0.heap.size w0 w
section
variable {T B rb gx S4 : Nat} {w0 w w' : World} {rest rest' : List Int} {cells cells' : List Value} {nv : Value} {ns : List Int} {pv : Value} {vs : List V}
theorem DSt.rg (s : DSt T B rb gx S4 w0 w rest cells nv ns pv vs) : rb < gx := Nat.lt_of_lt_of_le s.r.rlt s.hBg
theorem DSt.keep (s : DSt T B rb gx S4 w0 w rest cells nv ns pv vs) {K : Nat → Prop} (k : Keep K w w') (hK : ∀ b, b < w.heap.size → b ≠ rb → b ≠ gx → K b) (r' : WR B w' rb rest') (x' : VBlk T w' gx cells') : DSt T B rb gx S4 w0 w' rest' cells' nv ns pv vs := by
  have h1 := s.rg; have h2 := s.hg; have h3 := s.w0r; have h4 := s.hs; refine ⟨r', s.hBg, s.hg, Nat.le_trans s.hs k.size, s.w0r, x', s.n.keep k (fun g hg => hK g (s.n.lt hg) (by have := s.n.own hg; omega) (by have := s.n.own hg; omega)) (fun _ h => h) fun _ _ h => h, ?_, ?_⟩
  · obtain ⟨q, ho, hq⟩ := s.v
    refine ⟨q, ho.keep k (fun g hg => hK g (ho.lt hg) (by have := ho.own hg; omega) (by have := ho.own hg; omega)) (fun _ h => h) fun y cs hy => hy.keep k (fun b hb _ => hK b (hq b hb).2 (by have := (hq b hb).1; omega) (by have := (hq b hb).1; omega)) fun b hb => hb, fun b hb => ⟨(hq b hb).1, by have := (hq b hb).2; have := k.size; omega⟩⟩
  · exact s.below.trans (Keep.below (k.mono fun b hb => hK b (by omega) (by omega) (by omega)))
theorem DSt.call (s : DSt T B rb gx S4 w0 w rest cells nv ns pv vs) (r' : WR B w' rb rest') (k : KeepR rb w w') : DSt T B rb gx S4 w0 w' rest' cells nv ns pv vs :=
  s.keep k (fun b h1 h2 _ => ⟨h1, h2⟩) r' (s.x.keep k ⟨s.x.lt, by have := s.rg; omega⟩)
theorem DSt.put (s : DSt T B rb gx S4 w0 w rest cells nv ns pv vs) (i : Nat) (u : Value) : DSt T B rb gx S4 w0 (w.setCell ⟨gx, i, none⟩ u) rest (cells.set i u) nv ns pv vs :=
  s.keep (K := fun b => b ≠ gx) ((Keep.refl _ w).setCell (fun hk => hk rfl) _) (fun b _ _ h => h) (s.r.keep (K := fun b => b ≠ gx) ((Keep.refl _ w).setCell (fun hk => hk rfl) _) fun b hb => by have := s.hBg; omega) (s.x.set i u)
theorem DSt.row (s : DSt T B rb gx S4 w0 w rest cells nv ns pv vs) (cs : List Value) : DSt T B rb gx S4 w0 (w.setRow gx cs.toArray) rest cs nv ns pv vs :=
  s.keep (K := fun b => b ≠ gx) (Keep.setRow (Keep.refl _ w) (fun hk => hk rfl) _) (fun b _ _ h => h) (s.r.keep (K := fun b => b ≠ gx) (Keep.setRow (Keep.refl _ w) (fun hk => hk rfl) _) fun b hb => by have := s.hBg; omega) (s.x.setRow cs)
theorem DSt.bad (s : DSt T B rb gx S4 w0 w rest cells nv ns pv vs) : DSt T B rb gx S4 w0 (w.setCell ⟨rb, 1, none⟩ (.bool false)) rest cells nv ns pv vs := s.call s.r.setF (KeepR.set _ _ _ _)
theorem DSt.down (s : DSt T B rb gx S4 w0 w rest cells nv ns pv vs) (k : Below w.heap.size w w') : DSt T B rb gx S4 w0 w' rest cells nv ns pv vs :=
  s.keep (Keep.of_below k) (fun b h _ _ => h) (s.r.keep (Keep.of_below k) fun b hb => by have := s.hBg; have := s.hg; have := s.hs; omega) (s.x.below k s.x.lt)
end
theorem wopen_ok {w : World} {v : Value} {P : List Int} (hv : Sl .u8 w v (Frm.frameL P)) (hb : Frm.Byt P) (hl : P.length ≤ 524288) :
    Calls Try.prog 30 #[v] w fun e w' => ∃ rb, e = .returned (.tuple #[.pointer (some ⟨rb, 0, none⟩), .int .i64 0]) ∧ WR w'.heap.size w' rb P ∧ Below w.heap.size w w' ∧ w.heap.size ≤ rb := by
  have hFl := Frm.frameL_len P; have hFb : Frm.Byt (Frm.frameL P) := fun c hc => by
    unfold Frm.frameL Frm.headF at hc; rcases List.mem_append.1 hc with h | h
    · exact (List.mem_append.1 h).elim (Crc.be4_byt _ c) (Crc.be4_byt _ c)
    · exact (List.mem_append.1 h).elim (hb c) (Crc.be4_byt _ c)
  have hdec : Frm.decF (Frm.frameL P) = (0, P, P.length + 12) := by
    have := Frm.decF_enc hl []
    rwa [List.append_nil] at this
  generalize Frm.frameL P = F at hv hFl hFb hdec; obtain ⟨sp, cap, rfl, -⟩ := id hv; refine enter (args := [.slice sp F.length cap]) Try.func30 rfl Try.ntmps30 rfl ?_; refine K.kgo ?_; refine WL.call rfl rfl rfl rfl rfl Try.func55 rfl (by kernel_rfl) (fdec_any hv hFb (by omega)) ?_; rintro _ w1 ⟨b, rfl, q1, k1, o1⟩; refine ⟨_, rfl, ?_⟩; have d1 : (Frm.decF F).1 = 0 := by rw [hdec]
  have d2 : (Frm.decF F).2.1 = P := by rw [hdec]
  have d3 : (Frm.decF F).2.2 = P.length + 12 := by rw [hdec]
  rw [d2] at q1; rw [d1, d3]; obtain ⟨spb, capb, rfl, -⟩ := id q1.form; have hF' : ((P.length + 12 : Nat) : Int) = (F.length : Int) := by omega
  refine K.kgo ?_; refine WL.build [.slice spb P.length capb, .bool false] rfl rfl rfl rfl rfl (by kernel_rfl) ?_; refine WL.box rfl rfl rfl rfl rfl fun g w2 hf0 => ?_; have hf : Fresh w1 g w2 75 [.slice spb P.length capb, .bool false] := hf0; clear hf0; have hge := hf.eq; have hgs := hf.size; have q2 := q1.below hf.below; have T := hf.blk; have k2 : Below w.heap.size w w2 := k1.trans (hf.below.mono k1.size); refine K.kgo ?_; refine WQ.ret2 rfl rfl rfl ⟨g, rfl, ⟨by omega, hb, ?_⟩, k2, by have := k1.size; omega⟩; have hob : (Value.slice spb P.length capb).ownBlock ≠ some g := fun e => by have := q1.lt _ e; omega
  exact ⟨spb, capb, T, q2.sl, fun h0 b' o' s' n' c' e => by
    injection e with e1 _ _
    subst e1; have : (Value.slice (some ⟨b', o', s'⟩) P.length capb).ownBlock = some b' := rfl; exact ⟨q2.lt _ this, fun e => hob (by rw [this, e])⟩⟩
end K
end Go.Proofs.Ytdkkaliiofcflaa

namespace Go.Proofs.Ytdkkaliiofcflaa
open Go.RowKit
namespace K
variable {n : NN} {Q : Exit → Act → World → Prop} {l : Env} {w w' : World} {ops : Array Oper} {o : Oper} {rest : List Oper} {d : Nat}
theorem copy_run {v : Value} {x : List Int} {b off m T : Nat} {cs : List Value} (ty' : Nat) (hb : VBlk T w b cs) (hs : Sl .u8 w v x) (hx : x.length ≤ m) (hfit : off + m ≤ cs.length) :
    (Builtin.copy_ #[27, 27] ty' #[.slice (some ⟨b, off, none⟩) m m, v]).run Try.prog w = .ok (.int .i64 x.length) (w.setRow b (cs.take off ++ x.map (Value.int .u8) ++ cs.drop (off + x.length)).toArray) := by
  have hsz : (Try.prog.info? 5).map (·.size) = some 1 := by kernel_rfl
  obtain ⟨sp, cap, rfl, h1, h2, h3, h4⟩ := hs; rcases Nat.eq_zero_or_pos x.length with h0 | h0
  · obtain rfl := List.eq_nil_of_length_eq_zero h0
    have hself : w.setRow b (cs.take off ++ ([] : List Int).map (Value.int .u8) ++ cs.drop (off + ([] : List Int).length)).toArray = w := by
      simp only [List.map_nil, List.append_nil, List.length_nil, Nat.add_zero, List.take_append_drop]; exact setRow_self w b cs.toArray T (0, 0) hb
    rw [hself]; cases sp with
    | none =>
      obtain rfl := h4 rfl; have := run_copy_nil Try.prog w 27 27 ty' 5 ⟨b, off, none⟩ m m Try.underlying27 (by rw [hsz]; rfl); simp only [List.length_nil]; rw [this]; have e0 : ((0 : Nat) : Int) = 0 := rfl; rw [e0, goInt]
    | some p =>
      have := run_copy_row Try.prog w 27 27 ty' 5 b off m m p 0 cap cs.toArray T [] Try.underlying27 hsz hb (by simp) (by simp) (by simp; omega) (by simp); have hself2 : w.setRow b (cs.toArray.toList.take off ++ [] ++ cs.toArray.toList.drop (off + ([] : List Value).length)).toArray = w := by
        simp only [List.append_nil, List.length_nil, Nat.add_zero, List.take_append_drop]; exact setRow_self w b cs.toArray T (0, 0) hb
      rw [hself2] at this; exact this
  · obtain ⟨b2, o2, rfl, hlt, hr⟩ := h3 h0
    have := run_copy_row Try.prog w 27 27 ty' 5 b off m m ⟨b2, o2, none⟩ x.length cap cs.toArray T (x.map (Value.int .u8)) Try.underlying27 hsz hb (by rw [List.length_map]; exact (Nat.min_eq_left hx).symm)
      (fun j v hj => by
        rw [List.getElem?_map] at hj; obtain ⟨z, hz, rfl⟩ := Option.map_eq_some_iff.1 hj; have hjl : j < x.length := by
          rcases Nat.lt_or_ge j x.length with h | h
          · exact h
          · rw [List.getElem?_eq_none h] at hz; cases hz
        have := hr.at j hjl; have e1 : (⟨b2, o2, none⟩ : Addr).add j = ⟨b2, o2 + j, none⟩ := by unfold Addr.add; split <;> simp_all
        rw [e1, this]; have : nth x j = z := by unfold nth; rw [List.getD_eq_getElem?_getD, hz]; rfl
        rw [this])
      (by simp only [List.length_map, List.size_toArray]; omega) (Ones.int _ _)
    refine this.trans ?_; simp only [List.length_map]
    rfl
theorem WL.copy {x y : Operand} {v : Value} {z : List Int} {b off m T : Nat} {cs : List Value} (hg : o.guard = none) (hd : o.dst = some d) (hn : Nat.blt d n.n = true)
    (ho : o.op = .call { callee := .builtin .copy, args := #[x, y], argTypes := #[27, 27] }) (hx : evl l x = some (.slice (some ⟨b, off, none⟩) m m)) (hy : evl l y = some v) (hs : Sl .u8 w v z) (hz : z.length ≤ m) (hb : VBlk T w b cs) (hfit : off + m ≤ cs.length)
    (h : WL n ops Q rest ((d, .int .i64 z.length) :: l) (w.setRow b (cs.take off ++ z.map (Value.int .u8) ++ cs.drop (off + z.length)).toArray)) : WL n ops Q (o :: rest) l w := by
  have hr := copy_run o.type hb hs hz hfit; refine WL.step hg hd hn (fun a ha => ?_) h; unfold execOp; simp only [ho, resolve, invoke, builtin, Sem.run_bind, Sem.run_pure, Result.andThen_ok, List.map_toArray, List.map_cons, List.map_nil, ha.eval hx, ha.eval hy, hr]
end K
end Go.Proofs.Ytdkkaliiofcflaa
