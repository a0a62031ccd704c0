/- Views (chapter 15), the laws' functions: both Views side by side; known. -/
import Derived.Test.YtchgjaaadfjiiaaGreatZVwLh8
namespace Go.Proofs.YtchgjaaadfjiiaaGreat
open Go.RowKit Go.Maps
namespace Vw
open K
set_option maxRecDepth 100000
structure Lite (f : Nat) (x : Ac) : Prop where
  sd : Sm 3000 f x.data
  se : Sm 3000 f x.e.data
  ld : chk 16 x.data = 0 → (encV 16 x.data).length ≤ 70368744177664
  le : chk 16 x.e.data = 0 → (encV 16 x.e.data).length ≤ 70368744177664
theorem actE_data (s : St) (x : Ac) : (actE s x).data = x.data ∨ (actE s x).data = zV ∨ (actE s x).data = x.e.data := by
  unfold actE
  repeat' split
  all_goals first | exact .inl rfl | exact .inr (.inl rfl) | exact .inr (.inr rfl)
theorem actE_sm {f : Nat} (s : St) {x : Ac} (h : Lite (f + 1) x) : Sm 3000 (f + 1) (actE s x).data := by
  rcases actE_data s x with e | e | e <;> rw [e]
  · exact h.sd
  · exact zSm f
  · exact h.se
theorem actE_len {f : Nat} (s : St) {x : Ac} (h : Lite f x) : chk 16 (actE s x).data = 0 → (encV 16 (actE s x).data).length ≤ 70368744177664 := by
  rcases actE_data s x with e | e | e <;> rw [e]
  · exact h.ld
  · intro _
    have : (encV 16 zV).length ≤ 65536 := by decide
    omega
  · exact h.le
theorem actsR_step (n : Nat) {L : List Ac} {i : Nat} (hi : i < L.length) (s : St) : actsR n (L.drop i) i s = ((actE s (L.getD i noAc)) :: (actsR n (L.drop (i + 1)) (i + 1) (entR s (actE s (L.getD i noAc)) n i (7 * n)).2).1, (actsR n (L.drop (i + 1)) (i + 1) (entR s (actE s (L.getD i noAc)) n i (7 * n)).2).2) := by
  rw [List.drop_eq_getElem_cons hi, List.getD_eq_getElem?_getD, List.getElem?_eq_getElem hi]
  rfl
theorem OwnE.self {α : Type} {e : TypeId} {m : Nat} {z : α} {P : α → List Value → Prop} {O : Nat → Prop} {w : World} {v : Value} {l : List α} (h : OwnE e m z P O w v l) : OwnE e m z P (fun b => v.ownBlock = some b) w v l := by
  obtain ⟨kcs, q1, q2, q3⟩ := h; exact ⟨kcs, q1, q2, q3.1, q3.2.1, fun g hg => hg⟩
theorem builtBk (i t : Int) : Tryz.prog.built bkT [(0, .int .i64 i), (1, .int .i64 t)] = some (bkC ⟨i, t, 0, Dig.Z32, []⟩ (.slice none 0 0)).toArray := by kernel_rfl
theorem bkC_one (b : Bk) (sp : Option Addr) (n c : Nat) : Ones (bkC b (.slice sp n c)) := by
  intro u hu; unfold bkC at hu; simp only [List.mem_cons, List.mem_append, List.not_mem_nil, or_false] at hu; rcases hu with rfl | rfl | rfl | hu | rfl
  all_goals first | rfl | exact Ones.int _ _ u hu
set_option maxHeartbeats 16000000 in
theorem made_any {w : World} {rb : Nat} {M D : Nat → Prop} {f : Nat} {s : St} {N : Nat} (h0 : RVs w rb M D (f + 1) s N) (hcp : copyRed s.rows s.red = s.red) {E : Nat → Prop} (hE : ∀ b, E b → b < w.heap.size) {v : Value} {L : List Ac} (hv : IsActs E (f + 1) w v L) (hL : ∀ x ∈ L, Lite (f + 1) x) (hN : N + L.length + 1 ≤ 1000000) :
    Calls Tryz.prog 12 #[.pointer (some ⟨rb, 0, none⟩), v] w fun e w' => Below w.heap.size w w' ∧ ∃ bc, e = .returned (.agg bc.toArray) ∧ IsBo (fun b => E b ∨ w.heap.size ≤ b) (f + 1) w' (madeR s L) bc := by
  obtain ⟨rcp, rOc, rv, mb, rk, rr⟩ := id h0; obtain ⟨spv, capv, rfl, hc1, hc2, hc3, hrow⟩ := id hv; have d2 := rr.vb.cell 2 (by simp); simp only [List.getD_cons_succ, List.getD_cons_zero] at d2; have lrb := rr.lt rb (.inl rr.mrb); have hrok := rr.ok; refine enter (args := [.pointer (some ⟨rb, 0, none⟩), .slice spv L.length capv]) Tryz.func12 rfl Tryz.ntmps12 rfl ?_; refine K.kgo ?_; refine WL.alloc (z := .agg (bkC noB (.slice none 0 0)).toArray) rfl rfl rfl rfl (fun _ => by kernel_rfl) fun g4 w1 f1 => ?_; have v4 : VBlk bkT w1 g4 (bkC noB (.slice none 0 0)) := f1.blk; have b1 := f1.below; have e4 := f1.eq; have z1 := b1.size; clear f1; refine K.kgo ?_; refine WC.drawn 11 (fun wx => Below w1.heap.size w1 wx) fun wa hdr => ?_; have hS : Below w1.heap.size w1 wa := hdr.below _; clear hdr; have d21 := (b1.cell (p := ⟨rb, 2, none⟩) lrb).trans d2; have lrb1 : rb < w1.heap.size := by omega
  refine K.fr [0, 1, 2] hS ?_; refine K.wl 3 [9, 11] rfl rfl rfl rfl rfl rfl rfl (fun wx hx => (hx.cell (p := ⟨rb, 2, none⟩) lrb1).trans d21) hS ?_; refine K.fr [4, 5, 6] hS ?_; refine K.wl 7 [8, 9, 11] rfl rfl rfl rfl rfl rfl rfl (fun wx hx => (hx.cell (p := ⟨rb, 2, none⟩) lrb1).trans d21) hS ?_; refine K.fr [8] hS ?_; refine Cr.WDbuild (bkC ⟨s.n, 7 * s.n, 0, Dig.Z32, []⟩ (.slice none 0 0)) 9 rfl (by kernel_rfl) rfl rfl (fun _ _ _ _ _ h => h) rfl rfl rfl (builtBk _ _) (.inr hS) ?_; refine K.wo 10 ?_; refine WL.alloc (z := .agg (bkC noB (.slice none 0 0)).toArray) rfl rfl rfl rfl (fun _ => by kernel_rfl) fun g5 w2 f2 => ?_; have hS2 := hS.trans (f2.below.mono hS.size); have e5 := f2.eq; refine K.di hS2 ?_; refine K.wo 11 ?_; refine WL.storeRow rfl rfl rfl rfl rfl rfl f2.blk rfl rfl (bkC_one _ _ _ _) ?_; obtain ⟨v5, b5, -, -⟩ := rowed (bkC ⟨s.n, 7 * s.n, 0, Dig.Z32, []⟩ (.slice none 0 0)) hS f2; generalize w2.setRow g5 _ = w5 at v5 b5 ⊢; have zS := hS.size; clear f2 hS2; refine K.dl ?_; refine WD.done (by kernel_rfl) ?_; have c5 := b1.trans (b5.mono z1); have z5 := c5.size; have l5 := VBlk.lt v5; have l4 := VBlk.lt v4; have z15 := b5.size; refine K.kgo ?_; refine WL.call rfl rfl rfl rfl rfl Tryz.func28 rfl (by kernel_rfl) (rcopy_any (h0.below c5)) ?_; rintro _ w6 ⟨xb, Mx, rfl, hx, b6, mx⟩; refine ⟨_, rfl, ?_⟩; rw [hcp] at hx; change RVs w6 xb Mx D (f + 1) s N at hx; have c6 := c5.trans (b6.mono z5); have z6 := c6.size; refine K.kgo ?_; refine WC.loop (fun i : Nat => [(1, .slice spv L.length capv), (4, .pointer (some ⟨g4, 0, none⟩)), (5, .pointer (some ⟨g5, 0, none⟩)), (6, .pointer (some ⟨xb, 0, none⟩)), (7, .int .i64 i)])
    (fun i w' => i ≤ L.length ∧ Below w.heap.size w w' ∧ w5.heap.size ≤ w'.heap.size ∧ ∃ (si : St) (Mi Di : Nat → Prop) (se : Value) (es : List En), RVs w' xb Mi Di (f + 1) si (N + i) ∧ (∀ x, Mi x → w5.heap.size ≤ x) ∧ (∀ x, Di x → D x ∨ w5.heap.size ≤ x) ∧
      BkAt bkT g5 w' ⟨s.n, 7 * s.n, 0, Dig.Z32, es⟩ se ∧ VBlk bkT w' g4 (bkC noB (.slice none 0 0)) ∧ OwnE enT 46 noE (IsEo E (f + 1) w') (fun _ => True) w' se es ∧ (∀ g, se.ownBlock = some g → w5.heap.size ≤ g ∧ ¬ Mi g ∧ ¬ Di g) ∧ es.length = i ∧
      actsR s.n L 0 s = (es ++ (actsR s.n (L.drop i) i si).1, (actsR s.n (L.drop i) i si).2)) (fun i => L.length - i) 0 ⟨rfl, rfl, rfl, rfl, rfl, trivial⟩
    ⟨Nat.zero_le _, c6, b6.size, s, Mx, D, .slice none 0 0, [], hx, mx, fun x h => .inl h, ⟨VBlk.below v5 b6 l5, rfl⟩, VBlk.below (VBlk.below v4 b5 l4) b6 (by omega), K.OwnE.nil _ _ _ _ _ _, (fun g h => by cases h), rfl, rfl⟩ ?_
  clear hx mx b6; rintro i wl ⟨hi, bl, z5l, si, Mi, Di, se, es, hxi, mi, di, B, v4l, hoE, hown, hel, hrun⟩; have zl := bl.size
  by_cases hik : i < L.length
  case pos =>
    obtain ⟨b, o, rfl, hb, hOb, hcells⟩ := hrow (by omega); obtain ⟨ac, hacl, ⟨hac, -⟩, hat⟩ := hcells i hik; have hlx := hL (L.getD i noAc) (by rw [List.getD_eq_getElem?_getD, List.getElem?_eq_getElem hik]; exact List.getElem_mem hik); rw [actsR_step s.n hik si] at hrun; generalize L.getD i noAc = x at hac hlx hrun; have ce := B.ents; have lg5 := VBlk.lt B.blk; have lg4 := VBlk.lt v4l; refine K.kgl ?_; refine WC.drawn 9 (fun wx => Below wl.heap.size wl wx) fun wa hdr => ?_; have hS : Below wl.heap.size wl wa := hdr.below _; clear hdr; refine K.fr [0] hS ?_; refine K.wl 1 [9, 10, 11] rfl rfl rfl rfl rfl rfl rfl (fun wx hx => (hx.cell (p := ⟨g5, 35, none⟩) lg5).trans ce) hS ?_; refine K.fr [2, 3, 4] hS ?_; refine K.wi 5 i (o + i * 57) rfl rfl rfl rfl rfl rfl rfl rfl rfl hik rfl (.inr hS) ?_; refine K.wm 6 [7, 8, 9, 10, 11] rfl rfl rfl rfl rfl rfl rfl (fun wx hx => fun u q hq => ((bl.trans (hx.mono zl)).cell (p := ⟨b, o + i * 57 + u, none⟩) hb).trans (hat u q hq)) hacl hS ?_; refine K.wo 7 ?_; refine WL.call rfl rfl rfl rfl rfl Tryz.func29 rfl (by kernel_rfl) (entryL_any (hxi.below hS) (hac.keep (Keep.of_below (bl.trans (hS.mono zl))) (fun y _ h => h) (fun _ h => h)) hlx.ld) ?_; rintro _ wb ⟨bb, ec, rfl, hep⟩; refine ⟨_, rfl, ?_⟩; have hSb := hS.trans (bb.mono hS.size); refine K.di hSb ?_; refine K.wo 8 ?_; refine WL.lit1 rfl rfl rfl rfl rfl rfl rfl hep.len ⟨by omega, by omega⟩ (by kernel_rfl) fun g7 w7 hf7 => ?_; have hS7 := hSb.trans (hf7.below.mono hSb.size); refine K.di hS7 ?_; have z7 := hS7.size; have hE7 : IsEo E (f + 1) w7 (actE si x) ec := EnP.mono (fun v c hv => hv.keep (Keep.of_below hf7.below) (fun y _ hl => hl) (fun _ h => h)) hep; have hoE7 : OwnE enT 46 noE (IsEo E (f + 1) w7) (fun _ => True) w7 se es := K.OwnE.keep hoE (Keep.of_below hS7) (fun g hg => K.OwnE.lt hoE hg) (fun _ h => h) fun _ _ hp => EnP.mono (fun v c hv => hv.keep (Keep.of_below hS7) (fun y _ hl => hl) (fun _ h => h)) hp; have hg7lt : ∀ g, se.ownBlock = some g → g < wl.heap.size := fun g hg => K.OwnE.lt hoE hg; refine K.wo 9 ?_; refine WL.snoc rfl rfl rfl rfl elemE rfl hoE7 rfl hf7.blk hep.one hep.len hE7 (by omega) (by omega) fun se8 w8 ho8 hg8 => ?_; refine K.dl ?_
    (refine K.fzl 10 rfl (q := ?_))
    refine K.wo 11 ?_; have z8 := hg8.1.size; have B8 := (BkAt.below B hS7).keep hg8.1 ⟨by omega, fun e => by have := (hown g5 e).1; omega⟩; have v48 := (VBlk.below v4l hS7 lg4).keep hg8.1 ⟨by omega, fun e => by have := (hown g4 e).1; omega⟩; refine WL.store rfl rfl rfl rfl rfl ho8.one (by kernel_rfl) B8.ents (B8.blk.free 35) ?_; have B9 := B8.setEnts se8 (es ++ [actE si x]); have k9 : Keep (fun y => y ≠ g5) w8 (w8.setCell ⟨g5, 35, none⟩ se8) := (Keep.refl _ _).setCell (by simp) _; have v49 := v48.keep k9 (show g4 ≠ g5 by omega); have hKa : Keep (fun y => y < wl.heap.size ∧ se.ownBlock ≠ some y ∧ y ≠ g5) wl (w8.setCell ⟨g5, 35, none⟩ se8) := ((Keep.of_below hS7).mono fun y hy => hy.1).trans ((hg8.1.mono fun y hy => ⟨by omega, hy.2.1⟩).trans (k9.mono fun y hy => hy.2.2)); have hown8 : ∀ g, se8.ownBlock = some g → w5.heap.size ≤ g ∧ ¬ Mi g ∧ ¬ Di g ∧ g < w8.heap.size := fun g hg => by
      have hlt := K.OwnE.lt ho8 hg; rcases hg8.2 g hg with q | q
      · obtain ⟨q1, q2, q3⟩ := hown g q
        exact ⟨q1, q2, q3, hlt⟩
      · exact ⟨by omega, fun h => by have := hxi.lt g (.inl h); omega, fun h => by have := hxi.lt g (.inr h); omega, hlt⟩
    have hbig : ∀ y, E y → y < w8.heap.size ∧ ¬ se.ownBlock = some y ∧ y ≠ g5 := fun y hy => by
      have := hE y hy; exact ⟨by omega, fun e => by have := (hown y e).1; omega, by omega⟩
    have k79 : Keep (fun y => y < w7.heap.size ∧ se.ownBlock ≠ some y ∧ y ≠ g5) w7 (w8.setCell ⟨g5, 35, none⟩ se8) := (hg8.1.mono fun y hy => ⟨hy.1, hy.2.1⟩).trans (k9.mono fun y hy => hy.2.2); have ho9 : OwnE enT 46 noE (IsEo E (f + 1) (w8.setCell ⟨g5, 35, none⟩ se8)) (fun b => se8.ownBlock = some b) (w8.setCell ⟨g5, 35, none⟩ se8) se8 (es ++ [actE si x]) :=
      K.OwnE.keep (OwnE.self ho8) k9 (fun g hg e => by have := (hown8 g hg).1; omega) (fun _ h => h) fun _ _ hp => EnP.mono (fun v c hv => hv.keep k79 (fun y hy _ => by have q := hbig y hy; have := hE y hy; exact ⟨by omega, q.2.1, q.2.2⟩) (fun _ h => h)) hp
    have z9 : (w8.setCell ⟨g5, 35, none⟩ se8).heap.size = w8.heap.size := by simp
    generalize w8.setCell ⟨g5, 35, none⟩ se8 = w9 at B9 v49 hKa ho9 z9 ⊢; clear k9 k79 ho8 hoE7 hE7 B8 v48 hf7 hS hSb bb; have hx9 : RVs w9 xb Mi Di (f + 1) si (N + i) := hxi.keep hKa fun y hy => ⟨hxi.lt y hy, fun e => by
      obtain ⟨q1, q2, q3⟩ := hown y e; exact hy.elim q2 q3, fun e => by
      rcases hy with hy | hy
      · have := mi y hy; omega
      · rcases di y hy with q | q
        · have := h0.lt y (.inr q); omega
        · omega⟩
    have c9 : Below w.heap.size w w9 := ((Keep.of_below bl).trans (hKa.mono fun y (hy : y < w.heap.size) => ⟨by omega, fun e => by have := (hown y e).1; omega, by omega⟩)).below; refine K.dl ?_; refine WD.done (by kernel_rfl) ?_; refine K.kgo ?_; refine WL.loadMid rfl rfl rfl rfl rfl rfl (VBlk.rangeAt B9.blk) B9.len ?_; refine K.kgo ?_; have hlen9 : (es ++ [actE si x]).length = i + 1 := by rw [List.length_append, hel]; rfl
    have hget9 : (es ++ [actE si x]).getD i noE = actE si x := by rw [List.getD_eq_getElem?_getD, List.getElem?_append_right (by omega), hel]; simp
    have hb9 : IsBo (fun y => E y ∨ se8.ownBlock = some y) (f + 1) w9 ⟨s.n, 7 * s.n, 0, Dig.Z32, es ++ [actE si x]⟩ (bkC ⟨s.n, 7 * s.n, 0, Dig.Z32, es ++ [actE si x]⟩ se8) :=
      ⟨se8, rfl, (K.OwnE.els ho9).mono (fun y h => .inr h) (fun _ _ hp => EnP.mono (fun v c hv => hv.mono fun y h => .inl h) hp), rfl, z32_byt, ⟨by show _ ≤ (s.n : Int); omega, by show (s.n : Int) ≤ _; omega⟩, ⟨by show _ ≤ 7 * (s.n : Int); omega, by show 7 * (s.n : Int) ≤ _; omega⟩, by show R64 0; omega⟩
    have hsm9 : Sm 3000 (f + 1) ((es ++ [actE si x]).getD i noE).data := by rw [hget9]; exact actE_sm si hlx
    refine WL.call rfl rfl rfl rfl rfl Tryz.func30 rfl (by kernel_rfl) (rEntry_any hx9 (by omega) (fun y hy hm => hy.elim (fun h => by have := hE y h; have := mi y hm; omega) fun h => (hown8 y h).2.1 hm) hb9 i (by show i < (es ++ [actE si x]).length; omega) (by omega) hsm9) ?_; rintro _ w10 ⟨M2, D2, rfl, hx10, k10, m2, d2⟩; refine ⟨_, rfl, ?_⟩; have z10 := k10.size; simp only [hget9] at hx10; refine K.kgo ?_; refine WQ.again (i + 1) ⟨rfl, rfl, rfl, rfl, rfl, trivial⟩ ⟨hik, ((Keep.of_below c9).trans (k10.mono fun y (hy : y < w.heap.size) => ⟨by omega, fun hm => by have := mi y hm; omega⟩)).below, by omega, _, M2, D2, se8, es ++ [actE si x], hx10,
      fun y hy => (m2 y hy).elim (mi y) (fun h => by omega), fun y hy => (d2 y hy).elim (di y) (fun h => .inr (by omega)), ?_, v49.keep k10 ⟨by omega, fun hm => by have := mi g4 hm; omega⟩, ?_, fun g hg => ?_, hlen9, ?_⟩ (by omega)
    · exact BkAt.keep B9 k10 ⟨by omega, fun hm => by have := mi g5 hm; omega⟩
    · exact K.OwnE.keep ho9 k10 (fun g hg => ⟨K.OwnE.lt ho9 hg, (hown8 g hg).2.1⟩) (fun _ _ => trivial) fun _ _ hp => EnP.mono (fun v c hv => hv.keep k10 (fun y hy _ => ⟨by have := hE y hy; omega, fun hm => by have := hE y hy; have := mi y hm; omega⟩) (fun _ h => h)) hp
    · obtain ⟨q1, q2, q3, q4⟩ := hown8 g hg
      exact ⟨q1, fun hm => (m2 g hm).elim q2 (fun h => by omega), fun hm => (d2 g hm).elim q3 (fun h => by omega)⟩
    · rw [hrun]
      simp
  case neg =>
    obtain rfl : i = L.length := by omega
    rw [List.drop_length] at hrun; have hm : madeR s L = ⟨s.n, 7 * s.n, 0, Dig.Z32, es⟩ := by unfold madeR; rw [hrun]; simp [actsR]
    rw [hm]; refine K.kgo ?_; refine WL.loadMid rfl rfl rfl rfl rfl rfl (VBlk.rangeAt B.blk) B.len ?_; obtain ⟨spE, capE, rfl, -⟩ := id (K.OwnE.els hoE); refine WL.storeRow rfl rfl rfl rfl rfl rfl v4l B.len rfl (bkC_one _ _ _ _) ?_; have k11 : ∀ a, Keep (fun y => y ≠ g4) wl (wl.setRow g4 a) := fun a => Keep.setRow (Keep.refl _ wl) (fun hk => hk rfl) a; refine K.kgo ?_; refine WQ.retC rfl rfl rfl B.len (v4l.setRow _) ⟨((Keep.of_below bl).trans ((k11 _).mono fun y (hy : y < w.heap.size) => by omega)).below, _, rfl, _, rfl, ?_, rfl, z32_byt, ⟨by show _ ≤ (s.n : Int); omega, by show (s.n : Int) ≤ _; omega⟩, ⟨by show _ ≤ 7 * (s.n : Int); omega, by show 7 * (s.n : Int) ≤ _; omega⟩, by show R64 0; omega⟩; exact (K.OwnE.els (OwnE.self hoE)).keep (k11 _) (fun y hy _ => by have := (hown y hy).1; omega) (fun y hy => .inr (by have := (hown y hy).1; omega)) fun _ _ hp => EnP.mono (fun v c hv => hv.keep (k11 _) (fun y hy _ => by have := hE y hy; omega) (fun y h => .inl h)) hp
end Vw
end Go.Proofs.YtchgjaaadfjiiaaGreat

namespace Go.Proofs.YtchgjaaadfjiiaaGreat
open Go.RowKit
namespace K

set_option maxHeartbeats 4000000 in
theorem great_any : ∀ (f : Nat) {w0 w : World} {v : V} {cs : List Value} {pb n : Nat}, IsV f w0 v cs → Sml f v → Below w0.heap.size w0 w → w0.heap.size ≤ pb → VBlk 3 w pb [.int .i64 n] → n ≤ 140737488355328 →
    Calls Tryz.prog 26 #[.agg cs.toArray, .pointer (some ⟨pb, 0, none⟩)] w fun e w' => e = .returned (.bool (decide (2000 < grt 2000 f v n))) ∧ VBlk 3 w' pb [.int .i64 (grt 2000 f v n)] ∧ Keep (fun b => b < w.heap.size ∧ b ≠ pb) w w'
  | 0, _, _, _, _, _, _, h, _, _, _, _, _ => h.elim
  | f + 1, w0, w, v, cs, pb, n, hv, hs, hbel, hpb, hblk, hn => by
    have ih := @great_any f; obtain ⟨sn, sk, rfl, -, -, -, htz, ⟨np, nc, rfl, nl, nc2, -, -⟩, ⟨sp, cap, rfl, hcap1, hcap2, hrow⟩⟩ := hv; obtain ⟨hsn, hsk, hsm⟩ := hs; have hgr : grt 2000 (f + 1) v n = grtK 2000 (grt 2000 f) v.kids (n + 1 + v.t.size / 20 + v.names.length) := rfl; rw [hgr]; refine enter (args := [.agg (six v (.slice np v.names.length nc) (.slice sp v.kids.length cap)).toArray, .pointer (some ⟨pb, 0, none⟩)]) Tryz.func26 rfl Tryz.ntmps26 rfl ?_; refine K.kgo ?_; refine WL.box rfl rfl rfl rfl rfl fun g w1 hf => ?_; have hf' : Fresh w g w1 48 (six v (.slice np v.names.length nc) (.slice sp v.kids.length cap)) := hf; clear hf; have hpw := hblk.lt; have hne : g ≠ pb := by rw [hf'.eq]; omega
    have hblk1 : VBlk 3 w1 pb [.int .i64 n] := hblk.below hf'.below hpw; have hkeep1 : Keep (fun b => b < w.heap.size ∧ b ≠ pb) w w1 := (Keep.of_below hf'.below).mono fun _ h => h.1; refine K.kgo ?_; refine WC.drawn 15 (fun wx => VBlk 3 wx pb [.int .i64 n] ∧ VBlk 48 wx g (six v (.slice np v.names.length nc) (.slice sp v.kids.length cap))) fun w2 hd2 => ?_; have hS : VBlk 3 w2 pb [.int .i64 n] ∧ VBlk 48 w2 g (six v (.slice np v.names.length nc) (.slice sp v.kids.length cap)) := ⟨hblk1.below (hd2.below _) hblk1.lt, hf'.blk.below (hd2.below _) hf'.blk.lt⟩; refine K.fr [0, 1, 2] hS ?_; refine K.wl 3 [4, 9, 13, 15] rfl rfl rfl rfl rfl rfl rfl (fun wx hx => hx.1.cell 0 (by simp)) hS ?_; refine K.fr [4, 5] hS ?_; refine K.wl 6 [7, 8, 9, 13, 15] rfl rfl rfl rfl rfl rfl rfl (fun wx hx => hx.2.cell 3 (by simp)) hS ?_; refine K.fr [7, 8, 9, 10] hS ?_; refine K.wl 11 [12, 13, 15] rfl rfl rfl rfl rfl rfl rfl (fun wx hx => hx.2.cell 4 (by simp)) hS ?_; refine K.fr [12, 13, 14] hS ?_; refine K.wo 15 ?_; have e : IntKind.i64.wrap ((v.t.size : Int).tdiv 20) = ((v.t.size / 20 : Nat) : Int) := by rw [Int.tdiv_eq_ediv_of_nonneg (by omega), IntKind.wrap_i64]; omega
    have e2 : IntKind.i64.wrap (IntKind.i64.wrap ((n : Int) + 1 + IntKind.i64.wrap ((v.t.size : Int).tdiv 20)) + (v.names.length : Int)) = ((n + 1 + v.t.size / 20 + v.names.length : Nat) : Int) := by
      rw [e, show IntKind.i64.wrap ((n : Int) + 1 + ((v.t.size / 20 : Nat) : Int)) = (n : Int) + 1 + ((v.t.size / 20 : Nat) : Int) from IntWalk.i64_in _ (by omega), IntWalk.i64_in _ (by omega)]; omega
    generalize n + 1 + v.t.size / 20 + v.names.length = n1 at e2 ⊢; refine WL.store (v := .int .i64 n1) rfl rfl rfl rfl (congrArg (fun z => some (Value.int .i64 z)) e2) rfl (by kernel_rfl) (hS.1.cell 0 (by simp)) (hS.1.free 0) ?_; have hb2 : VBlk 3 (w2.setCell ⟨pb, 0, none⟩ (.int .i64 n1)) pb [.int .i64 n1] := hS.1.set 0 (.int .i64 n1); have hg2 : VBlk 48 (w2.setCell ⟨pb, 0, none⟩ (.int .i64 n1)) g (six v (.slice np v.names.length nc) (.slice sp v.kids.length cap)) := hS.2.other _ _ hne; have hk2 : Keep (fun b => b < w.heap.size ∧ b ≠ pb) w (w2.setCell ⟨pb, 0, none⟩ (.int .i64 n1)) := (hkeep1.trans ((Keep.of_below (hd2.below w1.heap.size)).mono fun b hb => Nat.lt_of_lt_of_le hb.1 hf'.below.size)).setCell (fun h => h.2 rfl) _; generalize w2.setCell ⟨pb, 0, none⟩ (.int .i64 n1) = w3 at hb2 hg2 hk2; refine K.dl ?_; refine WD.done (by kernel_rfl) ?_; refine K.kgo ?_; generalize hRR : grtK 2000 (grt 2000 f) v.kids n1 = RR; have hgw : g < w3.heap.size := hg2.lt; refine WC.loop (fun i : Nat => [(1, .pointer (some ⟨pb, 0, none⟩)), (2, .pointer (some ⟨g, 0, none⟩)), (5, .int .i64 i)])
      (fun i w' => i ≤ v.kids.length ∧ Keep (fun b => b < w3.heap.size ∧ b ≠ pb) w3 w' ∧ ∃ x : Nat, VBlk 3 w' pb [.int .i64 x] ∧ grtK 2000 (grt 2000 f) (v.kids.drop i) x = RR) (fun i => v.kids.length - i) 0
      ⟨rfl, rfl, rfl, trivial⟩ ⟨Nat.zero_le _, Keep.refl _ _, n1, hb2, hRR⟩ ?_
    rintro i wr ⟨hi, hkr, x, hbx, hx⟩; have hgr2 : VBlk 48 wr g (six v (.slice np v.names.length nc) (.slice sp v.kids.length cap)) := hg2.keep hkr ⟨hgw, hne⟩; have hkw : Keep (fun b => b < w.heap.size ∧ b ≠ pb) w wr := hk2.trans (hkr.mono fun b hb => ⟨Nat.lt_of_lt_of_le hb.1 hk2.size, hb.2⟩); have hlast : ∀ {wz : World} {xz : Nat}, VBlk 3 wz pb [.int .i64 xz] → Keep (fun b => b < w.heap.size ∧ b ≠ pb) w wz → xz = RR → (Ending.returned (.bool (decide ((2000 : Int) < (xz : Int)))) = .returned (.bool (decide (2000 < RR))) ∧ VBlk 3 wz pb [.int .i64 (RR)] ∧ Keep (fun b => b < w.heap.size ∧ b ≠ pb) w wz) :=
      fun h1 h2 h3 => ⟨by rw [← h3]; congr 2; simp only [decide_eq_decide]; omega, by rw [← h3]; exact h1, h2⟩
    refine K.kgo ?_; refine WL.load rfl rfl rfl rfl rfl rfl (hgr2.cell 5 (by simp)) ?_
    by_cases hik : i < v.kids.length
    · have hdr : v.kids.drop i = v.kids.getD i noV :: v.kids.drop (i + 1) := by
        rw [List.drop_eq_getElem_cons hik]; simp [hik]
      rw [hdr] at hx; refine K.kgo ?_; refine WL.load rfl rfl rfl rfl rfl rfl (hbx.cell 0 (by simp)) ?_
      by_cases hx2 : x ≤ 2000
      · obtain ⟨kb, ko, rfl, hkb, hcells⟩ := hrow (by omega)
        obtain ⟨c, hc6, hci, hcr⟩ := hcells i hik; have hbelr : Below w0.heap.size w0 wr := (hbel.trans ((hkw.mono fun b hb => ⟨Nat.lt_of_lt_of_le hb hbel.size, Nat.ne_of_lt (Nat.lt_of_lt_of_le hb hpb)⟩ : Keep (fun b => b < w0.heap.size) w wr).below)); have hcr' : wr.rangeAt kb (ko + i * 6) c := fun j u hu => by rw [hbelr.cell (p := ⟨kb, ko + i * 6 + j, none⟩) hkb]; exact hcr j u hu
        unfold grtK at hx; rw [if_pos hx2] at hx; refine K.kgo ?_; refine WL.load rfl rfl rfl rfl rfl rfl (hgr2.cell 5 (by simp)) ?_; refine K.kgo ?_; refine WL.idx i (ko + i * 6) rfl rfl rfl rfl rfl rfl rfl rfl hik rfl ?_; refine WL.loadMid rfl rfl rfl rfl rfl rfl hcr' hc6 ?_; refine K.kgo ?_; refine WL.call rfl rfl rfl rfl rfl Tryz.func26 rfl (by kernel_rfl) (ih (n := x) hci (hsm _ (by rw [List.getD_eq_getElem?_getD, List.getElem?_eq_getElem hik]; exact List.getElem_mem hik)) hbelr hpb hbx (by omega)) ?_; rintro e w4 ⟨rfl, hb4, hk4⟩; refine ⟨_, rfl, ?_⟩; refine K.kgo ?_; exact WQ.again (i + 1) ⟨rfl, rfl, rfl, trivial⟩ ⟨hik, hkr.trans (hk4.mono fun b hb => ⟨Nat.lt_of_lt_of_le hb.1 hkr.size, hb.2⟩), _, hb4, hx⟩ (by show v.kids.length - (i + 1) < v.kids.length - i; omega)
      · unfold grtK at hx
        rw [if_neg hx2] at hx; refine K.kgo ?_; refine WL.load rfl rfl rfl rfl rfl rfl (hbx.cell 0 (by simp)) ?_; refine WL.pure rfl rfl rfl rfl ?_; refine WL.pure rfl rfl rfl rfl ?_; refine K.kgo ?_; exact WQ.ret1 rfl rfl ⟨congrArg (fun b => Ending.returned (Value.bool b)) (decide_eq_true (by omega)).symm, (hlast hbx hkw hx).2⟩
    · obtain rfl : i = v.kids.length := by omega
      rw [List.drop_length] at hx; unfold grtK at hx; refine K.kgo ?_; refine WL.load rfl rfl rfl rfl rfl rfl (hbx.cell 0 (by simp)) ?_; refine WL.pure rfl rfl rfl rfl ?_; refine WL.pure rfl rfl rfl rfl ?_; refine K.kgo ?_; exact WQ.ret1 rfl rfl (hlast hbx hkw hx)
end K
end Go.Proofs.YtchgjaaadfjiiaaGreat

namespace Go.Proofs.YtchgjaaadfjiiaaGreat
open Go.RowKit Go.Maps
namespace Vw
open K
set_option maxRecDepth 100000
theorem range_part {w : World} {b o : Nat} {a m z : List Value} (h : w.rangeAt b o (a ++ (m ++ z))) : w.rangeAt b (o + a.length) m := fun j u hj => by
  have hl : j < m.length := by
    rcases Nat.lt_or_ge j m.length with q | q
    · exact q
    · rw [List.getElem?_eq_none q] at hj; cases hj
  have := h (a.length + j) u (by rw [List.getElem?_append_right (by omega), Nat.add_sub_cancel_left, List.getElem?_append_left hl]; exact hj)
  rwa [← Nat.add_assoc] at this
section
variable {w : World} {b o : Nat} {x : Ac} {dc ec : List Value}
theorem ac_data (h : w.rangeAt b o (acC x dc ec)) : w.rangeAt b (o + 4) dc := range_part (a := [Value.int .i64 x.kind, .int .i64 x.table, .int .i64 x.doc, .int .i64 x.pick]) (m := dc) (z := Value.string x.field :: ec) h
theorem ac_field (h : w.rangeAt b o (acC x dc ec)) (hd : dc.length = 6) : w.cell? ⟨b, o + 10, none⟩ = some (.string x.field) := by
  have := range_part (a := [Value.int .i64 x.kind, .int .i64 x.table, .int .i64 x.doc, .int .i64 x.pick] ++ dc) (m := [Value.string x.field]) (z := ec) (w := w) (b := b) (o := o) (by unfold acC at h; simpa using h); rw [show (([Value.int .i64 x.kind, .int .i64 x.table, .int .i64 x.doc, .int .i64 x.pick] : List Value) ++ dc).length = 10 by simp [hd]] at this; exact this 0 _ rfl
theorem ac_e (h : w.rangeAt b o (acC x dc ec)) (hd : dc.length = 6) : w.rangeAt b (o + 11) ec := by
  have := range_part (a := [Value.int .i64 x.kind, .int .i64 x.table, .int .i64 x.doc, .int .i64 x.pick] ++ (dc ++ [Value.string x.field])) (m := ec) (z := []) (w := w) (b := b) (o := o) (by unfold acC at h; simpa using h)
  rwa [show (([Value.int .i64 x.kind, .int .i64 x.table, .int .i64 x.doc, .int .i64 x.pick] : List Value) ++ (dc ++ [Value.string x.field])).length = 11 by simp [hd]] at this
end
theorem en_data {w : World} {b o : Nat} {e : En} {dc : List Value} (h : w.rangeAt b o (enC e dc)) : w.rangeAt b (o + 5) dc := range_part (a := [Value.int .i64 e.kind, .string e.text, .int .i64 e.table, .int .i64 e.doc, .int .i64 e.ver]) (m := dc) (z := hashC e.hash ++ [.bool e.gone, .int .i64 e.ab, .int .i64 e.ae]) h
theorem Sm.up {B B' : Nat} (hB : B ≤ B') : ∀ {f : Nat} {v : V}, Sm B f v → Sm B' f v
  | 0, _, h => h
  | _ + 1, _, ⟨h1, h2, h3⟩ => ⟨by omega, by omega, fun x hx => Sm.up hB (h3 x hx)⟩
theorem grt_lite {f : Nat} {v : V} {n : Nat} (hs : Sml f v) (h : ¬ 2000 < grt 2000 f v n) : Sm 3000 f v ∧ (chk 16 v = 0 → (encV 16 v).length ≤ 70368744177664) :=
  ⟨Sm.up (by omega) (grt_sm (B := 2000) f v n hs (by omega)).2, fun hc => by have := (grt_enc (B := 2000) f 16 v n hs hc (by omega)).2; omega⟩
def tot (LL : List (List Ac)) : Nat := (LL.map List.length).sum
theorem tot_snoc (LL : List (List Ac)) {i : Nat} (hi : i < LL.length) : tot (LL.take (i + 1)) = tot (LL.take i) + (LL.getD i []).length := by
  unfold tot; rw [List.take_add_one, List.getElem?_eq_getElem hi, Option.toList_some, List.map_append, List.sum_append, List.getD_eq_getElem?_getD, List.getElem?_eq_getElem hi]; simp
theorem tdiv10 {n : Nat} (h : n ≤ 140737488355328) : IntKind.i64.wrap ((n : Int).tdiv 10) = ((n / 10 : Nat) : Int) := by rw [Int.tdiv_eq_ediv_of_nonneg (by omega), IntKind.wrap_i64]; omega
set_option maxHeartbeats 16000000 in
theorem heavy_any {f : Nat} {w : World} {E : Nat → Prop} {v : Value} {LL : List (List Ac)} (h : IsActss E (f + 1) w v LL) :
    Calls Tryz.prog 8 #[v] w fun r w' => Below w.heap.size w w' ∧ ∃ b', r = .returned (.bool b') ∧ (b' = false → LL.length ≤ 60 ∧ tot LL ≤ 2000 ∧ ∀ L ∈ LL, ∀ x ∈ L, Lite (f + 1) x) := by
  obtain ⟨spv, capv, rfl, hc1, hc2, hc3, hrow⟩ := id h; refine enter (args := [.slice spv LL.length capv]) Tryz.func8 rfl Tryz.ntmps8 rfl ?_; refine K.kgo ?_; refine WL.alloc (z := .int .i64 0) rfl rfl rfl rfl (fun _ => by kernel_rfl) fun pb w2 f2 => ?_; have P2 : VBlk 3 w2 pb [.int .i64 0] := f2.blk; have epb := f2.eq; have b2 := f2.below; clear f2; refine K.kgo ?_; refine WL.store (v := .int .i64 0) rfl rfl rfl rfl rfl rfl (by kernel_rfl) (P2.cell 0 (by simp)) (VBlk.free P2 0) ?_; have P3 : VBlk 3 (w2.setCell ⟨pb, 0, none⟩ (.int .i64 0)) pb [.int .i64 0] := P2.set 0 (.int .i64 0); have b3 : Below w.heap.size w (w2.setCell ⟨pb, 0, none⟩ (.int .i64 0)) := ((Keep.of_below b2).setCell (fun hk => absurd hk (by show ¬ pb < w.heap.size; omega)) _).below; generalize w2.setCell ⟨pb, 0, none⟩ (.int .i64 0) = w3 at P3 b3 ⊢; clear P2 b2; have setP : ∀ {wx : World} {n n' : Nat}, VBlk 3 wx pb [.int .i64 n] → Below w.heap.size w wx → VBlk 3 (wx.setCell ⟨pb, 0, none⟩ (.int .i64 n')) pb [.int .i64 n'] ∧ Below w.heap.size w (wx.setCell ⟨pb, 0, none⟩ (.int .i64 n')) := fun hp hb => ⟨hp.set 0 _, ((Keep.of_below hb).setCell (fun hk => absurd hk (by show ¬ pb < w.heap.size; omega)) _).below⟩; refine K.kgo ?_; refine WC.loop (fun i : Nat => [(0, .slice spv LL.length capv), (3, .pointer (some ⟨pb, 0, none⟩)), (4, .int .i64 i)])
    (fun i wx => i ≤ LL.length ∧ Below w.heap.size w wx ∧ (∃ n : Nat, n ≤ 2000 ∧ i + tot (LL.take i) ≤ n ∧ VBlk 3 wx pb [.int .i64 n]) ∧ ∀ L ∈ LL.take i, ∀ x ∈ L, Lite (f + 1) x) (fun i => LL.length - i) 0 ⟨rfl, rfl, rfl, trivial⟩
    ⟨Nat.zero_le _, b3, ⟨0, by omega, by simp [tot], P3⟩, by simp⟩ ?_
  clear P3 b3; rintro i wr ⟨hi, br, ⟨n, hn, hin, P⟩, hall⟩
  by_cases hik : i < LL.length
  case neg =>
    obtain rfl : i = LL.length := by omega
    refine K.kgo ?_; rw [List.take_length] at hall hin; refine WQ.ret1 rfl rfl ⟨br, _, rfl, fun hb => ?_⟩; have : ¬ (60 : Int) < (LL.length : Int) := of_decide_eq_false hb; exact ⟨by omega, by omega, hall⟩
  case pos =>
  obtain ⟨b, o, rfl, hb, hOb, hcells⟩ := hrow (by omega); obtain ⟨cs, -, ⟨u, rfl, hu⟩, hat⟩ := hcells i hik; have hts := tot_snoc LL hik; have htk : LL.take (i + 1) = LL.take i ++ [LL.getD i []] := by rw [List.take_add_one, List.getElem?_eq_getElem hik, List.getD_eq_getElem?_getD, List.getElem?_eq_getElem hik]; rfl
  generalize LL.getD i [] = L at hu hts htk; obtain ⟨spu, capu, rfl, hd1, hd2, hd3, hrow2⟩ := id hu; have hcu : ∀ {wx : World}, Below w.heap.size w wx → wx.cell? ⟨b, o + i * 1, none⟩ = some (.slice spu L.length capu) := fun hx => (hx.cell (p := ⟨b, o + i * 1, none⟩) hb).trans (hat 0 _ rfl); have cp := P.cell 0 (by simp); simp only [List.getD_cons_zero] at cp; refine K.kgl ?_; refine WL.store (v := .int .i64 ((n + 1 : Nat) : Int)) rfl rfl rfl rfl rfl rfl (by kernel_rfl) cp (VBlk.free P 0) ?_; obtain ⟨P4, b4⟩ := setP (n' := n + 1) P br; generalize wr.setCell ⟨pb, 0, none⟩ (.int .i64 ((n + 1 : Nat) : Int)) = w4 at P4 b4 ⊢; clear P br cp; refine K.kgo ?_; refine WC.loop (fun k : Nat => [(0, .slice (some ⟨b, o, none⟩) LL.length capv), (3, .pointer (some ⟨pb, 0, none⟩)), (4, .int .i64 i), (5, .int .i64 k)])
    (fun k wx => k ≤ L.length ∧ Below w.heap.size w wx ∧ (∃ m : Nat, m ≤ 2001 ∧ i + 1 + tot (LL.take i) + k ≤ m ∧ VBlk 3 wx pb [.int .i64 m]) ∧ ∀ x ∈ L.take k, Lite (f + 1) x) (fun k => L.length - k) 0 ⟨rfl, rfl, rfl, rfl, trivial⟩
    ⟨Nat.zero_le _, b4, ⟨n + 1, by omega, by omega, P4⟩, by simp⟩ ?_
  clear P4 b4 hin hn; rintro k wl ⟨hk, bl, ⟨m, hm, hkm, P⟩, hx⟩; have cu := hcu bl; have cp := P.cell 0 (by simp); simp only [List.getD_cons_zero] at cp; refine K.kgl ?_; refine WL.idx i (o + i * 1) rfl rfl rfl rfl rfl rfl rfl rfl hik rfl ?_
  by_cases hkl : k < L.length
  case neg =>
    obtain rfl : k = L.length := by omega
    rw [List.take_length] at hx
    by_cases hm2 : m ≤ 2000
    case neg =>
      refine K.kgl ?_; exact WQ.ret1 rfl rfl ⟨bl, true, rfl, fun h => by cases h⟩
    case pos =>
      refine K.kgl ?_; refine WQ.again (i + 1) ⟨rfl, rfl, rfl, trivial⟩ ⟨hik, bl, ⟨m, hm2, by omega, P⟩, fun L' hL' => ?_⟩ (by omega); rw [htk] at hL'; rcases List.mem_append.1 hL' with q | q
      · exact hall L' q
      · rw [List.mem_singleton.1 q]; exact hx
  case pos =>
  obtain ⟨b2, o2, rfl, hb2, hOb2, hcells2⟩ := hrow2 (by omega); obtain ⟨ac, hacl, ⟨⟨dc, ec, rfl, hdv, hep, hok⟩, hsd, hse⟩, hat2⟩ := hcells2 k hkl; have htk2 : L.take (k + 1) = L.take k ++ [L.getD k noAc] := by rw [List.take_add_one, List.getElem?_eq_getElem hkl, List.getD_eq_getElem?_getD, List.getElem?_eq_getElem hkl]; rfl
  generalize L.getD k noAc = x at hdv hep hok hsd hse hat2 htk2; have hdl := hdv.len; obtain ⟨dc2, rfl, hev, hedl, -, -, -, htx, -⟩ := id hep; have hat3 : ∀ {wx : World}, Below w.heap.size w wx → wx.rangeAt b2 (o2 + k * 57) (acC x dc (enC x.e dc2)) := fun hx j q hj => (hx.cell (p := ⟨b2, o2 + k * 57 + j, none⟩) hb2).trans (hat2 j q hj); have cf : ∀ {wx : World}, Below w.heap.size w wx → wx.cell? ⟨b2, o2 + k * 57 + 10, none⟩ = some (.string x.field) := fun hx => ac_field (hat3 hx) hdl; have ct : ∀ {wx : World}, Below w.heap.size w wx → wx.cell? ⟨b2, o2 + k * 57 + 11 + 1, none⟩ = some (.string x.e.text) := fun hx => ac_e (hat3 hx) hdl 1 _ rfl; have hfz := hok.field; refine K.kgl ?_; refine WC.drawn 25 (fun wx => Below wl.heap.size wl wx) fun wa hdr => ?_; have hS : Below wl.heap.size wl wa := hdr.below _; clear hdr; have lpb := VBlk.lt P; have zl := bl.size; have bx : ∀ {wx : World}, Below wl.heap.size wl wx → Below w.heap.size w wx := fun hx => bl.trans (hx.mono zl); refine K.wl 0 [1, 12, 24, 25] rfl rfl rfl rfl rfl rfl rfl (fun wx hx => (hx.cell (p := ⟨pb, 0, none⟩) lpb).trans cp) hS ?_; refine K.fr [1, 2, 3] hS ?_; refine K.wi 4 i (o + i * 1) rfl rfl rfl rfl rfl rfl rfl rfl rfl hik rfl (.inr hS) ?_; refine K.wl 5 [7, 8, 9, 10, 11, 12, 24, 25] rfl rfl rfl rfl rfl rfl rfl (fun wx hx => hcu (bx hx)) hS ?_; refine K.fr [6] hS ?_; refine K.wi 7 k (o2 + k * 57) rfl rfl rfl rfl rfl rfl rfl rfl rfl hkl rfl (.inr hS) ?_; refine K.fr [8] hS ?_; refine K.wl 9 [10, 11, 12, 24, 25] rfl rfl rfl rfl rfl rfl rfl (fun wx hx => cf (bx hx)) hS ?_; refine K.fr [10] hS ?_; refine WD.freeAs 11 (.int .i64 ((x.field.size / 10 : Nat) : Int)) rfl (by kernel_rfl) rfl rfl (fun _ _ _ _ _ h => h) rfl rfl (congrArg (Value.int .i64) (tdiv10 hfz)) (.inr hS) ?_; refine K.fr [12, 13, 14] hS ?_; refine K.wi 15 i (o + i * 1) rfl rfl rfl rfl rfl rfl rfl rfl rfl hik rfl (.inr hS) ?_; refine K.wl 16 [18, 19, 20, 21, 22, 23, 24, 25] rfl rfl rfl rfl rfl rfl rfl (fun wx hx => hcu (bx hx)) hS ?_; refine K.fr [17] hS ?_; refine K.wi 18 k (o2 + k * 57) rfl rfl rfl rfl rfl rfl rfl rfl rfl hkl rfl (.inr hS) ?_; refine K.fr [19, 20] hS ?_; refine K.wl 21 [22, 23, 24, 25] rfl rfl rfl rfl rfl rfl rfl (fun wx hx => ct (bx hx)) hS ?_; refine K.fr [22] hS ?_; refine WD.freeAs 23 (.int .i64 ((x.e.text.size / 10 : Nat) : Int)) rfl (by kernel_rfl) rfl rfl (fun _ _ _ _ _ h => h) rfl rfl (congrArg (Value.int .i64) (tdiv10 htx)) (.inr hS) ?_; refine K.fr [24] hS ?_; refine K.wo 25 ?_; have e2 : (m : Int) + 1 + ((x.field.size / 10 : Nat) : Int) + ((x.e.text.size / 10 : Nat) : Int) = ((m + 1 + x.field.size / 10 + x.e.text.size / 10 : Nat) : Int) := by omega
  have hm1 : m + 1 + x.field.size / 10 + x.e.text.size / 10 ≤ 140737488355328 := by omega
  have hm2 : i + 1 + tot (LL.take i) + (k + 1) ≤ m + 1 + x.field.size / 10 + x.e.text.size / 10 := by omega
  generalize m + 1 + x.field.size / 10 + x.e.text.size / 10 = n1 at e2 hm1 hm2; have Pa := VBlk.below P hS lpb; refine WL.store (v := .int .i64 (n1 : Int)) rfl rfl rfl rfl (congrArg (fun z => some (Value.int .i64 z)) e2) rfl (by kernel_rfl) (Pa.cell 0 (by simp)) (VBlk.free Pa 0) ?_; obtain ⟨P5, b5⟩ := setP (n' := n1) Pa (bx hS); generalize wa.setCell ⟨pb, 0, none⟩ (.int .i64 (n1 : Int)) = w5 at P5 b5 ⊢; clear hS Pa bx cp cu; refine K.dl ?_; refine WD.done (by kernel_rfl) ?_; have cu5 := hcu b5; refine K.kgo ?_; refine WL.idx i (o + i * 1) rfl rfl rfl rfl rfl rfl rfl rfl hik rfl ?_; refine K.kgl ?_; refine WL.idx k (o2 + k * 57) rfl rfl rfl rfl rfl rfl rfl rfl hkl rfl ?_; refine K.kgo ?_; refine WL.loadMid rfl rfl rfl rfl rfl rfl (ac_data (hat3 b5)) hdl ?_; refine WL.call rfl rfl rfl rfl rfl Tryz.func26 rfl (by kernel_rfl) (great_any (f + 1) hdv.isV hsd b5 (by omega) P5 hm1) ?_; rintro _ w6 ⟨rfl, P6, k6⟩; refine ⟨_, rfl, ?_⟩; have b6 : Below w.heap.size w w6 := ((Keep.of_below b5).trans (k6.mono fun y (hy : y < w.heap.size) => ⟨by have := b5.size; omega, by omega⟩)).below
  by_cases hg1 : 2000 < grt 2000 (f + 1) x.data n1
  case pos =>
    rw [decide_eq_true hg1]; refine K.kgo ?_; exact WQ.ret1 rfl rfl ⟨b6, true, rfl, fun h => by cases h⟩
  case neg =>
  obtain ⟨l1, l2⟩ := grt_lite hsd hg1; have hgl := (grt_sm (B := 2000) (f + 1) x.data n1 hsd (by omega)).1; rw [decide_eq_false hg1]; have cu6 := hcu b6; generalize grt 2000 (f + 1) x.data n1 = n2 at P6 hg1 hgl; refine K.kgo ?_; refine WL.idx i (o + i * 1) rfl rfl rfl rfl rfl rfl rfl rfl hik rfl ?_; refine K.kgl ?_; refine WL.idx k (o2 + k * 57) rfl rfl rfl rfl rfl rfl rfl rfl hkl rfl ?_; refine K.kgo ?_; refine WL.loadMid rfl rfl rfl rfl rfl rfl (en_data (ac_e (hat3 b6) hdl)) hedl ?_; refine WL.on rfl rfl ?_; refine WL.call rfl rfl rfl rfl rfl Tryz.func26 rfl (by kernel_rfl) (great_any (f + 1) hev.isV hse b6 (by omega) P6 (by omega)) ?_; rintro _ w7 ⟨rfl, P7, k7⟩; refine ⟨_, rfl, ?_⟩; have b7 : Below w.heap.size w w7 := ((Keep.of_below b6).trans (k7.mono fun y (hy : y < w.heap.size) => ⟨by have := b6.size; omega, by omega⟩)).below
  by_cases hg2 : 2000 < grt 2000 (f + 1) x.e.data n2
  case pos =>
    rw [decide_eq_true hg2]; refine K.kgo ?_; exact WQ.ret1 rfl rfl ⟨b7, true, rfl, fun h => by cases h⟩
  case neg =>
  obtain ⟨l3, l4⟩ := grt_lite hse hg2; have hgl2 := (grt_sm (B := 2000) (f + 1) x.e.data n2 hse (by omega)).1; rw [decide_eq_false hg2]; generalize grt 2000 (f + 1) x.e.data n2 = n3 at P7 hg2 hgl2; refine K.kgo ?_; refine WQ.again (k + 1) ⟨rfl, rfl, rfl, rfl, trivial⟩ ⟨hkl, b7, ⟨n3, by omega, by omega, P7⟩, fun y hy => ?_⟩ (by omega); rw [htk2] at hy; rcases List.mem_append.1 hy with q | q
  · exact hx y q
  · rw [List.mem_singleton.1 q]; exact ⟨l1, l3, l2, l4⟩
end Vw
end Go.Proofs.YtchgjaaadfjiiaaGreat

namespace Go.Proofs.YtchgjaaadfjiiaaGreat
namespace Vw
open K (En Bk zV formE hashR noE chkE chkB layB encR nilE)
def oneV : V := .mk 3 1 0 noT [] []
def kA1 : Ac := ⟨4, 0, 0, 0, zV, ⟨#[116]⟩, noE⟩
def kA2 : Ac := ⟨0, 1, 0, 0, oneV, ⟨#[]⟩, noE⟩
def kA3 : Ac := ⟨1, 1, 1, 0, oneV, ⟨#[]⟩, noE⟩
def kL : List Ac := [kA1, kA2, kA3]
def kE1 : En := { noE with kind := 5, table := 1, text := ⟨#[116]⟩ }
def kE2 : En := { noE with kind := 2, table := 1, doc := 1, data := oneV, hash := hashR oneV }
def kE3 : En := { noE with kind := 2, table := 1, doc := 1, ver := 1, data := oneV, hash := hashR oneV }
def kB : Bk := ⟨0, 0, 0, Dig.Z32, [kE1, kE2, kE3]⟩
def kS1 : St := { st0 with cat := [⟨⟨#[116]⟩, false, []⟩] }
def kR0 : Rw := rowOf kE2 0 1 0
def kR1 : Rw := rowOf kE3 0 2 0
def kS2 : St := { kS1 with rows := [kR0] }
def kS3 : St := { kS1 with rows := [kR0, kR1] }
def kS4 : St := { kS3 with n := 1 }
theorem k_a1 : actE st0 kA1 = kE1 := by
  unfold actE; rw [if_neg (by decide), if_neg (by decide), if_neg (by decide), if_neg (by decide), if_pos (show kA1.kind = 4 from rfl)]
  rfl
theorem k_e1 : entR st0 kE1 0 0 0 = (0, kS1) := by
  have hc : Cat.appC st0.cat kE1.kind kE1.text kE1.table = 0 := by decide
  have hl : Cat.appL st0.cat kE1.kind kE1.text kE1.table = [⟨⟨#[116]⟩, false, []⟩] := by unfold Cat.appL; rw [if_pos hc]; rfl
  unfold entR; rw [if_neg (by rw [hc]; decide), if_neg (by decide), if_neg (by decide), hl]
  rfl
theorem k_a2 : actE kS1 kA2 = kE2 := by
  unfold actE; rw [if_pos (show kA2.kind = 0 from rfl)]
  rfl
theorem k_e2 : entR kS1 kE2 0 1 0 = (0, kS2) := by
  unfold entR; rw [if_neg (show ¬ Cat.appC kS1.cat kE2.kind kE2.text kE2.table ≠ 0 by decide), if_pos (show kE2.kind = 2 ∨ kE2.kind = 3 from .inl rfl), if_neg (show ¬ ((Cat.tabR kS1.cat kE2.table).2.2 ≠ 0 ∨ (Cat.tabR kS1.cat kE2.table).2.1.dropped = true ∨ fits kS1 kE2 = false) by decide)]
  rfl
theorem k_a3 : actE kS2 kA3 = kE3 := by
  unfold actE; rw [if_neg (by decide), if_pos (show kA3.kind = 1 from rfl)]
  rfl
theorem k_e3 : entR kS2 kE3 0 2 0 = (0, kS3) := by
  unfold entR; rw [if_neg (show ¬ Cat.appC kS2.cat kE3.kind kE3.text kE3.table ≠ 0 by decide), if_pos (show kE3.kind = 2 ∨ kE3.kind = 3 from .inl rfl), if_neg (show ¬ ((Cat.tabR kS2.cat kE3.table).2.2 ≠ 0 ∨ (Cat.tabR kS2.cat kE3.table).2.1.dropped = true ∨ fits kS2 kE3 = false) by decide)]
  rfl
theorem k_made : madeR st0 kL = kB := by
  have e1 := k_e1; have e2 := k_e2; unfold madeR
  show (⟨0, 7 * ((0 : Nat) : Int), 0, Dig.Z32, (actsR 0 [kA1, kA2, kA3] 0 st0).1⟩ : Bk) = kB
  unfold actsR actsR actsR actsR; simp only [k_a1, Int.natCast_zero, Int.mul_zero, Nat.zero_add]; have h1 : (entR st0 kE1 ((0 : Nat) : Int) ((0 : Nat) : Int) (7 * ((0 : Nat) : Int))).2 = kS1 := congrArg Prod.snd k_e1; have h2 : (entR kS1 kE2 ((0 : Nat) : Int) ((1 : Nat) : Int) (7 * ((0 : Nat) : Int))).2 = kS2 := congrArg Prod.snd k_e2; simp only [Int.natCast_zero, Int.mul_zero] at h1 h2; rw [h1, k_a2, h2, k_a3]
  rfl
theorem k_run : runR kB kB.ents 0 st0 = (0, kS3) := by
  show runR kB [kE1, kE2, kE3] 0 st0 = _
  have h1 : entR st0 kE1 kB.index ((0 : Nat) : Int) kB.time = (0, kS1) := k_e1; have h2 : entR kS1 kE2 kB.index ((0 + 1 : Nat) : Int) kB.time = (0, kS2) := k_e2; have h3 : entR kS2 kE3 kB.index ((0 + 1 + 1 : Nat) : Int) kB.time = (0, kS3) := k_e3; unfold runR; rw [h1, if_pos rfl]; unfold runR; rw [h2, if_pos rfl]; unfold runR; rw [h3, if_pos rfl]
  rfl
theorem k_form1 : formE kE1 := by
  unfold formE; rw [if_neg (by decide), if_neg (by decide), if_neg (by decide), if_neg (by decide), if_pos (.inl rfl)]; exact ⟨by decide, by decide, by decide, by decide, rfl, rfl, rfl, rfl, rfl, rfl, rfl, rfl⟩
theorem k_form2 : formE kE2 := by
  unfold formE; rw [if_neg (by decide), if_pos (show kE2.kind = 2 from rfl)]; exact ⟨by decide, by decide, by decide, ⟨by decide, rfl, rfl, rfl, rfl, rfl, rfl, rfl, rfl⟩, fun h => by cases h⟩
theorem k_form3 : formE kE3 := by
  unfold formE; rw [if_neg (by decide), if_pos (show kE3.kind = 2 from rfl)]; exact ⟨by decide, by decide, by decide, ⟨by decide, rfl, rfl, rfl, rfl, rfl, rfl, rfl, rfl⟩, fun h => by cases h⟩
theorem k_enc : (encR oneV).2 = 0 := by decide
theorem k_chk : chkB kB = 0 := by
  have h1 : chkE kE1 = 0 := by unfold chkE; rw [if_pos k_form1, if_pos (.inl (by decide))]
  have h2 : chkE kE2 = 0 := by unfold chkE; rw [if_pos k_form2, if_neg (by decide), if_neg (show ¬ (encR kE2.data).2 ≠ 0 from fun h => h k_enc), if_pos (show hashR kE2.data = kE2.hash from rfl)]
  have h3 : chkE kE3 = 0 := by unfold chkE; rw [if_pos k_form3, if_neg (by decide), if_neg (show ¬ (encR kE3.data).2 ≠ 0 from fun h => h k_enc), if_pos (show hashR kE3.data = kE3.hash from rfl)]
  have hl : ¬ 262144 < (layB true kB).length := by decide +kernel
  unfold chkB; rw [if_pos (by decide), if_neg (by simp [kB, firstBad, h1, h2, h3]), if_neg hl]
theorem k_app : appR st0 kB = (0, kS4) := by
  unfold appR; rw [if_neg (show ¬ kB.index ≠ (st0.n : Int) from fun h => h rfl), if_neg (fun h => h k_chk), k_run, if_pos rfl]
  rfl
theorem k_docs : (docsR kS4 1).length = 1 := by decide
theorem k_hist : (histR kS4 1).length = 2 := by decide
end Vw
end Go.Proofs.YtchgjaaadfjiiaaGreat

namespace Go.Proofs.YtchgjaaadfjiiaaGreat
open Go.RowKit Go.Maps
namespace Vw
open K
set_option maxRecDepth 100000
theorem IsBo.there {E : Nat → Prop} {f : Nat} {w : World} {b : Bk} {bc : List Value} (hb : IsBo E f w b bc) : IsBo (fun x => E x ∧ x < w.heap.size) f w b bc := by
  obtain ⟨se, q1, q2, q3⟩ := hb; exact ⟨se, q1, q2.there fun _ _ hp => EnP.mono (fun _ _ hv => hv.there) hp, q3⟩
theorem actsR_all {P : En → Prop} (n : Nat) : ∀ (L : List Ac) (k : Nat) (s : St), (∀ s x, x ∈ L → P (actE s x)) → ∀ e ∈ (actsR n L k s).1, P e
  | [], _, _, _, e, he => by cases he
  | x :: r, k, s, h, e, he => by
    unfold actsR at he; rcases List.mem_cons.1 he with q | q
    · rw [q]; exact h s x (List.mem_cons_self ..)
    · exact actsR_all n r _ _ (fun s y hy => h s y (List.mem_cons_of_mem _ hy)) e q
theorem madeR_sm {f : Nat} {s : St} {L : List Ac} (h : ∀ x ∈ L, Lite (f + 1) x) (hl : L.length ≤ 2000) : BkSm (f + 1) (madeR s L) := by
  have hlen : (madeR s L).ents.length = L.length := actsR_len _ _ _ _; refine ⟨by omega, fun k hk => ?_, fun e he => ?_⟩
  · rw [getD_lt hk]
    exact actsR_all (P := fun e => Sm 3000 (f + 1) e.data) s.n L 0 s (fun s x hx => actE_sm s (h x hx)) _ (List.getElem_mem hk)
  · exact actsR_all (P := fun e => chk 16 e.data = 0 → (encV 16 e.data).length ≤ 70368744177664) s.n L 0 s (fun s x hx => actE_len s (h x hx)) e he
structure Duo (B : Nat) (w : World) (vb rb : Nat) (M D M' D' : Nat → Prop) (f : Nat) (s1 s2 : St) (N : Nat) : Prop where
  p : PVs w vb M D (f + 1) s1 N
  r : RVs w rb M' D' (f + 1) s2 N
  a1 : ∀ x, M x → B ≤ x ∧ ¬ M' x ∧ ¬ D' x
  a2 : ∀ x, M' x → B ≤ x ∧ ¬ D x
section
variable {B : Nat} {w w' : World} {vb rb : Nat} {M D M' D' : Nat → Prop} {f : Nat} {s1 s2 : St} {N : Nat}
theorem Duo.below (h : Duo B w vb rb M D M' D' f s1 s2 N) (hb : Below w.heap.size w w') : Duo B w' vb rb M D M' D' f s1 s2 N := ⟨h.p.below hb, h.r.below hb, h.a1, h.a2⟩
theorem Duo.pres (h : Duo B w vb rb M D M' D' f s1 s2 N) {c : Int} {s' : St} {N' : Nat} {e : Ending} (hp : PRes w vb M D (f + 1) c s' N' e w') (hN : N ≤ N') (hN' : N' ≤ 1000000) (hB : B ≤ w.heap.size) :
    e = .returned (.int .i64 c) ∧ Keep (fun b => b < w.heap.size ∧ ¬ M b) w w' ∧ ∃ M1 D1, Duo B w' vb rb M1 D1 M' D' f s' s2 N' := by
  obtain ⟨M1, D1, rfl, h1, k1, m1, d1⟩ := hp; have hl := h.r.lt; refine ⟨rfl, k1, M1, D1, h1, (h.r.keep k1 fun b hb => ⟨hl b hb, fun hm => hb.elim (h.a1 b hm).2.1 (h.a1 b hm).2.2⟩).mono hN hN', fun x hx => ?_, fun x hx => ⟨(h.a2 x hx).1, fun hd => ?_⟩⟩
  · rcases m1 x hx with q | q
    · exact h.a1 x q
    · exact ⟨by omega, fun hh => by have := hl x (.inl hh); omega, fun hh => by have := hl x (.inr hh); omega⟩
  · rcases d1 x hd with q | q
    · exact (h.a2 x hx).2 q
    · have := hl x (.inl hx); omega
theorem Duo.rres (h : Duo B w vb rb M D M' D' f s1 s2 N) {c : Int} {s' : St} {N' N'' : Nat} {e : Ending} (hp : RPost w rb M' D' (f + 1) c s' N' e w') (hN : N ≤ N'') (hN1 : N' ≤ N'') (hN' : N'' ≤ 1000000) (hB : B ≤ w.heap.size) :
    e = .returned (.int .i64 c) ∧ Keep (fun b => b < w.heap.size ∧ ¬ M' b) w w' ∧ ∃ M1 D1, Duo B w' vb rb M D M1 D1 f s1 s' N'' := by
  obtain ⟨M1, D1, rfl, h1, k1, m1, d1⟩ := hp; have hl := h.p.lt; refine ⟨rfl, k1, M1, D1, (h.p.keep k1 fun b hb => ⟨hl b hb, fun hm => hb.elim (fun q => (h.a1 b q).2.1 hm) (h.a2 b hm).2⟩).mono hN hN', h1.mono hN1 hN', fun x hx => ⟨(h.a1 x hx).1, fun hm => ?_, fun hd => ?_⟩, fun x hx => ?_⟩
  · rcases m1 x hm with q | q
    · exact (h.a1 x hx).2.1 q
    · have := hl x (.inl hx); omega
  · rcases d1 x hd with q | q
    · exact (h.a1 x hx).2.2 q
    · have := hl x (.inl hx); omega
  · rcases m1 x hx with q | q
    · exact h.a2 x q
    · exact ⟨by omega, fun hh => by have := hl x (.inr hh); omega⟩
end
def ovC : List Value := [.int .i64 3, .int .i64 1, .int .i64 0, .string ⟨#[]⟩, .slice none 0 0, .slice none 0 0]
theorem ov_is (O : Nat → Prop) (f : Nat) (w : World) : IsVo O (f + 1) w oneV ovC := isVo_leaf (k := 3) (n := 1) (s := 0) (t := noT) (by omega) (by omega) (by omega) (by decide)
theorem builtOv : Tryz.prog.built 48 [(0, .int .i64 3), (1, .int .i64 1)] = some ovC.toArray := by kernel_rfl
theorem builtA1 : Tryz.prog.built acT [(0, .int .i64 4), (5, .string ⟨#[116]⟩)] = some (acC kA1 zCells (enC noE zCells)).toArray := by kernel_rfl
theorem builtA2 : Tryz.prog.built acT [(0, .int .i64 0), (1, .int .i64 1), (4, .agg ovC.toArray)] = some (acC kA2 ovC (enC noE zCells)).toArray := by kernel_rfl
theorem builtA3 : Tryz.prog.built acT [(0, .int .i64 1), (1, .int .i64 1), (2, .int .i64 1), (4, .agg ovC.toArray)] = some (acC kA3 ovC (enC noE zCells)).toArray := by kernel_rfl
def kCs : List Value := acC kA1 zCells (enC noE zCells) ++ (acC kA2 ovC (enC noE zCells) ++ acC kA3 ovC (enC noE zCells))
theorem litK : litCells Tryz.prog acT 3 [(0, .agg (acC kA1 zCells (enC noE zCells)).toArray), (1, .agg (acC kA2 ovC (enC noE zCells)).toArray), (2, .agg (acC kA3 ovC (enC noE zCells)).toArray)] = some kCs.toArray := by kernel_rfl
theorem zSml (f : Nat) : Sml (f + 1) zV := ⟨by show (0 : Nat) ≤ _; omega, by show (0 : Nat) ≤ _; omega, fun x hx => by cases hx⟩
theorem oSml (f : Nat) : Sml (f + 1) oneV := ⟨by show (0 : Nat) ≤ _; omega, by show (0 : Nat) ≤ _; omega, fun x hx => by cases hx⟩
theorem oSm (f : Nat) : Sm 3000 (f + 1) oneV := ⟨by show (0 : Nat) ≤ 3000; omega, by show (0 : Nat) ≤ 3000; omega, fun x hx => by cases hx⟩
theorem zLen : (encV 16 zV).length ≤ 70368744177664 := by
  have : (encV 16 zV).length ≤ 65536 := by decide
  omega
theorem oLen : (encV 16 oneV).length ≤ 70368744177664 := by
  have : (encV 16 oneV).length ≤ 65536 := by decide
  omega
theorem kLite (f : Nat) : ∀ x ∈ kL, Lite (f + 1) x := by
  intro x hx; simp only [kL, List.mem_cons, List.not_mem_nil, or_false] at hx; rcases hx with rfl | rfl | rfl
  · exact ⟨zSm f, zSm f, fun _ => zLen, fun _ => zLen⟩
  · exact ⟨oSm f, zSm f, fun _ => oLen, fun _ => zLen⟩
  · exact ⟨oSm f, zSm f, fun _ => oLen, fun _ => zLen⟩
theorem noE_is (O : Nat → Prop) (f : Nat) (w : World) : IsEo O (f + 1) w noE (enC noE zCells) := enZ rfl rfl noTs ⟨by show R64 0; omega, by show R64 0; omega, by show R64 0; omega, by show R64 0; omega, by show R64 0; omega, by show R64 0; omega⟩
theorem kActs {w : World} {g : Nat} (h : VBlk acT w g kCs) : IsActs (fun b => b = g) 1 w (.slice (some ⟨g, 0, none⟩) 3 3) kL := by
  have hr := VBlk.rangeAt h; have r1 : w.rangeAt g (0 + 0) (acC kA1 zCells (enC noE zCells)) := range_part (a := []) (m := acC kA1 zCells (enC noE zCells)) (z := acC kA2 ovC (enC noE zCells) ++ acC kA3 ovC (enC noE zCells)) hr; have r2 : w.rangeAt g (0 + 57) (acC kA2 ovC (enC noE zCells)) := range_part (a := acC kA1 zCells (enC noE zCells)) (m := acC kA2 ovC (enC noE zCells)) (z := acC kA3 ovC (enC noE zCells)) hr; have r3 : w.rangeAt g (0 + 114) (acC kA3 ovC (enC noE zCells)) := range_part (a := acC kA1 zCells (enC noE zCells) ++ acC kA2 ovC (enC noE zCells)) (m := acC kA3 ovC (enC noE zCells)) (z := []) (by rw [List.append_nil, List.append_assoc]; exact hr); have hz : ∀ x : Int, x = 0 ∨ x = 1 ∨ x = 4 → R64 x := fun x hx => by omega
  refine ⟨some ⟨g, 0, none⟩, 3, rfl, by show 3 ≤ 3; omega, by omega, (fun h => by cases h), fun _ => ⟨g, 0, rfl, h.lt, rfl, fun j hj => ?_⟩⟩; have hj3 : j < 3 := hj
  match j, hj3 with
  | 0, _ => exact ⟨_, rfl, ⟨⟨zCells, _, rfl, zV_is _ _ _, noE_is _ _ _, ⟨hz _ (.inr (.inr rfl)), hz _ (.inl rfl), hz _ (.inl rfl), hz _ (.inl rfl), by decide⟩⟩, zSml _, zSml _⟩, r1⟩
  | 1, _ => exact ⟨_, rfl, ⟨⟨ovC, _, rfl, ov_is _ _ _, noE_is _ _ _, ⟨hz _ (.inl rfl), hz _ (.inr (.inl rfl)), hz _ (.inl rfl), hz _ (.inl rfl), by decide⟩⟩, oSml _, zSml _⟩, r2⟩
  | 2, _ => exact ⟨_, rfl, ⟨⟨ovC, _, rfl, ov_is _ _ _, noE_is _ _ _, ⟨hz _ (.inr (.inl rfl)), hz _ (.inr (.inl rfl)), hz _ (.inr (.inl rfl)), hz _ (.inl rfl), by decide⟩⟩, oSml _, zSml _⟩, r3⟩
set_option maxHeartbeats 16000000 in
theorem known_any {w : World} : Calls Tryz.prog 9 #[] w fun r w' => r = .returned (.bool true) ∧ Below w.heap.size w w' := by
  refine enter (args := []) Tryz.func9 rfl Tryz.ntmps9 rfl ?_; refine K.kgo ?_; refine WL.call rfl rfl rfl rfl rfl Tryz.func10 rfl (by kernel_rfl) (pnew_any (f := 0 + 1)) ?_; rintro _ w1 ⟨vb, M1, rfl, hp1, b1, m1⟩; refine ⟨_, rfl, ?_⟩; refine K.kgo ?_; refine WL.call rfl rfl rfl rfl rfl Tryz.func11 rfl (by kernel_rfl) (rnew_any (f := 0 + 1)) ?_; rintro _ w2 ⟨rb, M2, rfl, hr2, b2, m2⟩; refine ⟨_, rfl, ?_⟩; have hlt1 := hp1.lt; have h2 : Duo w.heap.size w2 vb rb M1 (fun _ => False) M2 (fun _ => False) 0 st0 st0 0 := ⟨hp1.below b2, hr2, fun x hx => ⟨m1 x hx, fun hh => by have := m2 x hh; have := hlt1 x (.inl hx); omega, fun hh => hh⟩, fun x hx => ⟨by have := m2 x hx; have := b1.size; omega, fun hh => hh⟩⟩; have c2 := b1.trans (b2.mono b1.size); clear hp1 hr2 hlt1 m1 m2 b1 b2; refine K.kgo ?_; refine WL.build ovC rfl rfl rfl rfl rfl builtOv ?_; refine WL.alloc (z := .agg zCells.toArray) rfl rfl rfl rfl (fun _ => by kernel_rfl) fun g3 w3 f3 => ?_; refine WL.storeRow rfl rfl rfl rfl rfl rfl f3.blk rfl rfl (ov_is (fun _ => True) 0 w).one ?_; obtain ⟨v3, b3, -, -⟩ := rowed ovC (Below.refl w2.heap.size w2) f3; generalize w3.setRow g3 _ = w4 at v3 b3 ⊢; clear f3; have h4 := h2.below b3; have c4 := c2.trans (b3.mono c2.size); clear h2 b3 c2; refine K.kgo ?_; refine WL.build (acC kA1 zCells (enC noE zCells)) rfl rfl rfl rfl rfl builtA1 ?_; refine WL.loadMid rfl rfl rfl rfl rfl rfl (VBlk.rangeAt v3) rfl ?_; refine WL.build (acC kA2 ovC (enC noE zCells)) rfl rfl rfl rfl rfl builtA2 ?_; refine WL.loadMid rfl rfl rfl rfl rfl rfl (VBlk.rangeAt v3) rfl ?_; refine WL.build (acC kA3 ovC (enC noE zCells)) rfl rfl rfl rfl rfl builtA3 ?_; refine WL.litV kCs rfl rfl rfl rfl rfl rfl litK fun g5 w5 f5 => ?_; have hA := kActs f5.blk; have lg5 := VBlk.lt f5.blk; have eg5 := f5.eq; have lm4 := h4.p.lt; have lr4 := h4.r.lt; have h5 := h4.below f5.below; have c5 := c4.trans (f5.below.mono c4.size); clear h4 c4 f5 v3; refine WL.call rfl rfl rfl rfl rfl Tryz.func12 rfl (by kernel_rfl) (made_any h5.r (copyRed_nil _) (fun x h => by rw [h]; exact lg5) hA (kLite 0) (by decide)) ?_; rintro _ w6 ⟨b6, bc, rfl, hb6⟩; refine ⟨_, rfl, ?_⟩; rw [k_made] at hb6; have hbl := hb6.len; have h6 := h5.below b6; have hm5 := h5.p.lt; have hr5 := h5.r.lt; have c6 := c5.trans (b6.mono c5.size); refine WL.alloc (z := .agg (bkC noB (.slice none 0 0)).toArray) rfl rfl rfl rfl (fun _ => by kernel_rfl) fun g7 w7 f7 => ?_; refine WL.storeRow rfl rfl rfl rfl rfl rfl f7.blk hbl rfl hb6.one ?_; obtain ⟨v7, b7, -, eg7⟩ := rowed bc (Below.refl w6.heap.size w6) f7; generalize w7.setRow g7 _ = w8 at v7 b7 ⊢; clear f7; have l7 := VBlk.lt v7; have h8 := h6.below b7; have hb8 := IsBo.there (IsBo.below hb6 b7); have c8 := c6.trans (b7.mono c6.size); have z6 := b6.size; have z7 := b7.size; have z8 := c8.size; clear h5 h6 hb6 c5 c6; have hsm : BkSm (0 + 1) kB := by rw [← k_made]; exact madeR_sm (kLite 0) (by decide)
  refine K.kgo ?_; refine WL.loadMid rfl rfl rfl rfl rfl rfl (VBlk.rangeAt v7) hbl ?_; refine WL.call rfl rfl rfl rfl rfl Tryz.func13 rfl (by kernel_rfl) (papply_any h8.p inv0 (fun x hx => hx.2) hb8 hsm (by decide)) ?_; rintro _ w9 hp9; obtain ⟨rfl, k9, M3, D3, h9⟩ := h8.pres hp9 (by omega) (by decide) z8; refine ⟨_, rfl, ?_⟩; rw [k_app] at h9 ⊢; have z9 := k9.size; have hEM : ∀ x, ((x = g5 ∨ w5.heap.size ≤ x) ∧ x < w8.heap.size) → x < w8.heap.size ∧ ¬ M1 x := fun x hx => ⟨hx.2, fun hm => by
    rcases hx.1 with q | q
    · have := lm4 x (.inl hm); omega
    · have := hm5 x (.inl hm); omega⟩
  have hb9 := IsBo.keep hb8 k9 fun x hx _ => hEM x hx; have v9 := v7.keep k9 ⟨l7, fun hm => by have := hm5 g7 (.inl hm); omega⟩; have c9 : Below w.heap.size w w9 := ((Keep.of_below c8).trans (k9.mono fun x (hx : x < w.heap.size) => ⟨by omega, fun hm => by have := (h8.a1 x hm).1; omega⟩)).below; refine K.kgo ?_; refine WL.loadMid rfl rfl rfl rfl rfl rfl (VBlk.rangeAt v9) hbl ?_; refine WL.on rfl rfl ?_; refine WL.call rfl rfl rfl rfl rfl Tryz.func14 rfl (by kernel_rfl) (rapply15_any h9.r (fun x hx => by omega) hb9 hsm (by decide) (copyRed_nil _)) ?_; rintro _ w10 hp10; obtain ⟨rfl, k10, M4, D4, h10⟩ := h9.rres (N'' := 1000) hp10 (by decide) (by decide) (by decide) (by omega); refine ⟨_, rfl, ?_⟩; rw [k_app] at h10 ⊢; have z10 := k10.size; have c10 : Below w.heap.size w w10 := ((Keep.of_below c9).trans (k10.mono fun x (hx : x < w.heap.size) => ⟨by omega, fun hm => by have := (h9.a2 x hm).1; omega⟩)).below; have hI : InvN kS4 := by have := appR_inv inv0 kB; rwa [k_app] at this
  refine K.kgo ?_; refine WL.call rfl rfl rfl rfl rfl Tryz.func15 rfl (by kernel_rfl) (stood_any h10.p h10.r hI.1 (by decide) (by decide)) ?_; rintro _ w11 ⟨b11, rfl⟩; refine ⟨_, rfl, ?_⟩; have h11 := h10.below b11; have c11 := c10.trans (b11.mono c10.size); refine K.kgo ?_; refine WL.call rfl rfl rfl rfl rfl Tryz.func22 rfl (by kernel_rfl) (pdocs_any h11.p (t := 1) (by show R64 1; omega)) ?_; rintro _ w12 ⟨b12, v12, rfl, x12⟩; refine ⟨_, rfl, ?_⟩; obtain ⟨sp12, cp12, rfl, -⟩ := x12; have h12 := h11.below b12; have c12 := c11.trans (b12.mono c11.size); rw [k_docs]; refine K.kgo ?_; refine WL.call rfl rfl rfl rfl rfl Tryz.func18 rfl (by kernel_rfl) (phist_any h12.p (by decide) (t := 1) (by show R64 1; omega)) ?_; rintro _ w13 ⟨b13, v13, rfl, x13⟩; refine ⟨_, rfl, ?_⟩; obtain ⟨sp13, cp13, rfl, -⟩ := x13; rw [k_hist]; refine K.kgo ?_; exact WQ.ret1 rfl rfl ⟨rfl, c12.trans (b13.mono c12.size)⟩
end Vw
end Go.Proofs.YtchgjaaadfjiiaaGreat
