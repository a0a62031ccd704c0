/-
  For every row of rows of acts the law ViewsReplay answers true, and the arguments read as they did. No condition.
-/
import Derived.Test.YtchgjaaadfjiiaaGreatZLawVwRp8
import Derived.ChangeMaps5
namespace Go.Proofs.YtchgjaaadfjiiaaGreat
open Go.RowKit Go.Maps
namespace Vw
open K
set_option maxRecDepth 100000
structure Lite (f : Nat) (x : Ac) : Prop where
  sd : Sm 3000 f x.data
  se : Sm 3000 f x.e.data
  ld : chk 16 x.data = 0 → (encV 16 x.data).length ≤ 70368744177664
  le : chk 16 x.e.data = 0 → (encV 16 x.e.data).length ≤ 70368744177664
theorem actE_data (s : St) (x : Ac) : (actE s x).data = x.data ∨ (actE s x).data = zV ∨ (actE s x).data = x.e.data:=by
  unfold actE
  repeat' split
  all_goals first | exact .inl rfl | exact .inr (.inl rfl) | exact .inr (.inr rfl)
theorem actE_sm {f : Nat} (s : St) {x : Ac} (h : Lite (f + 1) x) : Sm 3000 (f + 1) (actE s x).data:=by
  rcases actE_data s x with e | e | e <;> rw [e]
  · exact h.sd
  · exact zSm f
  · exact h.se
theorem actE_len {f : Nat} (s : St) {x : Ac} (h : Lite f x) : chk 16 (actE s x).data = 0 → (encV 16 (actE s x).data).length ≤ 70368744177664:=by
  rcases actE_data s x with e | e | e <;> rw [e]
  · exact h.ld
  · intro _
    have : (encV 16 zV).length ≤ 65536:=by decide
    omega
  · exact h.le
theorem actsR_step (n : Nat) {L : List Ac} {i : Nat} (hi : i < L.length) (s : St) : actsR n (L.drop i) i s = ((actE s (L.getD i noAc)) :: (actsR n (L.drop (i + 1)) (i + 1) (entR s (actE s (L.getD i noAc)) n i (7 * n)).2).1,(actsR n (L.drop (i + 1)) (i + 1) (entR s (actE s (L.getD i noAc)) n i (7 * n)).2).2):=by
  rw [List.drop_eq_getElem_cons hi,List.getD_eq_getElem?_getD,List.getElem?_eq_getElem hi]
  rfl
theorem OwnE.self {α : Type} {e : TypeId} {m : Nat} {z : α} {P : α → List Value → Prop} {O : Nat → Prop} {w : World} {v : Value} {l : List α} (h : OwnE e m z P O w v l) : OwnE e m z P (fun b => v.ownBlock = some b) w v l:=by
  obtain ⟨kcs,q1,q2,q3⟩:=h;exact ⟨kcs,q1,q2,q3.1,q3.2.1,fun g hg => hg⟩
theorem builtBk (i t : Int) : Tryz.prog.built bkT [(0,.int .i64 i),(1,.int .i64 t)] = some (bkC ⟨i,t,0,Dig.Z32,[]⟩ (.slice none 0 0)).toArray:=by kernel_rfl
theorem bkC_one (b : Bk) (sp : Option Addr) (n c : Nat) : Ones (bkC b (.slice sp n c)):=by
  intro u hu;unfold bkC at hu;simp only [List.mem_cons,List.mem_append,List.not_mem_nil,or_false] at hu;rcases hu with rfl | rfl | rfl | hu | rfl
  all_goals first | rfl | exact Ones.int _ _ u hu
set_option maxHeartbeats 16000000 in
theorem made_any {w : World} {rb : Nat} {M D : Nat → Prop} {f : Nat} {s : St} {N : Nat} (h0 : RVs w rb M D (f + 1) s N) (hcp : copyRed s.rows s.red = s.red) {E : Nat → Prop} (hE : ∀ b,E b → b < w.heap.size) {v : Value} {L : List Ac} (hv : IsActs E (f + 1) w v L) (hL : ∀ x ∈ L,Lite (f + 1) x) (hN : N + L.length + 1 ≤ 1000000) :
    Calls Tryz.prog 12 #[.pointer (some ⟨rb,0,none⟩),v] w fun e w' => Below w.heap.size w w' ∧ ∃ bc,e = .returned (.agg bc.toArray) ∧ IsBo (fun b => E b ∨ w.heap.size ≤ b) (f + 1) w' (madeR s L) bc:=by
  obtain ⟨rcp,rOc,rv,mb,rk,rr⟩:=id h0;obtain ⟨spv,capv,rfl,hc1,hc2,hc3,hrow⟩:=id hv;have d2:=rr.vb.cell 2 (by simp);simp only [List.getD_cons_succ,List.getD_cons_zero] at d2;have lrb:=rr.lt rb (.inl rr.mrb);have hrok:=rr.ok;refine enter (args:=[.pointer (some ⟨rb,0,none⟩),.slice spv L.length capv]) Tryz.func12 rfl Tryz.ntmps12 rfl ?_;refine K.kgo ?_;refine WL.alloc (z:=.agg (bkC noB (.slice none 0 0)).toArray) rfl rfl rfl rfl (fun _ => by kernel_rfl) fun g4 w1 f1 => ?_;have v4 : VBlk bkT w1 g4 (bkC noB (.slice none 0 0)):=f1.blk;have b1:=f1.below;have e4:=f1.eq;have z1:=b1.size;clear f1;refine K.kgo ?_;refine WC.drawn 11 (fun wx => Below w1.heap.size w1 wx) fun wa hdr => ?_;have hS : Below w1.heap.size w1 wa:=hdr.below _;clear hdr;have d21:=(b1.cell (p:=⟨rb,2,none⟩) lrb).trans d2;have lrb1 : rb < w1.heap.size:=by omega
  refine K.fr [0,1,2] hS ?_;refine K.wl 3 [9,11] rfl rfl rfl rfl rfl rfl rfl (fun wx hx => (hx.cell (p:=⟨rb,2,none⟩) lrb1).trans d21) hS ?_;refine K.fr [4,5,6] hS ?_;refine K.wl 7 [8,9,11] rfl rfl rfl rfl rfl rfl rfl (fun wx hx => (hx.cell (p:=⟨rb,2,none⟩) lrb1).trans d21) hS ?_;refine K.fr [8] hS ?_;refine Cr.WDbuild (bkC ⟨s.n,7 * s.n,0,Dig.Z32,[]⟩ (.slice none 0 0)) 9 rfl (by kernel_rfl) rfl rfl (fun _ _ _ _ _ h => h) rfl rfl rfl (builtBk _ _) (.inr hS) ?_;refine K.wo 10 ?_;refine WL.alloc (z:=.agg (bkC noB (.slice none 0 0)).toArray) rfl rfl rfl rfl (fun _ => by kernel_rfl) fun g5 w2 f2 => ?_;have hS2:=hS.trans (f2.below.mono hS.size);have e5:=f2.eq;refine K.di hS2 ?_;refine K.wo 11 ?_;refine WL.storeRow rfl rfl rfl rfl rfl rfl f2.blk rfl rfl (bkC_one _ _ _ _) ?_;obtain ⟨v5,b5,-,-⟩:=rowed (bkC ⟨s.n,7 * s.n,0,Dig.Z32,[]⟩ (.slice none 0 0)) hS f2;generalize w2.setRow g5 _ = w5 at v5 b5 ⊢;have zS:=hS.size;clear f2 hS2;refine K.dl ?_;refine WD.done (by kernel_rfl) ?_;have c5:=b1.trans (b5.mono z1);have z5:=c5.size;have l5:=VBlk.lt v5;have l4:=VBlk.lt v4;have z15:=b5.size;refine K.kgo ?_;refine WL.call rfl rfl rfl rfl rfl Tryz.func28 rfl (by kernel_rfl) (rcopy_any (h0.below c5)) ?_;rintro _ w6 ⟨xb,Mx,rfl,hx,b6,mx⟩;refine ⟨_,rfl,?_⟩;rw [hcp] at hx;change RVs w6 xb Mx D (f + 1) s N at hx;have c6:=c5.trans (b6.mono z5);have z6:=c6.size;refine K.kgo ?_;refine WC.loop (fun i : Nat => [(1,.slice spv L.length capv),(4,.pointer (some ⟨g4,0,none⟩)),(5,.pointer (some ⟨g5,0,none⟩)),(6,.pointer (some ⟨xb,0,none⟩)),(7,.int .i64 i)])
    (fun i w' => i ≤ L.length ∧ Below w.heap.size w w' ∧ w5.heap.size ≤ w'.heap.size ∧ ∃ (si : St) (Mi Di : Nat → Prop) (se : Value) (es : List En),RVs w' xb Mi Di (f + 1) si (N + i) ∧ (∀ x,Mi x → w5.heap.size ≤ x) ∧ (∀ x,Di x → D x ∨ w5.heap.size ≤ x) ∧
      BkAt bkT g5 w' ⟨s.n,7 * s.n,0,Dig.Z32,es⟩ se ∧ VBlk bkT w' g4 (bkC noB (.slice none 0 0)) ∧ OwnE enT 46 noE (IsEo E (f + 1) w') (fun _ => True) w' se es ∧ (∀ g,se.ownBlock = some g → w5.heap.size ≤ g ∧ ¬ Mi g ∧ ¬ Di g) ∧ es.length = i ∧
      actsR s.n L 0 s = (es ++ (actsR s.n (L.drop i) i si).1,(actsR s.n (L.drop i) i si).2)) (fun i => L.length - i) 0 ⟨rfl,rfl,rfl,rfl,rfl,trivial⟩
    ⟨Nat.zero_le _,c6,b6.size,s,Mx,D,.slice none 0 0,[],hx,mx,fun x h => .inl h,⟨VBlk.below v5 b6 l5,rfl⟩,VBlk.below (VBlk.below v4 b5 l4) b6 (by omega),K.OwnE.nil _ _ _ _ _ _,(fun g h => by cases h),rfl,rfl⟩ ?_
  clear hx mx b6;rintro i wl ⟨hi,bl,z5l,si,Mi,Di,se,es,hxi,mi,di,B,v4l,hoE,hown,hel,hrun⟩;have zl:=bl.size
  by_cases hik : i < L.length
  case pos =>
    obtain ⟨b,o,rfl,hb,hOb,hcells⟩:=hrow (by omega);obtain ⟨ac,hacl,⟨hac,-⟩,hat⟩:=hcells i hik;have hlx:=hL (L.getD i noAc) (by rw [List.getD_eq_getElem?_getD,List.getElem?_eq_getElem hik];exact List.getElem_mem hik);rw [actsR_step s.n hik si] at hrun;generalize L.getD i noAc = x at hac hlx hrun;have ce:=B.ents;have lg5:=VBlk.lt B.blk;have lg4:=VBlk.lt v4l;refine K.kgl ?_;refine WC.drawn 9 (fun wx => Below wl.heap.size wl wx) fun wa hdr => ?_;have hS : Below wl.heap.size wl wa:=hdr.below _;clear hdr;refine K.fr [0] hS ?_;refine K.wl 1 [9,10,11] rfl rfl rfl rfl rfl rfl rfl (fun wx hx => (hx.cell (p:=⟨g5,35,none⟩) lg5).trans ce) hS ?_;refine K.fr [2,3,4] hS ?_;refine K.wi 5 i (o + i * 57) rfl rfl rfl rfl rfl rfl rfl rfl rfl hik rfl (.inr hS) ?_;refine K.wm 6 [7,8,9,10,11] rfl rfl rfl rfl rfl rfl rfl (fun wx hx => fun u q hq => ((bl.trans (hx.mono zl)).cell (p:=⟨b,o + i * 57 + u,none⟩) hb).trans (hat u q hq)) hacl hS ?_;refine K.wo 7 ?_;refine WL.call rfl rfl rfl rfl rfl Tryz.func29 rfl (by kernel_rfl) (entryL_any (hxi.below hS) (hac.keep (Keep.of_below (bl.trans (hS.mono zl))) (fun y _ h => h) (fun _ h => h)) hlx.ld) ?_;rintro _ wb ⟨bb,ec,rfl,hep⟩;refine ⟨_,rfl,?_⟩;have hSb:=hS.trans (bb.mono hS.size);refine K.di hSb ?_;refine K.wo 8 ?_;refine WL.lit1 rfl rfl rfl rfl rfl rfl rfl hep.len ⟨by omega,by omega⟩ (by kernel_rfl) fun g7 w7 hf7 => ?_;have hS7:=hSb.trans (hf7.below.mono hSb.size);refine K.di hS7 ?_;have z7:=hS7.size;have hE7 : IsEo E (f + 1) w7 (actE si x) ec:=EnP.mono (fun v c hv => hv.keep (Keep.of_below hf7.below) (fun y _ hl => hl) (fun _ h => h)) hep;have hoE7 : OwnE enT 46 noE (IsEo E (f + 1) w7) (fun _ => True) w7 se es:=K.OwnE.keep hoE (Keep.of_below hS7) (fun g hg => K.OwnE.lt hoE hg) (fun _ h => h) fun _ _ hp => EnP.mono (fun v c hv => hv.keep (Keep.of_below hS7) (fun y _ hl => hl) (fun _ h => h)) hp;have hg7lt : ∀ g,se.ownBlock = some g → g < wl.heap.size:=fun g hg => K.OwnE.lt hoE hg;refine K.wo 9 ?_;refine WL.snoc rfl rfl rfl rfl elemE rfl hoE7 rfl hf7.blk hep.one hep.len hE7 (by omega) (by omega) fun se8 w8 ho8 hg8 => ?_;refine K.dl ?_
    (refine K.fzl 10 rfl (q:=?_))
    refine K.wo 11 ?_;have z8:=hg8.1.size;have B8:=(BkAt.below B hS7).keep hg8.1 ⟨by omega,fun e => by have:=(hown g5 e).1;omega⟩;have v48:=(VBlk.below v4l hS7 lg4).keep hg8.1 ⟨by omega,fun e => by have:=(hown g4 e).1;omega⟩;refine WL.store rfl rfl rfl rfl rfl ho8.one (by kernel_rfl) B8.ents (B8.blk.free 35) ?_;have B9:=B8.setEnts se8 (es ++ [actE si x]);have k9 : Keep (fun y => y ≠ g5) w8 (w8.setCell ⟨g5,35,none⟩ se8):=(Keep.refl _ _).setCell (by simp) _;have v49:=v48.keep k9 (show g4 ≠ g5 by omega);have hKa : Keep (fun y => y < wl.heap.size ∧ se.ownBlock ≠ some y ∧ y ≠ g5) wl (w8.setCell ⟨g5,35,none⟩ se8):=((Keep.of_below hS7).mono fun y hy => hy.1).trans ((hg8.1.mono fun y hy => ⟨by omega,hy.2.1⟩).trans (k9.mono fun y hy => hy.2.2));have hown8 : ∀ g,se8.ownBlock = some g → w5.heap.size ≤ g ∧ ¬ Mi g ∧ ¬ Di g ∧ g < w8.heap.size:=fun g hg => by
      have hlt:=K.OwnE.lt ho8 hg;rcases hg8.2 g hg with q | q
      · obtain ⟨q1,q2,q3⟩:=hown g q
        exact ⟨q1,q2,q3,hlt⟩
      · exact ⟨by omega,fun h => by have:=hxi.lt g (.inl h);omega,fun h => by have:=hxi.lt g (.inr h);omega,hlt⟩
    have hbig : ∀ y,E y → y < w8.heap.size ∧ ¬ se.ownBlock = some y ∧ y ≠ g5:=fun y hy => by
      have:=hE y hy;exact ⟨by omega,fun e => by have:=(hown y e).1;omega,by omega⟩
    have k79 : Keep (fun y => y < w7.heap.size ∧ se.ownBlock ≠ some y ∧ y ≠ g5) w7 (w8.setCell ⟨g5,35,none⟩ se8):=(hg8.1.mono fun y hy => ⟨hy.1,hy.2.1⟩).trans (k9.mono fun y hy => hy.2.2);have ho9 : OwnE enT 46 noE (IsEo E (f + 1) (w8.setCell ⟨g5,35,none⟩ se8)) (fun b => se8.ownBlock = some b) (w8.setCell ⟨g5,35,none⟩ se8) se8 (es ++ [actE si x]) :=
      K.OwnE.keep (OwnE.self ho8) k9 (fun g hg e => by have:=(hown8 g hg).1;omega) (fun _ h => h) fun _ _ hp => EnP.mono (fun v c hv => hv.keep k79 (fun y hy _ => by have q:=hbig y hy;have:=hE y hy;exact ⟨by omega,q.2.1,q.2.2⟩) (fun _ h => h)) hp
    have z9 : (w8.setCell ⟨g5,35,none⟩ se8).heap.size = w8.heap.size:=by simp
    generalize w8.setCell ⟨g5,35,none⟩ se8 = w9 at B9 v49 hKa ho9 z9 ⊢;clear k9 k79 ho8 hoE7 hE7 B8 v48 hf7 hS hSb bb;have hx9 : RVs w9 xb Mi Di (f + 1) si (N + i):=hxi.keep hKa fun y hy => ⟨hxi.lt y hy,fun e => by
      obtain ⟨q1,q2,q3⟩:=hown y e;exact hy.elim q2 q3,fun e => by
      rcases hy with hy | hy
      · have:=mi y hy;omega
      · rcases di y hy with q | q
        · have:=h0.lt y (.inr q);omega
        · omega⟩
    have c9 : Below w.heap.size w w9:=((Keep.of_below bl).trans (hKa.mono fun y (hy : y < w.heap.size) => ⟨by omega,fun e => by have:=(hown y e).1;omega,by omega⟩)).below;refine K.dl ?_;refine WD.done (by kernel_rfl) ?_;refine K.kgo ?_;refine WL.loadMid rfl rfl rfl rfl rfl rfl (VBlk.rangeAt B9.blk) B9.len ?_;refine K.kgo ?_;have hlen9 : (es ++ [actE si x]).length = i + 1:=by rw [List.length_append,hel];rfl
    have hget9 : (es ++ [actE si x]).getD i noE = actE si x:=by rw [List.getD_eq_getElem?_getD,List.getElem?_append_right (by omega),hel];simp
    have hb9 : IsBo (fun y => E y ∨ se8.ownBlock = some y) (f + 1) w9 ⟨s.n,7 * s.n,0,Dig.Z32,es ++ [actE si x]⟩ (bkC ⟨s.n,7 * s.n,0,Dig.Z32,es ++ [actE si x]⟩ se8) :=
      ⟨se8,rfl,(K.OwnE.els ho9).mono (fun y h => .inr h) (fun _ _ hp => EnP.mono (fun v c hv => hv.mono fun y h => .inl h) hp),rfl,z32_byt,⟨by show _ ≤ (s.n : Int);omega,by show (s.n : Int) ≤ _;omega⟩,⟨by show _ ≤ 7 * (s.n : Int);omega,by show 7 * (s.n : Int) ≤ _;omega⟩,by show R64 0;omega⟩
    have hsm9 : Sm 3000 (f + 1) ((es ++ [actE si x]).getD i noE).data:=by rw [hget9];exact actE_sm si hlx
    refine WL.call rfl rfl rfl rfl rfl Tryz.func30 rfl (by kernel_rfl) (rEntry_any hx9 (by omega) (fun y hy hm => hy.elim (fun h => by have:=hE y h;have:=mi y hm;omega) fun h => (hown8 y h).2.1 hm) hb9 i (by show i < (es ++ [actE si x]).length;omega) (by omega) hsm9) ?_;rintro _ w10 ⟨M2,D2,rfl,hx10,k10,m2,d2⟩;refine ⟨_,rfl,?_⟩;have z10:=k10.size;simp only [hget9] at hx10;refine K.kgo ?_;refine WQ.again (i + 1) ⟨rfl,rfl,rfl,rfl,rfl,trivial⟩ ⟨hik,((Keep.of_below c9).trans (k10.mono fun y (hy : y < w.heap.size) => ⟨by omega,fun hm => by have:=mi y hm;omega⟩)).below,by omega,_,M2,D2,se8,es ++ [actE si x],hx10,
      fun y hy => (m2 y hy).elim (mi y) (fun h => by omega),fun y hy => (d2 y hy).elim (di y) (fun h => .inr (by omega)),?_,v49.keep k10 ⟨by omega,fun hm => by have:=mi g4 hm;omega⟩,?_,fun g hg => ?_,hlen9,?_⟩ (by omega)
    · exact BkAt.keep B9 k10 ⟨by omega,fun hm => by have:=mi g5 hm;omega⟩
    · exact K.OwnE.keep ho9 k10 (fun g hg => ⟨K.OwnE.lt ho9 hg,(hown8 g hg).2.1⟩) (fun _ _ => trivial) fun _ _ hp => EnP.mono (fun v c hv => hv.keep k10 (fun y hy _ => ⟨by have:=hE y hy;omega,fun hm => by have:=hE y hy;have:=mi y hm;omega⟩) (fun _ h => h)) hp
    · obtain ⟨q1,q2,q3,q4⟩:=hown8 g hg
      exact ⟨q1,fun hm => (m2 g hm).elim q2 (fun h => by omega),fun hm => (d2 g hm).elim q3 (fun h => by omega)⟩
    · rw [hrun]
      simp
  case neg =>
    obtain rfl : i = L.length:=by omega
    rw [List.drop_length] at hrun;have hm : madeR s L = ⟨s.n,7 * s.n,0,Dig.Z32,es⟩:=by unfold madeR;rw [hrun];simp [actsR]
    rw [hm];refine K.kgo ?_;refine WL.loadMid rfl rfl rfl rfl rfl rfl (VBlk.rangeAt B.blk) B.len ?_;obtain ⟨spE,capE,rfl,-⟩:=id (K.OwnE.els hoE);refine WL.storeRow rfl rfl rfl rfl rfl rfl v4l B.len rfl (bkC_one _ _ _ _) ?_;have k11 : ∀ a,Keep (fun y => y ≠ g4) wl (wl.setRow g4 a):=fun a => Keep.setRow (Keep.refl _ wl) (fun hk => hk rfl) a;refine K.kgo ?_;refine WQ.retC rfl rfl rfl B.len (v4l.setRow _) ⟨((Keep.of_below bl).trans ((k11 _).mono fun y (hy : y < w.heap.size) => by omega)).below,_,rfl,_,rfl,?_,rfl,z32_byt,⟨by show _ ≤ (s.n : Int);omega,by show (s.n : Int) ≤ _;omega⟩,⟨by show _ ≤ 7 * (s.n : Int);omega,by show 7 * (s.n : Int) ≤ _;omega⟩,by show R64 0;omega⟩;exact (K.OwnE.els (OwnE.self hoE)).keep (k11 _) (fun y hy _ => by have:=(hown y hy).1;omega) (fun y hy => .inr (by have:=(hown y hy).1;omega)) fun _ _ hp => EnP.mono (fun v c hv => hv.keep (k11 _) (fun y hy _ => by have:=hE y hy;omega) (fun y h => .inl h)) hp
end Vw
namespace K
set_option maxHeartbeats 4000000 in
theorem great_any : ∀ (f : Nat) {w0 w : World} {v : V} {cs : List Value} {pb n : Nat},IsV f w0 v cs → Sml f v → Below w0.heap.size w0 w → w0.heap.size ≤ pb → VBlk 3 w pb [.int .i64 n] → n ≤ 140737488355328 →
    Calls Tryz.prog 26 #[.agg cs.toArray,.pointer (some ⟨pb,0,none⟩)] w fun e w' => e = .returned (.bool (decide (2000 < grt 2000 f v n))) ∧ VBlk 3 w' pb [.int .i64 (grt 2000 f v n)] ∧ Keep (fun b => b < w.heap.size ∧ b ≠ pb) w w'
  | 0,_,_,_,_,_,_,h,_,_,_,_,_ => h.elim
  | f + 1,w0,w,v,cs,pb,n,hv,hs,hbel,hpb,hblk,hn => by
    have ih:=@great_any f;obtain ⟨sn,sk,rfl,-,-,-,htz,⟨np,nc,rfl,nl,nc2,-,-⟩,⟨sp,cap,rfl,hcap1,hcap2,hrow⟩⟩:=hv;obtain ⟨hsn,hsk,hsm⟩:=hs;have hgr : grt 2000 (f + 1) v n = grtK 2000 (grt 2000 f) v.kids (n + 1 + v.t.size / 20 + v.names.length):=rfl;rw [hgr];refine enter (args:=[.agg (six v (.slice np v.names.length nc) (.slice sp v.kids.length cap)).toArray,.pointer (some ⟨pb,0,none⟩)]) Tryz.func26 rfl Tryz.ntmps26 rfl ?_;refine K.kgo ?_;refine WL.box rfl rfl rfl rfl rfl fun g w1 hf => ?_;have hf' : Fresh w g w1 48 (six v (.slice np v.names.length nc) (.slice sp v.kids.length cap)):=hf;clear hf;have hpw:=hblk.lt;have hne : g ≠ pb:=by rw [hf'.eq];omega
    have hblk1 : VBlk 3 w1 pb [.int .i64 n]:=hblk.below hf'.below hpw;have hkeep1 : Keep (fun b => b < w.heap.size ∧ b ≠ pb) w w1:=(Keep.of_below hf'.below).mono fun _ h => h.1;refine K.kgo ?_;refine WC.drawn 15 (fun wx => VBlk 3 wx pb [.int .i64 n] ∧ VBlk 48 wx g (six v (.slice np v.names.length nc) (.slice sp v.kids.length cap))) fun w2 hd2 => ?_;have hS : VBlk 3 w2 pb [.int .i64 n] ∧ VBlk 48 w2 g (six v (.slice np v.names.length nc) (.slice sp v.kids.length cap)):=⟨hblk1.below (hd2.below _) hblk1.lt,hf'.blk.below (hd2.below _) hf'.blk.lt⟩;refine K.fr [0,1,2] hS ?_;refine K.wl 3 [4,9,13,15] rfl rfl rfl rfl rfl rfl rfl (fun wx hx => hx.1.cell 0 (by simp)) hS ?_;refine K.fr [4,5] hS ?_;refine K.wl 6 [7,8,9,13,15] rfl rfl rfl rfl rfl rfl rfl (fun wx hx => hx.2.cell 3 (by simp)) hS ?_;refine K.fr [7,8,9,10] hS ?_;refine K.wl 11 [12,13,15] rfl rfl rfl rfl rfl rfl rfl (fun wx hx => hx.2.cell 4 (by simp)) hS ?_;refine K.fr [12,13,14] hS ?_;refine K.wo 15 ?_;have e : IntKind.i64.wrap ((v.t.size : Int).tdiv 20) = ((v.t.size / 20 : Nat) : Int):=by rw [Int.tdiv_eq_ediv_of_nonneg (by omega),IntKind.wrap_i64];omega
    have e2 : IntKind.i64.wrap (IntKind.i64.wrap ((n : Int) + 1 + IntKind.i64.wrap ((v.t.size : Int).tdiv 20)) + (v.names.length : Int)) = ((n + 1 + v.t.size / 20 + v.names.length : Nat) : Int):=by
      rw [e,show IntKind.i64.wrap ((n : Int) + 1 + ((v.t.size / 20 : Nat) : Int)) = (n : Int) + 1 + ((v.t.size / 20 : Nat) : Int) from IntWalk.i64_in _ (by omega),IntWalk.i64_in _ (by omega)];omega
    generalize n + 1 + v.t.size / 20 + v.names.length = n1 at e2 ⊢;refine WL.store (v:=.int .i64 n1) rfl rfl rfl rfl (congrArg (fun z => some (Value.int .i64 z)) e2) rfl (by kernel_rfl) (hS.1.cell 0 (by simp)) (hS.1.free 0) ?_;have hb2 : VBlk 3 (w2.setCell ⟨pb,0,none⟩ (.int .i64 n1)) pb [.int .i64 n1]:=hS.1.set 0 (.int .i64 n1);have hg2 : VBlk 48 (w2.setCell ⟨pb,0,none⟩ (.int .i64 n1)) g (six v (.slice np v.names.length nc) (.slice sp v.kids.length cap)):=hS.2.other _ _ hne;have hk2 : Keep (fun b => b < w.heap.size ∧ b ≠ pb) w (w2.setCell ⟨pb,0,none⟩ (.int .i64 n1)):=(hkeep1.trans ((Keep.of_below (hd2.below w1.heap.size)).mono fun b hb => Nat.lt_of_lt_of_le hb.1 hf'.below.size)).setCell (fun h => h.2 rfl) _;generalize w2.setCell ⟨pb,0,none⟩ (.int .i64 n1) = w3 at hb2 hg2 hk2;refine K.dl ?_;refine WD.done (by kernel_rfl) ?_;refine K.kgo ?_;generalize hRR : grtK 2000 (grt 2000 f) v.kids n1 = RR;have hgw : g < w3.heap.size:=hg2.lt;refine WC.loop (fun i : Nat => [(1,.pointer (some ⟨pb,0,none⟩)),(2,.pointer (some ⟨g,0,none⟩)),(5,.int .i64 i)])
      (fun i w' => i ≤ v.kids.length ∧ Keep (fun b => b < w3.heap.size ∧ b ≠ pb) w3 w' ∧ ∃ x : Nat,VBlk 3 w' pb [.int .i64 x] ∧ grtK 2000 (grt 2000 f) (v.kids.drop i) x = RR) (fun i => v.kids.length - i) 0
      ⟨rfl,rfl,rfl,trivial⟩ ⟨Nat.zero_le _,Keep.refl _ _,n1,hb2,hRR⟩ ?_
    rintro i wr ⟨hi,hkr,x,hbx,hx⟩;have hgr2 : VBlk 48 wr g (six v (.slice np v.names.length nc) (.slice sp v.kids.length cap)):=hg2.keep hkr ⟨hgw,hne⟩;have hkw : Keep (fun b => b < w.heap.size ∧ b ≠ pb) w wr:=hk2.trans (hkr.mono fun b hb => ⟨Nat.lt_of_lt_of_le hb.1 hk2.size,hb.2⟩);have hlast : ∀ {wz : World} {xz : Nat},VBlk 3 wz pb [.int .i64 xz] → Keep (fun b => b < w.heap.size ∧ b ≠ pb) w wz → xz = RR → (Ending.returned (.bool (decide ((2000 : Int) < (xz : Int)))) = .returned (.bool (decide (2000 < RR))) ∧ VBlk 3 wz pb [.int .i64 (RR)] ∧ Keep (fun b => b < w.heap.size ∧ b ≠ pb) w wz) :=
      fun h1 h2 h3 => ⟨by rw [← h3];congr 2;simp only [decide_eq_decide];omega,by rw [← h3];exact h1,h2⟩
    refine K.kgo ?_;refine WL.load rfl rfl rfl rfl rfl rfl (hgr2.cell 5 (by simp)) ?_
    by_cases hik : i < v.kids.length
    · have hdr : v.kids.drop i = v.kids.getD i noV :: v.kids.drop (i + 1):=by
        rw [List.drop_eq_getElem_cons hik];simp [hik]
      rw [hdr] at hx;refine K.kgo ?_;refine WL.load rfl rfl rfl rfl rfl rfl (hbx.cell 0 (by simp)) ?_
      by_cases hx2 : x ≤ 2000
      · obtain ⟨kb,ko,rfl,hkb,hcells⟩:=hrow (by omega)
        obtain ⟨c,hc6,hci,hcr⟩:=hcells i hik;have hbelr : Below w0.heap.size w0 wr:=(hbel.trans ((hkw.mono fun b hb => ⟨Nat.lt_of_lt_of_le hb hbel.size,Nat.ne_of_lt (Nat.lt_of_lt_of_le hb hpb)⟩ : Keep (fun b => b < w0.heap.size) w wr).below));have hcr' : wr.rangeAt kb (ko + i * 6) c:=fun j u hu => by rw [hbelr.cell (p:=⟨kb,ko + i * 6 + j,none⟩) hkb];exact hcr j u hu
        unfold grtK at hx;rw [if_pos hx2] at hx;refine K.kgo ?_;refine WL.load rfl rfl rfl rfl rfl rfl (hgr2.cell 5 (by simp)) ?_;refine K.kgo ?_;refine WL.idx i (ko + i * 6) rfl rfl rfl rfl rfl rfl rfl rfl hik rfl ?_;refine WL.loadMid rfl rfl rfl rfl rfl rfl hcr' hc6 ?_;refine K.kgo ?_;refine WL.call rfl rfl rfl rfl rfl Tryz.func26 rfl (by kernel_rfl) (ih (n:=x) hci (hsm _ (by rw [List.getD_eq_getElem?_getD,List.getElem?_eq_getElem hik];exact List.getElem_mem hik)) hbelr hpb hbx (by omega)) ?_;rintro e w4 ⟨rfl,hb4,hk4⟩;refine ⟨_,rfl,?_⟩;refine K.kgo ?_;exact WQ.again (i + 1) ⟨rfl,rfl,rfl,trivial⟩ ⟨hik,hkr.trans (hk4.mono fun b hb => ⟨Nat.lt_of_lt_of_le hb.1 hkr.size,hb.2⟩),_,hb4,hx⟩ (by show v.kids.length - (i + 1) < v.kids.length - i;omega)
      · unfold grtK at hx
        rw [if_neg hx2] at hx;refine K.kgo ?_;refine WL.load rfl rfl rfl rfl rfl rfl (hbx.cell 0 (by simp)) ?_;refine WL.pure rfl rfl rfl rfl ?_;refine WL.pure rfl rfl rfl rfl ?_;refine K.kgo ?_;exact WQ.ret1 rfl rfl ⟨congrArg (fun b => Ending.returned (Value.bool b)) (decide_eq_true (by omega)).symm,(hlast hbx hkw hx).2⟩
    · obtain rfl : i = v.kids.length:=by omega
      rw [List.drop_length] at hx;unfold grtK at hx;refine K.kgo ?_;refine WL.load rfl rfl rfl rfl rfl rfl (hbx.cell 0 (by simp)) ?_;refine WL.pure rfl rfl rfl rfl ?_;refine WL.pure rfl rfl rfl rfl ?_;refine K.kgo ?_;exact WQ.ret1 rfl rfl (hlast hbx hkw hx)
end K
namespace Vw
open K
set_option maxRecDepth 100000
theorem range_part {w : World} {b o : Nat} {a m z : List Value} (h : w.rangeAt b o (a ++ (m ++ z))) : w.rangeAt b (o + a.length) m:=fun j u hj => by
  have hl : j < m.length:=by
    rcases Nat.lt_or_ge j m.length with q | q
    · exact q
    · rw [List.getElem?_eq_none q] at hj;cases hj
  have:=h (a.length + j) u (by rw [List.getElem?_append_right (by omega),Nat.add_sub_cancel_left,List.getElem?_append_left hl];exact hj)
  rwa [← Nat.add_assoc] at this
section
variable {w : World} {b o : Nat} {x : Ac} {dc ec : List Value}
theorem ac_data (h : w.rangeAt b o (acC x dc ec)) : w.rangeAt b (o + 4) dc:=range_part (a:=[Value.int .i64 x.kind,.int .i64 x.table,.int .i64 x.doc,.int .i64 x.pick]) (m:=dc) (z:=Value.string x.field :: ec) h
theorem ac_field (h : w.rangeAt b o (acC x dc ec)) (hd : dc.length = 6) : w.cell? ⟨b,o + 10,none⟩ = some (.string x.field):=by
  have:=range_part (a:=[Value.int .i64 x.kind,.int .i64 x.table,.int .i64 x.doc,.int .i64 x.pick] ++ dc) (m:=[Value.string x.field]) (z:=ec) (w:=w) (b:=b) (o:=o) (by unfold acC at h;simpa using h);rw [show (([Value.int .i64 x.kind,.int .i64 x.table,.int .i64 x.doc,.int .i64 x.pick] : List Value) ++ dc).length = 10 by simp [hd]] at this;exact this 0 _ rfl
theorem ac_e (h : w.rangeAt b o (acC x dc ec)) (hd : dc.length = 6) : w.rangeAt b (o + 11) ec:=by
  have:=range_part (a:=[Value.int .i64 x.kind,.int .i64 x.table,.int .i64 x.doc,.int .i64 x.pick] ++ (dc ++ [Value.string x.field])) (m:=ec) (z:=[]) (w:=w) (b:=b) (o:=o) (by unfold acC at h;simpa using h)
  rwa [show (([Value.int .i64 x.kind,.int .i64 x.table,.int .i64 x.doc,.int .i64 x.pick] : List Value) ++ (dc ++ [Value.string x.field])).length = 11 by simp [hd]] at this
end
theorem en_data {w : World} {b o : Nat} {e : En} {dc : List Value} (h : w.rangeAt b o (enC e dc)) : w.rangeAt b (o + 5) dc:=range_part (a:=[Value.int .i64 e.kind,.string e.text,.int .i64 e.table,.int .i64 e.doc,.int .i64 e.ver]) (m:=dc) (z:=hashC e.hash ++ [.bool e.gone,.int .i64 e.ab,.int .i64 e.ae]) h
theorem Sm.up {B B' : Nat} (hB : B ≤ B') : ∀ {f : Nat} {v : V},Sm B f v → Sm B' f v
  | 0,_,h => h
  | _ + 1,_,⟨h1,h2,h3⟩ => ⟨by omega,by omega,fun x hx => Sm.up hB (h3 x hx)⟩
theorem grt_lite {f : Nat} {v : V} {n : Nat} (hs : Sml f v) (h : ¬ 2000 < grt 2000 f v n) : Sm 3000 f v ∧ (chk 16 v = 0 → (encV 16 v).length ≤ 70368744177664) :=
  ⟨Sm.up (by omega) (grt_sm (B:=2000) f v n hs (by omega)).2,fun hc => by have:=(grt_enc (B:=2000) f 16 v n hs hc (by omega)).2;omega⟩
def tot (LL : List (List Ac)) : Nat:=(LL.map List.length).sum
theorem tot_snoc (LL : List (List Ac)) {i : Nat} (hi : i < LL.length) : tot (LL.take (i + 1)) = tot (LL.take i) + (LL.getD i []).length:=by
  unfold tot;rw [List.take_add_one,List.getElem?_eq_getElem hi,Option.toList_some,List.map_append,List.sum_append,List.getD_eq_getElem?_getD,List.getElem?_eq_getElem hi];simp
theorem tdiv10 {n : Nat} (h : n ≤ 140737488355328) : IntKind.i64.wrap ((n : Int).tdiv 10) = ((n / 10 : Nat) : Int):=by rw [Int.tdiv_eq_ediv_of_nonneg (by omega),IntKind.wrap_i64];omega
set_option maxHeartbeats 16000000 in
theorem heavy_any {f : Nat} {w : World} {E : Nat → Prop} {v : Value} {LL : List (List Ac)} (h : IsActss E (f + 1) w v LL) :
    Calls Tryz.prog 8 #[v] w fun r w' => Below w.heap.size w w' ∧ ∃ b',r = .returned (.bool b') ∧ (b' = false → LL.length ≤ 60 ∧ tot LL ≤ 2000 ∧ ∀ L ∈ LL,∀ x ∈ L,Lite (f + 1) x):=by
  obtain ⟨spv,capv,rfl,hc1,hc2,hc3,hrow⟩:=id h;refine enter (args:=[.slice spv LL.length capv]) Tryz.func8 rfl Tryz.ntmps8 rfl ?_;refine K.kgo ?_;refine WL.alloc (z:=.int .i64 0) rfl rfl rfl rfl (fun _ => by kernel_rfl) fun pb w2 f2 => ?_;have P2 : VBlk 3 w2 pb [.int .i64 0]:=f2.blk;have epb:=f2.eq;have b2:=f2.below;clear f2;refine K.kgo ?_;refine WL.store (v:=.int .i64 0) rfl rfl rfl rfl rfl rfl (by kernel_rfl) (P2.cell 0 (by simp)) (VBlk.free P2 0) ?_;have P3 : VBlk 3 (w2.setCell ⟨pb,0,none⟩ (.int .i64 0)) pb [.int .i64 0]:=P2.set 0 (.int .i64 0);have b3 : Below w.heap.size w (w2.setCell ⟨pb,0,none⟩ (.int .i64 0)):=((Keep.of_below b2).setCell (fun hk => absurd hk (by show ¬ pb < w.heap.size;omega)) _).below;generalize w2.setCell ⟨pb,0,none⟩ (.int .i64 0) = w3 at P3 b3 ⊢;clear P2 b2;have setP : ∀ {wx : World} {n n' : Nat},VBlk 3 wx pb [.int .i64 n] → Below w.heap.size w wx → VBlk 3 (wx.setCell ⟨pb,0,none⟩ (.int .i64 n')) pb [.int .i64 n'] ∧ Below w.heap.size w (wx.setCell ⟨pb,0,none⟩ (.int .i64 n')):=fun hp hb => ⟨hp.set 0 _,((Keep.of_below hb).setCell (fun hk => absurd hk (by show ¬ pb < w.heap.size;omega)) _).below⟩;refine K.kgo ?_;refine WC.loop (fun i : Nat => [(0,.slice spv LL.length capv),(3,.pointer (some ⟨pb,0,none⟩)),(4,.int .i64 i)])
    (fun i wx => i ≤ LL.length ∧ Below w.heap.size w wx ∧ (∃ n : Nat,n ≤ 2000 ∧ i + tot (LL.take i) ≤ n ∧ VBlk 3 wx pb [.int .i64 n]) ∧ ∀ L ∈ LL.take i,∀ x ∈ L,Lite (f + 1) x) (fun i => LL.length - i) 0 ⟨rfl,rfl,rfl,trivial⟩
    ⟨Nat.zero_le _,b3,⟨0,by omega,by simp [tot],P3⟩,by simp⟩ ?_
  clear P3 b3;rintro i wr ⟨hi,br,⟨n,hn,hin,P⟩,hall⟩
  by_cases hik : i < LL.length
  case neg =>
    obtain rfl : i = LL.length:=by omega
    refine K.kgo ?_;rw [List.take_length] at hall hin;refine WQ.ret1 rfl rfl ⟨br,_,rfl,fun hb => ?_⟩;have : ¬ (60 : Int) < (LL.length : Int):=of_decide_eq_false hb;exact ⟨by omega,by omega,hall⟩
  case pos =>
  obtain ⟨b,o,rfl,hb,hOb,hcells⟩:=hrow (by omega);obtain ⟨cs,-,⟨u,rfl,hu⟩,hat⟩:=hcells i hik;have hts:=tot_snoc LL hik;have htk : LL.take (i + 1) = LL.take i ++ [LL.getD i []]:=by rw [List.take_add_one,List.getElem?_eq_getElem hik,List.getD_eq_getElem?_getD,List.getElem?_eq_getElem hik];rfl
  generalize LL.getD i [] = L at hu hts htk;obtain ⟨spu,capu,rfl,hd1,hd2,hd3,hrow2⟩:=id hu;have hcu : ∀ {wx : World},Below w.heap.size w wx → wx.cell? ⟨b,o + i * 1,none⟩ = some (.slice spu L.length capu):=fun hx => (hx.cell (p:=⟨b,o + i * 1,none⟩) hb).trans (hat 0 _ rfl);have cp:=P.cell 0 (by simp);simp only [List.getD_cons_zero] at cp;refine K.kgl ?_;refine WL.store (v:=.int .i64 ((n + 1 : Nat) : Int)) rfl rfl rfl rfl rfl rfl (by kernel_rfl) cp (VBlk.free P 0) ?_;obtain ⟨P4,b4⟩:=setP (n':=n + 1) P br;generalize wr.setCell ⟨pb,0,none⟩ (.int .i64 ((n + 1 : Nat) : Int)) = w4 at P4 b4 ⊢;clear P br cp;refine K.kgo ?_;refine WC.loop (fun k : Nat => [(0,.slice (some ⟨b,o,none⟩) LL.length capv),(3,.pointer (some ⟨pb,0,none⟩)),(4,.int .i64 i),(5,.int .i64 k)])
    (fun k wx => k ≤ L.length ∧ Below w.heap.size w wx ∧ (∃ m : Nat,m ≤ 2001 ∧ i + 1 + tot (LL.take i) + k ≤ m ∧ VBlk 3 wx pb [.int .i64 m]) ∧ ∀ x ∈ L.take k,Lite (f + 1) x) (fun k => L.length - k) 0 ⟨rfl,rfl,rfl,rfl,trivial⟩
    ⟨Nat.zero_le _,b4,⟨n + 1,by omega,by omega,P4⟩,by simp⟩ ?_
  clear P4 b4 hin hn;rintro k wl ⟨hk,bl,⟨m,hm,hkm,P⟩,hx⟩;have cu:=hcu bl;have cp:=P.cell 0 (by simp);simp only [List.getD_cons_zero] at cp;refine K.kgl ?_;refine WL.idx i (o + i * 1) rfl rfl rfl rfl rfl rfl rfl rfl hik rfl ?_
  by_cases hkl : k < L.length
  case neg =>
    obtain rfl : k = L.length:=by omega
    rw [List.take_length] at hx
    by_cases hm2 : m ≤ 2000
    case neg =>
      refine K.kgl ?_;exact WQ.ret1 rfl rfl ⟨bl,true,rfl,fun h => by cases h⟩
    case pos =>
      refine K.kgl ?_;refine WQ.again (i + 1) ⟨rfl,rfl,rfl,trivial⟩ ⟨hik,bl,⟨m,hm2,by omega,P⟩,fun L' hL' => ?_⟩ (by omega);rw [htk] at hL';rcases List.mem_append.1 hL' with q | q
      · exact hall L' q
      · rw [List.mem_singleton.1 q];exact hx
  case pos =>
  obtain ⟨b2,o2,rfl,hb2,hOb2,hcells2⟩:=hrow2 (by omega);obtain ⟨ac,hacl,⟨⟨dc,ec,rfl,hdv,hep,hok⟩,hsd,hse⟩,hat2⟩:=hcells2 k hkl;have htk2 : L.take (k + 1) = L.take k ++ [L.getD k noAc]:=by rw [List.take_add_one,List.getElem?_eq_getElem hkl,List.getD_eq_getElem?_getD,List.getElem?_eq_getElem hkl];rfl
  generalize L.getD k noAc = x at hdv hep hok hsd hse hat2 htk2;have hdl:=hdv.len;obtain ⟨dc2,rfl,hev,hedl,-,-,-,htx,-⟩:=id hep;have hat3 : ∀ {wx : World},Below w.heap.size w wx → wx.rangeAt b2 (o2 + k * 57) (acC x dc (enC x.e dc2)):=fun hx j q hj => (hx.cell (p:=⟨b2,o2 + k * 57 + j,none⟩) hb2).trans (hat2 j q hj);have cf : ∀ {wx : World},Below w.heap.size w wx → wx.cell? ⟨b2,o2 + k * 57 + 10,none⟩ = some (.string x.field):=fun hx => ac_field (hat3 hx) hdl;have ct : ∀ {wx : World},Below w.heap.size w wx → wx.cell? ⟨b2,o2 + k * 57 + 11 + 1,none⟩ = some (.string x.e.text):=fun hx => ac_e (hat3 hx) hdl 1 _ rfl;have hfz:=hok.field;refine K.kgl ?_;refine WC.drawn 25 (fun wx => Below wl.heap.size wl wx) fun wa hdr => ?_;have hS : Below wl.heap.size wl wa:=hdr.below _;clear hdr;have lpb:=VBlk.lt P;have zl:=bl.size;have bx : ∀ {wx : World},Below wl.heap.size wl wx → Below w.heap.size w wx:=fun hx => bl.trans (hx.mono zl);refine K.wl 0 [1,12,24,25] rfl rfl rfl rfl rfl rfl rfl (fun wx hx => (hx.cell (p:=⟨pb,0,none⟩) lpb).trans cp) hS ?_;refine K.fr [1,2,3] hS ?_;refine K.wi 4 i (o + i * 1) rfl rfl rfl rfl rfl rfl rfl rfl rfl hik rfl (.inr hS) ?_;refine K.wl 5 [7,8,9,10,11,12,24,25] rfl rfl rfl rfl rfl rfl rfl (fun wx hx => hcu (bx hx)) hS ?_;refine K.fr [6] hS ?_;refine K.wi 7 k (o2 + k * 57) rfl rfl rfl rfl rfl rfl rfl rfl rfl hkl rfl (.inr hS) ?_;refine K.fr [8] hS ?_;refine K.wl 9 [10,11,12,24,25] rfl rfl rfl rfl rfl rfl rfl (fun wx hx => cf (bx hx)) hS ?_;refine K.fr [10] hS ?_;refine WD.freeAs 11 (.int .i64 ((x.field.size / 10 : Nat) : Int)) rfl (by kernel_rfl) rfl rfl (fun _ _ _ _ _ h => h) rfl rfl (congrArg (Value.int .i64) (tdiv10 hfz)) (.inr hS) ?_;refine K.fr [12,13,14] hS ?_;refine K.wi 15 i (o + i * 1) rfl rfl rfl rfl rfl rfl rfl rfl rfl hik rfl (.inr hS) ?_;refine K.wl 16 [18,19,20,21,22,23,24,25] rfl rfl rfl rfl rfl rfl rfl (fun wx hx => hcu (bx hx)) hS ?_;refine K.fr [17] hS ?_;refine K.wi 18 k (o2 + k * 57) rfl rfl rfl rfl rfl rfl rfl rfl rfl hkl rfl (.inr hS) ?_;refine K.fr [19,20] hS ?_;refine K.wl 21 [22,23,24,25] rfl rfl rfl rfl rfl rfl rfl (fun wx hx => ct (bx hx)) hS ?_;refine K.fr [22] hS ?_;refine WD.freeAs 23 (.int .i64 ((x.e.text.size / 10 : Nat) : Int)) rfl (by kernel_rfl) rfl rfl (fun _ _ _ _ _ h => h) rfl rfl (congrArg (Value.int .i64) (tdiv10 htx)) (.inr hS) ?_;refine K.fr [24] hS ?_;refine K.wo 25 ?_;have e2 : (m : Int) + 1 + ((x.field.size / 10 : Nat) : Int) + ((x.e.text.size / 10 : Nat) : Int) = ((m + 1 + x.field.size / 10 + x.e.text.size / 10 : Nat) : Int):=by omega
  have hm1 : m + 1 + x.field.size / 10 + x.e.text.size / 10 ≤ 140737488355328:=by omega
  have hm2 : i + 1 + tot (LL.take i) + (k + 1) ≤ m + 1 + x.field.size / 10 + x.e.text.size / 10:=by omega
  generalize m + 1 + x.field.size / 10 + x.e.text.size / 10 = n1 at e2 hm1 hm2;have Pa:=VBlk.below P hS lpb;refine WL.store (v:=.int .i64 (n1 : Int)) rfl rfl rfl rfl (congrArg (fun z => some (Value.int .i64 z)) e2) rfl (by kernel_rfl) (Pa.cell 0 (by simp)) (VBlk.free Pa 0) ?_;obtain ⟨P5,b5⟩:=setP (n':=n1) Pa (bx hS);generalize wa.setCell ⟨pb,0,none⟩ (.int .i64 (n1 : Int)) = w5 at P5 b5 ⊢;clear hS Pa bx cp cu;refine K.dl ?_;refine WD.done (by kernel_rfl) ?_;have cu5:=hcu b5;refine K.kgo ?_;refine WL.idx i (o + i * 1) rfl rfl rfl rfl rfl rfl rfl rfl hik rfl ?_;refine K.kgl ?_;refine WL.idx k (o2 + k * 57) rfl rfl rfl rfl rfl rfl rfl rfl hkl rfl ?_;refine K.kgo ?_;refine WL.loadMid rfl rfl rfl rfl rfl rfl (ac_data (hat3 b5)) hdl ?_;refine WL.call rfl rfl rfl rfl rfl Tryz.func26 rfl (by kernel_rfl) (great_any (f + 1) hdv.isV hsd b5 (by omega) P5 hm1) ?_;rintro _ w6 ⟨rfl,P6,k6⟩;refine ⟨_,rfl,?_⟩;have b6 : Below w.heap.size w w6:=((Keep.of_below b5).trans (k6.mono fun y (hy : y < w.heap.size) => ⟨by have:=b5.size;omega,by omega⟩)).below
  by_cases hg1 : 2000 < grt 2000 (f + 1) x.data n1
  case pos =>
    rw [decide_eq_true hg1];refine K.kgo ?_;exact WQ.ret1 rfl rfl ⟨b6,true,rfl,fun h => by cases h⟩
  case neg =>
  obtain ⟨l1,l2⟩:=grt_lite hsd hg1;have hgl:=(grt_sm (B:=2000) (f + 1) x.data n1 hsd (by omega)).1;rw [decide_eq_false hg1];have cu6:=hcu b6;generalize grt 2000 (f + 1) x.data n1 = n2 at P6 hg1 hgl;refine K.kgo ?_;refine WL.idx i (o + i * 1) rfl rfl rfl rfl rfl rfl rfl rfl hik rfl ?_;refine K.kgl ?_;refine WL.idx k (o2 + k * 57) rfl rfl rfl rfl rfl rfl rfl rfl hkl rfl ?_;refine K.kgo ?_;refine WL.loadMid rfl rfl rfl rfl rfl rfl (en_data (ac_e (hat3 b6) hdl)) hedl ?_;refine WL.on rfl rfl ?_;refine WL.call rfl rfl rfl rfl rfl Tryz.func26 rfl (by kernel_rfl) (great_any (f + 1) hev.isV hse b6 (by omega) P6 (by omega)) ?_;rintro _ w7 ⟨rfl,P7,k7⟩;refine ⟨_,rfl,?_⟩;have b7 : Below w.heap.size w w7:=((Keep.of_below b6).trans (k7.mono fun y (hy : y < w.heap.size) => ⟨by have:=b6.size;omega,by omega⟩)).below
  by_cases hg2 : 2000 < grt 2000 (f + 1) x.e.data n2
  case pos =>
    rw [decide_eq_true hg2];refine K.kgo ?_;exact WQ.ret1 rfl rfl ⟨b7,true,rfl,fun h => by cases h⟩
  case neg =>
  obtain ⟨l3,l4⟩:=grt_lite hse hg2;have hgl2:=(grt_sm (B:=2000) (f + 1) x.e.data n2 hse (by omega)).1;rw [decide_eq_false hg2];generalize grt 2000 (f + 1) x.e.data n2 = n3 at P7 hg2 hgl2;refine K.kgo ?_;refine WQ.again (k + 1) ⟨rfl,rfl,rfl,rfl,trivial⟩ ⟨hkl,b7,⟨n3,by omega,by omega,P7⟩,fun y hy => ?_⟩ (by omega);rw [htk2] at hy;rcases List.mem_append.1 hy with q | q
  · exact hx y q
  · rw [List.mem_singleton.1 q];exact ⟨l1,l3,l2,l4⟩
end Vw
namespace Vw
open K (En Bk zV formE hashR noE chkE chkB layB encR nilE)
def oneV : V:=.mk 3 1 0 noT [] []
def kA1 : Ac:=⟨4,0,0,0,zV,⟨#[116]⟩,noE⟩
def kA2 : Ac:=⟨0,1,0,0,oneV,⟨#[]⟩,noE⟩
def kA3 : Ac:=⟨1,1,1,0,oneV,⟨#[]⟩,noE⟩
def kL : List Ac:=[kA1,kA2,kA3]
def kE1 : En:={ noE with kind:=5,table:=1,text:=⟨#[116]⟩ }
def kE2 : En:={ noE with kind:=2,table:=1,doc:=1,data:=oneV,hash:=hashR oneV }
def kE3 : En:={ noE with kind:=2,table:=1,doc:=1,ver:=1,data:=oneV,hash:=hashR oneV }
def kB : Bk:=⟨0,0,0,Dig.Z32,[kE1,kE2,kE3]⟩
def kS1 : St:={ st0 with cat:=[⟨⟨#[116]⟩,false,[]⟩] }
def kR0 : Rw:=rowOf kE2 0 1 0
def kR1 : Rw:=rowOf kE3 0 2 0
def kS2 : St:={ kS1 with rows:=[kR0] }
def kS3 : St:={ kS1 with rows:=[kR0,kR1] }
def kS4 : St:={ kS3 with n:=1 }
theorem k_a1 : actE st0 kA1 = kE1:=by
  unfold actE;rw [if_neg (by decide),if_neg (by decide),if_neg (by decide),if_neg (by decide),if_pos (show kA1.kind = 4 from rfl)]
  rfl
theorem k_e1 : entR st0 kE1 0 0 0 = (0,kS1):=by
  have hc : Cat.appC st0.cat kE1.kind kE1.text kE1.table = 0:=by decide
  have hl : Cat.appL st0.cat kE1.kind kE1.text kE1.table = [⟨⟨#[116]⟩,false,[]⟩]:=by unfold Cat.appL;rw [if_pos hc];rfl
  unfold entR;rw [if_neg (by rw [hc];decide),if_neg (by decide),if_neg (by decide),hl]
  rfl
theorem k_a2 : actE kS1 kA2 = kE2:=by
  unfold actE;rw [if_pos (show kA2.kind = 0 from rfl)]
  rfl
theorem k_e2 : entR kS1 kE2 0 1 0 = (0,kS2):=by
  unfold entR;rw [if_neg (show ¬ Cat.appC kS1.cat kE2.kind kE2.text kE2.table ≠ 0 by decide),if_pos (show kE2.kind = 2 ∨ kE2.kind = 3 from .inl rfl),if_neg (show ¬ ((Cat.tabR kS1.cat kE2.table).2.2 ≠ 0 ∨ (Cat.tabR kS1.cat kE2.table).2.1.dropped = true ∨ fits kS1 kE2 = false) by decide)]
  rfl
theorem k_a3 : actE kS2 kA3 = kE3:=by
  unfold actE;rw [if_neg (by decide),if_pos (show kA3.kind = 1 from rfl)]
  rfl
theorem k_e3 : entR kS2 kE3 0 2 0 = (0,kS3):=by
  unfold entR;rw [if_neg (show ¬ Cat.appC kS2.cat kE3.kind kE3.text kE3.table ≠ 0 by decide),if_pos (show kE3.kind = 2 ∨ kE3.kind = 3 from .inl rfl),if_neg (show ¬ ((Cat.tabR kS2.cat kE3.table).2.2 ≠ 0 ∨ (Cat.tabR kS2.cat kE3.table).2.1.dropped = true ∨ fits kS2 kE3 = false) by decide)]
  rfl
theorem k_made : madeR st0 kL = kB:=by
  have e1:=k_e1;have e2:=k_e2;unfold madeR
  show (⟨0,7 * ((0 : Nat) : Int),0,Dig.Z32,(actsR 0 [kA1,kA2,kA3] 0 st0).1⟩ : Bk) = kB
  unfold actsR actsR actsR actsR;simp only [k_a1,Int.natCast_zero,Int.mul_zero,Nat.zero_add];have h1 : (entR st0 kE1 ((0 : Nat) : Int) ((0 : Nat) : Int) (7 * ((0 : Nat) : Int))).2 = kS1:=congrArg Prod.snd k_e1;have h2 : (entR kS1 kE2 ((0 : Nat) : Int) ((1 : Nat) : Int) (7 * ((0 : Nat) : Int))).2 = kS2:=congrArg Prod.snd k_e2;simp only [Int.natCast_zero,Int.mul_zero] at h1 h2;rw [h1,k_a2,h2,k_a3]
  rfl
theorem k_run : runR kB kB.ents 0 st0 = (0,kS3):=by
  show runR kB [kE1,kE2,kE3] 0 st0 = _
  have h1 : entR st0 kE1 kB.index ((0 : Nat) : Int) kB.time = (0,kS1):=k_e1;have h2 : entR kS1 kE2 kB.index ((0 + 1 : Nat) : Int) kB.time = (0,kS2):=k_e2;have h3 : entR kS2 kE3 kB.index ((0 + 1 + 1 : Nat) : Int) kB.time = (0,kS3):=k_e3;unfold runR;rw [h1,if_pos rfl];unfold runR;rw [h2,if_pos rfl];unfold runR;rw [h3,if_pos rfl]
  rfl
theorem k_form1 : formE kE1:=by
  unfold formE;rw [if_neg (by decide),if_neg (by decide),if_neg (by decide),if_neg (by decide),if_pos (.inl rfl)];exact ⟨by decide,by decide,by decide,by decide,rfl,rfl,rfl,rfl,rfl,rfl,rfl,rfl⟩
theorem k_form2 : formE kE2:=by
  unfold formE;rw [if_neg (by decide),if_pos (show kE2.kind = 2 from rfl)];exact ⟨by decide,by decide,by decide,⟨by decide,rfl,rfl,rfl,rfl,rfl,rfl,rfl,rfl⟩,fun h => by cases h⟩
theorem k_form3 : formE kE3:=by
  unfold formE;rw [if_neg (by decide),if_pos (show kE3.kind = 2 from rfl)];exact ⟨by decide,by decide,by decide,⟨by decide,rfl,rfl,rfl,rfl,rfl,rfl,rfl,rfl⟩,fun h => by cases h⟩
theorem k_enc : (encR oneV).2 = 0:=by decide
theorem k_chk : chkB kB = 0:=by
  have h1 : chkE kE1 = 0:=by unfold chkE;rw [if_pos k_form1,if_pos (.inl (by decide))]
  have h2 : chkE kE2 = 0:=by unfold chkE;rw [if_pos k_form2,if_neg (by decide),if_neg (show ¬ (encR kE2.data).2 ≠ 0 from fun h => h k_enc),if_pos (show hashR kE2.data = kE2.hash from rfl)]
  have h3 : chkE kE3 = 0:=by unfold chkE;rw [if_pos k_form3,if_neg (by decide),if_neg (show ¬ (encR kE3.data).2 ≠ 0 from fun h => h k_enc),if_pos (show hashR kE3.data = kE3.hash from rfl)]
  have hl : ¬ 262144 < (layB true kB).length:=by decide +kernel
  unfold chkB;rw [if_pos (by decide),if_neg (by simp [kB,firstBad,h1,h2,h3]),if_neg hl]
theorem k_app : appR st0 kB = (0,kS4):=by
  unfold appR;rw [if_neg (show ¬ kB.index ≠ (st0.n : Int) from fun h => h rfl),if_neg (fun h => h k_chk),k_run,if_pos rfl]
  rfl
theorem k_docs : (docsR kS4 1).length = 1:=by decide
theorem k_hist : (histR kS4 1).length = 2:=by decide
end Vw
namespace Vw
open K
set_option maxRecDepth 100000
theorem IsBo.there {E : Nat → Prop} {f : Nat} {w : World} {b : Bk} {bc : List Value} (hb : IsBo E f w b bc) : IsBo (fun x => E x ∧ x < w.heap.size) f w b bc:=by
  obtain ⟨se,q1,q2,q3⟩:=hb;exact ⟨se,q1,q2.there fun _ _ hp => EnP.mono (fun _ _ hv => hv.there) hp,q3⟩
theorem actsR_all {P : En → Prop} (n : Nat) : ∀ (L : List Ac) (k : Nat) (s : St),(∀ s x,x ∈ L → P (actE s x)) → ∀ e ∈ (actsR n L k s).1,P e
  | [],_,_,_,e,he => by cases he
  | x :: r,k,s,h,e,he => by
    unfold actsR at he;rcases List.mem_cons.1 he with q | q
    · rw [q];exact h s x (List.mem_cons_self ..)
    · exact actsR_all n r _ _ (fun s y hy => h s y (List.mem_cons_of_mem _ hy)) e q
theorem madeR_sm {f : Nat} {s : St} {L : List Ac} (h : ∀ x ∈ L,Lite (f + 1) x) (hl : L.length ≤ 2000) : BkSm (f + 1) (madeR s L):=by
  have hlen : (madeR s L).ents.length = L.length:=actsR_len _ _ _ _;refine ⟨by omega,fun k hk => ?_,fun e he => ?_⟩
  · rw [getD_lt hk]
    exact actsR_all (P:=fun e => Sm 3000 (f + 1) e.data) s.n L 0 s (fun s x hx => actE_sm s (h x hx)) _ (List.getElem_mem hk)
  · exact actsR_all (P:=fun e => chk 16 e.data = 0 → (encV 16 e.data).length ≤ 70368744177664) s.n L 0 s (fun s x hx => actE_len s (h x hx)) e he
structure Duo (B : Nat) (w : World) (vb rb : Nat) (M D M' D' : Nat → Prop) (f : Nat) (s1 s2 : St) (N : Nat) : Prop where
  p : PVs w vb M D (f + 1) s1 N
  r : RVs w rb M' D' (f + 1) s2 N
  a1 : ∀ x,M x → B ≤ x ∧ ¬ M' x ∧ ¬ D' x
  a2 : ∀ x,M' x → B ≤ x ∧ ¬ D x
section
variable {B : Nat} {w w' : World} {vb rb : Nat} {M D M' D' : Nat → Prop} {f : Nat} {s1 s2 : St} {N : Nat}
theorem Duo.below (h : Duo B w vb rb M D M' D' f s1 s2 N) (hb : Below w.heap.size w w') : Duo B w' vb rb M D M' D' f s1 s2 N:=⟨h.p.below hb,h.r.below hb,h.a1,h.a2⟩
theorem Duo.pres (h : Duo B w vb rb M D M' D' f s1 s2 N) {c : Int} {s' : St} {N' : Nat} {e : Ending} (hp : PRes w vb M D (f + 1) c s' N' e w') (hN : N ≤ N') (hN' : N' ≤ 1000000) (hB : B ≤ w.heap.size) :
    e = .returned (.int .i64 c) ∧ Keep (fun b => b < w.heap.size ∧ ¬ M b) w w' ∧ ∃ M1 D1,Duo B w' vb rb M1 D1 M' D' f s' s2 N':=by
  obtain ⟨M1,D1,rfl,h1,k1,m1,d1⟩:=hp;have hl:=h.r.lt;refine ⟨rfl,k1,M1,D1,h1,(h.r.keep k1 fun b hb => ⟨hl b hb,fun hm => hb.elim (h.a1 b hm).2.1 (h.a1 b hm).2.2⟩).mono hN hN',fun x hx => ?_,fun x hx => ⟨(h.a2 x hx).1,fun hd => ?_⟩⟩
  · rcases m1 x hx with q | q
    · exact h.a1 x q
    · exact ⟨by omega,fun hh => by have:=hl x (.inl hh);omega,fun hh => by have:=hl x (.inr hh);omega⟩
  · rcases d1 x hd with q | q
    · exact (h.a2 x hx).2 q
    · have:=hl x (.inl hx);omega
theorem Duo.rres (h : Duo B w vb rb M D M' D' f s1 s2 N) {c : Int} {s' : St} {N' N'' : Nat} {e : Ending} (hp : RPost w rb M' D' (f + 1) c s' N' e w') (hN : N ≤ N'') (hN1 : N' ≤ N'') (hN' : N'' ≤ 1000000) (hB : B ≤ w.heap.size) :
    e = .returned (.int .i64 c) ∧ Keep (fun b => b < w.heap.size ∧ ¬ M' b) w w' ∧ ∃ M1 D1,Duo B w' vb rb M D M1 D1 f s1 s' N'':=by
  obtain ⟨M1,D1,rfl,h1,k1,m1,d1⟩:=hp;have hl:=h.p.lt;refine ⟨rfl,k1,M1,D1,(h.p.keep k1 fun b hb => ⟨hl b hb,fun hm => hb.elim (fun q => (h.a1 b q).2.1 hm) (h.a2 b hm).2⟩).mono hN hN',h1.mono hN1 hN',fun x hx => ⟨(h.a1 x hx).1,fun hm => ?_,fun hd => ?_⟩,fun x hx => ?_⟩
  · rcases m1 x hm with q | q
    · exact (h.a1 x hx).2.1 q
    · have:=hl x (.inl hx);omega
  · rcases d1 x hd with q | q
    · exact (h.a1 x hx).2.2 q
    · have:=hl x (.inl hx);omega
  · rcases m1 x hx with q | q
    · exact h.a2 x q
    · exact ⟨by omega,fun hh => by have:=hl x (.inr hh);omega⟩
end
def ovC : List Value:=[.int .i64 3,.int .i64 1,.int .i64 0,.string ⟨#[]⟩,.slice none 0 0,.slice none 0 0]
theorem ov_is (O : Nat → Prop) (f : Nat) (w : World) : IsVo O (f + 1) w oneV ovC:=isVo_leaf (k:=3) (n:=1) (s:=0) (t:=noT) (by omega) (by omega) (by omega) (by decide)
theorem builtOv : Tryz.prog.built 48 [(0,.int .i64 3),(1,.int .i64 1)] = some ovC.toArray:=by kernel_rfl
theorem builtA1 : Tryz.prog.built acT [(0,.int .i64 4),(5,.string ⟨#[116]⟩)] = some (acC kA1 zCells (enC noE zCells)).toArray:=by kernel_rfl
theorem builtA2 : Tryz.prog.built acT [(0,.int .i64 0),(1,.int .i64 1),(4,.agg ovC.toArray)] = some (acC kA2 ovC (enC noE zCells)).toArray:=by kernel_rfl
theorem builtA3 : Tryz.prog.built acT [(0,.int .i64 1),(1,.int .i64 1),(2,.int .i64 1),(4,.agg ovC.toArray)] = some (acC kA3 ovC (enC noE zCells)).toArray:=by kernel_rfl
def kCs : List Value:=acC kA1 zCells (enC noE zCells) ++ (acC kA2 ovC (enC noE zCells) ++ acC kA3 ovC (enC noE zCells))
theorem litK : litCells Tryz.prog acT 3 [(0,.agg (acC kA1 zCells (enC noE zCells)).toArray),(1,.agg (acC kA2 ovC (enC noE zCells)).toArray),(2,.agg (acC kA3 ovC (enC noE zCells)).toArray)] = some kCs.toArray:=by kernel_rfl
theorem zSml (f : Nat) : Sml (f + 1) zV:=⟨by show (0 : Nat) ≤ _;omega,by show (0 : Nat) ≤ _;omega,fun x hx => by cases hx⟩
theorem oSml (f : Nat) : Sml (f + 1) oneV:=⟨by show (0 : Nat) ≤ _;omega,by show (0 : Nat) ≤ _;omega,fun x hx => by cases hx⟩
theorem oSm (f : Nat) : Sm 3000 (f + 1) oneV:=⟨by show (0 : Nat) ≤ 3000;omega,by show (0 : Nat) ≤ 3000;omega,fun x hx => by cases hx⟩
theorem zLen : (encV 16 zV).length ≤ 70368744177664:=by
  have : (encV 16 zV).length ≤ 65536:=by decide
  omega
theorem oLen : (encV 16 oneV).length ≤ 70368744177664:=by
  have : (encV 16 oneV).length ≤ 65536:=by decide
  omega
theorem kLite (f : Nat) : ∀ x ∈ kL,Lite (f + 1) x:=by
  intro x hx;simp only [kL,List.mem_cons,List.not_mem_nil,or_false] at hx;rcases hx with rfl | rfl | rfl
  · exact ⟨zSm f,zSm f,fun _ => zLen,fun _ => zLen⟩
  · exact ⟨oSm f,zSm f,fun _ => oLen,fun _ => zLen⟩
  · exact ⟨oSm f,zSm f,fun _ => oLen,fun _ => zLen⟩
theorem noE_is (O : Nat → Prop) (f : Nat) (w : World) : IsEo O (f + 1) w noE (enC noE zCells):=enZ rfl rfl noTs ⟨by show R64 0;omega,by show R64 0;omega,by show R64 0;omega,by show R64 0;omega,by show R64 0;omega,by show R64 0;omega⟩
theorem kActs {w : World} {g : Nat} (h : VBlk acT w g kCs) : IsActs (fun b => b = g) 1 w (.slice (some ⟨g,0,none⟩) 3 3) kL:=by
  have hr:=VBlk.rangeAt h;have r1 : w.rangeAt g (0 + 0) (acC kA1 zCells (enC noE zCells)):=range_part (a:=[]) (m:=acC kA1 zCells (enC noE zCells)) (z:=acC kA2 ovC (enC noE zCells) ++ acC kA3 ovC (enC noE zCells)) hr;have r2 : w.rangeAt g (0 + 57) (acC kA2 ovC (enC noE zCells)):=range_part (a:=acC kA1 zCells (enC noE zCells)) (m:=acC kA2 ovC (enC noE zCells)) (z:=acC kA3 ovC (enC noE zCells)) hr;have r3 : w.rangeAt g (0 + 114) (acC kA3 ovC (enC noE zCells)):=range_part (a:=acC kA1 zCells (enC noE zCells) ++ acC kA2 ovC (enC noE zCells)) (m:=acC kA3 ovC (enC noE zCells)) (z:=[]) (by rw [List.append_nil,List.append_assoc];exact hr);have hz : ∀ x : Int,x = 0 ∨ x = 1 ∨ x = 4 → R64 x:=fun x hx => by omega
  refine ⟨some ⟨g,0,none⟩,3,rfl,by show 3 ≤ 3;omega,by omega,(fun h => by cases h),fun _ => ⟨g,0,rfl,h.lt,rfl,fun j hj => ?_⟩⟩;have hj3 : j < 3:=hj
  match j,hj3 with
  | 0,_ => exact ⟨_,rfl,⟨⟨zCells,_,rfl,zV_is _ _ _,noE_is _ _ _,⟨hz _ (.inr (.inr rfl)),hz _ (.inl rfl),hz _ (.inl rfl),hz _ (.inl rfl),by decide⟩⟩,zSml _,zSml _⟩,r1⟩
  | 1,_ => exact ⟨_,rfl,⟨⟨ovC,_,rfl,ov_is _ _ _,noE_is _ _ _,⟨hz _ (.inl rfl),hz _ (.inr (.inl rfl)),hz _ (.inl rfl),hz _ (.inl rfl),by decide⟩⟩,oSml _,zSml _⟩,r2⟩
  | 2,_ => exact ⟨_,rfl,⟨⟨ovC,_,rfl,ov_is _ _ _,noE_is _ _ _,⟨hz _ (.inr (.inl rfl)),hz _ (.inr (.inl rfl)),hz _ (.inr (.inl rfl)),hz _ (.inl rfl),by decide⟩⟩,oSml _,zSml _⟩,r3⟩
set_option maxHeartbeats 16000000 in
theorem known_any {w : World} : Calls Tryz.prog 9 #[] w fun r w' => r = .returned (.bool true) ∧ Below w.heap.size w w':=by
  refine enter (args:=[]) Tryz.func9 rfl Tryz.ntmps9 rfl ?_;refine K.kgo ?_;refine WL.call rfl rfl rfl rfl rfl Tryz.func10 rfl (by kernel_rfl) (pnew_any (f:=0 + 1)) ?_;rintro _ w1 ⟨vb,M1,rfl,hp1,b1,m1⟩;refine ⟨_,rfl,?_⟩;refine K.kgo ?_;refine WL.call rfl rfl rfl rfl rfl Tryz.func11 rfl (by kernel_rfl) (rnew_any (f:=0 + 1)) ?_;rintro _ w2 ⟨rb,M2,rfl,hr2,b2,m2⟩;refine ⟨_,rfl,?_⟩;have hlt1:=hp1.lt;have h2 : Duo w.heap.size w2 vb rb M1 (fun _ => False) M2 (fun _ => False) 0 st0 st0 0:=⟨hp1.below b2,hr2,fun x hx => ⟨m1 x hx,fun hh => by have:=m2 x hh;have:=hlt1 x (.inl hx);omega,fun hh => hh⟩,fun x hx => ⟨by have:=m2 x hx;have:=b1.size;omega,fun hh => hh⟩⟩;have c2:=b1.trans (b2.mono b1.size);clear hp1 hr2 hlt1 m1 m2 b1 b2;refine K.kgo ?_;refine WL.build ovC rfl rfl rfl rfl rfl builtOv ?_;refine WL.alloc (z:=.agg zCells.toArray) rfl rfl rfl rfl (fun _ => by kernel_rfl) fun g3 w3 f3 => ?_;refine WL.storeRow rfl rfl rfl rfl rfl rfl f3.blk rfl rfl (ov_is (fun _ => True) 0 w).one ?_;obtain ⟨v3,b3,-,-⟩:=rowed ovC (Below.refl w2.heap.size w2) f3;generalize w3.setRow g3 _ = w4 at v3 b3 ⊢;clear f3;have h4:=h2.below b3;have c4:=c2.trans (b3.mono c2.size);clear h2 b3 c2;refine K.kgo ?_;refine WL.build (acC kA1 zCells (enC noE zCells)) rfl rfl rfl rfl rfl builtA1 ?_;refine WL.loadMid rfl rfl rfl rfl rfl rfl (VBlk.rangeAt v3) rfl ?_;refine WL.build (acC kA2 ovC (enC noE zCells)) rfl rfl rfl rfl rfl builtA2 ?_;refine WL.loadMid rfl rfl rfl rfl rfl rfl (VBlk.rangeAt v3) rfl ?_;refine WL.build (acC kA3 ovC (enC noE zCells)) rfl rfl rfl rfl rfl builtA3 ?_;refine WL.litV kCs rfl rfl rfl rfl rfl rfl litK fun g5 w5 f5 => ?_;have hA:=kActs f5.blk;have lg5:=VBlk.lt f5.blk;have eg5:=f5.eq;have lm4:=h4.p.lt;have lr4:=h4.r.lt;have h5:=h4.below f5.below;have c5:=c4.trans (f5.below.mono c4.size);clear h4 c4 f5 v3;refine WL.call rfl rfl rfl rfl rfl Tryz.func12 rfl (by kernel_rfl) (made_any h5.r (copyRed_nil _) (fun x h => by rw [h];exact lg5) hA (kLite 0) (by decide)) ?_;rintro _ w6 ⟨b6,bc,rfl,hb6⟩;refine ⟨_,rfl,?_⟩;rw [k_made] at hb6;have hbl:=hb6.len;have h6:=h5.below b6;have hm5:=h5.p.lt;have hr5:=h5.r.lt;have c6:=c5.trans (b6.mono c5.size);refine WL.alloc (z:=.agg (bkC noB (.slice none 0 0)).toArray) rfl rfl rfl rfl (fun _ => by kernel_rfl) fun g7 w7 f7 => ?_;refine WL.storeRow rfl rfl rfl rfl rfl rfl f7.blk hbl rfl hb6.one ?_;obtain ⟨v7,b7,-,eg7⟩:=rowed bc (Below.refl w6.heap.size w6) f7;generalize w7.setRow g7 _ = w8 at v7 b7 ⊢;clear f7;have l7:=VBlk.lt v7;have h8:=h6.below b7;have hb8:=IsBo.there (IsBo.below hb6 b7);have c8:=c6.trans (b7.mono c6.size);have z6:=b6.size;have z7:=b7.size;have z8:=c8.size;clear h5 h6 hb6 c5 c6;have hsm : BkSm (0 + 1) kB:=by rw [← k_made];exact madeR_sm (kLite 0) (by decide)
  refine K.kgo ?_;refine WL.loadMid rfl rfl rfl rfl rfl rfl (VBlk.rangeAt v7) hbl ?_;refine WL.call rfl rfl rfl rfl rfl Tryz.func13 rfl (by kernel_rfl) (papply_any h8.p inv0 (fun x hx => hx.2) hb8 hsm (by decide)) ?_;rintro _ w9 hp9;obtain ⟨rfl,k9,M3,D3,h9⟩:=h8.pres hp9 (by omega) (by decide) z8;refine ⟨_,rfl,?_⟩;rw [k_app] at h9 ⊢;have z9:=k9.size;have hEM : ∀ x,((x = g5 ∨ w5.heap.size ≤ x) ∧ x < w8.heap.size) → x < w8.heap.size ∧ ¬ M1 x:=fun x hx => ⟨hx.2,fun hm => by
    rcases hx.1 with q | q
    · have:=lm4 x (.inl hm);omega
    · have:=hm5 x (.inl hm);omega⟩
  have hb9:=IsBo.keep hb8 k9 fun x hx _ => hEM x hx;have v9:=v7.keep k9 ⟨l7,fun hm => by have:=hm5 g7 (.inl hm);omega⟩;have c9 : Below w.heap.size w w9:=((Keep.of_below c8).trans (k9.mono fun x (hx : x < w.heap.size) => ⟨by omega,fun hm => by have:=(h8.a1 x hm).1;omega⟩)).below;refine K.kgo ?_;refine WL.loadMid rfl rfl rfl rfl rfl rfl (VBlk.rangeAt v9) hbl ?_;refine WL.on rfl rfl ?_;refine WL.call rfl rfl rfl rfl rfl Tryz.func14 rfl (by kernel_rfl) (rapply15_any h9.r (fun x hx => by omega) hb9 hsm (by decide) (copyRed_nil _)) ?_;rintro _ w10 hp10;obtain ⟨rfl,k10,M4,D4,h10⟩:=h9.rres (N'':=1000) hp10 (by decide) (by decide) (by decide) (by omega);refine ⟨_,rfl,?_⟩;rw [k_app] at h10 ⊢;have z10:=k10.size;have c10 : Below w.heap.size w w10:=((Keep.of_below c9).trans (k10.mono fun x (hx : x < w.heap.size) => ⟨by omega,fun hm => by have:=(h9.a2 x hm).1;omega⟩)).below;have hI : InvN kS4:=by have:=appR_inv inv0 kB;rwa [k_app] at this
  refine K.kgo ?_;refine WL.call rfl rfl rfl rfl rfl Tryz.func15 rfl (by kernel_rfl) (stood_any h10.p h10.r hI.1 (by decide) (by decide)) ?_;rintro _ w11 ⟨b11,rfl⟩;refine ⟨_,rfl,?_⟩;have h11:=h10.below b11;have c11:=c10.trans (b11.mono c10.size);refine K.kgo ?_;refine WL.call rfl rfl rfl rfl rfl Tryz.func22 rfl (by kernel_rfl) (pdocs_any h11.p (t:=1) (by show R64 1;omega)) ?_;rintro _ w12 ⟨b12,v12,rfl,x12⟩;refine ⟨_,rfl,?_⟩;obtain ⟨sp12,cp12,rfl,-⟩:=x12;have h12:=h11.below b12;have c12:=c11.trans (b12.mono c11.size);rw [k_docs];refine K.kgo ?_;refine WL.call rfl rfl rfl rfl rfl Tryz.func18 rfl (by kernel_rfl) (phist_any h12.p (by decide) (t:=1) (by show R64 1;omega)) ?_;rintro _ w13 ⟨b13,v13,rfl,x13⟩;refine ⟨_,rfl,?_⟩;obtain ⟨sp13,cp13,rfl,-⟩:=x13;rw [k_hist];refine K.kgo ?_;exact WQ.ret1 rfl rfl ⟨rfl,c12.trans (b13.mono c12.size)⟩
end Vw
namespace Vw
open K
set_option maxRecDepth 100000
theorem tot_le (LL : List (List Ac)) (i : Nat) : tot (LL.take i) ≤ tot LL:=by
  unfold tot;have : (LL.map List.length).sum = ((LL.take i).map List.length).sum + ((LL.drop i).map List.length).sum:=by rw [← List.sum_append,← List.map_append,List.take_append_drop]
  omega
end Vw
namespace Vw
open K (En Bk zV formE formE_rng)
open Cat (Tb appC appL tabR)
structure Inw (s : St) : Prop where
  full : ∀ t d : Int,1 ≤ d → d ≤ cnt t s.rows → Vw.of s.rows (t,d) ≠ []
  dele : ∀ k,∀ r ∈ ((Vw.of s.rows k).map Rw.del).dropLast,r = false
theorem inw0 : Inw st0:=⟨fun t d h1 h2 => by have h3 : d ≤ ((0 : Nat) : Int):=h2;omega,(fun _ _ h => by cases h)⟩
theorem Inw.snoc {s : St} (h : Inv s) (g : Inw s) {e : En} {bi k tim : Int} (ht : (tabR s.cat e.table).2.2 = 0) (hfit : fits s e = true) : Inw { s with rows:=s.rows ++ [rowOf e bi k tim] }:=by
  have hnx : e.ver = 0 → e.doc = (cnt e.table s.rows : Int) + 1:=fun h0 => by
    unfold fits at hfit;rw [if_pos h0] at hfit;have h1 : e.doc = next s e.table:=by simpa using hfit
    have : next s e.table = (cnt e.table s.rows : Int) + 1:=by unfold next;rw [if_pos ht]
    omega
  refine ⟨fun t d h1 h2 => ?_,fun x r hr => ?_⟩
  · change d ≤ (cnt t (s.rows ++ [rowOf e bi k tim]) : Nat) at h2
    show Vw.of (s.rows ++ [rowOf e bi k tim]) (t,d) ≠ []
    rw [of_snoc];rw [cnt_snoc] at h2
    by_cases hd : d ≤ (cnt t s.rows : Int)
    · exact fun q => g.full t d h1 hd (List.append_eq_nil_iff.1 q).1
    · by_cases hc : (rowOf e bi k tim).tab = t ∧ (rowOf e bi k tim).ver = 0
      · rw [if_pos hc] at h2
        have h3:=hnx hc.2;have h4 : e.table = t:=hc.1;rw [h4] at h3;rw [if_pos (show (rowOf e bi k tim).key = (t,d) from Prod.ext h4 (by show e.doc = d;omega))];simp
      · rw [if_neg hc] at h2
        omega
  · change r ∈ ((Vw.of (s.rows ++ [rowOf e bi k tim]) x).map Rw.del).dropLast at hr
    rw [of_snoc] at hr
    by_cases hx : (rowOf e bi k tim).key = x
    · rw [if_pos hx,List.map_append,List.map_singleton,List.dropLast_concat] at hr
      have hx' : (e.table,e.doc) = x:=hx;subst hx'
      by_cases h0 : e.ver = 0
      · rw [h.none (.inr (by have:=hnx h0;omega))] at hr
        cases hr
      · unfold fits at hfit
        rw [if_neg h0] at hfit;cases hl : (Vw.of s.rows (e.table,e.doc)).getLast? with
        | none => rw [hl] at hfit;simp at hfit
        | some q =>
          rw [hl] at hfit;simp at hfit
          have hs : Vw.of s.rows (e.table,e.doc) = (Vw.of s.rows (e.table,e.doc)).dropLast ++ [q]:=by
            obtain ⟨ys,hys⟩:=List.getLast?_eq_some_iff.1 hl;rw [hys];simp
          have hd:=g.dele (e.table,e.doc);rw [hs,List.map_append,List.mem_append] at hr;rcases hr with hr | hr
          · exact hd r (by rw [← List.map_dropLast];exact hr)
          · simp at hr;rw [hr];exact hfit.1
    · rw [if_neg hx,List.append_nil] at hr
      exact g.dele x r hr
theorem Inw.shut {s : St} (g : Inw s) {i : Nat} (hi : i < s.rows.length) (f : Int × Int → Bool) : Inw { s with rows:=s.rows.set i (shut (s.rows.getD i noR)),red:=f }:=by
  obtain ⟨A,B,e,-,hs⟩:=set_split hi;generalize s.rows.getD i noR = r at e hs;have h1:=g.full;have h2:=g.dele;rw [hs];rw [e] at h1 h2;have hm : ∀ k,(Vw.of (A ++ Vw.shut r :: B) k).map Rw.del = (Vw.of (A ++ r :: B) k).map Rw.del:=fun k => by
    rw [of_split,of_split]
    by_cases q : r.key = k
    · rw [if_pos q,if_pos (show (Vw.shut r).key = k from q)];simp [Vw.shut]
    · rw [if_neg q,if_neg (show ¬ (Vw.shut r).key = k from q)]
  refine ⟨fun t d q1 q2 => ?_,fun k x hx => ?_⟩
  · change d ≤ (cnt t (A ++ Vw.shut r :: B) : Nat) at q2
    show Vw.of (A ++ Vw.shut r :: B) (t,d) ≠ []
    rw [cnt_split] at q2;have:=h1 t d q1 q2;intro q;have:=congrArg List.length (hm (t,d));rw [q,List.length_map,List.length_map] at this;exact h1 t d q1 q2 (List.eq_nil_of_length_eq_zero this.symm)
  · change x ∈ ((Vw.of (A ++ Vw.shut r :: B) k).map Rw.del).dropLast at hx
    rw [hm] at hx;exact h2 k x hx
theorem entR_inw {s : St} (h : Inv s) (g : Inw s) {e : En} {bi k tim : Int} (h0 : (entR s e bi k tim).1 = 0) : Inw (entR s e bi k tim).2:=by
  revert h0
  unfold entR
  split
  · intro _;exact g
  · split
    · rename_i hk
      split
      · intro q;exact absurd q (show ¬ (3 : Int) = 0 by decide)
      · rename_i hc
        intro _;have hc' : (tabR s.cat e.table).2.2 = 0 ∧ fits s e = true:=by
          refine ⟨Decidable.byContradiction fun q => hc (.inl q),?_⟩;cases hq : fits s e with
          | true => rfl
          | false => exact absurd (.inr (.inr hq)) hc
        exact Inw.snoc h g hc'.1 hc'.2
    · split
      · split
        · rename_i i hi
          intro _;obtain ⟨hl,-,-,-⟩:=hit_some hi;exact g.shut hl _
        · intro q;exact absurd q (show ¬ (3 : Int) = 0 by decide)
      · intro _
        exact ⟨g.full,g.dele⟩
theorem runR_inw (b : Bk) : ∀ (l : List En) (k : Nat) (s : St),Inv s → Und s b.index k → Inw s → (∀ e ∈ l,formE e) → (runR b l k s).1 = 0 → Inw (runR b l k s).2
  | [],_,_,_,_,g,_,_ => g
  | e :: r,k,s,h,hu,g,hf,h0 => by
    unfold runR at h0 ⊢
    by_cases hc : (entR s e b.index k b.time).1 = 0
    · rw [if_pos hc] at h0 ⊢
      obtain ⟨h1,h2⟩:=entR_inv h hu (hf e (List.mem_cons_self ..)) hc;exact runR_inw b r (k + 1) _ h1 h2 (entR_inw h g hc) (fun x hx => hf x (List.mem_cons_of_mem _ hx)) h0
    · rw [if_neg hc] at h0
      exact absurd h0 hc
theorem appR_inw {s : St} (h : InvN s) (g : Inw s) (b : Bk) : Inw (appR s b).2:=by
  classical
  unfold appR
  split
  · exact g
  · rename_i hi
    split
    · exact g
    · rename_i hc
      obtain ⟨hf,-,-,-⟩:=chk_form (Decidable.byContradiction hc)
      split
      · rename_i h0
        have hu : Und s b.index 0:=fun r hr => .inl (by have:=h.2 r hr;omega);have:=runR_inw b b.ents 0 s h.1 hu g hf h0;exact ⟨this.full,this.dele⟩
      · exact g
theorem getD_left {A B : List Rw} {i : Nat} (h : i < A.length) : (A ++ B).getD i noR = A.getD i noR:=by
  rw [List.getD_eq_getElem?_getD,List.getD_eq_getElem?_getD,List.getElem?_append_left h]
theorem getD_right {A B : List Rw} {i : Nat} (h : A.length ≤ i) : (A ++ B).getD i noR = B.getD (i - A.length) noR:=by
  rw [List.getD_eq_getElem?_getD,List.getD_eq_getElem?_getD,List.getElem?_append_right h]
theorem getD_mem {A : List Rw} {i : Nat} (h : i < A.length) : A.getD i noR ∈ A:=by rw [getD_lt h];exact List.getElem_mem h
end Vw
namespace Vw
open K (En Bk zV formE chkE chkB layE layD layB headL nilE noE)
open Cat (Tb appC appL tabR)
def shutE (e : En) : En:={ e with gone:=true,data:=zV }
def redF' (G : Int × Int → Bool) (bi : Int) : List En → Nat → List En
  | [],_ => []
  | e :: r,k => (if G (bi,(k : Int)) = true then shutE e else e) :: redF' G bi r (k + 1)
def redG (G : Int × Int → Bool) (b : Bk) : Bk:={ b with ents:=redF' G b.index b.ents 0 }
theorem redF_len (G : Int × Int → Bool) (bi : Int) : ∀ (l : List En) (k : Nat),(redF' G bi l k).length = l.length
  | [],_ => rfl
  | e :: r,k => by unfold redF';rw [List.length_cons,List.length_cons,redF_len G bi r]
theorem redF_getD (G : Int × Int → Bool) (bi : Int) : ∀ (l : List En) (k j : Nat),j < l.length → (redF' G bi l k).getD j noE = if G (bi,((k + j : Nat) : Int)) = true then shutE (l.getD j noE) else l.getD j noE
  | [],_,j,h => by simp at h
  | e :: r,k,j,h => by
    unfold redF';cases j with
    | zero => simp
    | succ j =>
      rw [List.getD_cons_succ,List.getD_cons_succ,redF_getD G bi r (k + 1) j (by simpa using h),show k + 1 + j = k + (j + 1) by omega]
def mkG (G : Int × Int → Bool) (r : Rw) : Rw:=if G r.adr = true then shut r else r
def maskG (G : Int × Int → Bool) (s : St) : St:={ s with rows:=s.rows.map (mkG G) }
section
variable {G : Int × Int → Bool}
theorem mkG_key (r : Rw) : (mkG G r).key = r.key:=by unfold mkG;split <;> rfl
theorem mkG_ver (r : Rw) : (mkG G r).ver = r.ver:=by unfold mkG;split <;> rfl
theorem mkG_tab (r : Rw) : (mkG G r).tab = r.tab:=by unfold mkG;split <;> rfl
theorem mkG_del (r : Rw) : (mkG G r).del = r.del:=by unfold mkG;split <;> rfl
theorem mkG_blk (r : Rw) : (mkG G r).blk = r.blk:=by unfold mkG;split <;> rfl
theorem mkG_ent (r : Rw) : (mkG G r).ent = r.ent:=by unfold mkG;split <;> rfl
theorem shut_mkG (r : Rw) : shut (mkG G r) = shut r:=by unfold mkG;split <;> rfl
theorem mkG_shut (r : Rw) : mkG G (shut r) = shut r:=by unfold mkG;split <;> rfl
theorem of_map (L : List Rw) (k : Int × Int) : Vw.of (L.map (mkG G)) k = (Vw.of L k).map (mkG G):=by
  unfold Vw.of;rw [List.filter_map,show (fun r : Rw => decide (r.key = k)) ∘ mkG G = fun r => decide (r.key = k) by funext r;simp only [Function.comp_apply,mkG_key]]
theorem cnt_map (t : Int) (L : List Rw) : cnt t (L.map (mkG G)) = cnt t L:=by
  unfold cnt;rw [List.filter_map,List.length_map,show (fun r : Rw => decide (r.tab = t) && decide (r.ver = 0)) ∘ mkG G = fun r => decide (r.tab = t) && decide (r.ver = 0) by funext r;simp only [Function.comp_apply,mkG_tab,mkG_ver]]
theorem next_mask (s : St) (t : Int) : next (maskG G s) t = next s t:=by
  unfold next
  show (if (tabR s.cat t).2.2 = 0 then (cnt t (s.rows.map (mkG G)) : Int) + 1 else 0) = _
  rw [cnt_map]
theorem fits_mask (s : St) (e : En) : fits (maskG G s) e = fits s e:=by
  unfold fits;rw [next_mask]
  show (if e.ver = 0 then _ else match (Vw.of (s.rows.map (mkG G)) (e.table,e.doc)).getLast? with | some r => !r.del && decide (r.ver + 1 = e.ver) | none => false) = _
  rw [of_map,List.getLast?_map]
  split
  · rfl
  · cases (Vw.of s.rows (e.table,e.doc)).getLast? with
    | none => rfl
    | some r => simp only [Option.map_some,mkG_del,mkG_ver]
theorem hit_mask (s : St) (a : Int × Int) (r : Rw) : hit (maskG G s) a (mkG G r) = hit s a r:=by
  unfold hit;rw [mkG_blk,mkG_ent,mkG_del]
  rfl
theorem find_mask (s : St) (a : Int × Int) : (maskG G s).rows.findIdx? (hit (maskG G s) a) = s.rows.findIdx? (hit s a):=by
  show (s.rows.map (mkG G)).findIdx? (hit (maskG G s) a) = _
  rw [List.findIdx?_map,show hit (maskG G s) a ∘ mkG G = hit s a by funext r;exact hit_mask s a r]
theorem map_set (L : List Rw) (i : Nat) (r : Rw) : (L.map (mkG G)).set i (mkG G r) = (L.set i r).map (mkG G):=by
  rw [List.map_set]
theorem getD_map (L : List Rw) (i : Nat) (hi : i < L.length) : (L.map (mkG G)).getD i noR = mkG G (L.getD i noR):=by
  rw [getD_lt (by rw [List.length_map];exact hi),getD_lt hi,List.getElem_map]
theorem set_mask (L : List Rw) {i : Nat} (hi : i < L.length) : (L.map (mkG G)).set i (shut ((L.map (mkG G)).getD i noR)) = (L.set i (shut (L.getD i noR))).map (mkG G):=by
  rw [getD_map L i hi,shut_mkG,← map_set,mkG_shut]
theorem entR_mask (s : St) (e : En) (bi k tim : Int) : entR (maskG G s) (if G (bi,k) = true then shutE e else e) bi k tim = ((entR s e bi k tim).1,maskG G (entR s e bi k tim).2):=by
  have hkind : (if G (bi,k) = true then shutE e else e).kind = e.kind:=by split <;> rfl
  have htext : (if G (bi,k) = true then shutE e else e).text = e.text:=by split <;> rfl
  have htab : (if G (bi,k) = true then shutE e else e).table = e.table:=by split <;> rfl
  have hab : (if G (bi,k) = true then shutE e else e).ab = e.ab:=by split <;> rfl
  have hae : (if G (bi,k) = true then shutE e else e).ae = e.ae:=by split <;> rfl
  have hfit : fits (maskG G s) (if G (bi,k) = true then shutE e else e) = fits s e:=by rw [fits_mask];split <;> rfl
  have hrow : rowOf (if G (bi,k) = true then shutE e else e) bi k tim = mkG G (rowOf e bi k tim):=by
    unfold mkG
    show _ = if G (bi,k) = true then _ else _
    split <;> rfl
  unfold entR;rw [hkind,htext,htab,hab,hae,hfit,hrow,find_mask]
  show (if appC s.cat e.kind e.text e.table ≠ 0 then (appC s.cat e.kind e.text e.table,maskG G s) else _) = _
  by_cases h1 : appC s.cat e.kind e.text e.table ≠ 0
  · rw [if_pos h1,if_pos h1]
  · rw [if_neg h1,if_neg h1]
    by_cases h2 : e.kind = 2 ∨ e.kind = 3
    · rw [if_pos h2,if_pos h2]
      show (if (tabR s.cat e.table).2.2 ≠ 0 ∨ (tabR s.cat e.table).2.1.dropped = true ∨ fits s e = false then _ else _) = _
      by_cases h3 : (tabR s.cat e.table).2.2 ≠ 0 ∨ (tabR s.cat e.table).2.1.dropped = true ∨ fits s e = false
      · rw [if_pos h3,if_pos h3]
      · rw [if_neg h3,if_neg h3]
        show ((0 : Int),({ maskG G s with rows:=s.rows.map (mkG G) ++ [mkG G (rowOf e bi k tim)] } : St)) = (0,{ s with rows:=(s.rows ++ [rowOf e bi k tim]).map (mkG G) })
        rw [List.map_append]
        rfl
    · rw [if_neg h2,if_neg h2]
      by_cases h3 : e.kind = 4
      · rw [if_pos h3,if_pos h3]
        cases hf : s.rows.findIdx? (hit s (e.ab,e.ae)) with
        | none => rfl
        | some i =>
          obtain ⟨hi,-,-,-⟩:=hit_some hf
          show ((0 : Int),({ maskG G s with rows:=(s.rows.map (mkG G)).set i (shut ((s.rows.map (mkG G)).getD i noR)),red:=redP s.red (e.ab,e.ae) } : St)) = (0,{ s with rows:=(s.rows.set i (shut (s.rows.getD i noR))).map (mkG G),red:=redP s.red (e.ab,e.ae) })
          rw [set_mask s.rows hi]
          rfl
      · rw [if_neg h3,if_neg h3]
        rfl
theorem runR_mask (b : Bk) (b' : Bk) (h1 : b'.index = b.index) (h2 : b'.time = b.time) : ∀ (l : List En) (k : Nat) (s : St),runR b' (redF' G b.index l k) k (maskG G s) = ((runR b l k s).1,maskG G (runR b l k s).2)
  | [],_,_ => rfl
  | e :: r,k,s => by
    unfold redF' runR;rw [h1,h2,entR_mask];simp only
    by_cases hc : (entR s e b.index k b.time).1 = 0
    · rw [if_pos hc,if_pos hc]
      exact runR_mask b b' h1 h2 r (k + 1) _
    · rw [if_neg hc,if_neg hc]
end
end Vw
namespace Vw
open K (En Bk zV formE chkE chkB layE layD layB headL nilE noE noB)
section
variable {G : Int × Int → Bool}
theorem chkE_form {e : En} (h : chkE e = 0) : formE e:=by
  unfold chkE at h
  split at h
  · assumption
  · exact absurd h (by decide)
theorem chkE_shut {e : En} (h : chkE e = 0) (hk : e.kind = 2) : chkE (shutE e) = 0:=by
  have hf:=chkE_form h;have h2 : formE (shutE e):=by
    unfold formE at hf ⊢;rw [if_neg (by omega),if_pos hk] at hf;rw [if_neg (show ¬ (shutE e).kind = 1 by show ¬ e.kind = 1;omega),if_pos (show (shutE e).kind = 2 from hk)];exact ⟨hf.1,hf.2.1,hf.2.2.1,hf.2.2.2.1,fun _ => rfl⟩
  unfold chkE;rw [if_pos h2,if_pos (.inr rfl)]
theorem layD_shut {e : En} (hk : e.kind = 2) : (layD true (shutE e)).length ≤ (layD true e).length:=by
  unfold layD;rw [if_pos (show (shutE e).kind = 2 from hk),if_pos hk,if_pos (show (shutE e).gone = true ∨ true = false from .inl rfl)]
  split
  · exact Nat.le_refl _
  · simp
theorem first_zero {α : Type} {f : α → Int} : ∀ {l : List α},(∀ x ∈ l,f x = 0) → firstBad (l.map f) = 0
  | [],_ => rfl
  | a :: r,h => by
    rw [List.map_cons];unfold firstBad;rw [if_pos (h a (List.mem_cons_self ..))];exact first_zero fun x hx => h x (List.mem_cons_of_mem _ hx)
theorem redF_mem {bi : Int} : ∀ {l : List En} {k : Nat} {x : En},x ∈ redF' G bi l k → ∃ j,j < l.length ∧ x = if G (bi,((k + j : Nat) : Int)) = true then shutE (l.getD j noE) else l.getD j noE
  | [],_,_,h => by cases h
  | e :: r,k,x,h => by
    unfold redF' at h;rcases List.mem_cons.1 h with q | q
    · exact ⟨0,by simp,q⟩
    · obtain ⟨j,hj,e2⟩:=redF_mem q
      exact ⟨j + 1,by simpa using hj,by rw [e2,List.getD_cons_succ,show k + 1 + j = k + (j + 1) by omega]⟩
theorem redF_lay {bi : Int} : ∀ {l : List En} {k : Nat},(∀ j,j < l.length → G (bi,((k + j : Nat) : Int)) = true → (l.getD j noE).kind = 2) → ((redF' G bi l k).flatMap fun e => layE e ++ layD true e).length ≤ (l.flatMap fun e => layE e ++ layD true e).length
  | [],_,_ => Nat.le_refl _
  | e :: r,k,h => by
    have h0:=h 0 (by simp);have ih:=redF_lay (l:=r) (k:=k + 1) fun j hj hg => by
      have:=h (j + 1) (by simpa using hj) (by rw [show k + (j + 1) = k + 1 + j by omega];exact hg)
      simpa using this
    unfold redF';simp only [List.flatMap_cons,List.length_append];have h1 : (layE (if G (bi,(k : Int)) = true then shutE e else e)).length = (layE e).length:=by split <;> rfl
    have h2 : (layD true (if G (bi,(k : Int)) = true then shutE e else e)).length ≤ (layD true e).length:=by
      split
      · rename_i hg
        exact layD_shut (by simpa using h0 (by rw [Nat.add_zero];exact hg))
      · exact Nat.le_refl _
    omega
theorem chkB_red {b : Bk} (h : chkB b = 0) (hG : ∀ k,k < b.ents.length → G (b.index,(k : Int)) = true → (b.ents.getD k noE).kind = 2) : chkB (redG G b) = 0:=by
  have hl : (redG G b).ents.length = b.ents.length:=redF_len ..;unfold chkB at h
  split at h
  · rename_i hc
    split at h
    · rename_i hq;exact absurd h hq
    · rename_i hq
      split at h
      · exact absurd h (by decide)
      · rename_i hs
        have h1:=first_ok (Decidable.byContradiction hq);have h2 : firstBad ((redG G b).ents.map chkE) = 0:=first_zero fun x hx => by
          obtain ⟨j,hj,rfl⟩:=redF_mem hx;have hm : b.ents.getD j noE ∈ b.ents:=by rw [getD_lt hj];exact List.getElem_mem hj
          rw [Nat.zero_add]
          split
          · rename_i hg
            exact chkE_shut (h1 _ hm) (hG j hj hg)
          · exact h1 _ hm
        have h3 : (layB true (redG G b)).length ≤ (layB true b).length:=by
          unfold layB;have e1 : headL (redG G b) = headL b:=rfl;rw [e1,hl];simp only [List.length_append];have:=redF_lay (G:=G) (bi:=b.index) (l:=b.ents) (k:=0) fun j hj hg => hG j hj (by rw [Nat.zero_add] at hg;exact hg);have e2 : (redG G b).ents = redF' G b.index b.ents 0:=rfl;rw [e2];omega
        unfold chkB;rw [if_pos (by rw [hl];exact hc),if_neg (fun q => q h2),if_neg (by omega)]
  · exact absurd h (by decide)
theorem appR_ok {s : St} {b : Bk} (h0 : (appR s b).1 = 0) : b.index = s.n ∧ chkB b = 0 ∧ (runR b b.ents 0 s).1 = 0 ∧ appR s b = (0,{ (runR b b.ents 0 s).2 with n:=s.n + 1 }):=by
  classical
  unfold appR at h0 ⊢
  split at h0
  · exact absurd h0 (show ¬ (3 : Int) = 0 by decide)
  · rename_i hi
    split at h0
    · rename_i hc;exact absurd h0 hc
    · rename_i hc
      split at h0
      · rename_i hr
        exact ⟨Decidable.byContradiction hi,Decidable.byContradiction hc,hr,by rw [if_neg hi,if_neg hc,if_pos hr]⟩
      · rename_i hr;exact absurd h0 hr
theorem appR_mask {s : St} {b : Bk} (h0 : (appR s b).1 = 0) (hG : ∀ k,k < b.ents.length → G (b.index,(k : Int)) = true → (b.ents.getD k noE).kind = 2) : appR (maskG G s) (redG G b) = (0,maskG G (appR s b).2):=by
  obtain ⟨hi,hc,hr,he⟩:=appR_ok h0;have hm:=runR_mask (G:=G) b (redG G b) rfl rfl b.ents 0 s;have e2 : (redG G b).ents = redF' G b.index b.ents 0:=rfl;rw [he];unfold appR;rw [if_neg (show ¬ (redG G b).index ≠ ((maskG G s).n : Int) from fun q => q hi),if_neg (fun q => q (chkB_red hc hG)),e2,hm,hr,if_pos rfl]
  rfl
end
inductive Runs : List Bk → St → Prop
  | nil : Runs [] st0
  | snoc {l : List Bk} {s : St} {b : Bk} : Runs l s → (appR s b).1 = 0 → Runs (l ++ [b]) (appR s b).2
theorem Runs.n {l : List Bk} {s : St} (h : Runs l s) : s.n = l.length:=by
  induction h with
  | nil => rfl
  | snoc h h0 ih =>
    obtain ⟨-,-,-,he⟩:=appR_ok h0;rw [he,List.length_append,← ih]
    rfl
theorem Runs.inv {l : List Bk} {s : St} (h : Runs l s) : InvN s ∧ Inw s:=by
  induction h with
  | nil => exact ⟨inv0,inw0⟩
  | snoc h h0 ih => exact ⟨appR_inv ih.1 _,appR_inw ih.1 ih.2 _⟩
theorem getD_b {l : List Bk} {b : Bk} {j : Nat} : (l ++ [b]).getD j noB = if j < l.length then l.getD j noB else if j = l.length then b else noB:=by
  rw [List.getD_eq_getElem?_getD,List.getD_eq_getElem?_getD]
  by_cases h1 : j < l.length
  · rw [if_pos h1,List.getElem?_append_left h1]
  · rw [if_neg h1,List.getElem?_append_right (by omega)]
    by_cases h2 : j = l.length
    · rw [if_pos h2,h2,Nat.sub_self];rfl
    · rw [if_neg h2,List.getElem?_eq_none (by simp;omega)];rfl
theorem Runs.at {l : List Bk} {s : St} (h : Runs l s) : ∀ j,j < l.length → (l.getD j noB).index = j ∧ chkB (l.getD j noB) = 0:=by
  induction h with
  | nil => exact fun j hj => by simp at hj
  | @snoc l s b h h0 ih =>
    intro j hj;obtain ⟨hi,hc,-,-⟩:=appR_ok h0;rw [getD_b]
    by_cases h1 : j < l.length
    · rw [if_pos h1];exact ih j h1
    · rw [List.length_append,List.length_singleton] at hj
      have h2 : j = l.length:=by omega
      rw [if_neg h1,if_pos h2,hi,h.n,h2];exact ⟨rfl,hc⟩
def From (b : Bk) (l : List En) (k : Nat) (r : Rw) : Prop:=∃ j,j < l.length ∧ r.blk = b.index ∧ r.ent = ((k + j : Nat) : Int) ∧ ((l.getD j noE).kind = 2 ∨ (l.getD j noE).kind = 3) ∧ r.del = decide ((l.getD j noE).kind = 3)
def Like (s : St) (r : Rw) : Prop:=∃ r0 ∈ s.rows,r.blk = r0.blk ∧ r.ent = r0.ent ∧ r.del = r0.del
theorem entR_from {s : St} {e : En} {bi k tim : Int} {r : Rw} (h : r ∈ (entR s e bi k tim).2.rows) : Like s r ∨ (r.blk = bi ∧ r.ent = k ∧ (e.kind = 2 ∨ e.kind = 3) ∧ r.del = decide (e.kind = 3)):=by
  unfold entR at h
  split at h
  · exact .inl ⟨r,h,rfl,rfl,rfl⟩
  · split at h
    · rename_i hk
      split at h
      · exact .inl ⟨r,h,rfl,rfl,rfl⟩
      · rcases List.mem_append.1 h with q | q
        · exact .inl ⟨r,q,rfl,rfl,rfl⟩
        · rw [List.mem_singleton.1 q]
          exact .inr ⟨rfl,rfl,hk,rfl⟩
    · split at h
      · split at h
        · rename_i i hi
          obtain ⟨hl,-,-,-⟩:=hit_some hi;rcases List.mem_or_eq_of_mem_set h with q | q
          · exact .inl ⟨r,q,rfl,rfl,rfl⟩
          · exact .inl ⟨s.rows.getD i noR,getD_mem hl,by rw [q];rfl,by rw [q];rfl,by rw [q];rfl⟩
        · exact .inl ⟨r,h,rfl,rfl,rfl⟩
      · exact .inl ⟨r,h,rfl,rfl,rfl⟩
theorem runR_from (b : Bk) : ∀ (l : List En) (k : Nat) (s : St) (r : Rw),r ∈ (runR b l k s).2.rows → Like s r ∨ From b l k r
  | [],_,_,r,h => .inl ⟨r,h,rfl,rfl,rfl⟩
  | e :: l,k,s,r,h => by
    have one : ∀ q : Rw,q ∈ (entR s e b.index k b.time).2.rows → Like s q ∨ From b (e :: l) k q:=fun q hq => (entR_from hq).imp id fun ⟨a1,a2,a3,a4⟩ => ⟨0,by simp,a1,a2,a3,a4⟩;unfold runR at h
    split at h
    · rcases runR_from b l (k + 1) _ r h with ⟨r0,h0,a1,a2,a3⟩ | ⟨j,hj,a1,a2,a3,a4⟩
      · rcases one r0 h0 with ⟨r1,h1,b1,b2,b3⟩ | ⟨j,hj,b1,b2,b3,b4⟩
        · exact .inl ⟨r1,h1,a1.trans b1,a2.trans b2,a3.trans b3⟩
        · exact .inr ⟨j,hj,a1.trans b1,a2.trans b2,b3,a3.trans b4⟩
      · exact .inr ⟨j + 1,by simpa using hj,a1,by rw [a2];congr 1;omega,a3,a4⟩
    · exact one r h
theorem Runs.rows {l : List Bk} {s : St} (h : Runs l s) : ∀ r ∈ s.rows,∃ j k : Nat,j < l.length ∧ k < (l.getD j noB).ents.length ∧ r.blk = j ∧ r.ent = k ∧ (((l.getD j noB).ents.getD k noE).kind = 2 ∨ ((l.getD j noB).ents.getD k noE).kind = 3) ∧ r.del = decide (((l.getD j noB).ents.getD k noE).kind = 3):=by
  induction h with
  | nil => exact fun _ h => by cases h
  | @snoc l s b h h0 ih =>
    intro r hr;obtain ⟨hi,hc,-,he⟩:=appR_ok h0;rw [he] at hr;rcases runR_from b b.ents 0 s r hr with ⟨r0,h1,a1,a2,a3⟩ | ⟨k,hk,a1,a2,a3,a4⟩
    · obtain ⟨j,k,q1,q2,q3,q4,q5,q6⟩:=ih r0 h1
      refine ⟨j,k,by rw [List.length_append];omega,?_⟩;rw [getD_b,if_pos q1];exact ⟨q2,a1.trans q3,a2.trans q4,q5,a3.trans q6⟩
    · refine ⟨l.length,k,by rw [List.length_append];simp,?_⟩
      rw [getD_b,if_neg (by omega),if_pos rfl];exact ⟨hk,by rw [a1,hi,h.n],by rw [a2,Nat.zero_add],a3,a4⟩
def GoneOk (s : St) : Prop:=∀ r ∈ s.rows,r.gone = true → r.data = zV ∧ r.del = false
theorem entR_gone {s : St} (h : GoneOk s) {e : En} {bi k tim : Int} (hf : formE e) : GoneOk (entR s e bi k tim).2:=by
  intro r hr hg;unfold entR at hr
  split at hr
  · exact h r hr hg
  · split at hr
    · rename_i hk
      split at hr
      · exact h r hr hg
      · rcases List.mem_append.1 hr with q | q
        · exact h r q hg
        · rw [List.mem_singleton.1 q] at hg ⊢
          change e.gone = true at hg;unfold formE at hf;rcases hk with hk | hk
          · rw [if_neg (by omega),if_pos hk] at hf
            exact ⟨hf.2.2.2.2 hg,decide_eq_false (by omega)⟩
          · rw [if_neg (by omega),if_neg (by omega),if_pos hk] at hf
            have : e.gone = false:=hf.2.2.2.2.2.2.2.2.2.1;rw [this] at hg;cases hg
    · split at hr
      · split at hr
        · rename_i i hi
          obtain ⟨hl,-,hd,-⟩:=hit_some hi;rcases List.mem_or_eq_of_mem_set hr with q | q
          · exact h r q hg
          · rw [q];exact ⟨rfl,hd⟩
        · exact h r hr hg
      · exact h r hr hg
theorem runR_gone (b : Bk) : ∀ (l : List En) (k : Nat) (s : St),GoneOk s → (∀ e ∈ l,formE e) → GoneOk (runR b l k s).2
  | [],_,_,h,_ => h
  | e :: l,k,s,h,hf => by
    have h1:=entR_gone h (bi:=b.index) (k:=k) (tim:=b.time) (hf e (List.mem_cons_self ..));unfold runR
    split
    · exact runR_gone b l (k + 1) _ h1 fun x hx => hf x (List.mem_cons_of_mem _ hx)
    · exact h1
theorem Runs.gone {l : List Bk} {s : St} (h : Runs l s) : GoneOk s:=by
  induction h with
  | nil => exact fun _ h => by cases h
  | @snoc l s b h h0 ih =>
    obtain ⟨-,hc,-,he⟩:=appR_ok h0;rw [he];exact runR_gone b b.ents 0 s ih (chk_form hc).1
def gN (L : List Rw) (i : Nat) (a : Int × Int) : Bool:=(L.take i).any fun r => decide (r.adr = a) && r.gone
theorem gN_zero (L : List Rw) : gN L 0 = fun _ => false:=by funext a;rfl
theorem gN_succ {L : List Rw} {i : Nat} (hi : i < L.length) (a : Int × Int) : gN L (i + 1) a = (gN L i a || (decide ((L.getD i noR).adr = a) && (L.getD i noR).gone)):=by
  unfold gN;rw [List.take_add_one,List.getElem?_eq_getElem hi,Option.toList_some,List.any_append,getD_lt hi];simp
theorem Runs.kind {l : List Bk} {s : St} (h : Runs l s) (i : Nat) : ∀ j,j < l.length → ∀ k,k < (l.getD j noB).ents.length → gN s.rows i ((l.getD j noB).index,(k : Int)) = true → ((l.getD j noB).ents.getD k noE).kind = 2:=by
  intro j hj k hk hg;unfold gN at hg;obtain ⟨r,hr,hq⟩:=List.any_eq_true.1 hg;have hr':=List.mem_of_mem_take hr;simp only [Bool.and_eq_true,decide_eq_true_eq] at hq;obtain ⟨j',k',q1,q2,q3,q4,q5,q6⟩:=h.rows r hr';have e1 : r.blk = (l.getD j noB).index:=congrArg Prod.fst hq.1;have e2 : r.ent = (k : Int):=congrArg Prod.snd hq.1;rw [(h.at j hj).1] at e1;have ej : j' = j:=by omega
  have ek : k' = k:=by omega
  subst ej;subst ek;have:=(h.gone r hr' hq.2).2;rw [q6] at this;have hn : ¬ ((l.getD j' noB).ents.getD k' noE).kind = 3:=of_decide_eq_false this;rcases q5 with q | q
  · exact q
  · exact absurd q hn
theorem Runs.mask {G : Int × Int → Bool} {l : List Bk} {s : St} (h : Runs l s) : (∀ j,j < l.length → ∀ k,k < (l.getD j noB).ents.length → G ((l.getD j noB).index,(k : Int)) = true → ((l.getD j noB).ents.getD k noE).kind = 2) → Runs (l.map (redG G)) (maskG G s):=by
  induction h with
  | nil => exact fun _ => Runs.nil
  | @snoc l s b h h0 ih =>
    intro hG;have h1:=ih fun j hj => by
      have:=hG j (by rw [List.length_append];omega)
      rwa [getD_b,if_pos hj] at this
    have h2:=appR_mask (G:=G) h0 (by
      have:=hG l.length (by rw [List.length_append];simp)
      rwa [getD_b,if_neg (by omega),if_pos rfl] at this)
    have h3:=Runs.snoc h1 (b:=redG G b) (by rw [h2]);rw [h2] at h3;rw [List.map_append];exact h3
theorem Runs.same {l : List Bk} {s : St} (h : Runs l s) : maskG (gN s.rows s.rows.length) s = s:=by
  have hI:=h.inv.1.1;have : s.rows.map (mkG (gN s.rows s.rows.length)) = s.rows:=by
    conv => rhs;rw [← List.map_id s.rows]
    refine List.map_congr_left fun r hr => ?_;unfold mkG
    split
    · rename_i hg
      unfold gN at hg;rw [List.take_length] at hg;obtain ⟨r',hr',hq⟩:=List.any_eq_true.1 hg;simp only [Bool.and_eq_true,decide_eq_true_eq] at hq;have e : r' = r:=by
        obtain ⟨i,hi,rfl⟩:=List.getElem_of_mem hr';obtain ⟨j,hj,rfl⟩:=List.getElem_of_mem hr;have hn:=hI.dis;have : (s.rows.map Rw.adr)[i]'(by simpa using hi) = (s.rows.map Rw.adr)[j]'(by simpa using hj):=by simpa using hq.1
        have:=(List.getElem_inj hn).1 this;subst this;rfl
      subst e;obtain ⟨g1,-⟩:=h.gone r' hr hq.2
      show shut r' = r'
      have g2:=hq.2;obtain ⟨a,b,c,d,e,f,g,i,j⟩:=r';change d = zV at g1;change e = true at g2;subst g1 g2
      rfl
    · rfl
  unfold maskG;rw [this]
theorem Runs.replay {l : List Bk} {s : St} (h : Runs l s) : Runs (l.map (redG (gN s.rows s.rows.length))) s:=by
  have:=h.mask (h.kind s.rows.length)
  rwa [h.same] at this
theorem red_step {L : List Rw} {i : Nat} (hi : i < L.length) {b : Bk} {k : Nat} (hk : k < b.ents.length) (he : (L.getD i noR).ent = k) (hb : (L.getD i noR).blk = b.index) (hg : (L.getD i noR).gone = true) :
    redG (gN L (i + 1)) b = { redG (gN L i) b with ents:=(redG (gN L i) b).ents.set k (shutE ((redG (gN L i) b).ents.getD k noE)) }:=by
  have e1 : (redG (gN L (i + 1)) b).ents = (redG (gN L i) b).ents.set k (shutE ((redG (gN L i) b).ents.getD k noE)):=by
    apply List.ext_getElem
    · rw [List.length_set];exact (redF_len ..).trans (redF_len ..).symm
    · intro j h1 h2
      have hl1 : (redG (gN L (i + 1)) b).ents.length = b.ents.length:=redF_len ..;have hl2 : (redG (gN L i) b).ents.length = b.ents.length:=redF_len ..;have a1:=redF_getD (gN L (i + 1)) b.index b.ents 0 j (by omega);have a2:=redF_getD (gN L i) b.index b.ents 0 j (by omega);have a3:=redF_getD (gN L i) b.index b.ents 0 k hk;rw [Nat.zero_add] at a1 a2 a3;have b1 : (redG (gN L (i + 1)) b).ents[j] = (redF' (gN L (i + 1)) b.index b.ents 0).getD j noE:=(getD_lt (show j < (redF' _ b.index b.ents 0).length by rw [redF_len];omega)).symm;rw [b1,a1,List.getElem_set];have hadr : (L.getD i noR).adr = (b.index,(k : Int)):=Prod.ext hb he;rw [gN_succ hi,hadr,hg]
      by_cases hjk : k = j
      · subst hjk
        rw [if_pos rfl];have b3 : (redG (gN L i) b).ents.getD k noE = _:=a3;rw [b3,decide_eq_true rfl,Bool.and_true,Bool.or_true,if_pos rfl]
        split <;> rfl
      · rw [if_neg hjk]
        have b2 : (redG (gN L i) b).ents[j] = (redF' (gN L i) b.index b.ents 0).getD j noE:=(getD_lt (show j < (redF' _ b.index b.ents 0).length by rw [redF_len];omega)).symm;rw [b2,a2];have hne : ¬ ((b.index,(k : Int)) : Int × Int) = (b.index,(j : Int)):=fun q => hjk (by have q2 : (k : Int) = (j : Int):=congrArg Prod.snd q;omega);rw [decide_eq_false hne,Bool.false_and,Bool.or_false]
  unfold redG at e1 ⊢;simp only at e1 ⊢;rw [e1]
theorem redF_congr {G G' : Int × Int → Bool} {bi : Int} : ∀ {l : List En} {k : Nat},(∀ j : Int,G (bi,j) = G' (bi,j)) → redF' G bi l k = redF' G' bi l k
  | [],_,_ => rfl
  | e :: l,k,h => by
    unfold redF';rw [h,redF_congr h]
theorem red_other {L : List Rw} {i : Nat} (hi : i < L.length) {b : Bk} (h : (L.getD i noR).gone = false ∨ (L.getD i noR).blk ≠ b.index) : redG (gN L (i + 1)) b = redG (gN L i) b:=by
  unfold redG
  congr 1
  refine redF_congr fun j => ?_;rw [gN_succ hi];rcases h with h | h
  · rw [h,Bool.and_false,Bool.or_false]
  · rw [decide_eq_false (fun q => h (congrArg Prod.fst q)),Bool.false_and,Bool.or_false]
end Vw
namespace K
set_option maxHeartbeats 8000000 in
theorem rclone11r_any {f : Nat} {w : World} {b : Bk} {cs : List Value} (h : IsB f w b cs) (hsm : ∀ e ∈ b.ents,Sm 3000 f e.data) (hle : b.ents.length ≤ 3000) :
    Calls Tryz.prog 17 #[.agg cs.toArray] w fun r w' => Below w.heap.size w w' ∧ ∃ (se : Value) (q : Nat → Prop),r = .returned (.agg (bkC b se).toArray) ∧ OwnE 52 46 noE (IsEo q f w') (fun x => w.heap.size ≤ x) w' se b.ents ∧ ∀ x,q x → w.heap.size ≤ x ∧ se.ownBlock ≠ some x:=by
  have hcl:=h.len;obtain ⟨se,rfl,hents,hpl,hpb,hr⟩:=h;obtain ⟨sp,cap,rfl⟩:=hents.slice;refine enter (args:=[.agg (bkC b (.slice sp b.ents.length cap)).toArray]) Tryz.func17 rfl Tryz.ntmps17 rfl ?_;refine K.kgo ?_;refine WL.box rfl rfl rfl rfl rfl fun g w1 hf => ?_;have hf' : Fresh w g w1 33 (bkC b (.slice sp b.ents.length cap)):=hf;clear hf;refine WL.alloc (z:=.agg (bkC noB (.slice none 0 0)).toArray) rfl rfl rfl rfl (fun _ => by kernel_rfl) fun rg w2 hf2 => ?_;have hf2' : Fresh w1 rg w2 33 (bkC noB (.slice none 0 0)):=hf2;clear hf2;have hg:=hf'.eq;have hz1:=hf'.size;have hrg:=hf2'.eq;have hz2:=hf2'.size;have hw2 : Below w.heap.size w w2:=hf'.below.trans (hf2'.below.mono hf'.below.size);have B2 : BkAt 33 g w2 b (.slice sp b.ents.length cap):=⟨hf'.blk.below hf2'.below hf'.blk.lt,hpl⟩;have R2:=hf2'.blk;clear hf' hf2';refine K.kgo ?_;refine WC.loop (fun i : Nat × Value => [(1,.pointer (some ⟨g,0,none⟩)),(2,.pointer (some ⟨rg,0,none⟩)),(3,i.2),(4,.int .i64 i.1)])
    (fun i wr => i.1 ≤ b.ents.length ∧ Below w2.heap.size w2 wr ∧ ∃ q : Nat → Prop,OwnE 52 46 noE (IsEo q f wr) (fun x => w2.heap.size ≤ x) wr i.2 (b.ents.take i.1) ∧ ∀ x,q x → w2.heap.size ≤ x ∧ x < wr.heap.size ∧ i.2.ownBlock ≠ some x) (fun i => b.ents.length - i.1) (0,.slice none 0 0)
    ⟨rfl,rfl,rfl,rfl,trivial⟩ ⟨Nat.zero_le _,Below.refl _ _,fun _ => False,OwnE.nil _ _ _ _ _ _,fun x h => h.elim⟩ ?_
  rintro ⟨i,vk⟩ wr ⟨hi,hbr,q,hoE,hq⟩;simp only at hi hbr hoE hq ⊢;have Br:=B2.below hbr;have Rr:=R2.below hbr R2.lt;have hwr : Below w.heap.size w wr:=hw2.trans (hbr.mono hw2.size);have hzr:=hbr.size;refine K.kgo ?_;refine WL.load rfl rfl rfl rfl rfl rfl Br.ents ?_
  by_cases hik : i < b.ents.length
  · obtain ⟨kb,ko,cap',cs,hse,hkb,hc46,hce,hcr⟩:=hents.at hik
    injection hse with hse1 _ hse2
    subst hse1;subst hse2;have hmem : b.ents.getD i noE ∈ b.ents:=by simp [hik]
    have hsm1:=hsm _ hmem;have hts:=take_snoc b.ents noE hik;generalize b.ents.getD i noE = e at hce hsm1 hts;have hone:=hce.one;obtain ⟨dc,rfl,hv,hdl,hdo,hh,hby,htx,hrr⟩:=hce;refine K.kgo ?_;refine WL.load rfl rfl rfl rfl rfl rfl Br.ents ?_;refine K.kgo ?_;refine WL.idx i (ko + i * 46) rfl rfl rfl rfl rfl rfl rfl rfl hik rfl ?_;refine WL.loadMid rfl rfl rfl rfl rfl rfl (fun j u hu => (hwr.cell (p:=⟨kb,ko + i * 46 + j,none⟩) hkb).trans (hcr j u hu)) hc46 ?_;refine WL.alloc (z:=.agg (enC noE zCells).toArray) rfl rfl rfl rfl (fun _ => by kernel_rfl) fun c w5 hf5 => ?_;have hf5' : Fresh wr c w5 52 (enC noE zCells):=hf5;clear hf5;refine K.kgo ?_;refine WL.storeRow rfl rfl rfl rfl rfl rfl hf5'.blk hc46 (by rfl) hone ?_;have hk6 : Below wr.heap.size wr (w5.setRow c (enC e dc).toArray):=below_setRow hf5'.below (by rw [hf5'.eq];exact Nat.le_refl _) _;have C6 : EnAt 52 c (w5.setRow c (enC e dc).toArray) e dc:=⟨hf5'.blk.setRow _,hdl,hh⟩;have hce5:=hf5'.eq;generalize w5.setRow c (enC e dc).toArray = w6 at hk6 C6;clear hf5';have hw6:=hwr.trans (hk6.mono hwr.size);have hz6:=hk6.size;refine K.kgo ?_;refine WL.loadMid rfl rfl rfl rfl rfl rfl C6.data hdl ?_;refine WL.call rfl rfl rfl rfl rfl Tryz.func46 rfl (by kernel_rfl) (clone_any (B:=3000) (by omega) f (hv.below hw6) hsm1) ?_;rintro _ w7 ⟨hk7,c7,rfl,hv7⟩;refine ⟨_,rfl,?_⟩;have hz7:=hk7.size;have C7:=C6.below hk7;have hc7:=hv7.len;refine K.kgo ?_;refine WL.storeMid rfl rfl rfl rfl rfl rfl C7.blk hc7 (by rw [C7.len];omega) hv7.one ?_;have C8:=C7.setData (m:=c7) (off:=0 + 5) e.data hc7 rfl;have hk8 : Keep (fun x => x ≠ c) w7 (w7.setRow c ((enC e dc).take (0 + 5) ++ c7 ++ (enC e dc).drop (0 + 5 + 6)).toArray):=Keep.setRow (Keep.refl _ w7) (fun hk => hk rfl) _;have hv8 : IsVo (fun x => w6.heap.size ≤ x ∧ x ≠ c ∧ x < (w7.setRow c ((enC e dc).take (0 + 5) ++ c7 ++ (enC e dc).drop (0 + 5 + 6)).toArray).heap.size) f (w7.setRow c ((enC e dc).take (0 + 5) ++ c7 ++ (enC e dc).drop (0 + 5 + 6)).toArray) e.data c7 :=
      hv7.there.keep hk8 (fun x hx _ => by have:=C6.blk.lt;omega) fun x hx => by have:=C6.blk.lt;have:=hk8.size;omega
    have hw8 : Below wr.heap.size wr (w7.setRow c ((enC e dc).take (0 + 5) ++ c7 ++ (enC e dc).drop (0 + 5 + 6)).toArray):=Keep.below (Keep.setRow (Keep.of_below (hk6.trans (hk7.mono hz6))) (fun hk => by omega) _);generalize w7.setRow c ((enC e dc).take (0 + 5) ++ c7 ++ (enC e dc).drop (0 + 5 + 6)).toArray = w8 at C8 hv8 hw8 hk8;have C8b : EnAt 52 c w8 e c7:=C8;have hz8:=hw8.size;refine K.kgo ?_;refine WL.loadMid rfl rfl rfl rfl rfl rfl (VBlk.rangeAt C8b.blk) C8b.len ?_;have hE8 : IsEo (fun x => w6.heap.size ≤ x ∧ x ≠ c ∧ x < w8.heap.size) f w8 e (enC e c7):=⟨c7,rfl,hv8,hc7,hv7.one,hh,hby,htx,hrr⟩;refine WL.lit1 rfl rfl rfl rfl rfl rfl rfl hE8.len ⟨by omega,by omega⟩ (by kernel_rfl) fun g9 w9 hf9 => ?_;have hz9:=hf9.size;have hk9 : Below wr.heap.size wr w9:=hw8.trans (hf9.below.mono hz8);have hoE9 : OwnE 52 46 noE (IsEo (fun x => q x ∨ (wr.heap.size ≤ x ∧ x < w9.heap.size)) f w9) (fun x => w2.heap.size ≤ x) w9 vk (b.ents.take i) :=
      hoE.keep (Keep.of_below hk9) (fun g hg => hoE.lt hg) (fun _ h => h) fun x cs hx => EnP.mono (fun v cs hv => IsVo.keep (Keep.of_below hk9) (fun x hx _ => (hq x hx).2.1) (fun x hx => .inl hx) hv) hx
    have hE9 : IsEo (fun x => q x ∨ (wr.heap.size ≤ x ∧ x < w9.heap.size)) f w9 e (enC e c7):=EnP.mono (fun v cs hv => IsVo.keep (Keep.of_below hf9.below) (fun x hx _ => hx.2.2) (fun x hx => .inr (by omega)) hv) hE8;have hlt : (b.ents.take i).length ≤ i:=by rw [List.length_take];omega
    refine K.kgo ?_;refine WL.snoc rfl rfl rfl rfl elemE rfl hoE9 rfl hf9.blk hE8.one hE8.len hE9 (by omega) (by omega) fun vk10 w10 ho10 hg10 => ?_;have hbel10 : Below w2.heap.size w2 w10:=(hbr.trans (hk9.mono hzr)).trans (hg10.old (by omega) fun g hg => hoE9.own hg);have hq10 : ∀ x,(q x ∨ (wr.heap.size ≤ x ∧ x < w9.heap.size)) → w2.heap.size ≤ x ∧ x < w9.heap.size ∧ vk.ownBlock ≠ some x:=fun x hx => hx.elim (fun h => by
      obtain ⟨h1,h2,h3⟩:=hq x h;exact ⟨h1,by omega,h3⟩) fun h => ⟨by omega,h.2,fun e => by have:=hoE.lt e;omega⟩
    refine K.kgo ?_;refine WQ.again (i + 1,vk10) ⟨rfl,rfl,rfl,rfl,trivial⟩ ⟨hik,hbel10,(fun x => q x ∨ (wr.heap.size ≤ x ∧ x < w9.heap.size)),?_,fun x hx => ?_⟩ (by show b.ents.length - (i + 1) < b.ents.length - i;omega)
    · show OwnE _ _ _ _ _ _ _ (b.ents.take (i + 1))
      rw [hts];exact ho10.keep (Keep.refl (fun _ => True) w10) (fun _ _ => trivial) (fun x hx => by omega) fun x cs hx => EnP.mono (fun v cs hv => IsVo.keep hg10.1 (fun x hx _ => (hq10 x hx).2) (fun x hx => hx) hv) hx
    · obtain ⟨h1,h2,h3⟩:=hq10 x hx
      exact ⟨h1,Nat.lt_of_lt_of_le h2 hg10.1.size,fun e => (hg10.2 x e).elim h3 fun h4 => by omega⟩
  · obtain rfl : i = b.ents.length:=by omega
    rw [List.take_length] at hoE;have hvk:=hoE.one;have hset : Keep (fun x => x ≠ g) wr (wr.setCell ⟨g,35,none⟩ vk):=(Keep.refl _ wr).setCell (fun hk => hk rfl) _;refine K.kgo ?_;refine WL.store rfl rfl rfl rfl rfl hvk (by kernel_rfl) Br.ents (Br.blk.free 35) ?_;have E1:=Br.setEnts vk b.ents;have E2 : VBlk 33 (wr.setCell ⟨g,35,none⟩ vk) rg (bkC noB (.slice none 0 0)):=Rr.other _ _ (by show rg ≠ g;omega);have hwE : Below w.heap.size w (wr.setCell ⟨g,35,none⟩ vk):=Keep.below (Keep.setCell (Keep.of_below hwr) (fun hk => by simp only at hk;omega) _);have hown9 : OwnE 52 46 noE (IsEo q f (wr.setCell ⟨g,35,none⟩ vk)) (fun x => w2.heap.size ≤ x) (wr.setCell ⟨g,35,none⟩ vk) vk b.ents :=
      hoE.keep hset (fun x hx => by show x ≠ g;have:=hoE.own hx;omega) (fun _ h => h) fun x cs hx => EnP.mono (fun v cs hv => IsVo.keep hset (fun x hx _ => by show x ≠ g;have:=(hq x hx).1;omega) (fun _ h => h) hv) hx
    generalize wr.setCell ⟨g,35,none⟩ vk = w9 at E1 E2 hwE hown9;have E1b : BkAt 33 g w9 b vk:=E1;refine K.kgo ?_;refine WL.loadMid rfl rfl rfl rfl rfl rfl (VBlk.rangeAt E1b.blk) E1b.len ?_;have hone : Ones (bkC b vk):=by
      intro u hu;unfold bkC at hu;simp only [List.mem_cons,List.mem_append,List.not_mem_nil,or_false] at hu;rcases hu with rfl | rfl | rfl | hu | rfl
      all_goals first | rfl | exact Ones.int _ _ u hu | exact hvk
    refine WL.storeRow rfl rfl rfl rfl rfl rfl E2 E1b.len (by rfl) hone ?_;refine K.kgo ?_;have hset2 : ∀ a,Keep (fun x => x ≠ rg) w9 (w9.setRow rg a):=fun a => Keep.setRow (Keep.refl _ w9) (fun hk => hk rfl) a;refine WQ.retC rfl rfl rfl E1b.len (E2.setRow _) ⟨Keep.below (Keep.setRow (Keep.of_below hwE) (fun hk => by omega) _),vk,q,rfl,?_,fun x hx => ⟨by have:=(hq x hx).1;omega,(hq x hx).2.2⟩⟩;exact hown9.keep (hset2 _) (fun x hx => by show x ≠ rg;have:=hown9.own hx;omega) (fun x hx => by omega) fun x cs hx => EnP.mono (fun v cs hv => IsVo.keep (hset2 _) (fun x hx _ => by show x ≠ rg;have:=(hq x hx).1;omega) (fun _ h => h) hv) hx
end K
namespace Vw
open K
set_option maxRecDepth 100000
theorem flatL {k : List (List Value)} {m : Nat} (h : ∀ x ∈ k,x.length = m) : k.flatten.length = k.length * m:=by
  induction k with
  | nil => simp
  | cons a r ih =>
    rw [List.flatten_cons,List.length_append,h a (by simp),ih fun x hx => h x (List.mem_cons_of_mem _ hx),List.length_cons,Nat.succ_mul];omega
structure RowG {α : Type} (T : TypeId) (m : Nat) (z : α) (P : α → List Value → Prop) (w : World) (g : Nat) (kcs : List (List Value)) (tail : List Value) (es : List α) : Prop where
  blk : VBlk T w g (kcs.flatten ++ tail)
  len : kcs.length = es.length
  ats : ∀ j,j < es.length → (kcs.getD j []).length = m ∧ P (es.getD j z) (kcs.getD j [])
section
variable {α : Type} {T : TypeId} {m : Nat} {z : α} {P P' : α → List Value → Prop} {w w' : World} {g : Nat} {kcs : List (List Value)} {tail : List Value} {es : List α}
theorem RowG.all (h : RowG T m z P w g kcs tail es) : ∀ x ∈ kcs,x.length = m:=all_of_getD fun j hj => (h.ats j (by have:=h.len;omega)).1
theorem RowG.keep (h : RowG T m z P w g kcs tail es) {K : Nat → Prop} (hk : Keep K w w') (hg : K g) (hP : ∀ x cs,P x cs → P' x cs) : RowG T m z P' w' g kcs tail es :=
  ⟨VBlk.keep h.blk hk hg,h.len,fun j hj => ⟨(h.ats j hj).1,hP _ _ (h.ats j hj).2⟩⟩
theorem RowG.at (h : RowG T m z P w g kcs tail es) {j : Nat} (hj : j < es.length) : w.rangeAt g (j * m) (kcs.getD j []):=by
  intro i u hu;have him : i < m:=by
    rcases Nat.lt_or_ge i m with h3 | h3
    · exact h3
    · rw [List.getElem?_eq_none (by rw [(h.ats j hj).1];exact h3)] at hu;cases hu
  have hjk : j < kcs.length:=by have:=h.len;omega
  have hg:=flatten_get kcs h.all j i hjk him;have hlt : j * m + i < kcs.flatten.length:=by
    rcases Nat.lt_or_ge (j * m + i) kcs.flatten.length with h3 | h3
    · exact h3
    · rw [List.getElem?_eq_none h3,hu] at hg;cases hg
  have:=VBlk.rangeAt h.blk (j * m + i) u (by rw [List.getElem?_append_left hlt,hg,hu])
  rwa [Nat.zero_add] at this
theorem RowG.els {O : Nat → Prop} {cap : Nat} (h : RowG T m z P w g kcs tail es) (hO : O g) (h1 : es.length ≤ cap) (h2 : cap ≤ 9223372036854775807) : Els m z P O w (.slice (some ⟨g,0,none⟩) es.length cap) es:=by
  refine ⟨_,cap,rfl,h1,h2,(fun h => by cases h),fun _ => ⟨g,0,rfl,h.blk.lt,hO,fun j hj => ⟨kcs.getD j [],(h.ats j hj).1,(h.ats j hj).2,?_⟩⟩⟩;rw [Nat.zero_add];exact h.at hj
theorem RowG.split (h : RowG T m z P w g kcs tail es) {j : Nat} (hj : j < es.length) :
    kcs.flatten ++ tail = (kcs.take j).flatten ++ (kcs.getD j [] ++ ((kcs.drop (j + 1)).flatten ++ tail)) ∧ (kcs.take j).flatten.length = j * m:=by
  have hjk : j < kcs.length:=by have:=h.len;omega
  constructor
  · have e : kcs = kcs.take j ++ (kcs.getD j [] :: kcs.drop (j + 1)):=by
      rw [show kcs.getD j [] = kcs[j] by simp [hjk],← List.drop_eq_getElem_cons hjk,List.take_append_drop]
    conv => lhs;rw [e]
    simp [List.flatten_append,List.append_assoc]
  · rw [flatL fun x hx => h.all x (List.mem_of_mem_take hx),List.length_take]
    have : min j kcs.length = j:=by omega
    rw [this]
theorem RowG.put (h : RowG T m z P w g kcs tail es) {j : Nat} (hj : j < es.length) {e : α} {cs : List Value} (hc : cs.length = m) (hp : P' e cs)
    (hb : VBlk T w' g ((kcs.take j).flatten ++ (cs ++ ((kcs.drop (j + 1)).flatten ++ tail)))) (hP : ∀ x cs,P x cs → P' x cs) : RowG T m z P' w' g (kcs.set j cs) tail (es.set j e):=by
  have hjk : j < kcs.length:=by have:=h.len;omega
  refine ⟨?_,by rw [List.length_set,List.length_set];exact h.len,fun i hi => ?_⟩
  · have e1 : kcs.set j cs = kcs.take j ++ (cs :: kcs.drop (j + 1)):=List.set_eq_take_append_cons_drop .. |>.trans (if_pos hjk)
    rw [e1]
    simpa [List.flatten_append,List.append_assoc] using hb
  · rw [List.length_set] at hi
    have hik : i < kcs.length:=by have:=h.len;omega
    rcases Nat.decEq j i with hne | rfl
    · have a1 : (kcs.set j cs).getD i [] = kcs.getD i []:=by simp [List.getD_eq_getElem?_getD,hne]
      have a2 : (es.set j e).getD i z = es.getD i z:=by simp [List.getD_eq_getElem?_getD,hne]
      rw [a1,a2];exact ⟨(h.ats i hi).1,hP _ _ (h.ats i hi).2⟩
    · have a1 : (kcs.set j cs).getD j [] = cs:=by simp [List.getD_eq_getElem?_getD,hjk]
      have a2 : (es.set j e).getD j z = e:=by simp [List.getD_eq_getElem?_getD,hj]
      rw [a1,a2];exact ⟨hc,hp⟩
theorem OwnE.rowG {O : Nat → Prop} {v : Value} (h : OwnE T m z P O w v es) (hn : 0 < es.length) :
    ∃ g cap kcs tail,v = .slice (some ⟨g,0,none⟩) es.length cap ∧ O g ∧ es.length ≤ cap ∧ cap ≤ 9223372036854775807 ∧ RowG T m z P w g kcs tail es:=by
  obtain ⟨kcs,h1,h2,h3⟩:=h;rcases h3.form with ⟨-,hn0,-⟩ | ⟨g,cap,cur,rfl,hO,-,hb,q1,q2,-,q4⟩
  · omega
  · refine ⟨g,cap,kcs,cur.toList.drop (es.length * m),rfl,hO,q1,by unfold maxLen at q2;omega,?_,h1,h2⟩
    unfold VBlk;rw [← q4,List.take_append_drop,Array.toArray_toList];exact hb
end
theorem setMid {A B C m : List Value} {x off k : Nat} (hA : A.length = x) (hk : m.length = k) (hB : off + k ≤ B.length) :
    (A ++ (B ++ C)).take (x + off) ++ m ++ (A ++ (B ++ C)).drop (x + off + k) = A ++ ((B.take off ++ m ++ B.drop (off + k)) ++ C):=by
  subst hA;subst hk;rw [List.take_append,List.take_of_length_le (by omega),Nat.add_sub_cancel_left,List.take_append_of_le_length (by omega)];rw [Nat.add_assoc,List.drop_append,List.drop_eq_nil_of_le (by omega),Nat.add_sub_cancel_left,List.nil_append,List.drop_append_of_le_length (by omega)];simp [List.append_assoc]
theorem setOne {A B C : List Value} {x off : Nat} (v : Value) (hA : A.length = x) (hB : off < B.length) : (A ++ (B ++ C)).set (x + off) v = A ++ (B.set off v ++ C):=by
  subst hA;rw [List.set_append_right _ _ (by omega),Nat.add_sub_cancel_left,List.set_append_left _ _ hB]
theorem enCData {e : En} {dc m : List Value} (v : V) (hd : dc.length = 6) : (enC e dc).take 5 ++ m ++ (enC e dc).drop (5 + 6) = enC { e with data:=v } m:=by
  have : (enC e dc).drop 11 = hashC e.hash ++ [.bool e.gone,.int .i64 e.ab,.int .i64 e.ae]:=by
    unfold enC;simp only [List.drop_succ_cons];rw [List.drop_append,List.drop_eq_nil_of_le (by rw [hd];omega),hd];simp
  rw [this];simp [enC]
theorem enCGone {e : En} {dc : List Value} (g : Bool) (hd : dc.length = 6) (hh : e.hash.length = 32) : (enC e dc).set 43 (.bool g) = enC { e with gone:=g } dc:=by
  have h1 : enC e dc = (.int .i64 e.kind :: .string e.text :: .int .i64 e.table :: .int .i64 e.doc :: .int .i64 e.ver :: (dc ++ hashC e.hash)) ++ [.bool e.gone,.int .i64 e.ab,.int .i64 e.ae]:=by simp [enC]
  have h2 : (Value.int IntKind.i64 e.kind :: .string e.text :: .int .i64 e.table :: .int .i64 e.doc :: .int .i64 e.ver :: (dc ++ hashC e.hash)).length = 43:=by simp [hd,hh]
  rw [h1,List.set_append_right _ _ (by omega),h2];simp [enC]
section
variable {B : Nat} {w w' : World} {vb rb : Nat} {M D M' D' : Nat → Prop} {f : Nat} {s1 s2 : St} {N : Nat}
theorem Duo.keep (h : Duo B w vb rb M D M' D' f s1 s2 N) {K : Nat → Prop} (hk : Keep K w w') (hK : ∀ x,(M x ∨ D x) ∨ M' x ∨ D' x → K x) : Duo B w' vb rb M D M' D' f s1 s2 N:=⟨h.p.keep hk fun x hx => hK x (.inl hx),h.r.keep hk fun x hx => hK x (.inr hx),h.a1,h.a2⟩
theorem Duo.pres2 (h : Duo B w vb rb M D M' D' f s1 s2 N) {c : Int} {s' : St} {N' N'' : Nat} {e : Ending} (hp : PRes w vb M D (f + 1) c s' N' e w') (hN : N ≤ N'') (hN1 : N' ≤ N'') (hN' : N'' ≤ 1000000) (hB : B ≤ w.heap.size) :
    e = .returned (.int .i64 c) ∧ Keep (fun b => b < w.heap.size ∧ ¬ M b) w w' ∧ ∃ M1 D1,Duo B w' vb rb M1 D1 M' D' f s' s2 N'' ∧ (∀ b,M1 b → M b ∨ w.heap.size ≤ b) ∧ ∀ b,D1 b → D b ∨ w.heap.size ≤ b:=by
  obtain ⟨M1,D1,rfl,h1,k1,m1,d1⟩:=hp;have hl:=h.r.lt;refine ⟨rfl,k1,M1,D1,⟨h1.mono hN1 hN',(h.r.keep k1 fun b hb => ⟨hl b hb,fun hm => hb.elim (h.a1 b hm).2.1 (h.a1 b hm).2.2⟩).mono hN hN',fun x hx => ?_,fun x hx => ⟨(h.a2 x hx).1,fun hd => ?_⟩⟩,m1,d1⟩
  · rcases m1 x hx with q | q
    · exact h.a1 x q
    · exact ⟨by omega,fun hh => by have:=hl x (.inl hh);omega,fun hh => by have:=hl x (.inr hh);omega⟩
  · rcases d1 x hd with q | q
    · exact (h.a2 x hx).2 q
    · have:=hl x (.inl hx);omega
theorem Duo.rres2 (h : Duo B w vb rb M D M' D' f s1 s2 N) {c : Int} {s' : St} {N' N'' : Nat} {e : Ending} (hp : RPost w rb M' D' (f + 1) c s' N' e w') (hN : N ≤ N'') (hN1 : N' ≤ N'') (hN' : N'' ≤ 1000000) (hB : B ≤ w.heap.size) :
    e = .returned (.int .i64 c) ∧ Keep (fun b => b < w.heap.size ∧ ¬ M' b) w w' ∧ ∃ M1 D1,Duo B w' vb rb M D M1 D1 f s1 s' N'' ∧ (∀ b,M1 b → M' b ∨ w.heap.size ≤ b) ∧ ∀ b,D1 b → D' b ∨ w.heap.size ≤ b:=by
  obtain ⟨M1,D1,rfl,h1,k1,m1,d1⟩:=hp;have hl:=h.p.lt;refine ⟨rfl,k1,M1,D1,⟨(h.p.keep k1 fun b hb => ⟨hl b hb,fun hm => hb.elim (fun q => (h.a1 b q).2.1 hm) (h.a2 b hm).2⟩).mono hN hN',h1.mono hN1 hN',fun x hx => ⟨(h.a1 x hx).1,fun hm => ?_,fun hd => ?_⟩,fun x hx => ?_⟩,m1,d1⟩
  · rcases m1 x hm with q | q
    · exact (h.a1 x hx).2.1 q
    · have:=hl x (.inl hx);omega
  · rcases d1 x hd with q | q
    · exact (h.a1 x hx).2.2 q
    · have:=hl x (.inl hx);omega
  · rcases m1 x hx with q | q
    · exact h.a2 x q
    · exact ⟨by omega,fun hh => by have:=hl x (.inr hh);omega⟩
end
theorem appR_bad {s : St} {b : Bk} (h : (appR s b).1 ≠ 0) : (appR s b).2 = s:=by
  classical
  unfold appR at h ⊢
  split
  · rfl
  · split
    · rfl
    · split
      · rename_i h1 h2 h3
        rw [if_neg h1,if_neg h2,if_pos h3] at h;exact absurd rfl h
      · rfl
theorem Runs.nil_st {s : St} (h : Runs [] s) : s = st0:=by
  generalize hl : ([] : List Bk) = l at h;cases h with
  | nil => rfl
  | snoc _ _ => simp at hl
theorem Runs.inv_snoc {l : List Bk} {b : Bk} {s : St} (h : Runs (l ++ [b]) s) : ∃ s0,Runs l s0 ∧ (appR s0 b).1 = 0 ∧ s = (appR s0 b).2:=by
  generalize hl : l ++ [b] = l2 at h;cases h with
  | nil => simp at hl
  | @snoc l3 s0 b3 h0 h1 =>
    obtain ⟨rfl,e⟩:=List.append_inj' hl rfl;obtain rfl : b = b3:=by simpa using e
    exact ⟨s0,h0,h1,rfl⟩
theorem Runs.det {l : List Bk} {s : St} (h : Runs l s) : ∀ {s'},Runs l s' → s = s':=by
  induction h with
  | nil => exact fun h' => h'.nil_st.symm
  | snoc h h0 ih =>
    intro s' h';obtain ⟨s0,q1,-,rfl⟩:=h'.inv_snoc;rw [ih q1]
theorem Runs.take {l : List Bk} {s : St} (h : Runs l s) : ∀ i,i < l.length → ∃ si,Runs (l.take i) si ∧ (appR si (l.getD i noB)).1 = 0 ∧ Runs (l.take (i + 1)) (appR si (l.getD i noB)).2:=by
  induction h with
  | nil => exact fun i hi => by simp at hi
  | @snoc l s b h h0 ih =>
    intro i hi;rw [getD_b]
    by_cases h1 : i < l.length
    · obtain ⟨si,q1,q2,q3⟩:=ih i h1
      rw [if_pos h1,List.take_append_of_le_length (by omega),List.take_append_of_le_length (by omega)];exact ⟨si,q1,q2,q3⟩
    · rw [List.length_append,List.length_singleton] at hi
      have h2 : i = l.length:=by omega
      subst h2;rw [if_neg h1,if_pos rfl,List.take_append_of_le_length (Nat.le_refl _),List.take_length,List.take_of_length_le (by simp)];exact ⟨s,h,h0,Runs.snoc h h0⟩
theorem redG_sm {f : Nat} {G : Int × Int → Bool} {b : Bk} (h : BkSm (f + 1) b) : BkSm (f + 1) (redG G b):=by
  have hl : (redG G b).ents.length = b.ents.length:=redF_len ..;refine ⟨by rw [hl];exact h.ents,fun k hk => ?_,fun e he hc => ?_⟩
  · rw [hl] at hk
    have:=redF_getD G b.index b.ents 0 k hk
    show Sm 3000 (f + 1) ((redF' G b.index b.ents 0).getD k noE).data
    rw [this]
    split
    · exact zSm f
    · exact h.sm k hk
  · obtain ⟨j,hj,rfl⟩:=redF_mem he
    split
    · exact zLen
    · rename_i hg
      rw [if_neg hg] at hc;exact h.len _ (by rw [getD_lt hj];exact List.getElem_mem hj) hc
theorem IsBo.mono {E E' : Nat → Prop} {f : Nat} {w : World} {b : Bk} {bc : List Value} (hb : IsBo E f w b bc) (h : ∀ x,E x → E' x) : IsBo E' f w b bc:=by
  obtain ⟨se,q1,q2,q3⟩:=hb;exact ⟨se,q1,K.Els.mono q2 h (fun _ _ hp => EnP.mono (fun _ _ hv => hv.mono h) hp),q3⟩
abbrev bksT : Nat:=54
theorem elemBk : ElemV Tryz.prog bksT bkT 36 80:=ElemV.mk' (z:=.agg (bkC noB (.slice none 0 0)).toArray) Tryz.underlying54 (by kernel_rfl) rfl (by omega)
end Vw
namespace Vw
open K
set_option maxRecDepth 100000
theorem Duo.mono {B : Nat} {w : World} {vb rb : Nat} {M D M' D' : Nat → Prop} {f : Nat} {s1 s2 : St} {N N' : Nat} (h : Duo B w vb rb M D M' D' f s1 s2 N) (h1 : N ≤ N') (h2 : N' ≤ 1000000) : Duo B w vb rb M D M' D' f s1 s2 N':=⟨h.p.mono h1 h2,h.r.mono h1 h2,h.a1,h.a2⟩
theorem redG_none (b : Bk) : redG (fun _ => false) b = b:=by
  have : ∀ (l : List En) (k : Nat),redF' (fun _ => false) b.index l k = l:=fun l => by
    induction l with
    | nil => exact fun _ => rfl
    | cons e r ih => intro k;unfold redF';rw [ih];simp
  unfold redG;rw [this]
theorem map_getD {G : Int × Int → Bool} {BL : List Bk} {k : Nat} (h : k < BL.length) : (BL.map (redG G)).getD k noB = redG G (BL.getD k noB):=by
  rw [getD_lt (by rw [List.length_map];exact h),getD_lt h,List.getElem_map]
theorem red_map_eq {BL : List Bk} {G G' : Int × Int → Bool} (h : ∀ j,j < BL.length → redG G (BL.getD j noB) = redG G' (BL.getD j noB)) : BL.map (redG G) = BL.map (redG G'):=by
  apply List.ext_getElem
  · simp
  · intro j h1 h2
    rw [List.length_map] at h1;have:=h j h1;rw [getD_lt h1] at this;rw [List.getElem_map,List.getElem_map,this]
theorem red_map_set {BL : List Bk} {G G' : Int × Int → Bool} {k : Nat} {x : Bk} (hx : redG G (BL.getD k noB) = x) (h : ∀ j,j < BL.length → j ≠ k → redG G (BL.getD j noB) = redG G' (BL.getD j noB)) : BL.map (redG G) = (BL.map (redG G')).set k x:=by
  apply List.ext_getElem
  · simp
  · intro j h1 h2
    rw [List.length_map] at h1;rw [List.getElem_map,List.getElem_set]
    by_cases hjk : k = j
    · subst hjk
      rw [if_pos rfl,← hx,getD_lt h1]
    · rw [if_neg hjk,List.getElem_map]
      have:=h j h1 (fun e => hjk e.symm)
      rwa [getD_lt h1] at this
def gK (L : List Rw) (i k : Nat) : Int × Int → Bool:=if (L.getD i noR).gone = true ∧ (L.getD i noR).blk < (k : Int) then gN L (i + 1) else gN L i
set_option maxHeartbeats 16000000 in
theorem replay_law {w : World} {f : Nat} {v : Value} {LL : List (List Ac)} (h : IsActss (fun b => b < w.heap.size) (f + 1) w v LL) (hLL : LL.length ≤ 140737488355328) : Calls Tryz.prog 4 #[v] w fun e w' => e = .returned (.bool true) ∧ Below w.heap.size w w':=by
  obtain ⟨spv,capv,rfl,hc1,hc2,hc3,hrow⟩:=id h;refine enter (args:=[.slice spv LL.length capv]) Tryz.func4 rfl Tryz.ntmps4 rfl ?_;refine K.kgo ?_;refine WL.call rfl rfl rfl rfl rfl Tryz.func8 rfl (by kernel_rfl) (heavy_any h) ?_;rintro _ w1 ⟨b1,hv,rfl,hlite⟩;refine ⟨_,rfl,?_⟩;cases hv with
  | true =>
    refine K.kgo ?_;refine WL.call rfl rfl rfl rfl rfl Tryz.func9 rfl (by kernel_rfl) known_any ?_;rintro _ w2 ⟨rfl,b2⟩;refine ⟨_,rfl,?_⟩;refine K.kgo ?_;exact WQ.ret1 rfl rfl ⟨rfl,b1.trans (b2.mono b1.size)⟩
  | false =>
  obtain ⟨hl60,htot,hlt⟩:=hlite rfl;refine K.kgo ?_;refine WL.call rfl rfl rfl rfl rfl Tryz.func10 rfl (by kernel_rfl) (pnew_any (f:=f + 1)) ?_;rintro _ w2 ⟨vb0,M1,rfl,hp2,b2,m1⟩;refine ⟨_,rfl,?_⟩;refine K.kgo ?_;refine WL.nilP rfl rfl rfl rfl rfl rfl (by kernel_rfl) ?_;refine K.kgo ?_;refine WL.call rfl rfl rfl rfl rfl Tryz.func11 rfl (by kernel_rfl) (rnew_any (f:=f + 1)) ?_;rintro _ w3 ⟨rb,M2,rfl,hr3,b3,m2⟩;refine ⟨_,rfl,?_⟩;have z1:=b1.size;have z2:=b2.size;have hlt1:=hp2.lt;have h3 : Duo w.heap.size w3 vb0 rb M1 (fun _ => False) M2 (fun _ => False) f st0 st0 0:=⟨hp2.below b3,hr3,fun x hx => ⟨by have:=m1 x hx;omega,fun hh => by have:=m2 x hh;have:=hlt1 x (.inl hx);omega,fun hh => hh⟩,fun x hx => ⟨by have:=m2 x hx;omega,fun hh => hh⟩⟩;have c3 : Below w.heap.size w w3:=(b1.trans (b2.mono z1)).trans (b3.mono (by omega));clear hp2 hr3 hlt1 m1 m2 b1 b2 b3 z1 z2;refine K.kgo ?_;refine WC.loop (fun q : Nat × Value => [(0,.slice spv LL.length capv),(3,.pointer (some ⟨vb0,0,none⟩)),(4,.pointer (some ⟨rb,0,none⟩)),(5,q.2),(6,.int .i64 q.1)])
    (fun q wx => q.1 ≤ LL.length ∧ Below w.heap.size w wx ∧ ∃ (s : St) (M D M' D' F : Nat → Prop) (BL : List Bk),Duo w.heap.size wx vb0 rb M D M' D' f s s (5 * tot (LL.take q.1) + 2 * q.1) ∧ Runs BL s ∧ BL.length ≤ q.1 ∧ OwnE bkT 36 noB (IsBo F (f + 1) wx) (fun _ => True) wx q.2 BL ∧
      (∀ x,F x → x < wx.heap.size ∧ ¬ M x ∧ ¬ M' x ∧ q.2.ownBlock ≠ some x) ∧ (∀ g,q.2.ownBlock = some g → w.heap.size ≤ g ∧ ¬ M g ∧ ¬ D g ∧ ¬ M' g ∧ ¬ D' g) ∧ ∀ b ∈ BL,BkSm (f + 1) b) (fun q => LL.length - q.1) (0,.slice none 0 0) ⟨rfl,rfl,rfl,rfl,rfl,trivial⟩
    ⟨Nat.zero_le _,c3,st0,_,_,_,_,fun _ => False,[],h3,Runs.nil,Nat.zero_le _,K.OwnE.nil _ _ _ _ _ _,(fun _ h => h.elim),(fun g h => by cases h),(fun _ h => by cases h)⟩ ?_
  clear h3 c3;rintro ⟨i,tv⟩ wl ⟨hi,bl,s,M,D,M',D',F,BL,hD,hR,hBi,hoE,hfp,hown,hbsm⟩;simp only at hi hD hBi hoE hfp hown ⊢;have hI:=hR.inv.1;have hol : ∀ g,tv.ownBlock = some g → g < wl.heap.size:=fun g hg => K.OwnE.lt hoE hg;obtain ⟨spb,cpb,rfl,-⟩:=id (K.OwnE.els hoE)
  by_cases hik : i < LL.length
  case pos =>
    have zl:=bl.size;obtain ⟨bq,oq,rfl,hbq,hOq,hcells⟩:=hrow (by omega);obtain ⟨cs,-,⟨u,rfl,hu⟩,hat⟩:=hcells i hik;have hts:=tot_snoc LL hik;have htl:=tot_le LL (i + 1);have hlL : ∀ x ∈ LL.getD i [],Lite (f + 1) x:=hlt _ (by rw [List.getD_eq_getElem?_getD,List.getElem?_eq_getElem hik];exact List.getElem_mem hik);generalize LL.getD i [] = L at hu hts hlL;have hcu : wl.cell? ⟨bq,oq + i * 1,none⟩ = some u:=(bl.cell (p:=⟨bq,oq + i * 1,none⟩) hbq).trans (hat 0 _ rfl);obtain ⟨spu,capu,rfl,-⟩:=id hu;refine K.kgl ?_;refine WL.idx i (oq + i * 1) rfl rfl rfl rfl rfl rfl rfl rfl hik rfl ?_;refine K.kgl ?_;refine WL.call rfl rfl rfl rfl rfl Tryz.func12 rfl (by kernel_rfl) (made_any hD.r hI.1.copy (fun x hx => by omega) (hu.below bl) hlL (by omega)) ?_;rintro _ w5 ⟨b5,bc,rfl,hbo⟩;refine ⟨_,rfl,?_⟩;have hsm : BkSm (f + 1) (madeR s L):=madeR_sm hlL (by omega);have hel : (madeR s L).ents.length = L.length:=actsR_len _ _ _ _;have hbl:=hbo.len;have ltM:=hD.p.lt;have ltR:=hD.r.lt;have hD5:=hD.below b5;have z5:=b5.size;refine WL.alloc (z:=.agg (bkC noB (.slice none 0 0)).toArray) rfl rfl rfl rfl (fun _ => by kernel_rfl) fun g8 w6 f6 => ?_;refine WL.storeRow rfl rfl rfl rfl rfl rfl f6.blk hbl rfl hbo.one ?_;obtain ⟨v8,b8,-,e8⟩:=rowed bc (Below.refl w5.heap.size w5) f6;generalize w6.setRow g8 _ = w7 at v8 b8 ⊢;clear f6;have hD7:=hD5.below b8;have hb7:=IsBo.there (IsBo.below hbo b8);have c7 : Below w.heap.size w w7:=(bl.trans (b5.mono zl)).trans (b8.mono (by omega));have z8:=b8.size;clear hbo hD5;refine K.kgo ?_;refine WL.loadMid rfl rfl rfl rfl rfl rfl (VBlk.rangeAt v8) hbl ?_;refine WL.call rfl rfl rfl rfl rfl Tryz.func14 rfl (by kernel_rfl) (rapply15_any hD7.r (fun x hx => by omega) hb7 hsm (by omega) hI.1.copy) ?_;rintro _ w9 hp9;obtain ⟨rfl,k9,M3,D3,hD9,m3,d3⟩:=hD7.rres2 (N'':=5 * tot (LL.take i) + 2 * i + L.length + 1) hp9 (by omega) (by omega) (by omega) c7.size;refine ⟨_,rfl,?_⟩;have z9:=k9.size;have c9 : Below w.heap.size w w9:=((Keep.of_below c7).trans (k9.mono fun x (hx : x < w.heap.size) => ⟨by have:=c7.size;omega,fun hm => by have:=(hD.a2 x hm).1;omega⟩)).below;have bl7 : Below wl.heap.size wl w7:=b5.trans (b8.mono z5);have kl9 : Keep (fun x => x < wl.heap.size ∧ ¬ M' x) wl w9:=((Keep.of_below bl7).mono fun x hx => hx.1).trans (k9.mono fun x hx => ⟨by omega,hx.2⟩);have hm3 : ∀ x,x < w7.heap.size → ¬ M' x → ¬ M3 x:=fun x h1 h2 hm => (m3 x hm).elim h2 fun h => by omega
    have hd3 : ∀ x,x < w7.heap.size → ¬ D' x → ¬ D3 x:=fun x h1 h2 hm => (d3 x hm).elim h2 fun h => by omega
    have hoE9 : OwnE bkT 36 noB (IsBo F (f + 1) w9) (fun _ => True) w9 (.slice spb BL.length cpb) BL:=K.OwnE.keep hoE kl9 (fun g hg => ⟨hol g hg,(hown g hg).2.2.2.1⟩) (fun _ h => h) fun _ _ hp => IsBo.keep hp kl9 fun x hx _ => ⟨(hfp x hx).1,(hfp x hx).2.2.1⟩;have hfp9 : ∀ x,F x → x < w9.heap.size ∧ ¬ M x ∧ ¬ M3 x ∧ (Value.slice spb BL.length cpb).ownBlock ≠ some x:=fun x hx => by
      obtain ⟨q1,q2,q3,q4⟩:=hfp x hx;exact ⟨by omega,q2,hm3 x (by omega) q3,q4⟩
    have hown9 : ∀ g,(Value.slice spb BL.length cpb).ownBlock = some g → w.heap.size ≤ g ∧ ¬ M g ∧ ¬ D g ∧ ¬ M3 g ∧ ¬ D3 g:=fun g hg => by
      obtain ⟨q1,q2,q3,q4,q5⟩:=hown g hg;have:=hol g hg;exact ⟨q1,q2,q3,hm3 g (by omega) q4,hd3 g (by omega) q5⟩
    by_cases hac : (appR s (madeR s L)).1 = 0
    case neg =>
      rw [appR_bad hac] at hD9;generalize (appR s (madeR s L)).1 = ac at hac;refine K.kgo ?_;exact WQ.again (i + 1,.slice spb BL.length cpb) ⟨rfl,rfl,rfl,rfl,rfl,trivial⟩ ⟨hik,c9,s,M,D,M3,D3,F,BL,hD9.mono (by show _ ≤ 5 * tot (LL.take (i + 1)) + 2 * (i + 1);omega) (by show 5 * tot (LL.take (i + 1)) + 2 * (i + 1) ≤ 1000000;omega),hR,by show BL.length ≤ i + 1;omega,hoE9,hfp9,hown9,hbsm⟩ (by show LL.length - (i + 1) < LL.length - i;omega)
    case pos =>
    have hR2:=Runs.snoc hR hac;have lg8:=VBlk.lt v8;have v9:=v8.keep k9 ⟨lg8,fun hm => by have:=ltR g8 (.inl hm);omega⟩;have hb9:=IsBo.keep hb7 k9 fun x hx _ => ⟨by omega,fun hm => by have:=ltR x (.inl hm);have:=(hD.a2 x hm).1;omega⟩;have hsn:=hac;generalize hA : appR s (madeR s L) = A at hD9 hR2 hsn ⊢;obtain ⟨ac,s2⟩:=A;simp only at hD9 hR2 hsn ⊢;subst hsn;refine K.kgo ?_;refine WL.loadMid rfl rfl rfl rfl rfl rfl (VBlk.rangeAt v9) hbl ?_;refine WL.call rfl rfl rfl rfl rfl Tryz.func13 rfl (by kernel_rfl) (papply_any hD9.p hI (fun x hx => by omega) hb9 hsm (by omega)) ?_;rintro _ w10 hp10;rw [hA] at hp10;obtain ⟨rfl,k10,M4,D4,hD10,m4,d4⟩:=hD9.pres2 (N'':=5 * tot (LL.take (i + 1)) + 2 * (i + 1)) hp10 (by omega) (by omega) (by omega) c9.size;refine ⟨_,rfl,?_⟩;have z10:=k10.size;have c10 : Below w.heap.size w w10:=((Keep.of_below c9).trans (k10.mono fun x (hx : x < w.heap.size) => ⟨by have:=c9.size;omega,fun hm => by have:=(hD.a1 x hm).1;omega⟩)).below;have kl10 : Keep (fun x => x < wl.heap.size ∧ ¬ M' x ∧ ¬ M x) wl w10:=(kl9.mono fun x hx => ⟨hx.1,hx.2.1⟩).trans (k10.mono fun x hx => ⟨by omega,hx.2.2⟩);have v10:=v9.keep k10 ⟨by omega,fun hm => by have:=ltM g8 (.inl hm);omega⟩;have hb10:=IsBo.keep hb9 k10 fun x hx _ => ⟨by omega,fun hm => by have:=ltM x (.inl hm);have:=(hD.a1 x hm).1;omega⟩;have hm4 : ∀ x,x < w9.heap.size → ¬ M x → ¬ M4 x:=fun x h1 h2 hm => (m4 x hm).elim h2 fun h => by omega
    have hd4 : ∀ x,x < w9.heap.size → ¬ D x → ¬ D4 x:=fun x h1 h2 hm => (d4 x hm).elim h2 fun h => by omega
    clear hp9 hp10 k9 k10 hD9 hb9 v9 hoE9 hfp9;refine K.kgo ?_;refine WL.loadMid rfl rfl rfl rfl rfl rfl (VBlk.rangeAt v10) hbl ?_;refine WL.lit1 rfl rfl rfl rfl rfl rfl rfl hbl ⟨by omega,by omega⟩ (by kernel_rfl) fun g11 w11 f11 => ?_;have z11:=f11.below.size;have kl11 : Keep (fun x => x < wl.heap.size ∧ ¬ M' x ∧ ¬ M x) wl w11:=kl10.trans ((Keep.of_below f11.below).mono fun x hx => by have:=hx.1;omega);have hE7 : ∀ x,((x < w.heap.size ∨ wl.heap.size ≤ x) ∧ x < w7.heap.size) → x < w11.heap.size ∧ (Value.slice spb BL.length cpb).ownBlock ≠ some x:=fun x hx => ⟨by omega,fun e => by have h1:=(hown x e).1;have h2:=hol x e;omega⟩;have hoE11 : OwnE bkT 36 noB (IsBo (fun x => F x ∨ ((x < w.heap.size ∨ wl.heap.size ≤ x) ∧ x < w7.heap.size)) (f + 1) w11) (fun _ => True) w11 (.slice spb BL.length cpb) BL :=
      K.OwnE.keep hoE kl11 (fun g hg => ⟨hol g hg,(hown g hg).2.2.2.1,(hown g hg).2.1⟩) (fun _ h => h) fun _ _ hp => IsBo.mono (IsBo.keep hp kl11 fun x hx _ => ⟨(hfp x hx).1,(hfp x hx).2.2.1,(hfp x hx).2.1⟩) fun x hx => .inl hx
    have hb11 : IsBo (fun x => F x ∨ ((x < w.heap.size ∨ wl.heap.size ≤ x) ∧ x < w7.heap.size)) (f + 1) w11 (madeR s L) bc:=IsBo.mono (IsBo.below hb10 f11.below) fun x hx => .inr hx;refine WL.snoc (y:=madeR s L) rfl rfl rfl rfl elemBk rfl hoE11 rfl f11.blk (BkP.one hb11) hbl hb11 (by omega) (by omega) fun tv2 w12 o12 gr12 => ?_;have z12:=gr12.1.size;have hFk : ∀ x,(F x ∨ ((x < w.heap.size ∨ wl.heap.size ≤ x) ∧ x < w7.heap.size)) → x < w11.heap.size ∧ (Value.slice spb BL.length cpb).ownBlock ≠ some x:=fun x hx => hx.elim (fun h => ⟨by have:=(hfp x h).1;omega,(hfp x h).2.2.2⟩) (hE7 x);have hD12 : Duo w.heap.size w12 vb0 rb M4 D4 M3 D3 f s2 s2 (5 * tot (LL.take (i + 1)) + 2 * (i + 1)):=(hD10.below f11.below).keep gr12.1 fun x hx => ⟨by
        rcases hx with hx | hx
        · have:=hD10.p.lt x hx;omega
        · have:=hD10.r.lt x hx;omega,fun e => by
        obtain ⟨q1,q2,q3,q4,q5⟩:=hown9 x e;have:=hol x e;rcases hx with (hx | hx) | hx | hx
        · exact hm4 x (by omega) q2 hx
        · exact hd4 x (by omega) q3 hx
        · exact q4 hx
        · exact q5 hx⟩
    have ltM4:=hD10.p.lt;have ltM3:=hD10.r.lt;refine K.kgo ?_;refine WQ.again (i + 1,tv2) ⟨rfl,rfl,rfl,rfl,rfl,trivial⟩ ⟨hik,?_,s2,M4,D4,M3,D3,(fun x => F x ∨ ((x < w.heap.size ∨ wl.heap.size ≤ x) ∧ x < w7.heap.size)),BL ++ [madeR s L],hD12,hR2,?_,?_,fun x hx => ?_,fun g hg => ?_,fun b hb => ?_⟩ (by show LL.length - (i + 1) < LL.length - i;omega)
    · exact (c10.trans (f11.below.mono c10.size)).trans (gr12.old (by have:=c10.size;omega) fun g hg => (hown g hg).1)
    · show (BL ++ [madeR s L]).length ≤ i + 1
      rw [List.length_append];simp;omega
    · exact K.OwnE.keep o12 (Keep.refl (fun _ => True) w12) (fun _ _ => trivial) (fun _ _ => trivial) fun _ _ hp => IsBo.keep hp gr12.1 fun x hx _ => hFk x hx
    · have h1:=hFk x hx
      refine ⟨by omega,fun hm => ?_,fun hm => ?_,fun e => (gr12.2 x e).elim h1.2 fun h => by omega⟩
      · rcases hx with hx | hx
        · exact hm4 x (by have:=(hfp x hx).1;omega) (hfp x hx).2.1 hm
        · refine hm4 x (by omega) (fun hm2 => ?_) hm
          have:=ltM x (.inl hm2);have:=(hD.a1 x hm2).1;omega
      · rcases hx with hx | hx
        · exact hm3 x (by have:=(hfp x hx).1;omega) (hfp x hx).2.2.1 hm
        · refine hm3 x (by omega) (fun hm2 => ?_) hm
          have:=ltR x (.inl hm2);have:=(hD.a2 x hm2).1;omega
    · rcases gr12.2 g hg with q | q
      · obtain ⟨q1,q2,q3,q4,q5⟩:=hown9 g q
        have:=hol g q;exact ⟨q1,hm4 g (by omega) q2,hd4 g (by omega) q3,q4,q5⟩
      · have h0:=c10.size
        exact ⟨by omega,fun h => by have:=ltM4 g (.inl h);omega,fun h => by have:=ltM4 g (.inr h);omega,fun h => by have:=ltM3 g (.inl h);omega,fun h => by have:=ltM3 g (.inr h);omega⟩
    · rcases List.mem_append.1 hb with q | q
      · exact hbsm b q
      · rw [List.mem_singleton.1 q];exact hsm
  case neg =>
  obtain rfl : i = LL.length:=by omega
  rw [List.take_length] at hD;have hNN : 5 * tot LL + 2 * LL.length ≤ 100000:=by omega
  generalize 5 * tot LL + 2 * LL.length = NN at hD hNN;have hI1:=hI.1;have bl0:=bl.size;obtain ⟨rcp,rOc,rv,mb,rk,rr⟩:=id hD.r;have hrk:=rr.ok;have hrl:=own_els rr.rows;obtain ⟨spr,cpr,rfl,-⟩:=id hrl;have d1:=rr.vb.cell 1 (by simp);simp only [List.getD_cons_succ,List.getD_cons_zero] at d1;have lrb:=rr.lt rb (.inl rr.mrb);have hMK : ∀ x,(M x ∨ D x) ∨ M' x ∨ D' x → x < wl.heap.size ∧ (Value.slice spb BL.length cpb).ownBlock ≠ some x:=fun x hx => ⟨by
    rcases hx with hx | hx
    · exact hD.p.lt x hx
    · exact hD.r.lt x hx,fun e => by
    obtain ⟨-,q2,q3,q4,q5⟩:=hown x e;rcases hx with (hx | hx) | hx | hx
    · exact q2 hx
    · exact q3 hx
    · exact q4 hx
    · exact q5 hx⟩
  have hbcell : ∀ {wx : World} {b o : Nat},Keep (fun x => x < wl.heap.size ∧ (Value.slice spb BL.length cpb).ownBlock ≠ some x) wl wx → (M' b) → wx.cell? ⟨b,o,none⟩ = wl.cell? ⟨b,o,none⟩:=fun hk hb => hk.cell (hMK _ (.inr (.inl hb)));have hBL0 : 0 < BL.length → ∃ g,spb = some ⟨g,0,none⟩ ∧ BL.length ≤ cpb ∧ cpb ≤ 9223372036854775807 ∧ ∃ kcs tail,RowG bkT 36 noB (IsBo F (f + 1) wl) wl g kcs tail BL:=fun h0 => by
    obtain ⟨g,cap,kcs,tail,e,-,q1,q2,q3⟩:=OwnE.rowG hoE h0
    injection e with e1 _ e3
    subst e3;exact ⟨g,e1,q1,q2,kcs,tail,q3⟩
  have hoe : ∀ {g : Nat},spb = some ⟨g,0,none⟩ → (Value.slice spb BL.length cpb).ownBlock = some g:=fun h => by rw [h];rfl
  have hBid : BL.map (redG (gN s.rows 0)) = BL:=by
    rw [gN_zero]
    conv => rhs;rw [← List.map_id BL]
    exact List.map_congr_left fun b _ => redG_none b
  have hrowsB:=hR.rows;refine K.kgo ?_;refine WC.loop (fun i : Nat => [(3,.pointer (some ⟨vb0,0,none⟩)),(4,.pointer (some ⟨rb,0,none⟩)),(5,.slice spb BL.length cpb),(8,.int .i64 i)])
    (fun i wx => i ≤ s.rows.length ∧ Keep (fun x => x < wl.heap.size ∧ (Value.slice spb BL.length cpb).ownBlock ≠ some x) wl wx ∧ ∃ F : Nat → Prop,(∀ g,spb = some ⟨g,0,none⟩ → 0 < BL.length → ∃ kcs tail,RowG bkT 36 noB (IsBo F (f + 1) wx) wx g kcs tail (BL.map (redG (gN s.rows i)))) ∧
      ∀ x,F x → x < wx.heap.size ∧ ¬ M x ∧ ¬ M' x ∧ (Value.slice spb BL.length cpb).ownBlock ≠ some x) (fun i => s.rows.length - i) 0 ⟨rfl,rfl,rfl,rfl,trivial⟩
    ⟨Nat.zero_le _,Keep.refl _ _,F,fun g hg h0 => by
      obtain ⟨g',e,-,-,kcs,tail,q⟩:=hBL0 h0;rw [e] at hg;obtain rfl : g' = g:=by simpa using hg
      rw [hBid];exact ⟨kcs,tail,q⟩,hfp⟩ ?_
  have hBc : 0 < BL.length → BL.length ≤ cpb ∧ cpb ≤ 9223372036854775807:=fun h0 => by obtain ⟨g,-,q1,q2,-⟩:=hBL0 h0;exact ⟨q1,q2⟩
  have hBg : 0 < BL.length → ∃ g,spb = some ⟨g,0,none⟩:=fun h0 => by obtain ⟨g,q,-⟩:=hBL0 h0;exact ⟨g,q⟩
  clear hoE hfp F hBL0 hBid;rintro i wi ⟨hii,ki,F,hrowi,hfp⟩;have d1i:=(ki.cell (p:=⟨rb,1,none⟩) (hMK rb (.inr (.inl rr.mrb)))).trans d1;have zi:=ki.size
  by_cases hlt : i < s.rows.length
  case pos =>
    obtain ⟨b,o,cap',dc,es,hb0,hMb,R0,hdv,hrok,-⟩:=els_at hrl hlt;obtain ⟨rfl,rfl⟩ : spr = some ⟨b,o,none⟩ ∧ cpr = cap':=by simpa using es
    clear es;obtain ⟨jj,kk,hjj,hkk,ebl,een,-⟩:=hrowsB _ (getD_mem hlt);obtain ⟨g,rfl⟩:=hBg (by omega);obtain ⟨hBc1,hBc2⟩:=hBc (by omega);have hog:=hoe (g:=g) rfl;have Ri:=R0.below ki (hMK b (.inr (.inl hMb)));have hstep:=fun (b' : Bk) (hk : kk < b'.ents.length) (hb : (s.rows.getD i noR).blk = b'.index) (hg : (s.rows.getD i noR).gone = true) => red_step hlt hk een hb hg;have hoth:=fun (b' : Bk) (h : (s.rows.getD i noR).gone = false ∨ (s.rows.getD i noR).blk ≠ b'.index) => red_other hlt h;have hgK : ∀ k,gK s.rows i k = if (s.rows.getD i noR).gone = true ∧ (s.rows.getD i noR).blk < (k : Int) then gN s.rows (i + 1) else gN s.rows i:=fun k => rfl
    generalize hRr : s.rows.getD i noR = r at *;refine K.kgl ?_;refine WL.idx i (o + i * 14) rfl rfl rfl rfl rfl rfl rfl rfl hlt rfl ?_;refine WL.loadMid rfl rfl rfl rfl rfl rfl Ri.all (rwC_len hdv.len) ?_;refine WL.alloc (z:=.agg (rwC noR zCells).toArray) rfl rfl rfl rfl (fun _ => by kernel_rfl) fun g9 wa fa => ?_;refine WL.storeRow rfl rfl rfl rfl rfl rfl fa.blk (rwC_len hdv.len) rfl (rwC_one hdv.one) ?_;obtain ⟨v9,b9,-,e9⟩:=rowed (rwC r dc) (Below.refl wi.heap.size wi) fa;generalize wa.setRow g9 _ = wb at v9 b9 ⊢;clear fa;have kb:=ki.trans ((Keep.of_below b9).mono fun x hx => by have:=hx.1;omega);have zb:=b9.size;have hg9 : wl.heap.size ≤ g9:=by omega
    have hogl : g < wl.heap.size:=hol g hog;refine K.kgo ?_;refine WC.loop (fun k : Nat => [(3,.pointer (some ⟨vb0,0,none⟩)),(4,.pointer (some ⟨rb,0,none⟩)),(5,.slice (some ⟨g,0,none⟩) BL.length cpb),(8,.int .i64 i),(9,.pointer (some ⟨g9,0,none⟩)),(10,.int .i64 k)])
      (fun k wx => k ≤ BL.length ∧ Keep (fun x => x < wl.heap.size ∧ x ≠ g) wl wx ∧ VBlk rrT wx g9 (rwC r dc) ∧ ∃ F : Nat → Prop,(∃ kcs tail,RowG bkT 36 noB (IsBo F (f + 1) wx) wx g kcs tail (BL.map (redG (gK s.rows i k)))) ∧
        ∀ x,F x → x < wx.heap.size ∧ ¬ M x ∧ ¬ M' x ∧ x ≠ g) (fun k => BL.length - k) 0 ⟨rfl,rfl,rfl,rfl,rfl,rfl,trivial⟩
      ⟨Nat.zero_le _,kb.mono fun x hx => ⟨hx.1,fun e => hx.2 (Option.some.inj (e.symm.trans hog))⟩,v9,F,?_,fun x hx => ?_⟩ ?_
    · have e0 : BL.map (redG (gK s.rows i 0)) = BL.map (redG (gN s.rows i)):=by
        rw [hgK,if_neg (fun q => by have:=q.2;omega)]
      rw [e0];obtain ⟨kcs,tail,q⟩:=hrowi g rfl (by omega);exact ⟨kcs,tail,q.keep (Keep.of_below b9) (by omega) fun _ _ hp => IsBo.keep hp (Keep.of_below b9) fun _ _ h => h⟩
    · obtain ⟨q1,q2,q3,q4⟩:=hfp x hx
      exact ⟨by omega,q2,q3,fun e => q4 (by rw [e];exact hog)⟩
    clear hrowi hfp F v9 kb b9 zb;rintro k wk ⟨hkb,kk1,v9,F,⟨kcs,tail,hRow⟩,hfp⟩;have zk:=kk1.size;have l9:=VBlk.lt v9;have R9:=RwAt.of (VBlk.rangeAt v9) hdv.len;have r9b : wk.cell? ⟨g9,11,none⟩ = some (.int .i64 r.blk):=R9.blk;have r9e : wk.cell? ⟨g9,12,none⟩ = some (.int .i64 r.ent):=R9.ent;have r9g : wk.cell? ⟨g9,9,none⟩ = some (.bool r.gone):=R9.gone
    by_cases hkl : k < BL.length
    case neg =>
      obtain rfl : k = BL.length:=by omega
      refine K.kgo ?_;refine WQ.again (i + 1) ⟨rfl,rfl,rfl,rfl,trivial⟩ ⟨hlt,kk1.mono fun x hx => ⟨hx.1,fun e => hx.2 (by rw [e];exact hog)⟩,F,fun g' hg' _ => ?_,fun x hx => ?_⟩ (by omega)
      · obtain rfl : g = g':=by simpa using hg'
        refine ⟨kcs,tail,?_⟩;have e1 : BL.map (redG (gN s.rows (i + 1))) = BL.map (redG (gK s.rows i BL.length)):=by
          rw [hgK]
          by_cases hgo : r.gone = true
          · rw [if_pos ⟨hgo,by omega⟩]
          · rw [if_neg (fun q => hgo q.1)]
            exact red_map_eq fun j _ => hoth _ (.inl (by simpa using hgo))
        rw [e1];exact hRow
      · obtain ⟨q1,q2,q3,q4⟩:=hfp x hx
        exact ⟨q1,q2,q3,fun e => q4 (Option.some.inj (e.symm.trans hog))⟩
    case pos =>
    have hml : (BL.map (redG (gK s.rows i k))).length = BL.length:=List.length_map ..;obtain ⟨hc36,hcP⟩:=hRow.ats k (by rw [hml];exact hkl);have hat:=hRow.at (j:=k) (by rw [hml];exact hkl);rw [map_getD hkl] at hcP;have hbix : (BL.getD k noB).index = k:=(hR.at k hkl).1;have hrix : (redG (gK s.rows i k) (BL.getD k noB)).index = k:=hbix;obtain ⟨hsp,hAl⟩:=hRow.split (j:=k) (by rw [hml];exact hkl);have hbs : BkSm (f + 1) (redG (gK s.rows i k) (BL.getD k noB)):=redG_sm (hbsm _ (by rw [getD_lt hkl];exact List.getElem_mem hkl));have hnx : ¬ (r.gone = true ∧ r.blk = k) → BL.map (redG (gK s.rows i (k + 1))) = BL.map (redG (gK s.rows i k)):=fun hn => by
      rw [hgK,hgK]
      by_cases hgo : r.gone = true
      · have hne : r.blk ≠ k:=fun e => hn ⟨hgo,e⟩
        by_cases hlt2 : r.blk < (k : Int)
        · rw [if_pos ⟨hgo,by omega⟩,if_pos ⟨hgo,hlt2⟩]
        · rw [if_neg (fun q => by have:=q.2;omega),if_neg (fun q => hlt2 q.2)]
      · rw [if_neg (fun q => hgo q.1),if_neg (fun q => hgo q.1)]
    have fin : ∀ {wx : World},Below wk.heap.size wk wx → ¬ (r.gone = true ∧ r.blk = k) → k + 1 ≤ BL.length ∧ Keep (fun x => x < wl.heap.size ∧ x ≠ g) wl wx ∧ VBlk rrT wx g9 (rwC r dc) ∧ ∃ F : Nat → Prop,(∃ kcs tail,RowG bkT 36 noB (IsBo F (f + 1) wx) wx g kcs tail (BL.map (redG (gK s.rows i (k + 1))))) ∧ ∀ x,F x → x < wx.heap.size ∧ ¬ M x ∧ ¬ M' x ∧ x ≠ g:=fun {wx} hx hn => by
      refine ⟨hkl,kk1.trans ((Keep.of_below hx).mono fun x hx => by have:=hx.1;omega),VBlk.below v9 hx l9,F,⟨kcs,tail,?_⟩,fun x hF => ⟨by have:=(hfp x hF).1;have:=hx.size;omega,(hfp x hF).2⟩⟩;rw [hnx hn];exact hRow.keep (Keep.of_below hx) (by omega) fun _ _ hp => IsBo.keep hp (Keep.of_below hx) fun _ _ h => h
    generalize hbk : redG (gK s.rows i k) (BL.getD k noB) = bk at hcP hrix hbs;obtain ⟨se,hce,hents,hpl,hpb,hr3⟩:=id hcP;generalize kcs.getD k [] = ck at hc36 hcP hat hsp hce;subst hce;have hS : Below wk.heap.size wk wk:=Below.refl _ _;have hci : wk.cell? ⟨g,k * 36,none⟩ = some (.int .i64 k):=by have:=hat 0 _ rfl;rw [hrix] at this;exact this
    have lgk : g < wk.heap.size:=by omega
    by_cases heq : r.blk = k
    case neg =>
      refine K.kgo ?_;refine WC.drawn 11 (fun wx => Below wk.heap.size wk wx) fun wd hdr => ?_;replace hS : Below wk.heap.size wk wd:=hdr.below _;clear hdr;refine K.fr [0,1] hS ?_;refine K.wi 2 k (k * 36) rfl rfl rfl rfl rfl rfl rfl rfl rfl hkl (by omega) (.inr hS) ?_;refine K.fr [3] hS ?_;refine K.wl 4 [7,8,9,10,11] rfl rfl rfl rfl rfl rfl rfl (fun wx hx => (hx.cell (p:=⟨g,k * 36,none⟩) lgk).trans hci) hS ?_;refine K.fr [5] hS ?_;refine K.wl 6 [7,8,9,10,11] rfl rfl rfl rfl rfl rfl rfl (fun wx hx => (hx.cell (p:=⟨g9,11,none⟩) l9).trans r9b) hS ?_;refine K.fr [7,8,9,10] hS ?_;refine K.wo 11 ?_;refine WL.pure rfl rfl rfl rfl ?_;refine K.dl ?_;refine WD.done (by kernel_rfl) ?_;refine K.kgo ?_;exact WQ.again (k + 1) ⟨rfl,rfl,rfl,rfl,rfl,rfl,trivial⟩ (fin hS fun q => heq q.2) (by omega)
    case pos =>
    by_cases hgo : r.gone = true
    case neg =>
      have r9f : wk.cell? ⟨g9,9,none⟩ = some (.bool false):=by rw [r9g,Bool.eq_false_iff.2 hgo]
      refine K.kgo ?_;refine WC.drawn 11 (fun wx => Below wk.heap.size wk wx) fun wd hdr => ?_;replace hS : Below wk.heap.size wk wd:=hdr.below _;clear hdr;refine K.fr [0,1] hS ?_;refine K.wi 2 k (k * 36) rfl rfl rfl rfl rfl rfl rfl rfl rfl hkl (by omega) (.inr hS) ?_;refine K.fr [3] hS ?_;refine K.wl 4 [7,8,9,10,11] rfl rfl rfl rfl rfl rfl rfl (fun wx hx => (hx.cell (p:=⟨g,k * 36,none⟩) lgk).trans hci) hS ?_;refine K.fr [5] hS ?_;refine K.wl 6 [7,8,9,10,11] rfl rfl rfl rfl rfl rfl rfl (fun wx hx => (hx.cell (p:=⟨g9,11,none⟩) l9).trans r9b) hS ?_;refine K.fr [7,8,9] hS ?_;refine K.wl 10 [11] rfl rfl rfl rfl rfl rfl rfl (fun wx hx => (hx.cell (p:=⟨g9,9,none⟩) l9).trans r9f) hS ?_;refine K.wo 11 ?_;refine WL.pure rfl rfl rfl rfl ?_;refine K.dl ?_;refine WD.done (by kernel_rfl) ?_;refine K.kgo ?_;exact WQ.again (k + 1) ⟨rfl,rfl,rfl,rfl,rfl,rfl,trivial⟩ (fin hS fun q => hgo q.1) (by omega)
    case pos =>
    have r9t : wk.cell? ⟨g9,9,none⟩ = some (.bool true):=by rw [r9g,hgo]
    have hjk : jj = k:=by omega
    subst hjk;refine K.kgo ?_;refine WC.drawn 11 (fun wx => Below wk.heap.size wk wx) fun wd hdr => ?_;replace hS : Below wk.heap.size wk wd:=hdr.below _;clear hdr;refine K.fr [0,1] hS ?_;refine K.wi 2 jj (jj * 36) rfl rfl rfl rfl rfl rfl rfl rfl rfl hkl (by omega) (.inr hS) ?_;refine K.fr [3] hS ?_;refine K.wl 4 [7,8,9,10,11] rfl rfl rfl rfl rfl rfl rfl (fun wx hx => (hx.cell (p:=⟨g,jj * 36,none⟩) lgk).trans hci) hS ?_;refine K.fr [5] hS ?_;refine K.wl 6 [7,8,9,10,11] rfl rfl rfl rfl rfl rfl rfl (fun wx hx => (hx.cell (p:=⟨g9,11,none⟩) l9).trans r9b) hS ?_;refine K.fr [7,8,9] hS ?_;refine K.wl 10 [11] rfl rfl rfl rfl rfl rfl rfl (fun wx hx => (hx.cell (p:=⟨g9,9,none⟩) l9).trans r9t) hS ?_;refine K.wo 11 ?_;refine WL.pure rfl rfl rfl rfl ?_;refine K.dl ?_;refine WD.done (by kernel_rfl) ?_;have hbo : IsB (f + 1) wd bk (bkC bk se):=IsBo.isB (IsBo.below hcP hS);refine K.kgo ?_;refine WL.idx jj (jj * 36) rfl rfl rfl rfl rfl rfl rfl rfl hkl (by omega) ?_;refine WL.loadMid rfl rfl rfl rfl rfl rfl (fun j u hu => (hS.cell (p:=⟨g,jj * 36 + j,none⟩) lgk).trans (hat j u hu)) hc36 ?_;have hel : bk.ents.length = (BL.getD jj noB).ents.length:=by rw [← hbk];exact redF_len ..
    have hsmE : ∀ e ∈ bk.ents,Sm 3000 (f + 1) e.data:=fun e he => by
      obtain ⟨q,hq,rfl⟩:=List.getElem_of_mem he;rw [← getD_lt (d:=noE) hq];exact hbs.sm q hq
    refine WL.call rfl rfl rfl rfl rfl Tryz.func17 rfl (by kernel_rfl) (rclone11r_any hbo hsmE hbs.ents) ?_;rintro _ we ⟨be,se2,qq,rfl,hown2,hqq⟩;refine ⟨_,rfl,?_⟩;obtain ⟨g2,cap2,kc2,tail2,rfl,hg2,hq1,hq2,hrow2⟩:=OwnE.rowG hown2 (by omega);have hke:=hS.trans (be.mono hS.size);have zd:=hS.size;have ze:=be.size;have lg2:=VBlk.lt hrow2.blk;have hqg : ∀ x,qq x → wd.heap.size ≤ x ∧ x ≠ g2:=fun x hx => ⟨(hqq x hx).1,fun e => (hqq x hx).2 (by rw [e];rfl)⟩;have hl5 : (bkC bk (.slice (some ⟨g2,0,none⟩) bk.ents.length cap2)).length = 36:=by simp [bkC,hpl]
    have V5:=VBlk.below hRow.blk hke lgk;rw [hsp] at V5;generalize hCC : (kcs.drop (jj + 1)).flatten ++ tail = CC at V5;generalize hAA : (kcs.take jj).flatten = A at V5 hAl;refine K.kgo ?_;refine WL.idx jj (jj * 36) rfl rfl rfl rfl rfl rfl rfl rfl hkl (by omega) ?_;refine WL.storeMid rfl rfl rfl rfl rfl rfl V5 hl5 (by rw [List.length_append,List.length_append,hAl,hc36];omega) (bkC_one _ _ _ _) ?_;have V6:=V5.setRow ((A ++ (bkC bk se ++ CC)).take (jj * 36) ++ bkC bk (.slice (some ⟨g2,0,none⟩) bk.ents.length cap2) ++ (A ++ (bkC bk se ++ CC)).drop (jj * 36 + 36));have k6 : Keep (fun x => x ≠ g) we (we.setRow g ((A ++ (bkC bk se ++ CC)).take (jj * 36) ++ bkC bk (.slice (some ⟨g2,0,none⟩) bk.ents.length cap2) ++ (A ++ (bkC bk se ++ CC)).drop (jj * 36 + 36)).toArray):=Keep.setRow (Keep.refl _ we) (fun hk => hk rfl) _;generalize we.setRow g _ = wf at V6 k6 ⊢;have e6 : (A ++ (bkC bk se ++ CC)).take (jj * 36) ++ bkC bk (.slice (some ⟨g2,0,none⟩) bk.ents.length cap2) ++ (A ++ (bkC bk se ++ CC)).drop (jj * 36 + 36) = A ++ (bkC bk (.slice (some ⟨g2,0,none⟩) bk.ents.length cap2) ++ CC):=by
      have:=setMid (A:=A) (B:=bkC bk se) (C:=CC) (m:=bkC bk (.slice (some ⟨g2,0,none⟩) bk.ents.length cap2)) (x:=jj * 36) (off:=0) (k:=36) hAl hl5 (by omega);rw [Nat.add_zero] at this;rw [this,List.take_zero,List.drop_eq_nil_of_le (by omega)];simp
    rw [e6] at V6;have z6:=k6.size;have hrow6:=hrow2.keep (P':=IsEo qq (f + 1) wf) k6 (show g2 ≠ g by omega) fun _ _ hp => EnP.mono (fun _ _ hv => hv.keep k6 (fun x hx _ => by have:=(hqg x hx).1;show x ≠ g;omega) (fun _ h => h)) hp;have v9f:=(VBlk.below v9 hke l9).keep k6 (show g9 ≠ g by omega);have R9f:=RwAt.of (VBlk.rangeAt v9f) hdv.len;have r9ef : wf.cell? ⟨g9,12,none⟩ = some (.int .i64 r.ent):=R9f.ent;have c35 : wf.cell? ⟨g,jj * 36 + 35,none⟩ = some (.slice (some ⟨g2,0,none⟩) bk.ents.length cap2):=by
      have:=VBlk.part V6 A (bkC bk (.slice (some ⟨g2,0,none⟩) bk.ents.length cap2)) CC rfl 35 (.slice (some ⟨g2,0,none⟩) bk.ents.length cap2) (by unfold bkC;simp [hpl]);rw [hAl] at this;exact this
    obtain ⟨hc46,hce2⟩:=hrow6.ats kk (by omega);obtain ⟨hsp2,hA2⟩:=hrow6.split (j:=kk) (by omega);generalize hev : bk.ents.getD kk noE = ev at hce2;obtain ⟨dc2,hcs2,-,hdl2,-,hh2,hby2,htx2,hr62⟩:=hce2;have V7:=hrow6.blk;rw [hsp2,hcs2] at V7;rw [hcs2] at hc46;generalize hC2 : (kc2.drop (kk + 1)).flatten ++ tail2 = C2 at V7;generalize hB2 : (kc2.take kk).flatten = B2 at V7 hA2;have hkk2 : kk < bk.ents.length:=by omega
    refine K.kgo ?_;refine WC.drawn 20 (fun wx => wx.cell? ⟨g,jj * 36 + 35,none⟩ = some (.slice (some ⟨g2,0,none⟩) bk.ents.length cap2) ∧ wx.cell? ⟨g9,12,none⟩ = some (.int .i64 r.ent)) fun wd2 hdr => ?_;have bd2 : Below wf.heap.size wf wd2:=hdr.below _;have lgf : g < wf.heap.size:=VBlk.lt V6;have l9f:=VBlk.lt v9f;have lg2f:=VBlk.lt V7;replace hS : wd2.cell? ⟨g,jj * 36 + 35,none⟩ = some (.slice (some ⟨g2,0,none⟩) bk.ents.length cap2) ∧ wd2.cell? ⟨g9,12,none⟩ = some (.int .i64 r.ent):=⟨(bd2.cell (p:=⟨g,jj * 36 + 35,none⟩) lgf).trans c35,(bd2.cell (p:=⟨g9,12,none⟩) l9f).trans r9ef⟩;clear hdr;have Va:=VBlk.below V7 bd2 lg2f;refine K.fr [0,1] hS ?_;refine K.wi 2 jj (jj * 36) rfl rfl rfl rfl rfl rfl rfl rfl rfl hkl (by omega) (.inr hS) ?_;refine K.fr [3] hS ?_;refine K.wl 4 [15,16,17,18,19,20] rfl rfl rfl rfl rfl rfl rfl (fun wx hx => hx.1) hS ?_;refine K.fr [5] hS ?_;refine K.wl 6 [15,16,17,18,19,20] rfl rfl rfl rfl rfl rfl rfl (fun wx hx => hx.2) hS ?_;refine K.fr [7,8] hS ?_;refine K.wi 9 jj (jj * 36) rfl rfl rfl rfl rfl rfl rfl rfl rfl hkl (by omega) (.inr hS) ?_;refine K.fr [10] hS ?_;refine K.wl 11 [15,16,17,18,19,20] rfl rfl rfl rfl rfl rfl rfl (fun wx hx => hx.1) hS ?_;refine K.fr [12] hS ?_;refine K.wl 13 [18,19,20] rfl rfl rfl rfl rfl rfl rfl (fun wx hx => hx.2) hS ?_;refine Cr.WDbuild zCells 14 rfl (by kernel_rfl) rfl rfl (fun _ _ _ _ _ h => h) rfl rfl rfl (by kernel_rfl) (.inr hS) ?_;refine K.wi 15 kk (kk * 46) rfl rfl rfl rfl rfl rfl rfl rfl een hkk2 (by omega) (.inr hS) ?_;refine K.fr [16] hS ?_;refine K.wo 17 ?_;have cg : wd2.cell? ⟨g2,kk * 46 + 43,none⟩ = some (.bool ev.gone):=by
      have:=VBlk.part Va B2 (enC ev dc2) C2 rfl 43 _ (enC_tail hdl2 hh2).1;rw [hA2] at this;exact this
    refine WL.store (v:=.bool true) rfl rfl rfl rfl rfl rfl (by kernel_rfl) cg (VBlk.free Va (kk * 46 + 43)) ?_;have Vb:=Va.set (kk * 46 + 43) (.bool true);have kg : Keep (fun x => x ≠ g2) wd2 (wd2.setCell ⟨g2,kk * 46 + 43,none⟩ (.bool true)):=(Keep.refl _ wd2).setCell (fun hk => hk rfl) _;generalize wd2.setCell ⟨g2,kk * 46 + 43,none⟩ (.bool true) = wg at Vb kg ⊢;rw [setOne (.bool true) hA2 (by rw [hc46];omega),enCGone true hdl2 hh2] at Vb;have hSg : wg.cell? ⟨g,jj * 36 + 35,none⟩ = some (.slice (some ⟨g2,0,none⟩) bk.ents.length cap2) ∧ wg.cell? ⟨g9,12,none⟩ = some (.int .i64 r.ent):=⟨(kg.cell (p:=⟨g,jj * 36 + 35,none⟩) (show g ≠ g2 by omega)).trans hS.1,(kg.cell (p:=⟨g9,12,none⟩) (show g9 ≠ g2 by omega)).trans hS.2⟩;refine K.di hSg ?_;replace hS:=hSg;refine K.wi 18 kk (kk * 46) rfl rfl rfl rfl rfl rfl rfl rfl een hkk2 (by omega) (.inr hS) ?_;refine K.fr [19] hS ?_;refine K.wo 20 ?_;have h46 : (enC { ev with gone:=true } dc2).length = 46:=by simp [enC,hdl2,hh2]
    refine WL.storeMid rfl rfl rfl rfl rfl rfl Vb rfl (by rw [List.length_append,List.length_append,hA2,h46];omega) (zV_is (fun _ => True) 0 w).one ?_;have Vc:=Vb.setRow ((B2 ++ (enC { ev with gone:=true } dc2 ++ C2)).take (kk * 46 + 5) ++ zCells ++ (B2 ++ (enC { ev with gone:=true } dc2 ++ C2)).drop (kk * 46 + 5 + 6));have kg2 : Keep (fun x => x ≠ g2) wg (wg.setRow g2 ((B2 ++ (enC { ev with gone:=true } dc2 ++ C2)).take (kk * 46 + 5) ++ zCells ++ (B2 ++ (enC { ev with gone:=true } dc2 ++ C2)).drop (kk * 46 + 5 + 6)).toArray):=Keep.setRow (Keep.refl _ wg) (fun hk => hk rfl) _;generalize wg.setRow g2 _ = wh at Vc kg2 ⊢;rw [setMid (k:=6) (off:=5) hA2 (show zCells.length = 6 from rfl) (by rw [h46];omega),enCData (e:={ ev with gone:=true }) zV hdl2] at Vc;refine K.dl ?_;refine WD.done (by kernel_rfl) ?_;have kfh : Keep (fun x => x < wf.heap.size ∧ x ≠ g2) wf wh:=((Keep.of_below bd2).mono fun x hx => hx.1).trans ((kg.mono fun x hx => hx.2).trans (kg2.mono fun x hx => hx.2));have zh:=kfh.size;have hEP : ∀ x cs,IsEo qq (f + 1) wf x cs → IsEo (fun x => F x ∨ (wk.heap.size ≤ x ∧ x < wh.heap.size)) (f + 1) wh x cs:=fun _ _ hp => EnP.mono (fun _ _ hv => hv.there.keep kfh (fun x hx _ => ⟨hx.2,(hqg x hx.1).2⟩) (fun x hx => .inr ⟨by have:=(hqg x hx.1).1;omega,by omega⟩)) hp;have hRow2:=hrow6.put (P':=IsEo (fun x => F x ∨ (wk.heap.size ≤ x ∧ x < wh.heap.size)) (f + 1) wh) (j:=kk) hkk2 (e:=shutE ev) (cs:=enC { ev with gone:=true,data:=zV } zCells) (by simp [enC,hh2,show zCells.length = 6 from rfl]) ⟨zCells,rfl,zV_is _ _ _,rfl,(zV_is (fun _ => True) f w).one,hh2,hby2,htx2,hr62⟩ (by rw [hB2,hC2];exact Vc) hEP;have hels:=hRow2.els (O:=fun x => F x ∨ (wk.heap.size ≤ x ∧ x < wh.heap.size)) (cap:=cap2) (.inr ⟨by omega,by omega⟩) (by rw [List.length_set];exact hq1) hq2;rw [List.length_set] at hels;have V8:=VBlk.keep V6 kfh ⟨lgf,by omega⟩;have v9h:=v9f.keep kfh ⟨l9f,by omega⟩;have kwk : Keep (fun x => x < wk.heap.size ∧ x ≠ g) wk wh:=((Keep.of_below hke).mono fun x hx => hx.1).trans ((k6.mono fun x hx => hx.2).trans (kfh.mono fun x hx => ⟨by omega,by omega⟩));have hnew : IsBo (fun x => F x ∨ (wk.heap.size ≤ x ∧ x < wh.heap.size)) (f + 1) wh { bk with ents:=bk.ents.set kk (shutE ev) } (bkC bk (.slice (some ⟨g2,0,none⟩) bk.ents.length cap2)):=⟨_,rfl,hels,hpl,hpb,hr3⟩;have hfin:=hRow.put (P':=IsBo (fun x => F x ∨ (wk.heap.size ≤ x ∧ x < wh.heap.size)) (f + 1) wh) (j:=jj) (by rw [hml];exact hkl) hl5 hnew (by rw [hAA,hCC];exact V8) fun _ _ hp => IsBo.mono (IsBo.keep hp kwk fun x hx _ => ⟨(hfp x hx).1,(hfp x hx).2.2.2⟩) fun x hx => .inl hx;have hGk : gK s.rows i jj = gN s.rows i:=by rw [hgK,if_neg (fun q => by have:=q.2;omega)]
    have hGk1 : gK s.rows i (jj + 1) = gN s.rows (i + 1):=by rw [hgK,if_pos ⟨hgo,by omega⟩]
    have hlist : (BL.map (redG (gK s.rows i jj))).set jj { bk with ents:=bk.ents.set kk (shutE ev) } = BL.map (redG (gK s.rows i (jj + 1))):=by
      rw [hGk1,hGk];refine (red_map_set ?_ fun j hj hne => ?_).symm
      · rw [hstep _ hkk (by rw [hbix];exact heq) hgo,← hGk,hbk,hev]
      · exact hoth _ (.inr (by rw [(hR.at j hj).1];omega))
    rw [hlist] at hfin;refine K.kgo ?_;refine WQ.again (jj + 1) ⟨rfl,rfl,rfl,rfl,rfl,rfl,trivial⟩ ⟨hkl,kk1.trans (kwk.mono fun x hx => ⟨by have:=hx.1;omega,hx.2⟩),v9h,_,⟨_,_,hfin⟩,fun x hx => ?_⟩ (by omega);rcases hx with hx | hx
    · obtain ⟨q1,q2,q3,q4⟩:=hfp x hx
      exact ⟨by have:=kwk.size;omega,q2,q3,q4⟩
    · exact ⟨hx.2,fun h => by have:=hD.p.lt x (.inl h);omega,fun h => by have:=hD.r.lt x (.inl h);omega,by omega⟩
  case neg =>
  obtain rfl : i = s.rows.length:=by omega
  have hRep:=hR.replay;have hml : (BL.map (redG (gN s.rows s.rows.length))).length = BL.length:=List.length_map ..;have hchk:=hRep.at;have hsmL : ∀ k,k < BL.length → BkSm (f + 1) ((BL.map (redG (gN s.rows s.rows.length))).getD k noB):=fun k hk => by
    rw [map_getD hk];exact redG_sm (hbsm _ (by rw [getD_lt hk];exact List.getElem_mem hk))
  generalize BL.map (redG (gN s.rows s.rows.length)) = BLn at hrowi hRep hml hchk hsmL;have hDi:=hD.keep ki hMK;have ci : Below w.heap.size w wi:=((Keep.of_below bl).trans (ki.mono fun x (hx : x < w.heap.size) => ⟨by omega,fun e => by have:=(hown x e).1;omega⟩)).below;refine K.kgl ?_;refine WL.call rfl rfl rfl rfl rfl Tryz.func10 rfl (by kernel_rfl) (pnew_any (f:=f + 1)) ?_;rintro _ wu ⟨ub,Mu0,rfl,hu0,bu,mu0⟩;refine ⟨_,rfl,?_⟩;refine K.kgo ?_;refine WC.loop (fun k : Nat => [(3,.pointer (some ⟨vb0,0,none⟩)),(4,.pointer (some ⟨rb,0,none⟩)),(5,.slice spb BL.length cpb),(11,.pointer (some ⟨ub,0,none⟩)),(12,.int .i64 k)])
    (fun k wx => k ≤ BL.length ∧ Below wi.heap.size wi wx ∧ ∃ (su : St) (Mu Du : Nat → Prop),PVs wx ub Mu Du (f + 1) su (801 * k) ∧ Runs (BLn.take k) su ∧ ∀ x,Mu x → wi.heap.size ≤ x) (fun k => BL.length - k) 0 ⟨rfl,rfl,rfl,rfl,rfl,trivial⟩
    ⟨Nat.zero_le _,bu,st0,Mu0,_,hu0,Runs.nil,mu0⟩ ?_
  clear hu0 mu0 bu;rintro k wx ⟨hkb,bx,su,Mu,Du,hu,hRu,mu⟩;have zx:=bx.size
  by_cases hkl : k < BL.length
  case pos =>
    obtain ⟨g,rfl⟩:=hBg (by omega);obtain ⟨kcs,tail,hRow⟩:=hrowi g rfl (by omega);have hRowx:=hRow.keep (P':=IsBo F (f + 1) wx) (Keep.of_below bx) (VBlk.lt hRow.blk) fun _ _ hp => IsBo.keep hp (Keep.of_below bx) fun _ _ h => h;obtain ⟨hc36,hcP⟩:=hRowx.ats k (by omega);have hat:=hRowx.at (j:=k) (by omega);obtain ⟨si,q1,q2,q3⟩:=hRep.take k (by omega);obtain rfl:=hRu.det q1;have h200:=(chk_form (hchk k (by omega)).2).2.2.2;refine K.kgo ?_;refine WL.idx k (k * 36) rfl rfl rfl rfl rfl rfl rfl rfl hkl (by omega) ?_;refine WL.loadMid rfl rfl rfl rfl rfl rfl hat hc36 ?_;refine WL.call rfl rfl rfl rfl rfl Tryz.func13 rfl (by kernel_rfl) (papply_any (E:=F) hu q1.inv.1 (fun x hx => by have:=(hfp x hx).1;omega) hcP (hsmL k hkl) (by omega)) ?_;rintro _ wy ⟨Mu2,Du2,rfl,hu2,ky,mu2,-⟩;refine ⟨_,rfl,?_⟩;generalize appR su (BLn.getD k noB) = A at hu2 q2 q3 ⊢;obtain ⟨ac,s2⟩:=A;simp only at hu2 q2 q3 ⊢;subst q2;refine K.kgo ?_;exact WQ.again (k + 1) ⟨rfl,rfl,rfl,rfl,rfl,trivial⟩ ⟨hkl,((Keep.of_below bx).trans (ky.mono fun x (hx : x < wi.heap.size) => ⟨by omega,fun hm => by have:=mu x hm;omega⟩)).below,s2,Mu2,Du2,hu2.mono (by omega) (by omega),q3,fun x hx => (mu2 x hx).elim (mu x) (fun h => by omega)⟩ (by omega)
  case neg =>
  obtain rfl : k = BL.length:=by omega
  rw [List.take_of_length_le (by omega)] at hRu;obtain rfl:=hRep.det hRu;have hDx:=hDi.below bx;have cx:=ci.trans (bx.mono ci.size);refine K.kgo ?_;refine WL.call rfl rfl rfl rfl rfl Tryz.func15 rfl (by kernel_rfl) (stood_any hu hDx.r hI1 (by omega) hNN) ?_;rintro _ wy ⟨by1,rfl⟩;refine ⟨_,rfl,?_⟩;have hDy:=hDx.below by1;have cy:=cx.trans (by1.mono cx.size);refine K.kgo ?_;refine WL.call rfl rfl rfl rfl rfl Tryz.func15 rfl (by kernel_rfl) (stood_any hDy.p hDy.r hI1 hNN hNN) ?_;rintro _ wz ⟨bz,rfl⟩;refine ⟨_,rfl,?_⟩;have cz:=cy.trans (bz.mono cy.size);refine K.kgo ?_;refine WL.call rfl rfl rfl rfl rfl Tryz.func9 rfl (by kernel_rfl) known_any ?_;rintro _ wk ⟨rfl,bk⟩;refine ⟨_,rfl,?_⟩;refine K.kgo ?_;exact WQ.ret1 rfl rfl ⟨rfl,cz.trans (bk.mono cz.size)⟩
end Vw
end Go.Proofs.YtchgjaaadfjiiaaGreat
namespace Go.Proofs.YtchgjaaadfjiiaaGreat.viewsReplay
open Go.ChangeShapes Go.WideShapes Go.ChangeAt Go.RowKit
open Go.ChangeMaps (open_string shut_string)
open Go.Proofs.YtchgjaaadfjiiaaGreat
set_option maxRecDepth 100000 in
theorem lifted (os : Os) (started : os.Started) (H : Type) (enc : TypeId × Value → H) :
    ReturnsInHanded {} Tryz.checked os 4 .any (Rows.viewsReplaySpec.pre6 enc Tryz.prog Tryz.f4 Rows.viewsReplayRow.domain false) (Rows.viewsReplaySpec.post enc Tryz.prog Tryz.f4 false true false false):=by
  refine returnsInHanded_of_change_sized (C:=Tryz.checked) Tryz.ownKnob started (by kernel_rfl) Tryz.func4
    (ChangeSpec.witness6 (enc:=enc) (C:=Tryz.checked) false ⟨#[],#[.slice none 0 0],[]⟩ 8 (by kernel_rfl) (by kernel_rfl) (by kernel_rfl) (by kernel_rfl)) ?_
  intro W base args ds gs before hval0 hW hcnd hsz _;have hval : ∀ (j : Nat) t v,Tryz.f4.params[j]? = some t → args[j]? = some v → Value.okWide Tryz.prog W .any base t v:=hval0;have hW':=hW;obtain ⟨p,q,hA0,hV,rfl,hfz,hnd⟩:=hW;have hA : DataW.TrodAll enc Tryz.prog W 0 (fun _ => true) true Tryz.f4.params.toList args.toList ds p:=hA0;rw [Tryz.params4] at hA hval;obtain ⟨v0,vs0,d0,ds0,p0,q0,hargs,rfl,rfl,h0,r0⟩:=trodAll_cons hA;obtain ⟨rfl,rfl,rfl⟩:=trodAll_nil r0;obtain rfl : args = #[v0]:=by cases args;simp_all
  obtain ⟨rfl,rfl⟩:=trodVars_none hV;have k0:=h0;have lt0 : ∀ x ∈ p0,x.block < W.heap.size:=by obtain ⟨m,hm⟩:=k0;exact DataW.trod_lt m _ _ _ hm
  obtain ⟨f0,l0,is0,ln0⟩:=Vw.open_actss (hval 0 22 v0 rfl rfl) h0 (fun n hn => by have:=List.all_eq_true.1 hsz n (DataW.weights_mem_each (j:=0) rfl rfl n hn);simpa using this);clear hA0 hval0;refine (Vw.replay_law is0 ln0).mono fun e W' ⟨he,bel⟩ => ?_;subst he;exact ⟨_,rfl,_,_,_,[],_,[],hW',trodAll_mk1 (shut_bool Tryz.underlying4 _),(trodAll_cons_mk (Below.trod Tryz.laid (by kernel_rfl) (of_decide_eq_true (by kernel_rfl)) k0 bel lt0) trodAll_mk0),rfl,bel.frame _,fun h => by cases h⟩
theorem over : Rows.viewsReplayRow.holds Tryz.pinned (OpenSpec.ofChange Rows.viewsReplaySpec) :=
  OpenClaim.holds_of_wide 4 Tryz.f4 rfl rfl rfl rfl rfl rfl rfl ⟨rfl,rfl,rfl,rfl,rfl⟩ rfl rfl rfl rfl rfl (by kernel_rfl) Tryz.func4 (by kernel_rfl)
    (of_decide_eq_true (by kernel_rfl)) (by unfold Func.isWrapper;first | (rw [if_pos (by decide +kernel)];kernel_rfl) | (rw [if_neg (by decide +kernel)];exact ⟨rfl,rfl⟩))
    (fun os started H enc _ => lifted os started H enc)
theorem proved : Rows.ViewsReplaySaid:=over
end Go.Proofs.YtchgjaaadfjiiaaGreat.viewsReplay
