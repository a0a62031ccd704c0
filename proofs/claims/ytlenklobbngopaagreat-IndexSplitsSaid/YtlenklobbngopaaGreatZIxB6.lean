/- Texts for IxB, part 6 of 11. -/
import Derived.Test.YtlenklobbngopaaGreatZIxB5
set_option maxHeartbeats 64000000
set_option maxRecDepth 100000
set_option linter.all false
namespace Go.Proofs.YtlenklobbngopaaGreat
open _root_.Go.Proofs.Tryz
open Go.RowKit
variable {m f i rb N T B c vb:Nat}{w w':World}{cs bc dc:List Value}{l:List Int}{x d:Int}{a:Int × Int}{M D E O:Nat -> Prop}{eT eF:TypeId}{tv:Value}
namespace K
theorem Yw {v:V}: keyV (m+1) v=my v.k ::
    (if v.k=2 then[v.n] else if v.k=3 \/ v.k=4 then xe v.n v.s else if v.k=5 then EZ v.n else if v.k=6 \/ v.k=7 then oX v.t.toList
     else if v.k=8 \/ v.k=9 then(List.range v.kids.length).flatMap (mQ (keyV m) (decide (v.k=9)) v.names v.kids)++[0] else[]) := rfl
theorem AR (m:Nat) (ih:∀ {f:Nat}{w0 w:World}{v:V}{cs:List Value}{b:Value}{l:List Int}, kH f w0 v cs -> chk m v=0 -> Bu w b l -> na w0 w b -> l.length+(keyV m v).length <= 70368744177664 ->
      Calls prog 66 #[b, .agg cs.toArray] w fun e w'=>∃b', e=.returned b' /\ Bu w' b' (l++keyV m v) /\ jv w b w' b') {w0:World}{v:V}{b:Value}(hv:kH f w0 v cs) (hc:chk (m+1) v=0) (hb:Bu w b l) (ha:na w0 w b) (hm:l.length+(keyV (m+1) v).length <= 70368744177664):
    Calls prog 66 #[b, .agg cs.toArray] w fun e w'=>∃b', e=.returned b' /\ Bu w' b' (l++keyV (m+1) v) /\ jv w b w' b' := by
  obtain⟨hk, f2, f3, f4, f5, fk, ft, f9⟩ := qI (oQ hc); cases f with
  | zero=>exact hv.elim
  | succ f=>
  obtain⟨sn, sk, rfl, wk, wn, ws, -, qJ, tM⟩ := hv; have jU := Yw (m := m) (v := v); rw[jU] at hm; have hn:-9223372036854775808 <= v.n /\ v.n <= 9223372036854775807 := by simp[Lit.wf, IntKind.min, IntKind.max, IntKind.bits, IntKind.signed] at wn; omega
  refine iY (args := [b, .agg (lW v sn sk).toArray]) func66 ntmps66 ?_; refine gY ?_; refine iC fun g w1 hf=>?_; have jx:jl w g w1 25 (lW v sn sk) := hf; clear hf; have mj := hb.below jx.below; have qD := (jv.refl w b).below jx.below; have Hb := ha.grow qD; have hR:∀ {wk vk}, jv w1 b wk vk -> h_ 25 wk g (lW v sn sk) := fun h=>jx.NQ hb h; have pY:l.length+1 <= 70368744177664 := by simp at hm; omega
  refine gY ?_; refine ia ((hR (jv.refl _ _)).cell 0 iz) ?_; refine il func98 (Ut v.k w1 hk.1 hk.2) ?_; rintro e _ ⟨rfl, rfl⟩; refine⟨_, rfl, ?_⟩; refine WL.push rfl rfl rfl rfl rfl rfl rfl rfl rfl rfl rfl (fun _=>rfl) rfl mj (by simp; omega) fun b2 w2 jg lN=>?_; refine gY ?_; refine ia ((hR lN).cell 0 iz) ?_; have fin:∀ {b' w' x}, Bu w' b' ((l++[my v.k])++x) -> jv w1 b w' b' -> (my v.k :: x=keyV (m+1) v) -> ∃DJ, Ending.returned b'=.returned DJ /\ Bu w' DJ (l++keyV (m+1) v) /\ jv w b w' DJ :=
    fun {b' w' x} h1 h2 h3=>⟨b', rfl, by rw[<- h3]; simpa using h1, qD.trans h2⟩
  have qB:(l++[my v.k]).length=l.length+1 := iz; generalize hL:l++[my v.k]=L at jg fin qB; have nG:L.length+(keyV (m+1) v).length <= 70368744177664+1 := by rw[jU]; simp at hm ⊢; omega
  by_cases k1:v.k=1
  · refine gY ?_
    refine g_ (fin (x := []) (by simpa using jg) lN ?_); rw[jU]; simp[k1]
  by_cases k2:v.k=2
  · have hx := f2 k2
    have e8:IntKind.u8.wrap v.n=v.n := by rw[bB]; omega
    have mK:keyV (m+1) v=my v.k :: [v.n] := by rw[jU, if_pos k2]
    rw[mK] at nG; simp at nG
    refine gY ?_; refine ia ((hR lN).cell 1 iz) ?_; refine gY ?_; refine WL.push rfl rfl rfl rfl rfl rfl rfl rfl rfl rfl rfl (fun _=>rfl) rfl jg (by simp; omega) fun b3 w3 jF mP=>?_; refine gY ?_; refine g_ (fin (x := [v.n]) ?_ (lN.trans mP) mK.symm); rw[<- e8]; exact jF
  by_cases vy:v.k=3 \/ v.k=4
  · have hs:0 <= v.s /\ v.s <= 18 := by
      rcases vy with h|h
      · have := f3 h; omega
      · have := f4 h; omega
    have mK:keyV (m+1) v=my v.k :: xe v.n v.s := by rw[jU, if_neg k2, if_pos vy]
    rw[mK] at nG; simp at nG
    rcases vy with k3|k4
    all_goals
      refine gY ?_; refine ia ((hR lN).cell 1 iz) ?_; refine gY ?_; refine ia ((hR lN).cell 2 iz) ?_; refine il func99 (RX v.n v.s w2 hn.1 hn.2 hs.1 hs.2) ?_; rintro e w3 ⟨b3, rfl, jF, k3, g3⟩; refine⟨_, rfl, ?_⟩; refine WL.app rfl rfl rfl rfl rfl (jg.below k3) rfl jF.sl gZ fun b4 w4 lD ot=>?_; refine gY ?_; exact g_ (fin lD (lN.trans (((jv.refl w2 b2).below k3).trans ot)) mK.symm)
  by_cases k5:v.k=5
  · have hx := f5 k5
    have e8:IntKind.u64.wrap v.n=v.n := by rw[aW]; omega
    have mK:keyV (m+1) v=my v.k :: EZ v.n := by rw[jU, if_neg k2, if_neg vy, if_pos k5]
    rw[mK] at nG; simp at nG
    refine gY ?_; refine ia ((hR lN).cell 1 iz) ?_; refine gY ?_; refine WL.call rfl rfl rfl rfl rfl func100 rfl (by kernel_rfl) (by rw[e8]; exact acR v.n w2 hx.1 gZ) ?_; rintro e w3 ⟨b3, rfl, jF, k3, g3⟩; refine⟨_, rfl, ?_⟩; refine WL.app rfl rfl rfl rfl rfl (jg.below k3) rfl jF.sl gZ fun b4 w4 lD ot=>?_; refine gY ?_; exact g_ (fin lD (lN.trans (((jv.refl w2 b2).below k3).trans ot)) mK.symm)
  by_cases AN:v.k=6 \/ v.k=7
  · have mK:keyV (m+1) v=my v.k :: oX v.t.toList := by rw[jU, if_neg k2, if_neg vy, if_neg k5, if_pos AN]
    have htl := yz v.t.toList; have Vs:v.t.toList.length=v.t.size := by rw[aD]; rfl
    rcases AN with k6|k7
    all_goals
      refine gY ?_; refine ia ((hR lN).cell 3 iz) ?_; refine il func101 (Na v.t jg gZ) ?_; rintro e w3 ⟨b3, rfl, jF, mP⟩; refine⟨_, rfl, ?_⟩; refine gY ?_; exact g_ (fin jF (lN.trans mP) mK.symm)
  have KA:v.k=8 \/ v.k=9 := gZ; obtain⟨sp, cap, rfl, uG, oG, ji⟩ := tM; have mK:keyV (m+1) v=my v.k :: ((List.range v.kids.length).flatMap (mQ (keyV m) (decide (v.k=9)) v.names v.kids)++[0]) := by rw[jU, if_neg k2, if_neg vy, if_neg k5, if_neg AN, if_pos KA]
  rw[mK] at nG; simp only[aj, aa, aF] at nG; have CA:∀j, j<v.kids.length -> chk m (v.kids.getD j lH)=0 := fun j hj=>rD hc hj; have round:∀i, i+1 <= v.kids.length -> ((List.range i).flatMap (mQ (keyV m) (decide (v.k=9)) v.names v.kids)).length+(mQ (keyV m) (decide (v.k=9)) v.names v.kids i).length <= ((List.range v.kids.length).flatMap (mQ (keyV m) (decide (v.k=9)) v.names v.kids)).length := fun i hi=>by
    have := tW (mQ (keyV m) (decide (v.k=9)) v.names v.kids) hi; rw[kG, aa] at this; exact this
  by_cases k8:v.k=8
  · rw[show decide (v.k=9)=false from decide_eq_false gZ] at mK nG round
    generalize hT:((List.range v.kids.length).flatMap (mQ (keyV m) false v.names v.kids)).length=T at nG round; refine gY ?_; refine ia ((hR lN).cell 5 iz) ?_; refine gY ?_; refine WC.loop (fun i:Nat × Value=>[(0, i.2), (3, iF g), (52, .slice sp v.kids.length cap), (53, Iq v.kids.length), (54, Iq i.1)])
      (fun i w'=>i.1 <= v.kids.length /\ Bu w' i.2 (L++(List.range i.1).flatMap (mQ (keyV m) false v.names v.kids)) /\ jv w1 b w' i.2) (fun i=>v.kids.length - i.1) (0, b2)
      iW ⟨aw _, by simpa using jg, lN⟩ ?_
    rintro⟨i, bb⟩ wr ⟨hi, jC, lL⟩; simp only at hi jC lL ⊢
    by_cases je:i<v.kids.length
    · obtain⟨kb, ko, rfl, oN, kA⟩ := ji gZ
      obtain⟨c, mO, pj, mo⟩ := kA i je; have ss := Hb.grow lL; have sH:wr.rangeAt kb (ko+i*6) c := fun j u hu=>by rw[ss.below.cell (p := ⟨kb, ko+i*6+j, none⟩) oN]; exact mo j u hu
      refine gY ?_; refine iG i (ko+i*6) je ?_; refine ig sH mO ?_; refine ix (z := .agg #[Iq 0, Iq 0, Iq 0, .string ByteArray.empty, .slice none 0 0, .slice none 0 0]) (fun _=>by kernel_rfl) fun g2 w2 lI=>?_; refine gY ?_; refine ir (hm := mO) lI.blk (kH.one pj) ?_; have jF:iB wr (w2.setRow g2 c.toArray) := below_setRow lI.below (by rw[lI.eq]; exact af _) _; have o5:h_ 25 (w2.setRow g2 c.toArray) g2 c := lI.blk.setRow c; generalize w2.setRow g2 c.toArray=w3 at jF o5; have mP := lL.below jF; refine gY ?_; refine ia ((hR mP).cell 0 iz) ?_; refine gY ?_; refine ig (h_.rangeAt o5) mO ?_; have AM:mQ (keyV m) false v.names v.kids i=keyV m (v.kids.getD i lH) := rfl; have D6 := round i je; rw[AM] at D6; refine il func66 (ih (w0 := w0) pj (CA i je) (jC.below jF) (Hb.grow mP) (by rw[aa]; omega)) ?_; rintro e w4 ⟨b4, rfl, lD, ot⟩; refine⟨_, rfl, ?_⟩; refine gY ?_; refine WQ.again (i+1, b4) iW ⟨je, ?_, mP.trans ot⟩ (by show v.kids.length - (i+1)<v.kids.length - i; omega)
      show Bu w4 b4 (L++(List.range (i+1)).flatMap _)
      rw[kG, AM, <- ao]; exact lD
    · obtain rfl:i=v.kids.length := gZ
      refine gY ?_; refine WL.push rfl rfl rfl rfl rfl rfl rfl rfl rfl rfl rfl (fun _=>rfl) rfl jC (by rw[aa]; simp only[aj, aF]; omega) fun b3 w3 jF mP=>?_; refine gY ?_; refine WQ.uT rfl rfl (fin ?_ (lL.trans mP) mK.symm); rw[<- ao]; exact jF
  have k9:v.k=9 := gZ; obtain⟨np, nc, rfl, nl, Iu, xI, nr⟩ := qJ; have hnk := (f9 k9).1; rw[show decide (v.k=9)=true from decide_eq_true k9] at mK nG round; generalize hT:((List.range v.kids.length).flatMap (mQ (keyV m) true v.names v.kids)).length=T at nG round; refine gY ?_; refine ia ((hR lN).cell 5 iz) ?_; refine gY ?_; refine WC.loop (fun i:Nat × Value=>[(0, i.2), (3, iF g), (52, .slice sp v.kids.length cap), (53, Iq v.kids.length), (54, Iq i.1)])
    (fun i w'=>i.1 <= v.kids.length /\ Bu w' i.2 (L++(List.range i.1).flatMap (mQ (keyV m) true v.names v.kids)) /\ jv w1 b w' i.2) (fun i=>v.kids.length - i.1) (0, b2)
    iW ⟨aw _, by simpa using jg, lN⟩ ?_
  rintro⟨i, bb⟩ wr ⟨hi, jC, lL⟩; simp only at hi jC lL ⊢
  by_cases je:i<v.kids.length
  · obtain⟨kb, ko, rfl, oN, kA⟩ := ji gZ
    obtain⟨c, mO, pj, mo⟩ := kA i je; obtain⟨nb, no, rfl, tj, FI⟩ := nr gZ; have rC := FI i gZ; have hnz := xI i gZ; have Li:(v.names.getD i jz).size <= 40 := (f9 k9).2 _ (by simp[show i<v.names.length by omega]); have ss := Hb.grow lL; have sH:wr.rangeAt kb (ko+i*6) c := fun j u hu=>by rw[ss.below.cell (p := ⟨kb, ko+i*6+j, none⟩) oN]; exact mo j u hu
    have D6 := round i je; have AM:mQ (keyV m) true v.names v.kids i=1 :: oX (v.names.getD i jz).toList++keyV m (v.kids.getD i lH) := rfl; rw[AM] at D6; simp only[aa, aj] at D6; refine gY ?_; refine iG i (ko+i*6) je ?_; refine ig sH mO ?_; refine ix (z := .agg #[Iq 0, Iq 0, Iq 0, .string ByteArray.empty, .slice none 0 0, .slice none 0 0]) (fun _=>by kernel_rfl) fun g2 w2 lI=>?_; refine gY ?_; refine ir (hm := mO) lI.blk (kH.one pj) ?_; have jF:iB wr (w2.setRow g2 c.toArray) := below_setRow lI.below (by rw[lI.eq]; exact af _) _; have o5:h_ 25 (w2.setRow g2 c.toArray) g2 c := lI.blk.setRow c; have Y1:∀q, bb.ownBlock=some q -> q≠g2 := fun q hq e=>by have := jC.lt q hq; rw[e, lI.eq] at this; omega
    generalize w2.setRow g2 c.toArray=w3 at jF o5; have mP := lL.below jF; have ap1 := jC.below jF; refine gY ?_; refine ia ((hR mP).cell 0 iz) ?_; refine gY ?_; refine WC.drawn 8 (fun wx=>iB w0 wx /\ h_ 25 wx g (lW v (.slice (some ⟨nb, no, none⟩) v.names.length nc) (.slice (some ⟨kb, ko, none⟩) v.kids.length cap))) fun w4 Lc=>?_; have anA := Hb.grow mP; have hS:iB w0 w4 /\ h_ 25 w4 g (lW v (.slice (some ⟨nb, no, none⟩) v.names.length nc) (.slice (some ⟨kb, ko, none⟩) v.kids.length cap)) := ⟨anA.below.trans (Lc.below _), (hR mP).below (Lc.below _) (hR mP).lt⟩; have lD:Bu w4 bb _ := ap1.below (Lc.below _); have ot := mP.below (Lc.below _); have ux := o5.below (Lc.below _) o5.lt; refine iq [0] hS ?_; refine iq [3] hS ?_; refine ik 4 [6, 7, 8] (fun wx hx=>hx.2.cell 4 iz) hS ?_; refine iq [5] hS ?_; refine IF 6 i (no+i) rfl rfl rfl rfl rfl rfl rfl rfl rfl gZ gZ (.inr hS) ?_; refine ik 7 [8] (fun wx hx=>(hx.1.cell (p := ⟨nb, no+i, none⟩) tj).trans rC) hS ?_; refine iI 1 ?_; refine WL.lit rfl rfl rfl rfl rfl rfl rfl fun u5 w5 hu5 mz Q1=>?_; have Pc:iB w0 w5 /\ h_ 25 w5 g _ := ⟨hS.1.trans (mz.mono hS.1.size), hS.2.below mz hS.2.lt⟩; refine km Pc ?_; refine iI 2 ?_; refine WL.app rfl rfl rfl rfl rfl (lD.below mz) rfl hu5.sl (by rw[aa]; simp only[aj, aF]; omega) fun b6 w6 qA Fa=>?_; have acD := (ot.below mz).trans Fa; refine WL.nil (WQ.dk (.inr ⟨(Hb.grow acD).below, hR acD⟩) ?_); refine iI 8 ?_; refine il func101 (Na (v.names.getD i jz) qA (by rw[aa, aa]; simp only[aj, aF]; omega)) ?_; rintro e w7 ⟨b7, rfl, wF, RG⟩; refine⟨_, rfl, ?_⟩; refine iO ?_; refine iI 9 ?_; refine iA ?_; refine iO ?_; refine im ?_; have ahL := acD.trans RG; have CS := ((ux.below mz ux.lt).ij (Fa.trans RG).1 ⟨(ux.below mz ux.lt).lt, fun e=>Y1 _ e rfl⟩); have hl7:(L++(List.range i).flatMap (mQ (keyV m) true v.names v.kids)++[1]++oX (v.names.getD i jz).toList).length+(keyV m (v.kids.getD i lH)).length <= 70368744177664 := by
      rw[aa, aa, aa]; simp only[aj, aF]; omega
    refine gY ?_; refine ig (h_.rangeAt CS) mO ?_; refine il func66 (ih (w0 := w0) pj (CA i je) wF (Hb.grow ahL) hl7) ?_; rintro e w8 ⟨b8, rfl, uV, nP⟩; refine⟨_, rfl, ?_⟩; refine gY ?_; refine WQ.again (i+1, b8) iW ⟨je, ?_, ahL.trans nP⟩ (by show v.kids.length - (i+1)<v.kids.length - i; omega)
    show Bu w8 b8 (L++(List.range (i+1)).flatMap _)
    rw[kG, AM]
    simpa using uV
  · obtain rfl:i=v.kids.length := gZ
    refine gY ?_; refine WL.push rfl rfl rfl rfl rfl rfl rfl rfl rfl rfl rfl (fun _=>rfl) rfl jC (by rw[aa]; simp only[aj, aF]; omega) fun b3 w3 jF mP=>?_; refine gY ?_; refine WQ.uT rfl rfl (fin ?_ (lL.trans mP) mK.symm); rw[<- ao]; exact jF
theorem Qy:∀(m:Nat) {f:Nat}{w0 w:World}{v:V}{cs:List Value}{b:Value}{l:List Int}, kH f w0 v cs -> chk m v=0 -> Bu w b l -> na w0 w b -> l.length+(keyV m v).length <= 70368744177664 ->
      Calls prog 66 #[b, .agg cs.toArray] w fun e w'=>∃b', e=.returned b' /\ Bu w' b' (l++keyV m v) /\ jv w b w' b'
  | 0, _, _, _, _, _, _, _, _, h, _, _, _=>by cases h
  | m+1, _, _, _, _, _, _, _, hv, hc, hb, ha, hm=>AR m (Qy m) hv hc hb ha hm
open Vl (jm FJ Gb AG)
theorem v_ {v:V}(h:qu v=x) (h0:¬x=0): chk (m+1) v=x:=by
 unfold chk;rw[if_neg (by rw[h];exact h0)];exact h
theorem VK {v:V}(h:nK v=false): qu v=3:=by unfold qu;rw[if_pos h]
theorem Z_ (v:V): (!(v.t.toList == (ByteArray.mk #[]).toList)) = !kO v:=by
 have h0:(ByteArray.mk #[]).toList=[]:=by decide +kernel
 have hl:v.t.toList.length=v.t.size:=by rw[aD];rfl
 rw[h0];unfold kO;cases h:v.t.toList with
 | nil=>rw[h] at hl;simp at hl;simp[<- hl]
 | cons a r=>rw[h] at hl;simp at hl;simp[<- hl]
theorem sB {y:Int}(h:x=y): Ending.returned (Iq x)=.returned (Iq y):=by rw[h]
theorem V4 {v:V}(ih:∀ {w:World}{v:V}{cs:List Value}(d:Int),kH f w v cs -> d=17 - (m:Int) -> Calls prog 44 #[.agg cs.toArray,Iq d] w fun e w'=>e=.returned (Iq (chk m v)) /\ iB w w') (hd:d+1=17 - (m:Int)) (hv:kH (f+1) w v cs) (_hd1:d <= 16) (_hd0:0 <= d):
  Calls prog 44 #[.agg cs.toArray,Iq d] w fun e w'=>e=.returned (Iq (chk (m+1) v)) /\ iB w w':=by
 obtain⟨sn,sk,rfl,-,RE,-,Vs,⟨np,nc,rfl,nl,Iu,xI,nr⟩,⟨sp,cap,rfl,uG,oG,ji⟩⟩:=hv;have hn:-9223372036854775808 <= v.n /\ v.n <= 9223372036854775807:=by simp[Lit.wf,IntKind.min,IntKind.max,IntKind.bits,IntKind.signed] at RE;omega
 clear RE;refine iY (args:=[.agg (lW v (.slice np v.names.length nc) (.slice sp v.kids.length cap)).toArray,Iq d]) func44 ntmps44 ?_;refine gY ?_;refine iC fun g w1 hf=>?_;have hR:h_ 25 w1 g (lW v (.slice np v.names.length nc) (.slice sp v.kids.length cap)):=hf.blk;have jP:=hf.below;have c0:w1.cell? ⟨g,0,none⟩=some (Iq v.k):=hR.cell 0 iz;have c1:w1.cell? ⟨g,1,none⟩=some (Iq v.n):=hR.cell 1 iz;have c2:w1.cell? ⟨g,2,none⟩=some (Iq v.s):=hR.cell 2 iz;have c3:w1.cell? ⟨g,3,none⟩=some (.string v.t):=hR.cell 3 iz;have c4:w1.cell? ⟨g,4,none⟩=some (.slice np v.names.length nc):=hR.cell 4 iz;have c5:w1.cell? ⟨g,5,none⟩=some (.slice sp v.kids.length cap):=hR.cell 5 iz;clear hf;have jH:=FJ v;have hB:pB v=(decide (v.n=0) && decide (v.s=0)):=rfl;have hP:k_ v=(decide (v.names.length=0) && decide (v.kids.length=0)):=rfl;have hE:=Z_ v;have mU:nK v=false -> Ending.returned (Iq 3)=.returned (Iq (chk (m+1) v)) /\ iB w w1:=fun h=>⟨sB (v_ (VK h) j9).symm,jP⟩;refine sY ?_;refine WL.as 5 (.bool (!kO v)) rfl (congrArg Value.bool hE) ?_;refine WL.sa (fun _:Unit=>[(1,Iq d),(2,iF g),(5,.bool (!kO v)),(6,.bool (!k_ v))]) (fun _ w'=>w1=w') rfl ?_ ?_
 ·by_cases hK:v.kids.length=0
  ·have hK0:¬(0:Int)<v.kids.length:=gZ
   refine WL.as 19 (.bool false) rfl (congrArg Value.bool (decide_eq_false hK0)) ?_
   by_cases hN:v.names.length=0
   ·refine iu ?_
    exact WQ.meet () ⟨rfl,rfl,rfl,congrArg (fun b=>some (Value.bool b)) (by rw[hP];simp[hN,hK]),trivial⟩ rfl
   ·refine iu ?_
    exact WQ.meet () ⟨rfl,rfl,rfl,congrArg (fun b=>some (Value.bool b)) (by rw[hP];simp[hN]),trivial⟩ rfl
  ·have hK0:(0:Int)<v.kids.length:=gZ
   refine WL.as 19 (.bool true) rfl (congrArg Value.bool (decide_eq_true hK0)) ?_;refine iu ?_;exact WQ.meet () ⟨rfl,rfl,rfl,congrArg (fun b=>some (Value.bool b)) (by rw[hP];simp[hK]),trivial⟩ rfl
 rintro _ _ rfl;have Rb:nK v=true -> (16384<v.t.size \/ 200<v.kids.length) -> qu v=5:=fun h1 h2=>by unfold qu;rw[if_neg (by rw[h1];exact Bool.noConfusion),if_pos h2]
 have CB:nK v=true -> v.t.size <= 16384 -> v.kids.length <= 200 -> (v.k=9 -> l_ v=true) -> qu v=0:=fun h1 h2 h3 h4=>by
  unfold qu;rw[if_neg (by rw[h1];exact Bool.noConfusion),if_neg gZ,if_neg (fun h=>by have:=h4 h.1;rw[this] at h;exact Bool.noConfusion h.2)]
 have Oq:kO v=true -> v.t.size=0:=fun h=>of_decide_eq_true h;have QD:k_ v=true -> v.kids.length=0:=fun h=>by rw[hP] at h;rw[aA] at h;exact of_decide_eq_true h.2
 clear hE hP;refine sY ?_;refine WC.sa (fun _:Unit=>[(1,Iq d),(2,iF g)]) (fun _ w'=>qu v=0 /\ iB w1 w') rfl ?_ ?_
 ·clear ji
  by_cases q:v.k=1
  ·clear nr xI
   by_cases a1:v.n=0
   ·skip
    by_cases a2:v.s=0
    ·skip
     cases rL:kO v with
     | false=>
      rw[rL] at jH;refine iu ?_;exact g_ (mU (by rw[jH];simp[jm, *]))
     | true=>
      rw[rL] at jH;cases tA:k_ v with
      | false=>
       rw[tA] at jH;refine iu ?_;exact g_ (mU (by rw[jH];simp[jm, *]))
      | true=>
       rw[tA] at jH;have h0:=CB (by rw[jH];simp[jm, *]) (by have:=Oq rL;omega) (by have:=QD tA;omega) (fun h=>by omega);refine iu ?_;exact WQ.meet () iW ⟨h0,Below.refl _ _⟩
    ·skip
     refine iu ?_;exact g_ (mU (by rw[jH];simp[jm, *]))
   ·skip
    refine iu ?_;exact g_ (mU (by rw[jH];simp[jm, *]))
  by_cases q:v.k=2
  ·clear nr xI
   by_cases a1:0 <= v.n
   ·skip
    by_cases a2:v.n <= 1
    ·skip
     have x2:v.n / 2=0:=gZ
     by_cases a4:v.s=0
     ·skip
      cases rL:kO v with
      | false=>
       rw[rL] at jH;refine iu ?_;exact g_ (mU (by rw[jH];simp[jm, *]))
      | true=>
       rw[rL] at jH;cases tA:k_ v with
       | false=>
        rw[tA] at jH;refine iu ?_;exact g_ (mU (by rw[jH];simp[jm, *]))
       | true=>
        rw[tA] at jH;have h0:=CB (by rw[jH];simp[jm, *]) (by have:=Oq rL;omega) (by have:=QD tA;omega) (fun h=>by omega);refine iu ?_;exact WQ.meet () iW ⟨h0,Below.refl _ _⟩
     ·skip
      refine iu ?_;exact g_ (mU (by rw[jH];simp[jm, *]))
    ·skip
     have x2:¬v.n / 2=0:=gZ;refine iu ?_;exact g_ (mU (by rw[jH];simp[jm, *]))
   ·skip
    have x2:¬v.n / 2=0:=gZ;refine iu ?_;exact g_ (mU (by rw[jH];simp[jm, *]))
  by_cases q:v.k=3
  ·clear nr xI
   by_cases a1:v.s=0
   ·skip
    cases rL:kO v with
    | false=>
     rw[rL] at jH;refine iu ?_;exact g_ (mU (by rw[jH];simp[jm, *]))
    | true=>
     rw[rL] at jH;cases tA:k_ v with
     | false=>
      rw[tA] at jH;refine iu ?_;exact g_ (mU (by rw[jH];simp[jm, *]))
     | true=>
      rw[tA] at jH;have h0:=CB (by rw[jH];simp[jm, *]) (by have:=Oq rL;omega) (by have:=QD tA;omega) (fun h=>by omega);refine iu ?_;exact WQ.meet () iW ⟨h0,Below.refl _ _⟩
   ·skip
    refine iu ?_;exact g_ (mU (by rw[jH];simp[jm, *]))
  by_cases q:v.k=4
  ·clear nr xI
   by_cases a1:1 <= v.s
   ·skip
    by_cases a2:v.s <= 18
    ·skip
     by_cases a3:¬v.n.tmod 10=0
     ·skip
      cases rL:kO v with
      | false=>
       rw[rL] at jH;refine iu ?_;exact g_ (mU (by rw[jH];simp[jm, *]))
      | true=>
       rw[rL] at jH;cases tA:k_ v with
       | false=>
        rw[tA] at jH;refine iu ?_;exact g_ (mU (by rw[jH];simp[jm, *]))
       | true=>
        rw[tA] at jH;have h0:=CB (by rw[jH];simp[jm, *]) (by have:=Oq rL;omega) (by have:=QD tA;omega) (fun h=>by omega);refine iu ?_;exact WQ.meet () iW ⟨h0,Below.refl _ _⟩
     ·skip
      refine iu ?_;exact g_ (mU (by rw[jH];simp[jm, *]))
    ·skip
     refine iu ?_;exact g_ (mU (by rw[jH];simp[jm, *]))
   ·skip
    refine iu ?_;exact g_ (mU (by rw[jH];simp[jm, *]))
  by_cases q:v.k=5
  ·clear nr xI
   by_cases a1:0 <= v.n
   ·skip
    by_cases a2:v.n <= 9007199254740992
    ·skip
     by_cases a3:v.s=0
     ·skip
      cases rL:kO v with
      | false=>
       rw[rL] at jH;refine iu ?_;exact g_ (mU (by rw[jH];simp[jm, *]))
      | true=>
       rw[rL] at jH;cases tA:k_ v with
       | false=>
        rw[tA] at jH;refine iu ?_;exact g_ (mU (by rw[jH];simp[jm, *]))
       | true=>
        rw[tA] at jH;have h0:=CB (by rw[jH];simp[jm, *]) (by have:=Oq rL;omega) (by have:=QD tA;omega) (fun h=>by omega);refine iu ?_;exact WQ.meet () iW ⟨h0,Below.refl _ _⟩
     ·skip
      refine iu ?_;exact g_ (mU (by rw[jH];simp[jm, *]))
    ·skip
     refine iu ?_;exact g_ (mU (by rw[jH];simp[jm, *]))
   ·skip
    refine iu ?_;exact g_ (mU (by rw[jH];simp[jm, *]))
  by_cases q:v.k=6
  ·clear nr xI
   by_cases a1:v.n=0
   ·skip
    by_cases a2:v.s=0
    ·skip
     cases tA:k_ v with
     | false=>
      rw[tA] at jH;refine iu ?_;exact g_ (mU (by rw[jH];simp[jm, *]))
     | true=>
      rw[tA] at jH
      by_cases a3:16384<v.t.size
      ·refine iu ?_
       exact g_ ⟨sB (v_ (Rb (by rw[jH];simp[jm, *]) (.inl a3)) j9).symm,jP⟩
      ·skip
       have h0:=CB (by rw[jH];simp[jm, *]) gZ (by have:=QD tA;omega) (fun h=>by omega);refine iu ?_;exact WQ.meet () iW ⟨h0,Below.refl _ _⟩
    ·skip
     refine iu ?_;exact g_ (mU (by rw[jH];simp[jm, *]))
   ·skip
    refine iu ?_;exact g_ (mU (by rw[jH];simp[jm, *]))
  by_cases q:v.k=7
  ·clear nr xI
   by_cases a1:v.n=0
   ·skip
    by_cases a2:v.s=0
    ·skip
     cases tA:k_ v with
     | false=>
      rw[tA] at jH;refine iu ?_;exact g_ (mU (by rw[jH];simp[jm, *]))
     | true=>
      rw[tA] at jH
      by_cases a3:16384<v.t.size
      ·refine iu ?_
       exact g_ ⟨sB (v_ (Rb (by rw[jH];simp[jm, *]) (.inl a3)) j9).symm,jP⟩
      ·skip
       have h0:=CB (by rw[jH];simp[jm, *]) gZ (by have:=QD tA;omega) (fun h=>by omega);refine iu ?_;exact WQ.meet () iW ⟨h0,Below.refl _ _⟩
    ·skip
     refine iu ?_;exact g_ (mU (by rw[jH];simp[jm, *]))
   ·skip
    refine iu ?_;exact g_ (mU (by rw[jH];simp[jm, *]))
  by_cases q:v.k=8
  ·clear nr xI
   by_cases a1:v.n=0
   ·skip
    by_cases a2:v.s=0
    ·skip
     cases rL:kO v with
     | false=>
      rw[rL] at jH;refine iu ?_;exact g_ (mU (by rw[jH];simp[jm, *]))
     | true=>
      rw[rL] at jH
      by_cases a3:v.names.length=0
      ·skip
       by_cases a4:200<v.kids.length
       ·refine iu ?_
        exact g_ ⟨sB (v_ (Rb (by rw[jH];simp[jm, *]) (.inr a4)) j9).symm,jP⟩
       have h0:=CB (by rw[jH];simp[jm, *]) (by have:=Oq rL;omega) gZ (fun h=>by omega);refine iu ?_;exact WQ.meet () iW ⟨h0,Below.refl _ _⟩
      ·skip
       refine iu ?_;exact g_ (mU (by rw[jH];simp[jm, *]))
    ·skip
     refine iu ?_;exact g_ (mU (by rw[jH];simp[jm, *]))
   ·skip
    refine iu ?_;exact g_ (mU (by rw[jH];simp[jm, *]))
  by_cases q:v.k=9
  ·skip
   by_cases a1:v.n=0
   ·skip
    by_cases a2:v.s=0
    ·skip
     cases rL:kO v with
     | false=>
      rw[rL] at jH;refine iu ?_;exact g_ (mU (by rw[jH];simp[jm, *]))
     | true=>
      rw[rL] at jH;have jM:nK v=true:=by rw[jH];simp[jm, *]
      by_cases a4:200<v.kids.length
      ·refine iu ?_
       exact g_ ⟨sB (v_ (Rb jM (.inr a4)) j9).symm,jP⟩
      have E_:=AG v;have ai0:l_ v=false -> qu v=3:=fun h=>by
       unfold qu;rw[if_neg (by rw[jM];exact Bool.noConfusion),if_neg (by have:=Oq rL;omega),if_pos ⟨q,h⟩]
      by_cases a5:v.names.length=v.kids.length
      ·refine iu ?_
       refine WC.loop (fun i:Nat=>[(1,Iq d),(2,iF g),(7,Iq i)]) (fun i w'=>i <= v.names.length /\ iB w1 w' /\ ∀j,j<i -> Gb v.names j=true) (fun i=>v.names.length - i) 0 iW ⟨aw _,Below.refl _ _,fun j hj=>absurd hj gZ⟩ ?_;rintro i wz ⟨hi,O6,j8⟩;have Lj:=hR.lt;have hRz:=hR.below O6 Lj;have al1:=jP.iR O6;have z4:wz.cell? ⟨g,4,none⟩=some (.slice np v.names.length nc):=hRz.cell 4 iz
       by_cases o8:i<v.names.length
       ·obtain⟨nb,no,rfl,tj,FI⟩:=nr gZ
        have rC:=FI i o8;have Et:=FI (i - 1) gZ;have hnz:=xI i o8;clear FI nr xI;have kK:Gb v.names i=(nU (v.names.getD i jz) && (decide (i=0) || Op.bytesLess (v.names.getD (i - 1) jz).toList (v.names.getD i jz).toList)):=rfl;have ya:=Vl.KC (v.names.getD i jz).toList (v.names.getD (i - 1) jz).toList;have m4:nU (v.names.getD i jz)=(decide (1 <= (v.names.getD i jz).size) && decide ((v.names.getD i jz).size <= 40)):=rfl;have acH:Gb v.names i=false -> Ending.returned (Iq 3)=.returned (Iq (chk (m+1) v)):=fun h=>sB (v_ (ai0 (by
         cases hf:l_ v with
         | false=>rfl
         | true=>have:=(E_.1 hf).1 i o8;rw[h] at this;cases this)) j9).symm
        generalize v.names.getD i jz=nm at rC hnz kK ya m4;generalize v.names.getD (i - 1) jz=pm at Et kK ya;refine iu ?_;refine WC.drawn 33 (fun wx=>iB w wx /\ h_ 25 wx g (lW v (.slice (some ⟨nb,no,none⟩) v.names.length nc) (.slice sp v.kids.length cap))) fun w2 qY=>?_;have hS:iB w w2 /\ h_ 25 w2 g (lW v (.slice (some ⟨nb,no,none⟩) v.names.length nc) (.slice sp v.kids.length cap)):=⟨al1.trans (qY.below _),hRz.below (qY.below _) hRz.lt⟩;have jg:=O6.trans (qY.below _)
        by_cases x1:nm.size<1
        ·skip
         refine iq [0] hS ?_;refine ik 1 [3,4,5,6,7,8,9,10,11,12,13,14,15,16,17,18,19,20,21,22,23,24,25,26,27,28,29,30,31,32,33] (fun wx hx=>hx.2.cell 4 iz) hS ?_;refine iq [2] hS ?_;refine jV (hq:=gZ) 3 i (no+i) gZ (.inr hS) ?_;refine ik 4 [5,6,7,8,9,10,11,12,13,14,15,16,17,18,19,20,21,22,23,24,25,26,27,28,29,30,31,32,33] (fun wx hx=>(hx.1.cell (p:=⟨nb,no+i,none⟩) tj).trans rC) hS ?_;refine iq [5,6,7,8] hS ?_;refine iq [9,10,11,12,13,14,15,16] hS ?_;refine iq [17,18,19,20] hS ?_;refine iq [21,22,23,24,25,26,27,28,29,30,31,32] hS ?_;refine iI 33 ?_;refine iA ?_;refine iO ?_;refine im ?_;refine gY ?_;exact g_ ⟨acH (by rw[kK,m4,decide_eq_false gZ];rfl),hS.1⟩
        by_cases x2:40<nm.size
        ·skip
         refine iq [0] hS ?_;refine ik 1 [3,4,5,6,7,8,9,10,11,12,13,14,15,16,17,18,19,20,21,22,23,24,25,26,27,28,29,30,31,32,33] (fun wx hx=>hx.2.cell 4 iz) hS ?_;refine iq [2] hS ?_;refine jV (hq:=gZ) 3 i (no+i) gZ (.inr hS) ?_;refine ik 4 [5,6,7,8,9,10,11,12,13,14,15,16,17,18,19,20,21,22,23,24,25,26,27,28,29,30,31,32,33] (fun wx hx=>(hx.1.cell (p:=⟨nb,no+i,none⟩) tj).trans rC) hS ?_;refine iq [5,6,7,8] hS ?_;refine ik 9 [11,12,13,14,15,16,17,18,19,20,21,22,23,24,25,26,27,28,29,30,31,32,33] (fun wx hx=>hx.2.cell 4 iz) hS ?_;refine iq [10] hS ?_;refine jV (hq:=gZ) 11 i (no+i) gZ (.inr hS) ?_;refine ik 12 [13,14,15,16,17,18,19,20,21,22,23,24,25,26,27,28,29,30,31,32,33] (fun wx hx=>(hx.1.cell (p:=⟨nb,no+i,none⟩) tj).trans rC) hS ?_;refine iq [13,14,15,16] hS ?_;refine iq [17,18,19,20] hS ?_;refine iq [21,22,23,24,25,26,27,28,29,30,31,32] hS ?_;refine iI 33 ?_;refine iA ?_;refine iO ?_;refine im ?_;refine gY ?_;exact g_ ⟨acH (by rw[kK,m4,decide_eq_false (show ¬nm.size <= 40 by omega),Bool.and_false];rfl),hS.1⟩
        have aaH:nU nm=true:=by rw[m4,decide_eq_true gZ,decide_eq_true gZ];rfl
        by_cases x3:i=0
        ·skip
         refine iq [0] hS ?_;refine ik 1 [3,4,5,6,7,8,9,10,11,12,13,14,15,16,17,18,19,20,21,22,23,24,25,26,27,28,29,30,31,32,33] (fun wx hx=>hx.2.cell 4 iz) hS ?_;refine iq [2] hS ?_;refine jV (hq:=gZ) 3 i (no+i) gZ (.inr hS) ?_;refine ik 4 [5,6,7,8,9,10,11,12,13,14,15,16,17,18,19,20,21,22,23,24,25,26,27,28,29,30,31,32,33] (fun wx hx=>(hx.1.cell (p:=⟨nb,no+i,none⟩) tj).trans rC) hS ?_;refine iq [5,6,7,8] hS ?_;refine ik 9 [11,12,13,14,15,16,17,18,19,20,21,22,23,24,25,26,27,28,29,30,31,32,33] (fun wx hx=>hx.2.cell 4 iz) hS ?_;refine iq [10] hS ?_;refine jV (hq:=gZ) 11 i (no+i) gZ (.inr hS) ?_;refine ik 12 [13,14,15,16,17,18,19,20,21,22,23,24,25,26,27,28,29,30,31,32,33] (fun wx hx=>(hx.1.cell (p:=⟨nb,no+i,none⟩) tj).trans rC) hS ?_;refine iq [13,14,15,16] hS ?_;refine iq [17,18,19,20] hS ?_;refine iq [21,22,23,24,25,26,27,28,29,30,31,32] hS ?_;refine iI 33 ?_;refine iA ?_;refine iO ?_;refine im ?_;refine gY ?_;refine WQ.again (i+1) iW ⟨o8,jg,fun j hj=>(cE.1 hj).elim (j8 j) (fun e=>by rw[e];rw[kK,aaH,x3];rfl)⟩ (by show v.names.length - (i+1)<v.names.length - i;omega)
        have hw:IntKind.i64.wrap ((i:Int) - 1)=((i - 1:Nat):Int):=by rw[bG _ gZ];omega
        cases iS:Op.bytesLess pm.toList nm.toList with
        | true=>
         rw[iS] at ya kK;refine iq [0] hS ?_;refine ik 1 [3,4,5,6,7,8,9,10,11,12,13,14,15,16,17,18,19,20,21,22,23,24,25,26,27,28,29,30,31,32,33] (fun wx hx=>hx.2.cell 4 iz) hS ?_;refine iq [2] hS ?_;refine jV (hq:=gZ) 3 i (no+i) gZ (.inr hS) ?_;refine ik 4 [5,6,7,8,9,10,11,12,13,14,15,16,17,18,19,20,21,22,23,24,25,26,27,28,29,30,31,32,33] (fun wx hx=>(hx.1.cell (p:=⟨nb,no+i,none⟩) tj).trans rC) hS ?_;refine iq [5,6,7,8] hS ?_;refine ik 9 [11,12,13,14,15,16,17,18,19,20,21,22,23,24,25,26,27,28,29,30,31,32,33] (fun wx hx=>hx.2.cell 4 iz) hS ?_;refine iq [10] hS ?_;refine jV (hq:=gZ) 11 i (no+i) gZ (.inr hS) ?_;refine ik 12 [13,14,15,16,17,18,19,20,21,22,23,24,25,26,27,28,29,30,31,32,33] (fun wx hx=>(hx.1.cell (p:=⟨nb,no+i,none⟩) tj).trans rC) hS ?_;refine iq [13,14,15,16] hS ?_;refine iq [17,18,19,20] hS ?_;refine ik 21 [23,24,31,32,33] (fun wx hx=>hx.2.cell 4 iz) hS ?_;refine iq [22] hS ?_;refine jV (hq:=gZ) 23 i (no+i) gZ (.inr hS) ?_;refine ik 24 [31,32,33] (fun wx hx=>(hx.1.cell (p:=⟨nb,no+i,none⟩) tj).trans rC) hS ?_;refine iq [25] hS ?_;refine ik 26 [29,30,31,32,33] (fun wx hx=>hx.2.cell 4 iz) hS ?_;refine iq [27,28] hS ?_;refine IF 29 (i - 1) (no+(i - 1)) rfl rfl rfl rfl rfl rfl rfl rfl gZ gZ gZ (.inr hS) ?_;refine ik 30 [31,32,33] (fun wx hx=>(hx.1.cell (p:=⟨nb,no+(i - 1),none⟩) tj).trans Et) hS ?_;refine iq [31,32] hS ?_;refine iI 33 ?_;refine iA ?_;refine iO ?_;refine im ?_;refine ku ?_;refine WC.as 215 (.bool false) rfl (congrArg Value.bool ya) ?_;refine gY ?_;refine WQ.again (i+1) iW ⟨o8,jg,fun j hj=>(cE.1 hj).elim (j8 j) (fun e=>by rw[e];rw[kK,aaH];simp)⟩ (by show v.names.length - (i+1)<v.names.length - i;omega)
        | false=>
         rw[iS] at ya kK;refine iq [0] hS ?_;refine ik 1 [3,4,5,6,7,8,9,10,11,12,13,14,15,16,17,18,19,20,21,22,23,24,25,26,27,28,29,30,31,32,33] (fun wx hx=>hx.2.cell 4 iz) hS ?_;refine iq [2] hS ?_;refine jV (hq:=gZ) 3 i (no+i) gZ (.inr hS) ?_;refine ik 4 [5,6,7,8,9,10,11,12,13,14,15,16,17,18,19,20,21,22,23,24,25,26,27,28,29,30,31,32,33] (fun wx hx=>(hx.1.cell (p:=⟨nb,no+i,none⟩) tj).trans rC) hS ?_;refine iq [5,6,7,8] hS ?_;refine ik 9 [11,12,13,14,15,16,17,18,19,20,21,22,23,24,25,26,27,28,29,30,31,32,33] (fun wx hx=>hx.2.cell 4 iz) hS ?_;refine iq [10] hS ?_;refine jV (hq:=gZ) 11 i (no+i) gZ (.inr hS) ?_;refine ik 12 [13,14,15,16,17,18,19,20,21,22,23,24,25,26,27,28,29,30,31,32,33] (fun wx hx=>(hx.1.cell (p:=⟨nb,no+i,none⟩) tj).trans rC) hS ?_;refine iq [13,14,15,16] hS ?_;refine iq [17,18,19,20] hS ?_;refine ik 21 [23,24,31,32,33] (fun wx hx=>hx.2.cell 4 iz) hS ?_;refine iq [22] hS ?_;refine jV (hq:=gZ) 23 i (no+i) gZ (.inr hS) ?_;refine ik 24 [31,32,33] (fun wx hx=>(hx.1.cell (p:=⟨nb,no+i,none⟩) tj).trans rC) hS ?_;refine iq [25] hS ?_;refine ik 26 [29,30,31,32,33] (fun wx hx=>hx.2.cell 4 iz) hS ?_;refine iq [27,28] hS ?_;refine IF 29 (i - 1) (no+(i - 1)) rfl rfl rfl rfl rfl rfl rfl rfl gZ gZ gZ (.inr hS) ?_;refine ik 30 [31,32,33] (fun wx hx=>(hx.1.cell (p:=⟨nb,no+(i - 1),none⟩) tj).trans Et) hS ?_;refine iq [31,32] hS ?_;refine iI 33 ?_;refine iA ?_;refine iO ?_;refine im ?_;refine ku ?_;refine WC.as 215 (.bool true) rfl (congrArg Value.bool ya) ?_;refine gY ?_;exact g_ ⟨acH (by rw[kK,aaH,decide_eq_false x3];rfl),hS.1⟩
       ·obtain rfl:i=v.names.length:=gZ
        have NX:=E_.2 ⟨j8,a5⟩;have h0:=CB jM (by have:=Oq rL;omega) gZ (fun _=>NX);clear E_ j8 nr xI;refine iu ?_;exact WQ.meet () iW ⟨h0,O6⟩
      ·have NX:l_ v=false:=by cases h:l_ v with|false=>rfl|true=>exact(a5 (E_.1 h).2).elim
       refine iu ?_;exact g_ ⟨sB (v_ (ai0 NX) j9).symm,jP⟩
    ·skip
     refine iu ?_;exact g_ (mU (by rw[jH];simp[jm, *]))
   ·skip
    refine iu ?_;exact g_ (mU (by rw[jH];simp[jm, *]))
  clear nr xI;have NX:nK v=false:=by
   rw[jH];unfold jm;rw[if_neg (show ¬v.k=1 by omega),if_neg (show ¬v.k=2 by omega),if_neg (show ¬v.k=3 by omega),if_neg (show ¬v.k=4 by omega),if_neg (show ¬v.k=5 by omega),if_neg (show ¬(v.k=6 \/ v.k=7) by omega),if_neg (show ¬v.k=8 by omega),if_neg (show ¬v.k=9 by omega)]
  refine iu ?_;exact g_ (mU NX)
 ·rintro⟨⟩ w2 ⟨h0,mj⟩
  clear nr xI jH mU Rb CB Oq QD;have RL:chk (m+1) v=firstBad (v.kids.map (chk m)):=by
   conv=>lhs;unfold chk
   rw[if_pos h0]
  refine iu ?_;refine WC.loop (fun i:Nat=>[(1,Iq d),(2,iF g),(8,Iq i)]) (fun i w'=>i <= v.kids.length /\ iB w1 w' /\ ∀j,j<i -> chk m (v.kids.getD j lH)=0) (fun i=>v.kids.length - i) 0 iW ⟨aw _,mj,fun j hj=>absurd hj gZ⟩ ?_;clear mj c0 c1 c2 c3 c4 c5;rintro i wr ⟨hi,jC,j8⟩;have Lj:=hR.lt;have c5:wr.cell? ⟨g,5,none⟩=some (.slice sp v.kids.length cap):=(hR.below jC Lj).cell 5 iz;have nJ:=jP.iR jC
  by_cases je:i<v.kids.length
  ·obtain⟨kb,ko,rfl,oN,kA⟩:=ji gZ
   obtain⟨c,mO,pj,mo⟩:=kA i je;clear ji kA;have sH:wr.rangeAt kb (ko+i*6) c:=fun j u hu=>by rw[nJ.cell (p:=⟨kb,ko+i*6+j,none⟩) oN];exact mo j u hu
   refine iu ?_;refine iG i (ko+i*6) je ?_;refine ig sH mO ?_;refine gY ?_;refine il func44 (ih (d+1) (pj.below nJ) hd) ?_;rintro e w4 ⟨rfl,lD⟩;refine⟨_,rfl,?_⟩;have Tn:=jC.iR lD
   by_cases h0:chk m (v.kids.getD i lH)=0
   ·refine gY ?_
    refine WQ.again (i+1) iW ⟨je,Tn,fun j hj=>(cE.1 hj).elim (j8 j) (fun e=>by rw[e];exact h0)⟩ (by show v.kids.length - (i+1)<v.kids.length - i;omega)
   ·have sF:chk (m+1) v=chk m (v.kids.getD i lH):=by
     rw[RL,qn (i:=i) (by rw[av];exact je) (fun j hj=>by rw[pH m v.kids j gZ];exact j8 j hj) (by rw[pH m v.kids i je];exact h0),pH m v.kids i je]
    refine gY ?_;exact g_ ⟨sB sF.symm,jP.iR Tn⟩
  ·obtain rfl:i=v.kids.length:=gZ
   refine iu ?_;refine g_ ⟨sB ?_,nJ⟩;rw[RL];exact(rj fun j hj=>by rw[av] at hj;rw[pH m v.kids j hj];exact j8 j hj).symm
theorem GQ:∀ {f:Nat}{w:World}{v:V}{cs:List Value}(m:Nat) (d:Int),kH f w v cs -> m <= 16 -> d=17 - (m:Int) ->
  Calls prog 44 #[.agg cs.toArray,Iq d] w fun e w'=>e=.returned (Iq (chk m v)) /\ iB w w'
 | 0,_,_,_,_,_,h,_,_=>h.elim
 | f+1,w,v,cs,0,d,hv,_,hd=>by
  refine iY (args:=[.agg cs.toArray,Iq d]) func44 ntmps44 ?_;have tO:16<d:=gZ;refine gY ?_;refine iC fun g w1 hf=>?_;refine gY ?_;exact g_ ⟨rfl,hf.below⟩
 | f+1,w,v,cs,m+1,d,hv,hm,hd=>by
  have ih:=fun {w:World}{v:V}{cs:List Value}(d:Int) (h1:kH f w v cs) (h2:d=17 - (m:Int))=>@GQ f w v cs m d h1 gZ h2;have tO:d <= 16:=gZ;have hd0:0 <= d:=gZ;exact V4 ih gZ hv tO hd0
theorem Gu {v:V}(h:kH f w v cs):
  Calls prog 18 #[.agg cs.toArray] w fun e w'=>e=.returned (Iq (chk 16 v)) /\ iB w w':=by
 refine iY (args:=[.agg cs.toArray]) func18 ntmps18 ?_;refine gY ?_;refine iC fun g w1 hf=>?_;have jx:jl w g w1 25 cs:=hf;refine gY ?_;refine ig (h_.rangeAt jx.blk) h.len ?_;refine il func44 (GQ 16 1 (h.below jx.below) gZ gZ) ?_;rintro e w2 ⟨rfl,jg⟩;refine⟨_,rfl,?_⟩;refine gY ?_;exact g_ ⟨rfl,jx.below.trans (jg.mono jx.below.size)⟩
def prtK (g:V -> Nat -> Nat):List V -> Nat -> Nat
 | [],n=>n
 | k :: r,n=>if n <= 65536 then prtK g r (g k n) else n
def prt:Nat -> V -> Nat -> Nat
 | 0,_,n=>n
 | f+1,v,n=>prtK (prt f) v.kids (n+1+v.t.size)
theorem MN {f m:Nat}(ih:∀(v:V) (n:Nat),chk m v=0 -> prt f v n <= n+(encV m v).length):∀(l:List V) (n:Nat),(∀x∈l,chk m x=0) -> prtK (prt f) l n <= n+(l.flatMap (encV m)).length
 | [],n,_=>by simp[prtK]
 | k :: r,n,h=>by
  unfold prtK;rw[an,aa]
  split
  ·have h1:=ih k n (h k iz)
   have h2:=MN ih r (prt f k n) fun x hx=>h x (az _ hx);omega
  ·omega
theorem Iz (ky:V -> List Int) (st:Bool) (names:List ByteArray) (kids:List V): (kids.flatMap ky).length <= ((List.range kids.length).flatMap (kP ky st names kids)).length:=by
 have key:∀i,i <= kids.length -> ((kids.take i).flatMap ky).length <= ((List.range i).flatMap (kP ky st names kids)).length:=by
  intro i
  induction i with
  | zero=>intro _;simp
  | succ i ih=>
   intro hi;have h1:=ih gZ;have ht:kids.take (i+1)=kids.take i++[kids.getD i lH]:=by
    rw[aJ];simp[show i<kids.length by omega]
   rw[kG,aa,ht,ai,aa];have h2:([kids.getD i lH].flatMap ky).length <= (kP ky st names kids i).length:=by
    unfold kP;rw[aa];generalize kids.getD i lH=kd;simp
   omega
 have:=key kids.length (af _)
 rwa [aI] at this
theorem Sh:∀(f m:Nat) (v:V) (n:Nat),chk m v=0 -> prt f v n <= n+(encV m v).length
 | 0,_,_,n,_=>by unfold prt;omega
 | _+1,0,_,_,h=>by cases h
 | f+1,m+1,v,n,hc=>by
  unfold prt;have h1:=MN (Sh f m) v.kids (n+1+v.t.size) fun x hx=>SL hc hx;have Vn:1+v.t.size+(v.kids.flatMap (encV m)).length <= (encV (m+1) v).length:=by
   rcases X6 (oQ hc) with⟨h,e⟩|⟨h,e,_⟩|⟨h,e⟩|⟨h,e,_⟩|⟨h,e,_⟩|⟨h,e,_⟩|⟨h,e,_⟩|⟨h,e,_⟩
   all_goals rw[Bs,aj]
   ·rw[e];simp[V.t,V.kids,jz]
   ·rw[e];simp[V.t,V.kids,jz]
   ·rw[e];simp[V.t,V.kids,jz]
   ·rw[e];simp[V.t,V.kids,jz]
   ·rw[e];simp[V.t,V.kids,jz]
   ·rw[if_neg gZ,if_neg gZ,if_neg gZ,if_neg gZ,if_pos h,aa,sN]
    have:v.kids=[]:=by rw[e];rfl
    rw[this];simp;omega
   ·rw[if_neg gZ,if_neg gZ,if_neg gZ,if_neg gZ,if_neg gZ,if_pos (.inl h),aa]
    have ht:v.t.size=0:=by rw[e];rfl
    have:=Iz (encV m) (decide (v.k=9)) v.names v.kids;omega
   ·rw[if_neg gZ,if_neg gZ,if_neg gZ,if_neg gZ,if_neg gZ,if_pos (.inr h),aa]
    have ht:v.t.size=0:=by rw[e];rfl
    have:=Iz (encV m) (decide (v.k=9)) v.names v.kids;omega
  omega
theorem Ij:∀(f:Nat) {w0 w:World}{v:V}{cs:List Value}{pb n:Nat},kH f w0 v cs -> iB w0 w -> w0.heap.size <= pb -> h_ 3 w pb [Iq n] -> n <= 140737488355328 ->
  Calls prog 150 #[.agg cs.toArray,iF pb] w fun e w'=>e=.returned (.bool (decide (65536<prt f v n))) /\ h_ 3 w' pb [Iq (prt f v n)] /\ ib (fun b=>b<w.heap.size /\ b≠pb) w w'
 | 0,_,_,_,_,_,_,h,_,_,_,_=>h.elim
 | f+1,w0,w,v,cs,pb,n,hv,jP,uK,o5,hn=>by
  have ih:=@Ij f;obtain⟨sn,sk,rfl,-,-,-,Vs,-,⟨sp,cap,rfl,uG,oG,ji⟩⟩:=hv;have lL:prt (f+1) v n=prtK (prt f) v.kids (n+1+v.t.size):=rfl;rw[lL];refine iY (args:=[.agg (lW v sn (.slice sp v.kids.length cap)).toArray,iF pb]) func150 ntmps150 ?_;refine gY ?_;refine iC fun g w1 hf=>?_;have jx:jl w g w1 25 (lW v sn (.slice sp v.kids.length cap)):=hf;clear hf;have mE:=o5.lt;have kD:g≠pb:=by rw[jx.eq];omega
  have IU:=o5.below jx.below mE;have OU:ib (fun b=>b<w.heap.size /\ b≠pb) w w1:=(ib.ic jx.below).mono fun _ h=>h.1;refine gY ?_;refine WC.drawn 10 (fun wx=>h_ 3 wx pb [Iq n] /\ h_ 25 wx g (lW v sn (.slice sp v.kids.length cap))) fun w2 qY=>?_;have hS:h_ 3 w2 pb [Iq n] /\ h_ 25 w2 g (lW v sn (.slice sp v.kids.length cap)):=⟨IU.below (qY.below _) IU.lt,jx.blk.below (qY.below _) jx.blk.lt⟩;refine iq [0,1,2] hS ?_;refine ik 3 [4,8,9,10] (fun wx hx=>hx.1.cell 0 iz) hS ?_;refine iq [4,5] hS ?_;refine ik 6 [7,8,9,10] (fun wx hx=>hx.2.cell 3 iz) hS ?_;refine iq [7,8,9] hS ?_;refine iI 10 ?_;have e2:(n:Int)+1+(v.t.size:Int)=((n+1+v.t.size:Nat):Int):=gZ;generalize n+1+v.t.size=n1 at e2 ⊢;refine WL.store (v:=Iq n1) rfl rfl rfl rfl (congrArg (fun z=>some (Value.int .i64 z)) e2) rfl (by kernel_rfl) (hS.1.cell 0 iz) (hS.1.free 0) ?_;have jg:h_ 3 (w2.setCell ⟨pb,0,none⟩ (Iq n1)) pb [Iq n1]:=hS.1.set 0 (Iq n1);have lN:h_ 25 (w2.setCell ⟨pb,0,none⟩ (Iq n1)) g (lW v sn (.slice sp v.kids.length cap)):=hS.2.other _ _ kD;have lk:ib (fun b=>b<w.heap.size /\ b≠pb) w (w2.setCell ⟨pb,0,none⟩ (Iq n1)):=(OU.trans ((ib.ic (qY.below w1.heap.size)).mono fun b hb=>ak hb.1 jx.below.size)).setCell (fun h=>h.2 rfl) _;generalize w2.setCell ⟨pb,0,none⟩ (Iq n1)=w3 at jg lN lk;refine iO ?_;refine im ?_;refine gY ?_;generalize hRR:prtK (prt f) v.kids n1=RR;have Lj:=lN.lt;refine WC.loop (fun i:Nat=>[(1,iF pb),(2,iF g),(5,Iq i)])
   (fun i w'=>i <= v.kids.length /\ ib (fun b=>b<w3.heap.size /\ b≠pb) w3 w' /\ ∃x:Nat,h_ 3 w' pb [Iq x] /\ prtK (prt f) (v.kids.drop i) x=RR) (fun i=>v.kids.length - i) 0
   iW ⟨aw _,ib.refl _ _,n1,jg,hRR⟩ ?_
  rintro i wr ⟨hi,rR,x,wD,hx⟩;have RI:=lN.ij rR ⟨Lj,kD⟩;have VR:=lk.trans (rR.mono fun b hb=>⟨ak hb.1 lk.size,hb.2⟩);have Ju:∀ {wz:World}{xz:Nat},h_ 3 wz pb [Iq xz] -> ib (fun b=>b<w.heap.size /\ b≠pb) w wz -> xz=RR -> (Ending.returned (.bool (decide ((65536:Int)<(xz:Int))))=.returned (.bool (decide (65536<RR))) /\ h_ 3 wz pb [Iq (RR)] /\ ib (fun b=>b<w.heap.size /\ b≠pb) w wz) :=
   fun h1 h2 h3=>⟨by rw[<- h3];congr 2;simp only[cq];omega,by rw[<- h3];exact h1,h2⟩
  refine gY ?_;refine ia (RI.cell 5 iz) ?_
  by_cases je:i<v.kids.length
  ·have jh:v.kids.drop i=v.kids.getD i lH :: v.kids.drop (i+1):=by
    rw[bp je];simp[je]
   rw[jh] at hx;refine gY ?_;refine ia (wD.cell 0 iz) ?_
   by_cases Cb:x <= 65536
   ·obtain⟨kb,ko,rfl,oN,kA⟩:=ji gZ
    obtain⟨c,mO,pj,mo⟩:=kA i je;have nJ:=(jP.trans ((VR.mono fun b hb=>⟨ak hb jP.size,Nat.ne_of_lt (ak hb uK)⟩:ib (fun b=>b<w0.heap.size) w wr).below));have sH:wr.rangeAt kb (ko+i*6) c:=fun j u hu=>by rw[nJ.cell (p:=⟨kb,ko+i*6+j,none⟩) oN];exact mo j u hu
    unfold prtK at hx;rw[if_pos Cb] at hx;refine gY ?_;refine ia (RI.cell 5 iz) ?_;refine gY ?_;refine iG i (ko+i*6) je ?_;refine ig sH mO ?_;refine gY ?_;refine il func150 (ih (n:=x) pj nJ uK wD gZ) ?_;rintro e w4 ⟨rfl,lD,m8⟩;refine⟨_,rfl,?_⟩;refine gY ?_;exact WQ.again (i+1) iW ⟨je,rR.trans (m8.mono fun b hb=>⟨ak hb.1 rR.size,hb.2⟩),_,lD,hx⟩ (by show v.kids.length - (i+1)<v.kids.length - i;omega)
   ·unfold prtK at hx
    rw[if_neg Cb] at hx;refine gY ?_;refine ia (wD.cell 0 iz) ?_;refine iA ?_;refine iA ?_;refine gY ?_;exact g_ ⟨congrArg (fun b=>Ending.returned (Value.bool b)) (decide_eq_true gZ).symm,(Ju wD VR hx).2⟩
  ·obtain rfl:i=v.kids.length:=gZ
   rw[dt] at hx;unfold prtK at hx;refine gY ?_;refine ia (wD.cell 0 iz) ?_;refine iA ?_;refine iA ?_;refine gY ?_;exact g_ (Ju wD VR hx)
theorem D_ {v:V}(h:kH f w v cs) (hlen:chk 16 v=0 -> (encV 16 v).length <= 70368744177664):
  Calls prog 133 #[.agg cs.toArray] w (Ra w v):=by
 have hcs:=h.len;refine iY (args:=[.agg cs.toArray]) func133 ntmps133 ?_;refine gY ?_;refine iC fun g w1 hf=>?_;have jx:jl w g w1 25 cs:=hf;clear hf;have zY:=jx.size;have h1:=h.below jx.below;refine gY ?_;refine ig (h_.rangeAt jx.blk) hcs ?_;refine i_ func18 (Gu h1) ?_;rintro w2 jg
 have lQ:=jx.below.trans (jg.mono gZ);have Va:=jx.blk.below jg jx.blk.lt
 by_cases hc:chk 16 v=0
 ·refine gY ?_
  refine ix (z:=Iq 0) (fun _=>by kernel_rfl) fun pb w3 tS=>?_;have yt:jl w2 pb w3 3 [Iq 0]:=tS;clear tS;have jF:=yt.blk;have uK:=yt.eq;have Ku:=Va.below yt.below Va.lt;have UO:g≠pb:=by have:=Va.lt;omega
  refine gY ?_;refine iD (v:=Iq 0) (jF.cell 0 iz) (jF.free 0) ?_;have lD:=jF.set 0 (Iq 0);have ux:h_ 25 (w3.setCell ⟨pb,0,none⟩ (Iq 0)) g cs:=Ku.other _ _ UO;have m8:iB w2 (w3.setCell ⟨pb,0,none⟩ (Iq 0)):=ib.below ((ib.ic yt.below).setCell (fun hk=>by simp only at hk;omega) _);generalize w3.setCell ⟨pb,0,none⟩ (Iq 0)=w4 at lD ux m8;simp only[dy] at lD;have nR:=lQ.iR m8;have mE:w.heap.size <= pb:=by have:=lQ.size;omega
  clear yt;refine gY ?_;refine ig (h_.rangeAt ux) hcs ?_;refine i_ func150 (Ij (n:=0) f h nR mE lD gZ) ?_;rintro w5 ⟨oY,mz⟩
  have nY:=nR.trans (ib.below (ib.mono mz fun b (hb:b<w.heap.size)=>⟨ak hb nR.size,gZ⟩));have Dr:=ux.ij mz ⟨ux.lt,UO⟩;have hpe:=Sh f 16 v 0 hc
  by_cases hp:65536<prt f v 0
  ·have hr:kL v=([],5):=by unfold kL;rw[if_neg (by simpa using hc),if_pos gZ]
   refine gY ?_;exact WQ.nC rfl rfl rfl ⟨_,by rw[hr],by rw[hr];exact Bu.nil _,nY,fun g hg=>by cases hg⟩
  refine gY ?_;refine ig (h_.rangeAt Dr) hcs ?_;refine il func151 (GF 16 (h.below nY) hc (Bu.nil w5) ⟨Below.refl _ _,fun g hg=>by cases hg⟩ (by have:=hlen hc;simp only[aF];omega)) ?_;rintro _ w6 ⟨b,rfl,hb,hg⟩;refine⟨_,rfl,?_⟩;rw[aH] at hb;obtain⟨sp,cap,rfl,pY,qB⟩:=hb.form;have vL:=nY.trans (hg.old (B:=w.heap.size) (nY.size) fun g h=>by cases h)
  by_cases rz:65536<(encV 16 v).length
  ·have hr:kL v=([],5):=by unfold kL;rw[if_neg (by simpa using hc),if_pos rz]
   refine gY ?_;exact WQ.nC rfl rfl rfl ⟨_,by rw[hr],by rw[hr];exact Bu.nil _,vL,fun g hg=>by cases hg⟩
  ·have hr:kL v=(encV 16 v,0):=by unfold kL;rw[if_neg (by simpa using hc),if_neg rz]
   refine gY ?_;exact WQ.nC rfl rfl rfl ⟨_,by rw[hr],by rw[hr];exact hb,vL,fun g h=>(hg.2 g h).elim (fun h2=>by cases h2) fun h2=>by have:=nY.size;omega⟩
 ·have hr:kL v=([],chk 16 v):=by unfold kL;rw[if_pos hc]
  refine gY ?_;exact WQ.nC rfl rfl rfl ⟨_,by rw[hr],by rw[hr];exact Bu.nil _,lQ,fun g hg=>by cases hg⟩
theorem T7 {v:Value}(hv:Sl .u8 w v l) (hn:l.length <= 17592186044416):
  Calls prog 134 #[v] w fun e w'=>e=.returned (.agg (jq (Dig.p7 (0 :: l))).toArray) /\ iB w w':=by
 refine iY func134 ntmps134 ?_;refine gY ?_;refine ix (z:=.agg (jq Dig.lB).toArray) (Dig.vh) fun g w1 hf=>?_;have jx:jl w g w1 31 (jq Dig.lB):=hf;clear hf;have hz:=jx.size;have he:=jx.eq;refine gY ?_;refine WL.lit rfl rfl rfl rfl rfl rfl rfl fun b2 w2 jg lk lN=>?_;have lQ:=jx.below.trans (lk.mono gZ);refine gY ?_;refine WL.app rfl rfl rfl rfl rfl jg rfl (hv.ic lQ) (by simp only[aj,aF];omega) fun b3 w3 jF mP=>?_;have mM:=lk.trans (mP.old lk.size lN);refine i_ func152 (Dig.ZY b3 _ w3 jF.sl (by rw[aa];simp only[aj,aF];omega)) ?_;rintro w4 m8
 have Qa:=mM.iR m8;have B4:=jx.blk.below Qa jx.blk.lt;have hlen:(jq (Dig.p7 (0 :: l))).length=32:=by rw[av];exact Dig.oD _
 refine ir (hm:=hlen) (hold:=(by rfl)) B4 (kj.int _ _) ?_;refine gY ?_;exact WQ.tl rfl rfl rfl hlen (B4.setRow _) ⟨rfl,below_setRow (jx.below.trans (Qa.mono gZ)) gZ _⟩
theorem JW {v:V}(h:kH f w v cs) (hlen:chk 16 v=0 -> (encV 16 v).length <= 70368744177664):
  Calls prog 104 #[.agg cs.toArray] w (Nl w v):=by
 have hcs:=h.len;refine iY (args:=[.agg cs.toArray]) func104 ntmps104 ?_;refine gY ?_;refine iC fun g w1 hf=>?_;have jx:jl w g w1 25 cs:=hf;clear hf;refine ix (z:=.agg (jq Dig.lB).toArray) (Dig.vh) fun g2 w2 lI=>?_;have kM:jl w1 g2 w2 31 (jq Dig.lB):=lI;clear lI;have zY:=jx.size;have vJ:=kM.size;have ZS:=jx.eq;have De:=kM.eq;have lQ:=jx.below.trans (kM.below.mono gZ);have B1:=jx.blk.below kM.below jx.blk.lt;refine gY ?_;refine ig (h_.rangeAt B1) hcs ?_;refine il func133 (D_ (h.below lQ) hlen) ?_;rintro _ w3 ⟨b,rfl,hb,mM,-⟩;refine⟨_,rfl,?_⟩;have mG:=lQ.trans (mM.mono gZ);have Aa:=kM.blk.below mM kM.blk.lt;have Oa:=mM.size
 by_cases he:(kL v).2=0
 ·have hR:kB v=Dig.p7 (0 :: (kL v).1):=by unfold kB;rw[if_neg (by simpa using he)]
  have IC:=(vS he).2.1;rw[<- (vS he).2.2] at IC;refine gY ?_;refine i_ func134 (T7 hb.sl gZ) ?_;rintro w4 m8
  have Db:(jq (Dig.p7 (0 :: (kL v).1))).length=32:=by rw[av];exact Dig.oD _
  have B24:=Aa.below m8 Aa.lt;refine ir (hm:=Db) (hold:=(by rfl)) B24 (kj.int _ _) ?_;refine gY ?_;exact WQ.AH rfl rfl rfl rfl Db (B24.setRow _) ⟨by rw[hR,he],below_setRow (mG.trans (m8.mono gZ)) gZ _⟩
 ·have hR:kB v=Dig.lB:=by unfold kB;rw[if_pos he]
  refine gY ?_;refine iE (jq Dig.lB) (by kernel_rfl) ?_;refine gY ?_;refine ir (hm:=(by rfl)) (hold:=(by rfl)) Aa (kj.int _ _) ?_;refine gY ?_;exact WQ.AH rfl rfl rfl rfl (by rfl) (Aa.setRow _) ⟨by rw[hR];rfl,below_setRow mG gZ _⟩
theorem BT (u:Nat) (hu:u<18446744073709551616) (w:World):
  Calls prog 156 #[.int .u64 u] w fun e w'=>∃b,e=.returned b /\ Bu w' b (jK u) /\ iB w w' /\ ∀g,b.ownBlock=some g -> w.heap.size <= g:=by
 refine iY func156 ntmps156 ?_;refine gY ?_;refine il fg (mB u hu w) ?_;rintro _ w2 ⟨b,rfl,h1,h2,h3⟩;refine⟨_,rfl,?_⟩;refine gY ?_;exact g_ ⟨b,rfl,h1,h2,h3⟩
theorem u64_in (h:0 <= x) (h2:x <= 9223372036854775807): IntKind.u64.wrap x=((x.toNat:Nat):Int):=by rw[aW];omega
theorem Kr {x:Nat}(h2:x <= 9223372036854775807): IntKind.u64.wrap (x:Int)=((x:Nat):Int):=by rw[aW];omega
theorem Su {e:En}(h:uE f w e cs) (hf:jS e): Calls prog 138 #[.agg cs.toArray] w (KD w (oM e)):=by
 obtain⟨dc,rfl,hv,j7,lx,hh,rp,-,-⟩:=h;obtain⟨hk,wG,wE,yp,rT,tf,EB,-,-⟩:=tI hf;refine iY (args:=[.agg (iU e dc).toArray]) func138 ntmps138 ?_;refine gY ?_;refine iC fun g wz nh=>?_;have mJ:jl w g wz 76 (iU e dc):=nh;clear nh;have A1:jT 76 g wz e dc:=⟨mJ.blk,j7,hh⟩;have hwz:=mJ.below;clear mJ;have e8:IntKind.u8.wrap e.kind=e.kind:=by rw[bB];omega
 refine gY ?_;refine ia A1.kind ?_;refine gY ?_;refine WL.lit rfl rfl rfl rfl rfl rfl rfl fun b0 w0 Es K9 ho0=>?_;rw[e8] at Es;have a0:na wz w0 b0:=⟨K9,ho0⟩;have n0:[e.kind].length <= 1:=af _;refine gY ?_;refine ia (A1.below a0.below).table ?_;refine gY ?_;refine WL.call rfl rfl rfl rfl rfl func156 rfl (by kernel_rfl) (by rw[u64_in (x:=e.table) gZ gZ];exact BT e.table.toNat gZ w0) ?_;rintro _ x1 ⟨v1,rfl,NO,ED,-⟩;refine⟨_,rfl,?_⟩;have l1:=jI (e.table.toNat);refine WL.app rfl rfl rfl rfl rfl (Es.below ED) rfl NO.sl gZ fun b1 w1 mj qD=>?_;have a1:=a0.grow (((jv.refl w0 b0).below ED).trans qD);have n1:([e.kind]++jK e.table.toNat).length <= 11:=by rw[aa];omega
 refine gY ?_;refine ia (A1.below a1.below).doc ?_;refine gY ?_;refine WL.call rfl rfl rfl rfl rfl func156 rfl (by kernel_rfl) (by rw[u64_in (x:=e.doc) gZ gZ];exact BT e.doc.toNat gZ w1) ?_;rintro _ x2 ⟨v2,rfl,tD,lk,-⟩;refine⟨_,rfl,?_⟩;have l2:=jI (e.doc.toNat);refine WL.app rfl rfl rfl rfl rfl (mj.below lk) rfl tD.sl gZ fun b2 w2 jg lN=>?_;have a2:=a1.grow (((jv.refl w1 b1).below lk).trans lN);have n2:([e.kind]++jK e.table.toNat++jK e.doc.toNat).length <= 21:=by rw[aa];omega
 refine gY ?_;refine ia (A1.below a2.below).iZ ?_;refine gY ?_;refine WL.call rfl rfl rfl rfl rfl func156 rfl (by kernel_rfl) (by rw[u64_in (x:=e.iZ) gZ gZ];exact BT e.iZ.toNat gZ w2) ?_;rintro _ x3 ⟨v3,rfl,su,mM,-⟩;refine⟨_,rfl,?_⟩;have l3:=jI (e.iZ.toNat);refine WL.app rfl rfl rfl rfl rfl (jg.below mM) rfl su.sl gZ fun b3 w3 jF mP=>?_;have a3:=a2.grow (((jv.refl w2 b2).below mM).trans mP);have n3:([e.kind]++jK e.table.toNat++jK e.doc.toNat++jK e.iZ.toNat).length <= 31:=by rw[aa];omega
 refine gY ?_;refine ia (A1.below a3.below).text ?_;refine gY ?_;refine WL.call rfl rfl rfl rfl rfl func156 rfl (by kernel_rfl) (by rw[Kr (x:=e.text.size) gZ];exact BT e.text.size gZ w3) ?_;rintro _ x4 ⟨v4,rfl,hv4,m8,-⟩;refine⟨_,rfl,?_⟩;have l4:=jI (e.text.size);refine WL.app rfl rfl rfl rfl rfl (jF.below m8) rfl hv4.sl gZ fun b4 w4 lD ot=>?_;have a4:=a3.grow (((jv.refl w3 b3).below m8).trans ot);have n4:([e.kind]++jK e.table.toNat++jK e.doc.toNat++jK e.iZ.toNat++jK e.text.size).length <= 41:=by rw[aa];omega
 refine gY ?_;refine ia (A1.below a4.below).text ?_;refine WL.QM rfl rfl rfl rfl rfl lD rfl gZ fun b5 w5 oY Bg=>?_;have a5:=a4.grow Bg;have n5:([e.kind]++jK e.table.toNat++jK e.doc.toNat++jK e.iZ.toNat++jK e.text.size++oB e.text).length <= 5000:=by rw[aa,qf];omega
 refine gY ?_;refine ia (A1.below a5.below).ab ?_;refine gY ?_;refine WL.call rfl rfl rfl rfl rfl func156 rfl (by kernel_rfl) (by rw[u64_in (x:=e.ab) gZ gZ];exact BT e.ab.toNat gZ w5) ?_;rintro _ x6 ⟨v6,rfl,Ch,m5,-⟩;refine⟨_,rfl,?_⟩;have l6:=jI (e.ab.toNat);refine WL.app rfl rfl rfl rfl rfl (oY.below m5) rfl Ch.sl gZ fun b6 w6 qA Fa=>?_;have a6:=a5.grow (((jv.refl w5 b5).below m5).trans Fa);have n6:([e.kind]++jK e.table.toNat++jK e.doc.toNat++jK e.iZ.toNat++jK e.text.size++oB e.text++jK e.ab.toNat).length <= 5010:=by rw[aa];omega
 refine gY ?_;refine ia (A1.below a6.below).ae ?_;refine gY ?_;refine WL.call rfl rfl rfl rfl rfl func156 rfl (by kernel_rfl) (by rw[u64_in (x:=e.ae) gZ gZ];exact BT e.ae.toNat gZ w6) ?_;rintro _ x7 ⟨v7,rfl,HJ,tF,-⟩;refine⟨_,rfl,?_⟩;have l7:=jI (e.ae.toNat);refine WL.app rfl rfl rfl rfl rfl (qA.below tF) rfl HJ.sl gZ fun b7 w7 wF RG=>?_;have a7:=a6.grow (((jv.refl w6 b6).below tF).trans RG);have n7:([e.kind]++jK e.table.toNat++jK e.doc.toNat++jK e.iZ.toNat++jK e.text.size++oB e.text++jK e.ab.toNat++jK e.ae.toNat).length <= 5020:=by rw[aa];omega
 have Wb:Bu w7 b7 (e.kind :: (jK e.table.toNat++(jK e.doc.toNat++(jK e.iZ.toNat++(jK e.text.size++(vA e.text++(jK e.ab.toNat++jK e.ae.toNat))))))):=by simpa[ao,oB,vA] using wF
 have A7:=A1.below a7.below;have own:∀ {wx:World}{bx:Value},na wz wx bx -> iB w wx /\ ∀g,bx.ownBlock=some g -> w.heap.size <= g:=fun h=>⟨hwz.iR h.below,fun g hg=>aU hwz.size (h.own g hg)⟩;refine gY ?_;refine ia A7.kind ?_
 by_cases k2:e.kind=2
 ·refine gY ?_
  refine WL.all rfl rfl rfl rfl rfl rfl ?_;refine WL.app rfl rfl rfl rfl rfl wF rfl (Fc A7.hash hh A7.blk.lt) gZ fun b8 w8 uV nP=>?_;refine gY ?_;refine g_ ⟨b8,rfl,?_,own (a7.grow nP)⟩;unfold oM;rw[if_pos k2]
  simpa[ao,oB,vA] using uV
 ·refine gY ?_
  refine g_ ⟨b7,rfl,?_,own a7⟩;unfold oM;rw[if_neg k2,aS];exact Wb
theorem TY {b:Bk}(h:CP f w b cs): Calls prog 136 #[.agg cs.toArray] w (KD w (rQ b)):=by
 obtain⟨se,rfl,mH,mN,uK,hi,ht,hx⟩:=h;refine iY (args:=[.agg (oH b se).toArray]) func136 ntmps136 ?_;refine gY ?_;refine iC fun g w1 hf=>?_;have jx:jl w g w1 34 (oH b se):=hf;clear hf;have lJ:=jx.below;have B1:lM 34 g w1 b se:=⟨jx.blk,mN⟩;clear jx;refine gY ?_;refine ia B1.index ?_;refine gY ?_;refine ia B1.time ?_;refine gY ?_;refine ia B1.rh ?_;refine WL.J5 [Iq b.index,Iq b.time,Iq b.rh] rfl rfl rfl rfl rfl rfl (by kernel_rfl) fun lg w2 lI=>?_;have kM:jl w1 lg w2 3 [Iq b.index,Iq b.time,Iq b.rh]:=lI;clear lI;have lQ:=kM.below;have H2:=kM.blk;clear kM;have B2:=B1.below lQ;have hN:∃N:List Int,N=[b.index,b.time,b.rh]:=⟨_,rfl⟩;obtain⟨N,hN⟩:=hN;have hNg:∀i,i<3 -> [Value.int .i64 b.index,Iq b.time,Iq b.rh][i]? = some (Iq (N.getD i 0)) /\ jX (N.getD i 0):=fun i hi=>by
  rw[hN]
  match i,hi with
  | 0,_=>exact⟨rfl,by assumption⟩
  | 1,_=>exact⟨rfl,ht⟩
  | 2,_=>exact⟨rfl,hx⟩
 have aoP:∀i,i <= 3 -> ((N.take i).flatMap fun n=>jK n.toNat).length <= 10*i:=fun i hi=>by
  have h1:=jI b.index.toNat;have h2:=jI b.time.toNat;have h3:=jI b.rh.toNat;rw[hN]
  match i,hi with
  | 0,_=>simp
  | 1,_=>simp;omega
  | 2,_=>simp;omega
  | 3,_=>simp only[bY,bR,an,cW,aa,aF];omega
 refine gY ?_;refine WC.loop (fun i:Nat × Value=>[(1,iF g),(3,i.2),(4,.slice (some ⟨lg,0,none⟩) 3 3),(5,Iq i.1)])
  (fun i wx=>i.1 <= 3 /\ Bu wx i.2 ((N.take i.1).flatMap fun n=>jK n.toNat) /\ na w2 wx i.2) (fun i=>3 - i.1) (0,.slice none 0 0) iW ⟨aw _,by simpa using Bu.nil w2,⟨Below.refl _ _,fun g hg=>by cases hg⟩⟩ ?_
 rintro⟨i,br⟩ wr ⟨O_,jC,ss⟩;simp only at O_ jC ss ⊢;have hpi:=aoP i O_
 by_cases je:i<3
 ·obtain⟨Cd,uB⟩:=hNg i je
  have DF:=h_.rangeAt (H2.below ss.below H2.lt) i _ Cd;refine gY ?_;refine iG (hq:=gZ) i (0+i) je ?_;refine ia DF ?_;have e:=ajh (N.getD i 0) uB;have OD:=jI (N.getD i 0).toNat;have HQ:(N.getD i 0).toNat<18446744073709551616:=gZ;have hNl:N.length=3:=by rw[hN];rfl
  have wo:N.take (i+1)=N.take i++[N.getD i 0]:=by rw[aJ];simp[show i<N.length by omega]
  generalize N.getD i 0=x at e OD HQ wo;refine gY ?_;refine WL.call rfl rfl rfl rfl rfl fg rfl (by kernel_rfl) (by rw[show(bif false then(if(0:Int)>x then x else 0) else(if x>0 then x else 0))=(if x>0 then x else 0) from rfl,e];exact mB x.toNat HQ wr) ?_;rintro _ w3 ⟨b3,rfl,jF,mM,-⟩;refine⟨_,rfl,?_⟩;refine WL.app rfl rfl rfl rfl rfl (jC.below mM) rfl jF.sl gZ fun b4 w4 lD ot=>?_;refine gY ?_;refine WQ.again (i+1,b4) iW ⟨je,?_,ss.grow (((jv.refl wr br).below mM).trans ot)⟩ (by show 3 - (i+1)<3 - i;omega)
  show Bu w4 b4 ((N.take (i+1)).flatMap _)
  rw[wo,ai]
  simpa using lD
 ·obtain rfl:i=3:=gZ
  have B3:=B2.below ss.below;refine gY ?_;refine WL.all rfl rfl rfl rfl rfl rfl ?_;refine WL.app rfl rfl rfl rfl rfl jC rfl (Fc B3.prev mN B3.blk.lt) gZ fun b4 w4 lD ot=>?_;have a4:=ss.grow ot;have Qv:=lJ.iR lQ;refine gY ?_;refine g_ ⟨b4,rfl,?_,Qv.iR a4.below,fun g hg=>aU Qv.size (a4.own g hg)⟩;rw[hN] at lD;unfold rQ
  simpa[ao] using lD
theorem LK {b:Bk}(data:Bool) (h:CP f w b cs) (Hy:∀e∈b.iv,kY e=0) (hle:b.iv.length <= 200): Calls prog 108 #[.agg cs.toArray,.bool data] w (KD w (wU data b)):=by
 have j8:=h;have Lw:=O9.Wk h;have mg:=h.len;obtain⟨se,rfl,mH,mN,uK,hr⟩:=h;obtain⟨sp,cap,rfl⟩:=mH.slice;refine iY (args:=[.agg (oH b (.slice sp b.iv.length cap)).toArray,.bool data]) func108 ntmps108 ?_;refine gY ?_;refine iC fun g w1 hf=>?_;have jx:jl w g w1 34 (oH b (.slice sp b.iv.length cap)):=hf;clear hf;have lJ:=jx.below;have B1:lM 34 g w1 b (.slice sp b.iv.length cap):=⟨jx.blk,mN⟩;clear jx;have tg:(rQ b).length <= 70:=by
  have h1:=jI b.index.toNat;have h2:=jI b.time.toNat;have h3:=jI b.rh.toNat;unfold rQ;simp only[aa];omega
 have HQ:=jI b.iv.length;have eK:IntKind.u64.wrap (b.iv.length:Int)=((b.iv.length:Nat):Int):=Kr gZ;refine gY ?_;refine WC.drawn 6 (fun wx=>lM 34 g wx b (.slice sp b.iv.length cap)) fun w2 qY=>?_;have hS:=B1.below (qY.below _);have acM:iB w1 w2:=qY.below _;have lQ:=lJ.iR acM;refine jG (hm:=mg) 0 [1,6,7,8] (fun wx hx=>h_.rangeAt hx.blk) hS ?_;refine iq [2] hS ?_;refine ik 3 [4,5,6,7,8] (fun wx hx=>hx.iv) hS ?_;refine iq [4,5] hS ?_;refine iI 1 ?_;refine il func136 (TY (CP.below lQ j8)) ?_;rintro _ w3 ⟨b3,rfl,jF,mM,PM⟩;refine⟨_,rfl,?_⟩;refine WL.nil (WQ.dk (.inr (hS.below mM)) ?_);refine iI 6 ?_;refine WL.call rfl rfl rfl rfl rfl fg rfl (by kernel_rfl) (by rw[eK];exact mB b.iv.length gZ w3) ?_;rintro _ w4 ⟨b4,rfl,lD,m8,-⟩;refine⟨_,rfl,?_⟩;refine iO ?_;refine iI 7 ?_;refine WL.app rfl rfl rfl rfl rfl (jF.below m8) rfl lD.sl gZ fun b5 w5 oY Bg=>?_;refine iO ?_;refine iI 8 ?_;refine iA ?_;refine iO ?_;refine im ?_;have a3:na w1 w3 b3:=⟨acM.iR mM,fun g hg=>aU acM.size (PM g hg)⟩;have a5:=a3.grow (((jv.refl w3 b3).below m8).trans Bg);have hM:(rQ b++jK b.iv.length).length <= 80:=by rw[aa];omega
 have Pe:wU data b=(rQ b++jK b.iv.length)++b.iv.flatMap fun e=>oM e++ow data e:=by unfold wU;rw[ao]
 generalize rQ b++jK b.iv.length=M at oY hM Pe;refine gY ?_;refine WC.loop (fun i:Nat × Value=>[(1,.bool data),(2,iF g),(5,i.2),(6,Iq i.1)])
  (fun i w'=>i.1 <= b.iv.length /\ Bu w' i.2 (M++(b.iv.take i.1).flatMap fun e=>oM e++ow data e) /\ na w1 w' i.2) (fun i=>b.iv.length - i.1) (0,b5) iW ⟨aw _,by simpa using oY,a5⟩ ?_
 rintro⟨i,br⟩ wr ⟨hi,jC,ss⟩;simp only at hi jC ss ⊢;have Br:=B1.below ss.below;have tQ:=lJ.iR ss.below;refine gY ?_;refine ia Br.iv ?_
 by_cases je:i<b.iv.length
 ·have hlen:(M++(b.iv.take i).flatMap fun e=>oM e++ow data e).length <= 80+80000*200:=by
   have:=Dw (data:=data) (b.iv.take i) fun e he=>⟨Hy e (bN he),(Lw e (bN he)).1⟩;rw[aE] at this;rw[aa];have h2:min i b.iv.length <= 200:=gZ;have:=gL 80000 h2;omega
  have EW:=II b.iv jo je;obtain⟨kb,ko,oc,cs,qH,oN,yu,yD,mo⟩:=mH.at je
  injection qH with I5 _ Ih
  subst I5;subst Ih;have Ej:b.iv.getD i jo∈b.iv:=by simp[je]
  have Th:=Hy _ Ej;have SZ:=(Lw _ Ej).1;obtain⟨jM,PI⟩:=KT Th;obtain⟨wQ,-,-,-,rT,-⟩:=tI jM;generalize b.iv.getD i jo=e at yD Th SZ jM PI wQ rT EW;generalize KZ:(M++(b.iv.take i).flatMap fun e=>oM e++ow data e)=L at jC hlen;have hle:=FW e SZ;have again:∀ {wx:World}{bx:Value},Bu wx bx (L++(oM e++ow data e)) -> na w1 wx bx -> Bu wx bx (M++(b.iv.take (i+1)).flatMap fun e=>oM e++ow data e) /\ na w1 wx bx:=fun {wx bx} h1 h2=>by
   rw[EW,ai,<- ao,KZ];exact⟨by simpa using h1,h2⟩
  have lx:=yD.one;have aeM:=yD;obtain⟨dc,rfl,hv,j7,-,hh,-⟩:=yD;refine gY ?_;refine ia Br.iv ?_;refine gY ?_;refine iG i (ko+i*46) je ?_;refine ig (fun j u hu=>(tQ.cell (p:=⟨kb,ko+i*46+j,none⟩) oN).trans (mo j u hu)) yu ?_;refine ix (z:=.agg (iU jo iy).toArray) (fun _=>by kernel_rfl) fun c w5 PJ=>?_;have sK:jl wr c w5 76 (iU jo iy):=PJ;clear PJ;refine gY ?_;refine ir (hm:=yu) (hold:=(by rfl)) sK.blk lx ?_;have m5:iB wr (w5.setRow c (iU e dc).toArray):=below_setRow sK.below (by rw[sK.eq];exact af _) _;have C6:jT 76 c (w5.setRow c (iU e dc).toArray) e dc:=⟨sK.blk.setRow _,j7,hh⟩;have ap0:=sK.eq;generalize w5.setRow c (iU e dc).toArray=w6 at m5 C6;clear sK;have vL:=tQ.iR m5;have qA:=jC.below m5;have a6:=ss.grow ((jv.refl wr br).below m5);refine gY ?_;refine ig (h_.rangeAt C6.blk) yu ?_;refine il func138 (Su (uE.below vL aeM) jM) ?_;rintro _ w7 ⟨b7,rfl,wF,tF,ho7⟩;refine⟨_,rfl,?_⟩;have C7:=C6.below tF;have aq0:=C7.blk.lt;refine WL.app rfl rfl rfl rfl rfl (qA.below tF) rfl wF.sl gZ fun b8 w8 uV nP=>?_;have a8:=a6.grow (((jv.refl w6 br).below tF).trans nP);have Ux:br.ownBlock≠some c:=fun e=>by have:=jC.lt _ e;omega
  have C8:=C7.ij nP.1 ⟨aq0,Ux⟩;have n8:(L++oM e).length <= 16100000:=by rw[aa];omega
  have OJ:=lJ.iR a8.below;refine gY ?_;refine ia C8.kind ?_
  by_cases k2:e.kind=2
  rotate_left
  ·have hX:ow data e=[]:=by unfold ow;rw[if_neg k2]
   refine gY ?_;exact WQ.again (i+1,b8) iW ⟨je,again (by rw[hX,aS];exact uV) a8⟩ (by show b.iv.length - (i+1)<b.iv.length - i;omega)
  refine gY ?_;refine ia C8.gone ?_
  by_cases sT:e.gone=true \/ data=false
  ·have hX:ow data e=[0]:=by unfold ow;rw[if_pos k2,if_pos sT]
   have TU:e.gone=true \/ (e.gone=false /\ data=false):=by
    cases hq:e.gone with
    | true=>exact .inl rfl
    | false=>exact .inr ⟨rfl,sT.resolve_left (by rw[hq];simp)⟩
   rcases TU with hq|⟨hq,hdf⟩
   ·rw[hq]
    refine gY ?_;refine WL.push rfl rfl rfl rfl rfl rfl rfl rfl rfl rfl rfl (fun _=>rfl) rfl uV (by simp only[aj,aF];omega) fun b9 w9 EO g9=>?_;refine gY ?_;exact WQ.again (i+1,b9) iW ⟨je,again (by rw[hX,<- ao];exact EO) (a8.grow g9)⟩ (by show b.iv.length - (i+1)<b.iv.length - i;omega)
   ·rw[hq]
    subst hdf;refine gY ?_;refine WL.push rfl rfl rfl rfl rfl rfl rfl rfl rfl rfl rfl (fun _=>rfl) rfl uV (by simp only[aj,aF];omega) fun b9 w9 EO g9=>?_;refine gY ?_;exact WQ.again (i+1,b9) iW ⟨je,again (by rw[hX,<- ao];exact EO) (a8.grow g9)⟩ (by show b.iv.length - (i+1)<b.iv.length - i;omega)
  ·have Uu:e.gone=false:=by cases hq:e.gone with
    | true=>exact absurd (.inl hq) sT
    | false=>rfl
   obtain rfl:data=true:=by cases data with
    | true=>rfl
    | false=>exact absurd (.inr rfl) sT
   have hX:ow true e=1 :: (jK (kL e.data).1.length++(kL e.data).1):=by unfold ow;rw[if_pos k2,if_neg sT]
   obtain⟨he,-⟩:=PI k2 Uu;obtain⟨hc,IC,hx⟩:=vS he;have HQ:=jI (kL e.data).1.length;rw[<- hx] at IC;rw[Uu];refine gY ?_;refine ig C8.data j7 ?_;refine il func133 (D_ (hv.below OJ) fun _=>by rw[<- hx];omega) ?_;rintro _ w9 ⟨b9,rfl,EO,FO,DM⟩;refine⟨_,rfl,?_⟩;obtain⟨Ye,pr,rfl,-⟩:=EO.form;have ao8:=uV.below FO;have a9:=a8.grow ((jv.refl w8 b8).below FO);refine gY ?_;refine WL.push rfl rfl rfl rfl rfl rfl rfl rfl rfl rfl rfl (fun _=>rfl) rfl ao8 (by simp only[aj,aF];omega) fun D8 qZ MP AU=>?_;have n10:((L++oM e)++[1]).length <= 16100001:=by rw[aa];simp only[aj,aF];omega
   refine gY ?_;refine WL.call rfl rfl rfl rfl rfl fg rfl (by kernel_rfl) (by rw[Kr (x:=(kL e.data).1.length) gZ];exact mB (kL e.data).1.length gZ qZ) ?_;rintro _ Tl ⟨KY,rfl,Mq,ahO,-⟩;refine⟨_,rfl,?_⟩;refine WL.app rfl rfl rfl rfl rfl (MP.below ahO) rfl Mq.sl gZ fun zN UG am9 JL=>?_;have Qd:=(jv.refl qZ D8).below ahO;have adG:=AU.trans (Qd.trans JL);have aoH:=EO.sl.ij adG.1 fun b o n c hb iS=>⟨iS,fun e1=>by
    injection hb with mj _ _
    have h1:=DM b (by rw[mj];rfl);have h2:=uV.lt _ e1;omega⟩
   have n12:(((L++oM e)++[1])++jK (kL e.data).1.length).length <= 16100011:=by rw[aa];omega
   refine gY ?_;refine WL.app rfl rfl rfl rfl rfl am9 rfl aoH gZ fun wj Jv Kz g13=>?_;refine gY ?_;exact WQ.again (i+1,wj) iW ⟨je,again (by rw[hX];simpa[ao] using Kz) (a9.grow (adG.trans g13))⟩ (by show b.iv.length - (i+1)<b.iv.length - i;omega)
 ·obtain rfl:i=b.iv.length:=gZ
  rw[aI] at jC;refine gY ?_;refine g_ ⟨br,rfl,?_,tQ,fun g hg=>aU lJ.size (ss.own g hg)⟩;rw[Pe];exact jC
theorem Zc {e:En}(h:uE f w e cs) (hlen:chk 16 e.data=0 -> (encV 16 e.data).length <= 70368744177664):
  Calls prog 107 #[.agg cs.toArray] w fun r w'=>r=.returned (Iq (kY e)) /\ iB w w':=by
 obtain⟨dc,rfl,hv,j7,lx,hh,rp,rT,hr⟩:=h;have j8:nN (kH f w) e (iU e dc):=⟨dc,rfl,hv,j7,lx,hh,rp,rT,hr⟩;refine iY (args:=[.agg (iU e dc).toArray]) func107 ntmps107 ?_;refine gY ?_;refine iC fun g w1 hf=>?_;have jx:jl w g w1 76 (iU e dc):=hf;clear hf;have B1:jT _ g w1 e dc:=⟨jx.blk,j7,hh⟩;have lJ:=jx.below;clear jx;refine gY ?_;refine ig (h_.rangeAt B1.blk) B1.len ?_;refine il func135 (Vk (uE.below lJ j8)) ?_;rintro _ w2 ⟨⟨b,rfl,hb⟩,lk⟩;refine⟨_,rfl,?_⟩;have lQ:=lJ.iR lk;have B2:=B1.below lk;cases b with
 | false=>
  have hf:¬jS e:=fun h=>by have:=hb.2 h;cases this
  refine gY ?_;exact g_ ⟨by unfold kY;rw[if_neg hf],lQ⟩
 | true=>
  have hf:=hb.1 rfl;refine gY ?_;refine ia B2.kind ?_
  by_cases k2:e.kind=2
  rotate_left
  ·refine gY ?_
   exact g_ ⟨by unfold kY;rw[if_pos hf,if_pos (.inl k2)],lQ⟩
  refine gY ?_;refine ia B2.gone ?_;cases hg:e.gone with
  | true=>
   refine gY ?_;exact g_ ⟨by unfold kY;rw[if_pos hf,if_pos (.inr hg)],lQ⟩
  | false=>
   have vO:kY e=if(kL e.data).2≠0 then(kL e.data).2 else if kB e.data=e.hash then 0 else 18:=by unfold kY;rw[if_pos hf,if_neg (by simp[k2,hg])]
   refine gY ?_;refine ig B2.data j7 ?_;refine i_ func104 (JW (hv.below lQ) hlen) ?_;rintro w3 mM
   have mG:=lQ.iR mM;have B3:=B2.below mM;have tg:(jq (kB e.data)).length=32:=by rw[av];exact pC _
   refine gY ?_;refine ix (z:=.agg (jq Dig.lB).toArray) (Dig.vh) fun c w4 hf4=>?_;have AT:jl w3 c w4 31 (jq Dig.lB):=hf4;clear hf4;refine ir (hm:=tg) (hold:=(by rfl)) AT.blk (kj.int _ _) ?_;have mz:iB w3 (w4.setRow c (jq (kB e.data)).toArray):=below_setRow AT.below (by rw[AT.eq];exact af _) _;have H5:h_ 31 (w4.setRow c (jq (kB e.data)).toArray) c (jq (kB e.data)):=AT.blk.setRow _;generalize w4.setRow c (jq (kB e.data)).toArray=w5 at mz H5;have nY:=mG.iR mz;have B5:=B3.below mz;clear AT
   by_cases he:(kL e.data).2=0
   rotate_left
   ·refine gY ?_
    exact WQ.uT rfl rfl ⟨by rw[vO,if_pos he];rfl,nY⟩
   rw[if_neg (by simpa using he)] at vO;refine gY ?_;refine ig (h_.rangeAt H5) tg ?_;refine gY ?_;refine WL.uj rfl rfl rfl rfl rfl rfl B5.hash (by rw[av];exact hh) ?_;refine WL.aiD rfl rfl rfl rfl rfl rfl (pC _) hh ?_
   by_cases hq:kB e.data=e.hash
   ·refine WL.as 27 (.bool false) rfl (congrArg Value.bool (by simp[hq])) ?_
    refine gY ?_;exact g_ ⟨by rw[vO,if_pos hq],nY⟩
   ·refine WL.as 27 (.bool true) rfl (congrArg Value.bool (by simp[hq])) ?_
    refine gY ?_;exact g_ ⟨by rw[vO,if_neg hq],nY⟩
theorem Le {b:Bk}(h:CP f w b cs) (hlen:∀e∈b.iv,chk 16 e.data=0 -> (encV 16 e.data).length <= 70368744177664): Calls prog 72 #[.agg cs.toArray] w fun r w'=>r=.returned (Iq (oL b)) /\ iB w w':=by
 have j8:=h;have mg:=h.len;obtain⟨se,rfl,mH,mN,uK,hi,ht,hx⟩:=h;obtain⟨sp,cap,rfl⟩:=mH.slice;refine iY (args:=[.agg (oH b (.slice sp b.iv.length cap)).toArray]) func72 ntmps72 ?_;refine gY ?_;refine iC fun g w1 hf=>?_;have jx:jl w g w1 34 (oH b (.slice sp b.iv.length cap)):=hf;clear hf;have lJ:=jx.below;have B1:lM 34 g w1 b (.slice sp b.iv.length cap):=⟨jx.blk,mN⟩;clear jx;have bad:¬((0 <= b.index /\ b.index <= 2147483648) /\ (0 <= b.time /\ b.time <= 9007199254740992) /\ (0 <= b.rh /\ b.rh <= 9007199254740992) /\ (1 <= b.iv.length /\ b.iv.length <= 200)) -> Ending.returned (Value.int .i64 1)=.returned (Iq (oL b)):=fun h=>by unfold oL;rw[if_neg h]
 refine gY ?_;refine ia B1.index ?_;refine i_ eC (pL _ _ _ _) ?_;rintro w1 rfl
 by_cases c1:0 <= b.index /\ b.index <= 2147483648
 rotate_left
 ·refine WL.as 7 (.bool false) rfl (congrArg Value.bool (decide_eq_false c1)) ?_
  refine gY ?_;exact g_ ⟨bad fun h=>c1 h.1,lJ⟩
 refine WL.as 7 (.bool true) rfl (congrArg Value.bool (decide_eq_true c1)) ?_;refine gY ?_;refine ia B1.time ?_;refine WL.on rfl rfl ?_;refine i_ eC (pL _ _ _ _) ?_;rintro w1 rfl
 by_cases c2:0 <= b.time /\ b.time <= 9007199254740992
 rotate_left
 ·refine WL.as 12 (.bool false) rfl (congrArg Value.bool (decide_eq_false c2)) ?_
  refine gY ?_;exact g_ ⟨bad fun h=>c2 h.2.1,lJ⟩
 refine WL.as 12 (.bool true) rfl (congrArg Value.bool (decide_eq_true c2)) ?_;refine gY ?_;refine ia B1.rh ?_;refine WL.on rfl rfl ?_;refine i_ eC (pL _ _ _ _) ?_;rintro w1 rfl
 by_cases c3:0 <= b.rh /\ b.rh <= 9007199254740992
 rotate_left
 ·refine WL.as 18 (.bool false) rfl (congrArg Value.bool (decide_eq_false c3)) ?_
  refine gY ?_;exact g_ ⟨bad fun h=>c3 h.2.2.1,lJ⟩
 refine WL.as 18 (.bool true) rfl (congrArg Value.bool (decide_eq_true c3)) ?_;refine gY ?_;refine ia B1.iv ?_;refine gY ?_;refine i_ eC (pL _ _ _ _) ?_;rintro w1 rfl
 by_cases c4:(1:Int) <= (b.iv.length:Int) /\ (b.iv.length:Int) <= 200
 rotate_left
 ·refine WL.as 25 (.bool false) rfl (congrArg Value.bool (decide_eq_false c4)) ?_
  refine gY ?_;exact g_ ⟨bad fun h=>c4 gZ,lJ⟩
 refine WL.as 25 (.bool true) rfl (congrArg Value.bool (decide_eq_true c4)) ?_;have qt:oL b=if firstBad (b.iv.map kY)≠0 then firstBad (b.iv.map kY) else if 262144<(wU true b).length then 5 else 0:=by unfold oL;rw[if_pos ⟨c1,c2,c3,gZ⟩]
 have KR:∀j,j<b.iv.length -> (b.iv.map kY).getD j 0=kY (b.iv.getD j jo):=fun j hj=>by simp[hj]
 refine gY ?_;refine WC.loop (fun i:Nat=>[(1,iF g),(3,Iq i)])
  (fun i w'=>i <= b.iv.length /\ iB w1 w' /\ ∀j,j<i -> kY (b.iv.getD j jo)=0) (fun i=>b.iv.length - i) 0 iW ⟨aw _,Below.refl _ _,fun j hj=>by omega⟩ ?_
 rintro i wr ⟨hi,jC,hz⟩;have tQ:=lJ.iR jC;have Br:=B1.below jC;refine gY ?_;refine ia Br.iv ?_
 by_cases je:i<b.iv.length
 ·obtain⟨kb,ko,oc,cs,qH,oN,yu,yD,mo⟩:=mH.at je
  injection qH with I5 _ Ih
  subst I5;subst Ih;have Ej:b.iv.getD i jo∈b.iv:=by simp[je]
  have hl:=hlen _ Ej;have hmi:=KR i je;refine gY ?_;refine ia Br.iv ?_;refine gY ?_;refine iG i (ko+i*46) je ?_;refine ig (fun j u hu=>(tQ.cell (p:=⟨kb,ko+i*46+j,none⟩) oN).trans (mo j u hu)) yu ?_;refine i_ func107 (Zc (uE.below tQ yD) hl) ?_;rintro w7 tF
  have VP:=tQ.iR tF
  by_cases hc:kY (b.iv.getD i jo)=0
  ·refine gY ?_
   refine WQ.again (i+1) iW ⟨je,jC.iR tF,fun j hj=>?_⟩ (by show b.iv.length - (i+1)<b.iv.length - i;omega);rcases aO j i with h|h
   ·exact hz j h
   ·obtain rfl:j=i:=gZ
    exact hc
  ·have sF:firstBad (b.iv.map kY)=kY (b.iv.getD i jo):=by
    rw[<- hmi];exact qn (by simpa using je) (fun j hj=>by rw[KR j gZ];exact hz j hj) (by rw[hmi];exact hc)
   refine gY ?_;exact g_ ⟨by rw[qt,sF,if_pos hc],VP⟩
 ·obtain rfl:i=b.iv.length:=gZ
  have sF:=rj fun j hj=>by
   rw[av] at hj;rw[KR j hj];exact hz j hj
  have Hy:∀e∈b.iv,kY e=0:=fun e he=>oT.1 sF _ (fw he);rw[if_neg (by simpa using sF)] at qt;refine gY ?_;refine ig (h_.rangeAt Br.blk) mg ?_;refine il func108 (LK true (CP.below tQ j8) Hy gZ) ?_;rintro _ w8 ⟨b8,rfl,uV,yq,-⟩;refine⟨_,rfl,?_⟩;obtain⟨sp8,ai6,rfl,-⟩:=uV.form;have OJ:=tQ.iR yq
  by_cases rz:262144<(wU true b).length
  ·refine gY ?_
   exact g_ ⟨by rw[qt,if_pos rz],OJ⟩
  ·refine gY ?_
   exact g_ ⟨by rw[qt,if_neg rz],OJ⟩
end K
open Go.Maps
namespace Vw
open K
def nT (L:List Rw) (f:Int × Int -> Bool):Int × Int -> Bool:=fun a=>f a && L.any fun r=>decide (r.lG=a)
theorem NV (f:Int × Int -> Bool): nT [] f=fun _=>false:=by funext a;simp[nT]
theorem Lg {L:List Rw}{f:Int × Int -> Bool}(hi:i<L.length): nT (L.take (i+1)) f=if f (L.getD i jf).lG=true then vH (nT (L.take i) f) (L.getD i jf).lG else nT (L.take i) f:=by
 funext a
 unfold nT vH;rw[aJ,ah hi,jW hi,List.any_append];simp only[dx,List.any_cons,List.any_nil,fT]
 by_cases e:a=L[i].lG
 ·subst e
  cases hf:f L[i].lG with
  | true=>rw[if_pos rfl,if_pos rfl];simp
  | false=>rw[if_neg iz];simp[hf]
 ·have e':¬L[i].lG=a:=fun q=>e q.symm
  rw[decide_eq_false e',fT]
  by_cases hf:f L[i].lG=true
  ·rw[if_pos hf,if_neg e]
  ·rw[if_neg hf]
theorem JC: uR (fun _=>false)=fun _=>none:=by funext a;rfl
theorem Il (a b:Int): prog.built uY [(0,Iq a),(1,Iq b)]=some [Value.int .i64 a,Iq b].toArray:=by kernel_rfl
theorem Rk (p:Addr) (sp:Option Addr) (n c mb:Nat) (x:Int): prog.built rvT [(0,.pointer (some p)),(1,.slice sp n c),(2,Iq x),(3,.map (some mb))]=some [Value.pointer (some p),.slice sp n c,Iq x,.map (some mb)].toArray:=by kernel_rfl
theorem Tq (p:Addr) (mb:Nat): prog.built rvT [(0,.pointer (some p)),(3,.map (some mb))]=some [Value.pointer (some p),.slice none 0 0,Iq 0,.map (some mb)].toArray:=by kernel_rfl
theorem acS {a b:Int}: kj [Value.int .i64 a,Iq b]:=fun u hu=>by simp at hu;rcases hu with rfl|rfl<;>rfl
theorem MV: Calls prog 39 #[] w fun e w'=>∃rb M,e=.returned (.pointer (some ⟨rb,0,none⟩)) /\ p_ w' rb M (fun _=>False) f r_ 0 /\ Below w.heap.size w w' /\ ∀b,M b -> w.heap.size <= b:=by
 refine iY func39 ntmps39 ?_;refine gY ?_;refine iE [Value.slice none 0 0] Cr.Sg ?_;refine iC fun cp w1 f1=>?_;have b1:=f1.below;refine WL.mkMap rfl rfl rfl rfl ?_;have hm:=MF.made prog uY lR w1;have b2:Below w1.heap.size w1 (w1.alloc (.map #[] 0)):=(Below.refl _ w1).alloc (af _) _;have z2:(w1.alloc (.map #[] 0)).heap.size=w1.heap.size+1:=by show(w1.heap.push _).size=_;simp
 obtain⟨mb,LI⟩:∃mb,mb=w1.heap.size:=⟨_,rfl⟩;rw[<- LI] at hm ⊢;generalize w1.alloc (.map #[] 0)=w2 at hm b2 z2 ⊢;refine WL.build [Value.pointer (some ⟨cp,0,none⟩),.slice none 0 0,.int .i64 0,.map (some mb)] rfl rfl rfl rfl rfl (Tq _ _) ?_;refine iC fun rb w3 f3=>?_;refine gY ?_;have e1:=f1.eq;have s1:=f1.size;have e3:=f3.eq;have s3:=f3.size;have v1:h_ Cr.Yd w3 cp [Value.slice none 0 0]:=h_.below (h_.below f1.blk b2 f1.blk.lt) f3.below (by omega);have hc:Cr.pU w3 cp (fun b=>b=cp) []:=⟨.slice none 0 0,[],v1,iK.nil _ _ _ _,fun i hi=>absurd hi (cR i),rfl,fun b hb=>by omega,⟨by simp,fun i hi=>absurd hi (cR i)⟩⟩;refine g_ ⟨rb,fun b=>b=cp \/ b=mb \/ b=rb,rfl,⟨cp,fun b=>b=cp,.slice none 0 0,mb,0,f3.blk,hc,K.jk.nil _ _ _ _ _ _,?_,.inr (.inr rfl),.inr (.inl rfl),fun b hb=>.inl hb,(show ¬rb=cp by omega),(show ¬mb=cp by omega),(fun g hg=>by cases hg),?_,(fun _ _ h=>h),(fun r hr=>by cases hr),⟨af _,af _,af _,by omega⟩⟩,(b1.trans (b2.mono b1.size)).trans (f3.below.mono (by omega)),fun b hb=>by omega⟩
 ·show MF prog uY lR w3 mb 0 (uR fun _=>false)
  rw[JC];exact hm.below f3.below (by omega)
 ·rintro b ((hb|hb|hb)|hb)
  ·omega
  ·omega
  ·omega
  ·exact hb.elim
theorem yT {s:St}(h0:p_ w rb M D f s N):
  Calls prog 41 #[.pointer (some ⟨rb,0,none⟩)] w fun e w'=>∃Yp M',e=.returned (.pointer (some ⟨Yp,0,none⟩)) /\ p_ w' Yp M' D f { s with red:=nT s.rows s.red } N /\ Below w.heap.size w w' /\ ∀b,M' b -> w.heap.size <= b:=by
 obtain⟨cp,Oc,rv,mb,kc,h⟩:=h0;have kU:=ox h.rows;obtain⟨sp,cap,rfl,-⟩:=id kU;have qd:=h.lt rb (.inl h.tR);have c0:=h.vb.cell 0 (by simp);have c1:=h.vb.cell 1 (by simp);have c2:=h.vb.cell 2 (by simp);have c3:=h.vb.cell 3 (by simp);simp only[ax,al] at c0 c1 c2 c3;have kK:=h.ok;refine iY func41 ntmps41 ?_;refine gY ?_;refine WL.mkMap rfl rfl rfl rfl ?_;have hm:=MF.made prog uY lR w;have b1:Below w.heap.size w (w.alloc (.map #[] 0)):=(Below.refl _ w).alloc (af _) _;have z1:(w.alloc (.map #[] 0)).heap.size=w.heap.size+1:=by show(w.heap.push _).size=_;simp
 obtain⟨mn,xF⟩:∃mn,mn=w.heap.size:=⟨_,rfl⟩;rw[<- xF] at hm ⊢;generalize w.alloc (.map #[] 0)=w1 at hm b1 z1 ⊢;refine gY ?_;refine WC.loop (fun i:Nat=>[(0,.pointer (some ⟨rb,0,none⟩)),(3,.map (some mn)),(4,.int .i64 i)]) (fun i w'=>i <= s.rows.length /\ Below w.heap.size w w' /\ mn<w'.heap.size /\ MF prog uY lR w' mn i (uR (nT (s.rows.take i) s.red))) (fun i=>s.rows.length - i) 0 ⟨rfl,rfl,rfl,trivial⟩
  ⟨aw _,b1,by omega,by rw[bR,NV,JC];exact hm⟩ ?_
 clear hm b1 z1 w1;rintro i wl ⟨hi,bl,hlm,pP⟩;have c1l:=(bl.cell (p:=⟨rb,1,none⟩) qd).trans c1
 by_cases iS:i<s.rows.length
 case neg=>
  obtain rfl:i=s.rows.length:=by omega
  rw[aI] at pP;refine iu ?_;refine WC.drawn 16 (fun wx=>Below w.heap.size w wx) fun wa hd=>?_;have hS:=bl.trans (hd.below _);have Cs:=pP.below (hd.below wl.heap.size) hlm;have qW:mn<wa.heap.size:=by rw[hd.heap];exact hlm
  clear hd pP;obtain⟨lO,q1,q2,aee⟩:=h.rows;refine iq [0,1,2] hS ?_;refine ik 3 [4,10,16,17,18] (fun wx hx=>(hx.cell (p:=⟨rb,0,none⟩) qd).trans c0) hS ?_;refine iq [6,7,8] hS ?_;refine ik 9 [10,16,17,18] (fun wx hx=>(hx.cell (p:=⟨rb,1,none⟩) qd).trans c1) hS ?_;refine iq [11,12,13] hS ?_;refine ik 14 [16,17,18] (fun wx hx=>(hx.cell (p:=⟨rb,2,none⟩) qd).trans c2) hS ?_;refine iq [15] hS ?_;refine WD.two 4 5 (by kernel_rfl) rfl rfl ?_ ?_
  ·skip
   refine il func71 (Cr.JT (h.below hS).cat) ?_;rintro _ wb ⟨Vv,CT,rfl,L8,oR,XY⟩;refine⟨_,rfl,?_⟩;have cb:=hS.trans (oR.mono hS.size);have zb:=oR.size;refine km cb ?_;refine iI 5 ?_;refine WL.empty rfl rfl rfl rfl rfl fun ge wc fe=>?_;have cc:=cb.trans (fe.below.mono cb.size);have zc:=fe.size;have ee:=fe.eq;refine km cc ?_;have XA:=L8.below fe.below;have afm:=(Cs.below oR qW).below fe.below (by omega);have Hd:∀b,CT b -> b≠ge:=fun b hb=>by have:=L8.lt b hb;omega
   have G9:ge≠mn:=by omega
   have ab5:∀b,CT b -> w.heap.size <= b:=fun b hb=>by have:=XY b hb;have:=hS.size;omega
   have ad9:¬CT mn:=fun hh=>by have:=XY mn hh;omega
   have I4:iK QT 14 wc (fun b=>w.heap.size <= b /\ ¬CT b /\ b≠mn) (.slice (some ⟨ge,0,none⟩) 0 0) 0 []:=Cr.iK.fresh fe (fun u hu=>absurd hu aR) (by simp) (by omega) ⟨by have:=cb.size;omega,fun hh=>Hd ge hh rfl,G9⟩;have EI:=XA.lt
   skip
   have Jq:∀ {v':Value}{w9:World},jv wc (.slice (some ⟨ge,0,none⟩) 0 0) w9 v' -> Cr.pU w9 Vv CT s.cat:=fun g9=>XA.ij g9.1 fun b hb=>⟨EI b hb,fun e=>Hd b hb (au e).symm⟩;have UW:∀ {v':Value}{w9:World},jv wc (.slice (some ⟨ge,0,none⟩) 0 0) w9 v' -> MF prog uY lR w9 mn s.rows.length (uR (nT s.rows s.red)):=fun g9=>afm.ij g9.1 ⟨by omega,fun e=>G9 (au e)⟩;refine iI 10 ?_;refine WL.qO rfl rfl rfl rfl Oo rfl I4 rfl (aee.DC.below cc (af _)) (by omega) (by omega) fun v9 w9 o9 g9=>?_;refine WL.nil (WQ.dk (.inr ?_) ?_)
   ·exact cc.trans (g9.old cc.size fun g hg=>(I4.own hg).1)
   have b9:=cc.trans (g9.old cc.size fun g hg=>(I4.own hg).1);rw[a_,aH] at o9;obtain⟨Ye,pr,rfl,-,-⟩:=o9.slice;refine iI 16 ?_;refine iE [Value.pointer (some ⟨Vv,0,none⟩),.slice Ye s.rows.length pr,.int .i64 s.n,.map (some mn)] (Rk _ _ _ _ _ _) ?_;refine iO ?_;refine iI 17 ?_;refine iC fun Yp qZ f10=>?_;refine iO ?_
   (refine js 18 rfl (q:=?_))
   refine im ?_;refine gY ?_;have e10:=f10.eq;have z9:=g9.1.size;have za:=qW;have zw:=hS.size;have E8:=(Jq g9).below f10.below;have Ug:∀g,(Value.slice Ye s.rows.length pr).ownBlock=some g -> w.heap.size <= g /\ g<w9.heap.size /\ ¬CT g /\ g≠mn:=fun g hg=>by
     have q:=o9.lt hg;rcases o9.own hg with q1|q1
     ·exact⟨q1.1,q,q1.2⟩
     ·exact⟨by omega,q,fun hh=>by have:=EI g hh;omega,by omega⟩
   refine WQ.uT rfl rfl ⟨Yp,fun b=>w.heap.size <= b /\ b<qZ.heap.size,rfl,⟨Vv,CT,_,mn,s.rows.length,f10.blk,E8,?_,(UW g9).below f10.below (by omega),⟨by omega,by have:=f10.size;omega⟩,⟨by omega,by have:=f10.size;omega⟩,fun b hb=>⟨ab5 b hb,E8.lt b hb⟩,fun hh=>by have:=(Jq g9).lt _ hh;omega,fun hh=>ad9 hh,fun g hg=>(Ug g hg).2.2.1,?_,fun b hb hd=>by have:=h.lt b (.inr hd);omega,h.wS,⟨kK.1,kK.2.1,kK.2.1,kK.2.2.2⟩⟩,by rw[xF];exact b9.trans (f10.below.mono b9.size),fun b hb=>by rw[xF];exact hb.1⟩
   ·refine⟨lO,q1,fun j hj=>⟨(q2 j hj).1,(q2 j hj).2.ij (ib.ic (b9.trans (f10.below.mono b9.size))) (fun x hx _=>h.lt x (.inr hx)) (fun _ h=>h)⟩,?_⟩
    have:=o9.ij (ib.ic f10.below) (fun g hg=>o9.lt hg);exact⟨this.1,this.2.1,fun g hg=>⟨(Ug g hg).1,by have:=(Ug g hg).2.1;have:=f10.size;omega⟩⟩
   ·rintro b (hb|hb)
    ·exact hb.2
    ·have:=h.lt b (.inr hb);have:=f10.size;omega
  ·skip
   refine WL.empty rfl rfl rfl rfl rfl fun ge wc0 fe=>?_;have cc:=hS.trans (fe.below.mono hS.size);have zc:=fe.size;have ee:=fe.eq;refine km cc ?_;refine iI 4 ?_;refine il func71 (Cr.JT (h.below cc).cat) ?_;rintro _ wb ⟨Vv,CT,rfl,L8,oR,XY⟩;refine⟨_,rfl,?_⟩;have cb:=cc.trans (oR.mono cc.size);have zb:=oR.size;refine km cb ?_;have W5:=L8;have afx:=(Cs.below fe.below qW).below oR (by omega);have Hd:∀b,CT b -> b≠ge:=fun b hb=>by have:=XY b hb;omega
   have G9:ge≠mn:=by omega
   have ab5:∀b,CT b -> w.heap.size <= b:=fun b hb=>by have:=XY b hb;have:=cc.size;omega
   have ad9:¬CT mn:=fun hh=>by have:=XY mn hh;omega
   have I4:=(Cr.iK.fresh fe (fun u hu=>absurd hu aR) (by simp) (by omega) ⟨by have:=hS.size;omega,fun hh=>Hd ge hh rfl,G9⟩:iK QT 14 wc0 (fun b=>w.heap.size <= b /\ ¬CT b /\ b≠mn) (.slice (some ⟨ge,0,none⟩) 0 0) 0 []).ij (ib.ic oR) (fun g hg=>by cases hg;exact fe.blk.lt);have EI:=W5.lt
   skip
   have Jq:∀ {v':Value}{w9:World},jv wb (.slice (some ⟨ge,0,none⟩) 0 0) w9 v' -> Cr.pU w9 Vv CT s.cat:=fun g9=>W5.ij g9.1 fun b hb=>⟨EI b hb,fun e=>Hd b hb (au e).symm⟩;have UW:∀ {v':Value}{w9:World},jv wb (.slice (some ⟨ge,0,none⟩) 0 0) w9 v' -> MF prog uY lR w9 mn s.rows.length (uR (nT s.rows s.red)):=fun g9=>afx.ij g9.1 ⟨by omega,fun e=>G9 (au e)⟩;refine iI 10 ?_;refine WL.qO rfl rfl rfl rfl Oo rfl I4 rfl (aee.DC.below cb (af _)) (by omega) (by omega) fun v9 w9 o9 g9=>?_;refine WL.nil (WQ.dk (.inr ?_) ?_)
   ·exact cb.trans (g9.old cb.size fun g hg=>(I4.own hg).1)
   have b9:=cb.trans (g9.old cb.size fun g hg=>(I4.own hg).1);rw[a_,aH] at o9;obtain⟨Ye,pr,rfl,-,-⟩:=o9.slice;refine iI 16 ?_;refine iE [Value.pointer (some ⟨Vv,0,none⟩),.slice Ye s.rows.length pr,.int .i64 s.n,.map (some mn)] (Rk _ _ _ _ _ _) ?_;refine iO ?_;refine iI 17 ?_;refine iC fun Yp qZ f10=>?_;refine iO ?_
   (refine js 18 rfl (q:=?_))
   refine im ?_;refine gY ?_;have e10:=f10.eq;have z9:=g9.1.size;have za:=qW;have zw:=hS.size;have E8:=(Jq g9).below f10.below;have Ug:∀g,(Value.slice Ye s.rows.length pr).ownBlock=some g -> w.heap.size <= g /\ g<w9.heap.size /\ ¬CT g /\ g≠mn:=fun g hg=>by
     have q:=o9.lt hg;rcases o9.own hg with q1|q1
     ·exact⟨q1.1,q,q1.2⟩
     ·exact⟨by omega,q,fun hh=>by have:=EI g hh;omega,by omega⟩
   refine WQ.uT rfl rfl ⟨Yp,fun b=>w.heap.size <= b /\ b<qZ.heap.size,rfl,⟨Vv,CT,_,mn,s.rows.length,f10.blk,E8,?_,(UW g9).below f10.below (by omega),⟨by omega,by have:=f10.size;omega⟩,⟨by omega,by have:=f10.size;omega⟩,fun b hb=>⟨ab5 b hb,E8.lt b hb⟩,fun hh=>by have:=(Jq g9).lt _ hh;omega,fun hh=>ad9 hh,fun g hg=>(Ug g hg).2.2.1,?_,fun b hb hd=>by have:=h.lt b (.inr hd);omega,h.wS,⟨kK.1,kK.2.1,kK.2.1,kK.2.2.2⟩⟩,by rw[xF];exact b9.trans (f10.below.mono b9.size),fun b hb=>by rw[xF];exact hb.1⟩
   ·refine⟨lO,q1,fun j hj=>⟨(q2 j hj).1,(q2 j hj).2.ij (ib.ic (b9.trans (f10.below.mono b9.size))) (fun x hx _=>h.lt x (.inr hx)) (fun _ h=>h)⟩,?_⟩
    have:=o9.ij (ib.ic f10.below) (fun g hg=>o9.lt hg);exact⟨this.1,this.2.1,fun g hg=>⟨(Ug g hg).1,by have:=(Ug g hg).2.1;have:=f10.size;omega⟩⟩
   ·rintro b (hb|hb)
    ·exact hb.2
    ·have:=h.lt b (.inr hb);have:=f10.size;omega
 case pos=>
  obtain⟨b9,o9,pr,CZ,es,qU,-,R9,-,Da,-⟩:=mw kU iS;obtain⟨rfl,rfl⟩:sp=some ⟨b9,o9,none⟩ /\ cap=pr:=by simpa using es
  clear es;have Ab:=Lg (f:=s.red) iS;generalize s.rows.getD i jf=r at R9 Da Ab;refine iu ?_;refine WC.drawn 18 (fun wx=>Below w.heap.size w wx) fun wa hd=>?_;have hS:=bl.trans (hd.below _);have Cs:=pP.below (hd.below wl.heap.size) hlm;have qW:mn<wa.heap.size:=by rw[hd.heap];exact hlm
  clear hd pP;refine iq [0,1,2] hS ?_;refine ik 3 [5,6,7,16,18] (fun wx hx=>(hx.cell (p:=⟨rb,1,none⟩) qd).trans c1) hS ?_;refine iq [4] hS ?_;refine jV 5 i (o9+i*14) iS (.inr hS) ?_;refine iq [6] hS ?_;refine ik 7 [16,18] (fun wx hx=>(hx.cell (p:=⟨b9,o9+i*14+11,none⟩) qU).trans R9.blk) hS ?_;refine iq [8,9,10] hS ?_;refine ik 11 [13,14,15,16,18] (fun wx hx=>(hx.cell (p:=⟨rb,1,none⟩) qd).trans c1) hS ?_;refine iq [12] hS ?_;refine jV 13 i (o9+i*14) iS (.inr hS) ?_;refine iq [14] hS ?_;refine ik 15 [16,18] (fun wx hx=>(hx.cell (p:=⟨b9,o9+i*14+12,none⟩) qU).trans R9.ni) hS ?_;refine Cr.uh [.int .i64 r.blk,.int .i64 r.ni] 16 rfl (by kernel_rfl) rfl rfl (fun _ _ _ _ _ h=>h) rfl rfl rfl (Il _ _) (.inr hS) ?_;refine iI 17 ?_;refine ix (z:=.agg [Value.int .i64 0,.int .i64 0].toArray) (fun _=>by kernel_rfl) fun g5 wb f5=>?_;have c5:=hS.trans (f5.below.mono hS.size);refine km c5 ?_;refine iI 18 ?_;refine ir f5.blk acS ?_;refine iO ?_;refine im ?_;obtain⟨v5,b5,d5,q5⟩:=mh [.int .i64 r.blk,.int .i64 r.ni] (Below.refl wa.heap.size wa) f5;have LI:=Cs.below b5 qW;have cb:=hS.trans (b5.mono hS.size);have zb:=b5.size;generalize wb.setRow g5 _=wc at v5 b5 LI cb zb ⊢;clear f5 d5 Cs hS;have l5:=h_.lt v5;refine gY ?_;refine WC.drawn 6 (fun wx=>Below wc.heap.size wc wx) fun wd hd=>?_;have hS:Below wc.heap.size wc wd:=hd.below _;have hmd:=LI.below hS (by omega);have vW:∀ {wx:World},Below wc.heap.size wc wx -> (Instr.lookup 55 (.map (some mb)) (lR (r.blk,r.ni)) false).run prog wx=.ok ((uR s.red (r.blk,r.ni)).getD (.int .i64 0)) wx:=fun hx=>
   (h.below (cb.trans (hx.mono cb.size))).red.look tY underlying55 (z:=.int .i64 0) (by kernel_rfl) (AE (x:=(r.blk,r.ni)) Da.blk Da.ni)
  have uN:i+1 <= 1000000:=by omega
  cases DH:s.red (r.blk,r.ni) with
  | false=>
   have aaV:∀ {wx:World},Below wc.heap.size wc wx -> (Instr.lookup 55 (.map (some mb)) (lR (r.blk,r.ni)) false).run prog wx=.ok (.int .i64 0) wx:=fun hx=>by rw[vW hx];unfold uR;rw[DH];rfl
   refine iq [0,1,2] hS ?_;refine ik 3 [5,6] (fun wx hx=>((cb.trans (hx.mono cb.size)).cell (p:=⟨rb,3,none⟩) qd).trans c3) hS ?_;refine jG 4 [5,6] (fun wx hx=>h_.rangeAt (h_.below v5 hx l5)) hS ?_;refine WD.look 5 [6] rfl (by kernel_rfl) rfl rfl (fun _ _ _ _ _ h=>h) rfl rfl rfl rfl (fun wx hx=>aaV hx) hS ?_;refine iI 6 ?_;refine iA ?_;refine iO ?_;refine im ?_;rw[if_neg (by rw[show r.lG=(r.blk,r.ni) from rfl,DH];simp)] at Ab;refine gY ?_;exact WQ.again (i+1) ⟨rfl,rfl,rfl,trivial⟩ ⟨iS,cb.trans (hS.mono cb.size),by have:=hS.size;omega,by rw[Ab];exact hmd.mono (by omega)⟩ (by omega)
  | true=>
   have aaV:∀ {wx:World},Below wc.heap.size wc wx -> (Instr.lookup 55 (.map (some mb)) (lR (r.blk,r.ni)) false).run prog wx=.ok (.int .i64 1) wx:=fun hx=>by rw[vW hx];unfold uR;rw[DH];rfl
   refine iq [0,1,2] hS ?_;refine ik 3 [5,6] (fun wx hx=>((cb.trans (hx.mono cb.size)).cell (p:=⟨rb,3,none⟩) qd).trans c3) hS ?_;refine jG 4 [5,6] (fun wx hx=>h_.rangeAt (h_.below v5 hx l5)) hS ?_;refine WD.look 5 [6] rfl (by kernel_rfl) rfl rfl (fun _ _ _ _ _ h=>h) rfl rfl rfl rfl (fun wx hx=>aaV hx) hS ?_;refine iI 6 ?_;refine iA ?_;refine iO ?_;refine im ?_;rw[if_pos (by rw[show r.lG=(r.blk,r.ni) from rfl,DH])] at Ab;obtain⟨we,kz,hmf,U0⟩:=MF.put rE hmd tY underlying55 (by unfold maxLen;omega) (key:=(r.blk,r.ni)) (.int .i64 1) (AE (x:=(r.blk,r.ni)) Da.blk Da.ni);rw[RS] at hmf;refine gY ?_;refine ig (h_.rangeAt (h_.below v5 hS l5)) rfl ?_;refine WL.kv rfl rfl rfl rfl rfl rfl kz ?_;refine gY ?_;exact WQ.again (i+1) ⟨rfl,rfl,rfl,trivial⟩ ⟨iS,((ib.ic (cb.trans (hS.mono cb.size))).trans (U0.mono fun x (hx:x<w.heap.size) e=>by omega)).below,by have:=hS.size;have:=U0.size;omega,by rw[Ab];exact hmf⟩ (by omega)
theorem SM {s:St}(h0:p_ w rb M D f s N) (hN:N+1 <= 1000000) (VU:∀x,E x -> ¬M x) {b:Bk}(hb:m6 E f w b bc) (k:Nat) (hk:k<b.iv.length) (m5:k <= 1000000) (lX:Sm 3000 f (b.iv.getD k jo).data):
  Calls prog 70 #[iF rb,.agg bc.toArray,Iq k] w (sZ w rb M D f (entR s (b.iv.getD k jo) b.index k b.time).1 (entR s (b.iv.getD k jo) b.index k b.time).2 (N+1)):=by
 have sh:=hb.len;refine iY (args:=[iF rb,.agg bc.toArray,Iq k]) func70 ntmps70 ?_;refine ku ?_;refine iC fun g4 w1 f1=>?_;have YO:jl w g4 w1 wK bc:=f1;clear f1;refine gY ?_;refine ig (h_.rangeAt YO.blk) sh ?_;have mj:m6 E f w1 b bc:=by
  obtain⟨se,q1,q2,q3⟩:=hb;exact⟨se,q1,q2.ij (ib.ic YO.below) (fun _ _ h=>h) (fun _ h=>h) fun _ _ hp=>nN.mono (fun _ _ hv=>hv.ij (ib.ic YO.below) (fun _ _ h=>h) (fun _ h=>h)) hp,q3⟩
 refine gY ?_;refine il func73 (GI (h0.below YO.below) hN VU mj k hk m5 lX) ?_;rintro _ w2 ⟨M',D',rfl,h2,k2,m2,d2⟩;refine⟨_,rfl,?_⟩;have z1:=YO.below.size;refine gY ?_;exact g_ ⟨M',D',rfl,h2,(ib.ic YO.below).mono (fun x hx=>hx.1) |>.trans (k2.mono fun x hx=>⟨gZ,hx.2⟩),fun x hx=>(m2 x hx).imp id fun h=>by omega,fun x hx=>(d2 x hx).imp id fun h=>by omega⟩
theorem m6.below {b:Bk}(hb:m6 E f w b bc) (hk:iB w w'): m6 E f w' b bc:=by
 obtain⟨se,q1,q2,q3⟩:=hb;exact⟨se,q1,q2.ij (ib.ic hk) (fun _ _ h=>h) (fun _ h=>h) fun _ _ hp=>nN.mono (fun _ _ hv=>hv.ij (ib.ic hk) (fun _ _ h=>h) (fun _ h=>h)) hp,q3⟩
theorem m6.ij {b:Bk}(hb:m6 E f w b bc) {K:Nat -> Prop}(hk:ib K w w') (hK:∀x,E x -> x<w.heap.size -> K x): m6 E f w' b bc:=by
 obtain⟨se,q1,q2,q3⟩:=hb;exact⟨se,q1,q2.ij hk hK (fun _ h=>h) fun _ _ hp=>nN.mono (fun _ _ hv=>hv.ij hk hK (fun _ h=>h)) hp,q3⟩
theorem m6.isB {b:Bk}(hb:m6 E f w b bc): CP f w b bc:=by
 obtain⟨se,q1,q2,q3⟩:=hb;exact⟨se,q1,q2.mono (fun _ _=>trivial) (fun _ _ hp=>nN.mono (fun _ _ hv=>hv.td) hp),q3⟩
structure KJ (f:Nat) (b:Bk):Prop where
 iv:b.iv.length <= 3000
 sm:∀k,k<b.iv.length -> Sm 3000 f (b.iv.getD k jo).data
 len:∀e∈b.iv,chk 16 e.data=0 -> (encV 16 e.data).length <= 70368744177664
theorem JB {b:Bk}(hi:i<b.iv.length) (s:St): runR b (b.iv.drop i) i s=if(entR s (b.iv.getD i jo) b.index i b.time).1=0 then runR b (b.iv.drop (i+1)) (i+1) (entR s (b.iv.getD i jo) b.index i b.time).2 else((entR s (b.iv.getD i jo) b.index i b.time).1,(entR s (b.iv.getD i jo) b.index i b.time).2):=by
 rw[bp hi,<- jW (d:=jo) hi]
 rfl
theorem xJ {s:St}(h0:p_ w rb M D f s N) (VU:∀x, E x -> x<w.heap.size) {b:Bk}(hb:m6 E f w b bc) (lX:KJ f b) (hN:N+b.iv.length+1 <= 1000000) (CI:nT s.rows s.red=s.red):
    Calls prog 42 #[iF rb, .agg bc.toArray] w (sZ w rb M D f (kV s b).1 (kV s b).2 (N+b.iv.length+1)) := by
  obtain⟨cp, Oc, rv, mb, kc, h⟩ := id h0; have iS := h.lt; have sh := hb.len; have bq := hb; obtain⟨se, rfl, mH, mN, uK, Vi, XQ, -⟩ := bq; obtain⟨sp, cap, rfl, tC, rO, Cg, -⟩ := mH; refine iY (args := [iF rb, .agg (oH b (.slice sp b.iv.length cap)).toArray]) func42 ntmps42 ?_; refine ku ?_; refine iC fun g3 w1 f1=>?_; have B1:lM wK g3 w1 b (.slice sp b.iv.length cap) := ⟨f1.blk, mN⟩; have b1 := f1.below; have e3 := f1.eq; clear f1; have N8 := h_.lt B1.blk; have h1 := h.below b1; have c2 := h1.vb.cell 2 iz; simp only[ax, al] at c2; have qd := h1.lt rb (.inl h1.tR); have ei := B1.index; have ee := B1.iv; have z1 := b1.size; have bad:∀ {wx:World}{c:Int}, iB w1 wx -> (kV s b)=(c, s) -> sZ w rb M D f (kV s b).1 (kV s b).2 (N+b.iv.length+1) (.returned (Iq c)) wx := fun hx hc=>by
    rw[hc]; exact sZ.of (p_.mono ⟨_, _, _, _, _, h1.below hx⟩ gZ hN) ((ib.ic (b1.trans (hx.mono z1))).mono fun x hx=>hx.1) (fun _ h=>.inl h) rfl rfl
  refine gY ?_; refine WC.drawn 6 (iB w1) fun wa hd=>?_; have hS:iB w1 wa := hd.below _; refine iq [0] hS ?_; refine ik 1 [6] (jZ N8 ei) hS ?_; refine iq [2, 3, 4] hS ?_; refine ik 5 [6] (jZ qd c2) hS ?_; refine iI 6 ?_; refine iA ?_; refine iO ?_; refine im ?_
  by_cases F_:b.index=s.n
  case neg=>
    refine gY ?_; refine WC.qg rfl F_ ?_; refine gY ?_; exact g_ (bad hS (by unfold kV; rw[if_pos F_]))
  case pos=>
  refine gY ?_; refine WC.pE rfl (fun q=>q F_) ?_; refine gY ?_; refine ig (h_.rangeAt (h_.below B1.blk hS N8)) sh ?_; have CU := m6.below hb (b1.trans (hS.mono z1)); refine i_ func72 (Le (m6.isB CU) lX.len) ?_; rintro wb bb
  have tK := hS.iR bb
  by_cases Hs:oL b=0
  case neg=>
    have hr:kV s b=(oL b, s) := by unfold kV; rw[if_neg (fun q=>q F_), if_pos Hs]
    generalize oL b=cb at Hs hr; refine gY ?_; exact g_ (bad tK hr)
  case pos=>
  rw[Hs]; refine gY ?_; refine il func41 (yT ⟨_, _, _, _, _, h1.below tK⟩) ?_; rintro _ wc ⟨xb, Mx, rfl, hx, bc2, mx⟩; refine⟨_, rfl, ?_⟩; rw[CI] at hx; change p_ wc xb Mx D f s N at hx; have uJ := tK.iR bc2; have zc := uJ.size; have zb := tK.size; have SU:kV s b=if(runR b b.iv 0 s).1=0 then(0, { (runR b b.iv 0 s).2 with n := s.n+1 }) else((runR b b.iv 0 s).1, s) := by
    unfold kV; rw[if_neg (fun q=>q F_), if_neg (fun q=>q Hs)]
  refine gY ?_; refine WC.loop (fun i:Nat=>[(0, iF rb), (3, iF g3), (6, iF xb), (7, Iq i)])
    (fun i w'=>i <= b.iv.length /\ iB w1 w' /\ ∃si Mi Di, p_ w' xb Mi Di f si (N+i) /\ runR b b.iv 0 s=runR b (b.iv.drop i) i si /\ (∀x, Mi x -> w1.heap.size <= x) /\ ∀x, Di x -> D x \/ w1.heap.size <= x) (fun i=>b.iv.length - i) 0 iW
    ⟨aw _, uJ, s, Mx, D, hx, rfl, fun x h=>by have := mx x h; omega, fun x h=>.inl h⟩ ?_
  clear hx mx bc2 uJ tK bb CU hS zc zb; rintro i wl ⟨hi, bl, si, Mi, Di, Ic, kz, mi, di⟩; have eel := (bl.cell (p := ⟨g3, 35, none⟩) N8).trans ee; have zl := bl.size
  by_cases r9:i<b.iv.length
  case pos=>
    have hbi := m6.below hb (b1.trans (bl.mono z1)); rw[JB r9] at kz; refine iu ?_; refine ig (h_.rangeAt (h_.below B1.blk bl N8)) sh ?_; refine gY ?_; refine il func73 (GI Ic gZ (fun x hx hm=>by have := VU x hx; have := mi x hm; omega) hbi i r9 (by have := lX.iv; omega) (lX.sm i r9)) ?_; rintro _ w2 ⟨M2, D2, rfl, h2, k2, m2, d2⟩; refine⟨_, rfl, ?_⟩; have bl2 := ((ib.ic bl).trans (k2.mono fun x (hx:x<w1.heap.size)=>⟨gZ, fun hm=>by have := mi x hm; omega⟩)).below; generalize entR si (b.iv.getD i jo) b.index i b.time=er at kz h2; obtain⟨ec, es⟩ := er; simp only at kz h2
    by_cases Dm:ec=0
    case pos=>
      rw[if_pos Dm] at kz; refine gY ?_; exact WQ.again (i+1) iW ⟨r9, bl2, es, M2, D2, h2, kz, fun x hx=>(m2 x hx).elim (mi x) (fun h=>by omega), fun x hx=>(d2 x hx).elim (di x) (fun h=>.inr gZ)⟩ gZ
    case neg=>
      rw[if_neg Dm] at kz; refine gY ?_; exact g_ (bad bl2 (by rw[SU, kz, if_neg Dm]))
  case neg=>
    obtain rfl:i=b.iv.length := gZ; rw[dt] at kz; have ve:runR b b.iv 0 s=(0, si) := kz; rw[SU, ve, if_pos rfl]; obtain⟨IQ, Ox, rvx, R_, kx, hX⟩ := Ic; have cx2 := hX.vb.cell 2 iz; simp only[ax, al] at cx2; have hnN := hX.ok; have Li := Xn ve; rw[Li] at cx2 hnN; refine iu ?_; refine iD cx2 (h_.free hX.vb 2) ?_; have vx := hX.vb.set 2 (Iq ((s.n:Int)+1)); have UT:ib (fun x=>x≠xb) wl (wl.setCell ⟨xb, 2, none⟩ (Iq ((s.n:Int)+1))) := (ib.refl _ _).setCell iz _; generalize wl.setCell ⟨xb, 2, none⟩ (Iq ((s.n:Int)+1))=wm at vx UT ⊢; change h_ rvT wm xb [iF IQ, rvx, Iq ((s.n:Int)+1), .map (some R_)] at vx; refine gY ?_; refine ig (h_.rangeAt vx) rfl ?_; have DU := mi xb hX.tR; have vrb := (h_.below h1.vb bl qd).ij UT (fun e=>by omega); have lx:kj [Value.pointer (some ⟨IQ, 0, none⟩), rvx, .int .i64 ((s.n:Int)+1), .map (some R_)] := fun u hu=>by
      simp at hu
      rcases hu with rfl|rfl|rfl|rfl<;>first|rfl|exact K.jk.one hX.rows
    refine gY ?_; refine WL.nQ rfl rfl rfl rfl rfl rfl vrb rfl rfl lx ?_; have vf := vrb.setRow [Value.pointer (some ⟨IQ, 0, none⟩), rvx, .int .i64 ((s.n:Int)+1), .map (some R_)]; have kf:ib (fun x=>x≠xb /\ x≠rb) wl (wm.setRow rb [Value.pointer (some ⟨IQ, 0, none⟩), rvx, .int .i64 ((s.n:Int)+1), .map (some R_)].toArray) := Cr.kC (UT.mono fun x hx=>hx.1) (fun hh=>hh.2 rfl) _; generalize wm.setRow rb _=wf at vf kf ⊢; refine gY ?_; have hl := hX.lt; obtain⟨n1, n2⟩ := hX.ne; have nrb:∀x, w1.heap.size <= x -> x≠rb := fun x hx e=>gZ; have nmx:R_≠xb := fun e=>Cat.MF.kN hX.red (show wl.heap[xb]? = _ from hX.vb) e; have hDk:∀x, Di x -> x<wl.heap.size -> x≠xb /\ x≠rb := fun x hx _=>⟨fun e=>hX.sep xb hX.tR (e ▸ hx), fun e=>(di x hx).elim (fun hd=>h.sep rb h.tR (e ▸ hd)) (fun hd=>nrb x hd e)⟩; have hV:RV wf rb (fun x=>x=rb \/ Mi x) Di f { si with n := s.n+1 } IQ Ox rvx R_ kx (N+b.iv.length+1) :=
      ⟨by rw[show(((s.n+1:Nat)):Int)=(s.n:Int)+1 by omega]; exact vf, hX.cat.ij kf fun x hx=>⟨fun e=>hX.SQ (e ▸ hx), nrb x (mi x (hX.rn x hx))⟩,
        Go.Proofs.YtlenklobbngopaaGreat.K.jk.ij hX.rows kf (fun g hg=>⟨fun e=>n1 (e ▸ hg), nrb g (mi g (hX.rows.own hg))⟩) (fun _ hm=>.inr hm) fun _ _ hp=>hp.ij kf hDk (fun _ h=>h),
        hX.red.ij kf ⟨nmx, nrb R_ (mi R_ hX.FL)⟩, .inl rfl, .inr hX.FL, fun x hx=>.inr (hX.rn x hx), fun hh=>nrb rb (mi rb (hX.rn rb hh)) rfl, hX.Sv, hX.Fq,
        fun x hx=>ak (by rcases hx with (hx|hx)|hx <;> (first|omega|exact hl x (.inl hx)|exact hl x (.inr hx))) kf.size,
        fun x hx hd=>by
          rcases hx with hx|hx
          · exact(hDk x hd (hl x (.inr hd))).2 hx
          · exact hX.sep x hx hd, hX.wS, ⟨by show s.n+1 <= _; omega, by have := hnN.2.1; show si.rows.length <= _; omega, gZ, gZ⟩⟩
    exact g_ ⟨_, Di, rfl, ⟨_, _, _, _, _, hV⟩, ((ib.ic (b1.trans (bl.mono z1))).mono fun x hx=>hx.1).trans (kf.mono fun x hx=>⟨fun e=>by omega, fun e=>hx.2 (e ▸ h.tR)⟩), fun x hx=>hx.elim (fun e=>.inl (e ▸ h.tR)) (fun hm=>.inr (by have := mi x hm; omega)), fun x hx=>(di x hx).imp id fun hh=>by omega⟩
end Vw
namespace K
section
variable {fn:Func}{R:Ending -> World -> Prop}{l:Env}{w:World}
end
section
variable {n:NN}{Q:Exit -> Act -> World -> Prop}{l:Env}{w:World}{ops:Array Oper}{o:Oper}{rest:List Oper}{d:Nat}
end
end K
namespace Vw
open K
theorem MB {r:Rw}{m:List Value}(hd:dc.length=6): (jQ r dc).take 3++m++(jQ r dc).drop (3+6)=jQ r m:=by
 unfold jQ;simp only[bY,bR,cJ,aT,aH];rw[du gZ,gp gZ,aH]
theorem jO {r:Rw}(hd:dc.length=6): (jQ r dc).length=14:=by simp[jQ,hd]
theorem lF {r:Rw}(h1:kj dc): kj (jQ r dc):=by
 intro u hu;unfold jQ at hu;simp only[ar,aq,aR,dG] at hu;rcases hu with rfl|rfl|rfl|hu|rfl|rfl|rfl|rfl|rfl
 all_goals first|rfl|exact h1 u hu
open K
def o7 (T B f:Nat) (w:World) (v:Value) (L:List Rw):Prop :=
 ∃D:Nat -> Prop,(∀x,D x -> B <= x /\ x<w.heap.size) /\ (∀g,v.ownBlock=some g -> ¬D g) /\ jk T 14 jf (lC D f w) (fun x=>B <= x) w v L
theorem o7.nil (T B f:Nat) (w:World): o7 T B f w (.slice none 0 0) []:=⟨fun _=>False,fun _ h=>h.elim,(fun g h=>by cases h),K.jk.nil _ _ _ _ _ _⟩
theorem o7.below {v:Value}{L:List Rw}(h:o7 T B f w v L) (hb:iB w w'): o7 T B f w' v L:=by
 obtain⟨D,h1,h2,h3⟩:=h;exact⟨D,fun x hx=>⟨(h1 x hx).1,ak (h1 x hx).2 hb.size⟩,h2,K.jk.ij h3 (ib.ic hb) (fun g hg=>K.jk.lt h3 hg) (fun _ h=>h) fun _ _ hp=>hp.ij (ib.ic hb) (fun _ _ h=>h) (fun _ h=>h)⟩
theorem o7.jt {v:Value}{L:List Rw}(h:o7 T B f w v L): lA 14 jf (lC (fun x=>B <= x) f w) (fun x=>B <= x) w v L:=by
 obtain⟨D,h1,-,h3⟩:=h;exact(ox h3).mono (fun _ h=>h) fun _ _ hp=>hp.ij (K:=fun _=>True) ⟨rfl,rfl,rfl,af _,fun _ _=>rfl⟩ (fun _ _ _=>trivial) (fun x hx=>(h1 x hx).1)
theorem o7.own {v:Value}{L:List Rw}(h:o7 T B f w v L): ∀g,v.ownBlock=some g -> B <= g:=by obtain⟨D,_,_,h3⟩:=h;exact fun g hg=>K.jk.own h3 hg
theorem o7.snoc {wb wc wd:World}{v:Value}{L:List Rw}{r:Rw}(h:o7 T B f wb v L) (hB:B <= wb.heap.size) (bc:iB wb wc) (hv:jE (fun x=>wb.heap.size <= x) f wc r.data dc) (bd:iB wc wd) (ok:zQ r) (sm:Sm 3000 f r.data):
  ∃D,jk T 14 jf (lC D f wd) (fun x=>B <= x) wd v L /\ lC D f wd r (jQ r dc) /\ ∀ {v':Value}{we:World},jk T 14 jf (lC D f wd) (fun b=>B <= b \/ b=wd.heap.size) we v' (L++[r]) -> jv wd v we v' -> o7 T B f we v' (L++[r]):=by
 obtain⟨D,h1,h2,h3⟩:=h;have z1:=bc.size;have z2:=bd.size;have bbd:=bc.trans (bd.mono z1);refine⟨fun x=>D x \/ (wb.heap.size <= x /\ x<wc.heap.size),K.jk.ij h3 (ib.ic bbd) (fun g hg=>K.jk.lt h3 hg) (fun _ h=>h) fun _ _ hp=>hp.ij (ib.ic bbd) (fun _ _ h=>h) (fun _ h=>.inl h),
  ⟨dc,rfl,hv.there.ij (ib.ic bd) (fun _ _ h=>h) (fun _ h=>.inr h),ok,sm⟩,fun {v' we} ho hg=>?_⟩
 have iS:∀x,(D x \/ (wb.heap.size <= x /\ x<wc.heap.size)) -> B <= x /\ x<wc.heap.size:=fun x hx=>by
  rcases hx with hx|hx
  ·have:=h1 x hx;omega
  ·omega
 have mC:∀g,v.ownBlock=some g -> ¬(D g \/ (wb.heap.size <= g /\ g<wc.heap.size)):=fun g hg hx=>by
  have:=K.jk.lt h3 hg;rcases hx with hx|hx
  ·exact h2 g hg hx
  ·omega
 have zg:=hg.1.size;obtain⟨lO,q1,q2,q3⟩:=ho;refine⟨fun x=>D x \/ (wb.heap.size <= x /\ x<wc.heap.size),fun x hx=>⟨(iS x hx).1,by have:=(iS x hx).2;omega⟩,fun g hgv hx=>?_,lO,q1,fun i hi=>⟨(q2 i hi).1,(q2 i hi).2.ij hg.1 (fun x hx _=>⟨by have:=(iS x hx).2;omega,fun e=>mC x e hx⟩) (fun _ h=>h)⟩,q3.1,q3.2.1,fun g hgv=>(q3.own hgv).elim id fun e=>by show B <= g;omega⟩;rcases hg.2 g hgv with q|q
 ·exact mC g q hx
 ·have:=(iS g hx).2;omega
def acY (w:World) (f:Nat) (T:Option Rw) (e:Ending) (w':World):Prop :=
 iB w w' /\ ∃r dc b,e=.returned (.tuple #[.agg (jQ r dc).toArray,.bool b]) /\ jE (fun x=>w.heap.size <= x) f w' r.data dc /\ (match T with|some r'=>r=r' /\ b=true|none=>r=jf /\ b=false)
theorem p_.ao1 {v:V}(h:jE O f w v cs): ∃f',f=f'+1:=by
 cases f with
 | zero=>exact h.elim
 | succ f=>exact⟨f,rfl⟩
open K
def BI (w:World) (f:Nat) (L:List Rw) (e:Ending) (w':World):Prop :=
 iB w w' /\ ∃v,e=.returned v /\ lA 14 jf (lC (fun x=>w.heap.size <= x) f w') (fun x=>w.heap.size <= x) w' v L
theorem U4 {s:St}{t:Int}(i:Nat): (List.range (i+1)).filterMap (fun(i:Nat)=>kQ s (t,(i:Int)+1))=(List.range i).filterMap (fun(i:Nat)=>kQ s (t,(i:Int)+1))++(kQ s (t,(i:Int)+1)).toList:=by
 rw[dE,gv]
 congr 1
abbrev iT:Nat:=3
open K
theorem Tu: lK prog 35 iT 1 8:=lK.mk' (z:=Iq 0) underlying35 (by kernel_rfl) rfl gZ
theorem Ns {s:St}{t:Int}(h0:Vw.of s.rows (t,0)=[]): (List.range (iQ t s.rows+1)).flatMap (fun(i:Nat)=>Vw.of s.rows (t,(i:Int)))=qq s t:=by
 unfold qq;rw[List.range_succ_eq_map,an,List.flatMap_map]
 show Vw.of s.rows (t,((0:Nat):Int))++_=_
 rw[show((0:Nat):Int)=0 from rfl,h0,aH]
 rfl
end Vw
namespace K
section
variable {n:NN}{Q:Exit -> Act -> World -> Prop}{l:Env}{w w':World}{ops:Array Oper}{o:Oper}{rest:List Oper}{d:Nat}
theorem WL.ah7 {x y:Operand}{t t2 e sz:Nat}{sp:Option Addr}(hg:o.guard=none) (hd:o.dst=some d) (hn:Nat.blt d n.n=true) (ho:o.op=.binOp .eql t x y t2) (ht:tyOf ty t=some (.slice e sz)) (hx:jw l x=some (.slice sp m c)) (hy:jw l y=some (.slice none 0 0)) (h:WL n ops Q rest ((d,.bool sp.isNone) :: l) w): WL n ops Q (o :: rest) l w :=
 WL.step hg hd hn (fun a ha=>by
  unfold execOp;rw[ho];obtain⟨hu,-⟩:=m_.of mV ht;have:=Lib.run_eql_slice_nil w t e sp m c 0 0 hu;have hq:(eqGuard .eql t x y (.slice sp m c) (.slice none 0 0)).run prog w=.ok () w:=by simp[eqGuard]
  simp only[ha.eval hx,ha.eval hy,bA,hq,bm,this]
  rfl) h
end
theorem Gz {v:Value}{l:List ByteArray}(h:Bi w v l) (hl:l.length <= 1000000):
  Calls prog 124 #[v] w fun r w'=>iB w w' /\ ∃v',r=.returned v' /\ lA 1 jz EM (fun b=>w.heap.size <= b) w' v' l /\ v'.oneCell'=true:=by
 have h0:=h;obtain⟨sp,cap,rfl,h1,h2,h3,h4⟩:=h;refine iY (args:=[.slice sp l.length cap]) func124 ntmps124 ?_;refine gY ?_;refine WL.ah7 rfl rfl rfl rfl rfl rfl rfl ?_;cases sp with
 | none=>
  have BY:l.length=0:=by
   rcases fA l.length with h|h
   ·exact h
   ·obtain⟨_,_,hc,-⟩:=h4 h;cases hc
  obtain rfl:=bj BY
  show WL _ _ _ _ ((_,.bool true) :: _) _
  refine gY ?_;exact g_ ⟨Below.refl _ _,_,rfl,lA.nil _ _ _ _ _,rfl⟩
 | some ad=>
  show WL _ _ _ _ ((_,.bool false) :: _) _
  refine gY ?_;refine WL.empty rfl rfl rfl rfl rfl fun g w1 hf=>?_;have jx:jl w g w1 9 []:=hf;clear hf;have hg:=jx.eq;have hz:=jx.size;have mj:=jx.below;refine gY ?_
  by_cases HP:l.length=0
  ·obtain rfl:=bj HP
   refine WL.ain rfl rfl rfl rfl rfl rfl (af 0) rfl ?_;refine gY ?_;exact WQ.uT rfl rfl ⟨mj,_,rfl,⟨_,0,rfl,iz,gZ,(fun h=>by cases h),fun h=>by simp at h⟩,rfl⟩
  ·have iJ:iK 9 1 w1 (fun x=>x=g) (.slice (some ⟨g,0,none⟩) 0 0) 0 []:=⟨⟨iz,.inr ⟨g,0,#[],rfl,aw _,jx.blk,af _,by unfold maxLen;omega,iz,iz⟩⟩,fun _ h=>(aR h).elim,fun g h=>by cases h;rfl⟩
   have lU:=Nv (Bi.below h0 mj) gZ;refine WL.qO rfl rfl rfl rfl WW rfl iJ rfl lU gZ gZ fun v2 w2 wN lN=>?_;have lx:v2.oneCell'=true:=by obtain⟨_,_,rfl,-⟩:=wN.slice;rfl
   have jg:=mj.trans (lN.old (B:=w.heap.size) gZ (fun x hx=>by have:g=x:=au hx;omega));refine gY ?_;simp only[a_,aH] at wN;refine g_ ⟨jg,v2,rfl,L3 (O:=fun b=>w.heap.size <= b) (wN.mono fun b hb=>by omega) fun s hs=>?_,lx⟩;obtain⟨j,hj,rfl⟩:=bn hs
   simpa[hj] using h3 j hj
theorem BD {B:Nat}(hB:B <= 1000000):∀(f:Nat) {w:World}{v:V}{cs:List Value},kH f w v cs -> Sm B f v ->
  Calls prog 84 #[.agg cs.toArray] w fun e w'=>iB w w' /\ ∃yo,e=.returned (.agg yo.toArray) /\ jE (fun b=>w.heap.size <= b) f w' v yo
 | 0,_,_,_,h,_=>h.elim
 | f+1,w,v,cs,h,hm=>by
  obtain⟨sn,sk,rfl,wk,wn,ws,wt,qJ,tM⟩:=h;obtain⟨xF,OT,LN⟩:=hm;obtain⟨sp,cap,rfl,uG,oG,ji⟩:=tM;refine iY (args:=[.agg (lW v sn (.slice sp v.kids.length cap)).toArray]) func84 ntmps84 ?_;refine gY ?_;refine iC fun g1 w1 nh=>?_;have mJ:jl w g1 w1 25 (lW v sn (.slice sp v.kids.length cap)):=nh;clear nh;refine ix (z:=.agg iy.toArray) (fun _=>by kernel_rfl) fun g2 w2 lI=>?_;have kM:jl w1 g2 w2 25 iy:=lI;clear lI;have zY:=mJ.size;have vJ:=kM.size;have ZS:=mJ.eq;have De:=kM.eq;have lQ:=mJ.below.trans (kM.below.mono mJ.below.size);have B1:=mJ.blk.below kM.below mJ.blk.lt;have B2:=kM.blk;clear mJ kM;refine gY ?_;refine ia (B1.cell 4 iz) ?_;refine il func124 (Gz (qJ.below lQ) gZ) ?_;rintro _ w3 ⟨jF,sx,rfl,hn3,hsx⟩;refine⟨_,rfl,?_⟩;have Lv:=B1.below jF B1.lt;have Aa:=B2.below jF B2.lt;have mG:=lQ.iR jF;refine gY ?_;refine iD (hv:=hsx) (Lv.cell 4 iz) (Lv.free 4) ?_;have C1:h_ 25 (w3.setCell ⟨g1,4,none⟩ sx) g1 (lW v sx (.slice sp v.kids.length cap)):=Lv.set 4 sx;have C2:h_ 25 (w3.setCell ⟨g1,4,none⟩ sx) g2 iy:=Aa.other _ _ (by show g2≠g1;omega);have nY:iB w (w3.setCell ⟨g1,4,none⟩ sx):=ib.below (ib.setCell (ib.ic mG) (fun hk=>by simp only at hk;omega) _);have I7:ib (fun b=>b≠g1) w3 (w3.setCell ⟨g1,4,none⟩ sx):=(ib.refl _ w3).setCell (fun hk=>hk rfl) _;have m4:lA 1 jz EM (fun b=>w.heap.size <= b /\ b≠g1 /\ b≠g2) (w3.setCell ⟨g1,4,none⟩ sx) sx v.names:=hn3.ij I7 (fun b hb _=>by omega) (fun b hb=>by omega) fun _ _ h=>h;generalize w3.setCell ⟨g1,4,none⟩ sx=w5 at C1 C2 nY m4 ⊢;clear I7;have hz5:=nY.size;have hgg:g1≠g2:=gZ;have SO:=C1.lt;have PC:=C2.lt;refine gY ?_;refine ia (C1.cell 5 iz) ?_;refine gY ?_;refine WC.loop (fun i:Nat × Value=>[(1,iF g1),(2,iF g2),(3,i.2),(11,.slice sp v.kids.length cap),(12,Iq v.kids.length),(13,Iq i.1)])
   (fun i wr=>i.1 <= v.kids.length /\ iB w5 wr /\ ∃q:Nat -> Prop,jk 25 6 lH (jE q f wr) (fun b=>w5.heap.size <= b) wr i.2 (v.kids.take i.1) /\ ∀b,q b -> w5.heap.size <= b /\ b<wr.heap.size /\ i.2.ownBlock≠some b) (fun i=>v.kids.length - i.1) (0,.slice none 0 0)
   iW ⟨aw _,Below.refl _ _,fun _=>False,jk.nil _ _ _ _ _ _,fun b h=>h.elim⟩ ?_
  rintro⟨i,vk⟩ wr ⟨hi,jC,q,sI,hq⟩;simp only at hi jC sI hq ⊢;have D1:=C1.below jC SO;have D2:=C2.below jC PC;have tQ:=nY.trans (jC.mono hz5);have hzr:=jC.size
  by_cases je:i<v.kids.length
  ·obtain⟨kb,ko,rfl,oN,kA⟩:=ji gZ
   obtain⟨c,mO,pj,mo⟩:=kA i je;refine gY ?_;refine iG i (ko+i*6) je ?_;refine ig (fun j u hu=>(tQ.cell (p:=⟨kb,ko+i*6+j,none⟩) oN).trans (mo j u hu)) mO ?_;refine ix (z:=.agg iy.toArray) (fun _=>by kernel_rfl) fun kc wa hfa=>?_;have A6:jl wr kc wa 25 iy:=hfa;clear hfa;refine gY ?_;refine ir (hm:=mO) (hold:=(by rfl)) A6.blk (kH.one pj) ?_;have uz:iB wr (wa.setRow kc c.toArray):=below_setRow A6.below (by rw[A6.eq];exact af _) _;have Ka:h_ 25 (wa.setRow kc c.toArray) kc c:=A6.blk.setRow _;generalize wa.setRow kc c.toArray=wb at uz Ka;clear A6;have OG:=uz.size;refine gY ?_;refine ig (h_.rangeAt Ka) mO ?_;refine il func84 (BD hB f (pj.below (tQ.iR uz)) (LN _ (by simp[je]))) ?_;rintro _ w6 ⟨aax,c6,rfl,ab_⟩;refine⟨_,rfl,?_⟩;have qA:=uz.trans (aax.mono OG);have Ch:jE (fun b=>wr.heap.size <= b) f w6 (v.kids.getD i lH) c6:=jE.mono (fun b hb=>by omega) ab_;have Vg:=qA.size;refine jR (hcs:=Ch.len) (hs:=⟨gZ,gZ⟩) fun g7 w7 uy=>?_;have hz7:=uy.size;have tF:=qA.trans (uy.below.mono Vg);have Ah:jk 25 6 lH (jE (fun b=>q b \/ (wr.heap.size <= b /\ b<w7.heap.size)) f w7) (fun b=>w5.heap.size <= b) w7 vk (v.kids.take i) :=
    sI.ij (ib.ic tF) (fun g hg=>sI.lt hg) (fun _ h=>h) fun x cs hx=>hx.ij (ib.ic tF) (fun b hb _=>(hq b hb).2.1) fun b hb=>.inl hb
   have HJ:jE (fun b=>q b \/ (wr.heap.size <= b /\ b<w7.heap.size)) f w7 (v.kids.getD i lH) c6:=Ch.there.ij (ib.ic uy.below) (fun b _ h=>h) fun b hb=>.inr ⟨hb.1,gZ⟩;have iS:(v.kids.take i).length <= i:=by rw[aE];omega
   refine WL.snoc rfl rfl rfl rfl Pn rfl Ah rfl uy.blk Ch.one Ch.len HJ gZ gZ fun vk8 w8 xC nP=>?_;have Af:=(jC.trans (tF.mono hzr)).trans (nP.old gZ fun g hg=>Ah.own hg);have Px:∀b,(q b \/ (wr.heap.size <= b /\ b<w7.heap.size)) -> w5.heap.size <= b /\ b<w7.heap.size /\ vk.ownBlock≠some b:=fun b hb=>hb.elim (fun h=>by
     obtain⟨h1,h2,h3⟩:=hq b h;exact⟨h1,gZ,h3⟩) fun h=>⟨gZ,h.2,fun e=>by have:=sI.lt e;omega⟩
   have wo:v.kids.take (i+1)=v.kids.take i++[v.kids.getD i lH]:=by
    rw[aJ];simp[je]
   refine gY ?_;refine WQ.again (i+1,vk8) iW ⟨je,Af,(fun b=>q b \/ (wr.heap.size <= b /\ b<w7.heap.size)),?_,fun b hb=>?_⟩ (by show v.kids.length - (i+1)<v.kids.length - i;omega)
   ·show jk _ _ _ _ _ _ _ (v.kids.take (i+1))
    rw[wo];exact xC.ij (ib.refl (fun _=>True) w8) (fun _ _=>trivial) (fun b hb=>by omega) fun x cs hx=>hx.ij nP.1 (fun b hb _=>(Px b hb).2) fun b hb=>hb
   ·obtain⟨h1,h2,h3⟩:=Px b hb
    exact⟨h1,ak h2 nP.1.size,fun e=>(nP.2 b e).elim h3 fun h4=>by omega⟩
  ·obtain rfl:i=v.kids.length:=gZ
   rw[aI] at sI;have hvk:=sI.one;have oy:ib (fun b=>b≠g1) wr (wr.setCell ⟨g1,5,none⟩ vk):=(ib.refl _ wr).setCell (fun hk=>hk rfl) _;refine gY ?_;refine iD (hv:=hvk) (D1.cell 5 iz) (D1.free 5) ?_;have E1:=D1.set 5 vk;have E2:h_ 25 (wr.setCell ⟨g1,5,none⟩ vk) g2 iy:=D2.other _ _ (by show g2≠g1;omega);have PT:iB w (wr.setCell ⟨g1,5,none⟩ vk):=ib.below (ib.setCell (ib.ic tQ) (fun hk=>by simp only at hk;omega) _);have PD:=(m4.there (fun _ _ h=>h)).ij (O':=fun b=>(w.heap.size <= b /\ b≠g1 /\ b≠g2)) (ib.ic jC) (fun b hb iS=>iS) (fun b hb=>hb.1) fun _ _ h=>h;have GB:=PD.ij oy (fun b hb _=>hb.2.1) (fun b hb=>hb) fun _ _ h=>h;have GA:lA 6 lH (jE (fun b=>w5.heap.size <= b) f (wr.setCell ⟨g1,5,none⟩ vk)) (fun b=>w5.heap.size <= b) (wr.setCell ⟨g1,5,none⟩ vk) vk v.kids :=
    sI.jt.ij oy (fun b hb _=>by omega) (fun b hb=>hb) fun x cs hx=>hx.ij oy (fun b hb _=>by have:=(hq b hb).1;omega) fun b hb=>(hq b hb).1
   generalize wr.setCell ⟨g1,5,none⟩ vk=w9 at E1 E2 PT GB GA;simp only[dy,fC] at E1;refine gY ?_;refine ig (h_.rangeAt E1) rfl ?_;have lx:kj [Value.int .i64 v.k,Iq v.n,Iq v.s,.string v.t,sx,vk]:=by
    intro u hu;simp at hu
    rcases hu with rfl|rfl|rfl|rfl|rfl|rfl<;>first|rfl|assumption
   refine ir E2 lx ?_;refine gY ?_;have rS:∀a,ib (fun b=>b≠g2) w9 (w9.setRow g2 a):=fun a=>ib.setRow (ib.refl _ w9) (fun hk=>hk rfl) a;refine WQ.tl rfl rfl rfl rfl (E2.setRow _) ⟨ib.below (ib.setRow (ib.ic PT) (fun hk=>by omega) _),_,rfl,sx,vk,rfl,wk,wn,ws,wt,GB.ij (rS _) (fun b hb _=>hb.2.2) (fun b hb=>hb.1) fun _ _ h=>h,?_⟩;exact GA.ij (rS _) (fun b hb _=>by omega) (fun b hb=>by omega) fun x cs hx=>hx.ij (rS _) (fun b hb _=>by omega) fun b hb=>gZ
end K
namespace Cr
open K Cat
theorem PH {b:Nat}{es:Array MapEntry}{clock:Nat}(hb:w.heap[b]? = some (.map es clock)):
  Calls prog 77 #[.map (some b)] w fun e w'=>e=.returned (.map (some w.heap.size)) /\ w'=w.alloc (.map es clock):=by
 have hq:=fun w=>run_eql_map_nil_sl (P:=prog) w 142 _ _ (some b) underlying142
 go_enter func77,ntmps77
 go_wp2
 rw[dn func78 (by kernel_rfl) (by kernel_rfl) (by kernel_rfl) (e:=Extern.MapsClone.clone) (by kernel_rfl),run_maps_clone_sl _ 142 hb];simp only[Result.andThen];rw[cm]
 go_wp2
 rw[cZ _ 142 _ _ _ _ underlying142];simp only[Result.andThen];rw[cm]
 go_wp2
 go_ret
 exact⟨rfl,rfl⟩
theorem iK.within {e:TypeId}{v:Value}{n:Nat}{l:List Value}(h:iK e m w O v n l): iK e m w (fun b=>O b /\ b<w.heap.size) v n l:=⟨h.1,h.2.1,fun _ hg=>⟨h.own hg,h.lt hg⟩⟩
theorem r6.within {L:List Tb}(h:r6 eT eF w O tv L): r6 eT eF w (fun b=>O b /\ b<w.heap.size) tv L:=by
 obtain⟨cells,h1,h2⟩:=h;exact⟨cells,iK.within h1,fun i hi=>⟨(h2 i hi).1,(h2 i hi).2.1,(h2 i hi).2.2.1,iK.within (h2 i hi).2.2.2⟩⟩
theorem r6.mono {O':Nat -> Prop}{L:List Tb}(h:r6 eT eF w O tv L) (hO:∀b,O b -> O' b): r6 eT eF w O' tv L:=by
 obtain⟨cells,h1,h2⟩:=h;exact⟨cells,h1.mono hO,fun i hi=>(h2 i hi).mono hO⟩
abbrev ctT:Nat:=144
theorem abz (sp:Option Addr) (m cap:Nat) (dr:Int) (mb:Nat): prog.built ctT [(0,.slice sp m cap),(1,.int .u64 dr),(2,.map (some mb))]=some [.slice sp m cap,.int .u64 dr,.map (some mb)].toArray:=by kernel_rfl
theorem Us {n:Nat}{L:List Tb}(h0:ln w c O n L): Calls prog 48 #[iF c] w fun e w'=>∃c' O',e=.returned (.pointer (some ⟨c',0,none⟩)) /\ ln w' c' O' n L /\ iB w w' /\ ∀b,O' b -> w.heap.size <= b:=by
 obtain⟨tv,dr,mb,hv,wI,tP,hO,hT,hB,hM,hG⟩:=id h0;have k1:=hv.cell 1 iz;have k2:=hv.cell 2 iz;simp only[ax,al] at k1 k2;have iS:=hO _ wI;refine iY func48 ntmps48 ?_;refine gY ?_;refine jc ?_;refine gY ?_;refine WC.drawn 11 (iB w) fun w1 hd=>?_;have hS:iB w w1:=hd.below _;refine iq [0,2,3,4,6,7,8] hS ?_;refine ik 5 [11] (jZ iS k1) hS ?_;refine ik 9 [10,11] (jZ iS k2) hS ?_;refine iI 1 ?_;refine il func28 (ub (h0.below hS (af _))) ?_;rintro _ w2 ⟨sp,cap,rfl,hT2,b2⟩;refine⟨_,rfl,?_⟩;have c2:=hS.iR b2;refine km c2 ?_;obtain⟨es,clock,hm,zG⟩:=K.MF.clone (hM.below c2 (hO _ tP));refine iI 10 ?_;refine i_ func77 (PH hm) ?_;rintro w3 e3
 have b3:=e3 ▸ (Below.refl _ _).alloc (af _) _;have c3:=c2.iR b3;have z3:w3.heap.size=w2.heap.size+1:=by rw[e3];show(w2.heap.push _).size=_;simp
 rw[<- e3] at zG;refine km c3 ?_;refine iI 11 ?_;refine iE [.slice sp L.length cap,.int .u64 (dr:Nat),.map (some w2.heap.size)] (abz _ _ _ _ _) ?_;refine iO ?_;refine iI 12 ?_;refine iC fun g w4 f4=>?_;refine iO ?_
 (refine js 13 rfl (q:=?_))
 refine im ?_;have c4:=c3.iR f4.below;have v4:h_ ctT w4 g [.slice sp L.length cap,.int .u64 (dr:Nat),.map (some w2.heap.size)]:=f4.blk;have e4:=f4.eq;have zY:=hS.size;have vJ:=b2.size;have hz4:=f4.size;have hT4:r6 98 100 w4 (fun b=>w.heap.size <= b /\ b<w4.heap.size) (.slice sp L.length cap) L :=
  Cr.r6.mono (Cat.r6.ij (Cr.r6.within hT2) (ib.ic (b3.iR f4.below)) fun b hb=>hb.2) fun b (hb:w1.heap.size <= b /\ b<w2.heap.size)=>⟨gZ,gZ⟩
 have SA:=zG.below f4.below gZ;have k2':=v4.cell 2 iz;simp only[ax,al] at k2';refine iu ?_;refine WL.aih underlying142 rfl rfl rfl rfl rfl ?_;refine gY ?_;exact g_ ⟨g,fun b=>w.heap.size <= b /\ b<w4.heap.size,rfl,⟨_,dr,_,v4,⟨gZ,gZ⟩,⟨gZ,gZ⟩,fun b hb=>hb.2,hT4,hB,SA,hG⟩,c4,fun b hb=>hb.1⟩
end Cr
namespace Vw
open K
abbrev XS:Nat:=132
abbrev te:Nat:=90
abbrev Fv:Nat:=135
theorem alk: Fv<prog.types.size:=of_decide_eq_true (by kernel_rfl)
theorem aff:(match prog.underlying Fv with|some (.array _ _)|some (.struct _)=>true|_=>false)=true:=by rw[show prog.underlying Fv=_ from underlying135]
theorem Ii: Keyed prog Fv:=fy (deep_law_laid Cat.laid (m:=2) gZ alk (by kernel_rfl) aff)
theorem Ur: prog.keyType Fv=true:=by kernel_rfl
theorem aab: prog.cellsOf Fv=2:=by kernel_rfl
theorem VN {x:Int × Int}(h1:jX x.1) (h2:jX x.2): keyOf prog Fv (lR x)=some (.string (keyBytes [.int .i64 x.1,.int .i64 x.2])) :=
 JO underlying135 underlying3 rfl rfl j9 rfl rfl j9 Ur aab Cat.qC Cat.po x (zW h1) (zW h2)
def LG (x:Int):Value:=Iq x
theorem ace (x y:Int) (h:LG x=LG y): x=y:=by unfold LG at h;injection h
theorem P_: Keyed prog iT:=int_keyed underlying3
theorem Z5 (h:jX x): keyOf prog iT (LG x)=some (.int .i64 x):=by
 unfold keyOf LG;have hu:prog.underlying iT=some (.int .i64):=underlying3;simp[hu,mapKey,zW h]
def uv (L:List Rw) (t:Int):Option Value:=if iQ t L=0 then none else some (Iq (iQ t L:Nat))
def ql (L:List Rw) (a:Int × Int):Option Value:=(L.find? fun r=>decide (r.lG=a) && !r.del).map fun r=>lR r.key
def As (f:Int × Int -> Bool) (a:Int × Int):Option Value:=if f a=true then some (.bool true) else none
structure PV (w:World) (vb:Nat) (M D:Nat -> Prop) (f:Nat) (s:St) (cp:Nat) (Oc:Nat -> Prop) (mr md mp mn k N:Nat) (F:Int × Int -> Option Value):Prop where
 pM:h_ XS w vb [iF cp,.map (some mr),.map (some md),.map (some mp),.map (some mn),Iq s.n]
 cat:Cat.ln w cp Oc k s.cat
 rows:MF prog Fv lR w mr k F
 jt:∀x,lA 14 jf (lC D f w) D w ((F x).getD (.slice none 0 0)) (Vw.of s.rows x)
 uQ:MF prog iT LG w md k (uv s.rows)
 uS:MF prog uY lR w mp k (ql s.rows)
 uM:MF prog uY lR w mn k (As s.red)
 tG:M vb
 xK:M mr
 yy:M md
 yJ:M mp
 zA:M mn
 rn:∀b,Oc b -> M b
 out:¬Oc vb /\ ¬Oc mr /\ ¬Oc md /\ ¬Oc mp /\ ¬Oc mn
 oV:(mr≠md /\ mr≠mp /\ mr≠mn) /\ (md≠mp /\ md≠mn) /\ mp≠mn
 lt:∀b,M b \/ D b -> b<w.heap.size
 sep:∀b,M b -> ¬D b
 ok:s.n <= N /\ s.rows.length <= N /\ k <= N /\ N <= 1000000
def pD (w:World) (vb:Nat) (M D:Nat -> Prop) (f:Nat) (s:St) (N:Nat):Prop:=∃cp Oc mr md mp mn k F,PV w vb M D f s cp Oc mr md mp mn k N F
section
variable {w w':World}{vb:Nat}{M D:Nat -> Prop}{f:Nat}{s:St}{cp:Nat}{Oc:Nat -> Prop}{mr md mp mn k N:Nat}{F:Int × Int -> Option Value}
theorem PV.ij (h:PV w vb M D f s cp Oc mr md mp mn k N F) {K:Nat -> Prop}(hk:ib K w w') (hK:∀b,M b \/ D b -> K b): PV w' vb M D f s cp Oc mr md mp mn k N F :=
 ⟨h.pM.ij hk (hK _ (.inl h.tG)),h.cat.ij hk fun b hb=>hK b (.inl (h.rn b hb)),h.rows.ij hk (hK _ (.inl h.xK)),fun x=>(h.jt x).ij hk (fun b hb _=>hK b (.inr hb)) (fun _ h=>h) fun _ _ hp=>hp.ij hk (fun b hb _=>hK b (.inr hb)) (fun _ h=>h),
  h.uQ.ij hk (hK _ (.inl h.yy)),h.uS.ij hk (hK _ (.inl h.yJ)),h.uM.ij hk (hK _ (.inl h.zA)),h.tG,h.xK,h.yy,h.yJ,h.zA,h.rn,h.out,h.oV,fun b hb=>ak (h.lt b hb) hk.size,h.sep,h.ok⟩
theorem PV.below (h:PV w vb M D f s cp Oc mr md mp mn k N F) (hb:iB w w'): PV w' vb M D f s cp Oc mr md mp mn k N F:=h.ij (ib.ic hb) h.lt
theorem pD.below (h:pD w vb M D f s N) (hb:iB w w'): pD w' vb M D f s N:=by obtain⟨_,_,_,_,_,_,_,_,h⟩:=h;exact⟨_,_,_,_,_,_,_,_,h.below hb⟩
theorem pD.ij (h:pD w vb M D f s N) {K:Nat -> Prop}(hk:ib K w w') (hK:∀b,M b \/ D b -> K b): pD w' vb M D f s N:=by obtain⟨_,_,_,_,_,_,_,_,h⟩:=h;exact⟨_,_,_,_,_,_,_,_,h.ij hk hK⟩
theorem pD.lt (h:pD w vb M D f s N): ∀b,M b \/ D b -> b<w.heap.size:=by obtain⟨_,_,_,_,_,_,_,_,h⟩:=h;exact h.lt
theorem pD.mono (h:pD w vb M D f s N) {N':Nat}(h1:N <= N') (h2:N' <= 1000000): pD w vb M D f s N':=by
 obtain⟨cp,Oc,mr,md,mp,mn,k,F,h⟩:=h;exact⟨cp,Oc,mr,md,mp,mn,k,F,{ h with ok:=by have:=h.ok;omega }⟩
theorem PV.T8 (h:PV w vb M D f s cp Oc mr md mp mn k N F) {x:Int × Int}(h1:jX x.1) (h2:jX x.2): (Instr.lookup 127 (.map (some mr)) (lR x) false).run prog w=.ok ((F x).getD (.slice none 0 0)) w :=
 h.rows.look Ii underlying127 (by kernel_rfl) (VN h1 h2)
theorem PV.KH (h:PV w vb M D f s cp Oc mr md mp mn k N F) {t:Int}(h1:jX t): (Instr.lookup 128 (.map (some md)) (.int .i64 t) false).run prog w=.ok (.int .i64 (iQ t s.rows:Nat)) w:=by
 have:=h.uQ.look P_ underlying128 (z:=.int .i64 0) (by kernel_rfl) (Z5 h1);unfold LG at this;rw[this];unfold uv
 by_cases e:iQ t s.rows=0
 ·rw[if_pos e,e];rfl
 ·rw[if_neg e];rfl
theorem PV.amy (h:PV w vb M D f s cp Oc mr md mp mn k N F) (h1:jX a.1) (h2:jX a.2): (Instr.lookup 130 (.map (some mn)) (lR a) false).run prog w=.ok (.bool (s.red a)) w:=by
 have:=h.uM.look tY underlying130 (z:=.bool false) (by kernel_rfl) (AE h1 h2);rw[this];unfold As;cases s.red a<;>rfl
theorem PV.akl (h:PV w vb M D f s cp Oc mr md mp mn k N F) (h1:jX a.1) (h2:jX a.2): (Instr.lookup 129 (.map (some mp)) (lR a) true).run prog w=.ok (.tuple #[(ql s.rows a).getD (lR (0,0)),.bool (ql s.rows a).isSome]) w :=
 h.uS.al5 tY underlying129 (by kernel_rfl) (AE h1 h2)
end
theorem Ek (a b:Int): prog.built Fv [(0,Iq a),(1,Iq b)]=some [Value.int .i64 a,Iq b].toArray:=by kernel_rfl
theorem EK (w:World): (zeroValue 98).run prog w=.ok (.agg Cr.qP.toArray) w:=by kernel_rfl
theorem xj: prog.built te []=some (jQ jf iy).toArray:=by kernel_rfl
theorem Gj {r:Rw}(hv:kH f w r.data dc) (lX:Sm 3000 f r.data):
  Calls prog 58 #[.agg (jQ r dc).toArray] w fun e w'=>iB w w' /\ ∃yl,e=.returned (.agg (jQ r yl).toArray) /\ jE (fun b=>w.heap.size <= b) f w' r.data yl:=by
 have j7:=hv.len;have lx:=kH.one hv;refine iY (args:=[.agg (jQ r dc).toArray]) func58 ntmps58 ?_;refine ku ?_;refine iC fun g1 w1 f1=>?_;have v1:h_ te w1 g1 (jQ r dc):=f1.blk;have b1:=f1.below;have e1:=f1.eq;have s1:=f1.size;clear f1;refine ix (z:=.agg (jQ jf iy).toArray) (fun _=>by kernel_rfl) fun g2 w2 f2=>?_;have v2:h_ te w2 g2 (jQ jf iy):=f2.blk;have b2:=b1.iR f2.below;have e2:=f2.eq;replace v1:=h_.below v1 f2.below (h_.lt v1);have z1:=b1.size;clear f2;refine gY ?_;refine ig (p8.of (h_.rangeAt v1) j7).data j7 ?_;refine il func84 (BD (B:=3000) gZ f (hv.below b2) lX) ?_;rintro _ w3 ⟨b3,yl,rfl,su⟩;refine⟨_,rfl,?_⟩;have Be:=su.len;have l1:=h_.lt v1;have l2:=h_.lt v2;replace v1:=h_.below v1 b3 l1;replace v2:=h_.below v2 b3 l2;have bb:=b2.iR b3;refine gY ?_;refine WL.tN rfl rfl rfl rfl rfl rfl v1 Be (by rw[jO j7];omega) su.one ?_;have v4:=h_.setRow v1 ((jQ r dc).take 3++yl++(jQ r dc).drop (3+6));have k4:ib (fun x=>x≠g1) w3 (w3.setRow g1 ((jQ r dc).take 3++yl++(jQ r dc).drop (3+6)).toArray):=Cr.kC (ib.refl _ _) iz _;rw[MB j7] at v4 k4;change WL _ _ _ _ _ (w3.setRow g1 ((jQ r dc).take 3++yl++(jQ r dc).drop (3+6)).toArray);rw[MB j7];generalize w3.setRow g1 _=w4 at v4 k4 ⊢;refine gY ?_;refine ig (h_.rangeAt v4) (jO Be) ?_;have v24:=v2.ij k4 gZ;refine ir (hm:=(jO Be)) v24 (lF su.one) ?_;have v5:=h_.setRow v24 (jQ r yl);have k5:ib (fun x=>x≠g1 /\ x≠g2) w3 (w4.setRow g2 (jQ r yl).toArray):=Cr.kC (k4.mono fun x hx=>hx.1) iz _;generalize w4.setRow g2 _=w5 at v5 k5 ⊢;refine gY ?_;exact WQ.tl rfl rfl rfl (jO Be) v5 ⟨((ib.ic bb).trans (k5.mono fun x (hx:x<w.heap.size)=>⟨gZ,gZ⟩)).below,yl,rfl,su.ij k5 (fun x hx _=>⟨gZ,gZ⟩) fun x hx=>by have:=b2.size;omega⟩
theorem Kd {s:St}(h0:pD w vb M D f s N) {t:Int}(ht:jX t):
  Calls prog 83 #[iF vb,Iq t] w fun e w'=>e=.returned (Iq (next s t)) /\ iB w w':=by
 obtain⟨cp,Oc,mr,md,mp,mn,k,F,h⟩:=h0;have c0:=h.pM.cell 0 iz;simp only[al] at c0;refine iY func83 ntmps83 ?_;refine gY ?_;refine jc ?_;refine iu ?_;refine il func82 (Cat.vN h.cat t) ?_;rintro _ w2 ⟨sp,c,rfl,ho,b2⟩;refine⟨_,rfl,?_⟩;refine gY ?_;refine ix (z:=.agg Cr.qP.toArray) EK fun g8 w3 f3=>?_;refine ir f3.blk (Cr.pw rfl) ?_;obtain⟨v8,b8,-,q8⟩:=mh [Value.int .i64 (Cat.ju s.cat t).1,.string (Cat.ju s.cat t).2.1.name,.bool (Cat.ju s.cat t).2.1.dropped,.slice sp (Cat.ju s.cat t).2.1.fs.length c] b2 f3;generalize w3.setRow g8 _=w4 at v8 b8 ⊢;clear f3 ho b2 q8 w3 w2 v8;have h4:=h.below b8;have c2:=h4.pM.cell 2 iz;simp only[ax,al] at c2;have hl:=h4.KH ht;have wJ:next s t=if(Cat.ju s.cat t).2.2=0 then(iQ t s.rows:Int)+1 else 0:=rfl
 rw[wJ];have mg:=tX t s.rows;have kK:=h.ok;generalize (Cat.ju s.cat t).2.2=code;generalize iQ t s.rows=c at *
 by_cases hc:code=0
 ·rw[if_pos hc]
  refine iu ?_;refine WL.look rfl rfl rfl rfl rfl rfl hl ?_;refine gY ?_;exact g_ ⟨rfl,b8⟩
 ·rw[if_neg hc]
  refine gY ?_;exact g_ ⟨rfl,b8⟩
open K
def FK (w:World) (D:Nat -> Prop) (f:Nat) (T:Option Rw) (e:Ending) (w':World):Prop :=
 iB w w' /\ ∃r dc b,e=.returned (.tuple #[.agg (jQ r dc).toArray,.bool b]) /\ jE D f w' r.data dc /\ zQ r /\ Sm 3000 f r.data /\ (match T with|some r'=>r=r' /\ b=true|none=>b=false)
theorem anF: zQ jf:=⟨by decide,by decide,by decide,by decide,by decide,by decide⟩
theorem Mp {s:St}(h0:pD w vb M D (f+1) s N) {t:Int}(ht:jX t) (hd:jX d):
  Calls prog 57 #[iF vb,.agg #[Iq t,Iq d]] w (FK w D (f+1) (kQ s (t,d))):=by
 obtain⟨cp,Oc,mr,md,mp,mn,k,F,h⟩:=id h0;refine iY func57 ntmps57 ?_;refine ku ?_;refine iC fun g3 w1 f1=>?_;have v3:h_ Fv w1 g3 [Iq t,Iq d]:=f1.blk;have b1:=f1.below;have e3:=f1.eq;have s3:=f1.size;clear f1;refine ix (z:=.agg (jQ jf iy).toArray) (fun _=>by kernel_rfl) fun g4 w2 f2=>?_;have v4:h_ te w2 g4 (jQ jf iy):=f2.blk;have b2:=b1.iR f2.below;have e4:=f2.eq;replace v3:=h_.below v3 f2.below (h_.lt v3);have z1:=b1.size;replace s3:g3<g4:=gZ;have w3g:w.heap.size <= g3:=gZ;clear f2 b1 z1 e4 e3 w1;have h2:=h.below b2;have c0:=h2.pM.cell 0 iz;simp only[al] at c0;have tZ:=h2.lt vb (.inl h2.tG);have l3:=h_.lt v3;have l4:=h_.lt v4;have k30:=v3.cell 0 iz;simp only[al] at k30;refine gY ?_;refine WC.sa (fun g:Nat=>[(0,iF vb),(3,iF g3),(4,iF g4),(6,iF g),(7,Iq (Cat.ju s.cat t).2.2)])
  (fun g w'=>iB w2 w' /\ g<w'.heap.size /\ w'.cell? ⟨g,2,none⟩=some (.bool (Cat.ju s.cat t).2.1.dropped)) rfl ?_ ?_
 ·refine WC.drawn 6 (iB w2) fun wa jh=>?_
  have hS:iB w2 wa:=jh.below _;refine iq [0,1,2,4] hS ?_;refine ik 3 [6,7,8,9,11,12] (jZ tZ c0) hS ?_;refine ik 5 [6,7,8,9,11,12] (jZ l3 k30) hS ?_;refine WD.two 6 10 (by kernel_rfl) rfl rfl ?_ ?_
  ·skip
   refine il func82 (Cat.vN (h2.below hS).cat t) ?_;rintro _ wb ⟨sp,c,rfl,ho,oR⟩;refine⟨_,rfl,?_⟩;refine iO ?_
   (refine js 7 rfl (q:=?_);refine js 8 rfl (q:=?_);refine js 9 rfl (q:=?_))
   refine iI 10 ?_;refine ix (z:=.agg Cr.qP.toArray) EK fun g9 wc f9=>?_;refine iO ?_;refine iI 11 ?_;refine ir f9.blk (Cr.pw rfl) ?_;obtain⟨vf,bf,-,-⟩:=mh [Value.int .i64 (Cat.ju s.cat t).1,.string (Cat.ju s.cat t).2.1.name,.bool (Cat.ju s.cat t).2.1.dropped,.slice sp (Cat.ju s.cat t).2.1.fs.length c] oR f9;replace bf:=hS.iR bf;refine iO ?_
   (refine js 12 rfl (q:=?_))
   refine im ?_;refine gY ?_;exact WQ.meet g9 iW ⟨bf,vf.lt,vf.cell 2 iz⟩
  ·skip
   refine ix (z:=.agg Cr.qP.toArray) EK fun g9 wc f9=>?_;have uJ:=hS.iR f9.below;refine km uJ ?_;refine iI 6 ?_;refine il func82 (Cat.vN (h2.below uJ).cat t) ?_;rintro _ wb ⟨sp,c,rfl,ho,oR⟩;refine⟨_,rfl,?_⟩;refine iO ?_
   (refine js 7 rfl (q:=?_);refine js 8 rfl (q:=?_);refine js 9 rfl (q:=?_))
   refine iI 11 ?_;have v9:=h_.below f9.blk oR f9.blk.lt;refine ir v9 (Cr.pw rfl) ?_;have vf:=v9.setRow [Value.int .i64 (Cat.ju s.cat t).1,.string (Cat.ju s.cat t).2.1.name,.bool (Cat.ju s.cat t).2.1.dropped,.slice sp (Cat.ju s.cat t).2.1.fs.length c];have Zm:=f9.eq;have hgz:=hS.size;have bf:=(Cr.kC (K:=fun x=>x<w2.heap.size) (g:=g9) (ib.ic (uJ.iR oR)) (fun hh=>by omega) [Value.int .i64 (Cat.ju s.cat t).1,.string (Cat.ju s.cat t).2.1.name,.bool (Cat.ju s.cat t).2.1.dropped,.slice sp (Cat.ju s.cat t).2.1.fs.length c].toArray).below;refine iO ?_
   (refine js 12 rfl (q:=?_))
   refine im ?_;refine gY ?_;exact WQ.meet g9 iW ⟨bf,vf.lt,vf.cell 2 iz⟩
 rintro g6 w3 ⟨b3,lg6,cd⟩;have h3:=h2.below b3;replace v3:=h_.below v3 b3 l3;replace v4:=h_.below v4 b3 l4;have bw:=b2.iR b3;have z3:=b3.size;have c1:=h3.pM.cell 1 iz;simp only[ax,al] at c1;have Nb:=h3.lt vb (.inl h3.tG);have l3':=h_.lt v3;have l4':=h_.lt v4;clear c0 k30 h2 b2 b3 l3 l4 tZ;have pK:kQ s (t,d)=if Gn s t=true then(match(Vw.of s.rows (t,d)).getLast? with|some r=>if r.del=false /\ r.gone=false then some r else none|none=>none) else none:=rfl
 have hop:Gn s t=(decide ((Cat.ju s.cat t).2.2=0) && !(Cat.ju s.cat t).2.1.dropped):=rfl;rw[hop] at pK;generalize (Cat.ju s.cat t).2.2=code at pK ⊢;generalize (Cat.ju s.cat t).2.1.dropped=dr at pK cd;clear hop;have u7:∀ {wx:World},iB w3 wx -> (Instr.lookup 127 (.map (some mr)) (lR (t,d)) false).run prog wx=.ok ((F (t,d)).getD (.slice none 0 0)) wx:=fun hx=>(h3.below hx).T8 ht hd;have kU:=h3.jt (t,d);generalize (F (t,d)).getD (.slice none 0 0)=sv at u7 kU;generalize Vw.of s.rows (t,d)=L at kU pK;obtain⟨sp,cap,rfl,pY,qB,-⟩:=id kU;refine gY ?_;refine WC.drawn 6 (iB w3) fun wa jh=>?_;have hS:iB w3 wa:=jh.below _;clear jh;refine iq [0,1,2] hS ?_;refine ik 3 [5,6] (jZ Nb c1) hS ?_;refine jG 4 [5,6] (fun wx hx=>h_.rangeAt (h_.below v3 hx l3')) hS ?_;refine WD.look 5 [6] rfl (by kernel_rfl) rfl rfl (fun _ _ _ _ _ h=>h) rfl rfl rfl rfl (fun wx hx=>u7 hx) hS ?_;refine iI 6 ?_;refine iA ?_;refine iO ?_;refine im ?_;have RF:=h_.below v4 hS l4';have l4a:=h_.lt RF;have cda:=(hS.cell (p:=⟨g6,2,none⟩) lg6).trans cd;have ba:=bw.iR hS;have Io:=(mD (fun _=>True) 0 wa).one;have za:=hS.size;have none_:∀ {cs:List Value},cs=jQ jf iy -> kQ s (t,d)=none -> FK w D (f+1) (kQ s (t,d)) (.returned (.tuple #[.agg cs.toArray,.bool false])) (wa.setRow g4 cs.toArray):=fun {cs} hc hn=>by
  subst hc;rw[hn];exact⟨(Cr.kC (K:=fun x=>x<w.heap.size) (g:=g4) (ib.ic ba) (fun hh=>by omega) _).below,jf,iy,false,rfl,mD _ _ _,anF,DQ _,rfl⟩
 by_cases hc:code=0
 case neg=>
  rw[decide_eq_false hc] at pK;refine iu ?_;refine iE (jQ jf iy) xj ?_;refine ir RF (lF Io) ?_;refine gY ?_;exact WQ.vF rfl rfl rfl rfl rfl (h_.setRow RF _) (none_ rfl pK)
 case pos=>
 rw[decide_eq_true hc] at pK;cases dr with
 | true=>
  refine iu ?_;refine iE (jQ jf iy) xj ?_;refine ir RF (lF Io) ?_;refine gY ?_;exact WQ.vF rfl rfl rfl rfl rfl (h_.setRow RF _) (none_ rfl pK)
 | false=>
 by_cases HP:L.length=0
 case pos=>
  obtain rfl:L=[]:=bj HP;refine iu ?_;refine iE (jQ jf iy) xj ?_;refine ir RF (lF Io) ?_;refine gY ?_;exact WQ.vF rfl rfl rfl rfl rfl (h_.setRow RF _) (none_ rfl pK)
 case neg=>
 have hi:L.length - 1<L.length:=gZ;have qW:L.getLast? = some (L.getD (L.length - 1) jf):=by rw[fJ,ag,ah hi];rfl
 rw[qW] at pK;obtain⟨b9,o9,pr,CZ,es,qU,-,R9,p5,Da,sm9⟩:=mw kU hi;obtain⟨rfl,rfl⟩:sp=some ⟨b9,o9,none⟩ /\ cap=pr:=by simpa using es
 clear es;generalize L.getD (L.length - 1) jf=r at R9 p5 Da sm9 pK;have R9a:=R9.below (ib.ic hS) qU;have x3:=R9a.all;have j7:=p5.len;refine iu ?_;refine iG (hz:=gZ) (L.length - 1) (o9+(L.length - 1)*14) hi ?_;refine ig x3 (jO j7) ?_;refine ix (z:=.agg (jQ jf iy).toArray) (fun _=>by kernel_rfl) fun g9 w4 f4=>?_;refine ir (hm:=(jO j7)) f4.blk (lF p5.one) ?_;obtain⟨v9,b9',-,q9⟩:=mh (jQ r CZ) (Below.refl wa.heap.size wa) f4;generalize w4.setRow g9 _=w5 at v9 b9' ⊢;clear f4;have l9:=h_.lt v9;have v45:=h_.below RF b9' l4a;have A9:=p8.of (h_.rangeAt v9) j7;have z5:=b9'.size;have BY:=h3.lt;have fin:∀ {wx:World}{b:Bool},iB w5 wx -> (match kQ s (t,d) with|some r'=>r=r' /\ b=true|none=>b=false) -> FK w D (f+1) (kQ s (t,d)) (.returned (.tuple #[.agg (jQ r CZ).toArray,.bool b])) (wx.setRow g4 (jQ r CZ).toArray):=fun {wx b} hx hm=>by
  have kx:ib (fun x=>x≠g4) wx (wx.setRow g4 (jQ r CZ).toArray):=Cr.kC (ib.refl _ _) iz _;have b3x:=hS.trans ((b9'.trans (hx.mono z5)).mono za);refine⟨((ib.ic (bw.iR b3x)).trans (kx.mono fun x (hx:x<w.heap.size) e=>by omega)).below,r,CZ,b,rfl,?_,Da,sm9,hm⟩;exact p5.ij ((ib.ic b3x).mono (fun x (hx:x<w3.heap.size /\ x≠g4)=>hx.1) |>.trans (kx.mono fun x hx=>hx.2)) (fun x hx Hf=>⟨Hf,fun e=>by
   have:=h.lt x (.inr hx);omega⟩) (fun _ h=>h)
 have A9d:=A9.del;have A9g:=A9.gone;refine gY ?_;have g94:g9≠g4:=gZ;replace pK:kQ s (t,d)=if r.del=false /\ r.gone=false then some r else none:=pK
 clear A9d A9g;cases Ae:r.del with
 | true=>
  rw[Ae] at pK;refine WC.drawn 10 (fun wx=>h_ te wx g9 (jQ r CZ)) fun wb jh=>?_;have hB:iB w5 wb:=jh.below _;have hS:h_ te wb g9 (jQ r CZ):=h_.below v9 hB l9;clear jh;have Qm:=h_.below v45 hB (h_.lt v45);refine jG (hm:=(jO j7)) 0 [9,10] (fun wx hx=>h_.rangeAt hx) hS ?_;refine iq [1] hS ?_;refine ik 2 [3,4,5,6,7,8,9,10] (fun wx hx=>(p8.of (h_.rangeAt hx) j7).del.trans (by rw[Ae])) hS ?_;refine iq [3,4,5] hS ?_;refine iq [6] hS ?_;refine iq [7,8] hS ?_;refine iI 9 ?_;refine ir (hm:=(jO j7)) Qm (lF p5.one) ?_;refine WL.nil (WQ.dk (.inr (hS.ij (Cr.kC (K:=fun x=>x≠g4) (ib.refl _ _) iz _) g94)) ?_);refine iI 10 ?_;refine iA ?_;refine iO ?_;refine im ?_;refine gY ?_;refine WQ.vF rfl rfl rfl (congrArg some (jO j7)).symm rfl (h_.setRow Qm _) (fin hB ?_);rw[pK]
  rfl
 | false=>
  rw[Ae] at pK;refine WC.drawn 10 (fun wx=>h_ te wx g9 (jQ r CZ)) fun wb jh=>?_;have hB:iB w5 wb:=jh.below _;have hS:h_ te wb g9 (jQ r CZ):=h_.below v9 hB l9;clear jh;generalize IN:r.gone=gn at pK;have Qm:=h_.below v45 hB (h_.lt v45);refine jG (hm:=(jO j7)) 0 [9,10] (fun wx hx=>h_.rangeAt hx) hS ?_;refine iq [1] hS ?_;refine ik 2 [3,4,5,6,7,8,9,10] (fun wx hx=>(p8.of (h_.rangeAt hx) j7).del.trans (by rw[Ae])) hS ?_;refine iq [3,4,5] hS ?_;refine ik 6 [7,8,10] (fun wx hx=>(p8.of (h_.rangeAt hx) j7).gone.trans (by rw[IN])) hS ?_;refine iq [7,8] hS ?_;refine iI 9 ?_;refine ir (hm:=(jO j7)) Qm (lF p5.one) ?_;refine WL.nil (WQ.dk (.inr (hS.ij (Cr.kC (K:=fun x=>x≠g4) (ib.refl _ _) iz _) g94)) ?_);refine iI 10 ?_;refine iA ?_;refine iO ?_;refine im ?_;refine gY ?_;refine WQ.vF rfl rfl rfl (congrArg some (jO j7)).symm rfl (h_.setRow Qm _) (fin hB ?_);rw[pK];cases gn
  ·exact⟨rfl,rfl⟩
  ·rfl
end Vw
end Go.Proofs.YtlenklobbngopaaGreat
