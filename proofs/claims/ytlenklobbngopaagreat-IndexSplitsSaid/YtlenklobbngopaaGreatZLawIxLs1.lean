/-
  For every row of rows of acts, every name and every value the law IndexSplits answers true, and the arguments read as they did. No condition.
-/
import Derived.Test.YtlenklobbngopaaGreatZIxB11
set_option maxHeartbeats 64000000
set_option maxRecDepth 100000
set_option linter.all false
namespace Go.Proofs.YtlenklobbngopaaGreat
open _root_.Go.Proofs.Tryz
open Go.RowKit Go.Maps
variable {m:V}{f:ByteArray}{w:World}{O:Nat -> Prop}{l:List Int}
namespace Ix
open Tre K
theorem QB {m:Ky}(hm:C9 m=false):∀ {L:List KV},qc L -> oh ⟨#[]⟩ m L++oh m ⟨#[]⟩ L=L
 | [],_=>rfl
 | e :: r,hs=>by
  have ih:=QB hm (L:=r) (bH.1 hs).2;have i1:∀x:KV,zh ⟨#[]⟩ m x=kl x.1 m:=fun x=>by unfold zh;rw[KW,hm];rfl
  have i2:∀x:KV,zh m ⟨#[]⟩ x = !kl x.1 m:=fun x=>by unfold zh;rw[F2];simp
  have Om:∀f t,oh f t (e :: r)=if zh f t e then e :: oh f t r else oh f t r:=fun f t=>by unfold oh;rw[cA]
  cases Sq:kl e.1 m with
  | true=>rw[Om,Om,i1,i2,Sq,if_pos rfl,if_neg iz,aT,ih]
  | false=>
   have j8:∀x∈r,kl x.1 m=false:=fun x hx=>by
    cases hxm:kl x.1 m with
    | false=>rfl
    | true=>rw[tH ((bH.1 hs).1 x hx) hxm] at Sq;exact Sq
   have h1:oh ⟨#[]⟩ m r=[]:=by
    unfold oh;rw[cz];intro x hx;rw[i1,j8 x hx];simp
   rw[h1,aH] at ih;rw[Om,Om,i1,i2,Sq,if_neg iz,if_pos (by rfl),h1,ih,aH]
theorem Iy (l:List KV): oh ⟨#[]⟩ ⟨#[]⟩ l=l:=by
 unfold oh;rw[dm];intro e _;unfold zh;rw[KW,F2];rfl
theorem aie: um zV=⟨#[]⟩:=by unfold um;rw[if_neg j9]
theorem afg {X:yA}{t:Int}(hm:chk 16 m=0) (hs:∀x,X (t,f)=some x -> qc x.L): vX X t f zV m++vX X t f m zV=vX X t f zV zV:=by
 unfold vX;cases h:X (t,f) with
 | none=>rfl
 | some x=>
  simp only
  have he:C9 (um m)=false:=by unfold um;rw[if_pos hm];exact OF hm
  rw[aie,<- aK,QB he (hs x h),Iy]
theorem ahn {X:yA}{t:Int}{f:ByteArray}:(vX X t f zV zV).length=(match X (t,f) with|some x=>x.L.length|none=>0):=by
 unfold vX;cases X (t,f) with
 | none=>rfl
 | some x=>simp only;rw[aie,Iy,av]
theorem Vm {X:yA}{t:Int}{u v:V}(h:∀x t,X x=some t -> t.L.length <= 1000000): (vX X t f u v).length <= 1000000:=by
 unfold vX;cases e:X (t,f) with
 | none=>exact aw _
 | some x=>simp only;rw[av];exact aU (cY ..) (h _ x e)
end Ix
namespace Ix
open K
open Vw (Ac wT ou oW HM BN Jj r_ zU)
theorem acL: lK prog 35 3 1 8:=lK.mk' (z:=Iq 0) underlying35 (by kernel_rfl) rfl gZ
theorem SE {v:Value}(h:lA 1 0 Fl O w v l): n_ w O 1 v l.length (l.map (Value.int .i64)):=by
 obtain⟨sp,cap,rfl,h1,h2,h3,h4⟩:=h;refine⟨iz,fun u hu=>?_,sp,cap,rfl,h1,h2,h3,fun h0=>?_⟩
 ·obtain⟨x,-,rfl⟩:=bg.1 hu
  rfl
 ·obtain⟨b,o,rfl,hb,hO,hr⟩:=h4 h0
  refine⟨b,o,rfl,hb,hO,fun j hj=>?_⟩;rw[av] at hj;obtain⟨cs,-,hp,hc⟩:=hr j hj;rw[show cs=[Iq (l.getD j 0)] from hp] at hc;have:=hc 0 _ rfl;rw[cP,dX] at this;rw[this,ag,ag,cD,ah hj]
  rfl
theorem Md:∀l:List Int,(l.map fun x=>[Value.int .i64 x]).flatten=l.map (Value.int .i64)
 | []=>rfl
 | a :: r=>by simp only[aM,dK,Md r,aT,aH]
theorem ox {v:Value}{n:Nat}(h:iK 3 1 w O v n (l.map (Value.int .i64))) (hn:n=l.length): lA 1 0 Fl O w v l:=by
 subst hn;refine jk.jt (e:=3) ⟨l.map fun x=>[Iq x],iz,fun j hj=>?_,?_⟩
 ·rw[ag,cD,ah hj,ag,ah hj]
  exact⟨rfl,rfl⟩
 ·rw[show(l.map fun x=>[Value.int .i64 x]).flatten=l.map (Value.int .i64) from Md l]
  exact h
theorem ad4 (LL:List (List Ac)): ∀i,HM (LL.take i) <= HM LL:=fun i=>by
 rcases aO i LL.length with h|h
 ·obtain⟨d,hd⟩:∃d,d=LL.length - i:=⟨_,rfl⟩
  induction d generalizing i with
  | zero=>omega
  | succ d ih=>
   have h1:=BN LL h;rcases aO (i+1) LL.length with h2|h2
   ·have:=ih (i+1) h2 gZ;omega
   ·rw[bC h2] at h1;omega
 ·rw[bC h];exact af _
theorem PF {f g:Nat}{v:Value}{LL:List (List Ac)}(h0:oW (fun b=>b<w.heap.size) (f+1) w v LL) (KZ:LL.length <= 140737488355328) {cs:List Value}(hv:kH g w m cs) (hm:o_ g m) (s:ByteArray) (hs:s.size <= 140737488355328):
  Calls prog 4 #[v,.string s,.agg cs.toArray] w fun e w'=>e=.returned (.bool true) /\ iB w w':=by
 obtain⟨g,rfl⟩:∃k,g=k+1:=by
  cases g with
  | zero=>exact hv.elim
  | succ g=>exact⟨g,rfl⟩
 have h:=h0.more (show f+1 <= f+2 by omega);clear h0;have pY:=hv.len;obtain⟨Dt,Ao,rfl,tC,rO,Cg,ji⟩:=id h;refine iY (args:=[.slice Dt LL.length Ao,.string s,.agg cs.toArray]) func4 ntmps4 ?_;refine ku ?_;refine iC fun g1 w1 nh=>?_;have v1:h_ IL w1 g1 cs:=nh.blk;have b1:=nh.below;have e1:=nh.eq;have s1:=nh.size;clear nh;refine gY ?_;refine ix (z:=Iq 0) (fun _=>by kernel_rfl) fun To w3 tS=>?_;have Bp:h_ 3 w3 To [Iq 0]:=tS.blk;have e3:=tS.eq;have mG:=b1.iR tS.below;have B1:=h_.below v1 tS.below (h_.lt v1);have uK:w.heap.size <= To:=by have:=b1.size;omega
 have qD:g1≠To:=gZ;clear tS v1 b1;refine gY ?_;refine iD (v:=Iq 0) (Bp.cell 0 iz) (Bp.free 0) ?_;have RM:h_ 3 (w3.setCell ⟨To,0,none⟩ (Iq 0)) To [Iq 0]:=Bp.set 0 (Iq 0);have He:h_ IL (w3.setCell ⟨To,0,none⟩ (Iq 0)) g1 cs:=B1.other _ _ qD;have nR:iB w (w3.setCell ⟨To,0,none⟩ (Iq 0)):=ib.below ((ib.ic mG).setCell (fun hk=>by simp only at hk;omega) _);generalize w3.setCell ⟨To,0,none⟩ (Iq 0)=w4 at RM He nR;clear B1 Bp mG;refine gY ?_;refine WL.call rfl rfl rfl rfl rfl func14 rfl (by kernel_rfl) (Jj (h.below nR)) ?_;rintro _ w5 ⟨b5,hb,rfl,adW⟩;refine⟨_,rfl,?_⟩;have nY:=nR.iR b5;have Bp5:=h_.below RM b5 (h_.lt RM);have RH:=h_.below He b5 (h_.lt He);clear He RM;cases hb with
 | true=>
  refine gY ?_;refine WL.call rfl rfl rfl rfl rfl func13 rfl (by kernel_rfl) vD ?_;rintro _ w2 ⟨rfl,b2⟩;refine⟨_,rfl,?_⟩;refine gY ?_;exact g_ ⟨rfl,nY.iR b2⟩
 | false=>
 obtain⟨awj,awB,iS⟩:=adW rfl;refine gY ?_;refine ig (h_.rangeAt RH) pY ?_;refine WL.on rfl rfl ?_;refine WL.call rfl rfl rfl rfl rfl func7 rfl (by kernel_rfl) (vU (n:=0) (g+1) hv hm nY uK Bp5 gZ) ?_;rintro _ w6 ⟨rfl,-,m5⟩;refine⟨_,rfl,?_⟩;have vL:=nY.trans (ib.below (ib.mono m5 fun b (hb:b<w.heap.size)=>⟨ak hb nY.size,gZ⟩));have SX:=RH.ij m5 ⟨RH.lt,qD⟩;clear Bp5 RH m5
 by_cases lL:2000<grt 2000 (g+1) m 0
 ·refine gY ?_
  refine WL.call rfl rfl rfl rfl rfl func13 rfl (by kernel_rfl) vD ?_;rintro _ w2 ⟨rfl,b2⟩;refine⟨_,rfl,?_⟩;refine gY ?_;exact g_ ⟨rfl,vL.iR b2⟩
 have jU:=SS hm lL
 by_cases pS:(100:Int)<s.size
 ·refine gY ?_
  refine WL.call rfl rfl rfl rfl rfl func13 rfl (by kernel_rfl) vD ?_;rintro _ w2 ⟨rfl,b2⟩;refine⟨_,rfl,?_⟩;refine gY ?_;exact g_ ⟨rfl,vL.iR b2⟩
 refine gY ?_;refine WL.call rfl rfl rfl rfl rfl func15 rfl (by kernel_rfl) (KS (k:=f)) ?_;rintro _ w7 ⟨pb,vb,sb,rb,mb,n0,S0,M0,D0,M0',D0',X0,rfl,hT7,HP,b7⟩;refine⟨_,rfl,?_⟩;have Lq:=h_.lt SX;have Tz:=h_.below SX b7 Lq;have c7:=vL.iR b7;have z6:=vL.size;have z7:=b7.size;generalize w6.heap.size=B at hT7 Lq b7 z6 z7;clear SX b5 b7;refine gY ?_;refine WC.loop (fun i:Nat=>[(0,.slice Dt LL.length Ao),(1,.string s),(5,iF g1),(8,iF pb),(10,Iq i)])
  (fun i wx=>i <= LL.length /\ B <= wx.heap.size /\ iB w wx /\ h_ IL wx g1 cs /\ ∃n S M D M' D' st X,EX B wx pb vb sb rb mb n S M D M' D' f st X (4*HM (LL.take i)+4*i) /\ n <= 1024+1024*i) (fun i=>LL.length - i) 0 iW
  ⟨aw _,z7,c7,Tz,n0,S0,M0,D0,M0',D0',r_,X0,hT7,HP⟩ ?_
 clear hT7 c7 Tz z7;rintro i wl ⟨hi,zB,bl,B1,n,S,M,D,M',D',st,X,hT,hn⟩;have ltP:=hT.p.lt;have OK:=hT.r.lt;have ZR:=hT.set.nB.lt;have lp:=h_.lt hT.blk
 by_cases je:i<LL.length
 case pos=>
  have zl:=bl.size;obtain⟨bq,oq,rfl,hbq,hOq,kA⟩:=ji gZ;obtain⟨cs1,-,⟨u,rfl,hu⟩,j6⟩:=kA i je;have EW:=BN LL je;have htl:=ad4 LL (i+1);have hlL:∀x∈LL.getD i [],wT (f+2) x:=iS _ (by rw[ag,ah je];exact aN je);generalize LL.getD i []=L at hu EW hlL;have NL:=(bl.cell (p:=⟨bq,oq+i*1,none⟩) hbq).trans (j6 0 _ rfl);obtain⟨spu,ai1,rfl,-⟩:=id hu;refine iu ?_;refine iG i (oq+i*1) je ?_;refine iu ?_;refine WL.call rfl rfl rfl rfl rfl func16 rfl (by kernel_rfl) (M_ hT zB gZ (E:=fun b=>b<w.heap.size) (fun x hx=>⟨gZ,fun q=>by have:=(hT.sm x q).1;omega,fun q=>by have:=(hT.mm x q).1;omega,fun q=>by have:=(hT.rm x q).1;omega⟩) (hu.below bl) hlL gZ gZ) ?_;rintro _ w8 ⟨rfl,⟨n1,S1,M1,D1,M2,D2,X1,Cw,Cd⟩,k8⟩;refine⟨_,rfl,?_⟩;have b8:=hT.old zB k8;have z8:=k8.size;refine gY ?_;exact WQ.again (i+1) iW ⟨je,gZ,bl.trans (b8.mono z6),h_.below B1 b8 Lq,n1,S1,M1,D1,M2,D2,_,X1,Cw.mono gZ gZ,gZ⟩ gZ
 case neg=>
 clear ji hn iS adW;have d1:=hT.blk.cell 1 iz;have d2:=hT.blk.cell 2 iz;simp only[ax,al] at d1 d2;obtain⟨rcp,rOc,rv,mb',rk,rr⟩:=id hT.r;obtain⟨tv,cells,Cl⟩:=id rr.cat;have d0:=rr.vb.cell 0 iz;simp only[al] at d0;have qd:=rr.lt rb (.inl rr.tR);have acW:=Cl.lt rcp Cl.rc;have Ou:=Cl.nk.len;have e0:=Cl.vb.cell 0 iz;simp only[al] at e0;obtain⟨spt,cpt,rfl⟩:∃spt cpt,tv=.slice spt st.cat.length cpt:=by
  obtain⟨-,-,x1,x2,x3,-⟩:=Cl.own.DC;exact⟨x1,x2,x3⟩
 have akZ:=rr.cat;clear Cl rr;refine gY ?_;refine WC.loop (fun t:Nat=>[(1,.string s),(5,iF g1),(8,iF pb),(11,Iq t)]) (fun t wx=>1 <= t /\ t <= st.cat.length+1 /\ iB wl wx) (fun t=>st.cat.length+1 - t) 1 iW ⟨af _,gZ,Below.refl _ _⟩ ?_;rintro t wt ⟨Gs,Hu,bt⟩;have d2t:=(bt.cell (p:=⟨pb,2,none⟩) lp).trans d2;have d1t:=(bt.cell (p:=⟨pb,1,none⟩) lp).trans d1;have d0t:=(bt.cell (p:=⟨rb,0,none⟩) qd).trans d0;have e0t:=(bt.cell (p:=⟨rcp,0,none⟩) acW).trans e0;have blt:=bl.iR bt
 by_cases htl:t <= st.cat.length
 case neg=>
  refine iu ?_;refine WL.call rfl rfl rfl rfl rfl func13 rfl (by kernel_rfl) vD ?_;rintro _ wk ⟨rfl,bk⟩;refine⟨_,rfl,?_⟩;refine gY ?_;exact g_ ⟨rfl,blt.iR bk⟩
 case pos=>
 have kK:Cat.sM ((t:Int),s):=⟨Vw.zW ⟨gZ,gZ⟩,by show s.size <= maxLen;unfold maxLen;omega⟩;have Cw:=hT.below bt;have OE:∀x,X ((t:Int),s)=some x -> Tre.qc x.L:=fun x e=>(hT.set.nB.is _ x e).2.uC;have aje:(X ((t:Int),s)).isSome=Cat.has st.cat t s:=hT.has _;have B1t:=h_.below B1 bt (h_.lt B1);have lB1:=h_.lt B1t;have lpt:=ak lp bt.size;have zt:=bt.size;refine iu ?_;refine iE iy Ai ?_;refine iu ?_;refine iE iy Ai ?_;refine iu ?_;refine WL.call rfl rfl rfl rfl rfl func10 rfl (by kernel_rfl) (wW Cw.set Cw.len kK (mD (fun _=>True) g wt).td (mD (fun _=>True) g wt).td ET ET) ?_;rintro _ wa ⟨ba,va,rfl,Oi⟩;refine⟨_,rfl,?_⟩;have za:=ba.size;refine gY ?_;refine WC.drawn 8 (iB wa) fun wx1 jh=>?_;have hS:iB wa wx1:=jh.below _;clear jh;refine iq [0,1,2] hS ?_;refine ik 3 [8,9,10,11,12,13] (fun wx hx=>((ba.trans (hx.mono za)).cell (p:=⟨pb,1,none⟩) lpt).trans d1t) hS ?_;refine iq [4,5] hS ?_;refine WD.build iy 6 rfl (by kernel_rfl) rfl rfl (fun _ _ _ _ _ h=>h) rfl rfl rfl Ai (.inr hS) ?_;refine jG (hm:=pY) 7 [8,9,10,11,12,13] (fun wx hx=>h_.rangeAt (h_.below B1t (ba.trans (hx.mono za)) lB1)) hS ?_;refine iI 8 ?_;have c1:=ba.trans (hS.mono za);have hE:=Cw.below c1;refine WL.call rfl rfl rfl rfl rfl func10 rfl (by kernel_rfl) (wW hE.set hE.len kK (mD (fun _=>True) g wx1).td (hv.below (blt.iR c1)) ET jU) ?_;rintro _ wb ⟨bb,vb1,rfl,elb⟩;refine⟨_,rfl,?_⟩;have tK:=hS.iR bb;refine iO ?_
 (refine js 9 rfl (q:=?_);refine js 10 rfl (q:=?_);refine js 11 rfl (q:=?_);refine js 12 rfl (q:=?_);refine js 13 rfl (q:=?_))
 refine im ?_;have c2:=ba.trans (tK.mono za);have z2:=c2.size;replace Oi:=Oi.ij (ib.ic tK) (fun _ _ hl=>hl) (fun _ h=>h) (fun _ _ h=>h);clear hE hS c1;refine gY ?_;refine WC.drawn 8 (iB wb) fun wx2 jh=>?_;have hS:iB wb wx2:=jh.below _;clear jh;refine iq [0,1,2] hS ?_;refine ik 3 [8,9,10,11,12,13] (fun wx hx=>((c2.trans (hx.mono z2)).cell (p:=⟨pb,1,none⟩) lpt).trans d1t) hS ?_;refine iq [4,5] hS ?_;refine jG (hm:=pY) 6 [8,9,10,11,12,13] (fun wx hx=>h_.rangeAt (h_.below B1t (c2.trans (hx.mono z2)) lB1)) hS ?_;refine WD.build iy 7 rfl (by kernel_rfl) rfl rfl (fun _ _ _ _ _ h=>h) rfl rfl rfl Ai (.inr hS) ?_;refine iI 8 ?_;have c3:=c2.trans (hS.mono z2);have hE:=Cw.below c3;refine WL.call rfl rfl rfl rfl rfl func10 rfl (by kernel_rfl) (wW hE.set hE.len kK (hv.below (blt.iR c3)) (mD (fun _=>True) g wx2).td jU ET) ?_;rintro _ wc ⟨bc,vc,rfl,elc⟩;refine⟨_,rfl,?_⟩;have uJ:=hS.iR bc;refine iO ?_
 (refine js 9 rfl (q:=?_);refine js 10 rfl (q:=?_);refine js 11 rfl (q:=?_);refine js 12 rfl (q:=?_);refine js 13 rfl (q:=?_))
 refine im ?_;have c4:=c2.trans (uJ.mono z2);have z4:=c4.size;replace Oi:=Oi.ij (ib.ic uJ) (fun _ _ hl=>hl) (fun _ h=>h) (fun _ _ h=>h);replace elb:=elb.ij (ib.ic uJ) (fun _ _ hl=>hl) (fun _ h=>h) (fun _ _ h=>h);clear hE hS c3 c2 z2 uJ tK bb bc;have f2:=(c4.cell (p:=⟨pb,2,none⟩) lpt).trans d2t;have f1:=(c4.cell (p:=⟨pb,1,none⟩) lpt).trans d1t;have f0:=(c4.cell (p:=⟨rb,0,none⟩) (ak qd zt)).trans d0t;have hT4:=Cw.below c4;have He:=h_.below B1t c4 lB1;have b4:=blt.iR c4;have arB:=(akZ.below bt).below c4;have Xa:chk 16 m=0 -> vX X (t:Int) s zV m++vX X (t:Int) s m zV=vX X (t:Int) s zV zV:=fun hc=>afg hc OE;have wO:=fun(wx:World) (hb:iB wc wx)=>(MS (hT4.below hb).set kK).mono fun e w' q=>(⟨q.1.trans (congrArg (fun k:Nat=>Ending.returned (Iq (k:Int))) ahn.symm),q.2⟩:e=.returned (Iq (((vX X (t:Int) s zV zV).length:Nat):Int)) /\ w'=wx);have qW:=Vm (X:=X) (t:=(t:Int)) (f:=s) (u:=zV) (v:=zV) hT.len;have hlb:=Vm (X:=X) (t:=(t:Int)) (f:=s) (u:=zV) (v:=m) hT.len;have Zv:=Vm (X:=X) (t:=(t:Int)) (f:=s) (u:=m) (v:=zV) hT.len;generalize vX X (t:Int) s zV zV=la at Oi Xa wO qW;generalize vX X (t:Int) s zV m=lb at elb Xa hlb;generalize vX X (t:Int) s m zV=lc at elc Xa Zv;obtain⟨spa,cpa,rfl,-⟩:=id Oi;generalize (X ((t:Int),s)).isSome=bb at aje ⊢;cases bb
 all_goals
  refine iu ?_;refine WL.call rfl rfl rfl rfl rfl func17 rfl (by kernel_rfl) (Cr.Ni arB _ _) ?_;rintro _ _ ⟨rfl,rfl⟩;refine⟨_,rfl,?_⟩;rw[<- aje];refine iu ?_;refine ig (h_.rangeAt He) pY ?_;refine gY ?_;refine WL.call rfl rfl rfl rfl rfl func18 rfl (by kernel_rfl) (Gu (hv.below b4)) ?_;rintro _ w9 ⟨rfl,b9⟩;refine⟨_,rfl,?_⟩
  by_cases hc:chk 16 m=0
  case' pos=>
   refine gY ?_;refine WL.empty rfl rfl rfl rfl rfl fun AU qZ f10=>?_;have D8:=f10.below;have e10:=f10.eq;have o10:iK 3 1 qZ (fun b=>w9.heap.size <= b) (.slice (some ⟨AU,0,none⟩) 0 0) 0 []:=Cr.iK.fresh f10 (fun _ h=>(aR h).elim) rfl gZ gZ;have q1:=elb.ij (ib.ic (b9.iR D8)) (fun _ _ hl=>hl) (fun _ h=>h) (fun _ _ h=>h);clear f10;refine gY ?_;refine WL.qO rfl rfl rfl rfl acL rfl o10 rfl (SE q1) gZ gZ fun v11 Tl o11 ab7=>?_;have Qd:∀x,(Value.slice (some ⟨AU,0,none⟩) 0 0).ownBlock=some x -> w9.heap.size <= x:=fun x hx=>by cases hx;exact Nat.le_of_eq e10.symm
   have KY:=D8.trans (ab7.old D8.size Qd);have q2:=elc.ij (ib.ic (b9.iR KY)) (fun _ _ hl=>hl) (fun _ h=>h) (fun _ _ h=>h);have p11:=ab7.own D8.size Qd;refine gY ?_;refine WL.qO rfl rfl rfl rfl acL rfl o11 rfl (SE q2) gZ gZ fun Qo UG o12 aiC=>?_;have zN:=KY.trans (aiC.old KY.size p11);rw[aH,<- aK] at o12;have x12:=ox o12 (by rw[aa];omega);refine gY ?_;refine WL.call rfl rfl rfl rfl rfl func19 rfl (by kernel_rfl) (FA x12 (Oi.ij (ib.ic (b9.iR zN)) (fun _ _ hl=>hl) (fun _ h=>h) (fun _ _ h=>h))) ?_;rintro _ Jv ⟨rfl,wj⟩;refine⟨_,rfl,?_⟩;have byy:=zN.iR wj;rw[decide_eq_true (Xa hc)];clear o10 q1 o11 ab7 Qd KY q2 p11 o12 aiC zN x12 wj D8
  case' neg=>
   have byy:iB w9 w9:=Below.refl _ _
  all_goals
   have by2:=b9.iR byy;have f1y:=(by2.cell (p:=⟨pb,1,none⟩) (ak lpt z4)).trans f1;refine iu ?_;refine WL.call rfl rfl rfl rfl rfl func12 rfl (by kernel_rfl) (wO _ by2) ?_;rintro _ _ ⟨rfl,rfl⟩;refine⟨_,rfl,?_⟩;refine gY ?_;exact WQ.again (t+1) iW ⟨gZ,gZ,bt.trans ((c4.trans (by2.mono z4)).mono zt)⟩ gZ
end Ix
end Go.Proofs.YtlenklobbngopaaGreat
namespace Go.Proofs.YtlenklobbngopaaGreat.indexSplits
open _root_.Go.Proofs.Tryz
open Go.ChangeShapes Go.WideShapes Go.ChangeAt Go.RowKit
open Go.ChangeMaps (open_string shut_string)
open Go.Proofs.YtlenklobbngopaaGreat
theorem lifted (os:Os) (started:os.Started) (H:Type) (enc:TypeId × Value -> H):
  ReturnsInHanded {} Tryz.checked os 4 .any (Rows.indexSplitsSpec.pre6 enc prog Tryz.f4 Rows.indexSplitsRow.domain false) (Rows.indexSplitsSpec.post enc prog Tryz.f4 false true false false):=by
 refine eV (C:=Tryz.checked) Tryz.ownKnob started (by kernel_rfl) func4
  (ChangeSpec.witness6 (enc:=enc) (C:=Tryz.checked) false ⟨#[],#[.slice none 0 0,.string ByteArray.empty,.agg #[Iq 0,Iq 0,Iq 0,.string ByteArray.empty,.slice none 0 0,.slice none 0 0]],[]⟩ 8 (by kernel_rfl) (by kernel_rfl) (by kernel_rfl) (by kernel_rfl)) ?_
 intro W base args ds gs before Ik hW apJ j5 _;have xd:∀(j:Nat) t v,Tryz.f4.params[j]? = some t -> args[j]? = some v -> Value.okWide prog W .any base t v:=Ik;have hW':=hW;obtain⟨p,q,hA0,hV,rfl,hfz,zf⟩:=hW;have hA:DataW.TrodAll enc prog W 0 (fun _=>true) true Tryz.f4.params.toList args.toList ds p:=hA0;rw[Tryz.params4] at hA xd;obtain⟨v0,vs0,d0,ds0,p0,q0,ajJ,rfl,rfl,h0,r0⟩:=trodAll_cons hA;obtain⟨v1,vs1,d1,ds1,p1,q1,rfl,rfl,rfl,h1,r1⟩:=trodAll_cons r0;obtain⟨v2,vs2,d2,ds2,p2,q2,rfl,rfl,rfl,h2,r2⟩:=trodAll_cons r1;obtain⟨rfl,rfl,rfl⟩:=trodAll_nil r2;obtain rfl:args=#[v0,v1,v2]:=by cases args;simp_all
 obtain⟨rfl,rfl⟩:=trodVars_none hV;have k0:=h0;have lt0:∀x∈p0,x.block<W.heap.size:=by obtain⟨m,hm⟩:=k0;exact DataW.trod_lt m _ _ _ hm
 obtain⟨f0,l0,is0,ln0⟩:=Vw.Qq (xd 0 43 v0 rfl rfl) h0 (fun n hn=>by have:=bT.1 j5 n (DataW.weights_mem_each (j:=0) rfl rfl n hn);simpa using this);have k1:=h1;have lt1:∀x∈p1,x.block<W.heap.size:=by obtain⟨m,hm⟩:=k1;exact DataW.trod_lt m _ _ _ hm
 obtain⟨s1,rfl,eq1,-,pS⟩:=open_string underlying9 (xd 1 9 v1 rfl rfl) h1;have k2:=h2;have lt2:∀x∈p2,x.block<W.heap.size:=by obtain⟨m,hm⟩:=k2;exact DataW.trod_lt m _ _ _ hm
 obtain⟨f2,x2,c2,rfl,iv2,sm2⟩:=K.Jd (xd 2 25 v2 rfl rfl) h2 (fun n hn=>by have:=bT.1 j5 n (DataW.weights_mem_each (j:=2) rfl rfl n hn);simpa using this);clear hA0 Ik;have z1:s1.size <= 140737488355328:=by
  have:=sized_string j5 (j:=1) rfl (congrArg some eq1);rw[bI] at this;exact aU this j9
 refine(Ix.PF is0 ln0 iv2 sm2 s1 z1).mono fun e W' ⟨he,RP⟩=>?_;subst he;exact⟨_,rfl,_,_,_,[],_,[],hW',trodAll_mk1 (shut_bool underlying4 _),(trodAll_cons_mk (Below.trod Tryz.laid (by kernel_rfl) (of_decide_eq_true (by kernel_rfl)) k0 RP lt0) (trodAll_cons_mk (Below.trod Tryz.laid (by kernel_rfl) (of_decide_eq_true (by kernel_rfl)) k1 RP lt1) (trodAll_cons_mk (Below.trod Tryz.laid (by kernel_rfl) (of_decide_eq_true (by kernel_rfl)) k2 RP lt2) trodAll_mk0))),rfl,RP.frame _,fun h=>by cases h⟩
theorem TC: Rows.indexSplitsRow.holds Tryz.pinned (OpenSpec.ofChange Rows.indexSplitsSpec) :=
 fY 4 Tryz.f4 rfl rfl rfl rfl rfl rfl rfl ⟨rfl,rfl,rfl,rfl,rfl⟩ rfl rfl rfl rfl rfl (by kernel_rfl) func4 (by kernel_rfl)
  (of_decide_eq_true (by kernel_rfl)) (by unfold Func.isWrapper;first|(rw[if_pos (by decide +kernel)];kernel_rfl)|(rw[if_neg (by decide +kernel)];exact⟨rfl,rfl⟩))
  (fun os started H enc _=>lifted os started H enc)
theorem proved: Rows.IndexSplitsSaid:=TC
end Go.Proofs.YtlenklobbngopaaGreat.indexSplits
