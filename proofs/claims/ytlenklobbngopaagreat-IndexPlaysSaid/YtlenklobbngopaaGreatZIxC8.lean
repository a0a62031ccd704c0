import Derived.Test.YtlenklobbngopaaGreatZIxC7
set_option maxHeartbeats 64000000
set_option maxRecDepth 100000
set_option linter.all false
namespace Go.Proofs.YtlenklobbngopaaGreat
open _root_.Go.Proofs.Tryz
open Go.RowKit Go.Maps
variable {w:World}{f i:Nat}{l:List V}
namespace Ix
open K
open Vw (Ac xn pW OD LP pI Kb zZ E9 nv GV ac4 uO qI)
theorem agk: prog.built vaT [(0,.int .i64 3),(1,.int .i64 5)]=some Rv.toArray:=by kernel_rfl
theorem agB: prog.built vaT [(0,.int .i64 4),(1,.int .i64 55),(2,.int .i64 1)]=some afL.toArray:=by kernel_rfl
theorem MS: prog.built vaT []=some jK.toArray:=by kernel_rfl
theorem bA1: prog.built Kb [(0,.int .i64 4),(5,.string ⟨#[116]⟩)]=some (pI E9 jK (km kQ jK)).toArray:=by kernel_rfl
theorem bA2: prog.built Kb [(0,.int .i64 6),(1,.int .i64 1),(5,.string ⟨#[97]⟩)]=some (pI It jK (km kQ jK)).toArray:=by kernel_rfl
def zo (sn sk:Value):List Value:=[.int .i64 9,.int .i64 0,.int .i64 0,.string ⟨#[]⟩,sn,sk]
theorem bA3 (sn sk:Value): prog.built Kb [(0,.int .i64 0),(1,.int .i64 1),(4,.agg (zo sn sk).toArray)]=some (pI FL (zo sn sk) (km kQ jK)).toArray:=by kernel_rfl
def jCs (a b c d:Value):List Value:=pI E9 jK (km kQ jK)++(pI It jK (km kQ jK)++(pI FL (zo a b) (km kQ jK)++pI O3 (zo c d) (km kQ jK)))
theorem aua (a b c d:Value): litCells prog Kb 4 [(0,.agg (pI E9 jK (km kQ jK)).toArray),(1,.agg (pI It jK (km kQ jK)).toArray),(2,.agg (pI FL (zo a b) (km kQ jK)).toArray),(3,.agg (pI FL (zo c d) (km kQ jK)).toArray)]=some (jCs a b c d).toArray:=by kernel_rfl
theorem aoI {g:Nat}{E:Nat->Prop}{a b c d:Value}(h:U Kb w g (jCs a b c d))(hg:E g)(hA:lz E (f+2) w dA (zo a b))(hB:lz E (f+2) w dB (zo c d)): pW E (f+2) w (.slice (some ⟨g,0,none⟩) 4 4) jL:=by
 have hr:=U.rangeAt h;have r1:w.rangeAt g (0+0) (pI E9 jK (km kQ jK)):=qI (a:=[]) (m:=pI E9 jK (km kQ jK)) (z:=pI It jK (km kQ jK)++(pI FL (zo a b) (km kQ jK)++pI O3 (zo c d) (km kQ jK))) hr;have r2:w.rangeAt g (0+57) (pI It jK (km kQ jK)):=qI (a:=pI E9 jK (km kQ jK)) (m:=pI It jK (km kQ jK)) (z:=pI FL (zo a b) (km kQ jK)++pI O3 (zo c d) (km kQ jK)) hr;have r3:w.rangeAt g (0+114) (pI FL (zo a b) (km kQ jK)):=qI (a:=pI E9 jK (km kQ jK)++pI It jK (km kQ jK)) (m:=pI FL (zo a b) (km kQ jK)) (z:=pI O3 (zo c d) (km kQ jK)) (by rw[av];exact hr);have r4:w.rangeAt g (0+171) (pI O3 (zo c d) (km kQ jK)):=qI (a:=pI E9 jK (km kQ jK)++(pI It jK (km kQ jK)++pI FL (zo a b) (km kQ jK))) (m:=pI O3 (zo c d) (km kQ jK)) (z:=[]) (by rw[aP,av,av];exact hr);have hz:∀x:Int,x=0\/x=1\/x=4\/x=6->lV x:=fun x hx=>by omega
 refine⟨some ⟨g,0,none⟩,4,rfl,by show 4<=4;omega,by omega,(fun h=>by cases h),fun _=>⟨g,0,rfl,h.lt,hg,fun j hj=>?_⟩⟩;have hj4:j<4:=hj
 match j,hj4 with
 | 0,_=>exact⟨_,rfl,⟨⟨jK,_,rfl,oe _ _ _,GJ _ _ _,⟨hz _ (.inr (.inr (.inl rfl))),hz _ (.inl rfl),hz _ (.inl rfl),hz _ (.inl rfl),by decide⟩⟩,Ip _,Ip _⟩,r1⟩
 | 1,_=>exact⟨_,rfl,⟨⟨jK,_,rfl,oe _ _ _,GJ _ _ _,⟨hz _ (.inr (.inr (.inr rfl))),hz _ (.inr (.inl rfl)),hz _ (.inl rfl),hz _ (.inl rfl),by decide⟩⟩,Ip _,Ip _⟩,r2⟩
 | 2,_=>exact⟨_,rfl,⟨⟨_,_,rfl,hA,GJ _ _ _,⟨hz _ (.inl rfl),hz _ (.inr (.inl rfl)),hz _ (.inl rfl),hz _ (.inl rfl),by decide⟩⟩,ahM (adG _ 3 5 0),Ip _⟩,r3⟩
 | 3,_=>exact⟨_,rfl,⟨⟨_,_,rfl,hB,GJ _ _ _,⟨hz _ (.inl rfl),hz _ (.inr (.inl rfl)),hz _ (.inl rfl),hz _ (.inl rfl),by decide⟩⟩,ahM (adG _ 4 55 1),Ip _⟩,r4⟩
theorem uD: Calls prog 13 #[] w fun r w'=>r=.returned (.bool true)/\Below w.heap.size w w':=by
 apply kq func13 ntmps13;apply G _;apply jx func15 (F2 (k:=0));rintro _ w1 ⟨pb,vb,sb,rb,mb,n,S,M,D,M',D',X,rfl,h1,hn,c1⟩;refine⟨_,rfl,?_⟩;have z1:=c1.size;have Sn:=h1.set.pC.lt;have ltM:=h1.p.lt;have J8:=h1.r.lt;apply G _;apply jR Rv agk;refine jJ (z:=.agg jK.toArray) (fun _=>jG) fun g4 w2 f2=>?_;apply jE f2.blk (Ia (fun _=>True) 0 w).one;obtain⟨v4,b2,-,e4⟩:=nv Rv (Below.refl w1.heap.size w1) f2;generalize w2.setRow g4 _=w3 at v4 b2 ⊢;clear f2;have z3:=b2.size;apply G _;apply jR (pI E9 jK (km kQ jK)) bA1;apply jR (pI It jK (km kQ jK)) bA2;apply G _;apply jy (m:=6) (U.rangeAt v4) rfl;refine WL.Ai (cs:=[]) rfl rfl rfl rfl rfl rfl func37 rfl (by kernel_rfl) (U7 (Ia (fun _=>False) 0 w3) (fun _ h=>h.elim)) ?_;rintro _ w5 ⟨cs,rfl,hA,b5⟩;refine⟨_,rfl,?_⟩;obtain⟨a1,a2,rfl,-⟩:=id hA;apply jR (pI FL (zo a1 a2) (km kQ jK)) (bA3 a1 a2);apply G _;apply jR afL agB;refine WL.Ai (cs:=[]) rfl rfl rfl rfl rfl rfl func37 rfl (by kernel_rfl) (U7 (akf (fun _=>False) 0 w5) (fun _ h=>h.elim)) ?_;rintro _ w6 ⟨cs,rfl,hB,b6⟩;refine⟨_,rfl,?_⟩;obtain⟨a3,a4,rfl,-⟩:=id hB;apply jR (pI FL (zo a3 a4) (km kQ jK)) (bA3 a3 a4);refine WL.Ni (jCs a1 a2 a3 a4) rfl rfl rfl rfl rfl rfl (aua a1 a2 a3 a4) fun g7 w7 f7=>?_;have v7:U Kb w7 g7 (jCs a1 a2 a3 a4):=f7.blk;have b7:=f7.below;have e7:=f7.eq;have s7:=f7.size;clear f7;have z5:=b5.size;have z6:=b6.size;have hA7:lz (fun x=>w1.heap.size<=x/\x<w7.heap.size) (0+2) w7 dA (zo a1 a2):=(hA.there.jA (Z.jw b6) (fun x hx hl=>hl) (fun x hx=>hx)).jA (Z.jw b7) (fun x hx hl=>hl) fun x hx=>by
  rcases hx.1 with q|q
  ·exact q.elim
  ·have:=hx.2;omega
 have hB7:lz (fun x=>w1.heap.size<=x/\x<w7.heap.size) (0+2) w7 dB (zo a3 a4):=hB.there.jA (Z.jw b7) (fun x hx hl=>hl) fun x hx=>by
  rcases hx.1 with q|q
  ·exact q.elim
  ·have:=hx.2;omega
 have adi:=aoI v7 (E:=fun x=>w1.heap.size<=x/\x<w7.heap.size) (by omega) hA7 hB7;have VO:=((b2.trans (b5.mono (by omega))).trans (b6.mono (by omega))).trans (b7.mono (by omega));have v47:=U.below (U.below (U.below v4 b5 (U.lt v4)) b6 (by have:=U.lt v4;omega)) b7 (by have:=U.lt v4;omega);apply G _;apply jx func16 (IX (h1.below VO) (by omega) (by omega) (E:=fun x=>w1.heap.size<=x/\x<w7.heap.size) (fun x hx=>⟨hx.2,fun hs=>by have:=Sn x hs;omega,fun hm=>by have:=ltM x (.inl hm);omega,fun hm=>by have:=J8 x (.inl hm);omega⟩) adi (anf 0) (by decide) (by decide));rintro _ w8 ⟨rfl,⟨n1,S1,M1,D1,M2,D2,X1,h8,yu⟩,k8⟩;refine⟨_,rfl,?_⟩;rw[akk]at h8;have z8:=k8.size;have l47:=U.lt v4;have IP:=U.jA v47 k8 ⟨by omega,fun hs=>by have:=Sn g4 hs;omega,fun hm=>by have:=ltM g4 (.inl hm);omega,fun hm=>by have:=J8 g4 (.inl hm);omega⟩;have c7:=c1.trans (VO.mono z1);have c8:=c7.trans ((h1.below VO).old (by omega) k8);have d1:=h8.blk.cell 1 (by simp);simp only[aA,al]at d1;have lp:=U.lt h8.blk;have l48:=U.lt IP;have mq:Cat.vI ((1:Int),(⟨#[97]⟩:ByteArray)):=⟨by decide,by decide⟩;have TM:=Q8;clear v4 v47 k8 VO adi hA7 hB7 hA hB v7 b2 b5 b6 b7 h1;apply G _;refine WC.drawn 5 (fun wx=>Below w8.heap.size w8 wx) fun wa kv=>?_;have hS:Below w8.heap.size w8 wa:=kv.below _;clear kv;apply jC [0,1,2] hS _;apply jz 3 [5,6,7,8,9,10] (fun wx hx=>(hx.cell (p:=⟨pb,1,none⟩) lp).trans d1) hS;apply kG 4 [5,6,7,8,9,10] (fun wx hx=>U.rangeAt (U.below IP hx l48)) rfl hS;apply jS 5;have hE:=h8.below hS;apply jx func9 (Jr hE.set hE.len mq (Ia (fun _=>True) 0 wa).sN aaw);rintro _ wb ⟨hi,qZ,bb,v5,rfl,el5⟩;refine⟨_,rfl,?_⟩;rw[au4 hE.set hE.has qZ]at el5;rw[hE.has,show Cat.has CM.cat ((1:Int),(⟨#[97]⟩:ByteArray)).1 ((1:Int),(⟨#[97]⟩:ByteArray)).2=true from Q8];have rQ:=hS.trans (bb.mono hS.size);apply(jZ)
 (apply ke 6 rfl _;apply ke 7 rfl _;apply ke 8 rfl _;apply ke 9 rfl _;apply ke 10 rfl _)
 apply(jD);clear hE qZ;have h9:=h8.below rQ;have d19:=(rQ.cell (p:=⟨pb,1,none⟩) lp).trans d1;have v49:=U.below IP rQ l48;have lp9:=U.lt h9.blk;have l49:=U.lt v49;have c9:=c8.trans (rQ.mono c8.size);clear h8 IP hS bb;apply G _;refine WC.drawn 6 (fun wx=>Below wb.heap.size wb wx) fun wc kv=>?_;have hS:Below wb.heap.size wb wc:=kv.below _;clear kv;apply jC [0,1,2] hS _;apply jz 3 [6,7,8,9,10,11] (fun wx hx=>(hx.cell (p:=⟨pb,1,none⟩) lp9).trans d19) hS;apply kG 4 [6,7,8,9,10,11] (fun wx hx=>U.rangeAt (U.below v49 hx l49)) rfl hS;refine WD.build jK 5 rfl (by kernel_rfl) rfl rfl (fun _ _ _ _ _ h=>h) rfl rfl rfl MS (.inr hS) ?_;apply jS 6;have hE:=h9.below hS;apply jx func10 (JN hE.set hE.len mq (Ia (fun _=>True) 0 wc).sN (oe (fun _=>True) 0 wc).sN aaw Rm);rintro _ wd ⟨bd,v7,rfl,el7⟩;refine⟨_,rfl,?_⟩;rw[aql hE.set hE.has]at el7;rw[hE.has,show Cat.has CM.cat ((1:Int),(⟨#[97]⟩:ByteArray)).1 ((1:Int),(⟨#[97]⟩:ByteArray)).2=true from Q8];have NI:=hS.trans (bd.mono hS.size);apply(jZ)
 (apply ke 7 rfl _;apply ke 8 rfl _;apply ke 9 rfl _;apply ke 10 rfl _;apply ke 11 rfl _)
 apply(jD);have Sq:=c9.trans (NI.mono c9.size);replace el5:=el5.jA (Z.jw NI) (fun _ _ hl=>hl) (fun _ h=>h) (fun _ _ h=>h);clear hE h9;apply G _;refine lh (hs:=(by decide)) (cs:=[.int .i64 1]) fun g1 we f1=>?_;have x1:U 3 we g1 [.int .i64 1]:=f1.blk;have e1:=f1.below;clear f1;apply G _;refine WL.call rfl rfl rfl rfl rfl func19 rfl (by kernel_rfl) (Ew (el5.jA (Z.jw e1) (fun _ _ hl=>hl) (fun _ h=>h) (fun _ _ h=>h)) (l2:=[1]) (O2:=fun _=>True) ⟨_,_,rfl,aj _,by show(1:Nat)<=_;omega,(fun h=>by cases h),fun _=>⟨g1,0,rfl,U.lt x1,trivial,fun j hj=>?_⟩⟩) ?_
 ·have Za:j=0:=by have:j<1:=hj;omega
  subst Za;exact⟨[.int .i64 1],rfl,rfl,U.rangeAt x1⟩
 rintro _ wf ⟨rfl,bf⟩;refine⟨_,rfl,?_⟩;have e1f:=e1.trans (bf.mono e1.size);apply G _;refine WL.Ni [.int .i64 1,.int .i64 2] rfl rfl rfl rfl rfl rfl (by kernel_rfl) fun g2 wg f2=>?_;have x2:U 3 wg g2 [.int .i64 1,.int .i64 2]:=f2.blk;have e2:=f2.below;clear f2;have e1g:=e1f.trans (e2.mono e1f.size);apply G _;refine WL.call rfl rfl rfl rfl rfl func19 rfl (by kernel_rfl) (Ew (el7.jA (Z.jw e1g) (fun _ _ hl=>hl) (fun _ h=>h) (fun _ _ h=>h)) (l2:=[1,2]) (O2:=fun _=>True) ⟨_,_,rfl,aj _,by show(2:Nat)<=_;omega,(fun h=>by cases h),fun _=>⟨g2,0,rfl,U.lt x2,trivial,fun j hj=>?_⟩⟩) ?_
 ·have hr:=U.rangeAt x2
  have ub:j<2:=hj
  match j,ub with
  | 0,_=>exact⟨[.int .i64 1],rfl,rfl,fun i u hu=>by
    have h0:i=0:=by have:i<1:=(cP.1 hu).1;omega
    subst h0;exact hr 0 u hu⟩
  | 1,_=>exact⟨[.int .i64 2],rfl,rfl,fun i u hu=>by
    have h0:i=0:=by have:i<1:=(cP.1 hu).1;omega
    subst h0;exact hr 1 u hu⟩
 rintro _ wh ⟨rfl,bh⟩;refine⟨_,rfl,?_⟩;apply G _;exact J ⟨rfl,Sq.trans ((e1g.trans (bh.mono e1g.size)).mono Sq.size)⟩
end Ix
namespace Ix
open K
open Vw (uO)
theorem VL {v:V}(hs:qS f v){n:Nat}(h:¬2000<grt 2000 f v n): chk 16 v=0->(nC 16 [v]).length<=70368744177664:=fun hc=>by
 have h1:=(NL (B:=2000) f 16 v n hs hc I).2;have h2:=Ir 16 16 hc;rw[Gf,aP];omega
open K
open Vw (Ac xn pW pP FV wO y8 uO zZ)
def Kz (l:List V):Prop:=∀x∈l,chk 16 x=0->(nC 16 [x]).length<=70368744177664
theorem Kz.snoc (hi:i<l.length)(h:Kz (l.take i))(hx:chk 16 (l.getD i mM)=0->(nC 16 [l.getD i mM]).length<=70368744177664): Kz (l.take (i+1)):=fun x hm=>by
 rw[aK,ai hi]at hm;rcases au.1 hm with h1|h1
 ·exact h x h1
 ·have:x=l[i]:=by simpa using h1
  subst this;rw[ah,ai hi]at hx;exact hx
theorem XT (h:Kz l)(hi:i<l.length): chk 16 (l.getD i mM)=0->(nC 16 [l.getD i mM]).length<=70368744177664:=h _ (by rw[ah,ai hi];exact aH hi)
theorem Tl (LL:List (List Ac)): ∀i,FV (LL.take i)<=FV LL:=fun i=>by
 rcases aW i LL.length with h|h
 ·obtain⟨d,hd⟩:∃d,d=LL.length - i:=⟨_,rfl⟩
  induction d generalizing i with
  | zero=>omega
  | succ d ih=>
   have h1:=wO LL h;rcases aW (i+1) LL.length with h2|h2
   ·have:=ih (i+1) h2 I;omega
   ·rw[bg h2]at h1;omega
 ·rw[bg h];exact aj _
end Ix
end Go.Proofs.YtlenklobbngopaaGreat
