/-
  For every row of rows of acts, every name and all values the law IndexBuilds answers true, and the arguments read as they did. No condition.
-/
import Derived.Test.YtlenklobbngopaaGreatZIxC8
set_option maxHeartbeats 64000000
set_option maxRecDepth 100000
set_option linter.all false
namespace Go.Proofs.YtlenklobbngopaaGreat
open _root_.Go.Proofs.Tryz
open Go.RowKit Go.Maps
namespace Ix
open K
open Vw (Ac xn pW pP FV wO y8 uO zZ)
theorem TZ {w:World}{f g:Nat}{v lv:Value}{LL:List (List Ac)}{vs:List V}(h0:pP (fun b=>b<w.heap.size) (f+1) w v LL)(Kk:LL.length<=140737488355328)(s:lD)(hs:s.size<=140737488355328)(hV:LW g w lv vs)(hSm:∀x∈vs,qS g x):
  Calls prog 6 #[v,.string s,lv] w fun e w'=>e=.returned (.bool true)/\jP w w':=by
 have h:=h0.more (I:f+1<=f+2);clear h0;obtain⟨Am,vZ,rfl,vN,rE,De,kF⟩:=id h;obtain⟨mB,yx,rfl,uE,sL,om⟩:=id hV;apply kq (args:=[.slice Am LL.length vZ,.string s,.slice mB vs.length yx]) func6 ntmps6;apply G _;refine jJ (z:=Iq 0) (fun _=>jG) fun DG w3 te=>?_;have Bp:U 3 w3 DG [Iq 0]:=te.blk;have e3:=te.eq;have b3:=te.below;clear te;apply G _;apply jT (v:=Iq 0) (Bp.cell 0 jM) (Bp.free 0);have WS:U 3 (w3.setCell (Aq DG 0) (Iq 0)) DG [Iq 0]:=Bp.set 0 (Iq 0);have qq:jP w (w3.setCell (Aq DG 0) (Iq 0)):=Z.below ((Z.jw b3).setCell (fun hk=>by simp only at hk;omega) _);have xK:w.heap.size<=DG:=I;generalize w3.setCell (Aq DG 0) (Iq 0)=w4 at WS qq;clear Bp b3;apply G _;refine WC.loop (fun i:Nat=>[(0,.slice Am LL.length vZ),(1,.string s),(2,.slice mB vs.length yx),(7,jV DG),(8,Iq i)])
  (fun i wx=>i<=vs.length/\jP w wx/\Kz (vs.take i)/\∃n:Nat,U 3 wx DG [Iq n]/\n<=2000) (fun i=>vs.length - i) 0 kz
  ⟨ay _,qq,fun x hx=>(by cases hx),0,WS,I⟩ ?_
 clear WS qq;rintro i wl ⟨hi,bl,R0,n,Bn,hn⟩
 by_cases kt:i<vs.length
 case pos=>
  obtain⟨b,o,rfl,hb,hr⟩:=om I;obtain⟨cs,nL,CP,ly⟩:=hr i kt;have hm:qS g (vs.getD i mM):=hSm _ (by rw[ah,ai kt];exact aH kt);have rY:=fun q=>Kz.snoc kt R0 q;generalize vs.getD i mM=x at CP hm rY;have Qc:wl.rangeAt b (o+i*6) cs:=fun j u hu=>(bl.cell (p:=Aq b (o+i*6+j)) hb).trans (ly j u hu);clear om hr kF;apply G _;apply jQ i (o+i*6) kt;apply jy Qc nL;apply kH func7 (yS (n:=n) g CP hm bl xK Bn I);rintro w6 ⟨Bn6,o_⟩
  have b6:jP w w6:=bl.trans (Z.below (Z.mono o_ fun b (hb:b<w.heap.size)=>⟨ao hb bl.size,I⟩))
  by_cases nB:2000<grt 2000 g x n
  ·apply G _
   exact J ⟨rfl,b6⟩
  ·apply G _
   exact WQ.again (i+1) kz ⟨kt,b6,rY (VL hm nB),_,Bn6,I⟩ I
 case neg=>
 have Oz:Kz vs:=by rw[bg I]at R0;exact R0
 clear R0 hi Bn hn;apply G _;apply jx func14 (y8 (h.below bl));rintro _ w5 ⟨b5,hb,rfl,Fy⟩;refine⟨_,rfl,?_⟩;have pK:=bl.kj b5;clear b5
 by_cases Nc:hb=true\/8<vs.length
 case pos=>
  clear Fy kF om;cases hb with
  | true=>
   apply G _;apply kH func13 uD;rintro wk bk
   apply G _;exact J ⟨rfl,pK.kj bk⟩
  | false=>
  have q2:8<vs.length:=by
   rcases Nc with e|e
   ·cases e
   ·exact e
  apply G _;apply kH func13 uD;rintro wk bk
  apply G _;exact J ⟨rfl,pK.kj bk⟩
 case neg=>
 obtain⟨q1,q3⟩:hb=false/\vs.length<=8:=⟨by simpa using fun q=>Nc (.inl q),I⟩;subst q1;obtain⟨auO,atr,j6⟩:=Fy rfl;apply G _;apply jx func15 (F2 (k:=f));rintro _ w7 ⟨pb,vb,sb,rb,mb,n0,S0,M0,D0,M0',D0',X0,rfl,QY,G_,b7⟩;refine⟨_,rfl,?_⟩;have c7:=pK.kj b7;have z6:=pK.size;have z7:=b7.size;generalize w5.heap.size=B at QY b7 z6 z7;clear b7 Nc Fy;apply G _;refine WC.loop (fun i:Nat=>[(0,.slice Am LL.length vZ),(1,.string s),(2,.slice mB vs.length yx),(9,jV pb),(11,Iq i)])
  (fun i wx=>i<=LL.length/\B<=wx.heap.size/\jP w wx/\∃n S M D M' D' st X,Ci B wx pb vb sb rb mb n S M D M' D' f st X (4*FV (LL.take i)+4*i)/\n<=1024+1024*i) (fun i=>LL.length - i) 0 kz
  ⟨ay _,z7,c7,n0,S0,M0,D0,M0',D0',uO,X0,QY,G_⟩ ?_
 clear QY c7 z7;rintro i wl2 ⟨xx,zB,FG,n,S,M,D,M',D',st,X,hT,hn⟩
 by_cases vj:i<LL.length
 case pos=>
  have ltP:=hT.p.lt;have J8:=hT.r.lt;have Sn:=hT.set.pC.lt;have zl:=FG.size;obtain⟨bq,oq,rfl,hbq,hOq,lP⟩:=kF I;obtain⟨cs1,-,⟨u,rfl,hu⟩,ly⟩:=lP i vj;have EZ:=wO LL vj;have htl:=Tl LL (i+1);have hlL:∀x∈LL.getD i [],xn (f+2) x:=j6 _ (by rw[ah,ai vj];exact aH vj);generalize LL.getD i []=L at hu EZ hlL;have Ku:wl2.cell? (Aq bq (oq+i*1))=some u:=(FG.cell (p:=Aq bq (oq+i*1)) hbq).trans (ly 0 _ rfl);obtain⟨spu,ad9,rfl,-⟩:=id hu;clear kF lP ly;apply jF _;apply jQ i (oq+i*1) vj;apply jF _;apply kH func16 (IX hT zB I (E:=fun b=>b<w.heap.size) (fun x hx=>⟨I,fun q=>by have:=(hT.sm x q).1;omega,fun q=>by have:=(hT.mm x q).1;omega,fun q=>by have:=(hT.rm x q).1;omega⟩) (hu.below FG) hlL I I);rintro w8 ⟨⟨n1,S1,M1,D1,M2,D2,X1,A0,yu⟩,k8⟩
  have b8:=FG.trans ((hT.old zB k8).mono z6);have zB8:=(hT.old zB k8).size;have lt8:=k8.size;have CS:=Ci.len A0;have d1:=A0.blk.cell 1 jM;simp only[aA,al]at d1;have Xn:=U.lt A0.blk;have z8:=b8.size;have uA:n1<=1024+1024*(i+1):=I;clear hu Ku hT k8 ltP J8 Sn hn yu;apply G _;exact WQ.again (i+1) kz ⟨vj,aU zB lt8,b8,n1,S1,M1,D1,M2,D2,_,X1,A0.mono I I,uA⟩ I
 case neg=>
 clear kF j6 hn;have hd:=hT.RO;have Oa:=hT.inv.1;have c0:=hT.blk.cell 0 jM;simp only[al]at c0;apply jF _;apply jx func11 (Jl hT.p Oa hd);rintro _ w8 ⟨QT,mb2,n2,S2,X2,rfl,Bj,RJ,-,-,b8⟩;refine⟨_,rfl,?_⟩;have WU:=FG.kj b8;have Kf:=hT.below b8;have z8:=WU.size;clear hT c0 b8 FG;have XB:∀x t2,X2 x=some t2->∃t1,X x=some t1/\t2.L=t1.L:=fun x t2 e=>by
  have h1:(X x).isSome=true:=by rw[Kf.has,<-RJ,e];rfl
  obtain⟨t1,h2⟩:=iy.1 h1;exact⟨t1,h2,(Bj.pC.is _ _ e).2.uniq (Kf.set.pC.is _ _ h2).2⟩
 have CS:=Ci.len Kf;have Ar:∀x t,X2 x=some t->t.L.length<=1000000:=fun x t2 e=>by
  obtain⟨t1,h1,h2⟩:=XB x t2 e;rw[h2];exact CS x t1 h1
 have d1:=Kf.blk.cell 1 jM;have d2:=Kf.blk.cell 2 jM;simp only[aA,al]at d1 d2;have lp:=U.lt Kf.blk;obtain⟨YQ,rOc,rv,mb',rk,rr⟩:=id Kf.r;obtain⟨tv,cells,EX⟩:=id rr.cat;have d0:=rr.vb.cell 0 jM;simp only[al]at d0;have sG:=rr.lt rb (.inl rr.vK);have ahG:=EX.lt YQ EX.rc;have RT:st.cat.length<=64:=EX.oP.len;have e0:=EX.vb.cell 0 jM;simp only[al]at e0;obtain⟨spt,cpt,rfl⟩:∃spt cpt,tv=.slice spt st.cat.length cpt:=by
  obtain⟨-,-,x1,x2,x3,-⟩:=EX.own.EM;exact⟨x1,x2,x3⟩
 clear EX rr;apply G _;apply WC.loop (fun t:Nat=>[(1,.string s),(2,.slice mB vs.length yx),(9,jV pb),(12,jV QT),(13,Iq t)]) (fun t wx=>t<=st.cat.length+2/\jP w8 wx) (fun t=>st.cat.length+2 - t) 0 kz ⟨ay _,Below.refl _ _⟩;rintro t wt ⟨KC,bt⟩;have d2t:=(bt.cell (p:=Aq pb 2) lp).trans d2;have d0t:=(bt.cell (p:=Aq rb 0) sG).trans d0;have e0t:=(bt.cell (p:=Aq YQ 0) ahG).trans e0
 by_cases htl:t<=st.cat.length+1
 case neg=>
  apply jF _;apply kH func13 uD;rintro wk bk
  apply G _;have blt:=WU.trans (bt.mono z8);exact J ⟨rfl,blt.kj bk⟩
 case pos=>
 have mq:Cat.vI ((t:Int),s):=⟨Vw.AR ⟨I,I⟩,by show s.size<=maxLen;unfold maxLen;omega⟩;have P:∀wx,jP w8 wx->jP w wx:=fun wx q=>WU.trans (q.mono z8);apply jF _;apply WC.loop (fun j:Nat=>[(1,.string s),(2,.slice mB vs.length yx),(9,jV pb),(12,jV QT),(13,Iq t),(14,Iq j)]) (fun j wx=>j<=vs.length/\jP w8 wx) (fun j=>vs.length - j) 0 kz ⟨ay _,bt⟩;clear d2t d0t e0t bt;rintro j wj ⟨hj0,bj⟩;have zj:=bj.size
 by_cases OW:j<vs.length
 case pos=>
  obtain⟨bv,ov,rfl,hbv,Is⟩:=om I;obtain⟨cx,vR,V4,ahk⟩:=Is j OW;have nO:=XT Oz OW;generalize vs.getD j mM=x at V4 nO;obtain⟨g,rfl⟩:∃k,g=k+1:=by
   cases g with
   | zero=>exact V4.elim
   | succ g=>exact⟨g,rfl⟩
  clear Is om;apply G _;refine WC.drawn 24 (jP w8) fun Hd kv=>?_;have hS:jP w8 Hd:=bj.trans ((kv.below wj.heap.size).mono zj);clear kv;have V:∀wx,jP w8 wx->wx.rangeAt bv (ov+j*6) cx:=fun wx hx q u hu=>((P wx hx).cell (p:=Aq bv (ov+j*6+q)) hbv).trans (ahk q u hu);apply jC [0,1,2,3,4,5] hS _;apply kY 6 j (ov+j*6) OW (.inr hS);apply kG 7 (mw 9 26) (fun wx hx=>V wx hx) vR hS;apply WD.build jK 8 rfl jG rfl rfl (fun _ _ _ _ _ h=>h) rfl rfl rfl MS (.inr hS);apply jS 9;apply kH func20 (F1 (Kf.below hS) (Bj.below hS) Ar RJ mq (V4.below (P _ hS)) (oe (fun _=>True) g Hd).sN nO Rm);rintro w9 b9
  replace hS:=hS.kj b9;clear b9;apply lI hS;apply jC [10,11,12,13,14,15] hS _;apply jz 16 [24,25,26] (lX lp d1) hS;apply jC [17,18] hS _;apply WD.build jK 19 rfl jG rfl rfl (fun _ _ _ _ _ h=>h) rfl rfl rfl MS (.inr hS);apply jC [20,21] hS _;apply kY 22 j (ov+j*6) OW (.inr hS);apply kG 23 [24,25,26] (fun wx hx=>V wx hx) vR hS;apply jS 24;apply(jX);have hTx:=Kf.below hS;apply kH func20 (F1 hTx hTx.set CS Kf.has mq (oe (fun _=>True) g w9).sN (V4.below (P _ hS)) Rm nO);rintro tF Li
  have Sq:=hS.kj Li;apply(jZ)
  (apply ke 25 rfl _;apply ke 26 rfl _)
  apply(jD);apply G _;exact WQ.again (j+1) kz ⟨OW,Sq⟩ I
 case neg=>
 clear om;obtain⟨nn,yu⟩:∃nn:Nat,(match X2 ((t:Int),s) with|some x=>x.L.length|none=>0)=nn:=⟨_,rfl⟩;have uA:(match X ((t:Int),s) with|some x=>x.L.length|none=>0)=nn:=by
  rw[<-yu];cases e:X2 ((t:Int),s) with
  | none=>
   have h1:(X ((t:Int),s)).isSome=false:=by rw[Kf.has,<-RJ,e];rfl
   cases e1:X ((t:Int),s) with
   | none=>rfl
   | some t1=>rw[e1]at h1;cases h1
  | some t2=>
   obtain⟨t1,h1,h2⟩:=XB _ _ e;rw[h1];simp only;rw[h2]
 have l2:∀wx,jP w8 wx->Calls prog 12 #[jV QT,Iq (t:Int),.string s] wx fun e w'=>e=.returned (Iq (nn:Int))/\w'=wx:=fun wx q=>(IQ (Bj.below q) mq).mono fun e w' r=>⟨r.1.trans (congrArg (fun k:Nat=>Ending.returned (Iq (k:Int))) yu),r.2⟩;have l1:∀wx,jP w8 wx->Calls prog 12 #[jV sb,Iq (t:Int),.string s] wx fun e w'=>e=.returned (Iq (nn:Int))/\w'=wx:=fun wx q=>(IQ (Kf.set.below q) mq).mono fun e w' r=>⟨r.1.trans (congrArg (fun k:Nat=>Ending.returned (Iq (k:Int))) uA),r.2⟩;clear yu uA XB CS Ar RJ;apply G _;refine WC.drawn 10 (jP w8) fun Hd kv=>?_;have hS:jP w8 Hd:=bj.trans ((kv.below wj.heap.size).mono zj);clear kv;apply jC [0,1,2,4,5,6] hS _;apply jz 7 [10,11] (lX lp d1) hS;apply jC [8,9] hS _;apply jS 3;apply kH func12 (l2 _ hS);rintro w9 rfl
 apply lI hS;apply jS 10;apply kH func12 (l1 _ hS);rintro w9 rfl
 apply(jZ)
 (apply ke 11 rfl _)
 apply(jD);apply G _;exact WQ.again (t+1) kz ⟨I,hS⟩ I
end Ix
end Go.Proofs.YtlenklobbngopaaGreat
namespace Go.Proofs.YtlenklobbngopaaGreat.indexBuilds
open _root_.Go.Proofs.Tryz
open Go.ChangeShapes Go.WideShapes Go.ChangeAt Go.RowKit
open Go.ChangeMaps (open_string shut_string)
open Go.Proofs.YtlenklobbngopaaGreat
theorem lifted (os:Os)(started:os.Started)(H:Type)(enc:TypeId×Value->H):
  ReturnsInHanded {} Tryz.checked os 6 .any (Rows.indexBuildsSpec.pre6 enc prog Tryz.f6 Rows.indexBuildsRow.domain false) (Rows.indexBuildsSpec.post enc prog Tryz.f6 false true false false):=by
 refine fS (C:=Tryz.checked) Tryz.ownKnob started jG func6
  (ChangeSpec.witness6 (enc:=enc) (C:=Tryz.checked) false ⟨#[],#[kP,.string ByteArray.empty,kP],[]⟩ 8 jG jG jG jG) ?_
 intro W base args ds gs before N4 hW atL lJ _;have wY:∀(j:Nat) t v,Tryz.f6.params[j]? = some t->args[j]? = some v->Value.okWide prog W .any base t v:=N4;have hW':=hW;obtain⟨p,q,hA0,hV,rfl,hfz,Ch⟩:=hW;have hA:DataW.TrodAll enc prog W 0 (fun _=>true) true Tryz.f6.params.toList args.toList ds p:=hA0;rw[Tryz.params6]at hA wY;obtain⟨v0,vs0,d0,ds0,p0,q0,aow,rfl,rfl,h0,r0⟩:=trodAll_cons hA;obtain⟨v1,vs1,d1,ds1,p1,q1,rfl,rfl,rfl,h1,r1⟩:=trodAll_cons r0;obtain⟨v2,vs2,d2,ds2,p2,q2,rfl,rfl,rfl,h2,r2⟩:=trodAll_cons r1;obtain⟨rfl,rfl,rfl⟩:=trodAll_nil r2;obtain rfl:args=#[v0,v1,v2]:=by cases args;simp_all
 obtain⟨rfl,rfl⟩:=trodVars_none hV;have k0:=h0;have lt0:∀x∈p0,x.block<W.heap.size:=by obtain⟨m,hm⟩:=k0;exact DataW.trod_lt m _ _ _ hm
 obtain⟨f0,l0,is0,ln0⟩:=Vw.JF (wY 0 43 v0 rfl rfl) h0 (fun n hn=>by have:=bY.1 lJ n (DataW.weights_mem_each (j:=0) rfl rfl n hn);simpa using this);have k1:=h1;have lt1:∀x∈p1,x.block<W.heap.size:=by obtain⟨m,hm⟩:=k1;exact DataW.trod_lt m _ _ _ hm
 obtain⟨s1,rfl,eq1,-,sF⟩:=open_string cF (wY 1 9 v1 rfl rfl) h1;have k2:=h2;have lt2:∀x∈p2,x.block<W.heap.size:=by obtain⟨m,hm⟩:=k2;exact DataW.trod_lt m _ _ _ hm
 obtain⟨f2,l2,iv2,sm2,ln2⟩:=K.Nr (wY 2 23 v2 rfl rfl) h2 (fun n hn=>by have:=bY.1 lJ n (DataW.weights_mem_each (j:=2) rfl rfl n hn);simpa using this);clear hA0 N4;have z1:s1.size<=140737488355328:=by
  have:=sized_string lJ (j:=1) rfl (congrArg some eq1);rw[bU]at this;exact aU this lZ
 refine(Ix.TZ is0 ln0 s1 z1 iv2 sm2).mono fun e W' ⟨he,Rq⟩=>?_;subst he;exact⟨_,rfl,_,_,_,[],_,[],hW',trodAll_mk1 (shut_bool underlying4 _),(eP (Below.trod Tryz.laid jG (aR jG) k0 Rq lt0) (eP (Below.trod Tryz.laid jG (aR jG) k1 Rq lt1) (eP (Below.trod Tryz.laid jG (aR jG) k2 Rq lt2) trodAll_mk0))),rfl,Rq.frame _,fun h=>by cases h⟩
theorem Tv: Rows.indexBuildsRow.holds Tryz.pinned (OpenSpec.ofChange Rows.indexBuildsSpec) :=
 iE 6 Tryz.f6 rfl rfl rfl rfl rfl rfl rfl ⟨rfl,rfl,rfl,rfl,rfl⟩ rfl rfl rfl rfl rfl jG func6 jG
  (aR jG) (by unfold Func.isWrapper;first|(rw[ag (by decide +kernel)];kernel_rfl)|(rw[aa (by decide +kernel)];exact⟨rfl,rfl⟩))
  (fun os started H enc _=>lifted os started H enc)
theorem proved: Rows.IndexBuildsSaid:=Tv
end Go.Proofs.YtlenklobbngopaaGreat.indexBuilds
