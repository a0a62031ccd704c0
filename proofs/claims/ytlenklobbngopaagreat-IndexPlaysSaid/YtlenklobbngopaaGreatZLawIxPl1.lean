/-
  For every row of rows of acts, all names and all values the law IndexPlays answers true, and the arguments read as they did. No condition.
-/
import Derived.Test.YtlenklobbngopaaGreatZIxC8
set_option maxHeartbeats 64000000
set_option maxRecDepth 100000
set_option linter.all false
namespace Go.Proofs.YtlenklobbngopaaGreat
open _root_.Go.Proofs.Tryz
open Go.RowKit Go.Maps
namespace Ix
open K
open Vw (Ac xn pW pP FV wO y8 uO zZ)
theorem YD {w:World}{f g:Nat}{v fv lv:Value}{LL:List (List Ac)}{F:List lD}{vs:List V}(h0:pP (fun b=>b<w.heap.size) (f+1) w v LL)(Kk:LL.length<=140737488355328)(hF:AI w fv F)(hV:LW g w lv vs)(hSm:∀x∈vs,qS g x):
  Calls prog 5 #[v,fv,lv] w fun e w'=>e=.returned (.bool true)/\Below w.heap.size w w':=by
 have h:=h0.more (I:f+1<=f+2);clear h0;obtain⟨Am,vZ,rfl,vN,rE,De,kF⟩:=id h;obtain⟨F7,cpf,rfl,ou,mK,Ed,Nv⟩:=id hF;obtain⟨mB,yx,rfl,uE,sL,om⟩:=id hV;apply enter (args:=[.slice Am LL.length vZ,.slice F7 F.length cpf,.slice mB vs.length yx]) func5 rfl ntmps5 rfl;apply G _;refine jJ (z:=Iq 0) (fun _=>jG) fun DG w3 te=>?_;have Bp:U 3 w3 DG [.int .i64 0]:=te.blk;have e3:=te.eq;have b3:=te.below;clear te;apply G _;apply jT (v:=Iq 0) (Bp.cell 0 jM) (Bp.free 0);have WS:U 3 (w3.setCell ⟨DG,0,none⟩ (.int .i64 0)) DG [.int .i64 0]:=Bp.set 0 (.int .i64 0);have qq:Below w.heap.size w (w3.setCell ⟨DG,0,none⟩ (.int .i64 0)):=Z.below ((Z.jw b3).setCell (fun hk=>by simp only at hk;omega) _);have xK:w.heap.size<=DG:=by omega
 generalize w3.setCell ⟨DG,0,none⟩ (.int .i64 0)=w4 at WS qq;clear Bp b3;apply G _;refine WC.loop (fun i:Nat=>[(0,.slice Am LL.length vZ),(1,.slice F7 F.length cpf),(2,.slice mB vs.length yx),(7,.pointer (some ⟨DG,0,none⟩)),(8,.int .i64 i)])
  (fun i wx=>i<=vs.length/\Below w.heap.size w wx/\Kz (vs.take i)/\∃n:Nat,U 3 wx DG [.int .i64 n]/\n<=2000) (fun i=>vs.length - i) 0 ⟨rfl,rfl,rfl,rfl,rfl,trivial⟩
  ⟨ay _,qq,fun x hx=>(by cases hx),0,WS,by omega⟩ ?_
 clear WS qq;rintro i wl ⟨hi,bl,R0,n,Bn,hn⟩
 by_cases kt:i<vs.length
 case pos=>
  obtain⟨b,o,rfl,hb,hr⟩:=om (by omega);obtain⟨cs,nL,CP,ly⟩:=hr i kt;have hm:qS g (vs.getD i mM):=hSm _ (by rw[ah,ai kt];exact aH kt);have rY:=fun q=>Kz.snoc kt R0 q;generalize vs.getD i mM=x at CP hm rY;have Qc:wl.rangeAt b (o+i*6) cs:=fun j u hu=>(bl.cell (p:=Aq b (o+i*6+j)) hb).trans (ly j u hu);clear om hr kF Nv;apply G _;apply jQ i (o+i*6) kt;apply jy Qc nL;apply WL.call rfl rfl rfl rfl rfl func7 rfl jG (yS (n:=n) g CP hm bl xK Bn I);rintro _ w6 ⟨rfl,Bn6,o_⟩;refine⟨_,rfl,?_⟩;have b6:Below w.heap.size w w6:=bl.trans (Z.below (Z.mono o_ fun b (hb:b<w.heap.size)=>⟨ao hb bl.size,by omega⟩))
  by_cases nB:2000<grt 2000 g x n
  ·apply G _
   exact J ⟨rfl,b6⟩
  ·apply G _
   exact WQ.again (i+1) ⟨rfl,rfl,rfl,rfl,rfl,trivial⟩ ⟨kt,b6,rY (VL hm nB),_,Bn6,by omega⟩ (by omega)
 case neg=>
 have Oz:Kz vs:=by rw[bg (by omega)]at R0;exact R0
 clear R0 hi Bn hn;apply G _;apply jx func14 (y8 (h.below bl));rintro _ w5 ⟨b5,hb,rfl,Fy⟩;refine⟨_,rfl,?_⟩;have pK:=bl.trans (b5.mono bl.size);clear b5
 by_cases Nc:hb=true\/4<F.length\/8<vs.length
 case pos=>
  clear Fy kF om Nv;cases hb with
  | true=>
   apply G _;apply kH func13 uD;rintro wk bk
   apply G _;exact J ⟨rfl,pK.kj bk⟩
  | false=>
  by_cases q:4<F.length
  ·apply G _
   apply kH func13 uD;rintro wk bk
   apply G _;exact J ⟨rfl,pK.kj bk⟩
  ·have q2:8<vs.length:=by
    rcases Nc with e|e|e
    ·cases e
    ·exact absurd e q
    ·exact e
   apply G _;apply kH func13 uD;rintro wk bk
   apply G _;exact J ⟨rfl,pK.kj bk⟩
 case neg=>
 obtain⟨q1,q2,q3⟩:hb=false/\F.length<=4/\vs.length<=8:=⟨by simpa using fun q=>Nc (.inl q),by omega,by omega⟩;subst q1;obtain⟨auO,atr,j6⟩:=Fy rfl;apply G _;apply jx func15 (F2 (k:=f));rintro _ w7 ⟨pb,vb,sb,rb,mb,n0,S0,M0,D0,M0',D0',X0,rfl,QY,G_,b7⟩;refine⟨_,rfl,?_⟩;have c7:=pK.trans (b7.mono pK.size);have z6:=pK.size;have z7:=b7.size;generalize w5.heap.size=B at QY b7 z6 z7;clear b7 Nc Fy;apply G _;refine WC.loop (fun i:Nat=>[(0,.slice Am LL.length vZ),(1,.slice F7 F.length cpf),(2,.slice mB vs.length yx),(9,.pointer (some ⟨pb,0,none⟩)),(11,.int .i64 i)])
  (fun i wx=>i<=LL.length/\B<=wx.heap.size/\Below w.heap.size w wx/\∃n S M D M' D' st X,Ci B wx pb vb sb rb mb n S M D M' D' f st X (4*FV (LL.take i)+4*i)/\n<=1024+1024*i) (fun i=>LL.length - i) 0 ⟨rfl,rfl,rfl,rfl,rfl,trivial⟩
  ⟨ay _,z7,c7,n0,S0,M0,D0,M0',D0',uO,X0,QY,G_⟩ ?_
 clear QY c7 z7;rintro i wl2 ⟨xx,zB,FG,n,S,M,D,M',D',st,X,hT,hn⟩
 by_cases vj:i<LL.length
 case neg=>
  clear kF om Nv;apply G _;apply kH func13 uD;rintro wk bk
  apply G _;exact J ⟨rfl,FG.kj bk⟩
 case pos=>
 have ltP:=hT.p.lt;have J8:=hT.r.lt;have Sn:=hT.set.pC.lt;have zl:=FG.size;obtain⟨bq,oq,rfl,hbq,hOq,lP⟩:=kF (by omega);obtain⟨cs1,-,⟨u,rfl,hu⟩,ly⟩:=lP i vj;have EZ:=wO LL vj;have htl:=Tl LL (i+1);have hlL:∀x∈LL.getD i [],xn (f+2) x:=j6 _ (by rw[ah,ai vj];exact aH vj);generalize LL.getD i []=L at hu EZ hlL;have Ku:wl2.cell? (Aq bq (oq+i*1))=some u:=(FG.cell (p:=Aq bq (oq+i*1)) hbq).trans (ly 0 _ rfl);obtain⟨spu,ad9,rfl,-⟩:=id hu;clear kF lP ly;apply jF _;apply jQ i (oq+i*1) vj;apply jF _;apply WL.call rfl rfl rfl rfl rfl func16 rfl jG (IX hT zB I (E:=fun b=>b<w.heap.size) (fun x hx=>⟨I,fun q=>by have:=(hT.sm x q).1;omega,fun q=>by have:=(hT.mm x q).1;omega,fun q=>by have:=(hT.rm x q).1;omega⟩) (hu.below FG) hlL I I);rintro _ w8 ⟨rfl,⟨n1,S1,M1,D1,M2,D2,X1,A0,yu⟩,k8⟩;refine⟨_,rfl,?_⟩;have b8:=FG.trans ((hT.old zB k8).mono z6);have zB8:=(hT.old zB k8).size;have lt8:=k8.size;have CS:=Ci.len A0;have d1:=A0.blk.cell 1 (by simp);simp only[aA,al]at d1;have Xn:=U.lt A0.blk;have z8:=b8.size;have uA:n1<=1024+1024*(i+1):=by omega
 clear hu Ku hT k8 ltP J8 Sn hn yu;apply G _;refine WC.loop (fun k:Nat=>[(0,.slice (some ⟨bq,oq,none⟩) LL.length vZ),(1,.slice F7 F.length cpf),(2,.slice mB vs.length yx),(9,.pointer (some ⟨pb,0,none⟩)),(11,.int .i64 i),(12,.int .i64 k)]) (fun k wx=>k<=F.length/\Below w8.heap.size w8 wx) (fun k=>F.length - k) 0 ⟨rfl,rfl,rfl,rfl,rfl,rfl,trivial⟩ ⟨ay _,Below.refl _ _⟩ ?_;rintro k wk ⟨I5,bk⟩
 by_cases hkF:k<F.length
 case neg=>
  apply G _;exact WQ.again (i+1) ⟨rfl,rfl,rfl,rfl,rfl,trivial⟩ ⟨vj,aU (aU zB lt8) bk.size,b8.trans (bk.mono z8),n1,S1,M1,D1,M2,D2,_,X1,(A0.below bk).mono (by omega) (by omega),by omega⟩ (by omega)
 case pos=>
 obtain⟨bf,of,rfl,hbf,k_⟩:=Nv (by omega);have tP:(F.getD k kZ).size<=140737488355328:=Ed k hkF;have k_:=k_ k hkF;generalize F.getD k kZ=fs at tP k_;apply G _;refine WC.loop (fun j:Nat=>[(0,.slice (some ⟨bq,oq,none⟩) LL.length vZ),(1,.slice (some ⟨bf,of,none⟩) F.length cpf),(2,.slice mB vs.length yx),(9,.pointer (some ⟨pb,0,none⟩)),(11,.int .i64 i),(12,.int .i64 k),(13,.int .i64 j)]) (fun j wx=>j<=vs.length/\Below w8.heap.size w8 wx) (fun j=>vs.length - j) 0 ⟨rfl,rfl,rfl,rfl,rfl,rfl,rfl,trivial⟩ ⟨ay _,bk⟩ ?_;clear bk;rintro j wj ⟨hj0,bj⟩
 by_cases OW:j<vs.length
 case neg=>
  apply G _;exact WQ.again (k+1) ⟨rfl,rfl,rfl,rfl,rfl,rfl,trivial⟩ ⟨hkF,bj⟩ (by omega)
 case pos=>
 obtain⟨bv,ov,rfl,hbv,Is⟩:=om (by omega);obtain⟨m,hm⟩:∃m,vs.length=m+1:=⟨vs.length - 1,by omega⟩;have ub:(j+1) % (m+1)<vs.length:=by rw[hm];exact Nat.mod_lt _ (by omega)
 obtain⟨cx,vR,V4,ahk⟩:=Is j OW;obtain⟨cy,QR,hyv,arU⟩:=Is _ ub;have nO:=XT Oz OW;have xl:=XT Oz ub;obtain⟨R,hR,eR⟩:∃R:Nat,R<=1/\bits .and .i64 ((i:Int)+(j:Int)) 1=(R:Int):=K.bits_mask ((i:Int)+(j:Int)) 1 (by omega);generalize vs.getD j mM=x at V4 nO;generalize vs.getD ((j+1) % (m+1)) mM=y at hyv xl;obtain⟨g,rfl⟩:∃k,g=k+1:=by
  cases g with
  | zero=>exact V4.elim
  | succ g=>exact⟨g,rfl⟩
 have z8j:=bj.size;have bwj:=b8.trans (bj.mono z8);clear Is om Nv;apply G _;refine WC.drawn 26 (fun wx=>Below w8.heap.size w8 wx) fun Hd kv=>?_;have hS:Below w8.heap.size w8 Hd:=bj.trans ((kv.below wj.heap.size).mono z8j);clear kv;have P:∀wx,Below w8.heap.size w8 wx->Below w.heap.size w wx:=fun wx q=>b8.trans (q.mono z8);apply jC [0,1,2,3] hS _;apply jz 4 [26,27] (lX Xn d1) hS;apply jC [5,6,7] hS _;refine WD.xX 8 (.int .i64 (R:Int)) rfl (by kernel_rfl) rfl rfl (fun _ _ _ _ _ h=>h) rfl rfl (congrArg (Value.int .i64) eR) (.inr hS) ?_;apply jC [9,10,11] hS _;apply kY 12 k (of+k*1) hkF (.inr hS);apply jz 13 [26,27] (fun wx hx=>((P wx hx).cell (p:=Aq bf (of+k*1)) hbf).trans (by rw[cJ];exact k_)) hS;apply jC [14,15] hS _;apply kY 16 j (ov+j*6) OW (.inr hS);apply kG 17 [26,27] (fun wx hx=>fun q u hu=>((P wx hx).cell (p:=Aq bv (ov+j*6+q)) hbv).trans (ahk q u hu)) vR hS;apply jC [18,19] hS _;refine WD.xX 20 (.int .i64 ((j+1:Nat):Int)) rfl (by kernel_rfl) rfl rfl (fun _ _ _ _ _ h=>h) rfl rfl (congrArg (Value.int .i64) (bN _ (by omega))) (.inr hS) ?_;apply jC [21] hS _;refine WD.xX 22 (.int .i64 ((m+1:Nat):Int)) rfl (by kernel_rfl) rfl rfl (fun _ _ _ _ _ h=>h) rfl rfl (by rw[hm]) (.inr hS) ?_;refine WD.xX 23 (.int .i64 (((j+1) % (m+1):Nat):Int)) rfl (by kernel_rfl) rfl rfl (fun _ _ _ _ _ h=>h) rfl rfl rfl (.inr hS) ?_;apply WD.idx 24 ((j+1) % (m+1)) (ov+(j+1) % (m+1)*6) rfl jG rfl rfl (fun _ _ _ _ _ h=>h) rfl rfl rfl rfl rfl rfl ub rfl (.inr hS);apply kG 25 [26,27] (fun wx hx=>fun q u hu=>((P wx hx).cell (p:=Aq bv (ov+(j+1) % (m+1)*6+q)) hbv).trans (arU q u hu)) QR hS;apply jS 26;have hTx:=A0.below hS;apply WL.call rfl rfl rfl rfl rfl func20 rfl jG (F1 hTx hTx.set CS A0.has ⟨Vw.AR ⟨I,I⟩,by show fs.size<=maxLen;unfold maxLen;omega⟩ (V4.below (P _ hS)) (hyv.below (P _ hS)) nO xl);rintro _ w9 ⟨rfl,b9⟩;refine⟨_,rfl,?_⟩;have c9:=hS.trans (b9.mono hS.size);clear hS hTx b9;apply(jZ)
 (apply ke 27 rfl _)
 apply(jD);apply G _;exact WQ.again (j+1) ⟨rfl,rfl,rfl,rfl,rfl,rfl,rfl,trivial⟩ ⟨OW,c9⟩ (by omega)
end Ix
open Go.ChangeShapes Go.WideShapes Go.ChangeAt
namespace K
section
variable {H:Type}{enc:TypeId×Value->H}{W:World}{base:Nat}{held:Bool}
theorem Ul {b0:Nat}{r:Reach}{v:Value}{d:DataW H}{p:List MemPlace}(wY:Value.okWide prog W r b0 22 v)(h:DataW.Trod enc prog W base (fun _=>true) held 22 v d p):
  (∀n∈d.weights prog 22,n<=reachBytes)->∃l,AI W v l:=by
 intro hz;obtain⟨a,len,cap,rfl⟩:=okWide_slice eG wY;obtain⟨fuel,hf⟩:=h;obtain⟨l,h1,-⟩:=JV (v:=.slice a len cap) hf hz;exact⟨l,h1⟩
end
end K
end Go.Proofs.YtlenklobbngopaaGreat
namespace Go.Proofs.YtlenklobbngopaaGreat.indexPlays
open _root_.Go.Proofs.Tryz
open Go.ChangeShapes Go.WideShapes Go.ChangeAt Go.RowKit
open Go.ChangeMaps (open_string shut_string)
open Go.Proofs.YtlenklobbngopaaGreat
theorem lifted (os:Os)(started:os.Started)(H:Type)(enc:TypeId×Value->H):
  ReturnsInHanded {} Tryz.checked os 5 .any (Rows.indexPlaysSpec.pre6 enc prog Tryz.f5 Rows.indexPlaysRow.domain false) (Rows.indexPlaysSpec.post enc prog Tryz.f5 false true false false):=by
 refine fS (C:=Tryz.checked) Tryz.ownKnob started jG func5
  (ChangeSpec.witness6 (enc:=enc) (C:=Tryz.checked) false ⟨#[],#[kP,kP,kP],[]⟩ 8 jG jG jG jG) ?_
 intro W base args ds gs before N4 hW atL lJ _;have wY:∀(j:Nat) t v,Tryz.f5.params[j]? = some t->args[j]? = some v->Value.okWide prog W .any base t v:=N4;have hW':=hW;obtain⟨p,q,hA0,hV,rfl,hfz,Ch⟩:=hW;have hA:DataW.TrodAll enc prog W 0 (fun _=>true) true Tryz.f5.params.toList args.toList ds p:=hA0;rw[Tryz.params5]at hA wY;obtain⟨v0,vs0,d0,ds0,p0,q0,aow,rfl,rfl,h0,r0⟩:=trodAll_cons hA;obtain⟨v1,vs1,d1,ds1,p1,q1,rfl,rfl,rfl,h1,r1⟩:=trodAll_cons r0;obtain⟨v2,vs2,d2,ds2,p2,q2,rfl,rfl,rfl,h2,r2⟩:=trodAll_cons r1;obtain⟨rfl,rfl,rfl⟩:=trodAll_nil r2;obtain rfl:args=#[v0,v1,v2]:=by cases args;simp_all
 obtain⟨rfl,rfl⟩:=trodVars_none hV;have k0:=h0;have lt0:∀x∈p0,x.block<W.heap.size:=by obtain⟨m,hm⟩:=k0;exact DataW.trod_lt m _ _ _ hm
 obtain⟨f0,l0,is0,ln0⟩:=Vw.JF (wY 0 43 v0 rfl rfl) h0 (fun n hn=>by have:=bY.1 lJ n (DataW.weights_mem_each (j:=0) rfl rfl n hn);simpa using this);have k1:=h1;have lt1:∀x∈p1,x.block<W.heap.size:=by obtain⟨m,hm⟩:=k1;exact DataW.trod_lt m _ _ _ hm
 obtain⟨l1,yz⟩:=K.Ul (wY 1 22 v1 rfl rfl) h1 (fun n hn=>by have:=bY.1 lJ n (DataW.weights_mem_each (j:=1) rfl rfl n hn);simpa using this);have k2:=h2;have lt2:∀x∈p2,x.block<W.heap.size:=by obtain⟨m,hm⟩:=k2;exact DataW.trod_lt m _ _ _ hm
 obtain⟨f2,l2,iv2,sm2,ln2⟩:=K.Nr (wY 2 23 v2 rfl rfl) h2 (fun n hn=>by have:=bY.1 lJ n (DataW.weights_mem_each (j:=2) rfl rfl n hn);simpa using this);clear hA0 N4;refine(Ix.YD is0 ln0 yz iv2 sm2).mono fun e W' ⟨he,Rq⟩=>?_;subst he;exact⟨_,rfl,_,_,_,[],_,[],hW',trodAll_mk1 (shut_bool underlying4 _),(eP (Below.trod Tryz.laid jG (aR jG) k0 Rq lt0) (eP (Below.trod Tryz.laid jG (aR jG) k1 Rq lt1) (eP (Below.trod Tryz.laid jG (aR jG) k2 Rq lt2) trodAll_mk0))),rfl,Rq.frame _,fun h=>by cases h⟩
theorem Tv: Rows.indexPlaysRow.holds Tryz.pinned (OpenSpec.ofChange Rows.indexPlaysSpec) :=
 iE 5 Tryz.f5 rfl rfl rfl rfl rfl rfl rfl ⟨rfl,rfl,rfl,rfl,rfl⟩ rfl rfl rfl rfl rfl jG func5 jG
  (aR jG) (by unfold Func.isWrapper;first|(rw[ag (by decide +kernel)];kernel_rfl)|(rw[aa (by decide +kernel)];exact⟨rfl,rfl⟩))
  (fun os started H enc _=>lifted os started H enc)
theorem proved: Rows.IndexPlaysSaid:=Tv
end Go.Proofs.YtlenklobbngopaaGreat.indexPlays
