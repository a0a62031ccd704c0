/- Texts for IxB, part 7 of 11. -/
import Derived.Test.YtlenklobbngopaaGreatZIxB6
set_option maxHeartbeats 64000000
set_option maxRecDepth 100000
set_option linter.all false
namespace Go.Proofs.YtlenklobbngopaaGreat
open _root_.Go.Proofs.Tryz
open Go.RowKit Go.Maps
variable {w:World}{vb D f N d b clock i m g u j:Nat}{M O:Nat -> Prop}{es:Array MapEntry}{bi pO a x c y:Int}{α:Type}{sp:Option Addr}{l:List Int}{g':Nat -> List Int}{st:Bool}{nx:Option Nat}
namespace Vw
open K
theorem Fi: lK prog 102 te 14 144:=lK.mk' (z:=.agg (jQ jf iy).toArray) underlying102 (by kernel_rfl) rfl gZ
theorem Gl {D:Nat -> Prop}{s:St}(h0:pD w vb M D (f+1) s N) {t d:Int}(ht:jX t) (hd:jX d):
  Calls prog 26 #[iF vb,Iq t,Iq d] w (acY w (f+1) (kQ s (t,d))):=by
 refine iY func26 ntmps26 ?_;refine ku ?_;refine ix (z:=.agg (jQ jf iy).toArray) (fun _=>by kernel_rfl) fun g6 w1 f1=>?_;have v6:h_ te w1 g6 (jQ jf iy):=f1.blk;have b1:=f1.below;have e6:=f1.eq;clear f1;have h1:=h0.below b1;have l6:=h_.lt v6;have z1:=b1.size;refine gY ?_;refine jc ?_;refine iu ?_;refine iE [Value.int .i64 t,Iq d] (Ek _ _) ?_;refine il func57 (Mp h1 ht hd) ?_;rintro _ wb ⟨oR,r,dc,b,rfl,hv,ok,sm,hm⟩;refine⟨_,rfl,?_⟩;have j7:=hv.len;refine gY ?_;refine ix (z:=.agg (jQ jf iy).toArray) (fun _=>by kernel_rfl) fun g8 wc f9=>?_;refine ir (hm:=(jO j7)) f9.blk (lF hv.one) ?_;obtain⟨v8,b3,-,-⟩:=mh (jQ r dc) oR f9;have hgq:=f9.eq;have bz:=oR.size;have nP:w1.heap.size <= g8:=gZ;have bcf:iB wb (wc.setRow g8 (jQ r dc).toArray):=(Cr.kC (K:=fun x=>x<wb.heap.size) (g:=g8) (ib.ic f9.below) (fun hh=>by omega) _).below;replace hv:=hv.ij (ib.ic bcf) (fun x hx hl=>hl) (fun _ h=>h);generalize wc.setRow g8 _=w3 at v8 b3 hv ⊢;clear f9 bcf;have h3:=h1.below b3;have bw:=b1.trans (b3.mono z1);have z3:=b3.size;replace v6:=h_.below v6 b3 l6;have l6':=h_.lt v6;have l8:=h_.lt v8;refine gY ?_;cases b with
 | false=>
  have hT:kQ s (t,d)=none:=by
   cases hh:kQ s (t,d) with
   | none=>rfl
   | some r'=>rw[hh] at hm;cases hm.2
  have Io:=(mD (fun _=>True) 0 w3).one;refine iu ?_;refine iE (jQ jf iy) xj ?_;refine ir v6 (lF Io) ?_;refine gY ?_;refine WQ.vF rfl rfl rfl rfl rfl (h_.setRow v6 _) ?_;rw[hT];exact⟨(Cr.kC (K:=fun x=>x<w.heap.size) (g:=g6) (ib.ic bw) (fun hh=>by omega) _).below,jf,iy,false,rfl,mD _ _ _,rfl,rfl⟩
 | true=>
  have hT:kQ s (t,d)=some r:=by
   cases hh:kQ s (t,d) with
   | none=>rw[hh] at hm;cases hm
   | some r'=>rw[hh] at hm;rw[hm.1]
  refine iu ?_;refine ig (h_.rangeAt v8) (jO j7) ?_;refine il func58 (Gj hv.td sm) ?_;rintro _ w7 ⟨b7,yl,rfl,HJ⟩;refine⟨_,rfl,?_⟩;replace v6:=h_.below v6 b7 l6';refine ir (hm:=(jO HJ.len)) v6 (lF HJ.one) ?_;have k7:ib (fun x=>x≠g6) w7 (w7.setRow g6 (jQ r yl).toArray):=Cr.kC (ib.refl _ _) iz _;have v7:=h_.setRow v6 (jQ r yl);generalize w7.setRow g6 _=w8 at v7 k7 ⊢;refine gY ?_;refine WQ.vF rfl rfl rfl (congrArg some (jO HJ.len)).symm rfl v7 ?_;rw[hT];exact⟨((ib.ic (bw.iR b7)).trans (k7.mono fun x (hx:x<w.heap.size) e=>by omega)).below,r,yl,true,rfl,HJ.ij k7 (fun x hx _ e=>by omega) (fun x hx=>by have:=bw.size;omega),rfl,rfl⟩
theorem vY {D:Nat -> Prop}{s:St}(h0:pD w vb M D (f+1) s N) {t:Int}(ht:jX t):
  Calls prog 30 #[iF vb,Iq t] w (BI w (f+1) (qv s t)):=by
 have mg:=tX t s.rows;have kK:s.rows.length <= N /\ N <= 1000000:=by obtain⟨cp,Oc,mr,md,mp,mn,k,F,h⟩:=id h0;have:=h.ok;omega
 have hdR:qv s t=(List.range (iQ t s.rows)).filterMap (fun(i:Nat)=>kQ s (t,(i:Int)+1)):=rfl;rw[hdR];refine iY func30 ntmps30 ?_;refine gY ?_;refine jc ?_;refine iu ?_;refine WC.loop (fun x:Nat × Value=>[(0,iF vb),(1,Iq t),(5,x.2),(6,Iq ((x.1:Int)+1))])
  (fun x w'=>x.1 <= iQ t s.rows /\ iB w w' /\ o7 te w.heap.size (f+1) w' x.2 ((List.range x.1).filterMap (fun(i:Nat)=>kQ s (t,(i:Int)+1)))) (fun x=>iQ t s.rows - x.1) (0,.slice none 0 0) iW
  ⟨aw _,Below.refl _ _,o7.nil _ _ _ _⟩ ?_
 rintro⟨d,v⟩ w1 ⟨hd,b1,iJ⟩;simp only at hd iJ;have h1:=h0.below b1;have z1:=b1.size;obtain⟨cp,Oc,mr,md,mp,mn,k,F,h⟩:=id h1;have c2:=h.pM.cell 2 iz;simp only[ax,al] at c2;have hl:=h.KH ht;have pG:=U4 (s:=s) (t:=t) d;generalize Lt:iQ t s.rows=c at *
 by_cases hdc:d<c
 case neg=>
  obtain rfl:d=c:=gZ;have nw:BI w (f+1) ((List.range d).filterMap (fun(i:Nat)=>kQ s (t,(i:Int)+1))) (.returned v) w1:=⟨b1,v,rfl,iJ.jt⟩;generalize (List.range d).filterMap (fun(i:Nat)=>kQ s (t,(i:Int)+1))=LL at nw;clear iJ pG;refine iu ?_;refine WL.look rfl rfl rfl rfl rfl rfl hl ?_;refine iu ?_;exact g_ nw
 case pos=>
 obtain⟨Dt,cpv,apH,-⟩:=iJ.jt;subst apH;refine iu ?_;refine WL.look rfl rfl rfl rfl rfl rfl hl ?_;refine iu ?_;refine iE [Value.int .i64 t,Iq ((d:Int)+1)] (Ek _ _) ?_;refine il func57 (Mp h1 ht (d:=(d:Int)+1) ⟨gZ,gZ⟩) ?_;rintro _ wb ⟨oR,r,dc,b,rfl,hv,ok,sm,hm⟩;refine⟨_,rfl,?_⟩;have j7:=hv.len;refine gY ?_;refine ix (z:=.agg (jQ jf iy).toArray) (fun _=>by kernel_rfl) fun g8 wc f9=>?_;refine ir (hm:=(jO j7)) f9.blk (lF hv.one) ?_;obtain⟨v8,b3,-,-⟩:=mh (jQ r dc) oR f9;have hgq:=f9.eq;have bz:=oR.size;have nP:w1.heap.size <= g8:=gZ;have bcf:iB wb (wc.setRow g8 (jQ r dc).toArray):=(Cr.kC (K:=fun x=>x<wb.heap.size) (g:=g8) (ib.ic f9.below) (fun hh=>by omega) _).below;replace hv:=hv.ij (ib.ic bcf) (fun x hx hl=>hl) (fun _ h=>h);generalize wc.setRow g8 _=w3 at v8 b3 hv ⊢;clear f9 bcf;have bw:=b1.trans (b3.mono z1);replace iJ:=iJ.below (b3.mono (af _));cases b with
 | false=>
  have hT:kQ s (t,(d:Int)+1)=none:=by
   cases hh:kQ s (t,(d:Int)+1) with
   | none=>rfl
   | some r'=>rw[hh] at hm;cases hm.2
  rw[hT,Option.toList_none,aS] at pG;refine gY ?_;refine WQ.again (d+1,_) iW ⟨hdc,bw,?_⟩ (by show c - (d+1)<c - d;omega)
  show o7 te _ (f+1) w3 _ ((List.range (d+1)).filterMap _)
  rw[pG];exact iJ
 | true=>
  have hT:kQ s (t,(d:Int)+1)=some r:=by
   cases hh:kQ s (t,(d:Int)+1) with
   | none=>rw[hh] at hm;cases hm
   | some r'=>rw[hh] at hm;rw[hm.1]
  rw[hT,dx] at pG;have KZ:((List.range d).filterMap (fun(i:Nat)=>kQ s (t,(i:Int)+1))).length <= d:=by
   have:=fU (fun(i:Nat)=>kQ s (t,(i:Int)+1)) (List.range d)
   rwa [List.length_range] at this
  generalize hLe:(List.range d).filterMap (fun(i:Nat)=>kQ s (t,(i:Int)+1))=LL at iJ KZ pG;refine iu ?_;refine ig (h_.rangeAt v8) (jO j7) ?_;refine il func58 (Gj hv.td sm) ?_;rintro _ wt ⟨bt,dct,rfl,hvt⟩;refine⟨_,rfl,?_⟩;have zb:=bw.size;have ct:=bw.trans (bt.mono zb);refine jR (hcs:=(jO hvt.len)) (cs:=jQ r dct) fun gl wd fd=>?_;have cd:=ct.iR fd.below;obtain⟨Dn,Uv,I3,aa9⟩:=iJ.snoc zb bt hvt fd.below ok sm;refine WL.snoc rfl rfl rfl rfl Fi rfl Uv rfl fd.blk I3.one I3.len I3 gZ gZ fun v9 we DM lL=>?_;have abf:=cd.trans (lL.old cd.size iJ.own);have oe:=aa9 DM lL;refine gY ?_;refine WQ.again (d+1,_) iW ⟨hdc,abf,?_⟩ (by show c - (d+1)<c - d;omega)
  show o7 te _ (f+1) we _ ((List.range (d+1)).filterMap _)
  rw[pG];exact oe
theorem N7 (L:List Rw) (x:Int × Int): (Vw.of L x).length <= L.length:=cY _ _
theorem JY {D:Nat -> Prop}{s:St}(h0:pD w vb M D f s N) (hN:N <= 100000) {t:Int}(ht:jX t):
  Calls prog 55 #[iF vb,Iq t] w (BI w f (qq s t)):=by
 obtain⟨cp,Oc,mr,md,mp,mn,k,F,h⟩:=id h0;have mg:=tX t s.rows;have kK:=h.ok;have hdR:qq s t=(List.range (iQ t s.rows)).flatMap (fun(i:Nat)=>Vw.of s.rows (t,(i:Int)+1)):=rfl;rw[hdR];refine iY func55 ntmps55 ?_;refine gY ?_;refine jc ?_;refine iu ?_;refine WC.loop (fun x:Nat × Value=>[(0,iF vb),(1,Iq t),(5,x.2),(6,Iq ((x.1:Int)+1))])
  (fun x w'=>x.1 <= iQ t s.rows /\ iB w w' /\ ∃LL,LL=(List.range x.1).flatMap (fun(i:Nat)=>Vw.of s.rows (t,(i:Int)+1)) /\ LL.length <= x.1*s.rows.length /\ o7 te w.heap.size f w' x.2 LL) (fun x=>iQ t s.rows - x.1) (0,.slice none 0 0) iW
  ⟨aw _,Below.refl _ _,[],rfl,iz,o7.nil _ _ _ _⟩ ?_
 rintro⟨d,v⟩ w1 ⟨hd,b1,LL,KZ,Uq,iJ⟩;simp only at hd iJ KZ Uq;have h1:=h.below b1;have z1:=b1.size;have c1:=h1.pM.cell 1 iz;have c2:=h1.pM.cell 2 iz;simp only[ax,al] at c1 c2;have hl:=h1.KH ht;have av7:=mg;generalize Lt:iQ t s.rows=c at *
 by_cases hdc:d<c
 case neg=>
  obtain rfl:d=c:=gZ;subst KZ;have nw:BI w f ((List.range d).flatMap (fun(i:Nat)=>Vw.of s.rows (t,(i:Int)+1))) (.returned v) w1:=⟨b1,v,rfl,iJ.jt⟩;generalize (List.range d).flatMap (fun(i:Nat)=>Vw.of s.rows (t,(i:Int)+1))=LL at nw;clear iJ Uq;refine iu ?_;refine WL.look rfl rfl rfl rfl rfl rfl hl ?_;refine iu ?_;exact g_ nw
 case pos=>
 have kU:=h.jt (t,(d:Int)+1);have jh:jX ((d:Int)+1):=⟨gZ,gZ⟩;have u7:=h1.T8 (x:=(t,(d:Int)+1)) ht jh;have hLs:(List.range (d+1)).flatMap (fun(i:Nat)=>Vw.of s.rows (t,(i:Int)+1))=LL++Vw.of s.rows (t,(d:Int)+1):=by rw[dE,ai,KZ];simp
 have hJl:=N7 s.rows (t,(d:Int)+1);have mj:LL.length <= 100000*100000:=aU Uq (Nat.mul_le_mul gZ gZ);generalize (F (t,(d:Int)+1)).getD (.slice none 0 0)=sv at kU u7;generalize Vw.of s.rows (t,(d:Int)+1)=J at kU hLs hJl;obtain⟨Dt,cpv,rfl,aaG,ao0,-⟩:=id kU;refine iu ?_;refine WL.look rfl rfl rfl rfl rfl rfl hl ?_;refine iu ?_;refine iE [Value.int .i64 t,Iq ((d:Int)+1)] (Ek _ _) ?_;refine WL.look rfl rfl rfl rfl rfl rfl u7 ?_;refine gY ?_;refine WC.loop (fun x:Nat × Value=>[(0,iF vb),(1,Iq t),(5,x.2),(6,Iq ((d:Int)+1)),(28,.slice Dt J.length cpv),(29,Iq (J.length:Nat)),(30,Iq x.1)])
  (fun x w'=>x.1 <= J.length /\ iB w w' /\ o7 te w.heap.size f w' x.2 (LL++J.take x.1)) (fun x=>J.length - x.1) (0,v) iW
  ⟨aw _,b1,by simpa using iJ⟩ ?_
 clear iJ c1 c2 hl u7 h1 z1;rintro⟨q,v2⟩ w2 ⟨hq,b2,iJ⟩;simp only at hq iJ
 by_cases hqJ:q<J.length
 case neg=>
  obtain rfl:q=J.length:=gZ;rw[aI] at iJ;refine gY ?_;refine WQ.again (d+1,v2) iW ⟨hdc,b2,_,hLs.symm,?_,iJ⟩ (by show c - (d+1)<c - d;omega);rw[aa,gj];omega
 case pos=>
 obtain⟨b9,o9,pr,dc,es,qU,-,R9,p5,ok,sm⟩:=mw kU hqJ;obtain⟨rfl,rfl⟩:Dt=some ⟨b9,o9,none⟩ /\ cpv=pr:=by simpa using es
 clear es;have ji:J.take (q+1)=J.take q++[J.getD q jf]:=by rw[aJ,ah hqJ,jW hqJ];rfl
 generalize J.getD q jf=r at R9 p5 ok sm ji;have R2:=R9.below (ib.ic b2) qU;have j7:=p5.len;have x3:=R2.all;have L8:(LL++J.take q).length <= 100000*100000+100000:=by
  rw[aa,aE];omega
 have z2:=b2.size;obtain⟨sj,LS,B7,-⟩:=iJ.jt;subst B7;refine gY ?_;refine iG q (o9+q*14) hqJ ?_;refine ig x3 (jO j7) ?_;refine ix (z:=.agg (jQ jf iy).toArray) (fun _=>by kernel_rfl) fun g8 wc f9=>?_;refine ir (hm:=(jO j7)) f9.blk (lF p5.one) ?_;obtain⟨v8,b3,-,-⟩:=mh (jQ r dc) (Below.refl w2.heap.size w2) f9;generalize wc.setRow g8 _=w3 at v8 b3 ⊢;clear f9;have bw:=b2.trans (b3.mono z2);replace iJ:=iJ.below b3;have hv:=p5.ij (ib.ic bw) (fun x hx _=>h.lt x (.inr hx)) (fun _ h=>h);have hrm:(LL++J.take (q+1))=(LL++J.take q)++[r]:=by rw[ji,ao]
 generalize LL++J.take q=LJ at L8 iJ hrm;refine gY ?_;refine ig (h_.rangeAt v8) (jO j7) ?_;refine il func58 (Gj hv.td sm) ?_;rintro _ wt ⟨bt,dct,rfl,hvt⟩;refine⟨_,rfl,?_⟩;have zb:=bw.size;have ct:=bw.trans (bt.mono zb);refine jR (hcs:=(jO hvt.len)) (cs:=jQ r dct) fun gl wd fd=>?_;have cd:=ct.iR fd.below;obtain⟨Dn,Uv,I3,aa9⟩:=iJ.snoc zb bt hvt fd.below ok sm;refine WL.snoc rfl rfl rfl rfl Fi rfl Uv rfl fd.blk I3.one I3.len I3 gZ gZ fun v9 we DM lL=>?_;have abf:=cd.trans (lL.old cd.size iJ.own);have oe:=aa9 DM lL;refine gY ?_;refine WQ.again (q+1,_) iW ⟨hqJ,abf,?_⟩ (by show J.length - (q+1)<J.length - q;omega)
 show o7 te _ f we _ (LL++J.take (q+1))
 rw[hrm];exact oe
open K
theorem PO (hb:w.heap[b]? = some (.map es clock)):
  Calls prog 49 #[.map (some b)] w fun e w'=>e=.returned (.map (some w.heap.size)) /\ w'=w.alloc (.map es clock):=by
 have hq:=fun w=>run_eql_map_nil_sl (P:=prog) w 127 _ _ (some b) underlying127
 go_enter func49,ntmps49
 go_wp2
 rw[dn func78 (by kernel_rfl) (by kernel_rfl) (by kernel_rfl) (e:=Extern.MapsClone.clone) (by kernel_rfl),run_maps_clone_sl _ 127 hb];simp only[Result.andThen];rw[cm]
 go_wp2
 rw[cZ _ 127 _ _ _ _ underlying127];simp only[Result.andThen];rw[cm]
 go_wp2
 go_ret
 exact⟨rfl,rfl⟩
theorem So (hb:w.heap[b]? = some (.map es clock)):
  Calls prog 50 #[.map (some b)] w fun e w'=>e=.returned (.map (some w.heap.size)) /\ w'=w.alloc (.map es clock):=by
 have hq:=fun w=>run_eql_map_nil_sl (P:=prog) w 128 _ _ (some b) underlying128
 go_enter func50,ntmps50
 go_wp2
 rw[dn func78 (by kernel_rfl) (by kernel_rfl) (by kernel_rfl) (e:=Extern.MapsClone.clone) (by kernel_rfl),run_maps_clone_sl _ 128 hb];simp only[Result.andThen];rw[cm]
 go_wp2
 rw[cZ _ 128 _ _ _ _ underlying128];simp only[Result.andThen];rw[cm]
 go_wp2
 go_ret
 exact⟨rfl,rfl⟩
theorem PZ (hb:w.heap[b]? = some (.map es clock)):
  Calls prog 51 #[.map (some b)] w fun e w'=>e=.returned (.map (some w.heap.size)) /\ w'=w.alloc (.map es clock):=by
 have hq:=fun w=>run_eql_map_nil_sl (P:=prog) w 129 _ _ (some b) underlying129
 go_enter func51,ntmps51
 go_wp2
 rw[dn func78 (by kernel_rfl) (by kernel_rfl) (by kernel_rfl) (e:=Extern.MapsClone.clone) (by kernel_rfl),run_maps_clone_sl _ 129 hb];simp only[Result.andThen];rw[cm]
 go_wp2
 rw[cZ _ 129 _ _ _ _ underlying129];simp only[Result.andThen];rw[cm]
 go_wp2
 go_ret
 exact⟨rfl,rfl⟩
theorem SF (hb:w.heap[b]? = some (.map es clock)):
  Calls prog 52 #[.map (some b)] w fun e w'=>e=.returned (.map (some w.heap.size)) /\ w'=w.alloc (.map es clock):=by
 have hq:=fun w=>run_eql_map_nil_sl (P:=prog) w 130 _ _ (some b) underlying130
 go_enter func52,ntmps52
 go_wp2
 rw[dn func78 (by kernel_rfl) (by kernel_rfl) (by kernel_rfl) (e:=Extern.MapsClone.clone) (by kernel_rfl),run_maps_clone_sl _ 130 hb];simp only[Result.andThen];rw[cm]
 go_wp2
 rw[cZ _ 130 _ _ _ _ underlying130];simp only[Result.andThen];rw[cm]
 go_wp2
 go_ret
 exact⟨rfl,rfl⟩
theorem abj (p:Addr) (a b c d:Nat) (x:Int): prog.built XS [(0,.pointer (some p)),(1,.map (some a)),(2,.map (some b)),(3,.map (some c)),(4,.map (some d)),(5,Iq x)]=some [Value.pointer (some p),.map (some a),.map (some b),.map (some c),.map (some d),Iq x].toArray:=by kernel_rfl
theorem Rf (p:Addr) (a b c d:Nat): prog.built XS [(0,.pointer (some p)),(1,.map (some a)),(2,.map (some b)),(3,.map (some c)),(4,.map (some d))]=some [Value.pointer (some p),.map (some a),.map (some b),.map (some c),.map (some d),Iq 0].toArray:=by kernel_rfl
theorem YK: uv []=fun _=>none:=by funext t;rfl
theorem Zz: ql []=fun _=>none:=by funext t;rfl
theorem Vb: As (fun _=>false)=fun _=>none:=by funext t;rfl
theorem Mf: Calls prog 38 #[] w fun e w'=>∃vb M,e=.returned (.pointer (some ⟨vb,0,none⟩)) /\ pD w' vb M (fun _=>False) f r_ 0 /\ Below w.heap.size w w' /\ ∀b,M b -> w.heap.size <= b:=by
 refine iY func38 ntmps38 ?_;refine gY ?_;refine il func68 (Cat.aeo w) ?_;rintro _ w1 ⟨Oc,rfl,hc,b1,wI⟩;refine⟨_,rfl,?_⟩;have mg:=hc.lt;generalize w.heap.size+1=cp at hc ⊢;refine WL.mkMap rfl rfl rfl rfl ?_;have hr:=MF.made prog Fv lR w1;have b2:Below w1.heap.size w1 (w1.alloc (.map #[] 0)):=(Below.refl _ w1).alloc (af _) _;have z2:(w1.alloc (.map #[] 0)).heap.size=w1.heap.size+1:=by show(w1.heap.push _).size=_;simp
 obtain⟨mr,e2⟩:∃mr,mr=w1.heap.size:=⟨_,rfl⟩;rw[<- e2] at hr ⊢;generalize w1.alloc (.map #[] 0)=w2 at hr b2 z2 ⊢;refine WL.mkMap rfl rfl rfl rfl ?_;have hd:=MF.made prog iT LG w2;have b3:Below w2.heap.size w2 (w2.alloc (.map #[] 0)):=(Below.refl _ w2).alloc (af _) _;have z3:(w2.alloc (.map #[] 0)).heap.size=w2.heap.size+1:=by show(w2.heap.push _).size=_;simp
 obtain⟨md,e3⟩:∃md,md=w2.heap.size:=⟨_,rfl⟩;rw[<- e3] at hd ⊢;generalize w2.alloc (.map #[] 0)=w3 at hd b3 z3 ⊢;refine WL.mkMap rfl rfl rfl rfl ?_;have hp:=MF.made prog uY lR w3;have b4:Below w3.heap.size w3 (w3.alloc (.map #[] 0)):=(Below.refl _ w3).alloc (af _) _;have z4:(w3.alloc (.map #[] 0)).heap.size=w3.heap.size+1:=by show(w3.heap.push _).size=_;simp
 obtain⟨mp,e4⟩:∃mp,mp=w3.heap.size:=⟨_,rfl⟩;rw[<- e4] at hp ⊢;generalize w3.alloc (.map #[] 0)=w4 at hp b4 z4 ⊢;refine WL.mkMap rfl rfl rfl rfl ?_;have hn:=MF.made prog uY lR w4;have b5:Below w4.heap.size w4 (w4.alloc (.map #[] 0)):=(Below.refl _ w4).alloc (af _) _;have z5:(w4.alloc (.map #[] 0)).heap.size=w4.heap.size+1:=by show(w4.heap.push _).size=_;simp
 obtain⟨mn,e5⟩:∃mn,mn=w4.heap.size:=⟨_,rfl⟩;rw[<- e5] at hn ⊢;generalize w4.alloc (.map #[] 0)=w5 at hn b5 z5 ⊢;refine WL.build [Value.pointer (some ⟨cp,0,none⟩),.map (some mr),.map (some md),.map (some mp),.map (some mn),.int .i64 0] rfl rfl rfl rfl rfl (Rf _ _ _ _ _) ?_;refine iC fun vb w6 f6=>?_;refine gY ?_;have e6:=f6.eq;have s6:=f6.size;have b6:=f6.below;have z1:=b1.size;have c3:=b2.trans (b3.mono b2.size);have c4:=c3.trans (b4.mono c3.size);have c5:=c4.trans (b5.mono c4.size);have c6:=c5.trans (b6.mono c5.size);refine g_ ⟨vb,fun b=>Oc b \/ b=mr \/ b=md \/ b=mp \/ b=mn \/ b=vb,rfl,⟨cp,Oc,mr,md,mp,mn,0,fun _=>none,⟨f6.blk,hc.below c6 (af _),
  hr.below ((b3.trans ((b4.trans ((b5.trans (b6.mono b5.size)).mono b4.size)).mono b3.size))) (by omega),fun x=>lA.nil _ _ _ _ _,?_,?_,?_,by simp,by simp,by simp,by simp,by simp,fun b hb=>.inl hb,?_,⟨⟨by omega,by omega,by omega⟩,⟨by omega,by omega⟩,by omega⟩,?_,(fun _ _ h=>h),⟨af _,af _,af _,by omega⟩⟩⟩,b1.trans (c6.mono z1),?_⟩
 ·show MF prog iT LG w6 md 0 (uv [])
  rw[YK];exact hd.below (b4.trans ((b5.trans (b6.mono b5.size)).mono b4.size)) (by omega)
 ·show MF prog uY lR w6 mp 0 (ql [])
  rw[Zz];exact hp.below (b5.trans (b6.mono b5.size)) (by omega)
 ·show MF prog uY lR w6 mn 0 (As fun _=>false)
  rw[Vb];exact hn.below b6 (by omega)
 ·exact⟨fun q=>by have:=mg _ q;omega,fun q=>by have:=mg _ q;omega,fun q=>by have:=mg _ q;omega,fun q=>by have:=mg _ q;omega,fun q=>by have:=mg _ q;omega⟩
 ·rintro b ((hb|hb|hb|hb|hb|hb)|hb)
  ·have:=mg _ hb;omega
  ·omega
  ·omega
  ·omega
  ·omega
  ·omega
  ·exact hb.elim
 ·rintro b (hb|hb|hb|hb|hb|hb)
  ·exact wI b hb
  all_goals omega
theorem CX {D:Nat -> Prop}{s:St}(h0:pD w vb M D f s N):
  Calls prog 21 #[iF vb] w fun e w'=>∃Fy M',e=.returned (.pointer (some ⟨Fy,0,none⟩)) /\ pD w' Fy M' D f s N /\ iB w w' /\ ∀b,M' b -> w.heap.size <= b:=by
 obtain⟨cp,Oc,mr,md,mp,mn,k,F,h⟩:=id h0;have c0:=h.pM.cell 0 iz;have c1:=h.pM.cell 1 iz;have c2:=h.pM.cell 2 iz;have c3:=h.pM.cell 3 iz;have c4:=h.pM.cell 4 iz;have c5:=h.pM.cell 5 iz;simp only[ax,al] at c0 c1 c2 c3 c4 c5;have tZ:=h.lt vb (.inl h.tG);refine iY func21 ntmps21 ?_;refine gY ?_;refine jc ?_;refine iu ?_;refine WC.drawn 29 (iB w) fun wa jh=>?_;have hS:iB w wa:=jh.below _;refine iq [0,1,2] hS ?_;refine ik 3 [4,9,14,19,24,29,30,31] (jZ tZ c0) hS ?_;refine iq [5,6,7] hS ?_;refine ik 8 [9,14,19,24,29,30,31] (jZ tZ c1) hS ?_;refine iq [10,11,12] hS ?_;refine ik 13 [14,19,24,29,30,31] (jZ tZ c2) hS ?_;refine iq [15,16,17] hS ?_;refine ik 18 [19,24,29,30,31] (jZ tZ c3) hS ?_;refine iq [20,21,22] hS ?_;refine ik 23 [24,29,30,31] (jZ tZ c4) hS ?_;refine iq [25,26,27] hS ?_;refine ik 28 [29,30,31] (jZ tZ c5) hS ?_;refine iI 4 ?_;refine il func48 (Cr.Us (h.below hS).cat) ?_;rintro _ w1 ⟨c',O',rfl,IZ,bc,hO'⟩;refine⟨_,rfl,?_⟩;have S1:=hS.iR bc;refine km S1 ?_;have mg:=IZ.lt;have z0:=hS.size;have z1:=bc.size;obtain⟨es0,ar3,ZQ,hr⟩:=K.MF.clone (h.below S1).rows;refine iI 9 ?_;refine i_ func49 (PO ZQ) ?_;rintro w2 e2
 have b2:=e2 ▸ (Below.refl _ _).alloc (af _) _;have z2:w2.heap.size=w1.heap.size+1:=by rw[e2];show(w1.heap.push _).size=_;simp
 rw[<- e2] at hr;clear ZQ e2;have S2:=S1.iR b2;refine km S2 ?_;obtain⟨mr',x0⟩:∃mr',mr'=w1.heap.size:=⟨_,rfl⟩;rw[<- x0] at hr ⊢;obtain⟨es1,ar8,DO,hd⟩:=K.MF.clone (h.below S2).uQ;refine iI 14 ?_;refine i_ func50 (So DO) ?_;rintro w3 e3
 have b3:=e3 ▸ (Below.refl _ _).alloc (af _) _;have z3:w3.heap.size=w2.heap.size+1:=by rw[e3];show(w2.heap.push _).size=_;simp
 rw[<- e3] at hd;clear DO e3;have S3:=S2.iR b3;refine km S3 ?_;obtain⟨UH,x1⟩:∃UH,UH=w2.heap.size:=⟨_,rfl⟩;rw[<- x1] at hd ⊢;obtain⟨Lp,ar6,u9,hp⟩:=K.MF.clone (h.below S3).uS;refine iI 19 ?_;refine i_ func51 (PZ u9) ?_;rintro w4 e4
 have b4:=e4 ▸ (Below.refl _ _).alloc (af _) _;have z4:w4.heap.size=w3.heap.size+1:=by rw[e4];show(w3.heap.push _).size=_;simp
 rw[<- e4] at hp;clear u9 e4;have S4:=S3.iR b4;refine km S4 ?_;obtain⟨mp',x2⟩:∃mp',mp'=w3.heap.size:=⟨_,rfl⟩;rw[<- x2] at hp ⊢;obtain⟨es3,ar7,hm3,hn⟩:=K.MF.clone (h.below S4).uM;refine iI 24 ?_;refine i_ func52 (SF hm3) ?_;rintro w5 e5
 have b5:=e5 ▸ (Below.refl _ _).alloc (af _) _;have z5:w5.heap.size=w4.heap.size+1:=by rw[e5];show(w4.heap.push _).size=_;simp
 rw[<- e5] at hn;clear hm3 e5;have S5:=S4.iR b5;refine km S5 ?_;obtain⟨mn',x3⟩:∃mn',mn'=w4.heap.size:=⟨_,rfl⟩;rw[<- x3] at hn ⊢;refine iI 29 ?_;refine iE [Value.pointer (some ⟨c',0,none⟩),.map (some mr'),.map (some UH),.map (some mp'),.map (some mn'),Iq s.n] (abj _ _ _ _ _ _) ?_;refine iO ?_;refine iI 30 ?_;refine iC fun Fy w6 f6=>?_;refine iO ?_
 (refine js 31 rfl (q:=?_))
 refine im ?_;refine gY ?_;have e6:=f6.eq;have s6:=f6.size;have b6:=f6.below;have q3:=b2.iR b3;have q4:=q3.iR b4;have q5:=q4.iR b5;have q6:=q5.iR b6;have S6:=S5.iR b6;have hk:=h.below S6;have iS:=h.lt;have zz:=S6.size;refine g_ ⟨Fy,fun b=>O' b \/ b=mr' \/ b=UH \/ b=mp' \/ b=mn' \/ b=Fy,rfl,⟨c',O',mr',UH,mp',mn',k,F,⟨f6.blk,IZ.below q6 (af _),
  hr.below ((b3.trans ((b4.trans ((b5.iR b6).mono b4.size)).mono b3.size))) gZ,hk.jt,hd.below (b4.trans ((b5.iR b6).mono b4.size)) gZ,hp.below (b5.iR b6) gZ,hn.below b6 gZ,iz,iz,iz,iz,iz,fun b hb=>.inl hb,?_,⟨⟨gZ,gZ,gZ⟩,⟨gZ,gZ⟩,gZ⟩,?_,?_,h.ok⟩⟩,S6,?_⟩
 ·exact⟨fun q=>by have:=mg _ q;omega,fun q=>by have:=mg _ q;omega,fun q=>by have:=mg _ q;omega,fun q=>by have:=mg _ q;omega,fun q=>by have:=mg _ q;omega⟩
 ·rintro b ((hb|hb|hb|hb|hb|hb)|hb)
  ·have:=mg _ hb;omega
  ·omega
  ·omega
  ·omega
  ·omega
  ·omega
  ·exact hk.lt b (.inr hb)
 ·rintro b (hb|hb|hb|hb|hb|hb) hd
  ·have:=hO' b hb;have:=iS b (.inr hd);omega
  all_goals (have:=iS b (.inr hd);omega)
 ·rintro b (hb|hb|hb|hb|hb|hb)
  ·have:=hO' b hb;omega
  all_goals omega
theorem rX {D:Nat -> Prop}{s:St}{cp:Nat}{Oc:Nat -> Prop}{mr md mp mn k:Nat}{F:Int × Int -> Option Value}(h:PV w vb M D f s cp Oc mr md mp mn k N F):
  Calls prog 24 #[iF vb] w fun e w'=>e=.returned (iF cp) /\ w'=w:=by
 have c0:=h.pM.cell 0 iz;simp only[al] at c0;refine iY func24 ntmps24 ?_;refine gY ?_;refine jc ?_;refine iu ?_;exact g_ ⟨rfl,rfl⟩
open K (En Bk zV jS tI)
open Cat (Tb kt mW ju)
structure Inv (s:St):Prop where
 lj:∀r∈s.rows,(ju s.cat r.lj).2.2=0
 doc:∀r∈s.rows,1 <= r.doc /\ r.doc <= iQ r.lj s.rows
 iZ:∀k,(Vw.of s.rows k).map Rw.iZ=(List.range (Vw.of s.rows k).length).map fun i:Nat=>(i:Int)
 oV:(s.rows.map Rw.lG).Nodup
 red:∀a,s.red a=true -> ∃r∈s.rows,r.lG=a
def EU (s:St) (bi k:Int):Prop:=∀r∈s.rows,r.blk<bi \/ (r.blk=bi /\ r.ni<k)
theorem EY (L:List Rw) (r:Rw) (k:Int × Int): Vw.of (L++[r]) k=Vw.of L k++if r.key=k then[r] else[]:=by
 unfold Vw.of;rw[bW,cA]
 by_cases h:r.key=k
 ·rw[if_pos h,if_pos (by simpa using h)];rfl
 ·rw[if_neg h,if_neg (by simpa using h)];rfl
theorem yw (t:Int) (L:List Rw) (r:Rw): iQ t (L++[r])=iQ t L+if r.lj=t /\ r.iZ=0 then 1 else 0:=by
 unfold iQ;rw[bW,cA,aa]
 by_cases h:r.lj=t /\ r.iZ=0
 ·rw[if_pos h,if_pos (by simpa using h)];rfl
 ·rw[if_neg h,if_neg (by simpa using h)];rfl
theorem Inv.last {s:St}(h:Inv s) {k:Int × Int}{r:Rw}(hl:(Vw.of s.rows k).getLast? = some r): r.iZ+1=(Vw.of s.rows k).length:=by
 have hv:=h.iZ k;have h1:((Vw.of s.rows k).map Rw.iZ).getLast? = some r.iZ:=by rw[List.getLast?_map,hl];rfl
 rw[hv] at h1;obtain⟨n,hn⟩:∃n,n=(Vw.of s.rows k).length:=⟨_,rfl⟩;rw[<- hn] at h1 ⊢;cases n with
 | zero=>simp at h1
 | succ n=>
  rw[dE,aK] at h1;simp at h1
  omega
theorem Inv.none {s:St}(h:Inv s) {t d:Int}(hd:d<1 \/ (iQ t s.rows:Int)<d): Vw.of s.rows (t,d)=[]:=by
 unfold Vw.of;rw[cz];intro r hr hk;have AK:r.key=(t,d):=by simpa using hk
 have h1:r.lj=t:=congrArg Prod.fst AK;have h2:r.doc=d:=congrArg Prod.snd AK;have:=h.doc r hr;rw[h1,h2] at this;omega
def IX (s:St) (e:En):Bool :=
 if e.kind=2 /\ e.iZ=0 then decide (e.doc=next s e.table)
 else match(Vw.of s.rows (e.table,e.doc)).getLast? with
  | some r=>!r.del && decide (e.iZ=(Vw.of s.rows (e.table,e.doc)).length)
  | none=>false
theorem FB {e:En}(h:jS e) (hk:e.kind=2 \/ e.kind=3): (1 <= e.table /\ e.table <= 64) /\ (1 <= e.doc /\ e.doc <= 65536) /\ (0 <= e.iZ /\ e.iZ <= 2147483648) /\ (e.kind=3 -> 1 <= e.iZ):=by
 unfold jS at h;rcases hk with hk|hk
 ·rw[if_neg gZ,if_pos hk] at h
  exact⟨h.1,h.2.1,h.2.2.1,fun q=>by omega⟩
 ·rw[if_neg gZ,if_neg gZ,if_pos hk] at h
  exact⟨h.1,h.2.1,⟨gZ,h.2.2.1.2⟩,fun _=>h.2.2.1.1⟩
theorem Inv.fit {s:St}(h:Inv s) {e:En}(hf:jS e) (hk:e.kind=2 \/ e.kind=3): fits s e=IX s e := by
  obtain⟨-, -, hv, h3⟩ := FB hf hk; unfold fits IX
  by_cases h0:e.iZ=0
  · have:e.kind=2 := hk.elim id fun q=>(by have:=h3 q; omega)
    rw[if_pos h0, if_pos ⟨this, h0⟩]
  · rw[if_neg h0, if_neg (fun q=>h0 q.2)]
    cases hl:(Vw.of s.rows (e.table, e.doc)).getLast? with
    | none=>rfl
    | some r=>
      have := h.last hl; simp only
      congr 1
      exact cq.2 ⟨fun q=>by omega, fun q=>by omega⟩
theorem yZ {L:List Rw}(hi:i<L.length): ∃A B,L=A++L.getD i jf :: B /\ A.length=i /\ ∀x,L.set i x=A++x :: B:=by
 have e:L=L.take i++(L.getD i jf :: L.drop (i+1)):=by
  rw[jW hi,<- bp hi,aL]
 have hl:(L.take i).length=i:=by rw[aE];omega
 refine⟨_,_,e,hl,fun x=>?_⟩;rw[c_,if_pos hi]
theorem vl (A B:List Rw) (r:Rw) (k:Int × Int): Vw.of (A++r :: B) k=Vw.of A k++((if r.key=k then[r] else[])++Vw.of B k):=by
 unfold Vw.of;rw[bW,cA]
 by_cases h:r.key=k
 ·rw[if_pos h,if_pos (by simpa using h)];rfl
 ·rw[if_neg h,if_neg (by simpa using h)];rfl
theorem JZ (A B:List Rw) (r:Rw) (t:Int): iQ t (A++shut r :: B)=iQ t (A++r :: B):=by
 unfold iQ;rw[bW,bW,cA,cA,aa,aa]
 by_cases h:r.lj=t /\ r.iZ=0
 ·rw[if_pos (by simpa using(show(shut r).lj=t /\ (shut r).iZ=0 from h)),if_pos (by simpa using h)];rfl
 ·rw[if_neg (by simpa using(show ¬((shut r).lj=t /\ (shut r).iZ=0) from h)),if_neg (by simpa using h)]
theorem YX (L:List Tb) (kind:Int) (txt:ByteArray) (tbl:Int): L.length <= (mW L kind txt tbl).length:=by
 unfold mW
 split
 ·split
  ·simp
  ·split
   ·simp
   ·split
    ·simp
    ·exact af _
 ·exact af _
theorem ahb {L L':List Tb}(h:L.length <= L'.length) {t:Int}(h0:(ju L t).2.2=0): (ju L' t).2.2=0:=by
 unfold ju at h0 ⊢
 by_cases hc:1 <= t /\ t <= L.length
 ·rw[if_pos gZ]
 ·rw[if_neg hc] at h0
  exact absurd h0 j9
theorem Inv.snoc {s:St}(h:Inv s) {e:En}{k:Int}(hu:EU s bi k) (hf:jS e) (hk:e.kind=2 \/ e.kind=3) (ht:(ju s.cat e.table).2.2=0) (hfit:fits s e=true):
  Inv { s with rows:=s.rows++[rowOf e bi k pO]} /\ EU { s with rows:=s.rows++[rowOf e bi k pO]} bi (k+1):=by
 obtain⟨-,hd,hv,h3⟩:=FB hf hk;have uL:∀r∈s.rows,r.lG≠(bi,k):=fun r hr q=>by
  have q1:r.blk=bi:=congrArg Prod.fst q;have q2:r.ni=k:=congrArg Prod.snd q;have:=hu r hr;omega
 have KU:∀x,iQ x s.rows <= iQ x (s.rows++[rowOf e bi k pO]):=fun x=>by rw[yw];omega
 refine⟨⟨fun r hr=>?_,fun r hr=>?_,fun x=>?_,?_,fun a ha=>?_⟩,fun r hr=>?_⟩
 ·rcases aq.1 hr with hr|hr
  ·exact h.lj r hr
  ·rw[aZ.1 hr];exact ht
 ·rcases aq.1 hr with hr|hr
  ·have:=h.doc r hr;have:=KU r.lj;exact⟨gZ,by show r.doc <= (iQ r.lj (s.rows++[rowOf e bi k pO]):Nat);omega⟩
  ·rw[aZ.1 hr]
   show 1 <= e.doc /\ e.doc <= (iQ e.table (s.rows++[rowOf e bi k pO]):Nat)
   refine⟨hd.1,?_⟩;rw[yw];unfold fits at hfit
   by_cases h0:e.iZ=0
   ·rw[if_pos h0] at hfit
    have NA:e.doc=next s e.table:=by simpa using hfit
    have:next s e.table=(iQ e.table s.rows:Int)+1:=by unfold next;rw[if_pos ht]
    rw[if_pos ⟨rfl,h0⟩];omega
   ·rw[if_neg h0] at hfit
    have:Vw.of s.rows (e.table,e.doc)≠[]:=fun q=>by rw[q] at hfit;simp at hfit
    by_cases o8:(iQ e.table s.rows:Int)<e.doc
    ·exact absurd (h.none (.inr o8)) this
    ·split<;>omega
 ·show(Vw.of (s.rows++[rowOf e bi k pO]) x).map Rw.iZ=(List.range (Vw.of (s.rows++[rowOf e bi k pO]) x).length).map fun i:Nat=>(i:Int)
  rw[EY]
  by_cases hx:(rowOf e bi k pO).key=x
  ·rw[if_pos hx,aK,aa,dH,dE,aK,h.iZ x]
   congr 1
   simp only[aM,cT,List.cons.injEq,and_true]
   show e.iZ=_
   have VG:(e.table,e.doc)=x:=hx;subst VG;unfold fits at hfit
   by_cases h0:e.iZ=0
   ·rw[if_pos h0] at hfit
    have NA:e.doc=next s e.table:=by simpa using hfit
    have hn:next s e.table=(iQ e.table s.rows:Int)+1:=by unfold next;rw[if_pos ht]
    rw[h.none (.inr gZ)];exact h0
   ·rw[if_neg h0] at hfit
    cases hl:(Vw.of s.rows (e.table,e.doc)).getLast? with
    | none=>rw[hl] at hfit;simp at hfit
    | some r=>
     rw[hl] at hfit;have:=h.last hl;simp at hfit
     omega
  ·rw[if_neg hx,aS]
   exact h.iZ x
 ·show((s.rows++[rowOf e bi k pO]).map Rw.lG).Nodup
  rw[aK,bK];refine⟨h.oV,iz,fun a ha b hb q=>?_⟩;obtain⟨r,hr,rfl⟩:=bg.1 ha;simp only[aM,cT,aZ] at hb;exact uL r hr (q.trans hb)
 ·obtain⟨r,hr,e1⟩:=h.red a ha
  exact⟨r,aV _ hr,e1⟩
 ·rcases aq.1 hr with hr|hr
  ·have:=hu r hr;omega
  ·rw[aZ.1 hr]
   exact .inr ⟨rfl,by show k<k+1;omega⟩
theorem Inv.shut {s:St}(h:Inv s) {i:Nat}(hi:i<s.rows.length):Inv { s with rows:=s.rows.set i (shut (s.rows.getD i jf)),red:=vH s.red (s.rows.getD i jf).lG }:=by
 obtain⟨A,B,e,-,hs⟩:=yZ hi;generalize s.rows.getD i jf=r at e hs;rw[hs];have h1:=h.lj;have h2:=h.doc;have h3:=h.iZ;have h4:=h.oV;have h5:=h.red;rw[e] at h1 h2 h3 h4 h5;have mem:∀x,x∈A++Vw.shut r :: B -> ∃y∈A++r :: B,x.lj=y.lj /\ x.doc=y.doc:=fun x hx=>by
  rcases aq.1 hx with q|q
  ·exact⟨x,aV _ q,rfl,rfl⟩
  ·rcases ar.1 q with q|q
   ·subst q;exact⟨r,aX _ (cj ..),rfl,rfl⟩
   ·exact⟨x,aX _ (az _ q),rfl,rfl⟩
 refine⟨fun x hx=>?_,fun x hx=>?_,fun k=>?_,?_,fun a ha=>?_⟩
 ·obtain⟨y,hy,e1,-⟩:=mem x hx
  have:=h1 y hy
  show(ju s.cat x.lj).2.2=0
  rw[e1];exact this
 ·obtain⟨y,hy,e1,e2⟩:=mem x hx
  have:=h2 y hy
  show 1 <= x.doc /\ x.doc <= (iQ x.lj (A++Vw.shut r :: B):Nat)
  rw[e1,e2,JZ];exact this
 ·have:=h3 k
  show(Vw.of (A++Vw.shut r :: B) k).map Rw.iZ=(List.range (Vw.of (A++Vw.shut r :: B) k).length).map fun i:Nat=>(i:Int)
  rw[vl] at this ⊢
  by_cases q:r.key=k
  ·rw[if_pos q] at this
   rw[if_pos (show(Vw.shut r).key=k from q)]
   simpa[Vw.shut] using this
  ·rw[if_neg q] at this
   rw[if_neg (show ¬(Vw.shut r).key=k from q)]
   simpa using this
 ·show((A++Vw.shut r :: B).map Rw.lG).Nodup
  have e1:(A++Vw.shut r :: B).map Rw.lG=(A++r :: B).map Rw.lG:=by simp[Vw.shut]
  rw[e1];exact h4
 ·show ∃x∈A++Vw.shut r :: B,x.lG=a
  have key:∀a,(∃x∈A++r :: B,x.lG=a) -> ∃x∈A++Vw.shut r :: B,x.lG=a:=fun a ⟨x,hx,ex⟩=>by
   rcases aq.1 hx with q|q
   ·exact⟨x,aV _ q,ex⟩
   ·rcases ar.1 q with q|q
    ·subst q;exact⟨Vw.shut x,aX _ (cj ..),ex⟩
    ·exact⟨x,aX _ (az _ q),ex⟩
  refine key a ?_;change vH s.red r.lG a=true at ha;unfold vH at ha
  by_cases q:a=r.lG
  ·exact⟨r,iz,q.symm⟩
  ·rw[if_neg q] at ha;exact h5 a ha
theorem EU.set {s:St}{k:Int}(h:EU s bi k) (hi:i<s.rows.length) (f:Int × Int -> Bool): EU { s with rows:=s.rows.set i (shut (s.rows.getD i jf)),red:=f } bi (k+1):=by
 intro x hx;rcases cM hx with q|q
 ·have:=h x q;omega
 ·subst q
  have:=h (s.rows.getD i jf) (by rw[jW hi];exact aN hi)
  show(s.rows.getD i jf).blk<bi \/ ((s.rows.getD i jf).blk=bi /\ (s.rows.getD i jf).ni<k+1)
  omega
theorem Gp {s:St}{a:Int × Int}(h:s.rows.findIdx? (wM s a)=some i): i<s.rows.length /\ (s.rows.getD i jf).lG=a /\ (s.rows.getD i jf).del=false /\ s.red a=false:=by
 obtain⟨hi,h1,-⟩:=da.1 h;rw[jW hi];unfold wM at h1;simp only[aA,decide_eq_true_eq,bZ] at h1;exact⟨hi,dN h1.1.1.1 h1.1.1.2,h1.1.2,h1.2⟩
theorem Mg {s:St}(h:Inv s) {e:En}{k:Int}(hu:EU s bi k) (hf:jS e) (h0:(entR s e bi k pO).1=0): Inv (entR s e bi k pO).2 /\ EU (entR s e bi k pO).2 bi (k+1):=by
 have XG:EU s bi (k+1):=fun r hr=>by have:=hu r hr;omega
 revert h0
 unfold entR
 split
 ·intro _;exact⟨h,XG⟩
 ·split
  ·rename_i hk
   split
   ·intro q;exact absurd q (show ¬(3:Int)=0 by decide)
   ·rename_i hc
    intro _;have IZ:(ju s.cat e.table).2.2=0 /\ fits s e=true:=by
     refine⟨eb fun q=>hc (.inl q),?_⟩;cases hq:fits s e with
     | true=>rfl
     | false=>exact absurd (.inr (.inr hq)) hc
    exact h.snoc hu hf hk IZ.1 IZ.2
  ·split
   ·split
    ·rename_i i hi
     intro _;obtain⟨hl,ha,-,-⟩:=Gp hi;rw[<- ha];exact⟨h.shut hl,hu.set hl _⟩
    ·intro q;exact absurd q (show ¬(3:Int)=0 by decide)
   ·intro _
    exact⟨⟨fun r hr=>ahb (YX ..) (h.lj r hr),h.doc,h.iZ,h.oV,h.red⟩,XG⟩
theorem Np (b:Bk):∀(l:List En) (k:Nat) (s:St),Inv s -> EU s b.index k -> (∀e∈l,jS e) -> (runR b l k s).1=0 -> Inv (runR b l k s).2 /\ EU (runR b l k s).2 b.index ((k+l.length:Nat):Int)
 | [],k,s,h,hu,_,_=>⟨h,hu⟩
 | e :: r,k,s,h,hu,hf,h0=>by
  unfold runR at h0 ⊢
  by_cases hc:(entR s e b.index k b.time).1=0
  ·rw[if_pos hc] at h0 ⊢
   obtain⟨h1,h2⟩:=Mg h hu (hf e (cj ..)) hc;have:=Np b r (k+1) _ h1 h2 (fun x hx=>hf x (az _ hx)) h0;rw[aj]
   rwa [show k+(r.length+1)=k+1+r.length by omega]
  ·rw[if_neg hc] at h0
   exact absurd h0 hc
def CL (s:St):Prop:=Inv s /\ ∀r∈s.rows,r.blk<s.n
theorem Sw: CL r_:=⟨⟨(fun _ h=>by cases h),(fun _ h=>by cases h),fun _=>rfl,List.nodup_nil,(fun _ h=>by cases h)⟩,(fun _ h=>by cases h)⟩
theorem Fu {α:Type}:∀ {l:List α}{f:α -> Int},firstBad (l.map f)=0 -> ∀x∈l,f x=0
 | [],_,_,x,hx=>by cases hx
 | a :: r,f,h,x,hx=>by
  rw[aM] at h;unfold firstBad at h
  by_cases q:f a=0
  ·rw[if_pos q] at h
   rcases ar.1 hx with e|e
   ·rw[e];exact q
   ·exact Fu h x e
  ·rw[if_neg q] at h;exact absurd h q
theorem Nn {b:Bk}(h:K.oL b=0): (∀e∈b.iv,jS e) /\ 0 <= b.index /\ 1 <= b.iv.length /\ b.iv.length <= 200:=by
 unfold K.oL at h
 split at h
 ·rename_i hc
  refine⟨fun e he=>?_,hc.1.1,hc.2.2.2⟩
  split at h
  ·rename_i hq;exact absurd h hq
  ·rename_i hq
   have h1:=Fu (eb hq) e he;unfold K.kY at h1
   split at h1
   ·assumption
   ·exact absurd h1 j9
 ·exact absurd h j9
theorem vu {s:St}(h:CL s) (b:Bk): CL (kV s b).2:=by
 classical
 unfold kV
 split
 ·exact h
 ·rename_i hi
  split
  ·exact h
  ·rename_i hc
   obtain⟨hf,-,-,-⟩:=Nn (eb hc)
   split
   ·rename_i h0
    have hu:EU s b.index 0:=fun r hr=>.inl (by have:=h.2 r hr;omega);obtain⟨h1,h2⟩:=Np b b.iv 0 s h.1 hu hf h0;have hn:=IM b b.iv 0 s;refine⟨⟨h1.lj,h1.doc,h1.iZ,h1.oV,h1.red⟩,fun r hr=>?_⟩;have:=h2 r hr
    show r.blk<(((s.n+1:Nat)):Int)
    omega
   ·exact h
theorem Inv.copy {s:St}(h:Inv s): nT s.rows s.red=s.red:=by
 funext a
 unfold nT;cases q:s.red a with
 | false=>rfl
 | true=>
  obtain⟨r,hr,e⟩:=h.red a q;rw[fS,List.any_eq_true];exact⟨r,hr,by simpa using e⟩
end Vw
namespace K
section
variable {n:NN}{ops:Array Oper}{Q:Exit -> Act -> World -> Prop}{rest:List Oper}{o:Oper}{d:Nat}{l:Env}{w:World}
theorem WL.clip {t e s cap:Nat}{x hi mx:Operand}{k1 k2:IntKind}(hg:o.guard=none) (hd:o.dst=some d) (hn:Nat.blt d n.n=true) (ho:o.op=.slice t x none (some hi) (some mx)) (ht:tyOf ty t=some (.slice e s)) (hx:jw l x=some (.slice sp m cap)) (qx:jw l hi=some (.int k1 (m:Int))) (Td:jw l mx=some (.int k2 (m:Int))) (hc:m <= cap) (pX:0<m -> ∃b o,sp=some ⟨b,o,none⟩) (h:WL n ops Q rest ((d,.slice sp m m) :: l) w): WL n ops Q (o :: rest) l w:=by
 have lU:sliced sp 0 m m s=.slice sp m m:=by
  unfold sliced;simp only[gh]
  by_cases h0:m=0
  ·rw[if_pos h0]
  ·rw[if_neg h0]
   obtain⟨b,o,rfl⟩:=pX gZ;simp[dY]
 refine WL.step hg hd hn (v:=.slice sp m m) (fun a ha=>?_) h;obtain⟨hu,j5⟩:=m_.of mV ht;have he:prog.elem t=e:=by simp[Program.elem,hu]
 have Zt:prog.underlying t=some (.slice (prog.elem t)):=by rw[he];exact hu
 have hs:(sizeOf e).run prog w=.ok s w:=by
  cases hq:prog.info? e with
  | none=>rw[hq] at j5;cases j5
  | some q=>rw[hq] at j5;simp at j5;simp[sizeOf,typeInfo,hq,j5]
 unfold execOp;rw[ho];simp[ha.eval hx,ha.eval qx,ha.eval Td,run_sliceAt_slice w t _ _ _ _ Zt,run_slice_hm w t sp m cap Zt k1 k2 (m:Int) (m:Int) gZ (Int.le_refl _) gZ,he,hs,lU]
theorem WL.abW {s x:Operand}{t e:TypeId}{bytes k k2 cc:Nat}{xv:Value}{l1 l2:List Value}{O2:Nat -> Prop}(hg:o.guard=none) (hd:o.dst=some d) (hn:Nat.blt d n.n=true) (ho:o.op=.call { callee:=.builtin .append,args:=#[s,x],argTypes:=#[t,t]}) (E:lK prog t e m bytes) (hs:jw l s=some (.slice sp k k)) (iJ:n_ w O m (.slice sp k cc) k l1) (hx:jw l x=some xv) (lU:n_ w O2 m xv k2 l2) (h0:0<k2) (hb:(k+k2)*bytes <= 140737488355328) (mj:k+k2 <= 140737488355328) (h:∀v' w',iK e m w' (fun g=>w.heap.size <= g) v' (k+k2) (l1++l2) -> iB w w' -> WL n ops Q rest ((d,v') :: l) w'): WL n ops Q (o :: rest) l w :=
 ⟨fun a ha=>by
  refine Ep hg (by rw[ho];intro c hc;cases hc) ?_;refine eL hg fun K hK=>?_;have:=GZ (P:=prog) (ops:=#[]) (K:=K) (Q:=Exit.then (lw n.md prog ops Q rest) (Kn Q)) (F:=False) hg s x t ho E (ha.eval hs) iJ (ha.eval hx) lU h0 rfl (by unfold maxLen;omega) hb fun sp c w' h2 h3=>by
   refine hK _ _ ?_;rw[hd];exact(h _ w' h2 ((oC h3).mono fun b hb=>⟨hb,iz⟩).below).go _ (ha.put hn _)
  rw[if_pos (by simp[Region.wanted,hg])] at this;exact this⟩
end
end K
namespace Vw
open K
theorem F6 {P:Rw -> List Value -> Prop}{v:Value}{es:List Rw}(h:lA 14 jf P O w v es) (h1:∀x cs,P x cs -> kj cs):
  ∃lO:List (List Value),lO.length=es.length /\ (∀j,j<es.length -> (lO.getD j []).length=14 /\ P (es.getD j jf) (lO.getD j [])) /\ n_ w O 14 v es.length lO.flatten:=by
 obtain⟨sp,cap,rfl,h2,h3,h5,h4⟩:=h;have key:∀j,j<es.length -> ∃cs:List Value,cs.length=14 /\ P (es.getD j jf) cs /\ ∀b o,sp=some ⟨b,o,none⟩ -> w.rangeAt b (o+j*14) cs:=fun j hj=>by
  obtain⟨b,o,rfl,-,-,hr⟩:=h4 gZ;obtain⟨cs,a1,a2,a3⟩:=hr j hj;exact⟨cs,a1,a2,fun b' o' e=>by cases e;exact a3⟩
 obtain⟨f,hf⟩:=eP key;have qM:∀k,k<es.length -> ((List.range es.length).map f).getD k []=f k:=fun k hk=>by simp[hk]
 have j8:∀x∈(List.range es.length).map f,x.length=14:=fun x hx=>by
  obtain⟨i,hi,rfl⟩:=bg.1 hx;exact(hf i (bO.1 hi)).1
 have hlen:((List.range es.length).map f).length=es.length:=iz;refine⟨(List.range es.length).map f,hlen,fun j hj=>by rw[qM j hj];exact⟨(hf j hj).1,(hf j hj).2.1⟩,by rw[qo j8,hlen],fun u hu=>?_,sp,cap,rfl,h2,h3,h5,fun h0=>?_⟩
 ·obtain⟨x,hx,hu⟩:=List.mem_flatten.1 hu
  obtain⟨i,hi,rfl⟩:=bg.1 hx;exact h1 _ _ (hf i (bO.1 hi)).2.1 u hu
 ·obtain⟨b,o,rfl,hb,hO,-⟩:=h4 h0
  refine⟨b,o,rfl,hb,hO,fun q hq=>?_⟩;rw[qo j8,hlen] at hq;have hk:q / 14<es.length:=gZ;have hm:q % 14<14:=Nat.mod_lt _ gZ;have e1:q / 14*14+q % 14=q:=gZ;have hg:=zy _ j8 (q / 14) (q % 14) (by rw[hlen];exact hk) hm;rw[e1,qM _ hk] at hg;have hx:(f (q / 14))[q % 14]? = some ((f (q / 14))[q % 14]'(by rw[(hf _ hk).1];exact hm)):=ah _;have:=(hf _ hk).2.2 b o rfl (q % 14) _ hx;rw[ff,e1] at this;rw[this,<- hx,<- hg];have IS:q<((List.range es.length).map f).flatten.length:=by rw[qo j8,hlen];omega
  generalize ((List.range es.length).map f).flatten=F at IS;simp[IS]
theorem IG {P:Rw -> List Value -> Prop}{v:Value}{L:List Rw}{r:Rw}{cs:List Value}{lO:List (List Value)}(h1:lO.length=L.length) (h2:∀j,j<L.length -> (lO.getD j []).length=14 /\ P (L.getD j jf) (lO.getD j [])) (hc:cs.length=14) (hp:P r cs) (h:iK te 14 w O v (L.length+1) (lO.flatten++cs)): jk te 14 jf P O w v (L++[r]):=K.jk.snoc h1 h2 hc hp h
theorem TI {P:Rw -> List Value -> Prop}{v:Value}{L:List Rw}(h:lA 14 jf P O w v L) (h1:∀x cs,P x cs -> kj cs) (hn:0<L.length) (hl:L.length <= 1000000):
  Calls prog 85 #[v] w fun r w'=>iB w w' /\ ∃v',r=.returned v' /\ jk te 14 jf P (fun g=>w.heap.size <= g) w' v' L:=by
 obtain⟨lO,k1,k2,k3⟩:=F6 h h1;obtain⟨sp,cap,rfl,-,-,-,h4⟩:=id h;obtain⟨b,o,rfl,-⟩:=h4 hn;refine iY (args:=[.slice (some ⟨b,o,none⟩) L.length cap]) func85 ntmps85 ?_;refine gY ?_;refine WL.ah7 rfl rfl rfl rfl rfl rfl rfl ?_
 show WL _ _ _ _ ((_,.bool false) :: _) _
 refine gY ?_;refine WL.empty rfl rfl rfl rfl rfl fun g w1 hf=>?_;have jx:jl w g w1 te []:=hf;clear hf;have hg:=jx.eq;have hz:=jx.size;have mj:=jx.below;refine gY ?_;have iJ:iK te 14 w1 (fun x=>x=g) (.slice (some ⟨g,0,none⟩) 0 0) 0 []:=⟨⟨iz,.inr ⟨g,0,#[],rfl,aw _,jx.blk,af _,by unfold maxLen;omega,iz,iz⟩⟩,fun _ h=>(aR h).elim,fun g h=>by cases h;rfl⟩;refine WL.qO rfl rfl rfl rfl Fi rfl iJ rfl (k3.below mj (af _)) gZ gZ fun v2 w2 wN lN=>?_;have jg:=mj.trans (lN.old (B:=w.heap.size) gZ (fun x hx=>by have:g=x:=au hx;omega));simp only[a_,aH] at wN;refine gY ?_;exact g_ ⟨jg,v2,rfl,lO,k1,k2,wN.mono fun x hx=>by omega⟩
theorem agZ {r:Rw}{dc:List Value}(j7:dc.length=6) {b:Int}(ha:w.cell? ⟨g,44,none⟩=some (Iq a)) (hb:w.cell? ⟨g,45,none⟩=some (Iq b)) (iS:g<w.heap.size):
  Calls prog 87 #[.agg (jQ r dc).toArray,iF g] w fun e w'=>iB w w' /\ e=.returned (.bool (decide (r.lG=(a,b)))):=by
 have hd:decide (r.lG=(a,b))=(decide (r.blk=a) && decide (r.ni=b)):=by
  rw[<- Bool.decide_and];exact cq.2 ⟨fun q=>⟨congrArg Prod.fst q,congrArg Prod.snd q⟩,fun q=>dN q.1 q.2⟩
 rw[hd];refine iY (args:=[.agg (jQ r dc).toArray,iF g]) func87 ntmps87 ?_;refine ku ?_;refine iC fun g2 w1 f1=>?_;have v2:h_ te w1 g2 (jQ r dc):=f1.blk;have b1:=f1.below;have R2:=p8.of (h_.rangeAt v2) j7;clear f1;replace ha:=(b1.cell (p:=⟨g,44,none⟩) iS).trans ha;replace hb:=(b1.cell (p:=⟨g,45,none⟩) iS).trans hb;have x1:=R2.blk;have x2:=R2.ni
 by_cases h0:r.blk=a
 ·rw[decide_eq_true h0]
  refine iu ?_;exact g_ ⟨b1,rfl⟩
 ·rw[decide_eq_false h0]
  refine iu ?_;exact g_ ⟨b1,rfl⟩
end Vw
namespace K
open Op (bytesLess)
def nD (x y:Int):Int:=if x<y then -1 else if y<x then 1 else 0
def cmpL:List Int -> List Int -> Int
 | [],[]=>0
 | [],_ :: _=>-1
 | _ :: _,[]=>1
 | a :: r,b :: s=>if a<b then -1 else if b<a then 1 else cmpL r s
theorem CR:∀ {k l:List Int},cmpL k l=0 -> k=l
 | [],[],_=>rfl
 | [],_ :: _,h=>by simp[cmpL] at h
 | _ :: _,[],h=>by simp[cmpL] at h
 | a :: r,b :: s,h=>by
  unfold cmpL at h
  by_cases h1:a<b
  ·rw[if_pos h1] at h;cases h
  ·rw[if_neg h1] at h
   by_cases h2:b<a
   ·rw[if_pos h2] at h;cases h
   ·rw[if_neg h2] at h
    rw[show a=b by omega,CR h]
theorem zm:∀(k:List Int),cmpL k k=0
 | []=>rfl
 | a :: r=>by unfold cmpL;rw[if_neg gZ,if_neg gZ,zm r]
def SC (k l:List Int) (c:Int):Prop:=∀r s,cmpL (k++r) (l++s)=if c=0 then cmpL r s else c
theorem SC.nil: SC [] [] 0:=fun r s=>iz
theorem SC.refl (k:List Int): SC k k 0:=fun r s=>by
 rw[if_pos rfl]
 induction k with
 | nil=>rfl
 | cons a k ih=>rw[aT,aT,cmpL,if_neg gZ,if_neg gZ,ih]
theorem SC.byte (x y:Int): SC [x] [y] (nD x y):=fun r s=>by
 unfold nD;rw[gw,gw,cmpL]
 by_cases h1:x<y
 ·rw[if_pos h1,if_pos h1];rfl
 ·rw[if_neg h1,if_neg h1]
  by_cases h2:y<x
  ·rw[if_pos h2,if_pos h2];rfl
  ·rw[if_neg h2,if_neg h2,if_pos rfl]
theorem SC.app {k m n:List Int}{d:Int}(h:SC k l c) (h':SC m n d): SC (k++m) (l++n) (if c=0 then d else c):=fun r s=>by
 rw[ao,ao,h]
 by_cases hc:c=0
 ·rw[if_pos hc,if_pos hc,h']
 ·rw[if_neg hc,if_neg hc,if_neg hc]
theorem SC.cons {m n:List Int}{d:Int}(x:Int) (h:SC m n d): SC (x :: m) (x :: n) d:=by
 have:=(SC.refl [x]).app h
 simpa using this
theorem SC.lt (h:x<y) (m n:List Int): SC (x :: m) (y :: n) (-1):=fun r s=>by
 rw[aT,aT,cmpL,if_pos h];rfl
theorem SC.gt (h:y<x) (m n:List Int): SC (x :: m) (y :: n) 1:=fun r s=>by
 rw[aT,aT,cmpL,if_neg gZ,if_pos h];rfl
theorem SC.eq0 {k:List Int}(h:SC k l 0): k=l:=by
 have:=h [] [];rw[if_pos rfl,aS,aS] at this;exact CR (this.trans rfl)
def cmpB:List UInt8 -> List UInt8 -> Int
 | [],[]=>0
 | [],_ :: _=>-1
 | _ :: _,[]=>1
 | a :: r,b :: s=>if a<b then -1 else if b<a then 1 else cmpB r s
theorem Ro:∀(s t:List UInt8),cmpB s t = -1 \/ cmpB s t=0 \/ cmpB s t=1
 | [],[]=>by simp[cmpB]
 | [],_ :: _=>by simp[cmpB]
 | _ :: _,[]=>by simp[cmpB]
 | a :: r,b :: s=>by
  unfold cmpB
  by_cases h1:a<b
  ·simp[h1]
  ·by_cases h2:b<a
   ·simp[h1,h2]
   ·simp only[h1,h2,fm];exact Ro r s
theorem J4:∀(s t:List UInt8),bytesLess s t=decide (cmpB s t = -1)
 | [],[]=>by simp[cmpB,bytesLess]
 | [],_ :: _=>by simp[cmpB,bytesLess]
 | _ :: _,[]=>by simp[cmpB,bytesLess]
 | a :: r,b :: s=>by
  unfold cmpB bytesLess
  by_cases h1:a<b
  ·simp[h1]
  ·by_cases h2:b<a
   ·have h3:¬a=b:=fun e=>by subst e;exact h1 h2
    simp[h1,h2,h3]
   ·have h3:a=b:=UInt8.le_antisymm (eQ.1 h2) (eQ.1 h1)
    subst h3;simp[h1,J4 r s]
theorem CQ:∀(s t:List UInt8),cmpB t s = - cmpB s t
 | [],[]=>rfl
 | [],_ :: _=>rfl
 | _ :: _,[]=>rfl
 | a :: r,b :: s=>by
  unfold cmpB
  by_cases h1:a<b
  ·have h2:¬b<a:=fun e=>UInt8.lt_irrefl _ (UInt8.lt_trans h1 e)
   simp[h1,h2]
  ·by_cases h2:b<a
   ·simp[h1,h2]
   ·simp only[h1,h2,fm];exact CQ r s
theorem SC.text: ∀(s t:List UInt8),SC (oX s) (oX t) (cmpB s t)
 | [],[]=>SC.refl _
 | [],b :: s=>by
  unfold oX textP cmpB
  by_cases h:b=0
  ·rw[if_pos h]
   show SC (0 :: 0 :: []) (0 :: 255 :: _) (-1)
   exact SC.cons 0 (SC.lt j9 _ _)
  ·rw[if_neg h]
   show SC (0 :: _) ((b.toNat:Int) :: _) (-1)
   have:b.toNat≠0:=fun e=>h (cL e);exact SC.lt gZ _ _
 | a :: r,[]=>by
  unfold oX textP cmpB
  by_cases h:a=0
  ·rw[if_pos h]
   show SC (0 :: 255 :: _) (0 :: 0 :: []) 1
   exact SC.cons 0 (SC.gt j9 _ _)
  ·rw[if_neg h]
   show SC ((a.toNat:Int) :: _) (0 :: _) 1
   have:a.toNat≠0:=fun e=>h (cL e);exact SC.gt gZ _ _
 | a :: r,b :: s=>by
  have ih:=SC.text r s;have e:∀(c:UInt8) (q:List UInt8),oX (c :: q)=if c=0 then 0 :: 255 :: oX q else(c.toNat:Int) :: oX q:=fun c q=>by
   unfold oX;rw[textP]
   split<;>rfl
  rw[e,e];unfold cmpB
  by_cases h1:a<b
  ·rw[if_pos h1]
   have hb:¬b=0:=fun e=>by subst e;exact absurd h1 (eQ.2 (UInt8.zero_le))
   have tf:a.toNat<b.toNat:=bF.1 h1;rw[if_neg hb]
   by_cases ha:a=0
   ·rw[if_pos ha];exact SC.lt gZ _ _
   ·rw[if_neg ha];exact SC.lt gZ _ _
  ·rw[if_neg h1]
   by_cases h2:b<a
   ·rw[if_pos h2]
    have ha:¬a=0:=fun e=>by subst e;exact absurd h2 (eQ.2 (UInt8.zero_le))
    have tf:b.toNat<a.toNat:=bF.1 h2;rw[if_neg ha]
    by_cases hb:b=0
    ·rw[if_pos hb];exact SC.gt gZ _ _
    ·rw[if_neg hb];exact SC.gt gZ _ _
   ·rw[if_neg h2]
    have h3:a=b:=UInt8.le_antisymm (eQ.1 h2) (eQ.1 h1);subst h3
    by_cases ha:a=0
    ·rw[if_pos ha,if_pos ha];exact SC.cons 0 (SC.cons 255 ih)
    ·rw[if_neg ha,if_neg ha];exact SC.cons _ ih
theorem JE (l:List Int) (x:Int): firstBad (l++[x])=if firstBad l=0 then x else firstBad l:=by
 induction l with
 | nil=>
  rw[aH];unfold firstBad
  by_cases h:x=0
  ·rw[if_pos h];simp[firstBad];exact h.symm
  ·rw[if_neg h];simp
 | cons a l ih=>
  rw[aT];unfold firstBad
  by_cases h:a=0
  ·rw[if_pos h,if_pos h,ih]
  ·rw[if_neg h,if_neg h,if_neg h]
theorem SC.flat {g:Nat -> List Int}{c:Nat -> Int}: ∀(m:Nat),(∀j,j<m -> SC (g j) (g' j) (c j)) -> SC ((List.range m).flatMap g) ((List.range m).flatMap g') (firstBad ((List.range m).map c))
 | 0,_=>SC.nil
 | m+1,h=>by
  have h1:=SC.flat m fun j hj=>h j gZ;have h2:=h1.app (h m gZ);rw[kG,kG,dE,aK,List.map_singleton,JE];exact h2
theorem GY (g:Nat -> List Int) (n m:Nat) (hm:m <= n) (hx:∀j,j<n -> ∃x r,g j=x :: r /\ 0<x): ∃q,(List.range n).flatMap g=(List.range m).flatMap g++q /\ (m=n -> q=[]) /\ (m<n -> ∃x r,q=x :: r /\ 0<x):=by
 induction n with
 | zero=>
  obtain rfl:m=0:=gZ;exact⟨[],iz,fun _=>rfl,fun h=>absurd h gZ⟩
 | succ n ih=>
  rcases aO n m with iS|Zm
  ·obtain rfl:m=n+1:=gZ
   exact⟨[],iz,fun _=>rfl,fun h=>absurd h gZ⟩
  ·obtain⟨q,hq,VM,Ue⟩:=ih Zm fun j hj=>hx j gZ
   rw[kG,hq];refine⟨q++g n,by rw[ao],fun h=>absurd h gZ,fun _=>?_⟩;rcases aO m n with h3|h3
   ·obtain⟨x,r,rfl,Lr⟩:=Ue h3
    exact⟨x,r++g n,rfl,Lr⟩
   ·obtain rfl:m=n:=gZ
    rw[VM rfl];exact hx m gZ
theorem SC.rows {g:Nat -> List Int}{c:Nat -> Int}{n n':Nat}(h:∀j,j<n -> j<n' -> SC (g j) (g' j) (c j)) (h1:∀j,j<n -> ∃x r,g j=x :: r /\ 0<x) (h2:∀j,j<n' -> ∃x r,g' j=x :: r /\ 0<x):
  SC ((List.range n).flatMap g++[0]) ((List.range n').flatMap g'++[0]) (let d:=firstBad ((List.range (min n n')).map c);if d=0 then nD n n' else d):=by
 obtain⟨q,hq,VM,Ue⟩:=GY g n (min n n') (Nat.min_le_left _ _) h1;obtain⟨q',hq',aic,arX⟩:=GY g' n' (min n n') (Nat.min_le_right _ _) h2;rw[hq,hq',ao,ao];refine(SC.flat (min n n') fun j hj=>h j gZ gZ).app ?_;unfold nD;rcases dJ n n' with h3|h3|h3
 ·have e:min n n'=n:=gZ
  obtain⟨x,r,rfl,Lr⟩:=arX gZ;rw[VM e,if_pos gZ];exact SC.lt Lr _ _
 ·subst h3
  rw[VM gZ,aic gZ,if_neg gZ,if_neg gZ];exact SC.refl _
 ·have e:min n n'=n':=gZ
  obtain⟨x,r,rfl,Lr⟩:=Ue gZ;rw[aic e,if_neg gZ,if_pos gZ];exact SC.gt Lr _ _
theorem SC.short {b:Int}(ha:0 <= a /\ a<4294967296) (hb:0 <= b /\ b<4294967296): SC (yM a) (yM b) (nD a b):=by
 have h:=(SC.byte (a / 16777216 % 256) (b / 16777216 % 256)).app ((SC.byte (a / 65536 % 256) (b / 65536 % 256)).app ((SC.byte (a / 256 % 256) (b / 256 % 256)).app (SC.byte (a % 256) (b % 256))));have e:(if nD (a / 16777216 % 256) (b / 16777216 % 256)=0 then if nD (a / 65536 % 256) (b / 65536 % 256)=0 then if nD (a / 256 % 256) (b / 256 % 256)=0 then nD (a % 256) (b % 256) else nD (a / 256 % 256) (b / 256 % 256) else nD (a / 65536 % 256) (b / 65536 % 256) else nD (a / 16777216 % 256) (b / 16777216 % 256))=nD a b:=by
  have z:∀x y:Int,nD x y=0 ↔ x=y:=fun x y=>by unfold nD;split<;>(try split)<;>constructor<;>intro h<;>omega
  simp only[z];unfold nD
  by_cases h1:a / 16777216 % 256=b / 16777216 % 256
  ·rw[if_pos h1]
   by_cases h2:a / 65536 % 256=b / 65536 % 256
   ·rw[if_pos h2]
    by_cases h3:a / 256 % 256=b / 256 % 256
    ·rw[if_pos h3]
     by_cases h4:a<b
     ·rw[if_pos h4,if_pos gZ]
     ·rw[if_neg h4]
      by_cases h5:b<a
      ·rw[if_pos h5,if_neg gZ,if_pos gZ]
      ·rw[if_neg h5,if_neg gZ,if_neg gZ]
    ·rw[if_neg h3]
     by_cases h4:a<b
     ·rw[if_pos h4,if_pos gZ]
     ·rw[if_neg h4,if_pos (show b<a by omega),if_neg gZ,if_pos gZ]
   ·rw[if_neg h2]
    by_cases h4:a<b
    ·rw[if_pos h4,if_pos gZ]
    ·rw[if_neg h4,if_pos (show b<a by omega),if_neg gZ,if_pos gZ]
  ·rw[if_neg h1]
   by_cases h4:a<b
   ·rw[if_pos h4,if_pos gZ]
   ·rw[if_neg h4,if_pos (show b<a by omega),if_neg gZ,if_pos gZ]
 rw[e] at h;exact h
theorem SC.big {b:Int}(ha:0 <= a /\ a<18446744073709551616) (hb:0 <= b /\ b<18446744073709551616): SC (EZ a) (EZ b) (nD a b):=by
 have h:=(SC.short (a:=a / 4294967296) (b:=b / 4294967296) gZ gZ).app (SC.short (a:=a % 4294967296) (b:=b % 4294967296) gZ gZ);have e:(if nD (a / 4294967296) (b / 4294967296)=0 then nD (a % 4294967296) (b % 4294967296) else nD (a / 4294967296) (b / 4294967296))=nD a b:=by
  have z:∀x y:Int,nD x y=0 ↔ x=y:=fun x y=>by unfold nD;split<;>(try split)<;>constructor<;>intro h<;>omega
  simp only[z];unfold nD
  by_cases h1:a / 4294967296=b / 4294967296
  ·rw[if_pos h1]
   by_cases h4:a<b
   ·rw[if_pos h4,if_pos gZ]
   ·rw[if_neg h4]
    by_cases h5:b<a
    ·rw[if_pos h5,if_neg gZ,if_pos gZ]
    ·rw[if_neg h5,if_neg gZ,if_neg gZ]
  ·rw[if_neg h1]
   by_cases h4:a<b
   ·rw[if_pos h4,if_pos gZ]
   ·rw[if_neg h4,if_pos (show b<a by omega),if_neg gZ,if_pos gZ]
 rw[e] at h;exact h
theorem vm: nD x y=0 ↔ x=y:=by unfold nD;split<;>(try split)<;>constructor<;>intro h<;>omega
theorem xn (h:x<y): nD x y = -1:=if_pos h
theorem xl (h:y<x): nD x y=1:=by unfold nD;rw[if_neg gZ,if_pos h]
theorem SC.zero {k:List Int}(h:SC k l c): cmpL k l=c:=by
 have:=h [] [];rw[aS,aS] at this;rw[this]
 split
 ·next e=>rw[e];rfl
 ·rfl
theorem SC.tail {k:List Int}(h:SC (x :: k) (x :: l) c): SC k l c:=fun r s=>by
 have:=h r s;rw[aT,aT,cmpL,if_neg gZ,if_neg gZ] at this;exact this
theorem SC.flip: ∀ {k l:List Int}{c:Int},SC k l c -> SC (pA k) (pA l) (-c)
 | [],[],c,h=>by
  have:=h.zero;obtain rfl:c=0:=this.symm;exact SC.nil
 | [],b :: l,c,h=>by
  have e1:cmpL [b - 1] (b :: (l++[])) = -1:=by rw[cmpL,if_pos (show b - 1<b by omega)]
  have e2:cmpL [b+1] (b :: (l++[]))=1:=by rw[cmpL,if_neg (show ¬b+1<b by omega),if_pos (show b<b+1 by omega)]
  have h1:-1=if c=0 then 1 else c:=e1.symm.trans (h [b - 1] [])
  have h2:1=if c=0 then 1 else c:=e2.symm.trans (h [b+1] [])
  rw[<- h1] at h2;cases h2
 | a :: k,[],c,h=>by
  have e1:cmpL (a :: (k++[])) [a - 1]=1:=by rw[cmpL,if_neg (show ¬a<a - 1 by omega),if_pos (show a - 1<a by omega)]
  have e2:cmpL (a :: (k++[])) [a+1] = -1:=by rw[cmpL,if_pos (show a<a+1 by omega)]
  have h1:1=if c=0 then -1 else c:=e1.symm.trans (h [] [a - 1])
  have h2:-1=if c=0 then -1 else c:=e2.symm.trans (h [] [a+1])
  rw[<- h1] at h2;cases h2
 | a :: k,b :: l,c,h=>by
  have hz:=h.zero
  show SC ((255 - a) :: pA k) ((255 - b) :: pA l) (-c)
  unfold cmpL at hz
  by_cases h1:a<b
  ·rw[if_pos h1] at hz;subst hz;exact SC.gt gZ _ _
  ·rw[if_neg h1] at hz
   by_cases h2:b<a
   ·rw[if_pos h2] at hz;subst hz;exact SC.lt gZ _ _
   ·obtain rfl:a=b:=gZ
    exact SC.cons _ h.tail.flip
def fv:Nat -> List Nat -> Nat
 | _,[]=>0
 | 0,_ :: _=>0
 | W+1,d :: D=>d*10 ^ W+fv W D
def nt:List Nat -> Prop
 | []=>True
 | d :: D=>(D=[] -> d≠0) /\ nt D
theorem OM:∀ {W:Nat}{D:List Nat},(∀d∈D,d<10) -> fv W D<10 ^ W
 | W,[],_=>by unfold fv;exact fE iz
 | 0,_ :: _,_=>by simp[fv]
 | W+1,d :: D,h=>by
  have h1:=OM (W:=W) (D:=D) fun x hx=>h x (az _ hx);have h2:=h d iz;rw[fv,dg];have:d*10 ^ W <= 9*10 ^ W:=cQ _ gZ;omega
theorem Of:∀ {W:Nat}{D:List Nat},nt D -> D.length <= W -> D≠[] -> 0<fv W D
 | W,[],_,_,h=>absurd rfl h
 | 0,_ :: _,_,h,_=>by simp at h
 | W+1,d :: D,h,hl,_=>by
  rw[fv]
  by_cases e:D=[]
  ·have:=h.1 e
   have:0<10 ^ W:=fE iz;have:0<d*10 ^ W:=Nat.mul_pos gZ this;omega
  ·have:=Of (W:=W) h.2 (by simpa using hl) e
   omega
theorem EF:∀ {W:Nat}(m:Nat) {D:List Nat},D.length <= W -> fv (W+m) D=fv W D*10 ^ m
 | W,m,[],_=>by simp[fv]
 | 0,_,_ :: _,h=>by simp at h
 | W+1,m,d :: D,h=>by
  have:=EF (W:=W) m (D:=D) (by simpa using h);rw[show W+1+m=(W+m)+1 by omega,fv,fv,this,gX,gF,gR]
theorem SC.digits: ∀(W:Nat) (D E:List Nat),nt D -> nt E -> (∀d∈D,d<10) -> (∀d∈E,d<10) -> D.length <= W -> E.length <= W ->
  SC (D.map (fun d:Nat=>(d:Int)+1)++[0]) (E.map (fun d:Nat=>(d:Int)+1)++[0]) (nD (fv W D) (fv W E))
 | _,[],[],_,_,_,_,_,_=>by
  rw[vm.2 (by simp[fv])];exact SC.refl _
 | W,[],e :: E,_,h2,_,_,_,h3=>by
  have:=Of h2 h3 iz;rw[xn (by simp[fv];omega)];exact SC.lt (show(0:Int)<(e:Int)+1 by omega) _ _
 | W,d :: D,[],h1,_,_,_,h3,_=>by
  have:=Of h1 h3 iz;rw[xl (by simp[fv];omega)];exact SC.gt (show(0:Int)<(d:Int)+1 by omega) _ _
 | 0,_ :: _,_ :: _,_,_,_,_,h,_=>by simp at h
 | W+1,d :: D,e :: E,h1,h2,h3,h4,h5,h6=>by
  have l1:=OM (W:=W) (D:=D) fun x hx=>h3 x (az _ hx);have l2:=OM (W:=W) (D:=E) fun x hx=>h4 x (az _ hx);rw[aM,aM,aT,aT,fv,fv];rcases dJ d e with h|h|h
  ·have:(d+1)*10 ^ W <= e*10 ^ W:=cQ _ h
   rw[gF] at this;rw[xn gZ];exact SC.lt (show(d:Int)+1<(e:Int)+1 by omega) _ _
  ·subst h
   have ih:=SC.digits W D E h1.2 h2.2 (fun x hx=>h3 x (az _ hx)) (fun x hx=>h4 x (az _ hx)) (by simpa using h5) (by simpa using h6);have:nD (d*10 ^ W+fv W D:Nat) (d*10 ^ W+fv W E:Nat)=nD (fv W D) (fv W E):=by
    unfold nD
    by_cases h7:fv W D<fv W E
    ·rw[if_pos (show((d*10 ^ W+fv W D:Nat):Int)<(d*10 ^ W+fv W E:Nat) by omega),if_pos (show((fv W D:Nat):Int)<(fv W E:Nat) by omega)]
    ·rw[if_neg (show ¬((d*10 ^ W+fv W D:Nat):Int)<(d*10 ^ W+fv W E:Nat) by omega),if_neg (show ¬((fv W D:Nat):Int)<(fv W E:Nat) by omega)]
     by_cases h8:fv W E<fv W D
     ·rw[if_pos (show((d*10 ^ W+fv W E:Nat):Int)<(d*10 ^ W+fv W D:Nat) by omega),if_pos (show((fv W E:Nat):Int)<(fv W D:Nat) by omega)]
     ·rw[if_neg (show ¬((d*10 ^ W+fv W E:Nat):Int)<(d*10 ^ W+fv W D:Nat) by omega),if_neg (show ¬((fv W E:Nat):Int)<(fv W D:Nat) by omega)]
   rw[this];exact SC.cons _ ih
  ·have:(e+1)*10 ^ W <= d*10 ^ W:=cQ _ h
   rw[gF] at this;rw[xl gZ];exact SC.gt (show(e:Int)+1<(d:Int)+1 by omega) _ _
def lv:List Nat -> Nat
 | []=>0
 | a :: r=>a+10*lv r
theorem Rx:∀(X:List Nat) (a:Nat),fv (X.length+1) (X++[a])=10*fv X.length X+a
 | [],a=>by simp[fv]
 | d :: D,a=>by
  rw[aj,aT,fv,Rx D a,fv,dg,gW];have:d*(10 ^ D.length*10)=10*(d*10 ^ D.length):=by rw[<- gR,Nat.mul_comm]
  omega
theorem NT:∀(A:List Nat),fv A.length A.reverse=lv A
 | []=>rfl
 | a :: r=>by
  have:=Rx r.reverse a;rw[eh] at this;rw[fO,aj,this,NT r,lv];omega
theorem N_:∀(A:List Nat),fv A.length (nzs A).reverse=lv A
 | []=>rfl
 | a :: r=>by
  by_cases h:a=0
  ·have h1:=EF (W:=r.length) 1 (D:=(nzs r).reverse) (by rw[eh];exact xV r)
   unfold nzs;rw[if_pos h,aj,h1,N_ r,lv];omega
  ·unfold nzs
   rw[if_neg h];exact NT _
theorem P0:∀(X:List Nat) {a:Nat},a≠0 -> nt (X++[a])
 | [],a,h=>⟨fun _=>h,trivial⟩
 | x :: X,a,h=>⟨fun e=>by simp at e,P0 X h⟩
theorem NG:∀(A:List Nat),nt (nzs A).reverse
 | []=>trivial
 | a :: r=>by
  unfold nzs
  by_cases h:a=0
  ·rw[if_pos h];exact NG r
  ·rw[if_neg h,fO];exact P0 _ h
theorem Ig:∀(f u:Nat),u<10 ^ f -> lv (digsF f u)=u
 | 0,u,h=>by simp at h;simp[digsF,lv,h]
 | f+1,u,h=>by
  unfold digsF
  by_cases e:u=0
  ·rw[if_pos e];simp[lv,e]
  ·rw[if_neg e,lv,Ig f (u / 10) (by rw[dg] at h;omega)];omega
theorem DG:∀(f u:Nat),u≠0 -> u<10 ^ f -> 1 <= (digsF f u).length /\ 10 ^ (digsF f u).length <= 10*u
 | 0,u,h,h2=>by simp at h2;omega
 | f+1,u,h,h2=>by
  unfold digsF;rw[if_neg h,aj,dg]
  by_cases e:u / 10=0
  ·have:(digsF f (u / 10)).length=0:=by rw[e];cases f<;>simp[digsF]
   rw[this];simp;omega
  ·have:=DG f (u / 10) e (by rw[dg] at h2;omega)
   omega
theorem FN (h:u<10 ^ 20): lv (kS u)=u:=Ig 20 u h
theorem I6 (h:u<10 ^ 20): u<10 ^ (kS u).length:=by
 have h1:=OM (W:=(kS u).length) (D:=(kS u).reverse) fun d hd=>vn 20 u d (fc.1 hd);rw[NT,FN h] at h1;exact h1
theorem SC.pos {u' s s':Nat}(hu0:u≠0) (hu1:u'≠0) (hu:u<10 ^ 20) (Zt:u'<10 ^ 20) (hs:s <= 18) (Pu:s' <= 18):
  SC (xi (kS u) s) (xi (kS u') s') (nD (u*10 ^ s':Nat) (u'*10 ^ s:Nat)):=by
 have hL:(kS u).length <= 20:=rI 20 u;have hL':(kS u').length <= 20:=rI 20 u';have lo:=DG 20 u hu0 hu;have lo':=DG 20 u' hu1 Zt;have hi:=I6 hu;have DL:=I6 Zt;have v:=N_ (kS u);have v':=N_ (kS u');rw[FN hu] at v;rw[FN Zt] at v';have nl:((nzs (kS u)).reverse).length <= (kS u).length:=by rw[eh];exact xV _
 have nl':((nzs (kS u')).reverse).length <= (kS u').length:=by rw[eh];exact xV _
 have r:∀d∈(nzs (kS u)).reverse,d<10:=fun d hd=>vn 20 u d (Ja _ d (fc.1 hd));have r':∀d∈(nzs (kS u')).reverse,d<10:=fun d hd=>vn 20 u' d (Ja _ d (fc.1 hd));unfold xi GC;change 1 <= (kS u).length /\ _ at lo;change 1 <= (kS u').length /\ _ at lo';replace lo:1 <= (kS u).length /\ 10 ^ (kS u).length <= 10*u:=lo;replace lo':1 <= (kS u').length /\ 10 ^ (kS u').length <= 10*u':=lo';generalize (kS u).length=L at *;generalize (kS u').length=L' at *;have apart:∀ {x y L L' s s':Nat},L+s'<L'+s -> x<10 ^ L -> 10 ^ L' <= 10*y -> x*10 ^ s'<y*10 ^ s:=by
  intro x y L L' s s' h h1 h2;have h3:(x+1)*10 ^ s' <= 10 ^ L*10 ^ s':=cQ _ h1;have h4:10 ^ L'*10 ^ s <= 10*y*10 ^ s:=cQ _ h2;rw[<- gX,gF] at h3;rw[<- gX,gR] at h4;have h5:10 ^ (L+s'+1) <= 10 ^ (L'+s):=fh j9 h;rw[dg] at h5;have h6:0<10 ^ s':=fE iz;omega
 rcases dJ (L+s') (L'+s) with h|h|h
 ·have:=apart h hi lo'.2
  rw[xn gZ];exact SC.lt gZ _ _
 ·have e:((L:Int) - s+192) % 256=((L':Int) - s'+192) % 256:=gZ
  have e2:u*10 ^ s'=fv (L+s') (nzs (kS u)).reverse:=by rw[EF s' nl,v]
  have e3:u'*10 ^ s=fv (L'+s) (nzs (kS u')).reverse:=by rw[EF s nl',v']
  rw[e,e2,e3,h];exact SC.cons _ (SC.digits (L'+s) _ _ (NG _) (NG _) r r' gZ gZ)
 ·have:=apart h DL lo.2
  rw[xl gZ];exact SC.gt gZ _ _
def SN (n s n' s':Int):Int :=
 if nD n 0=nD n' 0 then nD (n.natAbs*10 ^ s'.toNat:Nat) (n'.natAbs*10 ^ s.toNat:Nat)*nD n 0 else nD (nD n 0) (nD n' 0)
theorem qh (u:Nat) (s:Int): xi (kS u) s=(((kS u).length:Int) - s+192) % 256 :: (GC (kS u)++[0]):=rfl
theorem xf (x:Int) (l:List Int): pA (x :: l)=(255 - x) :: pA l:=rfl
theorem SC.number {n s n' s':Int}(hn:n.natAbs<10 ^ 20) (LP:n'.natAbs<10 ^ 20) (hs:0 <= s /\ s <= 18) (Pu:0 <= s' /\ s' <= 18): SC (xe n s) (xe n' s') (SN n s n' s'):=by
 obtain⟨a,rfl⟩:=fW hs.1;obtain⟨a',rfl⟩:=fW Pu.1;have hL:(kS n.natAbs).length <= 20:=rI 20 _;have hL':(kS n'.natAbs).length <= 20:=rI 20 _;unfold SN xe;rcases dL n 0 with h|h|h
 ·rw[if_neg (show ¬n=0 by omega),if_pos h,xn h]
  rcases dL n' 0 with h'|h'|h'
  ·rw[if_neg (show ¬n'=0 by omega),if_pos h',xn h',if_pos rfl,Int.mul_neg,Int.mul_one]
   exact(SC.pos gZ gZ hn LP gZ gZ).flip
  ·rw[if_pos h',vm.2 h',if_neg j9,qh,xf]
   exact SC.lt gZ _ _
  ·rw[if_neg (show ¬n'=0 by omega),if_neg (show ¬n'<0 by omega),xl h',if_neg j9,qh,qh,xf]
   exact SC.lt gZ _ _
 ·rw[if_pos h,vm.2 h]
  rcases dL n' 0 with h'|h'|h'
  ·rw[if_neg (show ¬n'=0 by omega),if_pos h',xn h',if_neg j9,qh,xf]
   exact SC.gt gZ _ _
  ·rw[if_pos h',vm.2 h',if_pos rfl,gV]
   exact SC.refl _
  ·rw[if_neg (show ¬n'=0 by omega),if_neg (show ¬n'<0 by omega),xl h',if_neg j9,qh]
   exact SC.lt gZ _ _
 ·rw[if_neg (show ¬n=0 by omega),if_neg (show ¬n<0 by omega),xl h]
  rcases dL n' 0 with h'|h'|h'
  ·rw[if_neg (show ¬n'=0 by omega),if_pos h',xn h',if_neg j9,qh,qh,xf]
   exact SC.gt gZ _ _
  ·rw[if_pos h',vm.2 h',if_neg j9,qh]
   exact SC.gt gZ _ _
  ·rw[if_neg (show ¬n'=0 by omega),if_neg (show ¬n'<0 by omega),xl h',if_pos rfl,Int.mul_one]
   exact SC.pos gZ gZ hn LP gZ gZ
open Op (bytesLess)
def yd (k:Int):Int:=if k=4 then 3 else k
def acj (o:V -> V -> Int) (st:Bool) (a b:V) (j:Nat):Int :=
 if(if st then cmpB (a.names.getD j jz).toList (b.names.getD j jz).toList else 0)=0 then o (a.kids.getD j lH) (b.kids.getD j lH) else if st then cmpB (a.names.getD j jz).toList (b.names.getD j jz).toList else 0
def aeH (c:Nat -> Int) (n n':Nat):Int:=if firstBad ((List.range (min n n')).map c)=0 then nD n n' else firstBad ((List.range (min n n')).map c)
def ordV:Nat -> V -> V -> Int
 | 0,_,_=>0
 | m+1,a,b=>
  if yd a.k=yd b.k then
   if a.k=2 \/ a.k=5 then nD a.n b.n else if a.k=3 \/ a.k=4 then SN a.n a.s b.n b.s else if a.k=6 \/ a.k=7 then cmpB a.t.toList b.t.toList
   else aeH (acj (ordV m) (decide (a.k=9)) a b) a.kids.length b.kids.length
  else nD (yd a.k) (yd b.k)
def Ran:Nat -> V -> Prop
 | 0,_=>False
 | f+1,v=>v.n.natAbs<10 ^ 20 /\ ∀x∈v.kids,Ran f x
theorem x9 {l:List V}(h:j<l.length): l.getD j lH∈l:=by
 rw[ag,ah h];exact aN h
theorem zK {v:V}(h:chk m v=0): ∃x r,keyV m v=x :: r /\ 0<x:=by
 cases m with
 | zero=>cases h
 | succ m=>
  refine⟨_,_,rfl,?_⟩;have:=(qI (oQ h)).1;unfold my;split
  ·omega
  ·split<;>omega
theorem GV {names:List ByteArray}{kids:List V}(h:chk m (kids.getD j lH)=0): ∃x r,mQ (keyV m) st names kids j=x :: r /\ 0<x:=by
 cases st with
 | true=>exact⟨1,_,rfl,by decide⟩
 | false=>exact zK h
theorem SC.piece {a b:V}(h:SC (keyV m (a.kids.getD j lH)) (keyV m (b.kids.getD j lH)) (ordV m (a.kids.getD j lH) (b.kids.getD j lH))):
  SC (mQ (keyV m) st a.names a.kids j) (mQ (keyV m) st b.names b.kids j) (acj (ordV m) st a b j):=by
 cases st with
 | true=>exact(SC.cons 1 (SC.text _ _)).app h
 | false=>exact h
theorem SC.key: ∀(m:Nat) {f f':Nat}{a b:V},chk m a=0 -> chk m b=0 -> Ran f a -> Ran f' b -> SC (keyV m a) (keyV m b) (ordV m a b)
 | 0,_,_,_,_,h,_,_,_=>by cases h
 | _+1,0,_,_,_,_,_,h,_=>h.elim
 | _+1,_+1,0,_,_,_,_,_,h=>h.elim
 | m+1,f+1,f'+1,a,b,ha,hb,ra,rb=>by
  obtain⟨a1,a2,a3,a4,a5,a6,a7,a8⟩:=qI (oQ ha);obtain⟨b1,b2,b3,b4,b5,b6,b7,b8⟩:=qI (oQ hb);have uz:∀j,j<a.kids.length -> chk m (a.kids.getD j lH)=0:=fun j hj=>rD ha hj;have oN:∀j,j<b.kids.length -> chk m (b.kids.getD j lH)=0:=fun j hj=>rD hb hj;have hp:∀st,SC ((List.range a.kids.length).flatMap (mQ (keyV m) st a.names a.kids)++[0]) ((List.range b.kids.length).flatMap (mQ (keyV m) st b.names b.kids)++[0]) (aeH (acj (ordV m) st a b) a.kids.length b.kids.length):=fun st=>
   SC.rows (fun j h1 h2=>SC.piece (SC.key m (uz j h1) (oN j h2) (ra.2 _ (x9 h1)) (rb.2 _ (x9 h2)))) (fun j hj=>GV (uz j hj)) (fun j hj=>GV (oN j hj))
  unfold keyV ordV
  by_cases hc:yd a.k=yd b.k
  ·rw[if_pos hc]
   have mg:my a.k=my b.k:=by
    unfold yd at hc;unfold my
    by_cases h1:a.k=4
    ·rw[if_pos h1] at hc
     by_cases h2:b.k=4
     ·rw[h1,h2]
     ·rw[if_neg h2] at hc;rw[h1,<- hc];rfl
    ·rw[if_neg h1] at hc
     by_cases h2:b.k=4
     ·rw[if_pos h2] at hc;rw[h2,hc];rfl
     ·rw[if_neg h2] at hc;rw[hc]
   have hk:a.k=b.k \/ ((a.k=3 \/ a.k=4) /\ (b.k=3 \/ b.k=4)):=by
    unfold yd at hc
    split at hc<;>split at hc<;>omega
   rw[mg];refine SC.cons _ ?_
   by_cases k2:a.k=2
   ·rw[if_pos k2,if_pos (show b.k=2 by omega),if_pos (Or.inl k2)]
    exact SC.byte _ _
   rw[if_neg k2,if_neg (show ¬b.k=2 by omega)]
   by_cases k3:a.k=3 \/ a.k=4
   ·rw[if_pos k3,if_pos (show b.k=3 \/ b.k=4 by omega),if_neg (show ¬(a.k=2 \/ a.k=5) by omega),if_pos k3]
    exact SC.number ra.1 rb.1 gZ gZ
   rw[if_neg k3,if_neg (show ¬(b.k=3 \/ b.k=4) by omega)]
   by_cases k5:a.k=5
   ·rw[if_pos k5,if_pos (show b.k=5 by omega),if_pos (Or.inr k5)]
    exact SC.big gZ gZ
   rw[if_neg k5,if_neg (show ¬b.k=5 by omega),if_neg (show ¬(a.k=2 \/ a.k=5) by omega),if_neg k3]
   by_cases k6:a.k=6 \/ a.k=7
   ·rw[if_pos k6,if_pos (show b.k=6 \/ b.k=7 by omega),if_pos k6]
    exact SC.text _ _
   rw[if_neg k6,if_neg (show ¬(b.k=6 \/ b.k=7) by omega),if_neg k6]
   by_cases k8:a.k=8 \/ a.k=9
   ·rw[if_pos k8,if_pos (show b.k=8 \/ b.k=9 by omega),show b.k=a.k by omega]
    exact hp _
   ·rw[if_neg k8,if_neg (show ¬(b.k=8 \/ b.k=9) by omega)]
    have l1:=shp_one (oQ ha) gZ;have l2:=shp_one (oQ hb) gZ;unfold aeH;rw[l1,l2];exact SC.nil
  ·rw[if_neg hc]
   have iS:∀x y:Int,1 <= x /\ x <= 9 -> 1 <= y /\ y <= 9 -> yd x<yd y -> my x<my y:=by
    intro x y hx hy h;unfold yd at h;unfold my
    split at h<;>split at h<;>split<;>(try split)<;>(try split)<;>omega
   rcases dL (yd a.k) (yd b.k) with h|h|h
   ·rw[xn h];exact SC.lt (iS _ _ a1 b1 h) _ _
   ·exact absurd h hc
   ·rw[xl h];exact SC.gt (iS _ _ b1 a1 h) _ _
where
 shp_one {v:V}(h:qu v=0) (e:v.k=1):v.kids.length=0:=by
  unfold qu at h
  by_cases h1:nK v=false
  ·rw[if_pos h1] at h;cases h
  ·have hf:nK v=true:=by simpa using h1
   unfold nK at hf;rw[if_pos e] at hf;simp only[k_,aA,decide_eq_true_eq] at hf;exact hf.1.2.2
theorem y8:∀(s:List UInt8),∀c∈textP s,0 <= c /\ c <= 255
 | [],c,h=>by simp[textP] at h
 | a :: s,c,h=>by
  rw[textP] at h;have:=a.toNat_lt
  split at h
  ·rcases ar.1 h with rfl|h
   ·omega
   ·rcases ar.1 h with rfl|h
    ·omega
    ·exact y8 s c h
  ·rcases ar.1 h with rfl|h
   ·omega
   ·exact y8 s c h
theorem DY (s:List UInt8): ∀c∈oX s,0 <= c /\ c <= 255:=by
 intro c h;unfold oX at h;rcases aq.1 h with h|h
 ·exact y8 s c h
 ·simp at h;omega
theorem QX (n s:Int): ∀c∈xe n s,0 <= c /\ c <= 255:=by
 intro c h;unfold xe at h
 split at h
 ·simp at h;omega
 ·split at h
  ·unfold pA at h
   obtain⟨x,hx,rfl⟩:=bg.1 h;have:=Aj _ _ x hx;omega
  ·exact Aj _ _ c h
theorem Sa (n:Int): ∀c∈EZ n,0 <= c /\ c <= 255:=by
 intro c h;simp[EZ,yM] at h
 omega
theorem G0:∀(m:Nat) {v:V},chk m v=0 -> ∀c∈keyV m v,0 <= c /\ c <= 255
 | 0,_,h,_,_=>by cases h
 | m+1,v,h,c,hc=>by
  obtain⟨a1,a2,a3,a4,a5,a6,a7,a8⟩:=qI (oQ h);unfold keyV at hc;rcases ar.1 hc with rfl|hc
  ·unfold my;split
   ·omega
   ·split<;>omega
  ·split at hc
   ·simp at hc;omega
   ·split at hc
    ·exact QX _ _ c hc
    ·split at hc
     ·exact Sa _ c hc
     ·split at hc
      ·exact DY _ c hc
      ·split at hc
       ·rcases aq.1 hc with hc|hc
        ·obtain⟨j,hj,hc⟩:=aB.1 hc
         have hj':=bO.1 hj;unfold mQ at hc;rcases aq.1 hc with hc|hc
         ·split at hc
          ·rcases ar.1 hc with rfl|hc
           ·omega
           ·exact DY _ c hc
          ·simp at hc
         ·exact G0 m (rD h hj') c hc
        ·simp at hc;omega
       ·simp at hc
theorem nI {l:List V}(h:firstBad (l.map (chk 16))=0): ∀c∈me 16 l,0 <= c /\ c <= 255:=by
 intro c hc;obtain⟨x,hx,hc⟩:=aB.1 hc;exact G0 16 (oT.1 h _ (bg.2 ⟨x,hx,rfl⟩)) c hc
theorem zo:∀ {k l:List Int},(∀c∈k,0 <= c /\ c <= 255) -> (∀c∈l,0 <= c /\ c <= 255) -> cmpB (k.map fun n=>UInt8.ofNat n.toNat) (l.map fun n=>UInt8.ofNat n.toNat)=cmpL k l
 | [],[],_,_=>rfl
 | [],_ :: _,_,_=>rfl
 | _ :: _,[],_,_=>rfl
 | a :: k,b :: l,h,h'=>by
  have ha:=h a iz;have hb:=h' b iz;have ih:=zo (k:=k) (l:=l) (fun c hc=>h c (az _ hc)) (fun c hc=>h' c (az _ hc));have lt:∀x y:Int,0 <= x /\ x <= 255 -> 0 <= y /\ y <= 255 -> (UInt8.ofNat x.toNat<UInt8.ofNat y.toNat ↔ x<y):=by
   intro x y hx hy;rw[bF,UInt8.toNat_ofNat',UInt8.toNat_ofNat'];omega
  rw[aM,aM,cmpB,cmpL,ih];simp only[lt a b ha hb,lt b a hb ha]
end K
namespace Ord
open Go.Op
def strip:List UInt8 -> List UInt8
 | []=>[]
 | a :: r=>match strip r with
  | []=>if a=255 then[] else[a]
  | b :: q=>a :: b :: q
def yr:List UInt8 -> List UInt8
 | []=>[]
 | [a]=>[a+1]
 | a :: b :: r=>a :: yr (b :: r)
theorem pn (a:UInt8) (r:List UInt8):strip (a :: r)=match strip r with | []=>if a=255 then[] else[a]|b :: q=>a :: b :: q:=rfl
theorem Dz:∀ {s:List UInt8},strip s=[] -> ∀x∈s,x=255
 | [],_,x,hx=>(aR hx).elim
 | a :: r,h,x,hx=>by
  rw[pn] at h;cases hr:strip r with
  | nil=>
   rw[hr] at h;simp only at h;have ha:a=255:=by
    by_cases ha:a=255
    ·exact ha
    ·rw[if_neg ha] at h;cases h
   rcases ar.1 hx with e|e
   ·rw[e];exact ha
   ·exact Dz hr x e
  | cons b q=>rw[hr] at h;cases h
theorem JQ {a:UInt8}(ha:¬a=255): a<a+1:=by
 have h1:a.toNat<256:=a.toNat_lt;have h2:¬a.toNat=255:=fun e=>ha (cL e);rw[bF,gq];simp
 omega
theorem zM:∀ {s:List UInt8}(m:List UInt8),strip s≠[] -> bytesLess (s++m) (yr (strip s))=true
 | [],m,h=>(h rfl).elim
 | a :: r,m,h=>by
  rw[pn] at h ⊢;cases hr:strip r with
  | nil=>
   rw[hr] at h;simp only at h ⊢
   by_cases ha:a=255
   ·rw[if_pos ha] at h;exact(h rfl).elim
   ·rw[if_neg ha]
    show(decide (a<a+1) || _)=true
    rw[decide_eq_true (JQ ha)];rfl
  | cons b q=>
   have ih:=zM (s:=r) m (by rw[hr];intro h;cases h);rw[hr] at ih
   show(decide (a<a) || (a == a && bytesLess (r++m) (yr (b :: q))))=true
   rw[ih];simp
theorem PQ:∀ {s:List UInt8}(o:List UInt8),strip s=[] -> bytesLess o s=true \/ s <+: o
 | [],o,_=>.inr (List.nil_prefix)
 | a :: r,o,h=>by
  have ha:=Dz h a cj;have hr:strip r=[]:=by
   rw[pn] at h;cases hr:strip r with
   | nil=>rfl
   | cons b q=>rw[hr] at h;cases h
  cases o with
  | nil=>exact .inl rfl
  | cons c o=>
   by_cases hc:c=a
   ·subst hc
    rcases PQ o hr with h1|h1
    ·left
     show(decide (c<c) || (c == c && bytesLess o r))=true
     rw[h1];simp
    ·exact .inr (eX.2 ⟨rfl,h1⟩)
   ·left
    have iS:c<a:=by
     have h1:c.toNat<256:=c.toNat_lt;have h2:¬c.toNat=a.toNat:=fun e=>hc (cL e);rw[bF];rw[ha] at h2 ⊢;simp at h2 ⊢
     omega
    show(decide (c<a) || _)=true
    rw[decide_eq_true iS];rfl
theorem QF:∀ {s:List UInt8}(o:List UInt8),strip s≠[] -> bytesLess o (yr (strip s))=true -> bytesLess o s=true \/ s <+: o
 | [],o,h,_=>(h rfl).elim
 | a :: r,o,h,hl=>by
  cases o with
  | nil=>exact .inl rfl
  | cons c o=>
   rw[pn] at h hl;cases hr:strip r with
   | nil=>
    rw[hr] at h hl;simp only at h hl
    by_cases ha:a=255
    ·rw[if_pos ha] at h;exact(h rfl).elim
    ·rw[if_neg ha] at hl
     have B_:(decide (c<a+1) || (c == a+1 && bytesLess o []))=true:=hl;have e0:bytesLess o []=false:=by cases o<;>rfl
     rw[e0] at B_;simp at B_
     by_cases hc:c=a
     ·subst hc
      rcases PQ o hr with h1|h1
      ·left
       show(decide (c<c) || (c == c && bytesLess o r))=true
       rw[h1];simp
      ·exact .inr (eX.2 ⟨rfl,h1⟩)
     ·left
      have iS:c<a:=by
       have h1:a.toNat<256:=a.toNat_lt;have h2:¬c.toNat=a.toNat:=fun e=>hc (cL e);have h3:¬a.toNat=255:=fun e=>ha (cL e);rw[bF] at B_ ⊢;rw[gq] at B_;simp at B_
       omega
      show(decide (c<a) || _)=true
      rw[decide_eq_true iS];rfl
   | cons b q=>
    rw[hr] at hl;have B_:(decide (c<a) || (c == a && bytesLess o (yr (b :: q))))=true:=hl
    by_cases iS:c<a
    ·left
     show(decide (c<a) || _)=true
     rw[decide_eq_true iS];rfl
    ·rw[decide_eq_false iS] at B_
     simp only[gT,aA,beq_iff_eq] at B_;obtain⟨hc,qB⟩:=B_;subst hc;rcases QF (s:=r) o (by rw[hr];intro h;cases h) (by rw[hr];exact qB) with h1|h1
     ·left
      show(decide (c<c) || (c == c && bytesLess o r))=true
      rw[h1];simp
     ·exact .inr (eX.2 ⟨rfl,h1⟩)
theorem KG:∀(l:List UInt8),strip (l++[255])=strip l
 | []=>rfl
 | a :: r=>by
  show strip (a :: (r++[255]))=_
  rw[pn,pn,KG r]
theorem Ie:∀(l:List UInt8) {c:UInt8},¬c=255 -> strip (l++[c])=l++[c]
 | [],c,h=>by show strip [c]=[c];rw[pn];show(if c=255 then[] else[c])=[c];rw[if_neg h]
 | a :: r,c,h=>by
  show strip (a :: (r++[c]))=_
  rw[pn,Ie r h];cases r<;>rfl
theorem MD:∀(l:List UInt8) (c:UInt8),yr (l++[c])=l++[c+1]
 | [],c=>rfl
 | [a],c=>rfl
 | a :: b :: r,c=>by
  show a :: yr ((b :: r)++[c])=_
  rw[MD (b :: r) c]
  rfl
theorem SV {t:ByteArray}{k:Nat}(hk:t.size=k+1): t.toList=(t.extract 0 k).toList++[t[k]'gZ]:=by
 rw[aD,aD];have h1:(t.extract 0 k).data=t.data.extract 0 k:=by simp[ByteArray.data_extract]
 rw[h1];have hs:t.data.toList.length=k+1:=by rw[bI];exact hk
 have h2:(t.data.extract 0 k).toList=t.data.toList.take k:=iz;rw[h2];have h3:t[k]'gZ=t.data.toList[k]'gZ:=by rfl
 rw[h3,List.take_append_getElem];exact(bC gZ).symm
theorem GJ {t:ByteArray}(h:t.size=0): t.toList=[]:=by
 rw[aD];exact bj (by rw[bI];exact h)
end Ord
namespace Ix
open K Tre
open Op (bytesLess)
def iV (n:Int):V:=.mk 3 n 0 jz [] []
def rB (v:V) (n:Int):ByteArray:=strOfNums (me 16 [v,iV n])
def qi (v:V):ByteArray:=strOfNums (me 16 [v])
def Rg (v:V):Prop:=∃f,Ran f v
abbrev R6 (n:Int):Prop:=-9223372036854775808 <= n /\ n <= 9223372036854775807
theorem sW (n:Int): chk 16 (iV n)=0:=by
 show(if qu (iV n)=0 then firstBad [] else qu (iV n))=0
 have:qu (iV n)=0:=rfl;rw[if_pos this]
 rfl
theorem adH {n:Int}(h:R6 n): Rg (iV n):=⟨1,by show n.natAbs<10 ^ 20;omega,fun _ h=>by cases h⟩
theorem afR (n m:Int): ordV 16 (iV n) (iV m)=nD n m:=by
 show SN n 0 m 0=nD n m
 unfold SN;simp only[Int.toNat_zero,Nat.pow_zero,cP];unfold nD
 by_cases a1:n<0<;>by_cases a2:0<n<;>by_cases b1:m<0<;>by_cases b2:0<m<;>simp only[a1,a2,b1,b2,if_true,fm]<;>(repeat' split)<;>omega
theorem F0 (v u:V): me 16 [v,u]=keyV 16 v++(keyV 16 u++[]):=rfl
theorem CV (v:V): me 16 [v]=keyV 16 v++[]:=rfl
section
variable {v u x y:V}{n m:Int}
theorem F4 (hv:chk 16 v=0) (hu:chk 16 u=0): firstBad ([v,u].map (chk 16))=0:=by
 show firstBad [chk 16 v,chk 16 u]=0
 rw[hv,hu]
 rfl
theorem Um (hv:chk 16 v=0): firstBad ([v].map (chk 16))=0:=by
 show firstBad [chk 16 v]=0
 rw[hv]
 rfl
theorem sc (hv:chk 16 v=0) (hu:chk 16 u=0) (rv:Rg v) (ru:Rg u): SC (keyV 16 v) (keyV 16 u) (ordV 16 v u):=by
 obtain⟨f,rv⟩:=rv;obtain⟨f',ru⟩:=ru;exact SC.key 16 hv hu rv ru
theorem Yu (hv:chk 16 v=0) (rv:Rg v): ordV 16 v v=0:=by
 have h:=sc hv hv rv rv [] []
 by_cases h0:ordV 16 v v=0
 ·exact h0
 ·rw[if_neg h0,zm] at h
  exact h.symm
theorem Nf {a b:List Int}(ha:∀c∈a,0 <= c /\ c <= 255) (hb:∀c∈b,0 <= c /\ c <= 255): bytesLess (strOfNums a).toList (strOfNums b).toList=decide (cmpL a b = -1):=by
 rw[J4,Lib.strOfNums_toList,Lib.strOfNums_toList];exact cq.2 (by rw[<- zo ha hb];exact Iff.rfl)
theorem Nu:∀(a b:List Int),cmpL a b = -1 \/ cmpL a b=0 \/ cmpL a b=1
 | [],[]=>.inr (.inl rfl)
 | [],_ :: _=>.inl rfl
 | _ :: _,[]=>.inr (.inr rfl)
 | a :: r,b :: s=>by
  unfold cmpL
  split
  ·exact .inl rfl
  ·split
   ·exact .inr (.inr rfl)
   ·exact Nu r s
theorem Tk (hv:chk 16 v=0) (hu:chk 16 u=0) (rv:Rg v) (ru:Rg u): ordV 16 v u = -1 \/ ordV 16 v u=0 \/ ordV 16 v u=1:=by
 have h:=sc hv hu rv ru [] []
 by_cases h0:ordV 16 v u=0
 ·exact .inr (.inl h0)
 ·rw[if_neg h0] at h
  rw[<- h];exact Nu _ _
theorem W8 (hv:chk 16 v=0) (hu:chk 16 u=0) (rv:Rg v) (ru:Rg u) (hn:R6 n) (hm:R6 m): cmpL (me 16 [v,iV n]) (me 16 [u,iV m])=if ordV 16 v u=0 then nD n m else ordV 16 v u:=by
 rw[F0,F0,sc hv hu rv ru]
 by_cases h0:ordV 16 v u=0
 ·rw[if_pos h0,if_pos h0,sc (sW n) (sW m) (adH hn) (adH hm),afR]
  split
  ·rename_i h;rw[h];rfl
  ·rfl
 ·rw[if_neg h0,if_neg h0]
theorem acG {b:Int}: nD a b = -1 ↔ a<b:=by unfold nD;split<;>(try split)<;>omega
theorem abM (hv:chk 16 v=0) (hu:chk 16 u=0) (rv:Rg v) (ru:Rg u) (hn:R6 n) (hm:R6 m): kl (rB v n) (rB u m)=decide (ordV 16 v u<0 \/ (ordV 16 v u=0 /\ n<m)):=by
 show bytesLess (rB v n).toList (rB u m).toList=_
 unfold rB;rw[Nf (nI (F4 hv (sW n))) (nI (F4 hu (sW m))),W8 hv hu rv ru hn hm];refine cq.2 ?_;have hr:=Tk hv hu rv ru
 by_cases h0:ordV 16 v u=0
 ·rw[if_pos h0,acG];omega
 ·rw[if_neg h0];omega
theorem YA: ∀ {a b:List Int},(∀c∈a,0 <= c /\ c <= 255) -> (∀c∈b,0 <= c /\ c <= 255) -> strOfNums a=strOfNums b -> cmpL a b=0:=fun {a b} ha hb h=>by
 rw[<- zo ha hb];have e:=congrArg (fun s:ByteArray=>s.data.toList) h;simp only[gG] at e;rw[e];have:=CQ (b.map fun x=>UInt8.ofNat x.toNat) (b.map fun x=>UInt8.ofNat x.toNat);omega
theorem W6 (hv:chk 16 v=0) (hu:chk 16 u=0) (rv:Rg v) (ru:Rg u) (hn:R6 n) (hm:R6 m) (h:rB v n=rB u m): ordV 16 v u=0 /\ n=m:=by
 have:=YA (nI (F4 hv (sW n))) (nI (F4 hu (sW m))) h;rw[W8 hv hu rv ru hn hm] at this
 by_cases h0:ordV 16 v u=0
 ·rw[if_pos h0] at this
  exact⟨h0,vm.1 this⟩
 ·rw[if_neg h0] at this
  exact(h0 this).elim
theorem afr (hv:chk 16 v=0) (hx:chk 16 x=0) (rv:Rg v) (rx:Rg x): cmpL (me 16 [v,iV n]) (me 16 [x])=if ordV 16 v x=0 then 1 else ordV 16 v x:=by
 rw[F0,CV,sc hv hx rv rx]
 by_cases h0:ordV 16 v x=0
 ·rw[if_pos h0,if_pos h0]
  obtain⟨c,r,h,-⟩:=zK (sW n);rw[h]
  rfl
 ·rw[if_neg h0,if_neg h0]
theorem F1 (hv:chk 16 v=0) (hx:chk 16 x=0) (rv:Rg v) (rx:Rg x): kl (rB v n) (qi x)=decide (ordV 16 v x<0):=by
 show bytesLess (rB v n).toList (qi x).toList=_
 unfold rB qi;rw[Nf (nI (F4 hv (sW n))) (nI (Um hx)),afr hv hx rv rx];refine cq.2 ?_;have hr:=Tk hv hx rv rx
 by_cases h0:ordV 16 v x=0
 ·rw[if_pos h0];omega
 ·rw[if_neg h0];omega
theorem Ib (hv:chk 16 v=0) (hu:chk 16 u=0) (rv:Rg v) (ru:Rg u) (h:ordV 16 v u=0): keyV 16 v=keyV 16 u:=(h ▸ sc hv hu rv ru:SC _ _ 0).eq0
theorem tV (a:List Int): (strOfNums a).toList=a.map fun n=>UInt8.ofNat n.toNat:=by rw[aD,gG]
theorem Zw {a b:List Int}(ha:∀c∈a,0 <= c /\ c <= 255) (hb:∀c∈b,0 <= c /\ c <= 255) (h:a.map (fun n:Int=>UInt8.ofNat n.toNat)=b.map fun n:Int=>UInt8.ofNat n.toNat): a=b:=by
 apply CR
 rw[<- zo ha hb,h];have:=CQ (b.map fun x=>UInt8.ofNat x.toNat) (b.map fun x=>UInt8.ofNat x.toNat);omega
theorem WA (hv:chk 16 v=0) (hx:chk 16 x=0) (rv:Rg v) (rx:Rg x): ((qi x).toList <+: (rB v n).toList) ↔ ordV 16 v x=0:=by
 unfold qi rB;rw[tV,tV]
 constructor
 ·intro h
  have hg:=nI (F4 hv (sW n));have ac9:me 16 [x] <+: me 16 [v,iV n]:=by
   obtain⟨t,ht⟩:=h;have h1:me 16 [x]=(me 16 [v,iV n]).take (me 16 [x]).length:=by
    refine Zw (nI (Um hx)) (fun c hc=>hg c (bN hc)) ?_;rw[cO,<- ht,bP iz,bC iz]
   rw[h1];exact List.take_prefix _ _
  obtain⟨t,ht⟩:=ac9;have h2:=sc hv hx rv rx (keyV 16 (iV n)++[]) t;rw[<- F0,<- ht,CV,aS,zm] at h2
  by_cases h0:ordV 16 v x=0
  ·exact h0
  ·rw[if_neg h0] at h2
   exact(h0 h2.symm).elim
 ·intro h0
  rw[F0,CV,Ib hv hx rv rx h0,aS];rw[aK];exact List.prefix_append _ _
end
end Ix
namespace Tre
def Tr:Nat -> Type
 | 0=>Nat × List KV
 | d+1=>Nat × List (Tr d)
def qF (b:Nat) (es:List KV):Tr 0:=(b,es)
def jY {d:Nat}(b:Nat) (l:List (Tr d)):Tr (d+1):=(b,l)
def blk:(d:Nat) -> Tr d -> Nat
 | 0,t=>t.1
 | _+1,t=>t.1
def jt:(d:Nat) -> Tr d -> List KV
 | 0,t=>t.2
 | d+1,t=>List.flatMap (jt d) t.2
def kE:(d:Nat) -> Tr d -> List (Nat × List KV)
 | 0,t=>[(t.1,t.2)]
 | d+1,t=>List.flatMap (kE d) t.2
def ja:(d:Nat) -> Tr d -> List Nat
 | 0,t=>[t.1]
 | d+1,t=>t.1 :: List.flatMap (ja d) t.2
def iQ:(d:Nat) -> Tr d -> Nat
 | 0,t=>List.length t.2
 | _+1,t=>List.length t.2
def Bd:List KV -> Ky
 | []=>ByteArray.empty
 | e :: _=>e.1
def fk (d:Nat) (t:Tr d):Ky:=Bd (jt d t)
structure En where
 key:Ky
 num:Int
 m7:Option Nat
def ke (es:List KV):List En:=es.map fun e=>⟨e.1,e.2,none⟩
def jd (d:Nat) (s:Tr d):En:=⟨fk d s,0,some (blk d s)⟩
def iv:(d:Nat) -> Tr d -> List En
 | 0,t=>ke t.2
 | d+1,t=>List.map (jd d) t.2
structure Nd where
 leaf:Bool
 es:List En
 next:Option Nat
abbrev St:=Nat -> Option Nd
def kv (st:St) (b:Nat) (nd:Nd):St:=fun x=>if x=b then some nd else st x
theorem lz (st:St) (b:Nat) (nd:Nd): kv st b nd b=some nd:=by simp[kv]
theorem jb {st:St}{x:Nat}{nd:Nd}(h:x≠b): kv st b nd x=st x:=by simp[kv,h]
theorem S_ (st:St) (b:Nat) (x y:Nd): kv (kv st b x) b y=kv st b y:=by funext z;unfold kv;split<;>rfl
def pN:(d:Nat) -> St -> Tr d -> Prop
 | 0,_,_=>True
 | d+1,st,t=>st t.1=some ⟨false,iv (d+1) t,none⟩ /\ ∀s,List.Mem s t.2 -> pN d st s
def hd (l:List (Nat × List KV)) (nx:Option Nat):Option Nat :=
 match l with
 | []=>nx
 | x :: _=>some x.1
def Lnk (st:St):List (Nat × List KV) -> Option Nat -> Prop
 | [],_=>True
 | x :: r,nx=>st x.1=some ⟨true,ke x.2,hd r nx⟩ /\ Lnk st r nx
theorem nZ (a b:List (Nat × List KV)) (nx:Option Nat): hd (a++b) nx=hd a (hd b nx):=by cases a<;>rfl
theorem Lnk.app {st:St}: ∀ {a b:List (Nat × List KV)}{nx:Option Nat},Lnk st (a++b) nx ↔ Lnk st a (hd b nx) /\ Lnk st b nx
 | [],b,nx=>by simp[Lnk]
 | x :: a,b,nx=>by
  rw[aT];simp only[Lnk];rw[Lnk.app,nZ,and_assoc]
theorem Lnk.congr {st st':St}: ∀ {a:List (Nat × List KV)}{nx:Option Nat},Lnk st a nx -> (∀x∈a,st' x.1=st x.1) -> Lnk st' a nx
 | [],_,_,_=>trivial
 | x :: a,nx,h,hc=>⟨by rw[hc x iz];exact h.1,h.2.congr fun y hy=>hc y (by simp[hy])⟩
theorem pI: ∀(d:Nat) (t:Tr d),blk d t∈ja d t
 | 0,t=>by simp[blk,ja]
 | d+1,t=>by simp[blk,ja]
theorem pQ:∀(d:Nat) (t:Tr d) (x:Nat × List KV),x∈kE d t -> x.1∈ja d t
 | 0,t,x,h=>by simp[kE] at h;subst h;simp[ja]
 | d+1,t,x,h=>by
  obtain⟨s,hs,hx⟩:=aB.1 h;exact az _ (aB.2 ⟨s,hs,pQ d s x hx⟩)
theorem pN.congr: ∀ {d:Nat}{st st':St}{t:Tr d},pN d st t -> (∀b∈ja d t,st' b=st b) -> pN d st' t
 | 0,_,_,_,_,_=>trivial
 | d+1,st,st',t,h,hc=>⟨by rw[hc t.1 (by simp[ja])];exact h.1,fun s hs=>(h.2 s hs).congr fun b hb=>hc b (az _ (aB.2 ⟨s,hs,hb⟩))⟩
theorem QA:∀(d:Nat) (t:Tr d),jt d t=(kE d t).flatMap Prod.snd
 | 0,t=>by simp[jt,kE]
 | d+1,t=>by
  show List.flatMap (jt d) t.2=List.flatMap Prod.snd (List.flatMap (kE d) t.2)
  rw[List.flatMap_assoc];exact congrArg (fun f=>List.flatMap f t.2) (funext (QA d))
def Mn:(d:Nat) -> Tr d -> Prop
 | 0,t=>List.length t.2 <= 8
 | d+1,t=>List.length t.2 <= 8 /\ ∀s,List.Mem s t.2 -> 4 <= iQ d s /\ Mn d s
theorem Mn.le: ∀ {d:Nat}{t:Tr d},Mn d t -> iQ d t <= 8
 | 0,_,h=>h
 | _+1,_,h=>h.1
theorem sC:∀ {d:Nat}{t:Tr d},Mn d t -> 1 <= iQ d t -> jt d t≠[]
 | 0,t,_,h=>by intro e;simp only[jt] at e;simp only[iQ] at h;rw[e] at h;simp at h
 | d+1,t,hm,h=>by
  obtain⟨b,l⟩:=t;cases l with
  | nil=>simp[iQ] at h
  | cons s l=>
   intro e;have h1:=hm.2 s (List.Mem.head _);have h2:=sC h1.2 gZ;simp only[jt,an,dz] at e;exact h2 e.1
theorem vt: ∀(d:Nat) (t:Tr d),(iv d t).length=iQ d t
 | 0,t=>by simp[iv,iQ,ke]
 | d+1,t=>by simp[iv,iQ]
theorem Qz:∀ {d:Nat}{t:Tr d},Mn d t -> 4 <= iQ d t -> 3*(ja d t).length+1 <= (jt d t).length
 | 0,t,_,h=>by simp only[iQ] at h;simp only[ja,jt,dH];omega
 | d+1,t,hm,h=>by
  obtain⟨b,l⟩:=t;have key:∀l:List (Tr d),(∀s,List.Mem s l -> 4 <= iQ d s /\ Mn d s) -> 3*(l.flatMap (ja d)).length+l.length <= (l.flatMap (jt d)).length:=by
   intro l
   induction l with
   | nil=>intro _;simp
   | cons s l ih=>
    intro hl;have h1:=ih fun x hx=>hl x (List.Mem.tail _ hx);have h2:=hl s (List.Mem.head _);have h3:=Qz h2.2 h2.1;simp only[an,aa,aj];omega
  have h2:=key l hm.2;simp only[iQ] at h;simp only[ja,jt,aj];omega
def ym (k:Ky) (l:List Ky):Nat -> Nat
 | 0=>0
 | i+1=>if kl k (l.getD (i+1) ByteArray.empty) then ym k l i else i+1
theorem Je (k:Ky) (l:List Ky):∀n,ym k l n <= n /\ (∀j,ym k l n<j -> j <= n -> kl k (l.getD j ByteArray.empty)=true) /\ (ym k l n=0 \/ kl k (l.getD (ym k l n) ByteArray.empty)=false)
 | 0=>⟨af _,fun j h1 h2=>by simp[ym] at h1;omega,.inl rfl⟩
 | i+1=>by
  obtain⟨h1,h2,h3⟩:=Je k l i;unfold ym
  split
  ·rename_i hk
   refine⟨gZ,fun j hj th=>?_,h3⟩;rcases aO i j with h|h
   ·obtain rfl:j=i+1:=gZ
    exact hk
   ·exact h2 j hj h
  ·rename_i hk
   exact⟨af _,fun j hj th=>by omega,.inr (by simpa using hk)⟩
theorem acN {l:List KV}(h:qc l): ∀e∈l,kl e.1 (Bd l)=false:=by
 cases l with
 | nil=>intro e he;cases he
 | cons a r=>
  intro e he;rcases ar.1 he with rfl|he
  ·exact zE _
  ·exact vp ((bH.1 h).1 e he)
theorem Fw {l:List KV}(h:l≠[]): ∃e∈l,e.1=Bd l:=by
 cases l with
 | nil=>exact absurd rfl h
 | cons a r=>exact⟨a,iz,rfl⟩
theorem Eb {k:Ky}{ts:List (Tr d)}(kD:∀s∈ts,jt d s≠[]) (hs:qc (ts.flatMap (jt d))) (h0:ts≠[]):
  ∃l s r,ts=l++s :: r /\ l.length=ym k (ts.map (fk d)) (ts.length - 1) /\ Lo (l.flatMap (jt d)) k /\ Hi (r.flatMap (jt d)) k /\ (l≠[] -> kl k (fk d s)=false):=by
 obtain⟨h1,h2,h3⟩:=Je k (ts.map (fk d)) (ts.length - 1);have hlen:=gM.2 h0;generalize ym k (ts.map (fk d)) (ts.length - 1)=i at h1 h2 h3;have hi:i<ts.length:=gZ;have EW:ts=ts.take i++ts[i] :: ts.drop (i+1):=by rw[<- bp hi,aL]
 have qM:∀j (hj:j<ts.length),(ts.map (fk d)).getD j ByteArray.empty=fk d ts[j]:=fun j hj=>by simp[hj]
 refine⟨ts.take i,ts[i],ts.drop (i+1),EW,by rw[aE];omega,?_,?_,?_⟩
 ·rw[EW] at hs
  simp only[ai,an] at hs;intro e he;rcases h3 with rfl|h3
  ·simp at he
  ·obtain⟨q,hq,hqk⟩:=Fw (kD ts[i] (aN hi))
   have:=(pJ.1 hs).2.2 e he q (aV _ hq);rw[hqk] at this;rw[qM i hi] at h3;exact Bt this h3
 ·intro e he
  obtain⟨s,lX,he⟩:=aB.1 he;obtain⟨j,hj,rfl⟩:=bn lX;rw[aQ] at hj;have hk:=h2 (i+1+j) gZ gZ;rw[qM _ gZ] at hk;rw[List.getElem_drop] at he;have hss:qc (jt d ts[i+1+j]):=by
   have:=EW ▸ hs;have h5:∀(l:List (Tr d)),qc (l.flatMap (jt d)) -> ∀s∈l,qc (jt d s):=by
    intro l
    induction l with
    | nil=>intro _ s h;cases h
    | cons a l ih=>
     intro hl s lX;rw[an] at hl;rcases ar.1 lX with rfl|lX
     ·exact(pJ.1 hl).1
     ·exact ih (pJ.1 hl).2.1 s lX
   exact h5 ts hs _ (aN _)
  have hle:=acN hss e he;exact Bt hk hle
 ·intro hl
  rcases h3 with rfl|h3
  ·simp at hl
  ·rw[qM i hi] at h3;exact h3
inductive Ctx:Nat -> Nat -> Type
 | top {d:Nat}:Ctx d d
 | down {D d:Nat}(c:Ctx D (d+1)) (b:Nat) (l r:List (Tr d)):Ctx D d
def plug:{D d:Nat} -> Ctx D d -> Tr d -> Tr D
 | _,_,.top,t=>t
 | _,_,.down c b l r,t=>plug c (jY b (l++t :: r))
def cl:{D d:Nat} -> Ctx D d -> List KV
 | _,_,.top=>[]
 | _,d,.down c _ l _=>cl c++l.flatMap (jt d)
def cr:{D d:Nat} -> Ctx D d -> List KV
 | _,_,.top=>[]
 | _,d,.down c _ _ r=>r.flatMap (jt d)++cr c
def ll:{D d:Nat} -> Ctx D d -> List (Nat × List KV)
 | _,_,.top=>[]
 | _,d,.down c _ l _=>ll c++l.flatMap (kE d)
def lr:{D d:Nat} -> Ctx D d -> List (Nat × List KV)
 | _,_,.top=>[]
 | _,d,.down c _ _ r=>r.flatMap (kE d)++lr c
def cb:{D d:Nat} -> Ctx D d -> List Nat
 | _,_,.top=>[]
 | _,d,.down c b l r=>cb c++b :: (l.flatMap (ja d)++r.flatMap (ja d))
theorem nS (b:Nat) (l:List (Tr d)): jt (d+1) (jY b l)=l.flatMap (jt d):=rfl
theorem mT (b:Nat) (l:List (Tr d)): kE (d+1) (jY b l)=l.flatMap (kE d):=rfl
theorem kF (b:Nat) (l:List (Tr d)): ja (d+1) (jY b l)=b :: l.flatMap (ja d):=rfl
theorem oU (b:Nat) (l:List (Tr d)): iQ (d+1) (jY b l)=l.length:=rfl
theorem vj:∀ {D d:Nat}(c:Ctx D d) (t:Tr d),jt D (plug c t)=cl c++jt d t++cr c
 | _,_,.top,t=>by simp[plug,cl,cr]
 | _,_,.down c b l r,t=>by
  unfold plug cl cr;rw[vj c,nS,ai,an];simp only[ao]
theorem tT:∀ {D d:Nat}(c:Ctx D d) (t:Tr d),kE D (plug c t)=ll c++kE d t++lr c
 | _,_,.top,t=>by simp[plug,ll,lr]
 | _,_,.down c b l r,t=>by
  unfold plug ll lr;rw[tT c,mT,ai,an];simp only[ao]
theorem om:∀ {D d:Nat}(c:Ctx D d) (t:Tr d),(ja D (plug c t)).Perm (cb c++ja d t)
 | _,_,.top,t=>by simp[plug,cb]
 | _,_,.down c b l r,t=>by
  unfold plug cb;refine(om c _).trans ?_;rw[kF,ai,an,ao,aT,ao];refine dI _ (List.Perm.cons _ (dI _ ?_));exact List.perm_append_comm
def ue (st:St) (k:Ky):{D d:Nat} -> Ctx D d -> Tr d -> Prop
 | _,_,.top,_=>True
 | _,d,.down c b l r,t=>st b=some ⟨false,l.map (jd d)++⟨xm (fk d t) k,0,some (blk d t)⟩ :: r.map (jd d),none⟩ /\ (∀s∈l,pN d st s) /\ (∀s∈r,pN d st s) /\ ue st k c (jY b (l++t :: r))
theorem Bw {st:St}{k:Ky}{t:Tr d}: ue st k .top t:=by unfold ue;trivial
theorem rJ {st:St}{k:Ky}{c:Ctx D (d+1)}{l r:List (Tr d)}{t:Tr d}: ue st k (.down c b l r) t ↔
  st b=some ⟨false,l.map (jd d)++⟨xm (fk d t) k,0,some (blk d t)⟩ :: r.map (jd d),none⟩ /\ (∀s∈l,pN d st s) /\ (∀s∈r,pN d st s) /\ ue st k c (jY b (l++t :: r)):=by rw[ue]
theorem nv {t:Tr d}: plug .top t=t:=by rw[plug]
theorem nV {c:Ctx D (d+1)}{l r:List (Tr d)}{t:Tr d}: plug (.down c b l r) t=plug c (jY b (l++t :: r)):=by rw[plug]
theorem ue.congr {st st':St}{k:Ky}: ∀ {D d:Nat}{c:Ctx D d}{t:Tr d},ue st k c t -> (∀x∈cb c,st' x=st x) -> ue st' k c t
 | _,_,.top,_,_,_=>Bw
 | _,_,.down c b l r,t,h,hc=>by
  obtain⟨h1,h2,h3,h4⟩:=rJ.1 h;refine rJ.2 ⟨by rw[hc b (by simp[cb])];exact h1,fun s hs=>(h2 s hs).congr fun x hx=>hc x ?_,fun s hs=>(h3 s hs).congr fun x hx=>hc x ?_,h4.congr fun x hx=>hc x (by simp only[cb,aq];exact .inl hx)⟩
  ·simp only[cb,aq,ar];exact .inr (.inr (.inl (aB.2 ⟨s,hs,hx⟩)))
  ·simp only[cb,aq,ar];exact .inr (.inr (.inr (aB.2 ⟨s,hs,hx⟩)))
theorem ue.of {st:St}{k:Ky}: ∀ {D d:Nat}{c:Ctx D d}{t t':Tr d},ue st k c t -> jt d t'=jt d t -> blk d t'=blk d t -> ue st k c t'
 | _,_,.top,_,_,_,_,_=>Bw
 | _,_,.down c b l r,t,t',h,he,hb=>by
  obtain⟨h1,h2,h3,h4⟩:=rJ.1 h;refine rJ.2 ⟨by unfold fk at h1 ⊢;rw[he,hb];exact h1,h2,h3,h4.of ?_ rfl⟩;rw[nS,nS,ai,ai,an,an,he]
def lowC:{D d:Nat} -> Ctx D d -> Nat -> Prop
 | _,_,.top,_=>True
 | _,_,.down _ _ _ _,n=>4 <= n
def Zn:{D d:Nat} -> Ctx D d -> Prop
 | _,_,.top=>True
 | _,d,.down c _ l r=>l.length+r.length+1 <= 8 /\ (∀s∈l,4 <= iQ d s /\ Mn d s) /\ (∀s∈r,4 <= iQ d s /\ Mn d s) /\ lowC c (l.length+r.length+1) /\ Zn c
theorem wV {l:List (Tr d)}: Mn (d+1) (jY b l) ↔ l.length <= 8 /\ ∀s∈l,4 <= iQ d s /\ Mn d s:=Iff.rfl
theorem lY {st:St}{l:List (Tr d)}: pN (d+1) st (jY b l) ↔ st b=some ⟨false,l.map (jd d),none⟩ /\ ∀s∈l,pN d st s:=Iff.rfl
theorem vG:∀ {D d:Nat}{c:Ctx D d}{t:Tr d},Mn D (plug c t) ↔ Zn c /\ lowC c (iQ d t) /\ Mn d t
 | _,_,.top,t=>by simp[plug,Zn,lowC]
 | _,_,.down c b l r,t=>by
  unfold plug Zn lowC;rw[vG (c:=c),wV,oU];have e:(l++t :: r).length=l.length+r.length+1:=by simp only[aa,aj];omega
  rw[e]
  constructor
  ·rintro⟨h1,h2,h3,h4⟩
   have ht:=h4 t iz;exact⟨⟨h3,fun s hs=>h4 s (by simp[hs]),fun s hs=>h4 s (by simp[hs]),h2,h1⟩,ht.1,ht.2⟩
  ·rintro⟨⟨h3,h4,h5,h2,h1⟩,h6,h7⟩
   refine⟨h1,h2,h3,fun s hs=>?_⟩;rcases aq.1 hs with hs|hs
   ·exact h4 s hs
   ·rcases ar.1 hs with rfl|hs
    ·exact⟨h6,h7⟩
    ·exact h5 s hs
theorem BA:∀ {D d:Nat}(c:Ctx D d) {t t':Tr d},iQ d t <= iQ d t' -> iQ D (plug c t) <= iQ D (plug c t')
 | _,_,.top,_,_,h=>by rw[nv,nv];exact h
 | _,_,.down c b l r,t,t',_=>by
  rw[nV,nV];refine BA c ?_;rw[oU,oU];simp
theorem s_ {a b:List KV}(h:a≠[]): Bd (a++b)=Bd a:=by cases a with|nil=>exact absurd rfl h|cons x a=>rfl
theorem acJ {l:List (Tr d)}(h:l≠[]) (hl:∀s∈l,4 <= iQ d s /\ Mn d s): l.flatMap (jt d)≠[]:=by
 cases l with
 | nil=>exact absurd rfl h
 | cons s l=>
  intro e;have h1:=hl s iz;rw[an,dz] at e;exact sC h1.2 gZ e.1
theorem ue.done {st st':St}{k:Ky}: ∀ {D d:Nat}{c:Ctx D d}{t t':Tr d},ue st k c t -> blk d t'=blk d t -> jt d t≠[] -> jt d t'≠[] -> fk d t'=xm (fk d t) k -> Lo (cl c) k -> Zn c -> (∀x∈cb c,st' x=st x) -> pN d st' t' -> pN D st' (plug c t')
 | _,_,.top,_,_,_,_,_,_,_,_,_,_,h=>by rw[nv];exact h
 | _,d,.down c b l r,t,t',h0,hb,he,he',hf,rM,hm,hc,hr=>by
  obtain⟨h1,h2,h3,h4⟩:=rJ.1 h0;rw[nV];unfold Zn at hm;unfold cl at rM;obtain⟨DO,u9,hm3,hm4,Fo⟩:=hm;obtain⟨lo1,lo2⟩:=Lo.app.1 rM;have e1:jt (d+1) (jY b (l++t :: r))=l.flatMap (jt d)++(jt d t++r.flatMap (jt d)):=by rw[nS,ai,an]
  have e2:jt (d+1) (jY b (l++t' :: r))=l.flatMap (jt d)++(jt d t'++r.flatMap (jt d)):=by rw[nS,ai,an]
  refine ue.done h4 rfl ?_ ?_ ?_ lo1 Fo (fun x hx=>hc x (by simp only[cb,aq];exact .inl hx)) (lY.2 ⟨?_,?_⟩)
  ·rw[e1];intro e;simp only[dz] at e;exact he e.2.1
  ·rw[e2];intro e;simp only[dz] at e;exact he' e.2.1
  ·show Bd _=xm (Bd _) k
   rw[e1,e2]
   by_cases hl:l=[]
   ·subst hl
    simp only[cW,aH];rw[s_ he,s_ he'];exact hf
   ·have kD:=acJ hl u9
    rw[s_ kD,s_ kD];obtain⟨q,hq,hqk⟩:=Fw kD;have:=lo2 q hq;rw[hqk] at this;unfold xm;rw[if_neg (by rw[vp this];exact dw)]
  ·rw[hc b (by simp[cb]),h1,aK,aM]
   unfold jd;rw[hf,hb]
  ·intro s hs
   rcases aq.1 hs with hs|hs
   ·exact(h2 s hs).congr fun x hx=>hc x (by simp only[cb,aq,ar];exact .inr (.inr (.inl (aB.2 ⟨s,hs,hx⟩))))
   ·rcases ar.1 hs with rfl|hs
    ·exact hr
    ·exact(h3 s hs).congr fun x hx=>hc x (by simp only[cb,aq,ar];exact .inr (.inr (.inr (aB.2 ⟨s,hs,hx⟩))))
def ly:(d:Nat) -> Tr d -> Nat -> Tr d × Tr d
 | 0,t,g=>(qF t.1 (List.take 4 t.2),qF g (List.drop 4 t.2))
 | _+1,t,g=>(jY t.1 (List.take 4 t.2),jY g (List.drop 4 t.2))
theorem Kl: ∀(d:Nat) (t:Tr d) (g:Nat),jt d (ly d t g).1++jt d (ly d t g).2=jt d t
 | 0,t,g=>aL 4 t.2
 | d+1,t,g=>by
  show List.flatMap (jt d) (List.take 4 t.2)++List.flatMap (jt d) (List.drop 4 t.2)=List.flatMap (jt d) t.2
  rw[<- ai,aL]
theorem yn: ∀(d:Nat) (t:Tr d) (g:Nat),iQ d t=8 -> iQ d (ly d t g).1=4 /\ iQ d (ly d t g).2=4
 | 0,t,g,h=>by
  have h':List.length t.2=8:=h;exact⟨by show List.length (List.take 4 t.2)=4;rw[aE];omega,by show List.length (List.drop 4 t.2)=4;rw[aQ];omega⟩
 | d+1,t,g,h=>by
  have h':List.length t.2=8:=h;exact⟨by show List.length (List.take 4 t.2)=4;rw[aE];omega,by show List.length (List.drop 4 t.2)=4;rw[aQ];omega⟩
theorem H_: ∀(d:Nat) (t:Tr d) (g:Nat),iQ d t=8 -> Mn d t -> Mn d (ly d t g).1 /\ Mn d (ly d t g).2
 | 0,t,g,hc,h=>by
  obtain⟨h1,h2⟩:=yn 0 t g hc;exact⟨by show List.length (List.take 4 t.2) <= 8;rw[aE];omega,by show List.length (List.drop 4 t.2) <= 8;have:List.length t.2=8:=hc;rw[aQ];omega⟩
 | d+1,t,g,hc,h=>by
  have h':List.length t.2=8:=hc;exact⟨⟨by show List.length (List.take 4 t.2) <= 8;rw[aE];omega,fun s hs=>h.2 s (bN hs)⟩,⟨by show List.length (List.drop 4 t.2) <= 8;rw[aQ];omega,fun s hs=>h.2 s (dV hs)⟩⟩
theorem Kg: ∀(d:Nat) (t:Tr d) (g:Nat),blk d (ly d t g).1=blk d t /\ blk d (ly d t g).2=g
 | 0,_,_=>⟨rfl,rfl⟩
 | _+1,_,_=>⟨rfl,rfl⟩
theorem M8: ∀(d:Nat) (t:Tr d) (g:Nat),iv d (ly d t g).1=(iv d t).take 4 /\ iv d (ly d t g).2=(iv d t).drop 4
 | 0,t,g=>⟨by show ke (List.take 4 t.2)=_;exact cO,by show ke (List.drop 4 t.2)=_;exact cU⟩
 | d+1,t,g=>⟨by show List.map (jd d) (List.take 4 t.2)=_;exact cO,by show List.map (jd d) (List.drop 4 t.2)=_;exact cU⟩
theorem uu: ∀(d:Nat) (t:Tr d) (g:Nat),(ja d (ly d t g).1++ja d (ly d t g).2).Perm (g :: ja d t)
 | 0,t,g=>List.Perm.swap g t.1 []
 | d+1,t,g=>by
  show((t.1 :: List.flatMap (ja d) (List.take 4 t.2))++(g :: List.flatMap (ja d) (List.drop 4 t.2))).Perm (g :: t.1 :: List.flatMap (ja d) t.2)
  conv=>rhs;rw[<- aL 4 t.2,ai]
  exact List.perm_middle
structure Spl (st st':St) (d:Nat) (t:Tr d) (g:Nat):Prop where
 old:∃nx,st (blk d t)=some ⟨d == 0,iv d t,nx⟩ /\ st' (blk d t)=some ⟨d == 0,(iv d t).take 4,if d=0 then some g else none⟩ /\ st' g=some ⟨d == 0,(iv d t).drop 4,nx⟩
 rest:∀x,x≠blk d t -> x≠g -> st' x=st x
theorem RO: ∀ {d:Nat}{st st':St}{t:Tr d}{g:Nat},pN d st t -> Spl st st' d t g -> g ∉ ja d t -> (ja d t).Nodup -> pN d st' (ly d t g).1 /\ pN d st' (ly d t g).2
 | 0,_,_,_,_,_,_,_,_=>⟨trivial,trivial⟩
 | d+1,st,st',t,g,h,hs,hg,hn=>by
  obtain⟨⟨nx,h1,h2,h3⟩,h4⟩:=hs;have wJ:nx=none:=by have:=h.1.symm.trans h1;injection this with this;injection this with _ _ e;exact e.symm
  subst wJ;have LP:=(aY.1 hn).1;have hk:=fun s hs=>(h.2 s hs).congr fun x hx=>by
   have hm:=aB.2 ⟨s,hs,hx⟩;exact h4 x (fun e=>LP (by have e':x=t.1:=e;rw[<- e'];exact hm)) (fun e=>hg (az _ (by rw[<- e];exact hm)))
  obtain⟨e1,e2⟩:=M8 (d+1) t g;exact⟨⟨by show st' t.1=some ⟨false,iv (d+1) (ly (d+1) t g).1,none⟩;rw[e1];exact h2,fun s hs=>hk s (bN hs)⟩,⟨by show st' g=some ⟨false,iv (d+1) (ly (d+1) t g).2,none⟩;rw[e2];exact h3,fun s hs=>hk s (dV hs)⟩⟩
theorem Ss: ∀ {d:Nat}{st st':St}{t:Tr d}{g:Nat}{A B:List (Nat × List KV)}{nx:Option Nat},Spl st st' d t g -> (ja d t).Nodup -> (∀x∈A++B,x.1≠g /\ x.1≠blk d t) -> g ∉ ja d t -> Lnk st (A++kE d t++B) nx ->
  Lnk st' (A++(kE d (ly d t g).1++kE d (ly d t g).2)++B) nx
 | 0,st,st',t,g,A,B,nx,hs,hn,Hg,hg,h=>by
  obtain⟨⟨AF,h1,h2,h3⟩,h4⟩:=hs;obtain⟨hA,hB⟩:=Lnk.app.1 h;obtain⟨hA,ht,-⟩:=Lnk.app.1 hA;have wJ:AF=hd B nx:=by have:=ht.symm.trans h1;injection this with this;injection this with _ _ e;exact e.symm
  subst wJ;refine Lnk.app.2 ⟨Lnk.app.2 ⟨hA.congr fun x hx=>h4 _ (Hg x (by simp[hx])).2 (Hg x (by simp[hx])).1,⟨?_,?_,trivial⟩⟩,hB.congr fun x hx=>h4 _ (Hg x (by simp[hx])).2 (Hg x (by simp[hx])).1⟩
  ·rw[show((ly 0 t g).1.1=t.1) from rfl]
   show st' t.1=some ⟨true,ke (List.take 4 t.2),some g⟩
   have:ke (List.take 4 t.2)=(iv 0 t).take 4:=cO;rw[this];exact h2
  ·show st' g=some ⟨true,ke (List.drop 4 t.2),hd B nx⟩
   have:ke (List.drop 4 t.2)=(iv 0 t).drop 4:=cU;rw[this];exact h3
 | d+1,st,st',t,g,A,B,nx,hs,hn,Hg,hg,h=>by
  have e:kE (d+1) (ly (d+1) t g).1++kE (d+1) (ly (d+1) t g).2=kE (d+1) t:=by
   show List.flatMap (kE d) (List.take 4 t.2)++List.flatMap (kE d) (List.drop 4 t.2)=List.flatMap (kE d) t.2
   rw[<- ai,aL]
  rw[e];refine h.congr fun x hx=>?_;simp only[aq] at hx;have LP:=(aY.1 hn).1;rcases hx with(hx|hx)|hx
  ·exact hs.rest _ (Hg x (by simp[hx])).2 (Hg x (by simp[hx])).1
  ·obtain⟨s,lX,hxs⟩:=aB.1 (show x∈List.flatMap (kE d) t.2 from hx)
   have hm:=aB.2 ⟨s,lX,pQ d s x hxs⟩;exact hs.rest _ (fun e=>LP (by have e':x.1=t.1:=e;rw[<- e'];exact hm)) (fun e=>hg (az _ (e ▸ hm)))
  ·exact hs.rest _ (Hg x (by simp[hx])).2 (Hg x (by simp[hx])).1
structure Good (st:St) (D:Nat) (T:Tr D) (l:List KV):Prop where
 rep:pN D st T
 sg:Lnk st (kE D T) none
 nodup:(ja D T).Nodup
 el:jt D T=l
 uC:qc l
 mn:Mn D T
 root:D=0 \/ 2 <= iQ D T
theorem xT {st:St}{d:Nat}:∀ {l:List (Tr d)}{nx:Option Nat},Lnk st (l.flatMap (kE d)) nx -> ∀s∈l,∃JJ,Lnk st (kE d s) JJ
 | [],_,_,_,h=>by cases h
 | a :: l,nx,h,s,hs=>by
  rw[an] at h;obtain⟨h1,h2⟩:=Lnk.app.1 h;rcases ar.1 hs with rfl|hs
  ·exact⟨_,h1⟩
  ·exact xT h2 s hs
theorem AD:∀ {d:Nat}{st:St}{t:Tr d}{nx:Option Nat},pN d st t -> Lnk st (kE d t) nx -> ∀b∈ja d t,st b≠none
 | 0,st,t,nx,_,h,b,hb=>by
  simp only[ja,aZ] at hb;subst hb;rw[show st t.1=_ from h.1];simp
 | d+1,st,t,nx,hr,h,b,hb=>by
  rcases ar.1 (show b∈t.1 :: List.flatMap (ja d) t.2 from hb) with rfl|hb
  ·rw[hr.1];simp
  ·obtain⟨s,hs,hx⟩:=aB.1 hb
   obtain⟨JJ,h'⟩:=xT (l:=t.2) h s hs;exact AD (hr.2 s hs) h' b hx
theorem Good.dom {st:St}{T:Tr D}{l:List KV}(h:Good st D T l): ∀b∈ja D T,st b≠none:=AD h.rep h.sg
structure oJ (st:St) (k:Ky) {D d:Nat}(c:Ctx D d) (t:Tr d) (l:List KV):Prop where
 WT:ue st k c t
 Nr:pN d st t
 sg:Lnk st (kE D (plug c t)) none
 nodup:(ja D (plug c t)).Nodup
 el:jt D (plug c t)=l
 uC:qc l
 lo:Lo (cl c) k
 hi:Hi (cr c) k
 mn:Mn D (plug c t)
 root:D=0 \/ 2 <= iQ D (plug c t)
theorem oJ.start {st:St}{k:Ky}{T:Tr D}{l:List KV}(h:Good st D T l): oJ st k .top T l:=by
 have e:plug .top T=T:=nv;exact⟨Bw,h.rep,by rw[e];exact h.sg,by rw[e];exact h.nodup,by rw[e];exact h.el,h.uC,by unfold cl;exact Lo.nil,by unfold cr;exact Hi.nil,by rw[e];exact h.mn,by rw[e];exact h.root⟩
theorem QY {st:St}{k:Ky}:∀ {D d:Nat}{c:Ctx D d}{t:Tr d}{X:List (Nat × List KV)}{nx:Option Nat},ue st k c t -> Lnk st (ll c++X++lr c) nx -> ∀b∈cb c,st b≠none
 | _,_,.top,_,_,_,_,_,b,hb=>by simp[cb] at hb
 | _,d,.down c bb l r,t,X,nx,hr,h,b,hb=>by
  obtain⟨h1,h2,h3,h4⟩:=rJ.1 hr;unfold ll lr at h;have h':Lnk st (ll c++(l.flatMap (kE d)++X++r.flatMap (kE d))++lr c) nx:=by simpa only[ao] using h
  unfold cb at hb;simp only[aq,ar] at hb;rcases hb with hb|rfl|hb|hb
  ·exact QY h4 h' b hb
  ·rw[h1];simp
  ·obtain⟨s,hs,hx⟩:=aB.1 hb
   obtain⟨h5,-⟩:=Lnk.app.1 h';obtain⟨-,h5⟩:=Lnk.app.1 h5;rw[ao] at h5;obtain⟨h5,-⟩:=Lnk.app.1 h5;obtain⟨JJ,h6⟩:=xT h5 s hs;exact AD (h2 s hs) h6 b hx
  ·obtain⟨s,hs,hx⟩:=aB.1 hb
   obtain⟨h5,-⟩:=Lnk.app.1 h';obtain⟨-,h5⟩:=Lnk.app.1 h5;obtain⟨-,h5⟩:=Lnk.app.1 h5;obtain⟨JJ,h6⟩:=xT h5 s hs;exact AD (h3 s hs) h6 b hx
theorem oJ.dom {st:St}{k:Ky}{c:Ctx D d}{t:Tr d}{l:List KV}(h:oJ st k c t l): ∀b∈ja D (plug c t),st b≠none:=by
 intro b hb;have hl:=h.sg;rw[tT] at hl;rcases aq.1 ((om c t).mem_iff.1 hb) with hb|hb
 ·exact QY h.WT hl b hb
 ·obtain⟨h5,-⟩:=Lnk.app.1 hl
  obtain⟨-,h5⟩:=Lnk.app.1 h5;exact AD h.Nr h5 b hb
theorem oJ.parts {st:St}{k:Ky}{c:Ctx D (d+1)}{l r:List (Tr d)}{s:Tr d}{L:List KV}(h:oJ st k c (jY b (l++s :: r)) L):
  (b :: (ja d s++(cb c++(l.flatMap (ja d)++r.flatMap (ja d))))).Nodup:=by
 have h1:=(om c (jY b (l++s :: r))).nodup_iff.1 h.nodup;rw[kF,ai,an] at h1;refine(cK (cC.2 fun a=>?_)).1 h1;simp only[cI,cS];omega
theorem xR:∀ {D d:Nat}(c:Ctx D d) (x:Nat × List KV),x∈ll c \/ x∈lr c -> x.1∈cb c
 | _,_,.top,x,h=>by simp[ll,lr] at h
 | _,d,.down c b l r,x,h=>by
  unfold ll lr at h;unfold cb;simp only[aq,ar];rcases h with h|h
  ·rcases aq.1 h with h|h
   ·exact .inl (xR c x (.inl h))
   ·obtain⟨s,hs,hx⟩:=aB.1 h
    exact .inr (.inr (.inl (aB.2 ⟨s,hs,pQ d s x hx⟩)))
  ·rcases aq.1 h with h|h
   ·obtain⟨s,hs,hx⟩:=aB.1 h
    exact .inr (.inr (.inr (aB.2 ⟨s,hs,pQ d s x hx⟩)))
   ·exact .inl (xR c x (.inr h))
theorem ml {l:List (Tr d)}{x:Nat × List KV}(h:x∈l.flatMap (kE d)): x.1∈l.flatMap (ja d):=by
 obtain⟨s,hs,hx⟩:=aB.1 h;exact aB.2 ⟨s,hs,pQ d s x hx⟩
theorem oJ.split {st st':St}{k:Ky}{c:Ctx D (d+1)}{l r:List (Tr d)}{s:Tr d}{L:List KV}(h:oJ st k c (jY b (l++s :: r)) L) (xu:iQ (d+1) (jY b (l++s :: r))<8) (hc:iQ d s=8) (hg:st g=none) (hs:Spl st st' d s g):
  oJ (kv st' b ⟨false,(l++(ly d s g).1 :: (ly d s g).2 :: r).map (jd d),none⟩) k c (jY b (l++(ly d s g).1 :: (ly d s g).2 :: r)) L:=by
 have hp:=h.parts;have Ck:∀x∈ja D (plug c (jY b (l++s :: r))),x≠g:=fun x hx e=>h.dom x hx (by rw[e];exact hg);have UO:∀x,x∈b :: (ja d s++(cb c++(l.flatMap (ja d)++r.flatMap (ja d)))) -> x≠g:=fun x hx=>Ck x ((om c _).mem_iff.2 (by
  rw[kF,ai,an];simp only[ar,aq] at hx ⊢;rcases hx with hx|hx|hx|hx|hx<;>simp[hx]))
 obtain⟨hb,hp⟩:=aY.1 hp;obtain⟨Li,hp2,Bb⟩:=bK.1 hp;have HA:=pI d s;simp only[aq,gH] at hb;obtain⟨mj,jg,jF,lD⟩:=hb;have Qh:g ∉ ja d s:=fun hx=>UO g (by simp[hx]) rfl;have HN:=UO b iz;have kU:jt (d+1) (jY b (l++(ly d s g).1 :: (ly d s g).2 :: r))=jt (d+1) (jY b (l++s :: r)):=by
  rw[nS,nS,ai,ai,an,an,an,<- ao (jt d _),Kl]
 -- what is apart stays
 have same:∀x,x≠b -> x≠blk d s -> x≠g -> kv st' b ⟨false,(l++(ly d s g).1 :: (ly d s g).2 :: r).map (jd d),none⟩ x=st x:=fun x h1 h2 h3=>by rw[jb h1,hs.rest x h2 h3]
 have pZ:=fun x hx=>by
  refine same x (fun e=>?_) (fun e=>Bb _ HA x hx e.symm) (UO x (by simp only[ar,aq] at hx ⊢;exact .inr (.inr hx)));subst e;simp only[aq] at hx;rcases hx with hx|hx|hx
  ·exact jg hx
  ·exact jF hx
  ·exact lD hx
 have tw:=lY.1 h.Nr;have hm:=vG.1 h.mn;have LN:=(wV.1 hm.2.2).2 s iz;have pX:=RO (tw.2 s iz) hs Qh Li;refine⟨(h.WT.of kU rfl).congr fun x hx=>pZ x (by simp[hx]),lY.2 ⟨lz _ _ _,?_⟩,?_,?_,?_,h.uC,h.lo,h.hi,?_,?_⟩
 ·intro u hu
  simp only[aq,ar] at hu;rcases hu with hu|rfl|rfl|hu
  ·exact(tw.2 u (by simp[hu])).congr fun x hx=>pZ x (by simp only[aq];exact .inr (.inl (aB.2 ⟨u,hu,hx⟩)))
  ·exact pX.1.congr fun x hx=>jb (fun e=>by
    subst e;have:=(uu d s g).mem_iff.1 (aV _ hx);rcases ar.1 this with e|e
    ·exact HN e
    ·exact mj e)
  ·exact pX.2.congr fun x hx=>jb (fun e=>by
    subst e;have:=(uu d s g).mem_iff.1 (aX _ hx);rcases ar.1 this with e|e
    ·exact HN e
    ·exact mj e)
  ·exact(tw.2 u (by simp[hu])).congr fun x hx=>pZ x (by simp only[aq];exact .inr (.inr (aB.2 ⟨u,hu,hx⟩)))
 ·have hl:=h.sg
  rw[tT,mT,ai,an] at hl ⊢;rw[an];have e1:ll c++(l.flatMap (kE d)++(kE d s++r.flatMap (kE d)))++lr c=(ll c++l.flatMap (kE d))++kE d s++(r.flatMap (kE d)++lr c):=by simp only[ao]
  rw[e1] at hl;have Hg:∀x∈(ll c++l.flatMap (kE d))++(r.flatMap (kE d)++lr c),x.1∈cb c++(l.flatMap (ja d)++r.flatMap (ja d)):=fun x hx=>by
   simp only[aq] at hx ⊢;rcases hx with(hx|hx)|hx|hx
   ·exact .inl (xR c x (.inl hx))
   ·exact .inr (.inl (ml hx))
   ·exact .inr (.inr (ml hx))
   ·exact .inl (xR c x (.inr hx))
  have h2:=Ss hs Li (fun x hx=>⟨UO x.1 (by have:=Hg x hx;simp only[ar,aq] at this ⊢;exact .inr (.inr this)),fun e=>Bb _ HA x.1 (Hg x hx) e.symm⟩) Qh hl;have e2:ll c++(l.flatMap (kE d)++(kE d (ly d s g).1++(kE d (ly d s g).2++r.flatMap (kE d))))++lr c=(ll c++l.flatMap (kE d))++(kE d (ly d s g).1++kE d (ly d s g).2)++(r.flatMap (kE d)++lr c):=by simp only[ao]
  rw[e2];refine h2.congr fun x hx=>jb fun e=>?_;simp only[aq] at hx;rcases hx with((hx|hx)|hx|hx)|hx|hx
  ·exact jg (e ▸ xR c x (.inl hx))
  ·exact jF (e ▸ ml hx)
  ·have:=(uu d s g).mem_iff.1 (aV _ (pQ d _ x hx))
   rw[e] at this;rcases ar.1 this with e|e
   ·exact HN e
   ·exact mj e
  ·have:=(uu d s g).mem_iff.1 (aX _ (pQ d _ x hx))
   rw[e] at this;rcases ar.1 this with e|e
   ·exact HN e
   ·exact mj e
  ·exact lD (e ▸ ml hx)
  ·exact jg (e ▸ xR c x (.inr hx))
 ·refine((om c _).nodup_iff).2 ?_
  rw[kF,ai,an,an,<- ao (ja d _)];have h1:=(om c (jY b (l++s :: r))).nodup_iff.1 h.nodup;have h2:=aY.2 ⟨fun hx=>Ck g ((om c _).mem_iff.2 hx) rfl,h1⟩;refine(cK ?_).1 h2;rw[kF,ai,an];refine List.perm_middle.symm.trans (dI _ ?_);refine(List.Perm.swap _ _ _).trans (List.Perm.cons _ ?_);refine List.perm_middle.symm.trans (dI _ ?_);rw[<- aT];exact List.Perm.append_right _ (uu d s g).symm
 ·rw[vj,kU,<- vj];exact h.el
 ·refine vG.2 ⟨hm.1,?_,wV.2 ⟨?_,fun u hu=>?_⟩⟩
  ·have:=hm.2.1
   rw[oU] at this ⊢;cases c with
   | top=>unfold lowC;trivial
   | down c b l r=>unfold lowC at this ⊢;simp only[aa,aj] at this ⊢;omega
  ·rw[oU] at xu
   simp only[aa,aj] at xu ⊢;omega
  ·obtain⟨tC,rO⟩:=yn d s g hc
   obtain⟨DO,u9⟩:=H_ d s g hc LN.2;simp only[aq,ar] at hu;rcases hu with hu|rfl|rfl|hu
   ·exact(wV.1 hm.2.2).2 u (by simp[hu])
   ·exact⟨gZ,DO⟩
   ·exact⟨gZ,u9⟩
   ·exact(wV.1 hm.2.2).2 u (by simp[hu])
 ·refine h.root.imp id fun h2=>aU h2 (BA c ?_)
  rw[oU,oU];simp
theorem oJ.down {st:St}{k:Ky}{c:Ctx D (d+1)}{l r:List (Tr d)}{s:Tr d}{L:List KV}(h:oJ st k c (jY b (l++s :: r)) L) (rM:Lo (l.flatMap (jt d)) k) (qx:Hi (r.flatMap (jt d)) k):
  oJ (kv st b ⟨false,l.map (jd d)++⟨xm (fk d s) k,0,some (blk d s)⟩ :: r.map (jd d),none⟩) k (.down c b l r) s L:=by
 obtain⟨hb,hp⟩:=aY.1 h.parts;simp only[aq,gH] at hb;obtain⟨mj,jg,jF,lD⟩:=hb;have tw:=lY.1 h.Nr;refine⟨rJ.2 ⟨lz _ _ _,?_,?_,h.WT.congr fun x hx=>jb fun e=>jg (e ▸ hx)⟩,(tw.2 s iz).congr fun x hx=>jb fun e=>mj (e ▸ hx),?_,by rw[nV];exact h.nodup,by rw[nV];exact h.el,h.uC,?_,?_,by rw[nV];exact h.mn,by rw[nV];exact h.root⟩
 ·exact fun u hu=>(tw.2 u (by simp[hu])).congr fun x hx=>jb fun e=>jF (e ▸ aB.2 ⟨u,hu,hx⟩)
 ·exact fun u hu=>(tw.2 u (by simp[hu])).congr fun x hx=>jb fun e=>lD (e ▸ aB.2 ⟨u,hu,hx⟩)
 ·rw[nV]
  refine h.sg.congr fun x hx=>jb fun e=>?_;rw[tT,mT,ai,an] at hx;simp only[aq] at hx;rcases hx with(hx|hx|hx|hx)|hx
  ·exact jg (e ▸ xR c x (.inl hx))
  ·exact jF (e ▸ ml hx)
  ·exact mj (e ▸ pQ d s x hx)
  ·exact lD (e ▸ ml hx)
  ·exact jg (e ▸ xR c x (.inr hx))
 ·unfold cl;exact Lo.app.2 ⟨h.lo,rM⟩
 ·unfold cr;exact Hi.app.2 ⟨qx,h.hi⟩
theorem vo {k:Ky}{n:Int}:∀(l:List KV),(kT k n l).length <= l.length+1 /\ l.length <= (kT k n l).length /\ 1 <= (kT k n l).length
 | []=>by simp[kT]
 | (a,m) :: r=>by
  unfold kT;have:=vo (k:=k) (n:=n) r
  split
  ·simp only[aj];omega
  ·split<;>simp
theorem adq {k:Ky}{n:Int}{l:List KV}(h:l≠[]): Bd (kT k n l)=xm (Bd l) k:=by
 cases l with
 | nil=>exact absurd rfl h
 | cons x r=>
  obtain⟨a,m⟩:=x;unfold kT xm Bd
  by_cases h1:kl a k=true
  ·rw[if_pos h1,if_neg (by rw[vp h1];exact dw)]
  ·rw[if_neg h1]
   by_cases h2:a=k
   ·subst h2;rw[if_pos rfl,if_neg (by rw[zE];exact dw)]
   ·rw[if_neg h2]
    have:kl k a=true:=by
     cases hq:kl k a with
     | true=>rfl
     | false=>exact absurd (BG (by simpa using h1) hq) h2
    rw[if_pos this]
theorem oJ.fin {st st':St}{k:Ky}{n:Int}{c:Ctx D 0}{es:List KV}{L:List KV}(h:oJ st k c (qF b es) L) (xu:es.length<8) (h1:∀nx,st b=some ⟨true,ke es,nx⟩ -> st' b=some ⟨true,ke (kT k n es),nx⟩) (h2:∀x,x≠b -> st' x=st x):
  Good st' D (plug c (qF b (kT k n es))) (kT k n L) /\ (ja D (plug c (qF b (kT k n es)))).length=(ja D (plug c (qF b es))).length /\ 1 <= iQ D (plug c (qF b (kT k n es))):=by
 have hp:=(om c (qF b es)).nodup_iff.1 h.nodup;obtain⟨hp1,-,hp2⟩:=bK.1 hp;have Dp:b ∉ cb c:=fun hx=>hp2 b hx b (by simp[ja,qF]) rfl;have hpe:(ja D (plug c (qF b (kT k n es)))).Perm (ja D (plug c (qF b es))):=(om c _).trans (om c (qF b es)).symm;have r9:=vo (k:=k) (n:=n) es;have hm:=vG.1 h.mn;refine⟨⟨?_,?_,hpe.nodup_iff.2 h.nodup,?_,Gf h.uC,vG.2 ⟨hm.1,?_,?_⟩,?_⟩,hpe.length_eq,?_⟩
 ·by_cases he:es=[]
  ·cases c with
   | top=>rw[nv];trivial
   | down c b2 l r=>
    have:=hm.2.1;unfold lowC at this;rw[he] at this;simp[iQ,qF] at this
  ·refine h.WT.done rfl he ?_ ?_ h.lo hm.1 (fun x hx=>h2 x fun e=>Dp (e ▸ hx)) trivial
   ·intro e;have e':kT k n es=[]:=e;rw[e'] at r9;simp at r9
   ·exact adq he
 ·have hl:=h.sg
  rw[tT] at hl ⊢;obtain⟨hA,hB⟩:=Lnk.app.1 hl;obtain⟨hA,ht,-⟩:=Lnk.app.1 hA;exact Lnk.app.2 ⟨Lnk.app.2 ⟨hA.congr fun x hx=>h2 _ fun e=>Dp (e ▸ xR c x (.inl hx)),h1 _ ht,trivial⟩,hB.congr fun x hx=>h2 _ fun e=>Dp (e ▸ xR c x (.inr hx))⟩
 ·have he:=h.el
  rw[vj] at he ⊢;rw[<- he]
  show cl c++kT k n es++cr c=kT k n (cl c++es++cr c)
  rw[ao (cl c) es (cr c),TH h.lo,Qt h.hi,ao]
 ·cases c with
  | top=>unfold lowC;trivial
  | down c b2 l r=>
   have:=hm.2.1;unfold lowC at this ⊢;have h3:4 <= es.length:=this
   show 4 <= (kT k n es).length
   omega
 ·show(kT k n es).length <= 8
  omega
 ·exact h.root.imp id fun h3=>aU h3 (BA c (t:=qF b es) (t':=qF b (kT k n es)) (show es.length <= (kT k n es).length by omega))
 ·rcases h.root with h3|h3
  ·subst h3
   have hd:∀ {D d:Nat}(c:Ctx D d),d <= D:=by
    intro D d c
    induction c with
    | top=>exact af _
    | down c b l r ih=>omega
   cases c with
   | top=>rw[nv];show 1 <= (kT k n es).length;omega
   | down c b l r=>have:=hd c;omega
  ·exact aU gZ (aU h3 (BA c (t:=qF b es) (t':=qF b (kT k n es)) (show es.length <= (kT k n es).length by omega)))
theorem Good.grow {st st' uZ:St}{k:Ky}{T:Tr D}{L:List KV}{gx:Nat}(h:Good st D T L) (hc:iQ D T=8) (hg:st g=none) (amJ:gx ∉ ja D T) (kD:gx≠g) (hs:Spl st st' D T g) (h1:uZ gx=some ⟨false,[jd D (ly D T g).1,jd D (ly D T g).2],none⟩) (h2:∀x,x≠gx -> uZ x=st' x): oJ uZ k .top (jY gx [(ly D T g).1,(ly D T g).2]) L:=by
 have Qh:g ∉ ja D T:=fun hx=>h.dom g hx hg;have HA:=pI D T;have pX:=RO h.rep hs Qh h.nodup;have GW:∀x,x∈ja D (ly D T g).1++ja D (ly D T g).2 -> x≠gx:=fun x hx e=>by
  have:=(uu D T g).mem_iff.1 hx;rw[e] at this;rcases ar.1 this with e|e
  ·exact kD e
  ·exact amJ e
 obtain⟨tC,rO⟩:=yn D T g hc;obtain⟨DO,u9⟩:=H_ D T g hc h.mn;have e:plug .top (jY gx [(ly D T g).1,(ly D T g).2])=jY gx [(ly D T g).1,(ly D T g).2]:=nv;refine⟨Bw,lY.2 ⟨h1,fun s hs=>?_⟩,?_,?_,?_,h.uC,by unfold cl;exact Lo.nil,by unfold cr;exact Hi.nil,?_,.inr (by rw[e,oU];simp)⟩
 ·simp only[ar,aR,dG] at hs
  rcases hs with rfl|rfl
  ·exact pX.1.congr fun x hx=>h2 x (GW x (by simp[hx]))
  ·exact pX.2.congr fun x hx=>h2 x (GW x (by simp[hx]))
 ·rw[e,mT]
  simp only[an,cW,aS];have:=Ss (A:=[]) (B:=[]) hs h.nodup iz Qh (by simpa using h.sg);simp only[aH,aS] at this;refine this.congr fun x hx=>h2 _ (GW _ ?_);rcases aq.1 hx with hx|hx
  ·exact aV _ (pQ D _ x hx)
  ·exact aX _ (pQ D _ x hx)
 ·rw[e,kF]
  simp only[an,cW,aS];refine aY.2 ⟨fun hx=>GW gx hx rfl,(uu D T g).nodup_iff.2 (aY.2 ⟨Qh,h.nodup⟩)⟩
 ·rw[e,nS]
  simp only[an,cW,aS];rw[Kl];exact h.el
 ·rw[e]
  refine wV.2 ⟨iz,fun s hs=>?_⟩;simp only[ar,aR,dG] at hs;rcases hs with rfl|rfl
  ·exact⟨gZ,DO⟩
  ·exact⟨gZ,u9⟩
structure At (st:St) (d:Nat) (t:Tr d) (nx:Option Nat):Prop where
 rep:pN d st t
 sg:Lnk st (kE d t) nx
 nodup:(ja d t).Nodup
structure pT (st st':St) (d:Nat) (t t':Tr d) (nx:Option Nat):Prop where
 here:At st' d t' nx
 blk:blk d t'=blk d t
 hd:∀AF,hd (kE d t') AF=hd (kE d t) AF
 sub:∀x∈ja d t',x∈ja d t
 same:∀x,x ∉ ja d t -> st' x=st x
theorem pT.trans {st xr uZ:St}{t t1 t2:Tr d}(h:pT st xr d t t1 nx) (k:pT xr uZ d t1 t2 nx): pT st uZ d t t2 nx :=
 ⟨k.here,k.blk.trans h.blk,fun n=>(k.hd n).trans (h.hd n),fun x hx=>h.sub x (k.sub x hx),fun x hx=>(k.same x fun e=>hx (h.sub x e)).trans (h.same x hx)⟩
theorem D7 {l r:List (Tr d)}{s:Tr d}(h:(ja (d+1) (jY b (l++s :: r))).Nodup): (b :: (ja d s++(l.flatMap (ja d)++r.flatMap (ja d)))).Nodup:=by
 rw[kF,ai,an] at h;refine(cK (cC.2 fun a=>?_)).1 h;simp only[cI,cS];omega
theorem pT.m7 {st xr:St}{l r:List (Tr d)}{s s':Tr d}(h:At st (d+1) (jY b (l++s :: r)) nx) (hk:pT st xr d s s' (Tre.hd (r.flatMap (kE d)) nx)):
  pT st (kv xr b ⟨false,(l++s' :: r).map (jd d),none⟩) (d+1) (jY b (l++s :: r)) (jY b (l++s' :: r)) nx:=by
 obtain⟨hb,hp⟩:=aY.1 (D7 h.nodup);obtain⟨Li,uB,Bb⟩:=bK.1 hp;simp only[aq,gH] at hb;obtain⟨mj,jg,jF⟩:=hb;have tw:=lY.1 h.rep;have pZ:∀x,x∈l.flatMap (ja d)++r.flatMap (ja d) -> kv xr b ⟨false,(l++s' :: r).map (jd d),none⟩ x=st x:=fun x hx=>by
  rw[jb (fun e=>by subst e;rcases aq.1 hx with hx|hx;exact jg hx;exact jF hx)];exact hk.same x fun e=>Bb x e x hx rfl
 have ad_:∀x,x∈ja d s' -> kv xr b ⟨false,(l++s' :: r).map (jd d),none⟩ x=xr x:=fun x hx=>jb fun e=>mj (e ▸ hk.sub x hx);refine⟨⟨lY.2 ⟨lz _ _ _,fun u hu=>?_⟩,?_,?_⟩,rfl,fun AF=>?_,fun x hx=>?_,fun x hx=>?_⟩
 ·simp only[aq,ar] at hu
  rcases hu with hu|rfl|hu
  ·exact(tw.2 u (by simp[hu])).congr fun x hx=>pZ x (aV _ (aB.2 ⟨u,hu,hx⟩))
  ·exact hk.here.rep.congr ad_
  ·exact(tw.2 u (by simp[hu])).congr fun x hx=>pZ x (aX _ (aB.2 ⟨u,hu,hx⟩))
 ·have hl:=h.sg
  rw[mT,ai,an] at hl ⊢;obtain⟨h1,h2⟩:=Lnk.app.1 hl;obtain⟨h2,h3⟩:=Lnk.app.1 h2;refine Lnk.app.2 ⟨?_,Lnk.app.2 ⟨?_,?_⟩⟩
  ·rw[nZ,hk.hd,<- nZ]
   exact h1.congr fun x hx=>pZ _ (aV _ (ml hx))
  ·exact hk.here.sg.congr fun x hx=>ad_ _ (pQ d _ x hx)
  ·exact h3.congr fun x hx=>pZ _ (aX _ (ml hx))
 ·have:(b :: (ja d s'++(l.flatMap (ja d)++r.flatMap (ja d)))).Nodup:=by
   refine aY.2 ⟨?_,bK.2 ⟨hk.here.nodup,uB,fun x hx y hy=>Bb x (hk.sub x hx) y hy⟩⟩;simp only[aq,gH];exact⟨fun e=>mj (hk.sub b e),jg,jF⟩
  rw[kF,ai,an];refine(cK (cC.2 fun a=>?_)).1 this;simp only[cI,cS];omega
 ·rw[mT,mT,ai,ai,an,an]
  simp only[nZ];rw[hk.hd]
 ·rw[kF,ai,an] at hx ⊢
  simp only[ar,aq] at hx ⊢;rcases hx with hx|hx|hx|hx
  ·exact .inl hx
  ·exact .inr (.inl hx)
  ·exact .inr (.inr (.inl (hk.sub x hx)))
  ·exact .inr (.inr (.inr hx))
 ·rw[kF,ai,an] at hx
  simp only[ar,aq,gH] at hx;rw[jb hx.1];exact hk.same x hx.2.2.1
def jn:(d:Nat) -> Tr d -> Tr d -> Tr d
 | 0,a,c=>qF a.1 (List.append a.2 c.2)
 | _+1,a,c=>jY a.1 (List.append a.2 c.2)
theorem Pd: ∀(d:Nat) (a c:Tr d),jt d (jn d a c)=jt d a++jt d c
 | 0,_,_=>rfl
 | _+1,a,c=>ai (xs:=a.2) (ys:=c.2)
theorem EP: ∀(d:Nat) (a c:Tr d),iQ d (jn d a c)=iQ d a+iQ d c
 | 0,a,c=>@List.length_append _ a.2 c.2
 | _+1,a,c=>@List.length_append _ a.2 c.2
theorem agV: ∀(d:Nat) (a c:Tr d),blk d (jn d a c)=blk d a
 | 0,_,_=>rfl
 | _+1,_,_=>rfl
theorem Ey: ∀(d:Nat) (a c:Tr d),iv d (jn d a c)=iv d a++iv d c
 | 0,a,c=>aK (l₁:=a.2) (l₂:=c.2)
 | _+1,a,c=>aK (l₁:=a.2) (l₂:=c.2)
theorem alh: ∀ {d:Nat}{a c:Tr d},Mn d a -> Mn d c -> iQ d a+iQ d c <= 8 -> Mn d (jn d a c)
 | 0,a,c,_,_,h=>by show iQ 0 (jn 0 a c) <= 8;rw[EP];exact h
 | d+1,a,c,h1,h2,h=>by
  refine⟨by show iQ (d+1) (jn (d+1) a c) <= 8;rw[EP];exact h,fun s hs=>?_⟩;rcases aq.1 (show s∈List.append a.2 c.2 from hs) with hs|hs
  ·exact h1.2 s hs
  ·exact h2.2 s hs
theorem Nx: ∀(d:Nat) (a c:Tr d),(blk d c :: ja d (jn d a c)).Perm (ja d a++ja d c)
 | 0,a,c=>List.Perm.swap _ _ _
 | d+1,a,c=>by
  show(c.1 :: a.1 :: List.flatMap (ja d) (List.append a.2 c.2)).Perm ((a.1 :: List.flatMap (ja d) a.2)++(c.1 :: List.flatMap (ja d) c.2))
  rw[show List.append a.2 c.2=(show List (Tr d) from a.2)++(show List (Tr d) from c.2) from rfl,ai];refine cC.2 fun x=>?_;simp only[cI,cS];omega
def rd (j:Nat):(d:Nat) -> Tr d -> Tr d -> Tr d × Tr d
 | 0,a,c=>(qF a.1 (List.take j (List.append a.2 c.2)),qF c.1 (List.drop j (List.append a.2 c.2)))
 | _+1,a,c=>(jY a.1 (List.take j (List.append a.2 c.2)),jY c.1 (List.drop j (List.append a.2 c.2)))
theorem Xe (j:Nat): ∀(d:Nat) (a c:Tr d),jt d (rd j d a c).1++jt d (rd j d a c).2=jt d a++jt d c
 | 0,a,c=>aL j _
 | d+1,a,c=>by
  rw[<- Pd (d+1) a c]
  show List.flatMap (jt d) (List.take j (List.append a.2 c.2))++List.flatMap (jt d) (List.drop j (List.append a.2 c.2))=List.flatMap (jt d) (List.append a.2 c.2)
  rw[<- ai,aL]
theorem HY (j:Nat): ∀(d:Nat) (a c:Tr d),j <= iQ d a+iQ d c -> iQ d (rd j d a c).1=j /\ iQ d (rd j d a c).2=iQ d a+iQ d c - j
 | 0,a,c,h=>by
  have e:=EP 0 a c;have e':List.length (List.append a.2 c.2)=iQ 0 a+iQ 0 c:=e;exact⟨by show List.length (List.take j (List.append a.2 c.2))=j;rw[aE];omega,by show List.length (List.drop j (List.append a.2 c.2))=_;rw[aQ,e']⟩
 | d+1,a,c,h=>by
  have e:=EP (d+1) a c;have e':List.length (List.append a.2 c.2)=iQ (d+1) a+iQ (d+1) c:=e;exact⟨by show List.length (List.take j (List.append a.2 c.2))=j;rw[aE];omega,by show List.length (List.drop j (List.append a.2 c.2))=_;rw[aQ,e']⟩
theorem Xk (j:Nat): ∀(d:Nat) (a c:Tr d),blk d (rd j d a c).1=blk d a /\ blk d (rd j d a c).2=blk d c
 | 0,_,_=>⟨rfl,rfl⟩
 | _+1,_,_=>⟨rfl,rfl⟩
theorem JA (j:Nat): ∀(d:Nat) (a c:Tr d),iv d (rd j d a c).1=(iv d a++iv d c).take j /\ iv d (rd j d a c).2=(iv d a++iv d c).drop j
 | 0,a,c=>by
  rw[<- Ey];exact⟨by show ke (List.take j _)=_;exact cO,by show ke (List.drop j _)=_;exact cU⟩
 | d+1,a,c=>by
  rw[<- Ey];exact⟨by show List.map (jd d) (List.take j _)=_;exact cO,by show List.map (jd d) (List.drop j _)=_;exact cU⟩
theorem acA: ∀ {d:Nat}{a c:Tr d},Mn d a -> Mn d c -> j <= 8 -> j <= iQ d a+iQ d c -> iQ d a+iQ d c - j <= 8 -> Mn d (rd j d a c).1 /\ Mn d (rd j d a c).2
 | 0,a,c,_,_,h1,h2,h3=>by
  obtain⟨e1,e2⟩:=HY j 0 a c h2;exact⟨by show iQ 0 (rd j 0 a c).1 <= 8;omega,by show iQ 0 (rd j 0 a c).2 <= 8;omega⟩
 | d+1,a,c,m1,m2,h1,h2,h3=>by
  obtain⟨e1,e2⟩:=HY j (d+1) a c h2;have hm:∀s,s∈List.append a.2 c.2 -> 4 <= iQ d s /\ Mn d s:=fun s hs=>by
   rcases aq.1 hs with hs|hs
   ·exact m1.2 s hs
   ·exact m2.2 s hs
  exact⟨⟨by show iQ (d+1) (rd j (d+1) a c).1 <= 8;omega,fun s hs=>hm s (bN hs)⟩,⟨by show iQ (d+1) (rd j (d+1) a c).2 <= 8;omega,fun s hs=>hm s (dV hs)⟩⟩
theorem Pr (j:Nat): ∀(d:Nat) (a c:Tr d),(ja d (rd j d a c).1++ja d (rd j d a c).2).Perm (ja d a++ja d c)
 | 0,_,_=>List.Perm.refl _
 | d+1,a,c=>by
  show((a.1 :: List.flatMap (ja d) (List.take j (List.append a.2 c.2)))++(c.1 :: List.flatMap (ja d) (List.drop j (List.append a.2 c.2)))).Perm ((a.1 :: List.flatMap (ja d) a.2)++(c.1 :: List.flatMap (ja d) c.2))
  have e:List.flatMap (ja d) (List.take j (List.append a.2 c.2))++List.flatMap (ja d) (List.drop j (List.append a.2 c.2))=List.flatMap (ja d) a.2++List.flatMap (ja d) c.2:=by
   rw[<- ai,aL];exact ai (xs:=a.2) (ys:=c.2)
  refine cC.2 fun x=>?_;have e2:=congrArg (List.count x) e;simp only[cI,cS] at e2 ⊢;omega
theorem Nw {p q:List (Tr d)}{a c:Tr d}(h:(ja (d+1) (jY b (p++a :: c :: q))).Nodup): (b :: ((ja d a++ja d c)++(p.flatMap (ja d)++q.flatMap (ja d)))).Nodup:=by
 rw[kF,ai,an,an] at h;refine(cK (cC.2 fun a=>?_)).1 h;simp only[cI,cS];omega
theorem pT.join: ∀ {d:Nat}{st st':St}{b:Nat}{p q:List (Tr d)}{a c:Tr d}{nx:Option Nat},At st (d+1) (jY b (p++a :: c :: q)) nx ->
  (∀tL,st (Tre.blk d c)=some ⟨d == 0,iv d c,tL⟩ -> st' (Tre.blk d a)=some ⟨d == 0,iv d a++iv d c,tL⟩) -> st' b=some ⟨false,(p++jn d a c :: q).map (jd d),none⟩ ->
  (∀x,x≠b -> x≠Tre.blk d a -> x≠Tre.blk d c -> st' x=st x) -> pT st st' (d+1) (jY b (p++a :: c :: q)) (jY b (p++jn d a c :: q)) nx:=by
 intro d st st' b p q a c nx h h1 h2 h3;obtain⟨hb,hp⟩:=aY.1 (Nw h.nodup);obtain⟨aeO,uB,Bb⟩:=bK.1 hp;simp only[aq,gH] at hb;obtain⟨⟨CU,Dp⟩,jg,jF⟩:=hb;obtain⟨hna,rC,Ct⟩:=bK.1 aeO;have ma:=pI d a;have mc:=pI d c;have tw:=lY.1 h.rep;have pZ:=fun x hx=>by
  refine h3 x (fun e=>?_) (fun e=>?_) (fun e=>?_)
  ·subst e;rcases aq.1 hx with hx|hx;exact jg hx;exact jF hx
  ·exact Bb _ (aV _ ma) x hx e.symm
  ·exact Bb _ (aX _ mc) x hx e.symm
 have hl:=h.sg;rw[mT,ai,an,an] at hl;obtain⟨l1,l2⟩:=Lnk.app.1 hl;obtain⟨l2,l3⟩:=Lnk.app.1 l2;obtain⟨l3,l4⟩:=Lnk.app.1 l3;have key:pN d st' (jn d a c) /\ Lnk st' (kE d (jn d a c)) (Tre.hd (q.flatMap (kE d)) nx) /\ ∀AF,Tre.hd (kE d (jn d a c)) AF=Tre.hd (kE d a) (Tre.hd (kE d c) AF):=by
  cases d with
  | zero=>
   refine⟨trivial,⟨?_,trivial⟩,fun _=>rfl⟩;have:=h1 _ l3.1;rw[show ke (jn 0 a c).2=iv 0 a++iv 0 c from Ey 0 a c];exact this
  | succ d=>
   have e:kE (d+1) (jn (d+1) a c)=kE (d+1) a++kE (d+1) c:=ai (xs:=a.2) (ys:=c.2);have ra:=tw.2 a iz;have rc:=tw.2 c iz;have abR:=(aY.1 hna).1;have ae_:=(aY.1 rC).1;have ka:=fun x hx=>h3 x (fun e=>CU (az _ (by rw[<- e];exact hx))) (fun e=>abR (by have e':x=a.1:=e;rw[<- e'];exact hx)) (fun e=>Ct x (az _ hx) _ mc e);have kc:=fun x hx=>h3 x (fun e=>Dp (az _ (by rw[<- e];exact hx))) (fun e=>Ct _ ma x (az _ hx) e.symm) (fun e=>ae_ (by have e':x=c.1:=e;rw[<- e'];exact hx));refine⟨⟨?_,fun s hs=>?_⟩,?_,fun AF=>by rw[e,nZ]⟩
   ·have:=h1 none rc.1
    show st' a.1=some ⟨false,iv (d+1) (jn (d+1) a c),none⟩
    rw[Ey];exact this
   ·rcases aq.1 (show s∈List.append a.2 c.2 from hs) with hs|hs
    ·exact(ra.2 s hs).congr fun x hx=>ka x (aB.2 ⟨s,hs,hx⟩)
    ·exact(rc.2 s hs).congr fun x hx=>kc x (aB.2 ⟨s,hs,hx⟩)
   ·rw[e]
    rw[nZ] at l2;refine Lnk.app.2 ⟨l2.congr fun x hx=>ka _ (ml (l:=a.2) hx),l3.congr fun x hx=>kc _ (ml (l:=c.2) hx)⟩
 obtain⟨kr,kl,kh⟩:=key;refine⟨⟨lY.2 ⟨h2,fun u hu=>?_⟩,?_,?_⟩,rfl,fun AF=>?_,fun x hx=>?_,fun x hx=>?_⟩
 ·simp only[aq,ar] at hu
  rcases hu with hu|rfl|hu
  ·exact(tw.2 u (by simp[hu])).congr fun x hx=>pZ x (aV _ (aB.2 ⟨u,hu,hx⟩))
  ·exact kr
  ·exact(tw.2 u (by simp[hu])).congr fun x hx=>pZ x (aX _ (aB.2 ⟨u,hu,hx⟩))
 ·rw[mT,ai,an]
  refine Lnk.app.2 ⟨?_,Lnk.app.2 ⟨kl,l4.congr fun x hx=>pZ _ (aX _ (ml hx))⟩⟩;rw[nZ,kh,<- nZ,<- nZ];rw[<- ao] at l1;exact l1.congr fun x hx=>pZ _ (aV _ (ml hx))
 ·have:(Tre.blk d c :: ja (d+1) (jY b (p++jn d a c :: q))).Nodup:=by
   refine(cK (cC.2 fun x=>?_)).1 h.nodup;have e:=(Nx d a c).count_eq x;rw[kF,kF];simp only[ai,an,cI,cS] at e ⊢;omega
  exact(aY.1 this).2
 ·rw[mT,mT]
  simp only[ai,an,nZ];rw[kh]
 ·have e:=(Nx d a c).mem_iff (a:=x)
  rw[kF] at hx ⊢;simp only[ai,an,aq,ar] at hx e ⊢;rcases hx with hx|hx|hx|hx
  ·exact .inl hx
  ·exact .inr (.inl hx)
  ·rcases e.1 (.inr hx) with h|h
   ·exact .inr (.inr (.inl h))
   ·exact .inr (.inr (.inr (.inl h)))
  ·exact .inr (.inr (.inr (.inr hx)))
 ·rw[kF] at hx
  simp only[ai,an,aq,ar,gH] at hx;exact h3 x hx.1 (fun e=>hx.2.2.1 (by rw[e];exact ma)) (fun e=>hx.2.2.2.1 (by rw[e];exact mc))
theorem pT.share: ∀ {d:Nat}{st st':St}{b:Nat}{p q:List (Tr d)}{a c:Tr d}{nx:Option Nat},At st (d+1) (jY b (p++a :: c :: q)) nx ->
  (∀Qr,st (Tre.blk d a)=some ⟨d == 0,iv d a,Qr⟩ -> st' (Tre.blk d a)=some ⟨d == 0,(iv d a++iv d c).take j,Qr⟩) -> (∀tL,st (Tre.blk d c)=some ⟨d == 0,iv d c,tL⟩ -> st' (Tre.blk d c)=some ⟨d == 0,(iv d a++iv d c).drop j,tL⟩) ->
  st' b=some ⟨false,(p++(rd j d a c).1 :: (rd j d a c).2 :: q).map (jd d),none⟩ ->
  (∀x,x≠b -> x≠Tre.blk d a -> x≠Tre.blk d c -> st' x=st x) -> pT st st' (d+1) (jY b (p++a :: c :: q)) (jY b (p++(rd j d a c).1 :: (rd j d a c).2 :: q)) nx:=by
 intro d st st' b p q a c nx h h1 yY h2 h3;obtain⟨hb,hp⟩:=aY.1 (Nw h.nodup);obtain⟨aeO,uB,Bb⟩:=bK.1 hp;simp only[aq,gH] at hb;obtain⟨⟨CU,Dp⟩,jg,jF⟩:=hb;obtain⟨hna,rC,Ct⟩:=bK.1 aeO;have ma:=pI d a;have mc:=pI d c;have tw:=lY.1 h.rep;have pZ:=fun x hx=>by
  refine h3 x (fun e=>?_) (fun e=>?_) (fun e=>?_)
  ·subst e;rcases aq.1 hx with hx|hx;exact jg hx;exact jF hx
  ·exact Bb _ (aV _ ma) x hx e.symm
  ·exact Bb _ (aX _ mc) x hx e.symm
 have hl:=h.sg;rw[mT,ai,an,an] at hl;obtain⟨l1,l2⟩:=Lnk.app.1 hl;obtain⟨l2,l3⟩:=Lnk.app.1 l2;obtain⟨l3,l4⟩:=Lnk.app.1 l3;have key:pN d st' (rd j d a c).1 /\ pN d st' (rd j d a c).2 /\ Lnk st' (kE d (rd j d a c).1++kE d (rd j d a c).2) (Tre.hd (q.flatMap (kE d)) nx) /\ ∀AF,Tre.hd (kE d (rd j d a c).1++kE d (rd j d a c).2) AF=Tre.hd (kE d a) (Tre.hd (kE d c) AF):=by
  cases d with
  | zero=>
   obtain⟨e1,e2⟩:=JA j 0 a c;refine⟨trivial,trivial,⟨?_,?_,trivial⟩,fun _=>rfl⟩
   ·have:=h1 _ l2.1
    rw[<- e1] at this;exact this
   ·have:=yY _ l3.1
    rw[<- e2] at this;exact this
  | succ d=>
   obtain⟨e1,e2⟩:=JA j (d+1) a c;have e:kE (d+1) (rd j (d+1) a c).1++kE (d+1) (rd j (d+1) a c).2=kE (d+1) a++kE (d+1) c:=by
    show List.flatMap (kE d) (List.take j (List.append a.2 c.2))++List.flatMap (kE d) (List.drop j (List.append a.2 c.2))=_
    rw[<- ai,aL];exact ai (xs:=a.2) (ys:=c.2)
   have ra:=tw.2 a iz;have rc:=tw.2 c iz;have abR:=(aY.1 hna).1;have ae_:=(aY.1 rC).1;have ka:=fun x hx=>h3 x (fun e=>CU (az _ (by rw[<- e];exact hx))) (fun e=>abR (by have e':x=a.1:=e;rw[<- e'];exact hx)) (fun e=>Ct x (az _ hx) _ mc e);have kc:=fun x hx=>h3 x (fun e=>Dp (az _ (by rw[<- e];exact hx))) (fun e=>Ct _ ma x (az _ hx) e.symm) (fun e=>ae_ (by have e':x=c.1:=e;rw[<- e'];exact hx));have j8:∀s,s∈List.append a.2 c.2 -> pN d st' s:=fun s hs=>by
    rcases aq.1 hs with hs|hs
    ·exact(ra.2 s hs).congr fun x hx=>ka x (aB.2 ⟨s,hs,hx⟩)
    ·exact(rc.2 s hs).congr fun x hx=>kc x (aB.2 ⟨s,hs,hx⟩)
   refine⟨⟨?_,fun s hs=>j8 s (bN hs)⟩,⟨?_,fun s hs=>j8 s (dV hs)⟩,?_,fun AF=>by rw[e,nZ]⟩
   ·have:=h1 none ra.1
    show st' a.1=some ⟨false,iv (d+1) (rd j (d+1) a c).1,none⟩
    rw[e1];exact this
   ·have:=yY none rc.1
    show st' c.1=some ⟨false,iv (d+1) (rd j (d+1) a c).2,none⟩
    rw[e2];exact this
   ·rw[e]
    rw[nZ] at l2;refine Lnk.app.2 ⟨l2.congr fun x hx=>ka _ (ml (l:=a.2) hx),l3.congr fun x hx=>kc _ (ml (l:=c.2) hx)⟩
 obtain⟨kr,kr2,kl,kh⟩:=key;refine⟨⟨lY.2 ⟨h2,fun u hu=>?_⟩,?_,?_⟩,rfl,fun AF=>?_,fun x hx=>?_,fun x hx=>?_⟩
 ·simp only[aq,ar] at hu
  rcases hu with hu|rfl|rfl|hu
  ·exact(tw.2 u (by simp[hu])).congr fun x hx=>pZ x (aV _ (aB.2 ⟨u,hu,hx⟩))
  ·exact kr
  ·exact kr2
  ·exact(tw.2 u (by simp[hu])).congr fun x hx=>pZ x (aX _ (aB.2 ⟨u,hu,hx⟩))
 ·rw[mT,ai,an,an,<- ao (kE d _)]
  refine Lnk.app.2 ⟨?_,Lnk.app.2 ⟨kl,l4.congr fun x hx=>pZ _ (aX _ (ml hx))⟩⟩;rw[nZ,kh,<- nZ,<- nZ];rw[<- ao] at l1;exact l1.congr fun x hx=>pZ _ (aV _ (ml hx))
 ·refine(cK (cC.2 fun x=>?_)).1 h.nodup
  have e:=(Pr j d a c).count_eq x;rw[kF,kF];simp only[ai,an,cI,cS] at e ⊢;omega
 ·rw[mT,mT,ai,ai,an,an,an,an,<- ao (kE d (rd j d a c).1),nZ,nZ (kE d (rd j d a c).1++_),kh]
  simp only[nZ]
 ·have e:=(Pr j d a c).mem_iff (a:=x)
  rw[kF] at hx ⊢;simp only[ai,an,aq,ar] at hx e ⊢;rcases hx with hx|hx|hx|hx|hx
  ·exact .inl hx
  ·exact .inr (.inl hx)
  ·rcases e.1 (.inl hx) with h|h
   ·exact .inr (.inr (.inl h))
   ·exact .inr (.inr (.inr (.inl h)))
  ·rcases e.1 (.inr hx) with h|h
   ·exact .inr (.inr (.inl h))
   ·exact .inr (.inr (.inr (.inl h)))
  ·exact .inr (.inr (.inr (.inr hx)))
 ·rw[kF] at hx
  simp only[ai,an,aq,ar,gH] at hx;exact h3 x hx.1 (fun e=>hx.2.2.1 (by rw[e];exact ma)) (fun e=>hx.2.2.2.1 (by rw[e];exact mc))
theorem afd (d:Nat) (a c:Tr d): (ja d (jn d a c)).length+1=(ja d a).length+(ja d c).length:=by
 have:=(Nx d a c).length_eq;simp only[aj,aa] at this;exact this
theorem afH (j d:Nat) (a c:Tr d): (ja d (rd j d a c).1).length+(ja d (rd j d a c).2).length=(ja d a).length+(ja d c).length:=by
 have:=(Pr j d a c).length_eq;simp only[aa] at this;exact this
theorem nodeAt: ∀ {d:Nat}{st:St}{t:Tr d}{nx:Option Nat},pN d st t -> Lnk st (kE d t) nx -> ∃JJ,st (blk d t)=some ⟨d == 0,iv d t,JJ⟩ /\ (d≠0 -> JJ=none)
 | 0,_,_,_,_,h=>⟨_,h.1,fun e=>absurd rfl e⟩
 | _+1,_,_,_,h,_=>⟨none,h.1,fun _=>rfl⟩
theorem CY {st:St}:∀ {l:List (Nat × List KV)},Lnk st l none -> ∀x∈l,∀nd,st x.1=some nd -> ∀q,nd.next=some q -> st q≠none
 | [],_,_,h,_,_,_,_=>by cases h
 | a :: l,h,x,hx,nd,zf,q,hq=>by
  rcases ar.1 hx with rfl|hx
  ·rw[h.1] at zf
   obtain rfl:=au zf;cases l with
   | nil=>cases hq
   | cons y l=>
    have:=(au hq).symm;subst this;rw[h.2.1];simp
  ·exact CY h.2 x hx nd zf q hq
theorem Mv {d:Nat}:∀ {l:List (Tr d)},(∀s∈l,4 <= iQ d s /\ Mn d s) -> 3*(l.flatMap (ja d)).length+l.length <= (l.flatMap (jt d)).length
 | [],_=>iz
 | s :: l,hl=>by
  have h1:=Mv (l:=l) fun x hx=>hl x (by simp[hx]);have h2:=hl s iz;have h3:=Qz h2.2 h2.1;simp only[an,aa,aj];omega
theorem YP {T:Tr D}(hm:Mn D T) (hr:D=0 \/ 2 <= iQ D T): (ja D T).length <= (jt D T).length+1 /\ (1 <= iQ D T -> (ja D T).length <= (jt D T).length):=by
 cases D with
 | zero=>exact⟨by show 1 <= _;omega,fun h=>h⟩
 | succ d=>
  have h2:2 <= iQ (d+1) T:=by rcases hr with h|h;cases h;exact h
  obtain⟨b,l⟩:=T;have h3:=Mv (l:=l) hm.2;have h4:2 <= l.length:=h2;have e1:(ja (d+1) (jY b l)).length=(l.flatMap (ja d)).length+1:=by rw[kF,aj]
  have e2:jt (d+1) (jY b l)=l.flatMap (jt d):=rfl
  show(ja (d+1) (jY b l)).length <= (jt (d+1) (jY b l)).length+1 /\ (_ -> (ja (d+1) (jY b l)).length <= (jt (d+1) (jY b l)).length)
  rw[e1,e2];omega
theorem FV:∀ {D d:Nat}(c:Ctx D d) {t t':Tr d},blk d t'=blk d t -> blk D (plug c t')=blk D (plug c t)
 | _,_,.top,_,_,h=>by rw[nv,nv];exact h
 | _,_,.down c b l r,t,t',_=>by rw[nV,nV];exact FV c rfl
theorem oJ.aiy {st:St}{k:Ky}{c:Ctx D d}{t:Tr d}{l:List KV}(h:oJ st k c t l): ∃nx,Lnk st (kE d t) nx:=by
 have hl:=h.sg;rw[tT] at hl;obtain⟨h5,-⟩:=Lnk.app.1 hl;obtain⟨-,h5⟩:=Lnk.app.1 h5;exact⟨_,h5⟩
theorem oJ.ak4 {st:St}{k:Ky}{c:Ctx D (d+1)}{l r:List (Tr d)}{s:Tr d}{L:List KV}(h:oJ st k c (jY b (l++s :: r)) L): ∃nx,st (blk d s)=some ⟨d == 0,iv d s,nx⟩ /\ (d≠0 -> nx=none) /\ ∀q,nx=some q -> st q≠none:=by
 have tw:=lY.1 h.Nr;obtain⟨nx1,h1⟩:=h.aiy;obtain⟨nx2,h2⟩:=xT (l:=l++s :: r) h1 s iz;obtain⟨nx3,h3,h4⟩:=nodeAt (tw.2 s iz) h2;refine⟨nx3,h3,h4,fun q hq=>?_⟩;cases d with
 | zero=>
  have hm:(s.1,s.2)∈kE D (plug c (jY b (l++s :: r))):=by
   rw[tT,mT];simp only[aq,ai,an];exact .inl (.inr (.inr (.inl (aZ.2 rfl))))
  exact CY h.sg _ hm _ h3 q hq
 | succ d=>rw[h4 gZ] at hq;cases hq
theorem Good.af6 {st:St}{T:Tr D}{l:List KV}(h:Good st D T l): ∃nx,st (blk D T)=some ⟨D == 0,iv D T,nx⟩ /\ (D≠0 -> nx=none) /\ ∀q,nx=some q -> st q≠none:=by
 obtain⟨nx,h1,h2⟩:=nodeAt h.rep h.sg;refine⟨nx,h1,h2,fun q hq=>?_⟩;cases D with
 | zero=>exact CY h.sg (T.1,T.2) (aZ.2 rfl) _ h1 q hq
 | succ d=>rw[h2 gZ] at hq;cases hq
theorem yI: ∀ {d:Nat}{t:Tr d},Mn d t -> 1 <= iQ d t -> ∀(z:En),((iv d t).getD 0 z).key=fk d t
 | 0,t,_,h,z=>by
  obtain⟨b,es⟩:=t;cases es with
  | nil=>simp[iQ] at h
  | cons e es=>rfl
 | d+1,t,hm,h,z=>by
  obtain⟨b,l⟩:=t;cases l with
  | nil=>simp[iQ] at h
  | cons s l=>
   have hs:=hm.2 s (List.Mem.head _)
   show fk d s=Bd (List.flatMap (jt d) (s :: l))
   rw[an,s_ (sC hs.2 gZ)]
   rfl
theorem BM (l:List (Tr d)): (l.map (jd d)).map En.key=l.map (fk d):=by rw[fz];rfl
theorem Jh (es:List KV): (ke es).map En.key=es.map Prod.fst:=by unfold ke;rw[fz];rfl
theorem vg (l r:List (Tr d)) (s:Tr d) (z:En): ((l++s :: r).map (jd d)).getD l.length z=jd d s:=by
 rw[aK,aM,ag,ay iz];simp
theorem oJ.kids {st:St}{k:Ky}{c:Ctx D (d+1)}{ks:List (Tr d)}{L:List KV}(h:oJ st k c (jY b ks) L): (∀s∈ks,4 <= iQ d s /\ Mn d s) /\ ks.length <= 8 /\ qc (ks.flatMap (jt d)):=by
 obtain⟨-,-,h1,h2⟩:=vG.1 h.mn;refine⟨h2,h1,?_⟩;have he:=h.el;rw[vj] at he;have hs:=h.uC;rw[<- he] at hs;exact(pJ.1 (pJ.1 hs).1).2.1
theorem oJ.two {st:St}{k:Ky}{c:Ctx D (d+1)}{t:Tr (d+1)}{l:List KV}(h:oJ st k c t l): 2 <= iQ (d+1) t:=by
 cases c with
 | top=>
  rcases h.root with e|e
  ·cases e
  ·rwa [nv] at e
 | down c b l r=>
  have:=(vG.1 h.mn).2.1;unfold lowC at this;omega
theorem Rp (l r:List α) (x:α): (l++x :: r)[l.length]? = some x:=by rw[ay (af _),gm];rfl
theorem Uc {k:Ky}{l r l1 r1:List (Tr d)}{s1 s2 s':Tr d}(he:l++s1 :: s2 :: r=l1++s' :: r1) (h1:jt d s1≠[]) (hr:∀x∈r,jt d x≠[]) (hf:l≠[] -> kl k (fk d s1)=false) (qx:Hi (r.flatMap (jt d)) k) (W4:Hi (r1.flatMap (jt d)) k) (nh:l1≠[] -> kl k (fk d s')=false): s'=s1 \/ s'=s2:=by
 have g1:(l1++s' :: r1)[l.length]? = some s1:=by rw[<- he];exact Rp _ _ _
 have g2:(l++s1 :: s2 :: r)[l1.length]? = some s':=by rw[he];exact Rp _ _ _
 have aav:∀ {q:List (Tr d)}{x:Tr d},Hi (q.flatMap (jt d)) k -> x∈q -> jt d x≠[] -> kl k (fk d x)=true:=fun {q x} hq hx hn=>by
  obtain⟨e,he,hek⟩:=Fw hn;have:=hq e (aB.2 ⟨x,hx,he⟩);rw[hek] at this;exact this
 rcases aO l1.length l.length with iS|Zm
 ·exfalso
  rw[ay gZ,show l.length - l1.length=(l.length - l1.length - 1)+1 by omega,cg] at g1;have:=aav W4 (dh g1) h1;rw[hf (fun e=>by rw[e] at iS;simp at iS)] at this;cases this
 ·rw[ay Zm] at g2
  rcases aO (l1.length - l.length) 2 with h|h
  ·rcases aO (l1.length - l.length) 1 with h0|h0
   ·rw[show l1.length - l.length=0 by omega] at g2
    left;exact(au g2).symm
   ·rw[show l1.length - l.length=1 by omega] at g2
    right;exact(au g2).symm
  ·exfalso
   rw[show l1.length - l.length=(l1.length - l.length - 2)+1+1 by omega,cg,cg] at g2;have hm:=dh g2;have:=aav qx hm (hr _ hm);rw[nh (fun e=>by rw[e] at h;simp at h)] at this;cases this
theorem Qb (l r:List (Tr d)) (s:Tr d) (x:En): ((l++s :: r).map (jd d)).set l.length x=l.map (jd d)++x :: r.map (jd d):=by
 rw[aK,aM,cN _ _ iz];simp
theorem rU (es:List KV) {p:Nat}(hp:p<es.length) (z:En): (ke es).getD p z=⟨es[p].1,es[p].2,none⟩:=by simp[ke,hp]
theorem lZ (es:List KV): (ke es).length=es.length:=by simp[ke]
theorem oJ.get {st:St}{k:Ky}{c:Ctx D 0}{es:List KV}{L:List KV}(h:oJ st k c (qF b es) L): getL k L=getL k es /\ qc es:=by
 have he:=h.el;have hs:=h.uC;rw[vj] at he;have he':cl c++es++cr c=L:=he;rw[<- he'] at hs ⊢;refine⟨by rw[ao,JR h.lo,Ag h.hi],(pJ.1 (pJ.1 hs).1).2.1⟩
end Tre
end Go.Proofs.YtlenklobbngopaaGreat
