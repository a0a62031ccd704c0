import Derived.Test.YtlenklobbngopaaGreatZIxC5
set_option maxHeartbeats 64000000
set_option maxRecDepth 100000
set_option linter.all false
namespace Go.Proofs.YtlenklobbngopaaGreat
open _root_.Go.Proofs.Tryz
open Go.RowKit Go.Maps
variable {α κ:Type}{w w' W W':World}{vb N b clock m cap r g j i tb B kn T g1 g2 g3 gb nn n' rb:Nat}{M D O:Nat->Prop}{f:lD}{d x u:V}{es:Array MapEntry}{F:κ->Option Value}{hi:Operand}{sp:Option Addr}{k1:IntKind}{xv p:Value}{L:List Lit}{cs cu cv args rU:kL}{mZ:List (kL)}{a:Int×Int}{h:Nat->oK}{l:List α}{c:Nat->Int}{R:Ending->World->Prop}{ds:List Deferred}{y:Int}
namespace Vw
open K
theorem Hu: na prog 102 vM 14 144:=na.mk' (z:=.agg (lA kE jK).toArray) underlying102 jG rfl I
theorem IT {f:Nat}{s:St}(h0:rO w vb M D (f+1) s N){t d:Int}(ht:lV t)(hd:lV d):
  Calls prog 26 #[jV vb,Iq t,Iq d] w (adL w (f+1) (lU s (t,d))):=by
 apply kq func26 ntmps26;apply mA _;refine jJ (z:=.agg (lA kE jK).toArray) (fun _=>jG) fun g6 w1 f1=>?_;have v6:U vM w1 g6 (lA kE jK):=f1.blk;have b1:=f1.below;have e6:=f1.eq;clear f1;have h1:=h0.below b1;have l6:=U.lt v6;have z1:=b1.size;apply G _;apply(kV);apply jF _;apply jR [Iq t,Iq d] (Ho _ _);apply jx func57 (PK h1 ht hd);rintro _ wb ⟨rA,r,dc,b,rfl,hv,ok,sm,hm⟩;refine⟨_,rfl,?_⟩;have lM:=hv.len;apply G _;refine jJ (z:=.agg (lA kE jK).toArray) (fun _=>jG) fun g8 wc f9=>?_;apply jE (hm:=(ln lM)) f9.blk (nu hv.one);obtain⟨v8,b3,-,-⟩:=nv (lA r dc) rA f9;have hgq:=f9.eq;have bz:=rA.size;have p7:w1.heap.size<=g8:=I;have bcf:jP wb (wc.setRow g8 (lA r dc).toArray):=(Cr.mo (K:=fun x=>x<wb.heap.size) (g:=g8) (Z.jw f9.below) (fun hh=>by omega) _).below;replace hv:=hv.jA (Z.jw bcf) (fun x hx hl=>hl) nN;generalize wc.setRow g8 _=w3 at v8 b3 hv ⊢;clear f9 bcf;have h3:=h1.below b3;have bw:=b1.trans (b3.mono z1);have z3:=b3.size;replace v6:=U.below v6 b3 l6;have l6':=U.lt v6;have l8:=U.lt v8;apply G _;cases b with
 | false=>
  have hT:lU s (t,d)=none:=by
   cases hh:lU s (t,d) with
   | none=>rfl
   | some r'=>rw[hh]at hm;cases hm.2
  have MO:=(oe (fun _=>True) 0 w3).one;apply jF _;apply jR (lA kE jK) zH;apply jE v6 (nu MO);apply G _;apply WQ.yQ rfl rfl rfl rfl rfl (U.setRow v6 _);rw[hT];exact⟨(Cr.mo (K:=fun x=>x<w.heap.size) (g:=g6) (Z.jw bw) (fun hh=>by omega) _).below,kE,jK,false,rfl,oe _ _ _,rfl,rfl⟩
 | true=>
  have hT:lU s (t,d)=some r:=by
   cases hh:lU s (t,d) with
   | none=>rw[hh]at hm;cases hm
   | some r'=>rw[hh]at hm;rw[hm.1]
  apply jF _;apply jy (U.rangeAt v8) (ln lM);apply jx func58 (IA hv.sN sm);rintro _ w7 ⟨b7,tW,rfl,Kp⟩;refine⟨_,rfl,?_⟩;replace v6:=U.below v6 b7 l6';apply jE (hm:=(ln Kp.len)) v6 (nu Kp.one);have k7:Z (fun x=>x≠g6) w7 (w7.setRow g6 (lA r tW).toArray):=Cr.mo (Z.refl _ _) jM _;have v7:=U.setRow v6 (lA r tW);generalize w7.setRow g6 _=w8 at v7 k7 ⊢;apply G _;refine WQ.yQ rfl rfl rfl (congrArg some (ln Kp.len)).symm rfl v7 ?_;rw[hT];exact⟨((Z.jw (bw.kj b7)).trans (k7.mono fun x (hx:x<w.heap.size) e=>by omega)).below,r,tW,true,rfl,Kp.jA k7 (fun x hx _ e=>by omega) (fun x hx=>by have:=bw.size;omega),rfl,rfl⟩
theorem yC {f:Nat}{s:St}(h0:rO w vb M D (f+1) s N){t:Int}(ht:lV t):
  Calls prog 30 #[jV vb,Iq t] w (tG w (f+1) (nT s t)):=by
 have nL:=uZ t s.rows;have mq:s.rows.length<=N/\N<=1000000:=by obtain⟨cp,Oc,mr,md,mp,mn,k,F,h⟩:=id h0;have:=h.ok;omega
 have hdR:nT s t=(List.range (j9 t s.rows)).filterMap (fun(i:Nat)=>lU s (t,(i:Int)+1)):=rfl;rw[hdR];apply kq func30 ntmps30;apply G _;apply(kV);apply jF _;refine WC.loop (fun x:Nat×Value=>[(0,jV vb),(1,Iq t),(5,x.2),(6,Iq ((x.1:Int)+1))])
  (fun x w'=>x.1<=j9 t s.rows/\jP w w'/\pz vM w.heap.size (f+1) w' x.2 ((List.range x.1).filterMap (fun(i:Nat)=>lU s (t,(i:Int)+1)))) (fun x=>j9 t s.rows - x.1) (0,kP) kz
  ⟨ay _,Below.refl _ _,pz.nil _ _ _ _⟩ ?_
 rintro⟨d,v⟩ w1 ⟨hd,b1,jW⟩;simp only at hd jW;have h1:=h0.below b1;have z1:=b1.size;obtain⟨cp,Oc,mr,md,mp,mn,k,F,h⟩:=id h1;have c2:=h.su.cell 2 jM;simp only[aA,al]at c2;have hl:=h.Oj ht;have p5:=NT (s:=s) (t:=t) d;generalize Dz:j9 t s.rows=c at *
 by_cases CV:d<c
 case neg=>
  obtain rfl:d=c:=I;have oW:tG w (f+1) ((List.range d).filterMap (fun(i:Nat)=>lU s (t,(i:Int)+1))) (.returned v) w1:=⟨b1,v,rfl,jW.kN⟩;generalize (List.range d).filterMap (fun(i:Nat)=>lU s (t,(i:Int)+1))=LL at oW;clear jW p5;apply jF _;apply WL.look rfl rfl rfl rfl rfl rfl hl;apply jF _;exact J oW
 case pos=>
 obtain⟨Am,cpv,aib,-⟩:=jW.kN;subst aib;apply jF _;apply WL.look rfl rfl rfl rfl rfl rfl hl;apply jF _;apply jR [Iq t,Iq ((d:Int)+1)] (Ho _ _);apply jx func57 (PK h1 ht (d:=(d:Int)+1) ⟨I,I⟩);rintro _ wb ⟨rA,r,dc,b,rfl,hv,ok,sm,hm⟩;refine⟨_,rfl,?_⟩;have lM:=hv.len;apply G _;refine jJ (z:=.agg (lA kE jK).toArray) (fun _=>jG) fun g8 wc f9=>?_;apply jE (hm:=(ln lM)) f9.blk (nu hv.one);obtain⟨v8,b3,-,-⟩:=nv (lA r dc) rA f9;have hgq:=f9.eq;have bz:=rA.size;have p7:w1.heap.size<=g8:=I;have bcf:jP wb (wc.setRow g8 (lA r dc).toArray):=(Cr.mo (K:=fun x=>x<wb.heap.size) (g:=g8) (Z.jw f9.below) (fun hh=>by omega) _).below;replace hv:=hv.jA (Z.jw bcf) (fun x hx hl=>hl) nN;generalize wc.setRow g8 _=w3 at v8 b3 hv ⊢;clear f9 bcf;have bw:=b1.trans (b3.mono z1);replace jW:=jW.below (b3.mono (aj _));cases b with
 | false=>
  have hT:lU s (t,(d:Int)+1)=none:=by
   cases hh:lU s (t,(d:Int)+1) with
   | none=>rfl
   | some r'=>rw[hh]at hm;cases hm.2
  rw[hT,dM,aP]at p5;apply G _;refine WQ.again (d+1,_) kz ⟨CV,bw,?_⟩ (by show c - (d+1)<c - d;omega)
  show pz vM _ (f+1) w3 _ ((List.range (d+1)).filterMap _)
  rw[p5];exact jW
 | true=>
  have hT:lU s (t,(d:Int)+1)=some r:=by
   cases hh:lU s (t,(d:Int)+1) with
   | none=>rw[hh]at hm;cases hm
   | some r'=>rw[hh]at hm;rw[hm.1]
  rw[hT,dm]at p5;have Kk:((List.range d).filterMap (fun(i:Nat)=>lU s (t,(i:Int)+1))).length<=d:=by
   have:=ef (fun(i:Nat)=>lU s (t,(i:Int)+1)) (List.range d)
   rwa [im]at this
  generalize hLe:(List.range d).filterMap (fun(i:Nat)=>lU s (t,(i:Int)+1))=LL at jW Kk p5;apply jF _;apply jy (U.rangeAt v8) (ln lM);apply jx func58 (IA hv.sN sm);rintro _ wt ⟨bt,dct,rfl,hvt⟩;refine⟨_,rfl,?_⟩;have zb:=bw.size;have ct:=bw.trans (bt.mono zb);refine lh (hcs:=(ln hvt.len)) (cs:=lA r dct) fun gl wd fd=>?_;have cd:=ct.kj fd.below;obtain⟨Dn,L_,FM,Ve⟩:=jW.snoc zb bt hvt fd.below ok sm;refine WL.snoc rfl rfl rfl rfl Hu rfl L_ rfl fd.blk FM.one FM.len FM I I fun v9 we DN nB=>?_;have Wv:=cd.trans (nB.old cd.size jW.own);have pY:=Ve DN nB;apply G _;refine WQ.again (d+1,_) kz ⟨CV,Wv,?_⟩ (by show c - (d+1)<c - d;omega)
  show pz vM _ (f+1) we _ ((List.range (d+1)).filterMap _)
  rw[p5];exact pY
theorem Sx (L:List Rw)(x:Int×Int): (Vw.of L x).length<=L.length:=dN _ _
theorem Ng {f:Nat}{s:St}(h0:rO w vb M D f s N)(hN:N<=100000){t:Int}(ht:lV t):
  Calls prog 55 #[jV vb,Iq t] w (tG w f (tf s t)):=by
 obtain⟨cp,Oc,mr,md,mp,mn,k,F,h⟩:=id h0;have nL:=uZ t s.rows;have mq:=h.ok;have hdR:tf s t=(List.range (j9 t s.rows)).flatMap (fun(i:Nat)=>Vw.of s.rows (t,(i:Int)+1)):=rfl;rw[hdR];apply kq func55 ntmps55;apply G _;apply(kV);apply jF _;refine WC.loop (fun x:Nat×Value=>[(0,jV vb),(1,Iq t),(5,x.2),(6,Iq ((x.1:Int)+1))])
  (fun x w'=>x.1<=j9 t s.rows/\jP w w'/\∃LL,LL=(List.range x.1).flatMap (fun(i:Nat)=>Vw.of s.rows (t,(i:Int)+1))/\LL.length<=x.1*s.rows.length/\pz vM w.heap.size f w' x.2 LL) (fun x=>j9 t s.rows - x.1) (0,kP) kz
  ⟨ay _,Below.refl _ _,[],rfl,jM,pz.nil _ _ _ _⟩ ?_
 rintro⟨d,v⟩ w1 ⟨hd,b1,LL,Kk,YA,jW⟩;simp only at hd jW Kk YA;have h1:=h.below b1;have z1:=b1.size;have c1:=h1.su.cell 1 jM;have c2:=h1.su.cell 2 jM;simp only[aA,al]at c1 c2;have hl:=h1.Oj ht;have aAm:=nL;generalize Dz:j9 t s.rows=c at *
 by_cases CV:d<c
 case neg=>
  obtain rfl:d=c:=I;subst Kk;have oW:tG w f ((List.range d).flatMap (fun(i:Nat)=>Vw.of s.rows (t,(i:Int)+1))) (.returned v) w1:=⟨b1,v,rfl,jW.kN⟩;generalize (List.range d).flatMap (fun(i:Nat)=>Vw.of s.rows (t,(i:Int)+1))=LL at oW;clear jW YA;apply jF _;apply WL.look rfl rfl rfl rfl rfl rfl hl;apply jF _;exact J oW
 case pos=>
 have mL:=h.kN (t,(d:Int)+1);have kv:lV ((d:Int)+1):=⟨I,I⟩;have xY:=h1.Yj (x:=(t,(d:Int)+1)) ht kv;have hLs:(List.range (d+1)).flatMap (fun(i:Nat)=>Vw.of s.rows (t,(i:Int)+1))=LL++Vw.of s.rows (t,(d:Int)+1):=by rw[eL,an,Kk];simp
 have hJl:=Sx s.rows (t,(d:Int)+1);have oc:LL.length<=100000*100000:=aU YA (Nat.mul_le_mul I I);generalize (F (t,(d:Int)+1)).getD (kP)=sv at mL xY;generalize Vw.of s.rows (t,(d:Int)+1)=aEW at mL hLs hJl;obtain⟨Am,cpv,rfl,ag9,arT,-⟩:=id mL;apply jF _;apply WL.look rfl rfl rfl rfl rfl rfl hl;apply jF _;apply jR [Iq t,Iq ((d:Int)+1)] (Ho _ _);apply WL.look rfl rfl rfl rfl rfl rfl xY;apply G _;refine WC.loop (fun x:Nat×Value=>[(0,jV vb),(1,Iq t),(5,x.2),(6,Iq ((d:Int)+1)),(28,.slice Am aEW.length cpv),(29,Iq (aEW.length:Nat)),(30,Iq x.1)])
  (fun x w'=>x.1<=aEW.length/\jP w w'/\pz vM w.heap.size f w' x.2 (LL++aEW.take x.1)) (fun x=>aEW.length - x.1) (0,v) kz
  ⟨ay _,b1,by simpa using jW⟩ ?_
 clear jW c1 c2 hl xY h1 z1;rintro⟨q,v2⟩ w2 ⟨hq,b2,jW⟩;simp only at hq jW
 by_cases hqJ:q<aEW.length
 case neg=>
  obtain rfl:q=aEW.length:=I;rw[aN]at jW;apply G _;refine WQ.again (d+1,v2) kz ⟨CV,b2,_,hLs.symm,?_,jW⟩ (by show c - (d+1)<c - d;omega);rw[af,gJ];omega
 case pos=>
 obtain⟨b9,o9,qu,dc,es,sw,-,R9,qO,ok,sm⟩:=nw mL hqJ;obtain⟨rfl,rfl⟩:Am=some (Aq b9 o9)/\cpv=qu:=by simpa using es
 clear es;have kF:aEW.take (q+1)=aEW.take q++[aEW.getD q kE]:=by rw[aK,ai hqJ,lR hqJ];rfl
 generalize aEW.getD q kE=r at R9 qO ok sm kF;have R2:=R9.below (Z.jw b2) sw;have lM:=qO.len;have x3:=R2.all;have PO:(LL++aEW.take q).length<=100000*100000+100000:=by
  rw[af,aC];omega
 have z2:=b2.size;obtain⟨uS,OH,Bj,-⟩:=jW.kN;subst Bj;apply G _;apply jQ q (o9+q*14) hqJ;apply jy x3 (ln lM);refine jJ (z:=.agg (lA kE jK).toArray) (fun _=>jG) fun g8 wc f9=>?_;apply jE (hm:=(ln lM)) f9.blk (nu qO.one);obtain⟨v8,b3,-,-⟩:=nv (lA r dc) (Below.refl w2.heap.size w2) f9;generalize wc.setRow g8 _=w3 at v8 b3 ⊢;clear f9;have bw:=b2.trans (b3.mono z2);replace jW:=jW.below b3;have hv:=qO.jA (Z.jw bw) (fun x hx _=>h.lt x (.inr hx)) nN;have hrm:(LL++aEW.take (q+1))=(LL++aEW.take q)++[r]:=by rw[kF,av]
 generalize LL++aEW.take q=LJ at PO jW hrm;apply G _;apply jy (U.rangeAt v8) (ln lM);apply jx func58 (IA hv.sN sm);rintro _ wt ⟨bt,dct,rfl,hvt⟩;refine⟨_,rfl,?_⟩;have zb:=bw.size;have ct:=bw.trans (bt.mono zb);refine lh (hcs:=(ln hvt.len)) (cs:=lA r dct) fun gl wd fd=>?_;have cd:=ct.kj fd.below;obtain⟨Dn,L_,FM,Ve⟩:=jW.snoc zb bt hvt fd.below ok sm;refine WL.snoc rfl rfl rfl rfl Hu rfl L_ rfl fd.blk FM.one FM.len FM I I fun v9 we DN nB=>?_;have Wv:=cd.trans (nB.old cd.size jW.own);have pY:=Ve DN nB;apply G _;refine WQ.again (q+1,_) kz ⟨hqJ,Wv,?_⟩ (by show aEW.length - (q+1)<aEW.length - q;omega)
 show pz vM _ f we _ (LL++aEW.take (q+1))
 rw[hrm];exact pY
open K
theorem Wc (hb:w.heap[b]? = some (.map es clock)):
  Calls prog 49 #[.map (some b)] w fun e w'=>e=.returned (.map (some w.heap.size))/\w'=w.alloc (.map es clock):=by
 have hq:=fun w=>dK (P:=prog) w 127 _ _ (some b) fw
 go_enter func49,ntmps49
 go_wp2
 rw[eh func78 jG jG jG (e:=Extern.MapsClone.clone) jG,eW _ 127 hb];simp only[Result.andThen];rw[Oper.upon_value]
 go_wp2
 rw[dO _ 127 _ _ _ _ fw];simp only[Result.andThen];rw[Oper.upon_value]
 go_wp2
 go_ret
 exact⟨rfl,rfl⟩
theorem VY (hb:w.heap[b]? = some (.map es clock)):
  Calls prog 50 #[.map (some b)] w fun e w'=>e=.returned (.map (some w.heap.size))/\w'=w.alloc (.map es clock):=by
 have hq:=fun w=>dK (P:=prog) w 128 _ _ (some b) gh
 go_enter func50,ntmps50
 go_wp2
 rw[eh func78 jG jG jG (e:=Extern.MapsClone.clone) jG,eW _ 128 hb];simp only[Result.andThen];rw[Oper.upon_value]
 go_wp2
 rw[dO _ 128 _ _ _ _ gh];simp only[Result.andThen];rw[Oper.upon_value]
 go_wp2
 go_ret
 exact⟨rfl,rfl⟩
theorem Tj (hb:w.heap[b]? = some (.map es clock)):
  Calls prog 51 #[.map (some b)] w fun e w'=>e=.returned (.map (some w.heap.size))/\w'=w.alloc (.map es clock):=by
 have hq:=fun w=>dK (P:=prog) w 129 _ _ (some b) gj
 go_enter func51,ntmps51
 go_wp2
 rw[eh func78 jG jG jG (e:=Extern.MapsClone.clone) jG,eW _ 129 hb];simp only[Result.andThen];rw[Oper.upon_value]
 go_wp2
 rw[dO _ 129 _ _ _ _ gj];simp only[Result.andThen];rw[Oper.upon_value]
 go_wp2
 go_ret
 exact⟨rfl,rfl⟩
theorem VI (hb:w.heap[b]? = some (.map es clock)):
  Calls prog 52 #[.map (some b)] w fun e w'=>e=.returned (.map (some w.heap.size))/\w'=w.alloc (.map es clock):=by
 have hq:=fun w=>dK (P:=prog) w 130 _ _ (some b) gk
 go_enter func52,ntmps52
 go_wp2
 rw[eh func78 jG jG jG (e:=Extern.MapsClone.clone) jG,eW _ 130 hb];simp only[Result.andThen];rw[Oper.upon_value]
 go_wp2
 rw[dO _ 130 _ _ _ _ gk];simp only[Result.andThen];rw[Oper.upon_value]
 go_wp2
 go_ret
 exact⟨rfl,rfl⟩
theorem ahE (p:Addr)(a b c d:Nat)(x:Int): prog.built pvT [(0,.pointer (some p)),(1,.map (some a)),(2,.map (some b)),(3,.map (some c)),(4,.map (some d)),(5,Iq x)]=some [Value.pointer (some p),.map (some a),.map (some b),.map (some c),.map (some d),Iq x].toArray:=jG
theorem TD (p:Addr)(a b c d:Nat): prog.built pvT [(0,.pointer (some p)),(1,.map (some a)),(2,.map (some b)),(3,.map (some c)),(4,.map (some d))]=some [Value.pointer (some p),.map (some a),.map (some b),.map (some c),.map (some d),Iq 0].toArray:=jG
theorem acF: vV []=fun _=>none:=by funext t;rfl
theorem aa0: sK []=fun _=>none:=by funext t;rfl
theorem Y4: CG (fun _=>false)=fun _=>none:=by funext t;rfl
theorem Pr {f:Nat}: Calls prog 38 #[] w fun e w'=>∃vb M,e=.returned (.pointer (some ⟨vb,0,none⟩))/\rO w' vb M (fun _=>False) f uO 0/\Below w.heap.size w w'/\∀b,M b->w.heap.size<=b:=by
 apply kq func38 ntmps38;apply G _;apply jx func68 (Cat.agy w);rintro _ w1 ⟨Oc,rfl,hc,b1,zk⟩;refine⟨_,rfl,?_⟩;have nL:=hc.lt;generalize w.heap.size+1=cp at hc ⊢;apply WL.mkMap rfl rfl rfl rfl;have hr:=MF.made prog IN nR w1;have b2:Below w1.heap.size w1 (w1.alloc (.map #[] 0)):=(Below.refl _ w1).alloc (aj _) _;have z2:(w1.alloc (.map #[] 0)).heap.size=w1.heap.size+1:=by show(w1.heap.push _).size=_;simp
 obtain⟨mr,e2⟩:∃mr,mr=w1.heap.size:=⟨_,rfl⟩;rw[<-e2]at hr ⊢;generalize w1.alloc (.map #[] 0)=w2 at hr b2 z2 ⊢;apply WL.mkMap rfl rfl rfl rfl;have hd:=MF.made prog iT O5 w2;have b3:Below w2.heap.size w2 (w2.alloc (.map #[] 0)):=(Below.refl _ w2).alloc (aj _) _;have z3:(w2.alloc (.map #[] 0)).heap.size=w2.heap.size+1:=by show(w2.heap.push _).size=_;simp
 obtain⟨md,e3⟩:∃md,md=w2.heap.size:=⟨_,rfl⟩;rw[<-e3]at hd ⊢;generalize w2.alloc (.map #[] 0)=w3 at hd b3 z3 ⊢;apply WL.mkMap rfl rfl rfl rfl;have hp:=MF.made prog xZ nR w3;have b4:Below w3.heap.size w3 (w3.alloc (.map #[] 0)):=(Below.refl _ w3).alloc (aj _) _;have z4:(w3.alloc (.map #[] 0)).heap.size=w3.heap.size+1:=by show(w3.heap.push _).size=_;simp
 obtain⟨mp,e4⟩:∃mp,mp=w3.heap.size:=⟨_,rfl⟩;rw[<-e4]at hp ⊢;generalize w3.alloc (.map #[] 0)=w4 at hp b4 z4 ⊢;apply WL.mkMap rfl rfl rfl rfl;have hn:=MF.made prog xZ nR w4;have b5:Below w4.heap.size w4 (w4.alloc (.map #[] 0)):=(Below.refl _ w4).alloc (aj _) _;have z5:(w4.alloc (.map #[] 0)).heap.size=w4.heap.size+1:=by show(w4.heap.push _).size=_;simp
 obtain⟨mn,e5⟩:∃mn,mn=w4.heap.size:=⟨_,rfl⟩;rw[<-e5]at hn ⊢;generalize w4.alloc (.map #[] 0)=w5 at hn b5 z5 ⊢;apply jR [jV cp,.map (some mr),.map (some md),.map (some mp),.map (some mn),Iq 0] (TD _ _ _ _ _);refine jO fun vb w6 f6=>?_;apply G _;have e6:=f6.eq;have s6:=f6.size;have b6:=f6.below;have z1:=b1.size;have c3:=b2.trans (b3.mono b2.size);have c4:=c3.trans (b4.mono c3.size);have c5:=c4.trans (b5.mono c4.size);have c6:=c5.trans (b6.mono c5.size);refine J ⟨vb,fun b=>Oc b\/b=mr\/b=md\/b=mp\/b=mn\/b=vb,rfl,⟨cp,Oc,mr,md,mp,mn,0,fun _=>none,⟨f6.blk,hc.below c6 (aj _),
  hr.below ((b3.trans ((b4.trans ((b5.trans (b6.mono b5.size)).mono b4.size)).mono b3.size))) (by omega),fun x=>m6.nil _ _ _ _ _,?_,?_,?_,by simp,by simp,by simp,by simp,by simp,fun b hb=>.inl hb,?_,⟨⟨by omega,by omega,by omega⟩,⟨by omega,by omega⟩,by omega⟩,?_,(fun _ _ h=>h),⟨aj _,aj _,aj _,by omega⟩⟩⟩,b1.trans (c6.mono z1),?_⟩
 ·show MF prog iT O5 w6 md 0 (vV [])
  rw[acF];exact hd.below (b4.trans ((b5.trans (b6.mono b5.size)).mono b4.size)) (by omega)
 ·show MF prog xZ nR w6 mp 0 (sK [])
  rw[aa0];exact hp.below (b5.trans (b6.mono b5.size)) (by omega)
 ·show MF prog xZ nR w6 mn 0 (CG fun _=>false)
  rw[Y4];exact hn.below b6 (by omega)
 ·exact⟨fun q=>by have:=nL _ q;omega,fun q=>by have:=nL _ q;omega,fun q=>by have:=nL _ q;omega,fun q=>by have:=nL _ q;omega,fun q=>by have:=nL _ q;omega⟩
 ·rintro b ((hb|hb|hb|hb|hb|hb)|hb)
  ·have:=nL _ hb;omega
  ·omega
  ·omega
  ·omega
  ·omega
  ·omega
  ·exact hb.elim
 ·rintro b (hb|hb|hb|hb|hb|hb)
  ·exact zk b hb
  all_goals omega
theorem Gg {f:Nat}{s:St}(h0:rO w vb M D f s N):
  Calls prog 21 #[jV vb] w fun e w'=>∃ID M',e=.returned (.pointer (some (Aq ID 0)))/\rO w' ID M' D f s N/\jP w w'/\∀b,M' b->w.heap.size<=b:=by
 obtain⟨cp,Oc,mr,md,mp,mn,k,F,h⟩:=id h0;have c0:=h.su.cell 0 jM;have c1:=h.su.cell 1 jM;have c2:=h.su.cell 2 jM;have c3:=h.su.cell 3 jM;have c4:=h.su.cell 4 jM;have c5:=h.su.cell 5 jM;simp only[aA,al]at c0 c1 c2 c3 c4 c5;have xu:=h.lt vb (.inl h.wG);apply kq func21 ntmps21;apply G _;apply(kV);apply jF _;refine WC.drawn 29 (jP w) fun wa kv=>?_;have hS:jP w wa:=kv.below _;apply jC [0,1,2] hS _;apply jz 3 [4,9,14,19,24,29,30,31] (lX xu c0) hS;apply jC [5,6,7] hS _;apply jz 8 [9,14,19,24,29,30,31] (lX xu c1) hS;apply jC [10,11,12] hS _;apply jz 13 [14,19,24,29,30,31] (lX xu c2) hS;apply jC [15,16,17] hS _;apply jz 18 [19,24,29,30,31] (lX xu c3) hS;apply jC [20,21,22] hS _;apply jz 23 [24,29,30,31] (lX xu c4) hS;apply jC [25,26,27] hS _;apply jz 28 [29,30,31] (lX xu c5) hS;apply jS 4;apply jx func48 (Cr.Xw (h.below hS).cat);rintro _ w1 ⟨c',O',rfl,Lm,bc,hO'⟩;refine⟨_,rfl,?_⟩;have S1:=hS.kj bc;apply lI S1;have nL:=Lm.lt;have z0:=hS.size;have z1:=bc.size;obtain⟨es0,avH,hm0,hr⟩:=K.MF.clone (h.below S1).rows;apply jS 9;apply kH func49 (Wc hm0);rintro w2 e2
 have b2:=e2 ▸ (Below.refl _ _).alloc (aj _) _;have z2:w2.heap.size=w1.heap.size+1:=by rw[e2];show(w1.heap.push _).size=_;simp
 rw[<-e2]at hr;clear hm0 e2;have S2:=S1.kj b2;apply lI S2;obtain⟨mr',x0⟩:∃mr',mr'=w1.heap.size:=⟨_,rfl⟩;rw[<-x0]at hr ⊢;obtain⟨es1,avG,HA,hd⟩:=K.MF.clone (h.below S2).xQ;apply jS 14;apply kH func50 (VY HA);rintro w3 e3
 have b3:=e3 ▸ (Below.refl _ _).alloc (aj _) _;have z3:w3.heap.size=w2.heap.size+1:=by rw[e3];show(w2.heap.push _).size=_;simp
 rw[<-e3]at hd;clear HA e3;have S3:=S2.kj b3;apply lI S3;obtain⟨W7,x1⟩:∃W7,W7=w2.heap.size:=⟨_,rfl⟩;rw[<-x1]at hd ⊢;obtain⟨Ot,avM,yd,hp⟩:=K.MF.clone (h.below S3).xR;apply jS 19;apply kH func51 (Tj yd);rintro w4 e4
 have b4:=e4 ▸ (Below.refl _ _).alloc (aj _) _;have z4:w4.heap.size=w3.heap.size+1:=by rw[e4];show(w3.heap.push _).size=_;simp
 rw[<-e4]at hp;clear yd e4;have S4:=S3.kj b4;apply lI S4;obtain⟨mp',x2⟩:∃mp',mp'=w3.heap.size:=⟨_,rfl⟩;rw[<-x2]at hp ⊢;obtain⟨es3,avN,hm3,hn⟩:=K.MF.clone (h.below S4).xP;apply jS 24;apply kH func52 (VI hm3);rintro w5 e5
 have b5:=e5 ▸ (Below.refl _ _).alloc (aj _) _;have z5:w5.heap.size=w4.heap.size+1:=by rw[e5];show(w4.heap.push _).size=_;simp
 rw[<-e5]at hn;clear hm3 e5;have S5:=S4.kj b5;apply lI S5;obtain⟨mn',x3⟩:∃mn',mn'=w4.heap.size:=⟨_,rfl⟩;rw[<-x3]at hn ⊢;apply jS 29;apply jR [Value.pointer (some (Aq c' 0)),.map (some mr'),.map (some W7),.map (some mp'),.map (some mn'),Iq s.n] (ahE _ _ _ _ _ _);apply(jZ);apply jS 30;refine jO fun ID w6 f6=>?_;apply(jZ)
 (apply ke 31 rfl _)
 apply(jD);apply G _;have e6:=f6.eq;have s6:=f6.size;have b6:=f6.below;have q3:=b2.kj b3;have q4:=q3.kj b4;have q5:=q4.kj b5;have q6:=q5.kj b6;have S6:=S5.kj b6;have hk:=h.below S6;have j6:=h.lt;have zz:=S6.size;refine J ⟨ID,fun b=>O' b\/b=mr'\/b=W7\/b=mp'\/b=mn'\/b=ID,rfl,⟨c',O',mr',W7,mp',mn',k,F,⟨f6.blk,Lm.below q6 (aj _),
  hr.below ((b3.trans ((b4.trans ((b5.kj b6).mono b4.size)).mono b3.size))) I,hk.kN,hd.below (b4.trans ((b5.kj b6).mono b4.size)) I,hp.below (b5.kj b6) I,hn.below b6 I,jM,jM,jM,jM,jM,fun b hb=>.inl hb,?_,⟨⟨I,I,I⟩,⟨I,I⟩,I⟩,?_,?_,h.ok⟩⟩,S6,?_⟩
 ·exact⟨fun q=>by have:=nL _ q;omega,fun q=>by have:=nL _ q;omega,fun q=>by have:=nL _ q;omega,fun q=>by have:=nL _ q;omega,fun q=>by have:=nL _ q;omega⟩
 ·rintro b ((hb|hb|hb|hb|hb|hb)|hb)
  ·have:=nL _ hb;omega
  ·omega
  ·omega
  ·omega
  ·omega
  ·omega
  ·exact hk.lt b (.inr hb)
 ·rintro b (hb|hb|hb|hb|hb|hb) hd
  ·have:=hO' b hb;have:=j6 b (.inr hd);omega
  all_goals (have:=j6 b (.inr hd);omega)
 ·rintro b (hb|hb|hb|hb|hb|hb)
  ·have:=hO' b hb;omega
  all_goals omega
theorem uJ {f:Nat}{s:St}{cp:Nat}{Oc:Nat->Prop}{mr md mp mn k:Nat}{F:Int×Int->Option Value}(h:PV w vb M D f s cp Oc mr md mp mn k N F):
  Calls prog 24 #[jV vb] w fun e w'=>e=.returned (jV cp)/\w'=w:=by
 have c0:=h.su.cell 0 jM;simp only[al]at c0;apply kq func24 ntmps24;apply G _;apply(kV);apply jF _;exact J ⟨rfl,rfl⟩
end Vw
namespace K
section
variable {n:NN}{ops:Array Oper}{Q:Exit->Act->World->Prop}{rest:List Oper}{o:Oper}{d:Nat}{l:Env}{w:World}
theorem WL.clip {t e s:Nat}{x mx:Operand}{k2:IntKind}(hg:o.guard=none)(hd:o.dst=some d)(hn:Nat.blt d n.n=true)(ho:o.op=.slice t x none (some hi) (some mx))(ht:tyOf ty t=some (.slice e s))(hx:kS l x=some (.slice sp m cap))(qZ:kS l hi=some (.int k1 (m:Int)))(Wp:kS l mx=some (.int k2 (m:Int)))(hc:m<=cap)(sD:0<m->∃b o,sp=some (Aq b o))(h:WL n ops Q rest ((d,.slice sp m m)::l) w): WL n ops Q (o::rest) l w:=by
 have nG:sliced sp 0 m m s=.slice sp m m:=by
  unfold sliced;simp only[iF]
  by_cases h0:m=0
  ·rw[ag h0]
  ·rw[aa h0]
   obtain⟨b,o,rfl⟩:=sD I;simp[Addr.add_mid]
 refine WL.step hg hd hn (v:=.slice sp m m) (fun a ha=>?_) h;obtain⟨hu,lJ⟩:=oO.of oz ht;have he:prog.elem t=e:=by simp[Program.elem,hu]
 have J7:prog.underlying t=some (.slice (prog.elem t)):=by rw[he];exact hu
 have hs:(sizeOf e).run prog w=.ok s w:=by
  cases hq:prog.info? e with
  | none=>rw[hq]at lJ;cases lJ
  | some q=>rw[hq]at lJ;simp at lJ;simp[sizeOf,typeInfo,hq,lJ]
 unfold execOp;rw[ho];simp[ha.eval hx,ha.eval qZ,ha.eval Wp,iq w t _ _ _ _ J7,run_slice_hm w t sp m cap J7 k1 k2 (m:Int) (m:Int) I (Int.le_refl _) I,he,hs,nG]
theorem WL.agR {s x:Operand}{t e:TypeId}{bytes k k2 cc:Nat}{l1 l2:kL}{O2:Nat->Prop}(hg:o.guard=none)(hd:o.dst=some d)(hn:Nat.blt d n.n=true)(ho:o.op=.call { callee:=.builtin .append,args:=#[s,x],argTypes:=#[t,t]})(E:na prog t e m bytes)(hs:kS l s=some (.slice sp k k))(jW:ph w O m (.slice sp k cc) k l1)(hx:kS l x=some xv)(nG:ph w O2 m xv k2 l2)(h0:0<k2)(hb:(k+k2)*bytes<=140737488355328)(oc:k+k2<=140737488355328)(h:∀v' w',jY e m w' (fun g=>w.heap.size<=g) v' (k+k2) (l1++l2)->jP w w'->WL n ops Q rest ((d,v')::l) w'): WL n ops Q (o::rest) l w :=
 ⟨fun a ha=>by
  apply HN hg (by rw[ho];intro c hc;cases hc);refine fK hg fun K hK=>?_;have:=JM (P:=prog) (ops:=#[]) (K:=K) (Q:=Exit.then (lw n.md prog ops Q rest) (Ls Q)) (F:=False) hg s x t ho E (ha.eval hs) jW (ha.eval hx) nG h0 rfl (by unfold maxLen;omega) hb fun sp c w' h2 h3=>by
   apply hK _ _;rw[hd];exact(h _ w' h2 ((qE h3).mono fun b hb=>⟨hb,jM⟩).below).go _ (ha.put hn _)
  rw[ag (by simp[Region.wanted,hg])]at this;exact this⟩
end
end K
namespace Vw
open K
theorem Jb {P:Rw->kL->Prop}{v:Value}{es:List Rw}(h:m6 14 kE P O w v es)(h1:∀x cs,P x cs->lY cs):
  ∃mZ:List (kL),mZ.length=es.length/\(∀j,j<es.length->(mZ.getD j []).length=14/\P (es.getD j kE) (mZ.getD j []))/\ph w O 14 v es.length mZ.flatten:=by
 obtain⟨sp,cap,rfl,h2,h3,h5,h4⟩:=h;have key:∀j,j<es.length->∃cs:kL,cs.length=14/\P (es.getD j kE) cs/\∀b o,sp=some (Aq b o)->w.rangeAt b (o+j*14) cs:=fun j hj=>by
  obtain⟨b,o,rfl,-,-,hr⟩:=h4 I;obtain⟨cs,a1,a2,a3⟩:=hr j hj;exact⟨cs,a1,a2,fun b' o' e=>by cases e;exact a3⟩
 obtain⟨f,hf⟩:=fQ key;have tH:∀k,k<es.length->((List.range es.length).map f).getD k []=f k:=fun k hk=>by simp[hk]
 have lO:∀x∈(List.range es.length).map f,x.length=14:=fun x hx=>by
  obtain⟨i,hi,rfl⟩:=bD.1 hx;exact(hf i (bX.1 hi)).1
 have hlen:((List.range es.length).map f).length=es.length:=jM;refine⟨(List.range es.length).map f,hlen,fun j hj=>by rw[tH j hj];exact⟨(hf j hj).1,(hf j hj).2.1⟩,by rw[sY lO,hlen],fun u hu=>?_,sp,cap,rfl,h2,h3,h5,fun h0=>?_⟩
 ·obtain⟨x,hx,hu⟩:=List.mem_flatten.1 hu
  obtain⟨i,hi,rfl⟩:=bD.1 hx;exact h1 _ _ (hf i (bX.1 hi)).2.1 u hu
 ·obtain⟨b,o,rfl,hb,hO,-⟩:=h4 h0
  refine⟨b,o,rfl,hb,hO,fun q hq=>?_⟩;rw[sY lO,hlen]at hq;have hk:q / 14<es.length:=I;have hm:q % 14<14:=Nat.mod_lt _ I;have e1:q / 14*14+q % 14=q:=I;have hg:=B0 _ lO (q / 14) (q % 14) (by rw[hlen];exact hk) hm;rw[e1,tH _ hk]at hg;have hx:(f (q / 14))[q % 14]? = some ((f (q / 14))[q % 14]'(by rw[(hf _ hk).1];exact hm)):=ai _;have:=(hf _ hk).2.2 b o rfl (q % 14) _ hx;rw[gm,e1]at this;rw[this,<-hx,<-hg];have LI:q<((List.range es.length).map f).flatten.length:=by rw[sY lO,hlen];omega
  generalize ((List.range es.length).map f).flatten=F at LI;simp[LI]
theorem L6 {P:Rw->kL->Prop}{v:Value}{L:List Rw}{r:Rw}(h1:mZ.length=L.length)(h2:∀j,j<L.length->(mZ.getD j []).length=14/\P (L.getD j kE) (mZ.getD j []))(hc:cs.length=14)(hp:P r cs)(h:jY vM 14 w O v (L.length+1) (mZ.flatten++cs)): kC vM 14 kE P O w v (L++[r]):=K.kC.snoc h1 h2 hc hp h
theorem V_ {P:Rw->kL->Prop}{v:Value}{L:List Rw}(h:m6 14 kE P O w v L)(h1:∀x cs,P x cs->lY cs)(hn:0<L.length)(hl:L.length<=1000000):
  Calls prog 85 #[v] w fun r w'=>jP w w'/\∃v',r=.returned v'/\kC vM 14 kE P (fun g=>w.heap.size<=g) w' v' L:=by
 obtain⟨mZ,k1,k2,k3⟩:=Jb h h1;obtain⟨sp,cap,rfl,-,-,-,h4⟩:=id h;obtain⟨b,o,rfl,-⟩:=h4 hn;apply kq (args:=[nj b o L.length cap]) func85 ntmps85;apply G _;apply WL.alD rfl rfl rfl rfl rfl rfl rfl
 show WL _ _ _ _ ((_,.bool false)::_) _
 apply G _;refine WL.empty rfl rfl rfl rfl rfl fun g w1 hf=>?_;have lj:kJ w g w1 vM []:=hf;clear hf;have hg:=lj.eq;have hz:=lj.size;have oc:=lj.below;apply G _;have jW:jY vM 14 w1 (fun x=>x=g) (nj g 0 0 0) 0 []:=⟨⟨jM,.inr ⟨g,0,#[],rfl,ay _,lj.blk,aj _,by unfold maxLen;omega,jM,jM⟩⟩,fun _ h=>(a_ h).elim,fun g h=>by cases h;rfl⟩;refine l_ Hu jW (k3.below oc (aj _)) fun v2 w2 xI nK=>?_;have kK:=oc.trans (nK.old (B:=w.heap.size) I (fun x hx=>by have:g=x:=az hx;omega));simp only[bA,aT]at xI;apply G _;exact J ⟨kK,v2,rfl,mZ,k1,k2,xI.mono fun x hx=>by omega⟩
theorem aku {r:Rw}{dc:kL}(lM:dc.length=6){a b:Int}(ha:w.cell? (Aq g 44)=some (Iq a))(hb:w.cell? (Aq g 45)=some (Iq b))(j6:g<w.heap.size):
  Calls prog 87 #[.agg (lA r dc).toArray,jV g] w fun e w'=>jP w w'/\e=.returned (.bool (decide (r.nD=(a,b)))):=by
 have hd:decide (r.nD=(a,b))=(decide (r.blk=a) && decide (r.pH=b)):=by
  rw[<-Bool.decide_and];exact cN.2 ⟨fun q=>⟨congrArg Prod.fst q,congrArg Prod.snd q⟩,fun q=>eO q.1 q.2⟩
 rw[hd];apply kq (args:=[.agg (lA r dc).toArray,jV g]) func87 ntmps87;apply mA _;refine jO fun g2 w1 f1=>?_;have v2:U vM w1 g2 (lA r dc):=f1.blk;have b1:=f1.below;have R2:=rD.of (U.rangeAt v2) lM;clear f1;replace ha:=(b1.cell (p:=Aq g 44) j6).trans ha;replace hb:=(b1.cell (p:=Aq g 45) j6).trans hb;have x1:=R2.blk;have x2:=R2.pH
 by_cases h0:r.blk=a
 ·rw[aw h0]
  apply jF _;exact J ⟨b1,rfl⟩
 ·rw[ar h0]
  apply jF _;exact J ⟨b1,rfl⟩
end Vw
namespace Ix
open K
theorem adX (u:Nat): 1<=(lK u).length:=by
 show 1<=(uvF (9+1) u).length
 unfold uvF
 split<;>simp
theorem ZR {g h:Nat->oK}:∀(n:Nat),(∀j,j<n->(g j).length<=24*(h j).length)->((List.range n).flatMap g).length<=24*((List.range n).flatMap h).length
 | 0,_=>jM
 | n+1,hp=>by
  rw[mF,mF,af,af];have h1:=ZR n fun j hj=>hp j I;have h2:=hp n I;omega
theorem ajm {n:Nat}(hj:j<n): (h j).length<=((List.range n).flatMap h).length:=by
 have h1:=wX h (show j+1<=n from hj);rw[mF,af]at h1;omega
theorem Ir:∀(m m':Nat) {v:V},chk m v=0->(keyV m' v).length<=24*(encV m v).length
 | 0,_,_,h=>by cases h
 | m+1,0,_,_=>by simp[keyV]
 | m+1,m'+1,v,h=>by
  have hk:∀j,j<v.kids.length->(keyV m' (v.kids.getD j mM)).length<=24*(encV m (v.kids.getD j mM)).length:=fun j hj=>Ir m m' (qB h hj);unfold keyV encV;rw[ak,ak]
  by_cases k2:v.k=2
  ·rw[ag k2,ag k2];simp
  by_cases yG:v.k=3\/v.k=4
  ·rw[aa k2,ag yG]
   have:=QB v.n v.s;omega
  by_cases k5:v.k=5
  ·rw[aa k2,aa yG,ag k5]
   have:(GX v.n).length=8:=rfl;omega
  by_cases DJ:v.k=6\/v.k=7
  ·rw[aa k2,aa yG,aa k5,ag DJ,aa k2,aa (fun e=>yG (.inl e)),aa (fun e=>yG (.inr e)),aa k5,ag DJ]
   have h1:=A5 v.t.toList;have h2:(yI v.t).length=v.t.toList.length:=by unfold yI;rw[aB]
   unfold rp;rw[af,af];simp only[ak,aL];omega
  by_cases Od:v.k=8\/v.k=9
  ·rw[aa k2,aa yG,aa k5,aa DJ,ag Od,aa k2,aa (fun e=>yG (.inl e)),aa (fun e=>yG (.inr e)),aa k5,aa DJ,ag Od]
   rw[af,af];have h1:=ZR (g:=oT (keyV m') (decide (v.k=9)) v.names v.kids) (h:=mQ (encV m) (decide (v.k=9)) v.names v.kids) v.kids.length fun j hj=>by
    have h2:=hk j hj;unfold oT mQ;cases hd:decide (v.k=9) with
    | false=>simpa using h2
    | true=>
     have h3:=adX (v.names.getD j kZ).size;have h4:=A5 (v.names.getD j kZ).toList;have h5:(yI (v.names.getD j kZ)).length=(v.names.getD j kZ).toList.length:=by unfold yI;rw[aB]
     simp only[fI,af,ak,rp,aL];omega
   simp only[ak,aL];omega
  ·rw[aa k2,aa yG,aa k5,aa DJ,aa Od]
   simp
   omega
theorem adU {v:V}(h9:fldR d f=some v): (encV m v).length<=(encV (m+1) d).length:=by
 have hk:d.k=9:=by
  unfold fldR at h9
  split at h9
  ·assumption
  ·cases h9
 obtain⟨i,hi,rfl⟩:=Hs h9
 conv=>rhs;unfold encV
 rw[aa I,aa I,aa I,aa I,aa I,ag (.inr hk)];have h1:=ajm (h:=mQ (encV m) (decide (d.k=9)) d.names d.kids) hi;have h2:(encV m (d.kids.getD i mM)).length<=(mQ (encV m) (decide (d.k=9)) d.names d.kids i).length:=by
  unfold mQ;rw[af];omega
 rw[ak,af];omega
theorem ae8 {v:V}(hd:chk 16 d=0)(he:(encV 16 d).length<=65536)(h:fldR d f=some v)(n:Int): (nC 16 [v,iV n]).length<=2000000:=by
 obtain⟨i,hi,e⟩:=Hs h;have hc:chk 15 v=0:=by rw[e];exact qB hd hi
 have h1:=Ir 15 16 hc;have h2:(encV 15 v).length<=(encV 16 d).length:=adU h;have h3:(keyV 16 (iV n)).length<=23:=by
  have:=QB n 0
  show(oy 3::zK n 0).length<=23
  simp
  omega
 rw[IZ];simp only[af,aL];omega
end Ix
namespace K
def keyOf (l:List V):lD:=if firstBad (l.map (chk 16))=0 then strOfNums (nC 16 l) else⟨#[]⟩
theorem ajy {l:List V}(h:i<l.length): l.take (i+1)=l.take i++[l.getD i mM]:=by
 rw[aK];simp[h]
theorem Jf {g:V->oK}(l:List V): ((l.take i).flatMap g).length<=(l.flatMap g).length:=by
 have:l.flatMap g=(l.take i).flatMap g++(l.drop i).flatMap g:=by rw[<-an,aO]
 rw[this,af];omega
theorem GC {f:Nat}{sl:Value}{l:List V}(h:LW f w sl l)(hl:l.length<=9223372036854775807)(hm:firstBad (l.map (chk 16))=0->(nC 16 l).length<=70368744177664):
  Calls prog 32 #[sl] w fun e w'=>e=.returned (.tuple #[.string (keyOf l),Iq (firstBad (l.map (chk 16)))])/\jP w w':=by
 obtain⟨sp,cap,rfl,vg,qn,kF⟩:=h;apply kq (args:=[.slice sp l.length cap]) func32 ntmps32;apply G _;refine WC.loop (fun i:Nat=>[(0,.slice sp l.length cap),(10,.slice sp l.length cap),(11,Iq l.length),(12,Iq i)])
  (fun i w'=>i<=l.length/\jP w w'/\∀j,j<i->chk 16 (l.getD j mM)=0) (fun i=>l.length - i) 0 kz ⟨ay _,Below.refl _ _,fun j hj=>absurd hj I⟩ ?_
 rintro i wr ⟨hi,lG,lO⟩
 by_cases kt:i<l.length
 ·obtain⟨kb,ko,rfl,qp,lP⟩:=kF I
  obtain⟨c,oh,qw,nW⟩:=lP i kt;have t_:wr.rangeAt kb (ko+i*6) c:=fun j u hu=>by rw[lG.cell (p:=Aq kb (ko+i*6+j)) qp];exact nW j u hu
  apply G _;apply jQ i (ko+i*6) kt;apply jy t_ oh;refine jJ (z:=.agg #[Iq 0,Iq 0,Iq 0,.string ByteArray.empty,kP,kP]) (fun _=>jG) fun g2 w2 mK=>?_;apply jE (hm:=oh) mK.blk (mj.one qw);have lC:jP wr (w2.setRow g2 c.toArray):=below_setRow mK.below (by rw[mK.eq];exact aj _) _;have rh:U 25 (w2.setRow g2 c.toArray) g2 c:=mK.blk.setRow c;generalize w2.setRow g2 c.toArray=w3 at lC rh;have AA:=lG.kj lC;apply G _;apply jy (U.rangeAt rh) oh;apply jx func65 (Vl.MI (qw.below AA));rintro e w4 ⟨rfl,nk⟩;refine⟨_,rfl,?_⟩;have xD:=AA.kj nk
  by_cases h0:chk 16 (l.getD i mM)=0
  ·apply G _
   refine WQ.again (i+1) kz ⟨kt,xD,fun j hj=>(cn.1 hj).elim (lO j) (fun e=>by rw[e];exact h0)⟩ (by show l.length - (i+1)<l.length - i;omega)
  ·have vB:firstBad (l.map (chk 16))=chk 16 (l.getD i mM):=by
    rw[rC (i:=i) (by rw[aB];exact kt) (fun j hj=>by rw[r_ 16 l j I];exact lO j hj) (by rw[r_ 16 l i kt];exact h0),r_ 16 l i kt]
   apply G _;refine WQ.oU rfl rfl rfl ⟨?_,xD⟩;unfold keyOf;rw[vB,aa h0]
 ·obtain rfl:i=l.length:=I
  have vB:=uc fun j hj=>by rw[aB]at hj;rw[r_ 16 l j hj];exact lO j hj
  have hm':=hm vB;apply G _;refine WC.loop (fun i:Nat×Value=>[(7,i.2),(22,.slice sp l.length cap),(23,Iq l.length),(24,Iq i.1)])
   (fun i w'=>i.1<=l.length/\Bu w' i.2 (nC 16 (l.take i.1))/\pB w w' i.2) (fun i=>l.length - i.1) (0,kP) kz
   ⟨ay _,Bu.nil _,lG,fun g hg=>by cases hg⟩ ?_
  rintro⟨i,bb⟩ wr2 ⟨xx,lx,hap⟩;simp only at xx lx hap ⊢
  by_cases vj:i<l.length
  ·obtain⟨kb,ko,rfl,qp,lP⟩:=kF I
   obtain⟨c,oh,qw,nW⟩:=lP i vj;have t_:wr2.rangeAt kb (ko+i*6) c:=fun j u hu=>by rw[hap.below.cell (p:=Aq kb (ko+i*6+j)) qp];exact nW j u hu
   have vH:nC 16 (l.take (i+1))=nC 16 (l.take i)++keyV 16 (l.getD i mM):=by unfold nC;rw[ajy vj,an];simp
   have hle:(nC 16 (l.take (i+1))).length<=70368744177664:=aU (Jf l) hm';rw[vH,af]at hle;apply G _;apply jQ i (ko+i*6) vj;apply jy t_ oh;refine jJ (z:=.agg #[Iq 0,Iq 0,Iq 0,.string ByteArray.empty,kP,kP]) (fun _=>jG) fun g2 w2 mK=>?_;apply jE (hm:=oh) mK.blk (mj.one qw);have lC:jP wr2 (w2.setRow g2 c.toArray):=below_setRow mK.below (by rw[mK.eq];exact aj _) _;have rh:U 25 (w2.setRow g2 c.toArray) g2 c:=mK.blk.setRow c;generalize w2.setRow g2 c.toArray=w3 at lC rh;have amo:pB w w3 bb:=⟨hap.below.trans (lC.mono hap.below.size),hap.own⟩;apply G _;apply jy (U.rangeAt rh) oh;apply jx func66 (Uf 16 qw (lO i vj) (lx.below lC) amo hle);rintro e w4 ⟨b4,rfl,nk,qF⟩;refine⟨_,rfl,?_⟩;apply G _;refine WQ.again (i+1,b4) kz ⟨vj,?_,amo.grow qF⟩ (by show l.length - (i+1)<l.length - i;omega)
   show Bu w4 b4 (nC 16 (l.take (i+1)))
   rw[vH];exact nk
  ·obtain rfl:i=l.length:=I
   apply G _;apply WL.strOf rfl rfl rfl rfl rfl rfl rfl rfl lx.sl;apply G _;refine WQ.oU rfl rfl rfl ⟨?_,hap.below⟩;unfold keyOf;rw[vB,ag rfl,aN]
end K
namespace Ix
open K Tre
theorem ajg (v:V)(n:Int): K.keyOf [v,iV n]=if chk 16 v=0 then tE v n else⟨#[]⟩:=by
 unfold K.keyOf tE;have:firstBad ([v,iV n].map (chk 16))=if chk 16 v=0 then 0 else chk 16 v:=by
  show firstBad [chk 16 v,chk 16 (iV n)]=_
  rw[vu]
  by_cases h:chk 16 v=0
  ·rw[h];rfl
  ·rw[aa h]
   show(if chk 16 v=0 then _ else chk 16 v)=_
   rw[aa h]
 rw[this]
 by_cases h:chk 16 v=0
 ·rw[ag h,ag rfl,ag h]
 ·rw[aa h,aa h]
theorem alw (v:V)(n:Int): firstBad ([v,iV n].map (chk 16))=if chk 16 v=0 then 0 else chk 16 v:=by
 show firstBad [chk 16 v,chk 16 (iV n)]=_
 rw[vu]
 by_cases h:chk 16 v=0
 ·rw[h];rfl
 ·rw[aa h]
  show(if chk 16 v=0 then _ else chk 16 v)=_
  rw[aa h]
theorem ap7 {k:Nat}{v:V}(hf:U 25 w g (cu++cv))(hu:mj k w u cu)(hv:mj k w v cv): LW k w (nj g 0 2 2) [u,v]:=by
 have lu:=hu.len;refine⟨_,_,rfl,aj _,by decide,fun _=>⟨g,0,rfl,hf.lt,fun j hj=>?_⟩⟩;have hr:=U.rangeAt hf;have h2:j<2:=hj
 match j,h2 with
 | 0,_=>exact⟨cu,lu,hu,fun i x hx=>hr i x (by rw[aZ (by have:=(cP.1 hx).1;omega)];exact hx)⟩
 | 1,_=>exact⟨cv,hv.len,hv,fun i x hx=>by
   have:=hr (6+i) x (by rw[aE I,lu];rw[show 6+i - 6=i by omega];exact hx);rw[show 0+(6+i)=0+1*6+i by omega]at this;exact this⟩
theorem an6 (k:Nat)(w:World){n:Int}(hn:R6 n): mj (k+1) w (iV n) [Iq 3,Iq n,Iq 0,.string ⟨#[]⟩,kP,kP]:=(BZ (O:=fun _=>True) (k:=3) (n:=n) (s:=0) (t:=kZ) I hn I lZ).sN
theorem ago {k:Nat}{v:V}(h:mj (k+1) w v cs){n:Int}(hn:R6 n)(hk:chk 16 v=0->(nC 16 [v,iV n]).length<=2000000):
  Calls prog 60 #[.agg cs.toArray,Iq n] w fun e w'=>e=.returned (.tuple #[.string (if chk 16 v=0 then tE v n else⟨#[]⟩),.bool (decide (chk 16 v=0))])/\jP w w':=by
 obtain⟨sn,sk,rfl,ahe⟩:=id h;apply kq (args:=[.agg (mR v sn sk).toArray,Iq n]) func60 ntmps60;apply G _;refine jO fun g1 w1 ou=>?_;have B1:U 25 w1 g1 (mR v sn sk):=ou.blk;have b1:=ou.below;clear ou;apply G _;apply jy (m:=6) (U.rangeAt B1) rfl;apply G _;apply jR [Iq 3,Iq n,Iq 0,.string ⟨#[]⟩,kP,kP] jG;refine WL.Ni (mR v sn sk++[Iq 3,Iq n,Iq 0,.string ⟨#[]⟩,kP,kP]) rfl rfl rfl rfl rfl rfl jG fun g w2 hf=>?_;have b2:=b1.kj hf.below;have kF:=ap7 hf.blk (h.below b2) (an6 k w2 hn);apply jx func32 (GC kF (show(2:Nat)<=9223372036854775807 by omega) fun hc=>by
  rw[alw]at hc
  by_cases h0:chk 16 v=0
  ·have:=hk h0;omega
  ·rw[aa h0]at hc;exact(h0 hc).elim)
 rintro _ w3 ⟨rfl,b3⟩;refine⟨_,rfl,?_⟩;rw[ajg,alw];have b4:=b2.kj b3
 by_cases h0:chk 16 v=0
 ·rw[ag h0,ag h0,aw h0]
  apply G _;exact WQ.oU rfl rfl rfl ⟨rfl,b4⟩
 ·rw[aa h0,aa h0,ar h0]
  generalize chk 16 v=e at h0 ⊢;apply G _;exact WQ.oU rfl rfl rfl ⟨rfl,b4⟩
def R4 (w:World)(tb:Nat)(st:Tre.St)(L':List KV)(w':World):Prop:=∃st',xw w' st' tb L'/\Z (uL st tb w) w w'/\SU st w st'
theorem Y1 (f:lD)(n:Int)(d:V)(L:List KV): (vo f n d L).length<=L.length+1:=by
 unfold vo;cases fldR d f with
 | none=>simp
 | some v=>exact(yk L).1
theorem Ub (f:lD)(n:Int)(d:V)(L:List KV): (layOut f n d L).length<=L.length:=by
 unfold layOut;cases fldR d f with
 | none=>exact aj _
 | some v=>exact dN _ _
theorem uL.sub {st:Tre.St}{w1:World}(hb:jP w w1): ∀b,uL st tb w b->uL st tb w1 b:=fun _ kK=>⟨ao kK.1 hb.size,kK.2⟩
theorem CY (hB:B<=1000000){k:Nat}{st:Tre.St}{L:List KV}(hT:xw w st tb L)(hl:L.length<1000000000)(f:lD){n:Int}(hn:R6 n)(h:mj (k+2) w d cs)(hs:Sm B (k+2) d)(hd:chk 16 d=0)(he:(encV 16 d).length<=65536)(there:Bool):
  Calls prog 27 #[jV tb,.string f,Iq n,.agg cs.toArray,.bool there] w fun e w'=>e=.returned (.tuple #[])/\R4 w tb st (if there then vo f n d L else layOut f n d L) w':=by
 obtain⟨sn,sk,rfl,ahe⟩:=id h;apply kq (args:=[jV tb,.string f,Iq n,.agg (mR d sn sk).toArray,.bool there]) func27 ntmps27;apply G _;refine jO fun g1 w1 ou=>?_;have B1:U 25 w1 g1 (mR d sn sk):=ou.blk;have b1:=ou.below;clear ou;apply G _;apply jy (m:=6) (U.rangeAt B1) rfl;apply G _;apply jx func59 (WH hB f (h.below b1) hs);rintro _ w2 ⟨b2,ho⟩;have uV:=b1.kj b2;cases oH:fldR d f with
 | none=>
  rw[oH]at ho;simp only at ho;subst ho;refine⟨_,rfl,?_⟩;have hL:(if there then vo f n d L else layOut f n d L)=L:=by unfold vo layOut;rw[oH];cases there<;>rfl
  rw[hL];apply G _;refine jJ (z:=.agg jK.toArray) (fun _=>jG) fun g3 w3 Ed=>?_;apply jE (show U 25 w3 g3 jK from Ed.blk) (oe (fun _=>True) 0 w).one;have b3:jP w (w3.setRow g3 jK.toArray):=below_setRow (uV.kj Ed.below) (by rw[Ed.eq];exact uV.size) _;apply G _;exact WQ.aeO rfl ⟨rfl,st,hT.below b3,(Z.jw b3).mono fun b hb=>hb.1,fun x hx=>.inl hx⟩
 | some v=>
  rw[oH]at ho;obtain⟨cv,rfl,hv⟩:=ho;refine⟨_,rfl,?_⟩;have CP:=hv.len;have wC:=u6 hd oH;apply G _;refine jJ (z:=.agg jK.toArray) (fun _=>jG) fun g3 w3 Ed=>?_;apply jE (hm:=CP) (show U 25 w3 g3 jK from Ed.blk) hv.one;have b3':jP w2 (w3.setRow g3 cv.toArray):=below_setRow Ed.below (by rw[Ed.eq];exact aj _) _;have B3:=U.setRow (show U 25 w3 g3 jK from Ed.blk) cv;clear Ed;generalize w3.setRow g3 cv.toArray=w4 at b3' B3 ⊢;have hv4:=hv.sN.below b3';have EH:=uV.kj b3';apply G _;apply jy (m:=6) (U.rangeAt B3) CP;apply G _;apply kH func60 (ago hv4 hn fun _=>ae8 hd he oH n);rintro w5 b5
  rw[ag wC,aw wC];have MN:=EH.kj b5;have UP:=hT.below MN;cases there with
  | true=>
   have hL:(if true then vo f n d L else layOut f n d L)=mU (tE v n) n L:=by unfold vo;rw[oH];rfl
   rw[hL];apply G _;apply jx func61 (aaK UP (tE v n) n hl);rintro _ w6 ⟨st',rfl,h6,k6,n6⟩;refine⟨_,rfl,?_⟩;apply G _;exact WQ.GN rfl ⟨rfl,st',h6,((Z.jw MN).mono fun b hb=>hb.1).trans (k6.mono (uL.sub MN)),fun x hx=>(n6 x hx).imp id fun h=>by have:=MN.size;omega⟩
  | false=>
   have hL:(if false then vo f n d L else layOut f n d L)=nP (tE v n) L:=by unfold layOut;rw[oH];rfl
   rw[hL];apply G _;apply jx func62 (aa1 UP (tE v n) hl);rintro _ w6 ⟨st',rfl,h6,k6,n6⟩;refine⟨_,rfl,?_⟩;apply G _;exact WQ.GN rfl ⟨rfl,st',h6,((Z.jw MN).mono fun b hb=>hb.1).trans (k6.mono (uL.sub MN)),fun x hx=>(n6 x hx).imp id fun h=>by have:=MN.size;omega⟩
open K Tre
open Vw (Rw kE ni rD nw lA ln nu nv zU)
theorem adM {st:Tre.St}(hk:Z (uL st tb w) w w')(hB:B<=w.heap.size)(ht:B<=tb)(p5:∀x,st x≠none->B<=x): Below B w w' :=
 (hk.mono fun x (hx:x<B)=>⟨ao hx hB,by
  cases e:st x with
  | none=>rfl
  | some nd=>have:=p5 x (by rw[e];simp);omega,I⟩:Z (fun x=>x<B) w w').below
theorem ahl {st st':Tre.St}(h:SU st w st')(hB:B<=w.heap.size)(p5:∀x,st x≠none->B<=x): ∀x,st' x≠none->B<=x:=fun x hx=>(h x hx).elim (p5 x) fun h=>aU hB h
structure XI (l:List Rw):Prop where
 ok:∀r∈l,R6 r.doc/\chk 16 r.data=0/\(encV 16 r.data).length<=65536/\Rg r.data
 OR:l.Pairwise fun a b=>a.doc<b.doc
theorem VP {l:List Rw}(h:XI l): Gd (vW l):=⟨fun n d e=>by
 unfold vW at e;cases hq:l.find? fun r=>decide (r.doc=n) with
 | none=>rw[hq]at e;cases e
 | some r=>
  rw[hq]at e;cases e
  have h1:=dQ hq;have h2:=iO hq;have h2:r.doc=n:=by simpa using h2
  obtain⟨a1,a2,-,a4⟩:=h.ok r h1;exact⟨by rw[<-h2];exact a1,a2,a4⟩⟩
theorem XI.take {l:List Rw}(h:XI l)(i:Nat): XI (l.take i):=⟨fun r hr=>h.ok r (bP hr),h.OR.sublist (ir i l)⟩
theorem WW {l:List Rw}(h:XI l)(hi:i<l.length){L:List KV}(hL:sV f (vW (l.take i)) L): sV f (vW (l.take (i+1))) (vo f (l.getD i kE).doc (l.getD i kE).data L):=by
 have kF:l.take (i+1)=l.take i++[l.getD i kE]:=by rw[aK,ai hi,Vw.lR hi];rfl
 obtain⟨a1,a2,-,a4⟩:=h.ok (l.getD i kE) (by rw[Vw.lR hi];exact aH hi);have j6:∀x∈l.take i,x.doc<(l.getD i kE).doc:=fun x hx=>by
  have hp:=h.OR.sublist (ir (i+1) l);rw[kF,eZ]at hp;exact hp.2.2 x hx _ jM
 obtain⟨s1,s2⟩:=Mm j6;rw[kF];exact(hL.put (VP (h.take i)) a1 a2 a4 s2).congr s1
abbrev BX:=Nat×Tre.St×List KV
theorem N1 {k:Nat}{v:Value}{l:List Rw}(h:m6 14 kE (ni D (k+2) w) O w v l)(hO:XI l)(hl:l.length<=1000000)(f:lD):
  Calls prog 29 #[v,.string f] w fun e w'=>∃tb st L,e=.returned (jV tb)/\xw w' st tb L/\sV f (vW l) L/\L.length<=l.length/\jP w w'/\w.heap.size<=tb/\∀x,st x≠none->w.heap.size<=x:=by
 obtain⟨sp,cap,rfl,vN,rE,-⟩:=id h;apply kq (args:=[.slice sp l.length cap,.string f]) func29 ntmps29;apply G _;apply jx func64 abw;rintro _ w1 ⟨tb,rfl,A0,b1,tR⟩;refine⟨_,rfl,?_⟩;apply G _;refine WC.loop (fun x:BX=>[(0,.slice sp l.length cap),(1,.string f),(5,jV tb),(9,.slice sp l.length cap),(10,Iq (l.length:Nat)),(11,Iq x.1)])
  (fun x w'=>x.1<=l.length/\jP w w'/\xw w' x.2.1 tb x.2.2/\sV f (vW (l.take x.1)) x.2.2/\x.2.2.length<=x.1/\∀y,x.2.1 y≠none->w.heap.size<=y) (fun x=>l.length - x.1) (0,qP,[]) kz
  ⟨ay _,b1,A0,by rw[cj];exact sV.nil,aj _,fun y hy=>absurd rfl hy⟩ ?_
 clear A0 b1;rintro⟨i,st,L⟩ w2 ⟨hi,b2,hT,hL,hn,p5⟩;simp only at hi hT hL hn p5
 by_cases uU:i<l.length
 case neg=>
  obtain rfl:i=l.length:=I;rw[aN]at hL;apply G _;exact J ⟨tb,st,L,rfl,hT,hL,hn,b2,tR,p5⟩
 case pos=>
 obtain⟨b9,o9,qu,dc,es,sw,-,R9,qO,ok,sm⟩:=nw h uU;obtain⟨rfl,rfl⟩:sp=some (Aq b9 o9)/\cap=qu:=by simpa using es
 clear es;have vH:=WW hO uU hL;obtain⟨a1,a2,a3,a4⟩:=hO.ok (l.getD i kE) (by rw[Vw.lR uU];exact aH uU);have Ar:=Y1 f (l.getD i kE).doc (l.getD i kE).data L;generalize l.getD i kE=r at R9 qO ok sm vH a1 a2 a3 a4 Ar;have R2:=R9.below (Z.jw b2) sw;have lM:=qO.len;have x3:=R2.all;have z2:=b2.size;apply G _;apply jQ i (o9+i*14) uU;apply jy x3 (ln lM);refine jJ (z:=.agg (lA kE jK).toArray) (fun _=>jG) fun g8 wc f9=>?_;apply jE (hm:=(ln lM)) f9.blk (nu qO.one);obtain⟨v8,b3,-,-⟩:=nv (lA r dc) (Below.refl w2.heap.size w2) f9;generalize wc.setRow g8 _=w3 at v8 b3 ⊢;clear f9;have bw:=b2.trans (b3.mono z2);have z3:=b3.size;have hT3:=hT.below b3;have hv:=qO.jA (Z.jw bw) (fun _ _ hl=>hl) (fun _ h=>h);have A8:=rD.of (U.rangeAt v8) lM;have c8:=A8.doc;simp only[bA]at c8;apply jF _;apply jy (m:=6) A8.data lM;apply kH func27 (CY (B:=3000) I hT3 I f a1 hv.sN sm a2 a3 true);rintro w4 ⟨st',hT4,pA,hn4⟩
 have hm:w.heap.size<=w3.heap.size:=I;apply G _;exact WQ.again (i+1,st',vo f r.doc r.data L) kz ⟨uU,bw.trans (adM pA hm tR p5),hT4,vH,by show(vo f r.doc r.data L).length<=i+1;omega,ahl hn4 hm p5⟩ (by show l.length - (i+1)<l.length - i;omega)
end Ix
namespace Ix
open K
open Cat (uF nV m_ Tb ku kM wZ)
open Vw (St Rw kE ni rD nw lA ln nu nv zU rO tf Inv j9 uJ Ng)
abbrev tbT:Nat:=98
abbrev ixT:Nat:=100
theorem Ms {tv:Value}{L:List Tb}{k:Nat}(h:uF tbT ixT w O tv L)(hk:k<L.length):
  ∃g cap sp c,tv=nj g 0 L.length cap/\g<w.heap.size/\O g/\w.rangeAt g (0+k*4) [Iq ((k:Int)+1),.string (L.getD k ku).name,.bool (L.getD k ku).dropped,.slice sp (L.getD k ku).fs.length c]/\
   jY ixT 1 w O (.slice sp (L.getD k ku).fs.length c) (L.getD k ku).fs.length ((L.getD k ku).fs.map Value.string):=by
 obtain⟨cells,h1,h2⟩:=h;obtain⟨g,cap,e,-,-,hg,hO,x0,x1,x2,sp,c,x3,x4⟩:=Cat.oD h1 hk (h2 k hk);refine⟨g,cap,sp,c,e,hg,hO,fun i v hv=>?_,x4⟩;have:i<4:=(cP.1 hv).1
 match i,this with
 | 0,_=>cases hv;rw[show 0+k*4+0=k*4 by omega];exact x0
 | 1,_=>cases hv;rw[show 0+k*4+1=k*4+1 by omega];exact x1
 | 2,_=>cases hv;rw[show 0+k*4+2=k*4+2 by omega];exact x2
 | 3,_=>cases hv;rw[show 0+k*4+3=k*4+3 by omega];exact x3
theorem ab5 {s:St}{t:Int}{r:Rw}(h:r∈tf s t): r∈s.rows/\r.m5=t:=by
 unfold Vw.tf at h;obtain⟨i,-,h2⟩:=aG.1 h;have h3:=cg.1 h2;exact⟨h3.1,congrArg Prod.fst (aR h3.2)⟩
theorem QD {s:St}(hi:Inv s){r:Rw}(h:r∈s.rows): r∈tf s r.m5/\1<=r.m5/\r.m5<=s.cat.length:=by
 have h1:=hi.doc r h;have h2:=hi.m5 r h;refine⟨?_,?_⟩
 ·unfold Vw.tf
  refine aG.2 ⟨(r.doc - 1).toNat,bX.2 I,cg.2 ⟨h,aw ?_⟩⟩;exact eO rfl (by show r.doc=_;omega)
 ·unfold Cat.kM at h2
  split at h2
  ·rename_i q;exact q
  ·cases h2
def R5 (s:St)(a:Int×Int)(x:Nat):Prop:=∀t:Nat,t<x->∀r∈tf s ((t:Int)+1),r.nD≠a
theorem ajc {s:St}(hi:Inv s)(h:R5 s a s.cat.length): atR s a=none:=by
 unfold atR;have:s.rows.find? (fun r=>decide (r.nD=a))=none:=by
  rw[dL];intro r hr;obtain⟨h1,h2,h3⟩:=QD hi hr;have:=h (r.m5 - 1).toNat I r (by rw[show(((r.m5 - 1).toNat:Nat):Int)+1=r.m5 by omega];exact h1)
  simpa using this
 rw[this]
 rfl
theorem agz {s:St}(hi:Inv s){tt:Int}{r:Rw}(h:r∈tf s tt)(ha:r.nD=a): atR s a=some r.key:=by
 unfold atR;rw[<-ha,Qr hi.rF (ab5 h).1]
 rfl
abbrev zC:Nat:=78
def atV:Option (Int×Int)->Value
 | some k=>.tuple #[.agg #[Iq k.1,Iq k.2],.bool true]
 | none=>.tuple #[.agg #[Iq 0,Iq 0],.bool false]
theorem aeG {f:Nat}{s:St}(h0:rO w vb M D f s N)(hN:N<=100000)(hi:Inv s)(a:Int×Int):
  Calls prog 23 #[jV vb,.agg #[Iq a.1,Iq a.2]] w fun e w'=>e=.returned (atV (atR s a))/\jP w w':=by
 apply kq func23 ntmps23;apply G _;refine jO fun g3 w1 f1=>?_;have v3:U 74 w1 g3 [Iq a.1,Iq a.2]:=f1.blk;have b1:=f1.below;have z1:=f1.size;clear f1;refine jJ (z:=.agg #[Iq 0,Iq 0]) (fun _=>jG) fun g4 w2 f2=>?_;have v4:U zC w2 g4 [Iq 0,Iq 0]:=f2.blk;have b2:=b1.kj f2.below;replace v3:=U.below v3 f2.below (U.lt v3);have e4:=f2.eq;have qF:w.heap.size<=g4:=by have:=b1.size;omega
 clear f2 b1;apply G _;have h2:=h0.below b2;obtain⟨cp,Oc,mr,md,mp,mn,k,F,hp⟩:=id h2;apply kH func24 (uJ hp);rintro _ rfl
 apply jx func28 (wZ hp.cat);rintro _ w3 ⟨sp,cap,rfl,hT,b3⟩;refine⟨_,rfl,?_⟩;clear hp;have QM:=U.below v3 b3 (U.lt v3);have v4':=U.below v4 b3 (U.lt v4);have Io:=b2.kj b3;have h3:=h2.below b3;have hlen:s.cat.length<=64:=by obtain⟨_,_,_,_,_,_,_,_,hp⟩:=h3;obtain⟨_,_,_,-,-,-,-,-,-,-,hg⟩:=hp.cat;exact hg.len
 clear h2 v3 v4 b2 b3;apply G _;refine WC.loop (fun x:Nat=>[(0,jV vb),(3,jV g3),(4,jV g4),(5,.bool false),(12,.slice sp s.cat.length cap),(13,Iq (s.cat.length:Nat)),(14,Iq x)])
  (fun x w'=>x<=s.cat.length/\jP w3 w'/\R5 s a x) (fun x=>s.cat.length - x) 0 kz
  ⟨ay _,Below.refl _ _,fun t ht=>by omega⟩ ?_
 rintro i w4 ⟨uU,b4,hny⟩;have v34:=U.below QM b4 (U.lt QM);have v44:=U.below v4' b4 (U.lt v4')
 by_cases xx:i<s.cat.length
 case neg=>
  obtain rfl:i=s.cat.length:=I;rw[ajc hi hny];apply G _;apply jR [Iq 0,Iq 0] jG;apply WL.o7 rfl rfl rfl rfl rfl rfl v44 rfl rfl (by intro u hu;simp at hu;rw[hu];rfl);have b5:jP w (w4.setRow g4 [Iq 0,Iq 0].toArray):=below_setRow (Io.kj b4) qF _;have v5:=U.setRow v44 [Iq 0,Iq 0];generalize w4.setRow g4 _=w5 at b5 v5 ⊢;apply G _;exact WQ.xG rfl rfl rfl rfl rfl v5 ⟨rfl,b5⟩
 case pos=>
 obtain⟨gt,OH,F7,cf,es,lg,-,ly,-⟩:=Ms hT xx;obtain⟨rfl,rfl⟩:sp=some (Aq gt 0)/\cap=OH:=by simpa using es
 clear es;replace ly:w4.rangeAt gt (0+i*4) _:=fun j v hv=>by rw[b4.cell (p:=Aq gt (0+i*4+j)) lg];exact ly j v hv
 apply G _;apply jQ i (0+i*4) xx;apply jy ly rfl;refine jJ (z:=.agg #[Iq 0,.string ByteArray.empty,.bool false,kP]) (fun _=>jG) fun g7 w5 f5=>?_;have b5:=f5.below;have z5:=f5.eq;have v7:U tbT w5 g7 [Iq 0,.string ByteArray.empty,.bool false,kP]:=f5.blk;clear f5;refine WL.o7 rfl rfl rfl rfl rfl rfl v7 rfl rfl (by intro u hu;simp at hu;rcases hu with rfl|rfl|rfl|rfl<;>rfl) ?_;have WM:=U.setRow v7 [Iq ((i:Int)+1),.string (s.cat.getD i ku).name,.bool (s.cat.getD i ku).dropped,.slice F7 (s.cat.getD i ku).fs.length cf];have CL:jP w4 (w5.setRow g7 [Iq ((i:Int)+1),.string (s.cat.getD i ku).name,.bool (s.cat.getD i ku).dropped,.slice F7 (s.cat.getD i ku).fs.length cf].toArray):=below_setRow b5 I _;generalize w5.setRow g7 _=w6 at WM CL ⊢;clear v7 b5;have z4:=b4.size;have b6:=b4.trans (CL.mono z4);have c7:=WM.cell 0 jM;simp only[al]at c7;apply jF _;apply jx func55 (Ng (h3.below b6) hN (t:=(i:Int)+1) ⟨I,I⟩);rintro _ w7 ⟨b7,v,rfl,mL⟩;refine⟨_,rfl,?_⟩;have b37:=b6.kj b7;clear v34 v44 ly WM c7 b6 CL b4 b7;have hNx:∀j,j<=(tf s ((i:Int)+1)).length->(∀r∈(tf s ((i:Int)+1)).take j,r.nD≠a)->j=(tf s ((i:Int)+1)).length->R5 s a (i+1):=fun j _ h1 h2 t ht r hr=>by
  by_cases e:t=i
  ·subst e;subst h2;rw[aN]at h1;exact h1 r hr
  ·exact hny t I r hr
 have hye:∀r∈tf s ((i:Int)+1),r.nD=a->atR s a=some r.key:=fun r hr ha=>agz hi hr ha;have hHl:(tf s ((i:Int)+1)).length<=9223372036854775807:=by obtain⟨_,_,_,h1,h2,-⟩:=id mL;omega
 generalize tf s ((i:Int)+1)=H at mL hNx hye hHl;obtain⟨sph,cph,rfl,-,-,-⟩:=id mL;apply G _;refine WC.loop (fun x:Nat=>[(0,jV vb),(3,jV g3),(4,jV g4),(5,.bool false),(12,nj gt 0 s.cat.length cap),(13,Iq (s.cat.length:Nat)),(14,Iq i),(21,.slice sph H.length cph),(22,Iq (H.length:Nat)),(23,Iq x)])
  (fun x w'=>x<=H.length/\jP w7 w'/\∀r∈H.take x,r.nD≠a) (fun x=>H.length - x) 0 kz
  ⟨ay _,Below.refl _ _,fun r hr=>by simp at hr⟩ ?_
 rintro j w8 ⟨zA,b8,hnj⟩;have b38:=b37.kj b8
 by_cases ub:j<H.length
 case neg=>
  obtain rfl:j=H.length:=I;apply G _;exact WQ.again (i+1) kz ⟨xx,b38,hNx _ zA hnj rfl⟩ (by show s.cat.length - (i+1)<s.cat.length - i;omega)
 case pos=>
 obtain⟨b9,o9,qu,dc,es,sw,-,R9,qO,ok,sm⟩:=nw mL ub;obtain⟨rfl,rfl⟩:sph=some (Aq b9 o9)/\cph=qu:=by simpa using es
 clear es;have kF:H.take (j+1)=H.take j++[H.getD j kE]:=by rw[aK,ai ub,Vw.lR ub];rfl
 have akO:=hye (H.getD j kE) (by rw[Vw.lR ub];exact aH ub);generalize H.getD j kE=r at R9 qO ok sm kF akO;have R2:=R9.below (Z.jw b8) sw;have lM:=qO.len;have x3:=R2.all;have v38:=U.below QM b38 (U.lt QM);have IP:=U.below v4' b38 (U.lt v4');apply G _;apply jQ j (o9+j*14) ub;apply jy x3 (ln lM);refine jJ (z:=.agg (lA kE jK).toArray) (fun _=>jG) fun g9 wc f9=>?_;apply jE (hm:=(ln lM)) f9.blk (nu qO.one);obtain⟨v9,bx,-,-⟩:=nv (lA r dc) (Below.refl w8.heap.size w8) f9;generalize wc.setRow g9 _=w9 at v9 bx ⊢;clear f9;have A9:=rD.of (U.rangeAt v9) lM;have x1:=A9.blk;have x2:=A9.pH;have x4:=A9.m5;have x5:=A9.doc;simp only[bA]at x1 x2 x4 x5;replace v38:=U.below v38 bx (U.lt v38);replace IP:=U.below IP bx (U.lt IP);have b39:=b38.kj bx;have Vx:=b8.kj bx;have y1:=v38.cell 0 jM;have y2:=v38.cell 1 jM;simp only[al,aA]at y1 y2
 by_cases q1:r.blk=a.1
 ·by_cases q2:r.pH=a.2
  ·rw[akO (eO q1 q2)]
   apply jF _;apply jR [Iq r.m5,Iq r.doc] jG;refine WL.o7 rfl rfl rfl rfl rfl rfl IP rfl rfl (by intro u hu;simp at hu;rcases hu with rfl|rfl<;>rfl) ?_;have bf:jP w (w9.setRow g4 [Iq r.m5,Iq r.doc].toArray):=below_setRow (Io.kj b39) qF _;have vf:=U.setRow IP [Iq r.m5,Iq r.doc];generalize w9.setRow g4 _=wz at bf vf ⊢;apply G _;exact WQ.xG rfl rfl rfl rfl rfl vf ⟨rfl,bf⟩
  ·apply jF _
   refine WQ.again (j+1) kz ⟨ub,Vx,fun r' Xq=>?_⟩ (by show H.length - (j+1)<H.length - j;omega);rw[kF]at Xq;rcases au.1 Xq with h|h
   ·exact hnj r' h
   ·obtain rfl:=bn.1 h
    exact fun e=>q2 (congrArg Prod.snd e)
 ·apply jF _
  refine WQ.again (j+1) kz ⟨ub,Vx,fun r' Xq=>?_⟩ (by show H.length - (j+1)<H.length - j;omega);rw[kF]at Xq;rcases au.1 Xq with h|h
  ·exact hnj r' h
  ·obtain rfl:=bn.1 h
   exact fun e=>q1 (congrArg Prod.fst e)
end Ix
namespace K
variable {n:NN}{Q:Exit->Act->World->Prop}{l:Env}{w w':World}{ops:Array Oper}{o:Oper}{rest:List Oper}{d:Nat}
theorem QS {r:Option Nat}{P:Program}{c:Code}{a:Act}(h:cw (some r) P c Q a w): c.wpIn (FF r) m P Q a w:=fun b k cs h1 h2 _=>h b k cs h1 h2 (fun d hd=>by cases hd)
theorem aew {f:FuncId}{fn:Func}{c:Code}{n:Nat}(hf:prog.funcs[f]? = some fn)(hb:fn.body=some c)(hn:fn.ntmps=n)(hs:Nat.ble args.length n=true)(h:WC ⟨n,[],some none⟩ c (bodyPost prog fn R) (argsEnv 0 args) w): CallsIn Fence.wide 1 prog f args.toArray w R:=by
 refine callsIn_of_wp hf hb trivial (QS (r:=none) (h.go _ ?_));subst hn;have RE:args.length<=fn.ntmps:=fU hs;refine⟨by simp;omega,rfl,fun k v hk=>?_⟩;obtain⟨-,h2⟩:=BM _ _ _ _ hk;rw[iF]at h2;have j6:k<args.length:=by
  rcases aW k args.length with h|h
  ·exact h
  ·rw[aM h]at h2;cases h2
 rw[e_ (by simpa using j6)]
 simpa using h2
theorem WL.yield {k:Nat}{lp:Nat}{x:Operand}{args:List Operand}{ts:Array TypeId}{vs:kL}(hg:o.guard=none)(hd:o.dst=some d)(hn:Nat.blt d k=true)(ho:o.op=.call { callee:=.value x,args:=args.toArray,argTypes:=ts })(hx:kS l x=some (.func (.yield lp) #[] #[]))(hv:evlAll l args=some vs)(hy:YieldAt Fence.wide 0 prog lp vs.toArray w R)(h:∀e w',R e w'->∃v,e=.returned v/\WL ⟨k,ds,some none⟩ ops Q rest ((d,v)::l) w'): WL ⟨k,ds,some none⟩ ops Q (o::rest) l w :=
 ⟨fun a ha=>by
  refine ab_ hg ?_ hy fun e w2 hh=>?_
  ·unfold execOp
   rw[ho];have e0:=xA ha hv;have e1:(args.toArray.map a.eval)=vs.toArray:=by rw[cO,e0]
   have e2:=ha.eval hx;simp[resolve,e1,e2,Deferred.ofValue,invoke]
  ·obtain⟨v,rfl,hwl⟩:=h e w2 hh
   exact⟨v,rfl,by rw[hd];exact hwl.go _ (ha.put hn v)⟩⟩
theorem BR {K:Nat->Prop}{a:World}(h:Z K a w)(hg:¬K g)(cs:Array Value): Z K a (w.setRow g cs):=
 ⟨h.os,h.tape,h.output,by simpa using h.size,fun k hk=>(setRow_other w g k cs (fun e=>hg (e ▸ hk))).trans (h.block k hk)⟩
def mark (D:Nat):Deferred:={ target:=.collected D,args:=#[]}
def shut:List Nat->World->World
 | [],w=>w
 | D::r,w=>shut r (w.putObj D (.deferred none))
theorem FB:∀(Ds:List Nat) (w:World),Z (fun b=>b ∉ Ds) w (shut Ds w)
 | [],w=>Z.refl _ w
 | D::r,w=>by
  have h1:Z (fun b=>b ∉ D::r) w (w.putObj D (.deferred none)):=⟨rfl,rfl,rfl,jM,fun k hk=>fH (by intro e;subst e;exact hk jM)⟩;exact h1.trans ((FB r _).mono fun b hb=>by intro h;exact hb (by simp[h]))
def H4 (w:World)(Ds:List Nat):Prop:=Ds.Nodup/\∀D∈Ds,w.heap[D]? = some (.deferred (some []))
def afE (fn:Func)(R:Ending->World->Prop):Exit->Act->World->Prop
 | .normal,a,w | .ret,a,w=>∃Ds:List Nat,a.defers=Ds.map mark/\H4 w Ds/\∃v,(results fn a.tmps).run prog (shut Ds w)=.ok v (shut Ds w)/\R (.returned v) (shut Ds w)
 | _,_,_=>False
theorem Al {fn:Func}{tmps:Array Value}{R:Ending->World->Prop}:∀(Ds:List Nat) (w:World),H4 w Ds->(∃v,(results fn tmps).run prog (shut Ds w)=.ok v (shut Ds w)/\R (.returned v) (shut Ds w))->
  LeavesInM Fence.wide 1 prog fn tmps R (Ds.map mark) .returning w
 | [],_,_,h=>h
 | D::r,w,hm,h=>by
  refine⟨jM,.inl ⟨D,_,rfl,run_takeDeferred (hm.2 D jM),?_⟩⟩;refine Al r _ ⟨(bB.1 hm.1).2,fun E hE=>?_⟩ h;have mE:D≠E:=fun e=>(bB.1 hm.1).1 (e ▸ hE);exact(fH (fun e=>mE e.symm)).trans (hm.2 E (by simp[hE]))
theorem ajh {f:FuncId}{fn:Func}{c:Code}{n:Nat}(hf:prog.funcs[f]? = some fn)(hb:fn.body=some c)(hn:fn.ntmps=n)(hs:Nat.ble args.length n=true)(h:WC ⟨n,[],none⟩ c (afE fn R) (argsEnv 0 args) w): Calls prog f args.toArray w R:=by
 refine(js (n:=1)).1 (callsIn_of_wp_marks hf hb trivial (wpIn_wide.2 (Code.wp_mono (fun e a w q=>?_) (h.go _ ?_))))
 ·cases e with
  | normal=>obtain⟨Ds,h1,h2,h3⟩:=q;show LeavesInM _ _ _ _ _ _ a.defers _ _;rw[h1];exact Al Ds _ h2 h3
  | ret=>obtain⟨Ds,h1,h2,h3⟩:=q;show LeavesInM _ _ _ _ _ _ a.defers _ _;rw[h1];exact Al Ds _ h2 h3
  | exit id=>exact q
  | goto l=>exact q
  | panic ch=>exact q.elim
  | outgrown=>exact q.elim
 subst hn;have RE:args.length<=fn.ntmps:=fU hs;refine⟨by simp;omega,rfl,fun k v hk=>?_⟩;obtain⟨-,h2⟩:=BM _ _ _ _ hk;rw[iF]at h2;have j6:k<args.length:=by
  rcases aW k args.length with h|h
  ·exact h
  ·rw[aM h]at h2;cases h2
 rw[e_ (by simpa using j6)]
 simpa using h2
section
variable {fn:Func}{R:Ending->World->Prop}{kn:Nat}{md:Option (Option Nat)}
theorem WQ.apc {t:Nat}{v:Value}(Ds:List Nat)(hr:fn.results=#[.tmp t])(hl:look l t=some v)(hm:H4 w Ds)(h:R (.returned v) (shut Ds w)): WQ ⟨kn,Ds.map mark,md⟩ (afE fn R) .ret l w :=
 ⟨fun a ha=>⟨Ds,ha.defers,hm,v,by have:=ha.getD hl;simp only[cq]at this;simp[results,hr,this],h⟩⟩
end
def ZM:List (Tmp×Value)->Env->Env
 | [],l=>l
 | (p,v)::r,l=>ZM r ((p,v)::l)
theorem Fr.zip {a:Act}{md W7:Option (Option Nat)}: ∀(pv:List (Tmp×Value)) (tmps:Array Value) (l:Env),(∀p∈pv,Nat.blt p.1 kn=true)->Fr ⟨kn,ds,md⟩ { a with tmps:=tmps } l->
  Fr ⟨kn,[],W7⟩ { tmps:=pv.foldl (fun t (p,v)=>t.setIfInBounds p v) tmps,defers:=[]} (ZM pv l)
 | [],tmps,l,_,h=>⟨h.size,rfl,h.slot⟩
 | (p,v)::r,tmps,l,hp,h=>by
  have h1:=h.put (hp _ (cL ..)) v;exact Fr.zip (a:=a) r _ _ (fun q hq=>hp q (by simp[hq])) ⟨h1.size,h1.defers,h1.slot⟩
def Cg (T:Nat)(W W':World):Prop:=∀(b:Nat) cur x,W.heap[b]? = some (.cells cur T x)->W'.heap[b]? = W.heap[b]?
theorem Cg.trans {A B C:World}(h:Cg T A B)(k:Cg T B C): Cg T A C:=fun b cur x hb=>by
 have h1:=h b cur x hb;exact(k b cur x (h1.trans hb)).trans h1
theorem Cg.refl (T:Nat)(W:World): Cg T W W:=fun _ _ _ _=>rfl
theorem Cg.put {l:Nat}{o:Obj}(o':Obj)(h:W.heap[l]? = some o)(ho:o.isCells=false): Cg T W (W.putObj l o'):=fun b cur x hb=>
 fH (by intro e;subst e;rw[h]at hb;obtain rfl:=az hb;cases ho)
theorem Cg.jA {K:Nat->Prop}(hk:Z K W W')(hK:∀(b:Nat) cur x,W.heap[b]? = some (.cells cur T x)->K b): Cg T W W':=fun b cur x hb=>hk.block b (hK b cur x hb)
theorem YG {K:Nat->Prop}(hk:Z K W W')(hK:∀b o,B<=b->W.heap[b]? = some o->o.isCells=false->K b): KeepsFrom B W W' :=
 ⟨hk.size,fun k o hB hko ho=>(hk.block k (hK k o hB hko ho)).trans hko⟩
theorem DC {row:Option Nat}(h:W.grownBy W' row): Z (fun b=>b<W.heap.size/\some b≠row) W W':=⟨h.os,h.tape,h.output,h.size,fun k hk=>h.block k hk.1 hk.2⟩
theorem CI (h:Below B W W')(hB:W.heap.size<=B)(row:Option Nat): W.grownBy W' row:=⟨h.os,h.tape,h.output,h.size,fun k hk _=>h.block k I⟩
theorem WC.aiP {g:Operand}{ps:List Tmp}{assign body:Code}{gf:Nat}{lb:Array Value}{VA:α->List Value}{S Sp:List α->Prop}(hg:kS l g=some (.func (.func gf) #[] lb))(eg:∀args w,(callFunc gf args).run prog w=.ok (.enter gf args) w)(auq:SeqStopsK Fence.wide 1 prog gf lb (fun x=>(VA x).toArray) (Cg T) S Sp N w)(pk:∀x,(VA x).length=ps.length)(hpn:ps.all (fun p=>Nat.blt p kn)=true)(aEV:List α->World->Prop)(Ix:Code->List α->World->Prop)(hI:OwnFrom w.heap.size aEV)(hIx:∀c,OwnFrom w.heap.size (Ix c))(h0:aEV [] w)(L1:α->Env)(afS:∀(lp:Nat) (x:α) (W:World),WC ⟨kn,[],some (some lp)⟩ assign (Exit.then (Zw ⟨kn,[],some (some lp)⟩ (fun _:Unit=>L1 x) (fun _ W'=>W'=W)) (fun _ _ _=>False)) (ZM (ps.zip (VA x)) l) W)(X5:∀(lp:Nat) (pre:List α) (x:α) (W:World),w.heap.size<=lp->(∃r,W.heap[lp]? = some (.loop r))->aEV pre W->pre.length<N->WC ⟨kn,[],some (some lp)⟩ body (ownPostG w.heap.size (Cg T) aEV Ix (pre++[x]) W) (L1 x) W)(Sd:∀(D:Nat) (xs:List α) (W:World),w.heap.size<=D->S xs->aEV xs W->W.heap[D]? = some (.deferred (some []))->WQ ⟨kn,mark D::ds,none⟩ Q .normal l W)(ap1:∀(D:Nat) (c:Code) (pre:List α) (W:World),w.heap.size<=D->Sp pre->Ix c pre W->W.heap[D]? = some (.deferred (some []))->WC ⟨kn,mark D::ds,none⟩ c Q l W):
  WC ⟨kn,ds,none⟩ (.rangeFunc g ps.toArray assign body) Q l w:=by
 refine⟨fun a ha=>(wpIn_wide (n:=2)).1 ?_⟩;refine wpIn_rangeFunc_ownH (F:=Fence.wide) rfl (by omega) (ha.eval hg) trivial eg auq Cg.trans (fun W l o o' _ hl hc _=>Cg.put o' hl hc) (Below.refl _ _) (fun x=>by simp[pk x]) aEV Ix hI hIx h0
  (fun x a' _=>Fr ⟨kn,[],none⟩ a' (L1 x)) (fun _ _ _ _ _ _ h _ _=>h) ?_ ?_ ?_ ?_
 ·intro lp pre x W K hi hK
  have hz:Fr ⟨kn,[],some (some lp)⟩ { tmps:=(ps.toArray.zip (VA x).toArray).foldl (fun t (p,v)=>t.setIfInBounds p v) a.tmps,defers:=[]} (ZM (ps.zip (VA x)) l):=by
   rw[List.zip_toArray];simp only[List.foldl_toArray'];refine Fr.zip (a:=a) (md:=none) (ds:=ds) _ _ _ (fun p hp=>?_) ⟨ha.size,ha.defers,ha.slot⟩;have:=bY.1 hpn p.1 (List.of_mem_zip hp).1;exact this
  have h1:=QS (m:=0) ((afS lp x W).go _ hz);refine Go.wpIn_mono h1 fun e a' W' q=>?_;cases e with
  | normal=>
   obtain⟨_,hf,rfl⟩:=q;exact hK _ _ (KeepsFrom.refl _ _) (Cg.refl _ _) hi ⟨hf.size,hf.defers,hf.slot⟩
  | exit id=>exact q
  | goto l=>exact q
  | ret=>exact q
  | panic ch=>exact q
  | outgrown=>exact q
 ·intro lp pre x a' W hlp hr hi hf hlen
  exact QS (m:=0) ((X5 lp pre x W hlp hr hi hlen).go _ ⟨hf.size,hf.defers,hf.slot⟩)
 ·intro D xs W hD hS hi hk
  exact(Sd D xs W hD hS hi hk).go _ ⟨ha.size,by show mark D::a.defers=_;rw[ha.defers],ha.slot⟩
 ·intro D c pre W hD hS hi hk
  exact wpIn_wide.2 ((ap1 D c pre W hD hS hi hk).go _ ⟨ha.size,by show mark D::a.defers=_;rw[ha.defers],ha.slot⟩)
end K
namespace K
variable {n:NN}{kn:Nat}{ds:List Deferred}{Q:Exit->Act->World->Prop}{l:Env}{w w':World}{ops:Array Oper}{o:Oper}{rest:List Oper}{d fuel:Nat}{jI:Array Bool}
end K
namespace K
variable {n:NN}{Q:Exit->Act->World->Prop}{l:Env}{w w':World}{ops:Array Oper}{o:Oper}{rest:List Oper}{d:Nat}
def IsC (w:World)(b:Nat):Prop:=∃cur T x,w.heap[b]? = some (.cells cur T x)
theorem U.WO {T:TypeId}{l:kL}(h:U T w b l): IsC w b:=⟨_,_,_,h⟩
theorem kC.WO {e:TypeId}{z:α}{P:α->kL->Prop}{v:Value}{l:List α}(h:kC e m z P O w v l)(hg:v.ownBlock=some g): ∃cur x,w.heap[g]? = some (.cells cur e x):=by
 obtain⟨mZ,h1,h2,h3,h4,h5⟩:=h;rcases h3.2 with⟨rfl,-⟩|⟨g',cap,cur,rfl,hb,Xz,hr⟩
 ·cases hg
 ·injection hg with hg
  subst hg;exact⟨cur,_,Xz⟩
def aeQ (B:Nat)(w:World)(b:Nat):Prop:=(b<B/\b<w.heap.size)\/IsC w b
theorem YU {β:Type}{aEV:β->World->Prop}(h:∀s W W',aEV s W->Z (aeQ B W) W W'->aEV s W'): OwnFrom B aEV:=fun s W W' row hs hg hr=>by
 refine h s W W' hs ((DC hg).mono fun b hb=>?_);rcases hb with⟨h1,h2⟩|⟨cur,T,x,h1⟩
 ·exact⟨h2,fun e=>by have:=(hr b e.symm).1;omega⟩
 ·refine⟨(fi.1 h1).1,fun e=>?_⟩
  obtain⟨-,ob,h2,h3⟩:=hr b e.symm;rw[h1]at h2;obtain rfl:=az h2;cases h3
theorem ack {Ds:List Nat}(hm:H4 w Ds)(h:IsC w b): b ∉ Ds:=fun hb=>by
 obtain⟨cur,T,x,h⟩:=h;have:=hm.2 b hb;rw[h]at this;cases this
end K
namespace K
open Tre
def amK (x:KV):kL:=[.string x.1,Iq x.2]
structure Vq (w:World) (p:Value) (f t:Ky) (g1 g2 g3:Nat):Prop where
 c1:w.cell? (Aq g1 0)=some p
 c2:w.cell? (Aq g2 0)=some (.string f)
 c3:w.cell? (Aq g3 0)=some (.string t)
theorem LV {a:Addr}{v:Value}(h:w.cell? a=some v): a.block<w.heap.size:=cC w a h
theorem Vq.below {f t:Ky}(h:Vq w p f t g1 g2 g3)(hb:jP w w'): Vq w' p f t g1 g2 g3 :=
 ⟨(hb.cell (LV h.c1)).trans h.c1,(hb.cell (LV h.c2)).trans h.c2,(hb.cell (LV h.c3)).trans h.c3⟩
def agS (g1 g2 g3:Nat):Array Value:=#[jV g1,jV g2,jV g3]
theorem VM (q:Option Addr)(f t:Ky): Calls prog 67 #[.pointer q,.string f,.string t] w fun e w'=>jP w w'/\∃g1 g2 g3,e=.returned (.func (.func 102) #[] (agS g1 g2 g3))/\Vq w' (.pointer q) f t g1 g2 g3:=by
 apply kq func67 ntmps67;apply mA _;refine jO fun g1 w1 f1=>?_;refine jO fun g2 w2 f2=>?_;refine jO fun g3 w3 f3=>?_;have CN:=f1.size;have yD:=f2.size;have b1:=f1.blk.below f2.below f1.blk.lt;have b1':=b1.below f3.below b1.lt;have b2:=f2.blk.below f3.below f2.blk.lt;have hb:=(f1.below.trans (f2.below.mono I)).trans (f3.below.mono I);apply G _;apply WL.fn rfl rfl rfl rfl rfl;apply G _;exact J ⟨hb,g1,g2,g3,rfl,b1'.cell 0 (by simp[Value.cells]),b2.cell 0 (by simp[Value.cells]),f3.blk.cell 0 (by simp[Value.cells])⟩
theorem kC.kp {e:TypeId}{z:α}{P:α->kL->Prop}{v:Value}(h:kC e m z P O w v l)(hk:Cg e w w'): kC e m z P O w' v l:=by
 obtain⟨mZ,h1,h2,h3,h4,h5⟩:=h;refine⟨mZ,h1,h2,⟨h3.1,?_⟩,h4,h5⟩;rcases h3.2 with h|⟨g,cap,cur,e1,hb,hg,hr⟩
 ·exact .inl h
 ·exact .inr ⟨g,cap,cur,e1,hb,(hk g cur _ hg).trans hg,hr⟩
theorem XL (w:World): (zeroValue vn).run prog w=.ok (.agg #[.string ByteArray.empty,Iq 0]) w:=jG
theorem Ur {L:List KV}{f t:Ky}(hc:Vq w p f t g1 g2 g3)(hlen:L.length<1000000000)(lO:∀W,jP w W->Calls prog 103 #[p,.string f,.string t] W fun e w'=>jP W w'/\∃v,e=.returned v/\kC vn 2 Fl Pp (fun b=>W.heap.size<=b) w' v L):
  SeqStopsK Fence.wide 1 prog 102 (agS g1 g2 g3) (fun x=>(amK x).toArray) (Cg vn) (fun xs=>xs=L) (fun pre=>pre <+: L) L.length w:=by
 intro lp aEW Jx W hW hJ hJx hY h0;have Lm:=hc.below hW;apply aew (args:=[.func (.yield lp) #[] #[],jV g1,jV g2,jV g3]) func102 rfl ntmps102 rfl;apply mA _;apply Y Lm.c1;apply Y Lm.c2;apply Y Lm.c3;apply jx func103 (lO W hW);rintro _ w1 ⟨hb,v,rfl,jW⟩;refine⟨_,rfl,?_⟩;have hJ1:=hJ _ _ _ none h0 (CI hb (aj _) none) (fun r e=>by cases e);obtain⟨sp,cap,rfl,-⟩:=jW.kN;apply G _;refine WC.loop (fun i:Nat=>[(0,.func (.yield lp) #[] #[]),(10,.slice sp L.length cap),(11,Iq L.length),(12,Iq i)])
  (fun i w'=>i<=L.length/\aEW (L.take i) w'/\kC vn 2 Fl Pp (fun b=>W.heap.size<=b) w' (.slice sp L.length cap) L) (fun i=>L.length - i) 0 kz
  ⟨ay _,hJ1,jW⟩ ?_
 clear jW hJ1;rintro i wr ⟨hi,hj,jW⟩
 by_cases j6:i<L.length
 ·obtain⟨qQ,oa,e,-,-,-,hr⟩:=jW.kN
  obtain⟨rfl,-,rfl⟩:sp=qQ/\L.length=L.length/\cap=oa:=by injection e with a b c;exact⟨a,b,c⟩
  obtain⟨b,o,rfl,Sj,hbO,ly⟩:=hr I;obtain⟨cs,hcs,hP,hra⟩:=ly i j6;have hx:L.take (i+1)=L.take i++[L.getD i Fl]:=by rw[aK,ai j6];simp[ah,j6]
  generalize L.getD i Fl=x at hP hx;have hP':cs=[.string x.1,Iq x.2]:=hP;subst hP';apply ur _;apply WC.block;apply G _;apply jQ i (o+i*2) j6;apply jy hra rfl;refine jJ (z:=.agg #[.string ByteArray.empty,Iq 0]) XL fun g w2 f2=>?_;refine WL.o7 rfl rfl rfl rfl rfl rfl f2.blk rfl rfl (by intro v hv;simp at hv;rcases hv with rfl|rfl<;>rfl) ?_;have v3:U vn (w2.setRow g #[.string x.1,Iq x.2]) g [.string x.1,Iq x.2]:=f2.blk.setRow _;have k3:jP wr (w2.setRow g #[.string x.1,Iq x.2]):=by
   have h1:Z (fun k=>k<wr.heap.size) wr (w2.setRow g #[.string x.1,Iq x.2]):=BR (Z.jw f2.below) (by have:=f2.eq;omega) _;exact h1.below
  have mK:=f2.size;generalize w2.setRow g #[.string x.1,Iq x.2]=w3 at v3 k3 ⊢;have hJ3:=hJ _ _ _ none hj (CI k3 (aj _) none) (fun r e=>by cases e);have N8:=jW.jA (Z.jw k3) (fun q hq=>jW.lt hq) nN Db;apply G _;apply Y (v3.cell 0 jM);apply G _;apply Y (v3.cell 1 jM);have aqz:(L.take i).length<L.length:=by rw[aC];omega
  apply WL.yield rfl rfl rfl rfl rfl rfl (hY (L.take i) x w3 hJ3 aqz);rintro e w4 (⟨rfl,hJ4,pA⟩|⟨rfl,hJ4⟩)
  ·refine⟨_,rfl,?_⟩
   have apU:=N8.kp pA;apply G _;refine WQ.again (i+1) kz ⟨j6,by rw[hx];exact hJ4,apU⟩ I
  ·refine⟨_,rfl,?_⟩
   apply G _;refine WQ.aeO rfl ⟨⟨_,rfl⟩,.inr ⟨L.take i++[x],?_,hJ4⟩⟩;rw[<-hx];exact List.take_prefix _ _
 ·obtain rfl:i=L.length:=I
  apply G _;refine WQ.GN rfl ⟨⟨_,rfl⟩,.inl ⟨L,rfl,?_⟩⟩;rw[aN]at hj;exact hj
end K
namespace Ix
open K Tre
open Vw (Wx iT)
abbrev slI:Nat:=35
def tl (x:Int)(cs:kL):Prop:=cs=[Iq x]
def aaa (O:Nat->Prop)(W:World)(g:Nat)(l:oK):Prop:=∃v,U slI W g [v]/\kC iT 1 0 tl O W v l
theorem aaa.stays {l:oK}(h:aaa O W g l)(hk:Z (aeQ B W) W W'): aaa O W' g l:=by
 obtain⟨v,h1,h2⟩:=h;exact⟨v,U.jA h1 hk (.inr (U.WO h1)),h2.jA hk (fun q hq=>.inr (by obtain⟨c,x,e⟩:=h2.WO hq;exact⟨c,_,x,e⟩)) nN Db⟩
def KW (T gb:Nat)(w:World)(pre:List KV)(W:World):Prop:=Z (fun b=>b<T/\b≠gb) w W/\aaa (fun b=>T<=b) W gb (pre.map Prod.snd)
theorem KW.own (hT:T<=w.heap.size): OwnFrom w.heap.size (KW T gb w):=by
 refine YU fun pre W W' h hk=>?_;obtain⟨h1,h3⟩:=h;have hz:=h1.size;exact⟨h1.trans (hk.mono fun b hb=>.inl ⟨I,I⟩),h3.stays hk⟩
theorem KW.step {W1 W2:World}{pre:List KV}{x:KV}{v v':Value}(h1:Z (fun b=>b<T/\b≠gb) w W)(hv:U slI W gb [v])(ho:kC iT 1 0 tl (fun b=>T<=b) W v (pre.map Prod.snd))(hT:T<=w.heap.size)(Kw:gb<T)(hf:kJ W g1 W1 iT [Iq x.2])(xI:kC iT 1 0 tl (fun b=>T<=b\/b=W1.heap.size) W2 v' (pre.map Prod.snd++[x.2]))(hg:kX W1 v W2 v'):
  KeepsFrom B W (W2.setCell (Aq gb 0) v')/\Cg vn W (W2.setCell (Aq gb 0) v')/\KW T gb w (pre++[x]) (W2.setCell (Aq gb 0) v'):=by
 have hz:=h1.size;have CN:=hf.size;have aq_:∀q,v.ownBlock=some q->q≠gb:=fun q hq=>by have:=ho.own hq;omega
 have k2:Z (fun b=>b<W.heap.size/\v.ownBlock≠some b) W W2:=((Z.jw hf.below).mono fun b h=>h.1).trans (hg.1.mono fun b h=>⟨I,h.2⟩);have k3:Z (fun b=>b<W.heap.size/\v.ownBlock≠some b/\b≠gb) W (W2.setCell (Aq gb 0) v'):=(k2.mono fun b h=>⟨h.1,h.2.1⟩).setCell (p:=Aq gb 0) jM _;have ZL:=U.jA hv k2 ⟨U.lt hv,fun e=>aq_ gb e rfl⟩;have hvn:=U.set ZL 0 v';have O0:∀b o,W.heap[b]? = some o->o.isCells=false->b<W.heap.size/\v.ownBlock≠some b/\b≠gb:=fun b o hb hc=>by
  refine⟨(fi.1 hb).1,fun e=>?_,fun e=>?_⟩
  ·obtain⟨c,y,e2⟩:=ho.WO e
   rw[hb]at e2;obtain rfl:=az e2;cases hc
  ·obtain⟨_,_,_,e2⟩:=U.WO hv
   rw[<-e,hb]at e2;obtain rfl:=az e2;cases hc
 have tX:∀q,v'.ownBlock=some q->q≠gb:=fun q hq=>by
  rcases xI.own hq with h|h
  ·omega
  ·omega
 refine⟨YG k3 fun b o _ hb hc=>O0 b o hb hc,Cg.jA k3 fun b cur y hb=>⟨(fi.1 hb).1,fun e=>?_,fun e=>?_⟩,?_,v',hvn,?_⟩
 ·obtain⟨c,y',e2⟩:=ho.WO e
  rw[hb]at e2
  injection e2 with e2
  injection e2 with _ e2 _
  exact absurd e2 lZ
 ·have e2:W.heap[gb]? = some (.cells [v].toArray slI (0,0)):=hv
  rw[<-e,hb]at e2
  injection e2 with e2
  injection e2 with _ e2 _
  exact absurd e2 lZ
 ·exact h1.trans (k3.mono fun b h=>⟨I,fun e=>by have:=ho.own e;omega,h.2⟩)
 ·rw[aV]
  refine xI.jA ((Z.refl (fun b=>b≠gb) W2).setCell (p:=Aq gb 0) jM _) (fun q hq=>tX q hq) (fun b hb=>?_) Db;rcases hb with h|h
  ·exact h
  ·omega
theorem Fz {st:Tre.St}{L:List KV}(hT:xw w st tb L)(hl:L.length<=1000000)(a z:ByteArray):
  Calls prog 34 #[.pointer (some ⟨tb,0,none⟩),.string a,.string z] w fun e w'=>∃v,e=.returned v/\kC iT 1 0 tl (fun b=>w.heap.size<=b) w' v ((th a z L).map Prod.snd)/\Below w.heap.size w w':=by
 refine ajh (args:=[.pointer (some ⟨tb,0,none⟩),.string a,.string z]) func34 rfl ntmps34 rfl ?_;have oH:=aU (Vr a z L) hl;apply G _;refine jJ (z:=.slice none 0 0) (fun _=>jG) fun ga w4 f4=>?_;have Te:U slI w4 ga [.slice none 0 0]:=f4.blk;have e4:=f4.eq;have z4:=f4.size;have b4:=f4.below;clear f4;apply G _;apply jx func67 (VM (some ⟨tb,0,none⟩) a z);rintro _ w8 ⟨bw8,p1,p2,p3,rfl,EK⟩;refine⟨_,rfl,?_⟩;have va8:=U.below Te bw8 (U.lt Te);have zw8:=bw8.size;have b8:=b4.trans (bw8.mono (by omega));clear Te bw8;have htr:=hT.below b8;have Dd:=Ur EK (L:=th a z L) (by omega) (fun W hW=>acJ (htr.below hW) a z (by omega));clear htr EK;apply ur _;apply WC.block;refine WC.aiP rfl (enters_of func102 (by kernel_rfl) rfl) Dd (fun _=>rfl) rfl (KW w8.heap.size ga w8) (fun _ _ _=>False) (KW.own (aj _)) (fun _ _ _ _ _ h _ _=>h) ?_
  (fun x=>[(7,.pointer (some ⟨ga,0,none⟩)),(9,.int .i64 x.2)]) ?_ ?_ ?_ (fun _ _ _ _ _ _ h _=>h.elim)
 ·exact⟨Z.refl _ _,_,va8,kC.nil _ _ _ _ _ _⟩
 ·intro lp x W
  refine G ?_;exact WQ.meet () ⟨rfl,rfl,trivial⟩ rfl
 ·rintro lp pre x W - - ⟨q1,v,q3,q4⟩ hlen
  have uR:(pre.map Prod.snd).length<=1000000:=by simp only[aB];omega
  apply G _;apply Y (U.cell q3 0 (by simp));apply WL.as 16 v rfl rfl;apply G _;refine lh (hs:=(by decide)) fun g9 W1 f9=>?_;refine WL.snoc (y:=x.2) rfl rfl rfl rfl Wx rfl (q4.jA (Z.jw f9.below) (fun q hq=>q4.lt hq) (fun _ h=>h) (fun _ _ h=>h)) rfl f9.blk (by intro u hu;simp at hu;rw[hu];rfl) rfl rfl (by omega) (by omega) fun v2 W2 o2 gr2=>?_;have hkv:=KW.step (B:=w8.heap.size) q1 q3 q4 (aj _) (U.lt va8) f9 o2 gr2;have ZL:=U.jA (U.below q3 f9.below (U.lt q3)) gr2.1 ⟨U.lt (U.below q3 f9.below (U.lt q3)),fun e=>by have h1:=q4.own e;have h2:=U.lt va8;omega⟩;apply WL.store rfl rfl rfl rfl rfl o2.one jG (U.cell ZL 0 jM) (U.free ZL 0);refine G ?_;exact⟨fun _ _=>hkv⟩
 clear Dd;rintro D1 _ W1 hD1 rfl ⟨k1,v,va1,xa1⟩ HA;have pY:=b8.trans (k1.mono fun k (hk:k<w.heap.size)=>⟨by omega,by omega⟩:Z (fun x=>x<w.heap.size) w8 W1).below;have jW:kC iT 1 0 tl (fun b=>w.heap.size<=b) W1 v ((th a z L).map Prod.snd):=xa1.jA (Z.refl (fun _=>True) _) (fun _ _=>trivial) (fun b hb=>by omega) (fun _ _ h=>h);have m1:H4 W1 [D1]:=⟨by simp,fun D hD=>(by simpa using hD:D=D1) ▸ HA⟩;apply G _;apply Y (U.cell va1 0 (by simp));apply WL.as 20 v rfl rfl;apply G _;refine WQ.apc [D1] rfl rfl m1 ⟨v,rfl,?_,?_⟩
 ·exact jW.jA (FB _ W1) (fun q hq=>ack m1 (by obtain⟨c,y,e⟩:=jW.WO hq;exact⟨c,_,y,e⟩)) (fun _ h=>h) (fun _ _ h=>h)
 ·refine((Z.jw pY).trans ((FB _ W1).mono fun k (h:k<w.heap.size) hE=>?_)).below
  simp at hE
  omega
end Ix
namespace K
def MR {κ:Type}(P:Program)(k:TypeId)(mk:κ->Value)(w:World)(b r n:Nat)(F:κ->Option Value)(left:κ->Bool)(j9:Nat):Prop :=
 ∃D lf,w.ranges P k Dr b r n D lf j9/\∀x kl,Go.keyOf P k (mk x)=some kl->(∀z,D.atKey kl z=orD (F x) z)/\lf kl=left x
section
variable {κ:Type}{P:Program}{k:TypeId}{mk:κ->Value}{w:World}{b r n j9:Nat}{F:κ->Option Value}{left:κ->Bool}
theorem MR.mf (h:MR P k mk w b r n F left j9): MF P k mk w b n F:=by
 obtain⟨D,lf,h1,h2⟩:=h;exact⟨D,h1.owns,fun x kl hk=>(h2 x kl hk).1⟩
theorem MR.lt (h:MR P k mk w b r n F left j9): b<w.heap.size/\r<w.heap.size/\r≠b:=by
 obtain⟨D,lf,h1,-⟩:=h;exact⟨h1.owns.lt,h1.lt,h1.ne⟩
theorem MR.Mh (h:MR P k mk w b r n F left j9)(hb:w'.heap[b]? = w.heap[b]?)(hr:w'.heap[r]? = w.heap[r]?): MR P k mk w' b r n F left j9:=by
 obtain⟨D,lf,⟨es,clock,since,seen,c0,q1,q2,q3,q4,q5,q6⟩,h2⟩:=h;exact⟨D,lf,⟨es,clock,since,seen,c0,hb.trans q1,q2,q3,q4,hr.trans q5,q6⟩,h2⟩
theorem MR.jA {K:Nat->Prop}(h:MR P k mk w b r n F left j9)(hk:Z K w w')(hb:K b)(hr:K r): MR P k mk w' b r n F left j9:=h.Mh (hk.block b hb) (hk.block r hr)
theorem MR.below (h:MR P k mk w b r n F left j9)(hk:jP w w'): MR P k mk w' b r n F left j9:=h.Mh (hk.block b h.lt.1) (hk.block r h.lt.2.1)
theorem qE {row:Option Nat}(h:w.grownBy w' row): Z (fun x=>x<w.heap.size/\some x≠row) w w':=⟨h.os,h.tape,h.output,h.size,fun i hi=>h.block i hi.1 hi.2⟩
end
section
variable {n:NN}{Q:Exit->Act->World->Prop}{l:Env}{w w':World}{ops:Array Oper}{o:Oper}{rest:List Oper}{d:Nat}
theorem WL.Z3 {k e t:Nat}{mk:κ->Value}{x:Operand}(T:prog.underlying t=some (.map k e))(KK:Keyed prog k)(hg:o.guard=none)(hd:o.dst=some d)(hn:Nat.blt d n.n=true)(ho:o.op=.range t x)(hx:kS l x=some (.map (some b)))(hm:MF prog k mk w b nn F)(h:∀r w',(∃left j9,MR prog k mk w' b r nn F left j9/\∀x kl,Go.keyOf prog k (mk x)=some kl->left x=(F x).isSome)->r=w.heap.size->jP w w'->w'.heap.size=w.heap.size+1->WL n ops Q rest ((d,jV r)::l) w'): WL n ops Q (o::rest) l w:=by
 obtain⟨D,h1,h2⟩:=hm;obtain⟨w',my,r1,r2,r3⟩:=h1.range KK T;refine WL.step hg hd hn (fun a ha=>?_) (h w.heap.size w' ⟨fun x=>(F x).isSome,Maps.size D,⟨D,Maps.has D,r1,fun x kl hk=>⟨h2 x kl hk,?_⟩⟩,fun _ _ _=>rfl⟩ rfl ⟨r2.os,r2.tape,r2.output,r2.size,fun i hi=>r2.block i hi jM⟩ r3)
 ·unfold execOp
  rw[ho];simp[ha.eval hx,my,Result.andThen]
 ·have h3:=h2 x kl hk
  cases hq:F x with
  | none=>rw[hq]at h3;exact(iA (fun z=>h3 z)).trans (by simp only[hq];rfl)
  | some y=>rw[hq]at h3;exact(iH (fun z=>h3 z)).trans (by simp only[hq];rfl)
theorem WL.afK {k j9:Nat}{mk:κ->Value}{x:Operand}{left:κ->Bool}(KK:Keyed prog k) (aad:∀x y,mk x=mk y->x=y) (hinv:∀key kl,Go.keyOf prog k key=some kl->∃x,key=mk x) (hg:o.guard=none) (hd:o.dst=some d) (hn:Nat.blt d n.n=true) (ho:o.op=.next x false) (hx:kS l x=some (jV r)) (hm:MR prog k mk w b r nn F left j9) (am9:(∀x kl,Go.keyOf prog k (mk x)=some kl->left x=false)->WL n ops Q rest ((d,.tuple #[.bool false])::l) w) (anK:∀(x:κ) (v:Value) (w':World) (G4:Nat),left x=true->F x=some v->(∃kl,Go.keyOf prog k (mk x)=some kl)->(∃yX,MR prog k mk w' b r nn F yX G4/\yX x=false/\∀y,y≠x->(∃kl,Go.keyOf prog k (mk y)=some kl)->yX y=left y)->G4<j9->Z (fun i=>i<w.heap.size/\i≠r) w w'->w'.heap.size=w.heap.size->
   (Instr.entry (jV r)).run prog w'=.ok (.tuple #[mk x,v]) w'->WL n ops Q rest ((d,.tuple #[.bool true,mk x,v])::l) w'): WL n ops Q (o::rest) l w:=by
 obtain⟨D,lf,h1,h2⟩:=hm;rcases h1.next KK o.type with⟨h0,hl,my⟩|⟨key,v,kl,y,w',G4,mh,xY,hv,ly,my,BV,j6,nB,lJ,hen⟩
 ·refine WL.step hg hd hn (fun a ha=>?_) (am9 fun x kl hk=>(h2 x kl hk).2.symm.trans (hl kl))
  unfold execOp;rw[ho];simp[ha.eval hx,my,Result.andThen]
 ·obtain⟨x0,rfl⟩:=hinv key kl mh
  refine WL.step hg hd hn (fun a ha=>?_) (anK x0 v w' G4 ((h2 x0 kl mh).2.symm.trans xY) ?_ ⟨kl,mh⟩ ⟨fun z=>left z && (match Go.keyOf prog k (mk z) with|some q=>!q.sameKey kl|none=>true),⟨D,_,BV,fun z q hz=>⟨(h2 z q hz).1,?_⟩⟩,?_,fun z hz hq=>?_⟩ j6 ⟨nB.os,nB.tape,nB.output,nB.size,fun i hi=>nB.block i hi.1 (by simpa using hi.2)⟩ lJ hen)
  ·unfold execOp
   rw[ho];simp[ha.eval hx,my,Result.andThen]
  ·have h3:=(h2 x0 kl mh).1
   have h4:y.1=.held v:=by
    unfold Dr at hv;cases hv
    rfl
   cases hq:F x0 with
   | none=>
    rw[hq]at h3;have a1:=(h3 (.held undef)).symm.trans (ly _);have a2:=(h3 .nil).symm.trans (ly _);simp only[orD]at a1 a2;rw[<-a1]at a2;cases a2
   | some u=>
    rw[hq]at h3;have a1:=(h3 .nil).symm.trans (ly .nil);simp only[orD]at a1;rw[h4]at a1;cases a1
    rfl
  ·simp only[hz]
   rw[(h2 z q hz).2]
  ·simp only[mh]
   rw[WideAt.sameKey_self (KK.key mh)];simp
  ·obtain⟨q,hq⟩:=hq
   simp only[hq];have:q.sameKey kl=false:=Maps.sameKey_ne fun e=>hz (aad _ _ (KK.inj (e ▸ hq) mh));rw[this];simp
theorem WL.Z2 {x:Operand}{v:Value}(hg:o.guard=none)(hd:o.dst=some d)(hn:Nat.blt d n.n=true)(ho:o.op=.entry x)(hx:kS l x=some p)(hr:(Instr.entry p).run prog w=.ok v w)(h:WL n ops Q rest ((d,v)::l) w): WL n ops Q (o::rest) l w :=
 WL.step hg hd hn (fun a ha=>by
  unfold execOp;rw[ho];simp[ha.eval hx,hr,Result.andThen]) h
end
theorem MR.drop {k e t j9:Nat}{mk:κ->Value}{left:κ->Bool}[DecidableEq κ](T:prog.underlying t=some (.map k e))(KK:Keyed prog k)(aad:∀x y,mk x=mk y->x=y)(h:MR prog k mk w b r nn F left j9){key:κ}{kl:Lit}(mh:Go.keyOf prog k (mk key)=some kl)(hl:left key=false)(ty:TypeId):
  ∃w' G4,(Builtin.delete_ #[t,k] ty #[.map (some b),mk key]).run prog w=.ok (.tuple #[]) w'/\MR prog k mk w' b r nn (An F key) left G4/\G4<=j9/\Z (fun x=>x≠b) w w':=by
 obtain⟨D,lf,h1,h2⟩:=h;obtain⟨w',G4,my,r1,r2,r3⟩:=h1.drop KK T mh ty;refine⟨w',G4,my,⟨_,_,r1,fun x q hx=>⟨fun z=>?_,?_⟩⟩,r2,Cz r3⟩
 ·by_cases e:x=key
  ·subst e
   rw[mh]at hx;cases hx;rw[JA,atKey_del_same];rfl
  ·rw[Hf _ e,atKey_del_other (fun e'=>e (aad _ _ (KK.inj hx (by rw[mh,e']))))]
   exact(h2 x q hx).1 z
 ·by_cases e:x=key
  ·subst e
   rw[mh]at hx;cases hx;rw[WideAt.sameKey_self (KK.key mh),hl];simp
  ·have:q.sameKey kl=false:=Maps.sameKey_ne fun e'=>e (aad _ _ (KK.inj (e' ▸ hx) mh))
   rw[this,(h2 x q hx).2];simp
end K
namespace Ix
open K Tre
abbrev FA:Nat:=85
abbrev adQ:Nat:=83
theorem apA: FA<prog.types.size:=aR jG
theorem ait:(match prog.underlying FA with|some (.array _ _)|some (.struct _)=>true|_=>false)=true:=by rw[show prog.underlying FA=_ from gI]
theorem D5: Keyed prog FA:=gK (gp Cat.laid (m:=2) I apA jG ait)
theorem akq: prog.keyType FA=true:=jG
theorem NF: prog.cellsOf FA=2:=jG
theorem XW {x:Int×lD}(h:Cat.vI x): ∃kl,keyOf prog FA (Cat.mk x)=some kl :=
 ⟨_,Cat.keyOf_pair gI bJ cF rfl rfl lZ rfl rfl lZ akq NF Cat.tB Cat.strCells Cat.rK x h.1 h.2⟩
structure Tx where
 tb:Nat
 st:Tre.St
 L:List KV
def Tx.own (t:Tx)(b:Nat):Prop:=b=t.tb\/t.st b≠none
def Tx.ptr (t:Tx):Value:=.pointer (some (Aq t.tb 0))
abbrev Bl:=Int×lD->Option Tx
structure yR (w:World) (mb:Nat) (S:Nat->Prop) (X:Bl) (g:Int×lD->Gx):Prop where
 is:∀x t,X x=some t->xw w t.st t.tb t.L/\sV x.2 (g x) t.L
 own:∀x t b,X x=some t->t.own b->S b
 rF:∀x y t u b,X x=some t->X y=some u->x≠y->t.own b->¬u.own b
 mS:S mb
 out:∀x t,X x=some t->¬t.own mb
 lt:∀b,S b->b<w.heap.size
def AQ (X:Bl):Int×lD->Option Value:=fun x=>(X x).map Tx.ptr
structure qY (w:World) (sb mb n:Nat) (S:Nat->Prop) (X:Bl) (g:Int×lD->Gx):Prop where
 blk:U adQ w sb [.map (some mb)]
 map:MF prog FA Cat.mk w mb n (AQ X)
 pC:yR w mb S X g
 sS:S sb
 out:∀x t,X x=some t->¬t.own sb
section
variable {w w':World}{sb mb n:Nat}{S:Nat->Prop}{X:Bl}{g:Int×lD->Gx}
theorem yR.jA (h:yR w mb S X g){K:Nat->Prop}(hk:Z K w w')(hK:∀b,S b->K b): yR w' mb S X g :=
 ⟨fun x t e=>⟨(h.is x t e).1.jA hk (fun b hb=>hK b (h.own x t b e (.inr hb))) (hK _ (h.own x t _ e (.inl rfl))),(h.is x t e).2⟩,h.own,h.rF,h.mS,h.out,fun b hb=>ao (h.lt b hb) hk.size⟩
theorem qY.jA (h:qY w sb mb n S X g){K:Nat->Prop}(hk:Z K w w')(hK:∀b,S b->K b): qY w' sb mb n S X g :=
 ⟨h.blk.jA hk (hK _ h.sS),h.map.jA hk (hK _ h.pC.mS),h.pC.jA hk hK,h.sS,h.out⟩
theorem qY.below (h:qY w sb mb n S X g)(hb:jP w w'): qY w' sb mb n S X g:=h.jA (Z.jw hb) h.pC.lt
theorem ahR (w:World): (zeroValue 86).run prog w=.ok (.pointer none) w:=jG
theorem qY.look (h:qY w sb mb n S X g){x:Int×lD}(hx:Cat.vI x): (Instr.lookup 81 (.map (some mb)) (Cat.mk x) false).run prog w=.ok (.pointer ((X x).map fun t=>(Aq t.tb 0))) w:=by
 obtain⟨kl,hk⟩:=XW hx;rw[h.map.look D5 fN (ahR w) hk];unfold AQ;cases X x<;>rfl
theorem IM (h:qY w sb mb n S X g){t:Int}(hx:Cat.vI (t,f)):
  Calls prog 31 #[jV sb,Iq t,.string f] w fun e w'=>e=.returned (.pointer ((X (t,f)).map fun t=>(Aq t.tb 0)))/\w'=w:=by
 apply kq func31 ntmps31;have c0:=h.blk.cell 0 jM;simp only[al]at c0;apply G _;apply(kV);apply jF _;have hl:=h.look hx;unfold Cat.mk at hl;apply jR [Iq t,.string f] jG;apply WL.look rfl rfl rfl rfl rfl rfl hl;apply G _;exact J ⟨rfl,rfl⟩
end
end Ix
namespace Ix
open K
open Cat (uF nV m_ Tb ku kM wZ)
open Vw (Rw kE ni rD nw lA ln nu nv zU rO nT Inv j9 uJ yC)
def gS (s:Vw.St):Int×lD->Gx:=fun x=>lS s x.1
theorem Ie {s:Vw.St}(hi:Inv s)(hd:sH s)(hl:s.rows.length<=1000000000)(t:Int): XI (nT s t):=⟨fun r hr=>by
 have h1:=(AL hi).1 hr;have h2:lS s t r.doc=some r.data:=by unfold lS;rw[h1];rfl
 obtain⟨a1,a2,a3⟩:=(sA hi hd hl t).ok _ _ h2;exact⟨a1,a2,(FO hd h2).2,a3⟩,Qz s t⟩
theorem Ez (s:Vw.St)(t:Int): (nT s t).length<=s.rows.length:=by
 unfold Vw.nT;have h1:=ef (fun(i:Nat)=>Vw.lU s (t,(i:Int)+1)) (List.range (j9 t s.rows));rw[im]at h1;have h2:=Vw.uZ t s.rows;omega
theorem Ps:∀(n:Nat) (l:oK),l.Nodup->(∀x∈l,1<=x/\x<=n)->l.length<=n
 | 0,[],_,_=>aj _
 | 0,a::_,_,h=>by have:=h a jM;omega
 | n+1,l,hn,h=>by
  have h1:=Ps n (l.filter fun x=>decide (x≠(n:Int)+1)) (hn.sublist List.filter_sublist) fun x hx=>by
   obtain⟨q1,q2⟩:=cg.1 hx;have:=h x q1;have q2:=aR q2;omega
  have h2:l.length<=(l.filter fun x=>decide (x≠(n:Int)+1)).length+1:=by
   clear h1 h
   induction l with
   | nil=>simp
   | cons a r ih=>
    rw[bB]at hn;have ih:=ih hn.2;rw[cM]
    by_cases e:a=(n:Int)+1
    ·have:r.filter (fun x=>decide (x≠(n:Int)+1))=r:=fu.2 fun x hx=>aw fun e2=>hn.1 (by rw[e,<-e2];exact hx)
     rw[aa (by simpa using e),this,ak];exact aj _
    ·rw[ag (aw e),ak,ak]
     omega
  omega
theorem Wj {g:Gx}{L:List Tre.KV}(h:sV f g L){n:Nat}(hg:∀m d,g m=some d->1<=m/\m<=n): L.length<=n:=by
 have hn:(L.map Prod.snd).Nodup:=by
  rw[List.nodup_iff_pairwise_ne,ij];refine fy (fun {a b} ha hb uP=>?_) h.xr;obtain⟨m,d,v,q1,q2,rfl⟩:=(h.mem a).1 ha;obtain⟨m2,d2,v2,p1,p2,rfl⟩:=(h.mem b).1 hb;intro e;have e:m=m2:=e;subst e;rw[q1]at p1;cases p1;rw[q2]at p2;cases p2;have uP:Tre.kl (tE v m) (tE v m)=true:=uP;rw[Tre.zY]at uP;cases uP
 have:=Ps n _ hn fun x hx=>by
  obtain⟨p,hp,rfl⟩:=bD.1 hx;obtain⟨m,d,v,q1,-,rfl⟩:=(h.mem p).1 hp;exact hg m d q1
 rwa [aB]at this
theorem I4 {s:Vw.St}(hi:Inv s){t m:Int}(h:lS s t m=some d): 1<=m/\m<=(s.rows.length:Nat):=by
 unfold lS at h;cases hq:Vw.lU s (t,m) with
 | none=>rw[hq]at h;cases h
 | some r=>
  obtain⟨h1,h2,-⟩:=qV hq;have h3:=hi.doc r h1;have h4:r.doc=m:=congrArg Prod.snd h2;have h5:=Vw.uZ r.m5 s.rows;omega
section
variable {w w':World}{sb mb n:Nat}{S:Nat->Prop}{X:Bl}{g:Int×lD->Gx}
theorem qY.add (h:qY w sb mb n S X g){x:Int×lD}(hx:Cat.vI x)(hn:n<maxLen){t:Tx}(hT:xw w t.st t.tb t.L)(hL:sV x.2 (g x) t.L)(vY:∀b,t.own b->¬S b):
  ∃w',(Instr.mapUpdate 81 (.map (some mb)) (Cat.mk x) t.ptr).run prog w=.ok () w'/\qY w' sb mb (n+1) (fun b=>S b\/t.own b) (fun y=>if y=x then some t else X y) g/\Z (fun b=>b≠mb) w w':=by
 obtain⟨kl,hk⟩:=XW hx;obtain⟨w',h1,h2,h3⟩:=h.map.put Cat.mk_inj D5 fN hn t.ptr hk;have nE:sb≠mb:=fun e=>Cat.MF.mP h.map h.blk e.symm;have j6:∀b,t.own b->b<w.heap.size:=fun b hb=>by
  rcases hb with rfl|hb
  ·exact(by obtain⟨_,_,hv,-⟩:=hT.ex;exact U.lt hv)
  ·exact hT.mem.lt hb
 refine⟨w',h1,⟨h.blk.jA h3 nE,h2.congr fun y=>?_,⟨fun y u e=>?_,fun y u b e hb=>?_,fun y z u v b e1 e2 hyz hb kK=>?_,.inl h.pC.mS,fun y u e hb=>?_,fun b hb=>?_⟩,.inl h.sS,fun y u e hb=>?_⟩,h3⟩
 ·unfold AQ pR
  simp only
  by_cases e:y=x
  ·rw[ag e,ag e];rfl
  ·rw[aa e,aa e]
 ·by_cases q:y=x
  ·rw[ag q]at e;cases e;subst q
   exact⟨hT.jA h3 (fun b hb e=>vY b (.inr hb) (by rw[e];exact h.pC.mS)) (fun e=>vY _ (.inl rfl) (by rw[e];exact h.pC.mS)),hL⟩
  ·rw[aa q]at e
   exact⟨(h.pC.is y u e).1.jA h3 (fun b hb e2=>h.pC.out y u e (by rw[<-e2];exact .inr hb)) (fun e2=>h.pC.out y u e (by rw[<-e2];exact .inl rfl)),(h.pC.is y u e).2⟩
 ·by_cases q:y=x
  ·rw[ag q]at e;cases e;exact .inr hb
  ·rw[aa q]at e;exact .inl (h.pC.own y u b e hb)
 ·by_cases q:y=x
  ·rw[ag q]at e1;cases e1
   rw[aa (fun q2=>hyz (q.trans q2.symm))]at e2;exact vY b hb (h.pC.own z v b e2 kK)
  ·rw[aa q]at e1
   by_cases q2:z=x
   ·rw[ag q2]at e2;cases e2;exact vY b kK (h.pC.own y u b e1 hb)
   ·rw[aa q2]at e2;exact h.pC.rF y z u v b e1 e2 hyz hb kK
 ·by_cases q:y=x
  ·rw[ag q]at e;cases e;exact vY _ hb h.pC.mS
  ·rw[aa q]at e;exact h.pC.out y u e hb
 ·have:=h3.size
  rcases hb with hb|hb
  ·have:=h.pC.lt b hb;omega
  ·have:=j6 b hb;omega
 ·by_cases q:y=x
  ·rw[ag q]at e;cases e;exact vY _ hb h.sS
  ·rw[aa q]at e;exact h.out y u e hb
end
theorem aik {c:Nat}{l:List lD}(h:jY ixT 1 w O (.slice sp l.length c) l.length (l.map Value.string))(hj:j<l.length):
  ∃g,sp=some (Aq g 0)/\g<w.heap.size/\O g/\w.cell? (Aq g j)=some (.string (l.getD j ⟨#[]⟩)):=by
 rcases h.form with⟨-,e,-⟩|⟨g,cap,cur,e,hO,j6,-⟩
 ·omega
 ·obtain⟨rfl,rfl⟩:sp=some (Aq g 0)/\c=cap:=by simpa using e
  refine⟨g,rfl,j6,hO,?_⟩;rw[dU h.1 j I];simp[hj]
def CZ (L:List Tb)(i j:Nat)(x:Int×lD):Prop:=Cat.has L x.1 x.2=true/\(x.1<=i\/(x.1=(i:Int)+1/\x.2∈(L.getD i ku).fs.take j))
theorem D_ {L:List Tb}{t:Int}: Cat.has L t f=true ↔ 1<=t/\t<=L.length/\f∈(L.getD (t - 1).toNat ku).fs:=by
 unfold Cat.has Cat.mem;rw[aF,aF,aX,aX,List.any_eq_true]
 constructor
 ·rintro⟨⟨h1,h2⟩,g,h3,h4⟩
  have h4:=aR h4;exact⟨h1,h2,h4 ▸ h3⟩
 ·rintro⟨h1,h2,h3⟩
  exact⟨⟨h1,h2⟩,f,h3,aw rfl⟩
theorem Nq {L:List Tb}(hi:i<L.length)(hj:j<(L.getD i ku).fs.length)(x:Int×lD): CZ L i (j+1) x ↔ (CZ L i j x\/x=((i:Int)+1,(L.getD i ku).fs.getD j ⟨#[]⟩)):=by
 have ht:(L.getD i ku).fs.take (j+1)=(L.getD i ku).fs.take j++[(L.getD i ku).fs.getD j ⟨#[]⟩]:=by generalize (L.getD i ku).fs=l at hj ⊢;rw[aK,ah,ai hj];rfl
 unfold CZ;rw[ht]
 constructor
 ·rintro⟨h1,h2|⟨h2,h3⟩⟩
  ·exact .inl ⟨h1,.inl h2⟩
  ·rcases au.1 h3 with h3|h3
   ·exact .inl ⟨h1,.inr ⟨h2,h3⟩⟩
   ·exact .inr (eO h2 (by simpa using h3))
 ·rintro(⟨h1,h2|⟨h2,h3⟩⟩|rfl)
  ·exact⟨h1,.inl h2⟩
  ·exact⟨h1,.inr ⟨h2,bm _ h3⟩⟩
  ·refine⟨D_.2 ⟨by simp;omega,by simp;omega,?_⟩,.inr ⟨rfl,jM⟩⟩
   simp only
   rw[show((i:Int)+1 - 1).toNat=i by omega];generalize (L.getD i ku).fs=l at hj ⊢;rw[ah,ai hj];exact aH hj
theorem Pm {L:List Tb}(x:Int×lD): CZ L i (L.getD i ku).fs.length x ↔ CZ L (i+1) 0 x:=by
 unfold CZ;rw[aN,cj]
 constructor
 ·rintro⟨h1,h2|⟨h2,-⟩⟩
  ·exact⟨h1,.inl I⟩
  ·exact⟨h1,.inl I⟩
 ·rintro⟨h1,h2|⟨-,h3⟩⟩
  ·refine⟨h1,?_⟩
   by_cases e:x.1=(i:Int)+1
   ·obtain⟨-,-,h5⟩:=D_.1 h1
    rw[show(x.1 - 1).toNat=i by omega]at h5;exact .inr ⟨e,h5⟩
   ·exact .inl I
  ·cases h3
theorem NM {L:List Tb}(x:Int×lD): ¬CZ L 0 0 x:=by
 rintro⟨h1,h2|⟨-,h3⟩⟩
 ·obtain⟨h4,-⟩:=D_.1 h1;omega
 ·cases h3
theorem Qu {L:List Tb}(x:Int×lD): CZ L L.length 0 x ↔ Cat.has L x.1 x.2=true:=⟨fun h=>h.1,fun h=>⟨h,.inl (by obtain⟨-,h2,-⟩:=D_.1 h;exact h2)⟩⟩
end Ix
namespace K
theorem Wa {x:Int}(h:x=y): Ending.returned (.int .u64 x)=.returned (.int .u64 y):=by rw[h]
theorem UQ (x:Int)(w:World)(h0:-9223372036854775808<=x)(h1:x<=9223372036854775807):
  Calls prog 142 #[Iq x] w fun e w'=>e=.returned (.int .u64 (x.natAbs:Nat))/\w=w':=by
 apply kq func142 ntmps142
 by_cases hn:x<0
 ·apply G _
  refine J ⟨Wa ?_,rfl⟩;rw[aS,aS];omega
 ·apply G _
  refine J ⟨Wa ?_,rfl⟩;rw[aS];omega
def ch (d:Nat):UInt8:=UInt8.ofNat (48+d)
theorem YR (a:Nat)(ha:a<18446744073709551616): bits .and .u64 (a:Int) 4294967295=((a % 4294967296:Nat):Int):=by
 have h:=iB a 4294967295 ha I;have e:a &&& 4294967295=a % 4294967296:=f_ a 32;rw[e]at h;exact h
theorem auk (a:Nat): (a:Int) / ((2 ^ min 32 IntKind.u64.bits:Nat):Int)=((a / 4294967296:Nat):Int):=by
 rw[show((2 ^ min 32 IntKind.u64.bits:Nat):Int)=4294967296 from rfl];omega
theorem at5 (a b:Nat): (a:Int)*(b:Int)=((a*b:Nat):Int):=(Int.natCast_mul a b).symm
theorem auN (a b:Nat): (a:Int)+(b:Int)=((a+b:Nat):Int):=(Int.natCast_add a b).symm
theorem Dq (a:Nat)(ha:a<18446744073709551616): IntKind.u64.wrap (a:Int)=(a:Int):=by rw[aS];omega
theorem aox (a:Nat): IntKind.u64.wrap (a:Int)=((a % 18446744073709551616:Nat):Int):=by rw[aS];omega
theorem Le (x y:Nat)(hx:x<18446744073709551616)(hy:y<18446744073709551616)(w:World):
  Calls prog 141 #[.int .u64 x,.int .u64 y] w fun e w'=>e=.returned (.tuple #[.int .u64 (x*y / 18446744073709551616:Nat),.int .u64 (x*y % 18446744073709551616:Nat)])/\w=w':=by
 obtain⟨bd,bt,bw,qZ⟩:=Lib.mul64_hi x y hx hy;have ba:=Lib.half_mul_le (a:=x / 4294967296) (b:=y / 4294967296) I I;have bb:=Lib.half_mul_le (a:=x / 4294967296) (b:=y % 4294967296) I I;have bc:=Lib.half_mul_le (a:=x % 4294967296) (b:=y / 4294967296) I I;have ba':x / 4294967296*(y / 4294967296)<18446744073709551616:=I;have bb':x / 4294967296*(y % 4294967296)<18446744073709551616:=I;have bc':x % 4294967296*(y / 4294967296)<18446744073709551616:=I;have bh1:x / 4294967296*(y / 4294967296)+(x / 4294967296*(y % 4294967296)+x % 4294967296*(y % 4294967296) / 4294967296) / 4294967296<18446744073709551616:=I;have bh:x / 4294967296*(y / 4294967296)+(x / 4294967296*(y % 4294967296)+x % 4294967296*(y % 4294967296) / 4294967296) / 4294967296+((x / 4294967296*(y % 4294967296)+x % 4294967296*(y % 4294967296) / 4294967296) % 4294967296+x % 4294967296*(y / 4294967296)) / 4294967296<18446744073709551616:=I;apply kq func141 ntmps141;apply G _;refine WQ.oU rfl rfl rfl ⟨?_,rfl⟩;simp only[YR x hx,YR y hy,auk,at5,auN,Dq _ bd,Dq _ bb',Dq _ bt,YR _ bt,Dq _ bc',Dq _ bw,Dq _ ba',Dq _ bh1,Dq _ bh,aox (x*y)];rw[qZ]
theorem nX {x:Int}(h:x=y): Ending.returned (Iq x)=.returned (Iq y):=by rw[h]
theorem Jz (k:Int)(w:World):
  Calls prog 114 #[Iq k] w fun e w'=>e=.returned (Iq (sU k))/\w=w':=by
 apply kq func114 ntmps114;unfold sU
 by_cases hk:k=4
 ·apply G _
  exact J ⟨nX (by rw[ag hk]),rfl⟩
 ·apply G _
  exact J ⟨nX (by rw[aa hk]),rfl⟩
theorem uG (x y:Int)(w:World):
  Calls prog 115 #[Iq x,Iq y] w fun e w'=>e=.returned (Iq (oI x y))/\w=w':=by
 apply kq iu ntmps115;unfold oI
 by_cases h1:x<y
 ·apply G _
  exact J ⟨nX (by rw[ag h1]),rfl⟩
 ·by_cases h2:y<x
  ·apply G _
   exact J ⟨nX (by rw[aa h1,ag h2]),rfl⟩
  ·apply G _
   exact J ⟨nX (by rw[aa h1,aa h2]),rfl⟩
theorem Ue:∀ {s t:List UInt8},(s == t)=decide (cmpB s t=0)
 | [],[]=>by simp[cmpB]
 | [],_::_=>by simp[cmpB]
 | _::_,[]=>by simp[cmpB]
 | a::r,b::s=>by
  unfold cmpB
  by_cases h1:a<b
  ·have h3:¬a=b:=fun e=>by subst e;exact UInt8.lt_irrefl _ h1
   simp[h1,h3]
  ·by_cases h2:b<a
   ·have h3:¬a=b:=fun e=>by subst e;exact h1 h2
    simp[h1,h2,h3]
   ·have h3:a=b:=h_ (eD.1 h2) (eD.1 h1)
    subst h3;have:=Ue (s:=r) (t:=s);simp[h1,<-this]
theorem FQ (s t:lD)(w:World):
  Calls prog 117 #[.string s,.string t] w fun e w'=>e=.returned (Iq (cmpB s.toList t.toList))/\w=w':=by
 apply kq func117 ntmps117;have h0:=FY s.toList t.toList;have h1:=Ue (s:=s.toList) (t:=t.toList);have h2:=JL s.toList t.toList;apply G _
 by_cases c1:cmpB s.toList t.toList = -1
 ·apply WC.as 7 (.bool true) rfl (congrArg Value.bool (by rw[h0];exact aw c1))
  apply G _;exact J ⟨nX c1.symm,rfl⟩
 apply WC.as 7 (.bool false) rfl (congrArg Value.bool (by rw[h0];exact ar c1));apply G _
 by_cases c2:cmpB s.toList t.toList=0
 ·apply WC.as 10 (.bool false) rfl (congrArg Value.bool (by rw[h0,h1,aw c2];simp))
  apply G _;exact J ⟨nX c2.symm,rfl⟩
 ·apply WC.as 10 (.bool true) rfl (congrArg Value.bool (by rw[h0,h1,ar c2,ar c1];rfl))
  apply G _;exact WQ.so rfl rfl ⟨nX I,rfl⟩
theorem VK (s:Nat)(hs:s<=18)(w:World):
  Calls prog 143 #[Iq s] w fun e w'=>e=.returned (.int .u64 (10 ^ s:Nat))/\w=w':=by
 apply kq func143 ntmps143;apply G _;apply WC.loop (fun i:Nat=>[(0,Iq s),(3,.int .u64 (10 ^ i:Nat)),(4,Iq i)]) (fun i w'=>i<=s/\w=w') (fun i=>s - i) 0 kz ⟨ay _,rfl⟩;rintro i wr ⟨hi,rfl⟩
 by_cases his:i<s
 ·have hp:(10:Nat) ^ i<=10 ^ 17:=du lZ I
  have hw:IntKind.u64.wrap (((10 ^ i:Nat):Int)*10)=((10 ^ (i+1):Nat):Int):=by
   rw[aS,dx];omega
  apply G _;exact WQ.again (i+1) ⟨rfl,congrArg (fun z=>some (Value.int .u64 z)) hw,rfl,trivial⟩ ⟨his,rfl⟩ (by show s - (i+1)<s - i;omega)
 ·obtain rfl:i=s:=I
  apply G _;exact J ⟨rfl,rfl⟩
theorem BJ (a b:V)(sa ka sb kb:Value)(w:World)(ha:-9223372036854775808<=a.n/\a.n<=9223372036854775807)(hb:-9223372036854775808<=b.n/\b.n<=9223372036854775807)(Kx:0<=a.s/\a.s<=18)(RA:0<=b.s/\b.s<=18):
  Calls prog 116 #[.agg (mR a sa ka).toArray,.agg (mR b sb kb).toArray] w fun e w'=>e=.returned (Iq (LH a.n a.s b.n b.s))/\jP w w':=by
 apply kq (args:=[.agg (mR a sa ka).toArray,.agg (mR b sb kb).toArray]) func116 ntmps116;apply G _;refine jO fun g w1 hf=>?_;have ou:kJ w g w1 25 (mR a sa ka):=hf;clear hf;apply G _;refine jO fun g2 w2 hf=>?_;have mK:kJ w1 g2 w2 25 (mR b sb kb):=hf;clear hf;have pO:jP w w2/\U 25 w2 g (mR a sa ka)/\U 25 w2 g2 (mR b sb kb) :=
  ⟨ou.below.trans (mK.below.mono ou.below.size),ou.blk.below mK.below ou.blk.lt,mK.blk⟩
 clear ou mK;generalize hS:(fun wx:World=>jP w wx/\U 25 wx g (mR a sa ka)/\U 25 wx g2 (mR b sb kb))=S;have NI:∀ {wa wb},S wa->Lq wa wb->S wb:=by
  intro wa wb h hd;subst hS;exact⟨h.1.trans (hd.below _),h.2.1.below (hd.below _) h.2.1.lt,h.2.2.below (hd.below _) h.2.2.lt⟩
 have c1:∀wx,S wx->wx.cell? (Aq g 1)=some (Iq a.n):=fun wx h=>by subst hS;exact h.2.1.cell 1 jM
 have c2:∀wx,S wx->wx.cell? (Aq g 2)=some (Iq a.s):=fun wx h=>by subst hS;exact h.2.1.cell 2 jM
 have d1:∀wx,S wx->wx.cell? (Aq g2 1)=some (Iq b.n):=fun wx h=>by subst hS;exact h.2.2.cell 1 jM
 have d2:∀wx,S wx->wx.cell? (Aq g2 2)=some (Iq b.s):=fun wx h=>by subst hS;exact h.2.2.cell 2 jM
 have rQ:∀wx,S wx->jP w wx:=fun wx h=>by subst hS;exact h.1
 replace pO:S w2:=by subst hS;exact pO
 clear hS;apply G _;refine WC.drawn 5 S fun w3 Fa=>?_;have hS:=NI pO Fa;apply jC [0,3] hS _;apply jz 1 [2,5,6,7] c1 hS;apply jz 4 [5,6,7] d1 hS;apply jS 2;apply jx iu (uG _ _ w3);rintro e _ ⟨rfl,rfl⟩;refine⟨_,rfl,?_⟩;apply lI hS;apply jS 5;apply jx iu (uG _ _ w3);rintro e _ ⟨rfl,rfl⟩;refine⟨_,rfl,?_⟩;apply(jZ)
 (apply ke 6 rfl _;apply ke 7 rfl _)
 apply(jD);unfold LH;have ra:oI a.n 0 = -1\/oI a.n 0=0\/oI a.n 0=1:=by unfold oI;split<;>(try split)<;>omega
 generalize oI a.n 0=ea at ra ⊢;generalize oI b.n 0=eb
 by_cases he:ea=eb
 ·rw[ag he]
  obtain⟨x,hx⟩:∃x:Nat,a.s=(x:Int):=⟨a.s.toNat,I⟩;obtain⟨y,hy⟩:∃y:Nat,b.s=(y:Int):=⟨b.s.toNat,I⟩;rw[hx]at c2 ⊢;rw[hy]at d2 ⊢;rw[dZ,dZ];have px:(10:Nat) ^ x<=10 ^ 18:=du lZ I;have py:(10:Nat) ^ y<=10 ^ 18:=du lZ I;apply G _;refine WC.drawn 6 S fun w4 Kt=>?_;replace hS:=NI hS Kt;apply jC [0,3] hS _;apply jz 1 [2,5,6,7,8,9,10,11] c1 hS;apply jz 4 (mw 5 11) d2 hS;apply jS 2;apply jx func142 (UQ _ w4 ha.1 ha.2);rintro e _ ⟨rfl,rfl⟩;refine⟨_,rfl,?_⟩;apply lI hS;apply jS 5;apply jx func143 (VK y I w4);rintro e _ ⟨rfl,rfl⟩;refine⟨_,rfl,?_⟩;apply lI hS;apply jS 6;apply jx func141 (Le a.n.natAbs (10 ^ y) I I w4);rintro e _ ⟨rfl,rfl⟩;refine⟨_,rfl,?_⟩;apply(jZ)
  (apply ke 7 rfl _;apply ke 8 rfl _;apply ke 9 rfl _;apply ke 10 rfl _;apply ke 11 rfl _)
  apply(jD);apply G _;refine WC.drawn 6 S fun w5 hd5=>?_;replace hS:=NI hS hd5;apply jC [0,3] hS _;apply jz 1 [2,5,6,7,8,9,10,11] d1 hS;apply jz 4 (mw 5 11) c2 hS;apply jS 2;apply jx func142 (UQ _ w5 hb.1 hb.2);rintro e _ ⟨rfl,rfl⟩;refine⟨_,rfl,?_⟩;apply lI hS;apply jS 5;apply jx func143 (VK x I w5);rintro e _ ⟨rfl,rfl⟩;refine⟨_,rfl,?_⟩;apply lI hS;apply jS 6;apply jx func141 (Le b.n.natAbs (10 ^ x) I I w5);rintro e _ ⟨rfl,rfl⟩;refine⟨_,rfl,?_⟩;apply(jZ)
  (apply ke 7 rfl _;apply ke 8 rfl _;apply ke 9 rfl _;apply ke 10 rfl _;apply ke 11 rfl _)
  apply(jD);generalize a.n.natAbs*10 ^ y=p;generalize b.n.natAbs*10 ^ x=q;have pN:jP w w5:=rQ _ hS;obtain⟨p1,hp1⟩:∃p1:Nat,p / 18446744073709551616=p1:=⟨_,rfl⟩;obtain⟨p2,hp2⟩:∃p2:Nat,p % 18446744073709551616=p2:=⟨_,rfl⟩;obtain⟨q1,E0⟩:∃q1:Nat,q / 18446744073709551616=q1:=⟨_,rfl⟩;obtain⟨q2,OY⟩:∃q2:Nat,q % 18446744073709551616=q2:=⟨_,rfl⟩;rw[hp1,hp2,E0,OY]
  by_cases r1:p1<q1
  ·apply G _
   exact J ⟨nX (by rw[wV I]),pN⟩
  by_cases r2:q1<p1
  ·apply G _
   exact J ⟨nX (by rw[wW I]),pN⟩
  by_cases r3:p2<q2
  ·apply G _
   exact J ⟨nX (by rw[wV I]),pN⟩
  by_cases r4:q2<p2
  ·apply G _
   exact J ⟨nX (by rw[wW I]),pN⟩
  apply G _;exact J ⟨nX (by rw[wL.2 I]),pN⟩
 ·rw[aa he]
  apply G _;apply jx iu (uG _ _ w3);rintro e _ ⟨rfl,rfl⟩;refine⟨_,rfl,?_⟩;apply G _;exact J ⟨rfl,rQ _ hS⟩
theorem P8 {n:Nat}(h:∀j,j<min n n'->c j=0): Lx c n n'=oI n n':=by
 have:firstBad ((List.range (min n n')).map c)=0:=qi.2 fun e he=>by
  obtain⟨j,hj,rfl⟩:=bD.1 he;exact h j (bX.1 hj)
 unfold Lx;rw[ag this]
theorem Q4 (hi:i<m)(h:∀j,j<i->c j=0)(hn:c i≠0): firstBad ((List.range m).map c)=c i:=by
 have g:∀j,j<m->((List.range m).map c).getD j 0=c j:=fun j hj=>by simp[hj]
 rw[rC (i:=i) (by simpa using hi) (fun j hj=>by rw[g j I];exact h j hj) (by rw[g i hi];exact hn),g i hi]
theorem NC {n:Nat}(hi:i<min n n')(h:∀j,j<i->c j=0)(hn:c i≠0): Lx c n n'=c i:=by
 have:=Q4 hi h hn;unfold Lx;rw[this,aa hn]
theorem TN (m:Nat) (ih:∀ {f f':Nat}{w0 w:World}{a b:V}{cs rU:kL}, mj f w0 a cs->mj f' w0 b rU->jP w0 w->chk m a=0->chk m b=0->
      Calls prog 76 #[.agg cs.toArray, .agg rU.toArray] w fun e w'=>e=.returned (Iq (ordV m a b))/\jP w w') {f f':Nat}{w0:World}{a b:V}(hva:mj (f+1) w0 a cs) (Gl:mj (f'+1) w0 b rU) (lG:jP w0 w) (ha:chk (m+1) a=0) (hb:chk (m+1) b=0):
    Calls prog 76 #[.agg cs.toArray, .agg rU.toArray] w fun e w'=>e=.returned (Iq (ordV (m+1) a b))/\jP w w' := by
  obtain⟨sn, sk, rfl, na1, na2, na3, na4, wu, asT⟩ := hva; obtain⟨TH, sk', rfl, nb1, nb2, nb3, nb4, anP, aoK⟩ := Gl; obtain⟨a1, a2, a3, a4, a5, a6, a7, a8⟩ := rz (qe ha); obtain⟨b1, b2, b3, b4, b5, b6, b7, b8⟩ := rz (qe hb); obtain⟨sp, cap, rfl, vg, qn, kF⟩ := asT; obtain⟨qQ, oa, rfl, avJ, avL, agT⟩ := aoK; have ra:-9223372036854775808<=a.n/\a.n<=9223372036854775807 := by simp[Lit.wf, IntKind.min, IntKind.max, IntKind.bits, IntKind.signed]at na2; omega
  have rb:-9223372036854775808<=b.n/\b.n<=9223372036854775807 := by simp[Lit.wf, IntKind.min, IntKind.max, IntKind.bits, IntKind.signed]at nb2; omega
  have Kx:a.k=3\/a.k=4->0<=a.s/\a.s<=18 := by
    rintro(h|h)
    · have := a3 h; omega
    · have := a4 h; omega
  have RA:b.k=3\/b.k=4->0<=b.s/\b.s<=18 := by
    rintro(h|h)
    · have := b3 h; omega
    · have := b4 h; omega
  clear a4 b4; apply kq (args := [.agg (mR a sn (.slice sp a.kids.length cap)).toArray, .agg (mR b TH (.slice qQ b.kids.length oa)).toArray]) func76 ntmps76; apply G _; refine jO fun g w1 hf=>?_; have ou:kJ w g w1 25 (mR a sn (.slice sp a.kids.length cap)) := hf; clear hf; apply G _; refine jO fun g2 w2 hf=>?_; have mK:kJ w1 g2 w2 25 (mR b TH (.slice qQ b.kids.length oa)) := hf; clear hf; have hg:w0.heap.size<=g := by rw[ou.eq]; exact lG.size
  have nK:w0.heap.size<=g2 := by rw[mK.eq]; exact aU lG.size ou.below.size
  have pO:jP w w2/\U 25 w2 g (mR a sn (.slice sp a.kids.length cap))/\U 25 w2 g2 (mR b TH (.slice qQ b.kids.length oa)) :=
    ⟨ou.below.trans (mK.below.mono ou.below.size), ou.blk.below mK.below ou.blk.lt, mK.blk⟩
  clear ou mK; generalize hS:(fun wx:World=>jP w wx/\U 25 wx g (mR a sn (.slice sp a.kids.length cap))/\U 25 wx g2 (mR b TH (.slice qQ b.kids.length oa)))=S; have ZO:∀ {wa wb:World}, S wa->jP wa wb->S wb := by
    intro wa wb h hd; subst hS; exact⟨h.1.trans (hd.mono h.1.size), h.2.1.below hd h.2.1.lt, h.2.2.below hd h.2.2.lt⟩
  have NI:∀ {wa wb}, S wa->Lq wa wb->S wb := fun h hd=>ZO h (hd.below _); have c0:∀wx, S wx->wx.cell? (Aq g 0)=some (Iq a.k) := fun wx h=>by subst hS; exact h.2.1.cell 0 jM
  have c1:∀wx, S wx->wx.cell? (Aq g 1)=some (Iq a.n) := fun wx h=>by subst hS; exact h.2.1.cell 1 jM
  have c3:∀wx, S wx->wx.cell? (Aq g 3)=some (.string a.t) := fun wx h=>by subst hS; exact h.2.1.cell 3 jM
  have c4:∀wx, S wx->wx.cell? (Aq g 4)=some sn := fun wx h=>by subst hS; exact h.2.1.cell 4 jM
  have c5:∀wx, S wx->wx.cell? (Aq g 5)=some (.slice sp a.kids.length cap) := fun wx h=>by subst hS; exact h.2.1.cell 5 jM
  have d0:∀wx, S wx->wx.cell? (Aq g2 0)=some (Iq b.k) := fun wx h=>by subst hS; exact h.2.2.cell 0 jM
  have d1:∀wx, S wx->wx.cell? (Aq g2 1)=some (Iq b.n) := fun wx h=>by subst hS; exact h.2.2.cell 1 jM
  have d3:∀wx, S wx->wx.cell? (Aq g2 3)=some (.string b.t) := fun wx h=>by subst hS; exact h.2.2.cell 3 jM
  have d4:∀wx, S wx->wx.cell? (Aq g2 4)=some TH := fun wx h=>by subst hS; exact h.2.2.cell 4 jM
  have d5:∀wx, S wx->wx.cell? (Aq g2 5)=some (.slice qQ b.kids.length oa) := fun wx h=>by subst hS; exact h.2.2.cell 5 jM
  have cR:∀wx, S wx->wx.rangeAt g 0 (mR a sn (.slice sp a.kids.length cap)) := fun wx h=>by subst hS; exact U.rangeAt h.2.1
  have dR:∀wx, S wx->wx.rangeAt g2 0 (mR b TH (.slice qQ b.kids.length oa)) := fun wx h=>by subst hS; exact U.rangeAt h.2.2
  have rQ:∀wx, S wx->jP w wx := fun wx h=>by subst hS; exact h.1
  have rX:∀wx, S wx->jP w0 wx := fun wx h=>lG.trans ((rQ _ h).mono lG.size); replace pO:S w2 := by subst hS; exact pO
  clear hS; apply G _; refine WC.drawn 5 S fun w3 Fa=>?_; have hS := NI pO Fa; apply jC [0, 3] hS _; apply jz 1 [2, 5, 6, 7] c0 hS; apply jz 4 [5, 6, 7] d0 hS; apply jS 2; apply jx func114 (Jz _ w3); rintro e _ ⟨rfl, rfl⟩; refine⟨_, rfl, ?_⟩; apply lI hS; apply jS 5; apply jx func114 (Jz _ w3); rintro e _ ⟨rfl, rfl⟩; refine⟨_, rfl, ?_⟩; apply(jZ)
  (apply ke 6 rfl _; apply ke 7 rfl _)
  apply(jD); have KA:(sU a.k=3/\(a.k=3\/a.k=4))\/(sU a.k=a.k/\a.k≠3/\a.k≠4) := by unfold sU; split<;>omega
  have hcb:(sU b.k=3/\(b.k=3\/b.k=4))\/(sU b.k=b.k/\b.k≠3/\b.k≠4) := by unfold sU; split<;>omega
  unfold ordV; generalize sU a.k=ca at KA ⊢; generalize sU b.k=cb at hcb ⊢
  by_cases he:ca=cb
  case neg=>
    rw[aa he]; apply G _; apply jx iu (uG _ _ w3); rintro e _ ⟨rfl, rfl⟩; refine⟨_, rfl, ?_⟩; apply G _; exact J ⟨rfl, rQ _ hS⟩
  rw[ag he]
  by_cases q2:ca=2
  · rw[ag (I:a.k=2\/a.k=5)]
    apply G _; apply Y (c1 _ hS); apply G _; apply Y (d1 _ hS); apply jx iu (uG _ _ w3); rintro e _ ⟨rfl, rfl⟩; refine⟨_, rfl, ?_⟩; apply G _; exact J ⟨rfl, rQ _ hS⟩
  by_cases q5:ca=5
  · rw[ag (I:a.k=2\/a.k=5)]
    apply G _; apply Y (c1 _ hS); apply G _; apply Y (d1 _ hS); apply jx iu (uG _ _ w3); rintro e _ ⟨rfl, rfl⟩; refine⟨_, rfl, ?_⟩; apply G _; exact J ⟨rfl, rQ _ hS⟩
  rw[aa (show ¬(a.k=2\/a.k=5) by omega)]
  by_cases q3:ca=3
  · rw[ag (I:a.k=3\/a.k=4)]
    apply G _; apply jy (cR _ hS) rfl; apply jy (dR _ hS) rfl; apply jx func116 (BJ a b sn _ TH _ w3 ra rb (Kx I) (RA I)); rintro e w4 ⟨rfl, nk⟩; refine⟨_, rfl, ?_⟩; apply G _; exact J ⟨rfl, rQ _ (ZO hS nk)⟩
  rw[aa (show ¬(a.k=3\/a.k=4) by omega)]
  by_cases q6:ca=6
  · rw[ag (I:a.k=6\/a.k=7)]
    apply G _; apply Y (c3 _ hS); apply G _; apply Y (d3 _ hS); apply jx func117 (FQ _ _ w3); rintro e _ ⟨rfl, rfl⟩; refine⟨_, rfl, ?_⟩; apply G _; exact J ⟨rfl, rQ _ hS⟩
  by_cases q7:ca=7
  · rw[ag (I:a.k=6\/a.k=7)]
    apply G _; apply Y (c3 _ hS); apply G _; apply Y (d3 _ hS); apply jx func117 (FQ _ _ w3); rintro e _ ⟨rfl, rfl⟩; refine⟨_, rfl, ?_⟩; apply G _; exact J ⟨rfl, rQ _ hS⟩
  rw[aa (show ¬(a.k=6\/a.k=7) by omega)]; have hak:ca=a.k := I; generalize hD:NW (ordV m) (decide (a.k=9)) a b=D; apply G _; refine WC.loop (fun i:Nat=>[(2, jV g), (3, jV g2), (5, Iq ca), (7, Iq i)])
    (fun i w'=>i<=a.kids.length/\i<=b.kids.length/\S w'/\∀j, j<i->D j=0) (fun i=>a.kids.length - i) 0 kz ⟨ay _, ay _, hS, fun j hj=>absurd hj I⟩ ?_
  clear hS Fa pO; rintro i wr ⟨hi, Fc, hS, lO⟩
  by_cases h1:i<a.kids.length
  case neg=>
    apply G _; apply Y (c5 _ hS); apply G _; apply Y (c5 _ hS); apply G _; apply Y (d5 _ hS); apply G _; apply jx iu (uG _ _ wr); rintro e _ ⟨rfl, rfl⟩; refine⟨_, rfl, ?_⟩; apply G _; exact J ⟨nX (P8 fun j hj=>lO j I).symm, rQ _ hS⟩
  by_cases h2:i<b.kids.length
  case neg=>
    apply G _; apply Y (c5 _ hS); apply G _; apply Y (d5 _ hS); apply G _; apply Y (c5 _ hS); apply G _; apply Y (d5 _ hS); apply G _; apply jx iu (uG _ _ wr); rintro e _ ⟨rfl, rfl⟩; refine⟨_, rfl, ?_⟩; apply G _; exact J ⟨nX (P8 fun j hj=>lO j I).symm, rQ _ hS⟩
  obtain⟨kb, ko, rfl, qp, lP⟩ := kF I; obtain⟨kb', ko', rfl, arQ, aeK⟩ := agT I; clear kF agT; obtain⟨c, oh, qw, nW⟩ := lP i h1; obtain⟨c', alp, alK, t_⟩ := aeK i h2; have kR:∀wx, S wx->wx.rangeAt kb (ko+i*6) c := fun wx h j u hu=>by rw[(rX _ h).cell (p := Aq kb (ko+i*6+j)) qp]; exact nW j u hu
  have kR':∀wx, S wx->wx.rangeAt kb' (ko'+i*6) c' := fun wx h j u hu=>by rw[(rX _ h).cell (p := Aq kb' (ko'+i*6+j)) arQ]; exact t_ j u hu
  apply G _; apply Y (c5 _ hS); apply G _; apply Y (d5 _ hS); apply G _
  -- the names first, in a Struct; then the kids
  by_cases q9:ca=9
  · skip
    have l1:a.names.length=a.kids.length := (a8 I).1; have l2:b.names.length=b.kids.length := (b8 I).1; have p1:0<a.names.length := I; have p2:0<b.names.length := I; obtain⟨nsp, az2, rfl, aAu, azF, azN, ahu⟩ := wu; obtain⟨aAk, avY, rfl, awm, ayH, awO, Z4⟩ := anP; obtain⟨nb, no, rfl, tX, sM⟩ := ahu p1; obtain⟨nb', no', rfl, atD, UU⟩ := Z4 p2; clear ahu Z4; apply WC.sE rfl q9; apply G _; refine WC.drawn 10 S fun wd Ii=>?_; replace hS := NI hS Ii; apply jC [0, 2, 5, 7] hS _; apply jz 1 [3, 4, 10, 11] c4 hS; apply ss 3 i (no+i) rfl rfl rfl rfl rfl rfl rfl rfl rfl I I (.inr hS); apply jz 4 [10, 11] (fun wx hx=>((rX _ hx).cell (p := Aq nb (no+i)) tX).trans (sM i I)) hS; apply jz 6 [8, 9, 10, 11] d4 hS; apply ss 8 i (no'+i) rfl rfl rfl rfl rfl rfl rfl rfl rfl I I (.inr hS); apply jz 9 [10, 11] (fun wx hx=>((rX _ hx).cell (p := Aq nb' (no'+i)) atD).trans (UU i I)) hS; apply jS 10; apply jx func117 (FQ _ _ wd); rintro e _ ⟨rfl, rfl⟩; refine⟨_, rfl, ?_⟩; apply(jZ)
    (apply ke 11 rfl _)
    apply(jD); generalize CP:cmpB (a.names.getD i kZ).toList (b.names.getD i kZ).toList=cv
    by_cases Dz:cv=0
    case neg=>
      have hDi:D i=cv := by
        rw[<-hD]; unfold NW; rw[aw (I:a.k=9), ag rfl, CP, aa Dz]
      apply G _; exact J ⟨nX ((NC I lO (by rw[hDi]; exact Dz)).trans hDi).symm, rQ _ hS⟩
    have hDi:D i=ordV m (a.kids.getD i mM) (b.kids.getD i mM) := by
      rw[<-hD]; unfold NW; rw[aw (I:a.k=9), ag rfl, CP, ag Dz]
    apply G _; refine WC.drawn 10 S fun wd Ii=>?_; replace hS := NI hS Ii; apply jC [0, 2, 5, 7] hS _; apply jz 1 [3, 4, 10, 11] c5 hS; apply kY 3 i (ko+i*6) h1 (.inr hS); apply kG 4 [10, 11] kR oh hS; apply jz 6 [8, 9, 10, 11] d5 hS; apply kY 8 i (ko'+i*6) h2 (.inr hS); apply kG 9 [10, 11] kR' alp hS; apply jS 10; apply jx func76 (ih qw alK (rX _ hS) (qB ha h1) (qB hb h2)); rintro e w5 ⟨rfl, qv⟩; refine⟨_, rfl, ?_⟩; replace hS := ZO hS qv; apply(jZ)
    (apply ke 11 rfl _)
    apply(jD); rw[<-hDi]; generalize XC:D i=di
    by_cases MD:di=0
    · apply G _
      exact WQ.again (i+1) kz ⟨h1, h2, hS, fun j hj=>(cn.1 hj).elim (lO j) (fun e=>by rw[e, XC, MD])⟩ (by show a.kids.length - (i+1)<a.kids.length - i; omega)
    · apply G _
      exact J ⟨nX ((NC I lO (by rw[XC]; exact MD)).trans XC).symm, rQ _ hS⟩
  · have hDi:D i=ordV m (a.kids.getD i mM) (b.kids.getD i mM) := by
      rw[<-hD]; unfold NW; rw[ar (I:¬a.k=9), aa dH, ag rfl]
    apply WC.q_ rfl q9; apply G _; refine WC.drawn 10 S fun wd Ii=>?_; replace hS := NI hS Ii; apply jC [0, 2, 5, 7] hS _; apply jz 1 [3, 4, 10, 11] c5 hS; apply kY 3 i (ko+i*6) h1 (.inr hS); apply kG 4 [10, 11] kR oh hS; apply jz 6 [8, 9, 10, 11] d5 hS; apply kY 8 i (ko'+i*6) h2 (.inr hS); apply kG 9 [10, 11] kR' alp hS; apply jS 10; apply jx func76 (ih qw alK (rX _ hS) (qB ha h1) (qB hb h2)); rintro e w5 ⟨rfl, qv⟩; refine⟨_, rfl, ?_⟩; replace hS := ZO hS qv; apply(jZ)
    (apply ke 11 rfl _)
    apply(jD); rw[<-hDi]; generalize XC:D i=di
    by_cases MD:di=0
    · apply G _
      exact WQ.again (i+1) kz ⟨h1, h2, hS, fun j hj=>(cn.1 hj).elim (lO j) (fun e=>by rw[e, XC, MD])⟩ (by show a.kids.length - (i+1)<a.kids.length - i; omega)
    · apply G _
      exact J ⟨nX ((NC I lO (by rw[XC]; exact MD)).trans XC).symm, rQ _ hS⟩
theorem yU:∀(m:Nat) {f f':Nat}{w0 w:World}{a b:V}{cs rU:kL}, mj f w0 a cs->mj f' w0 b rU->jP w0 w->chk m a=0->chk m b=0->
      Calls prog 76 #[.agg cs.toArray, .agg rU.toArray] w fun e w'=>e=.returned (Iq (ordV m a b))/\jP w w'
  | 0, _, _, _, _, _, _, _, _, _, _, _, h, _=>by cases h
  | _+1, 0, _, _, _, _, _, _, _, h, _, _, _, _=>h.elim
  | _+1, _+1, 0, _, _, _, _, _, _, _, h, _, _, _=>h.elim
  | m+1, _+1, _+1, _, _, _, _, _, _, h1, h2, h3, h4, h5=>TN m (yU m) h1 h2 h3 h4 h5
section
variable {n:NN}{ops:Array Oper}{Q:Exit->Act->World->Prop}{rest:List Oper}{o:Oper}{d:Nat}{l:Env}{w:World}
theorem WL.apq {t e s:Nat}{x:Operand}(j:Nat)(hg:o.guard=none)(hd:o.dst=some d)(hn:Nat.blt d n.n=true)(ho:o.op=.slice t x none (some hi) none)(ht:tyOf ty t=some (.slice e s))(hx:kS l x=some (.slice sp m cap))(qZ:kS l hi=some (.int k1 y))(hy:y=(j:Int))(hc:j<=cap)(h:WL n ops Q rest ((d,sliced sp 0 j cap s)::l) w): WL n ops Q (o::rest) l w:=by
 subst hy;refine WL.step hg hd hn (v:=sliced sp 0 j cap s) (fun a ha=>?_) h;obtain⟨hu,lJ⟩:=oO.of oz ht;have he:prog.elem t=e:=by simp[Program.elem,hu]
 have J7:prog.underlying t=some (.slice (prog.elem t)):=by rw[he];exact hu
 have hs:(sizeOf e).run prog w=.ok s w:=by
  cases hq:prog.info? e with
  | none=>rw[hq]at lJ;cases lJ
  | some q=>rw[hq]at lJ;simp at lJ;simp[sizeOf,typeInfo,hq,lJ]
 unfold execOp;rw[ho];simp[ha.eval hx,ha.eval qZ,iq w t _ _ _ _ J7,run_slice_h w t sp m cap J7 k1 (j:Int) I I,he,hs]
theorem WL.apk {t e s:Nat}{x lo:Operand}(j:Nat)(hg:o.guard=none)(hd:o.dst=some d)(hn:Nat.blt d n.n=true)(ho:o.op=.slice t x (some lo) none none)(ht:tyOf ty t=some (.slice e s))(hx:kS l x=some (.slice sp m cap))(sT:kS l lo=some (.int k1 y))(hy:y=(j:Int))(hc:j<=m)(h:WL n ops Q rest ((d,sliced sp j m cap s)::l) w): WL n ops Q (o::rest) l w:=by
 subst hy;refine WL.step hg hd hn (v:=sliced sp j m cap s) (fun a ha=>?_) h;obtain⟨hu,lJ⟩:=oO.of oz ht;have he:prog.elem t=e:=by simp[Program.elem,hu]
 have J7:prog.underlying t=some (.slice (prog.elem t)):=by rw[he];exact hu
 have hs:(sizeOf e).run prog w=.ok s w:=by
  cases hq:prog.info? e with
  | none=>rw[hq]at lJ;cases lJ
  | some q=>rw[hq]at lJ;simp at lJ;simp[sizeOf,typeInfo,hq,lJ]
 unfold execOp;rw[ho];simp[ha.eval hx,ha.eval sT,iq w t _ _ _ _ J7,run_slice_l w t sp m cap J7 k1 (j:Int) I I,he,hs]
end
theorem ph.auK {n:Nat}{l:kL}(h:ph w O m (.slice sp n cap) n l){k:Nat}(hk:k<=n): ph w O m (sliced sp 0 k cap m) k (l.take (k*m)):=by
 obtain⟨h1,h2,qQ,oa,e,h3,h4,h5,h6⟩:=h;obtain⟨rfl,-,rfl⟩:sp=qQ/\n=n/\cap=oa:=by injection e with a b c;exact⟨a,b,c⟩
 have hle:k*m<=n*m:=cK _ hk;refine⟨by rw[aC];omega,fun u hu=>h2 u (bP hu),if cap=0 then sp else sp.map (·.add (0*m)),cap,rfl,I,h4,fun hn=>?_,fun h0=>?_⟩
 ·by_cases e0:cap=0
  ·exact e0
  ·rw[aa e0]at hn
   cases sp with
   | none=>exact h5 rfl
   | some p=>cases hn
 ·obtain⟨b,o,rfl,hb,hO,hr⟩:=h6 I
  refine⟨b,o,?_,hb,hO,fun j hj=>?_⟩
  ·rw[aa I];simp[Addr.add_mid]
  ·rw[aC]at hj
   rw[hr j I,ah,ah,cS I]
theorem ph.aoy {n:Nat}{l:kL}(h:ph w O m (.slice sp n cap) n l){k:Nat}(hk:k<=n): ph w O m (sliced sp k n cap m) (n - k) (l.drop (k*m)):=by
 obtain⟨h1,h2,qQ,oa,e,h3,h4,h5,h6⟩:=h;obtain⟨rfl,-,rfl⟩:sp=qQ/\n=n/\cap=oa:=by injection e with a b c;exact⟨a,b,c⟩
 have hle:k*m<=n*m:=cK _ hk;refine⟨by rw[aQ,h1,Nat.sub_mul],fun u hu=>h2 u (dV hu),if cap=k then sp else sp.map (·.add (k*m)),cap - k,rfl,I,I,fun hn=>?_,fun h0=>?_⟩
 ·by_cases e0:cap=k
  ·omega
  ·rw[aa e0]at hn
   cases sp with
   | none=>have:=h5 rfl;omega
   | some p=>cases hn
 ·obtain⟨b,o,rfl,hb,hO,hr⟩:=h6 I
  refine⟨b,o+k*m,?_,hb,hO,fun j hj=>?_⟩
  ·rw[aa I];simp[Addr.add_mid]
  ·rw[aQ]at hj
   rw[show o+k*m+j=o+(k*m+j) by omega,hr (k*m+j) I,ah,ah,dJ]
theorem Ok {m:Nat}:∀ {k:List (kL)}(j:Nat),(∀x∈k,x.length=m)->j<=k.length->k.flatten.take (j*m)=(k.take j).flatten/\k.flatten.drop (j*m)=(k.drop j).flatten
 | k,0,_,_=>jM
 | [],j+1,_,hj=>absurd hj jM
 | a::k,j+1,h,hj=>by
  have ha:=h a jM;obtain⟨h1,h2⟩:=Ok (k:=k) j (fun x hx=>h x (by simp[hx])) (by simpa using hj);have e:(j+1)*m=a.length+j*m:=by rw[gJ,ha];omega
  refine⟨?_,?_⟩
  ·rw[dY,e,List.take_length_add_append,h1];simp
  ·rw[dY,e,List.drop_length_add_append,h2];simp
theorem PM (l:List α)(z x:α){k:Nat}(j:Nat)(hk:k<=l.length): (l.take k++x::l.drop k).getD j z=if j<k then l.getD j z else if j=k then x else l.getD (j - 1) z:=by
 rw[ah,List.getElem?_append,aC,iM hk]
 by_cases h1:j<k
 ·rw[ag h1,ag h1,cS h1,ah]
 ·rw[aa h1,aa h1]
  by_cases h2:j=k
  ·rw[ag h2,h2,gE];rfl
  ·rw[aa h2]
   obtain⟨q,hq⟩:∃q,j - k=q+1:=⟨j - k - 1,I⟩;rw[hq,cA,dJ,ah,show k+q=j - 1 by omega]
theorem kC.lay {e:TypeId}{z:α}{P:α->kL->Prop}{v:Value}{x:α}{k:Nat}(hk:k<=l.length)(h1:mZ.length=l.length)(h2:∀j,j<l.length->(mZ.getD j []).length=m/\P (l.getD j z) (mZ.getD j []))(hc:cs.length=m)(hp:P x cs)(h:jY e m w O v (l.length+1) ((mZ.take k).flatten++cs++(mZ.drop k).flatten)): kC e m z P O w v (l.take k++x::l.drop k):=by
 have hl:(l.take k++x::l.drop k).length=l.length+1:=by rw[af,ak,aC,aQ];omega
 refine⟨mZ.take k++cs::mZ.drop k,by rw[hl,af,ak,aC,aQ];omega,fun j hj=>?_,?_⟩
 ·rw[hl]at hj
  rw[PM l z x j hk,PM mZ [] cs j I]
  by_cases q1:j<k
  ·rw[ag q1,ag q1];exact h2 j I
  ·rw[aa q1,aa q1]
   by_cases q2:j=k
   ·rw[ag q2,ag q2];exact⟨hc,hp⟩
   ·rw[aa q2,aa q2];exact h2 (j - 1) I
 ·rw[hl,show(mZ.take k++cs::mZ.drop k).flatten=(mZ.take k).flatten++cs++(mZ.drop k).flatten by simp]
  exact h
end K
namespace Ix
open K Tre
open Vw (Rw kE ni rD nw tG zU qx nT Inv j9 CD nv)
abbrev hiT:Nat:=173
abbrev V8:Nat:=25
def HP (D:Nat->Prop)(k:Nat)(w:World)(x:Au)(cs:kL):Prop:=∃dc,cs=Iq x.1::dc/\lz D k w x.2 dc
theorem HP.below {k:Nat}{x:Au}(h:HP D k w x cs)(hb:jP w w'): HP D k w' x cs:=by
 obtain⟨dc,e,h⟩:=h;exact⟨dc,e,h.jA (Z.jw hb) (fun _ _ hl=>hl) (fun _ h=>h)⟩
theorem YC: na prog 125 hiT 7 96:=na.mk' (z:=.agg #[Iq 0,Iq 0,Iq 0,Iq 0,.string ByteArray.empty,kP,kP]) underlying125 jG rfl I
theorem akp (n n1 n2 n3:Int)(tx:lD)(sp sq:Option Addr)(a1 a2 c1 c2:Nat): prog.built hiT [(0,Iq n),(1,.agg #[Iq n1,Iq n2,Iq n3,.string tx,.slice sp a1 c1,.slice sq a2 c2])]=some [Iq n,Iq n1,Iq n2,Iq n3,.string tx,.slice sp a1 c1,.slice sq a2 c2].toArray:=jG
theorem aeX {k:Nat}{v:V}{fc:kL}(h:mj k w v fc)(n:Int): prog.built hiT [(0,Iq n),(1,.agg fc.toArray)]=some (Iq n::fc).toArray:=by
 cases k with
 | zero=>exact h.elim
 | succ k=>
  obtain⟨sn,sk,rfl,-,-,-,-,⟨np,nc,rfl,-⟩,⟨sp,cap,rfl,-⟩⟩:=h;exact akp n v.k v.n v.s v.t np sp _ _ nc cap
theorem L9 (s:Vw.St)(t:Int): (if Vw.AS s t=true then nT s t else[])=nT s t:=by
 by_cases h:Vw.AS s t=true
 ·rw[ag h]
 ·rw[aa h]
  unfold nT
  symm
  rw[List.filterMap_eq_nil_iff];intro i _;unfold Vw.lU;rw[aa h]
theorem PT {k:Nat}{s:Vw.St}(h:qx w rb M D (k+1) s N)(hi:Inv s)(hd:sH s)(t:Int)(f:ByteArray):
  Calls prog 47 #[.pointer (some ⟨rb,0,none⟩),.int .i64 t,.string f] w fun e w'=>Below w.heap.size w w'/\∃v H,e=.returned v/\u7 f (lS s t) H/\H.length<=1000000/\m6 7 AZ (HP (fun b=>w.heap.size<=b) k w') (fun b=>w.heap.size<=b) w' v H:=by
 have hN:s.rows.length<=1000000:=by obtain⟨_,_,_,_,_,hp⟩:=id h;have:=hp.ok;omega
 have mq:=Ie hi hd (by omega) t;have hlen:=Ez s t;apply kq func47 ntmps47;apply G _;apply jx func74 (CD h t fun r hr ht=>by have:=hi.doc r hr;rw[ht]at this;exact this);rw[L9];rintro _ w1 ⟨b1,lv,rfl,hE⟩;refine⟨_,rfl,?_⟩;have z1:=b1.size;have hg:=BD hi t;generalize nT s t=L at hE mq hlen hg;obtain⟨mB,yx,rfl,-⟩:=id hE;apply G _;refine WC.loop (fun x:Nat×Value=>[(2,.string f),(7,x.2),(8,.slice mB L.length yx),(9,.int .i64 x.1)])
  (fun x wx=>x.1<=L.length/\Below w1.heap.size w1 wx/\∃H:List Au,u7 f (vW (L.take x.1)) H/\H.length<=x.1/\kC hiT 7 AZ (HP (fun b=>w.heap.size<=b) k wx) (fun b=>w1.heap.size<=b) wx x.2 H) (fun x=>L.length - x.1) (0,.slice none 0 0) ⟨rfl,rfl,rfl,rfl,trivial⟩
  ⟨ay _,Below.refl _ _,[],u7.nil,ay _,kC.nil _ _ _ _ _ _⟩ ?_
 rintro⟨i,ov⟩ wl ⟨Kn,bl,H,hH,hHl,hO⟩;simp only at Kn hH hHl hO;have zl:=bl.size
 by_cases kt:i<L.length
 case neg=>
  have:L.take i=L:=bg (by omega);rw[this]at hH;apply G _;exact J ⟨b1.trans (bl.mono z1),_,H,rfl,hH.congr fun n=>(hg n).symm,by omega,m6.mono hO.kN (fun b hb=>by omega) (fun _ _ h=>h)⟩
 case pos=>
 obtain⟨b,o,cap,dc,qD,hb,-,ly,CV,AT,nE⟩:=nw hE kt;obtain⟨rfl,-,rfl⟩:mB=some ⟨b,o,none⟩/\L.length=L.length/\yx=cap:=by injection qD with a b c;exact⟨a,b,c⟩
 have zJ:L.getD i kE∈L:=by rw[ah,ai kt];exact aH kt
 have Yo:∀r∈L.take i,r.doc<(L.getD i kE).doc:=fun r hr=>by
  obtain⟨j,hj,rfl⟩:=cT.1 hr;rw[aC]at hj;rw[List.getElem_take,ah,ai kt];exact gZ.1 mq.OR j i (by omega) kt (by omega)
 have xE:L.take (i+1)=L.take i++[L.getD i kE]:=by
  rw[aK,ah,ai kt];rfl
 obtain⟨DM,Cm,-,BV⟩:=mq.ok _ zJ;have tp:Gd (vW (L.take i)):=VP ⟨fun r hr=>mq.ok r (bP hr),mq.OR.sublist (ir _ _)⟩;obtain⟨rY,nI⟩:=Mm Yo;rw[<-xE]at rY;have amg:=hH.below Yo;generalize L.getD i kE=r at ly CV AT nE zJ Yo DM Cm BV rY nI amg;have Bw:=(bl.cell (p:=⟨b,o+i*14+1,none⟩) hb).trans ly.doc;have wI:wl.rangeAt b (o+i*14+3) dc:=fun j u hu=>(bl.cell (p:=⟨b,o+i*14+3+j,none⟩) hb).trans (ly.data j u hu);have lM:=CV.len;have wU:=(CV.sN).below bl;clear ly;apply G _;apply jQ i (o+i*14) kt;apply G _;apply jy wI lM;apply G _;apply jx func75 (JT (B:=3000) (by omega) f wU nE);rintro _ w2 ⟨b2,oH⟩;cases ud:fldR r.data f with
 | none=>
  rw[ud]at oH;refine⟨_,oH,?_⟩;apply G _;refine jJ (z:=.agg jK.toArray) (fun _=>jG) fun g3 w3 f3=>?_;apply jE f3.blk (oe (fun _=>True) 0 w).one;obtain⟨-,b3,-,-⟩:=nv jK (Below.refl w2.heap.size w2) f3;generalize w3.setRow g3 _=w4 at b3 ⊢;have Un:=b2.trans (b3.mono b2.size);apply G _;refine WQ.again (i+1,ov) ⟨rfl,rfl,rfl,rfl,trivial⟩ ⟨by show i+1<=L.length;omega,bl.trans (Un.mono zl),H,(hH.skip nI ud).congr rY,by show H.length<=i+1;omega,hO.jA (Z.jw Un) (fun g hg=>hO.lt hg) (fun _ h=>h) (fun _ _ h=>h.below Un)⟩ (by show L.length - (i+1)<L.length - i;omega)
 | some v=>
  rw[ud]at oH;obtain⟨fc,rfl,k_⟩:=oH;refine⟨_,rfl,?_⟩;have oH:=k_.len;apply G _;refine jJ (z:=.agg jK.toArray) (fun _=>jG) fun g3 w3 f3=>?_;apply jE (hm:=oH) f3.blk k_.one;obtain⟨v4,b3,-,e4⟩:=nv fc (Below.refl w2.heap.size w2) f3;generalize w3.setRow g3 _=w4 at v4 b3 ⊢;clear f3;have Un:=b2.trans (b3.mono b2.size);have z2:=b2.size;have z4:=Un.size;have aab:lz (fun b=>w.heap.size<=b) k w4 v fc:=k_.jA (Z.jw b3) (fun _ _ hl=>hl) (fun b hb=>by omega);have hO4:=hO.jA (P':=HP (fun b=>w.heap.size<=b) k w4) (Z.jw Un) (fun g hg=>hO.lt hg) (fun _ h=>h) (fun _ _ h=>h.below Un);clear hO k_ b3 b2;obtain⟨mZ,DZ,mW,W4⟩:=hO4;obtain⟨YO,Yy,rfl,Sz,xI⟩:=W4.slice;have V0:=bl.trans (Un.mono zl);have wC:=u6 Cm ud;have l4:=U.lt v4;apply G _;refine WC.loop (fun q:Nat=>[(2,.string f),(7,.slice YO H.length Yy),(8,.slice (some ⟨b,o,none⟩) L.length yx),(9,.int .i64 i),(10,.pointer (some ⟨g3,0,none⟩)),(12,.int .i64 q)])
   (fun q wx=>q<=H.length/\Below w4.heap.size w4 wx/\∀j,q<=j->j<H.length->0<ordV 16 (H.getD j AZ).2 v) (fun q=>q) H.length ⟨rfl,rfl,rfl,rfl,rfl,rfl,trivial⟩ ⟨aj _,Below.refl _ _,fun j h1 h2=>by omega⟩ ?_
  rintro q wq ⟨hq,bq,OM⟩;apply WC.seq;apply WC.seq;refine WC.tn (fun c:Bool=>[(2,.string f),(7,.slice YO H.length Yy),(8,.slice (some ⟨b,o,none⟩) L.length yx),(9,.int .i64 i),(10,.pointer (some ⟨g3,0,none⟩)),(12,.int .i64 q),(49,.bool c)])
   (fun c wx=>Below w4.heap.size w4 wx/\c=decide (q≠0/\0<ordV 16 (H.getD (q - 1) AZ).2 v)) rfl ?_ ?_
  ·have kN:=kC.kN ⟨mZ,DZ,mW,W4⟩
   have bql:=V0.trans (bq.mono V0.size)
   by_cases UE:q=0
   ·subst UE
    apply G _;refine WC.drawn 10 (fun wx=>Below wq.heap.size wq wx) fun Hd kv=>?_;have hS:Below wq.heap.size wq Hd:=kv.below _;clear kv;apply jC [0,1,2,3,4,5,6,7,8,9] hS _;apply jS 10;apply WL.off rfl rfl rfl;apply(jZ)
    (apply ke 11 rfl _;apply ke 12 rfl _)
    apply(jD);exact WQ.meet false ⟨rfl,rfl,rfl,rfl,rfl,rfl,rfl,trivial⟩ ⟨bq.trans (hS.mono bq.size),by simp⟩
   ·have E0:q - 1<H.length:=by omega
    obtain⟨qQ,oa,e,-,-,-,hr⟩:=kN;obtain⟨rfl,-,rfl⟩:YO=qQ/\H.length=H.length/\Yy=oa:=by injection e with a b c;exact⟨a,b,c⟩
    replace hr:=hr (by omega);obtain⟨bo,oo,rfl,RQ,-,hr⟩:=hr;obtain⟨cs,-,⟨dq,rfl,hdq⟩,hcs⟩:=hr (q - 1) E0;have hgq:=hH.oP tp (H.getD (q - 1) AZ) (by rw[ah,ai E0];exact aH E0);have ara:w4.rangeAt bo (oo+(q - 1)*7+1) dq:=fun j u hu=>by
     have:=hcs (j+1) u hu;rw[show oo+(q - 1)*7+1+j=oo+(q - 1)*7+(j+1) by omega];exact this
    have atC:=hdq.len;apply G _;refine WC.drawn 10 (fun wx=>Below wq.heap.size wq wx) fun Hd kv=>?_;have hS:Below wq.heap.size wq Hd:=kv.below _;clear kv;have bqx:∀wx,Below wq.heap.size wq wx->Below w4.heap.size w4 wx:=fun wx hx=>bq.trans (hx.mono bq.size);apply jC [0,1,2,3,4,5] hS _;apply kY (hz:=(by omega)) 6 (q - 1) (oo+(q - 1)*7) E0 (.inr hS);apply jC [7] hS _;apply kG 8 [10,11,12] (fun wx hx=>fun j u hu=>((bqx wx hx).cell (p:=⟨bo,oo+(q - 1)*7+1+j,none⟩) RQ).trans (ara j u hu)) atC hS;apply kG 9 [10,11,12] (fun wx hx=>U.rangeAt (U.below v4 (bqx wx hx) l4)) oH hS;apply jS 10;apply(jX);apply jx func76 (yU 16 hdq.sN aab.sN (bqx _ hS) hgq.1 wC);rintro _ w5 ⟨rfl,b5⟩;refine⟨_,rfl,?_⟩;apply(jZ)
    (apply ke 11 rfl _;apply ke 12 rfl _)
    apply(jD);apply WQ.as 49 (.bool (decide (0<ordV 16 (H.getD (q - 1) AZ).2 v))) rfl rfl;exact WQ.meet (decide (0<ordV 16 (H.getD (q - 1) AZ).2 v)) ⟨rfl,rfl,rfl,rfl,rfl,rfl,rfl,trivial⟩ ⟨(bqx _ hS).trans (b5.mono (bqx _ hS).size),by simp[UE]⟩
  ·rintro c wx ⟨bx,hc⟩
   cases c with
   | true=>
    have hc:=aR hc.symm;apply G _;refine WQ.as 12 (.int .i64 ((q - 1:Nat):Int)) rfl (congrArg (Value.int .i64) (by omega)) ?_;exact WQ.again (q - 1) ⟨rfl,rfl,rfl,rfl,rfl,rfl,trivial⟩ ⟨by omega,bx,fun j h1 h2=>(aW j q).elim (fun h=>by rw[show j=q - 1 by omega];exact hc.2) fun h=>OM j h h2⟩ (by omega)
   | false=>
    have hc:=dI hc.symm;have ami:q=0\/ordV 16 (H.getD (q - 1) AZ).2 v<=0:=by
     by_cases q0:q=0
     ·exact .inl q0
     ·right
      have:¬0<ordV 16 (H.getD (q - 1) AZ).2 v:=fun h=>hc ⟨q0,h⟩;omega
    have vY:=(hH.lay tp nI ud DM Cm BV amg hq OM ami).congr rY;have blx:=V0.trans (bx.mono V0.size);have zx:=bx.size;have z14:=V0.size;have aq8:=W4.j_ (w':=wx) fun g hg=>bx.block g (W4.lt hg);have hm7:=Cv (k:=mZ) (m:=7) fun j hj=>(mW j (by omega)).1;obtain⟨ft,fd⟩:=Ok (k:=mZ) q hm7 (by omega);have nG:=aq8.EM;clear hc OM ami W4;apply G _;refine WL.empty rfl rfl rfl rfl rfl fun g5 w5 f5=>?_;have b5:=f5.below;have e5:=f5.eq;have o5:jY hiT 7 w5 (fun b=>wx.heap.size<=b) (.slice (some ⟨g5,0,none⟩) 0 0) 0 []:=Cr.jY.fresh f5 (fun _ h=>(a_ h).elim) rfl (by omega) (by omega);clear f5;apply G _;refine WL.apq q rfl rfl rfl rfl rfl rfl rfl rfl (by omega) ?_;refine WL.VH rfl rfl rfl rfl YC rfl o5 rfl ((ph.auK nG hq).jA (Z.jw b5) (fun _ _ hl=>hl)) (by omega) (by omega) fun v6 w6 o6 gr6=>?_;have g6:∀x,(Value.slice (some ⟨g5,0,none⟩) 0 0).ownBlock=some x->wx.heap.size<=x:=fun x hx=>by cases hx;exact Nat.le_of_eq e5.symm
    have b6:=b5.trans (gr6.old b5.size g6);have p6:=gr6.own b5.size g6;have z6:=b6.size;rw[aT,ft,bA]at o6;have o6:=o6.mono (O':=fun b=>wx.heap.size<=b) fun b hb=>hb.elim id fun e=>by have:=b5.size;omega
    clear o5 gr6 g6 b5;have b16:=blx.trans (b6.mono blx.size);have atz:∀wy,Below w6.heap.size w6 wy->wy.cell? ⟨b,o+i*14+1,none⟩=some (.int .i64 r.doc):=fun wy hy=>((b16.trans (hy.mono b16.size)).cell (p:=⟨b,o+i*14+1,none⟩) hb).trans ((bl.cell (p:=⟨b,o+i*14+1,none⟩) hb).symm.trans Bw);have v46:∀wy,Below w6.heap.size w6 wy->wy.rangeAt g3 0 fc:=fun wy hy=>U.rangeAt (U.below v4 (bx.trans ((b6.trans (hy.mono z6)).mono zx)) l4);obtain⟨sp6,cp6,rfl,oh,Yp⟩:=o6.slice;apply G _;refine WC.drawn 9 (fun wy=>Below w6.heap.size w6 wy) fun wy kv=>?_;have hS:Below w6.heap.size w6 wy:=kv.below _;clear kv;apply jC [0,1,2] hS _;apply kY 3 i (o+i*14) kt (.inr hS);apply jC [4] hS _;apply jz 5 [7,8,9,10] (fun wy hy=>atz wy hy) hS;apply kG 6 [7,8,9,10] (fun wy hy=>v46 wy hy) oH hS;refine WD.build (Value.int .i64 r.doc::fc) 7 rfl (by kernel_rfl) rfl rfl (fun _ _ _ _ _ h=>h) rfl rfl rfl (aeX aab.sN r.doc) (.inr hS) ?_;apply jS 8;refine lh (hcs:=(by rw[ak,oH])) (cs:=Value.int .i64 r.doc::fc) fun g7 w7 f7=>?_;have ho7:lY (Value.int .i64 r.doc::fc):=fun u hu=>(ax.1 hu).elim (fun e=>by rw[e];rfl) (aab.one u);have h7:=ph.zN f7 ho7;rw[ak,oH]at h7;have b7:=hS.trans (f7.below.mono hS.size);clear f7 hS;apply lI b7;apply jS 9;refine WL.VH rfl rfl rfl rfl YC rfl (o6.j_ fun g hg=>b7.block g (o6.lt hg)) rfl h7 (by omega) (by omega) fun v8 w8 o8 gr8=>?_;have p6':∀x,(Value.slice sp6 q cp6).ownBlock=some x->wx.heap.size<=x:=fun x hx=>o6.own hx;have b78:=gr8.old (B:=wx.heap.size) (aU z6 b7.size) p6';have p8:=gr8.own (aU z6 b7.size) p6';have b8:=b6.trans ((b7.mono z6).trans b78);have o8:=o8.mono (O':=fun b=>wx.heap.size<=b) fun b hb=>hb.elim id fun e=>by have:=b7.size;omega
    apply(jZ)
    (apply ke 10 rfl _)
    apply(jD);have z8:=b8.size;obtain⟨sp8,cp8,rfl,EK,hm8⟩:=o8.slice;clear gr8 h7 o6 b7 b78 p6';apply G _;apply WL.apk q rfl rfl rfl rfl rfl rfl rfl rfl hq;refine WL.VH rfl rfl rfl rfl YC rfl o8 rfl ((ph.aoy nG hq).jA (Z.jw b8) (fun _ _ hl=>hl)) (by omega) (by omega) fun v9 w9 o9 gr9=>?_;have b9:=b8.trans (gr9.old z8 p8);rw[fd,show q+1+(H.length - q)=H.length+1 by omega]at o9;have o9:=o9.mono (O':=fun b=>w1.heap.size<=b) fun b hb=>hb.elim (fun h=>by omega) fun e=>by omega
    have b19:=blx.trans (b9.mono blx.size);have b49:=bx.trans (b9.mono zx);have e9:kC hiT 7 AZ (HP (fun b=>w.heap.size<=b) k w9) (fun b=>w1.heap.size<=b) w9 v9 (H.take q++(r.doc,v)::H.drop q) :=
     kC.lay hq DZ (fun j hj=>⟨(mW j hj).1,(mW j hj).2.below b49⟩) (by rw[ak,oH]) ⟨fc,rfl,aab.jA (Z.jw b49) (fun _ _ hl=>hl) (fun _ h=>h)⟩ o9
    apply G _;exact WQ.again (i+1,v9) ⟨rfl,rfl,rfl,rfl,trivial⟩ ⟨by show i+1<=L.length;omega,b19,_,vY,by rw[af,ak,aC,aQ];show _<=i+1;omega,e9⟩ (by show L.length - (i+1)<L.length - i;omega)
end Ix
namespace Ord
theorem above_any (s:ByteArray)(w:World)(hs:s.size<=4611686018427387904):
  Calls prog 33 #[.string s] w fun e w'=>(∃t,e=.returned (.tuple #[.string t,.bool (!(strip s.toList).isEmpty)])/\t.toList=Aa (strip s.toList))/\Below w.heap.size w w':=by
 go_enter func33,ntmps33
 go_wp2_with fail
 go_loopw [0] (fun x wr=>∃t:ByteArray,x=.string t/\strip t.toList=strip s.toList/\t.size<=s.size/\wr=w) (fun x _=>(match x with|.string t=>t.size|_=>0))
 case atStart=>exact⟨s,rfl,rfl,aj _,rfl⟩
 case round=>
  obtain⟨t,rfl,ht,EZ,rfl⟩:=hrel
  by_cases h0:t.size=0
  ·have g0:(t.size:Int)<=0:=I
   have ht0:=JW h0;have Hst:=jU.mk (show strip s.toList=[] by rw[<-ht,ht0];rfl);have hem:t.toList.isEmpty=true:=by rw[ht0];rfl
   clear ht ht0
   go_wp2_with fail
   go_ret2
   rw[Hst.out];exact⟨⟨ByteArray.mk #[],rfl,JW rfl⟩,Below.refl _ _⟩
  ·have g0:(0:Int)<t.size:=I
   obtain⟨k,hk⟩:∃k,t.size=k+1:=⟨t.size - 1,I⟩;have qf:k<t.size:=I;have e1:(t.size:Int) - 1=(k:Nat):=I;have sD:=U6 hk
   by_cases TA:(t[k]'qf)=255
   ·rw[TA]at sD
    have Hsp:=jU.mk sD;clear sD
    go_wp2_with fail
    refine⟨⟨_,rfl,?_,?_,trivial⟩,?_⟩
    ·rw[<-ht,Hsp.out,Nz]
    ·have:(t.extract 0 k).size=k:=by simp;omega
     omega
    ·have:(t.extract 0 k).size=k:=by simp;omega
     show(t.extract 0 k).size<t.size
     omega
   ·have Hsp:=jU.mk sD
    have hem:t.toList.isEmpty=false:=by rw[sD];simp
    have h2:¬(t[k]'qf).toNat=255:=fun e=>TA (df e);have aAt:(((t[k]'qf).toNat:Int) == 255)=false:=b_.2 I;clear sD
    go_wp2_with fail
    have hwk:IntKind.i64.wrap (k:Int)=(k:Int):=bN _ I;have zr:(k:Int)<=(k:Int)+1:=I;have hwc:IntKind.u8.wrap (((t[k]'qf).toNat:Int)+1)=(((t[k]'qf)+1).toNat:Int):=by
     have h1:=(t[k]'qf).toNat_lt;rw[iL,bL];simp
    apply qz 11 (fun _=>True) jG;have hS:=trivial;apply j8 (i:=0) (.inr hS);apply j8 (i:=1) (.inr hS);apply j8 (i:=2) (.inr hS);apply j8 (i:=3) (.inr hS);apply j8 (i:=4) (.inr hS);apply j8 (i:=5) (.inr hS);apply j8 (i:=6) (.inr hS);apply j8 (i:=7) (.inr hS);apply j8 (i:=8) (.inr hS);apply j8 (i:=9) (.inr hS);apply j8 (i:=10) (.inr hS)
    conv=>{ arg 9;simp[go_sem]}
    refine sy (i:=11) jG rfl ?_;intro K hK
    go_simp
    apply hK _ _ (.inl rfl);clear hK K;have CP:=run_convert_bytes_arg (P:=prog) (wr.alloc (.cells #[.int .u8 (((t[k]'qf).toNat+1) % 256)] 5)).drew 158 5 dt underlying5 wr.heap.size 0 1 1 [((t[k]'qf).toNat+1) % 256] rfl (fun i hi=>by
     obtain rfl:i=0:=I;exact((U.mk wr [.int .u8 (((t[k]'qf).toNat+1) % 256)] 5).drewN 1).cell 0 jM) 9 cF
    have xH:Below wr.heap.size wr (wr.alloc (.cells #[.int .u8 (((t[k]'qf).toNat+1) % 256)] 5)).drew:=((Z.jw ((Below.refl _ wr).alloc (aj _) _)).drewN 1).below;have alq:(strOfNums [(((t[k]'qf).toNat:Int)+1) % 256]).toList=[(t[k]'qf)+1]:=by
     rw[aJ,iW];have h1:=(t[k]'qf).toNat_lt;have e:((((t[k]'qf).toNat:Int)+1) % 256).toNat=(t[k]'qf).toNat+1:=I;simp only[aY,dy,e]
     congr 1
    have lJ:=strOfNums_size [(((t[k]'qf).toNat:Int)+1) % 256];have hu:(t.extract 0 k).size=k:=by simp;omega
    have Hbw:=jU.mk xH;have ald:=jU.mk alq;clear xH alq;generalize strOfNums [(((t[k]'qf).toNat:Int)+1) % 256]=x at CP ald lJ;generalize t.extract 0 k=u at Hsp hu ⊢;refine sy (i:=12) jG rfl ?_;intro K hK
    go_simp
    apply hK _ _ (.inl rfl);clear hK K;have hx1:x.size=1:=by simpa using lJ
    have ayd:¬9223372036854775807<k+1:=I;have ae6:¬(9223372036854775807:Int)<((u.size:Int)+(x.size:Int)):=I;have azC:((u.size:Int)+(x.size:Int))<=(9223372036854775807:Int):=I;clear CP
    conv=>{ arg 9;simp[go_sem]}
    apply j8 (i:=13) (.inl rfl);apply j8 (i:=14) (.inl rfl);apply j8 (i:=15) (.inl rfl);refine wD jG ?_ _;have Hst:=jU.mk (show strip s.toList=u.toList++[t[k]'qf] by rw[<-ht,Hsp.out,Lc _ TA])
    go_wp2_with fail
    go_ret2
    rw[Hst.out];refine⟨⟨u++x,jM,?_⟩,Hbw.out⟩;rw[Pj,aJ,ByteArray.data_append,Array.toList_append,<-aJ,<-aJ,ald.out]
end Ord
namespace Ix
open K Tre
open Vw (iT)
theorem SF (v:V): K.keyOf [v]=zy v:=by
 unfold K.keyOf zy sO;have:firstBad ([v].map (chk 16))=chk 16 v:=by
  show(if chk 16 v=0 then 0 else chk 16 v)=_
  split
  ·rename_i h;rw[h]
  ·rfl
 rw[this]
theorem PE (v:V): firstBad ([v].map (chk 16))=chk 16 v:=by
 show(if chk 16 v=0 then 0 else chk 16 v)=_
 split
 ·rename_i h;rw[h]
 ·rfl
theorem Y8 {k:Nat}(hf:U 25 w g cu)(hu:mj k w u cu): LW k w (nj g 0 1 1) [u]:=by
 refine⟨_,_,rfl,aj _,by decide,fun _=>⟨g,0,rfl,hf.lt,fun j hj=>?_⟩⟩;have hr:=U.rangeAt hf;have h2:j<1:=hj
 match j,h2 with
 | 0,_=>exact⟨cu,hu.len,hu,fun i x hx=>hr i x hx⟩
def uI (w:World)(l:oK)(b:Bool)(e:Ending)(w':World):Prop:=jP w w'/\∃v,e=.returned (.tuple #[v,.bool b])/\m6 1 0 tl (fun x=>w.heap.size<=x) w' v l
def Kv (X:Bl)(t:Int)(f:lD)(v:V)(hi:lD):oK:=match X (t,f) with
 | some x=>if chk 16 v=0 then(th (sO v) hi x.L).map Prod.snd else[]
 | none=>[]
theorem L5 {v:Value}{l:oK}(h:m6 1 0 tl O w v l): Calls prog 35 #[v] w fun e w'=>w'=w/\∃v',e=.returned v'/\m6 1 0 tl O w v' l:=by
 obtain⟨sp,cap,rfl,h1,h2,h3,h4⟩:=h;have hs:0<l.length->∃b o,sp=some (Aq b o):=fun h=>by obtain⟨b,o,e,-⟩:=h4 h;exact⟨b,o,e⟩
 have hz:sp=none->l.length=0:=fun e0=>by have:=h3 e0;omega
 apply kq (args:=[.slice sp l.length cap]) func35 ntmps35;apply G _;apply WL.clip rfl rfl rfl rfl rfl rfl rfl rfl h1 hs;apply G _;exact J ⟨rfl,_,rfl,sp,l.length,rfl,aj _,I,hz,h4⟩
section
variable {w:World}{sb mb n:Nat}{S:Nat->Prop}{X:Bl}{g:Int×lD->Gx}{k:Nat}
theorem Jr (h:qY w sb mb n S X g)(hlen:∀x t,X x=some t->t.L.length<=1000000){t:Int}(hx:Cat.vI (t,f)){v:V}(hv:mj (k+1) w v cs)(hk:chk 16 v=0->(nC 16 [v]).length<=70368744177664):
  Calls prog 9 #[jV sb,Iq t,.string f,.agg cs.toArray] w fun e w'=>
   ∃hi:lD,hi.toList=Ord.Aa (Ord.strip (sO v).toList)/\uI w (Kv X t f v hi) (X (t,f)).isSome e w':=by
 obtain⟨sn,sk,rfl,ahe⟩:=id hv;apply kq (args:=[jV sb,Iq t,.string f,.agg (mR v sn sk).toArray]) func9 ntmps9;have Dm:∃hi:lD,hi.toList=Ord.Aa (Ord.strip (sO v).toList):=⟨⟨(Ord.Aa (Ord.strip (sO v).toList)).toArray⟩,by rw[aJ]⟩;apply G _;refine jO fun g1 w1 ou=>?_;have B1:U 25 w1 g1 (mR v sn sk):=ou.blk;have b1:=ou.below;clear ou;apply G _;apply kH func31 (IM (h.below b1) hx);rintro _ rfl
 cases hX:X (t,f) with
 | none=>
  obtain⟨hi,qZ⟩:=Dm;apply G _;apply(kV);apply G _;refine WQ.oU rfl rfl rfl ⟨hi,qZ,b1,_,rfl,?_⟩;unfold Kv;rw[hX];exact m6.nil _ _ _ _ _
 | some x=>
 apply G _;apply(kV);apply G _;apply jy (m:=6) (U.rangeAt B1) rfl;refine WL.Ni (mR v sn sk) rfl rfl rfl rfl rfl rfl jG fun g2 w2 hf=>?_;have b2:=b1.kj hf.below;apply jx func32 (GC (Y8 hf.blk (hv.below b2)) (show(1:Nat)<=9223372036854775807 by omega) fun hc=>by
  rw[PE]at hc;have:=hk hc;omega)
 rintro _ w3 ⟨rfl,b3⟩;refine⟨_,rfl,?_⟩;rw[SF,PE];have b4:=b2.kj b3;clear hf
 by_cases h0:chk 16 v=0
 ·have sT:zy v=sO v:=ag h0
  rw[sT,h0];have lJ:(sO v).size<=70368744177664:=by
   have:=hk h0;have e:(sO v).size=(sO v).toList.length:=by rw[aJ,bU];rfl
   rw[e];unfold sO;rw[wA,aB];exact this
  apply G _;apply WL.call rfl rfl rfl rfl rfl func33 rfl jG (Ord.above_any _ w3 I);rintro _ w4 ⟨⟨hi,rfl,qZ⟩,b5⟩;refine⟨_,rfl,?_⟩;have EH:=b4.kj b5;have hT:=((h.pC.is _ _ hX).1).below EH;apply G _;apply jx func34 (Fz hT (hlen _ _ hX) (sO v) hi);rintro _ w5 ⟨r,rfl,ho,b6⟩;refine⟨_,rfl,?_⟩;have MN:=EH.kj b6;have z:=EH.size;obtain⟨sr,cr,rfl,-⟩:=id ho.kN;have pY:uI w (Kv X t f v hi) true (.returned (.tuple #[.slice sr ((th (sO v) hi x.L).map Prod.snd).length cr,.bool true])) w5:=⟨MN,_,rfl,by
   unfold Kv;rw[hX];simp only
   rw[ag h0];exact ho.kN.mono (fun b hb=>by omega) fun _ _ h=>h⟩
  clear ho;generalize ((th (sO v) hi x.L).map Prod.snd).length=m at pY ⊢;apply G _;exact WQ.oU rfl rfl rfl ⟨hi,qZ,pY⟩
 ·obtain⟨hi,qZ⟩:=Dm
  have pY:uI w (Kv X t f v hi) true (.returned (.tuple #[kP,.bool true])) w3:=⟨b4,_,rfl,by
   unfold Kv;rw[hX];simp only
   rw[aa h0];exact m6.nil _ _ _ _ _⟩
  generalize chk 16 v=e at h0 ⊢;generalize zy v=lo;apply G _;exact WQ.oU rfl rfl rfl ⟨hi,qZ,pY⟩
theorem abi: Calls prog 36 #[.pointer none] w fun e w'=>e=.returned (Iq 0)/\w'=w:=by
 apply kq func36 ntmps36;apply G _;apply(kV);apply G _;exact J ⟨rfl,rfl⟩
theorem IQ (h:qY w sb mb n S X g){t:Int}{f:lD}(hx:Cat.vI (t,f)):
  Calls prog 12 #[jV sb,Iq t,.string f] w fun e w'=>e=.returned (Iq ((match X (t,f) with|some x=>x.L.length|none=>0:Nat):Int))/\w'=w:=by
 apply kq func12 ntmps12;apply G _;apply kH func31 (IM h hx);rintro _ rfl
 cases hX:X (t,f) with
 | none=>
  apply kH func36 abi;rintro _ rfl
  apply G _;exact J ⟨rfl,rfl⟩
 | some x=>
  apply kH func36 (abJ (h.pC.is _ _ hX).1);rintro _ rfl
  apply G _;exact J ⟨rfl,rfl⟩
end
def Ks (X:Bl)(t:Int)(f:lD)(u v:V):oK:=match X (t,f) with
 | some x=>(th (zy u) (zy v) x.L).map Prod.snd
 | none=>[]
theorem Ui {v:V}(hk:chk 16 v=0->(nC 16 [v]).length<=70368744177664): (zy v).size<=70368744177664:=by
 unfold zy
 split
 ·rename_i h
  have e:(sO v).size=(sO v).toList.length:=by rw[aJ,bU];rfl
  rw[e];unfold sO;rw[wA,aB];exact hk h
 ·exact ay _
section
variable {w:World}{sb mb n:Nat}{S:Nat->Prop}{X:Bl}{g:Int×lD->Gx}{k:Nat}
theorem JN (h:qY w sb mb n S X g)(hlen:∀x t,X x=some t->t.L.length<=1000000){t:Int}(hx:Cat.vI (t,f)){v:V}(hu:mj (k+1) w u cu)(hv:mj (k+1) w v cv)(hku:chk 16 u=0->(nC 16 [u]).length<=70368744177664)(hkv:chk 16 v=0->(nC 16 [v]).length<=70368744177664):
  Calls prog 10 #[jV sb,Iq t,.string f,.agg cu.toArray,.agg cv.toArray] w fun e w'=>
   uI w (Ks X t f u v) (X (t,f)).isSome e w':=by
 obtain⟨un,uk,rfl,-⟩:=id hu;obtain⟨sn,sk,rfl,-⟩:=id hv;apply kq (args:=[jV sb,Iq t,.string f,.agg (mR u un uk).toArray,.agg (mR v sn sk).toArray]) func10 ntmps10;apply G _;refine jO fun g1 w1 ou=>?_;have B1:U 25 w1 g1 (mR u un uk):=ou.blk;have b1:=ou.below;clear ou;refine jO fun g2 w2 mK=>?_;have B2:U 25 w2 g2 (mR v sn sk):=mK.blk;replace B1:=U.below B1 mK.below (U.lt B1);have b2:=b1.kj mK.below;clear mK;apply G _;apply kH func31 (IM (h.below b2) hx);rintro _ rfl
 cases hX:X (t,f) with
 | none=>
  apply G _;apply(kV);apply G _;refine WQ.oU rfl rfl rfl ⟨b2,_,rfl,?_⟩;unfold Ks;rw[hX];exact m6.nil _ _ _ _ _
 | some x=>
 apply G _;apply(kV);apply G _;apply jy (m:=6) (U.rangeAt B1) rfl;refine WL.Ni (mR u un uk) rfl rfl rfl rfl rfl rfl jG fun g3 w3 hf=>?_;have b3:=b2.kj hf.below;replace B2:=U.below B2 hf.below (U.lt B2);apply jx func32 (GC (Y8 hf.blk (hu.below b3)) (show(1:Nat)<=9223372036854775807 by omega) fun hc=>by
  rw[PE]at hc;have:=hku hc;omega)
 rintro _ w4 ⟨rfl,c4⟩;refine⟨_,rfl,?_⟩;rw[SF,PE];have b4:=b3.kj c4;replace B2:=U.below B2 c4 (U.lt B2);clear hf B1;have sF:=Ui hku;have Bj:=Ui hkv;generalize sT:zy u=lo at sF;generalize chk 16 u=eu;apply G _;apply jy (m:=6) (U.rangeAt B2) rfl;refine WL.Ni (mR v sn sk) rfl rfl rfl rfl rfl rfl jG fun g5 w5 hf=>?_;have b5:=b4.kj hf.below;apply jx func32 (GC (Y8 hf.blk (hv.below b5)) (show(1:Nat)<=9223372036854775807 by omega) fun hc=>by
  rw[PE]at hc;have:=hkv hc;omega)
 rintro _ w6 ⟨rfl,c6⟩;refine⟨_,rfl,?_⟩;rw[SF,PE];have b6:=b5.kj c6;clear hf B2;have hT:=((h.pC.is _ _ hX).1).below b6;have wv:chk 16 v=0->(Op.bytesLess (zy v).toList lo.toList || (zy v).toList == lo.toList)=true->th lo (zy v) x.L=[]:=fun h0 hq=>by
  rw[alX,cG]at hq;refine aaS hq ?_ _;unfold zy;rw[ag h0];exact ZS h0
 have oW:Ks X t f u v=(th lo (zy v) x.L).map Prod.snd:=by unfold Ks;rw[hX];simp only;rw[sT]
 generalize zy v=hi at wv oW Bj
 by_cases h0:chk 16 v=0
 ·rw[h0]
  cases hq:(Op.bytesLess hi.toList lo.toList || hi.toList == lo.toList) with
  | true=>
   rw[wv h0 hq]at oW;apply G _;refine WC.condTrue (congrArg (fun b=>some (Value.bool b)) hq) ?_;apply G _;refine WQ.oU rfl rfl rfl ⟨b6,_,rfl,?_⟩;rw[oW];exact m6.nil _ _ _ _ _
  | false=>
   apply G _;refine WC.condFalse (congrArg (fun b=>some (Value.bool b)) hq) ?_;apply G _;apply jx func34 (Fz hT (hlen _ _ hX) lo hi);rintro _ w7 ⟨r,rfl,ho,b7⟩;refine⟨_,rfl,?_⟩;have b07:=b6.kj b7;have z:=b6.size;apply WL.call rfl rfl rfl rfl rfl func35 rfl jG (L5 ho.kN);rintro _ w7 ⟨rfl,r2,rfl,xI⟩;refine⟨_,rfl,?_⟩;have pY:uI w (Ks X t f u v) true (.returned (.tuple #[r2,.bool true])) w7:=⟨b07,_,rfl,by rw[oW];exact xI.mono (fun b hb=>by omega) fun _ _ h=>h⟩;obtain⟨sr,cr,rfl,-⟩:=id xI;clear ho xI oW wv;generalize ((th lo hi x.L).map Prod.snd).length=m at pY ⊢;apply G _;exact WQ.oU rfl rfl rfl pY
 ·generalize chk 16 v=e at h0
  apply G _;apply jx func34 (Fz hT (hlen _ _ hX) lo hi);rintro _ w7 ⟨r,rfl,ho,b7⟩;refine⟨_,rfl,?_⟩;have b07:=b6.kj b7;have z:=b6.size;apply WL.call rfl rfl rfl rfl rfl func35 rfl jG (L5 ho.kN);rintro _ w7 ⟨rfl,r2,rfl,xI⟩;refine⟨_,rfl,?_⟩;have pY:uI w (Ks X t f u v) true (.returned (.tuple #[r2,.bool true])) w7:=⟨b07,_,rfl,by rw[oW];exact xI.mono (fun b hb=>by omega) fun _ _ h=>h⟩;obtain⟨sr,cr,rfl,-⟩:=id xI;clear ho xI oW wv;generalize ((th lo hi x.L).map Prod.snd).length=m at pY ⊢;apply G _;exact WQ.oU rfl rfl rfl pY
end
open K Tre
open Vw (Rw kE ni rD nw tG zU qx nT Inv j9 CD nv iT)
theorem aaA: na prog 35 3 1 8:=na.mk' (z:=Iq 0) underlying35 jG rfl I
theorem WA (n:Int): lY [Iq n]:=fun u hu=>by rw[bn.1 hu];rfl
def MW (f:lD)(x:V)(r:Rw):Option Int:=match fldR r.data f with
 | some y=>if ordV 16 y x=0 then some r.doc else none
 | none=>none
def Dl (f:lD)(x:V)(L:List Rw):oK:=L.filterMap (MW f x)
theorem Je {r:Rw}{n:Int}(h:MW f x r=some n): n=r.doc/\∃v,fldR r.data f=some v/\ordV 16 v x=0:=by
 unfold MW at h
 split at h
 ·rename_i y hy
  split at h
  ·rename_i h0
   cases h
   exact⟨rfl,y,hy,h0⟩
  ·cases h
 ·cases h
theorem aeB {L:List Rw}(h:L.Pairwise fun a b=>a.doc<b.doc): (Dl f x L).Pairwise (· < ·):=by
 unfold Dl;rw[iC];refine List.Pairwise.imp (fun {a b} uP n hn m hm=>?_) h;rw[(Je hn).1,(Je hm).1];exact uP
theorem aen {s:Vw.St}(hi:Inv s){t:Int}(n:Int): n∈Dl f x (nT s t) ↔ ∃d v,lS s t n=some d/\fldR d f=some v/\ordV 16 v x=0:=by
 unfold Dl;rw[gU]
 constructor
 ·rintro⟨r,hr,h⟩
  obtain⟨rfl,v,h1,h2⟩:=Je h;refine⟨r.data,v,?_,h1,h2⟩;unfold lS;rw[(AL hi).1 hr]
  rfl
 ·rintro⟨d,v,h1,h2,h3⟩
  unfold lS at h1;cases hl:Vw.lU s (t,n) with
  | none=>rw[hl]at h1;cases h1
  | some r=>
   rw[hl]at h1;obtain⟨-,hk,-⟩:=qV hl;have hn:r.doc=n:=congrArg Prod.snd hk;refine⟨r,(AL hi).2 (by rw[hn];exact hl),?_⟩;cases h1
   unfold MW;rw[h2];simp only
   rw[ag h3,hn]
theorem aeN (L:List Rw): (Dl f x L).length<=L.length:=ef _ _
theorem abu {L:List Rw}(h:i<L.length): Dl f x (L.take (i+1))=Dl f x (L.take i)++(MW f x (L.getD i kE)).toList:=by
 unfold Dl;rw[aK,fV,ah,ai h]
 congr 1
theorem RL {k:Nat}{s:Vw.St}(h:qx w rb M D k s N)(t:Int)(f:lD): ∃rc,w.cell? (Aq rb 0)=some (jV rc)/\
  Calls prog 17 #[jV rc,Iq t,.string f] w fun e w'=>w'=w/\e=.returned (.bool (Cat.has s.cat t f)):=by
 obtain⟨YQ,rOc,rv,mb',rk,rr⟩:=h;have d0:=rr.vb.cell 0 jM;simp only[al]at d0;exact⟨YQ,d0,Cr.Qp rr.cat t f⟩
theorem SW {k:Nat}{s:Vw.St}(h:qx w rb M D (k+1) s N)(hi:Inv s)(hd:sH s)(t:Int)(f:lD)(hx:mj g w x cs):
  Calls prog 45 #[jV rb,Iq t,.string f,.agg cs.toArray] w (uI w (if Cat.has s.cat t f=true then(if chk 16 x=0 then Dl f x (nT s t) else[]) else[]) (Cat.has s.cat t f)):=by
 have hN:s.rows.length<=1000000:=by obtain⟨_,_,_,_,_,hp⟩:=id h;have:=hp.ok;omega
 have mq:=Ie hi hd I t;have hlen:=Ez s t;have vR:=hx.len;apply kq (args:=[jV rb,Iq t,.string f,.agg cs.toArray]) func45 ntmps45;apply mA _;refine jO fun g1 w1 f1=>?_;have v1:U V8 w1 g1 cs:=f1.blk;have b1:=f1.below;clear f1;have z1:=b1.size;have l1:=U.lt v1;obtain⟨rc,c0,JD⟩:=RL (h.below b1) t f;apply jF _;apply WL.call rfl rfl rfl rfl rfl func17 rfl jG JD;rintro _ _ ⟨rfl,rfl⟩;refine⟨_,rfl,?_⟩;clear JD c0;cases hb:Cat.has s.cat t f with
 | false=>
  apply G _;exact WQ.oU rfl rfl rfl ⟨b1,_,rfl,m6.nil _ _ _ _ _⟩
 | true=>
 rw[ag rfl];apply G _;apply jy (U.rangeAt v1) vR;apply kH func18 (z_ (hx.below b1));rintro w2 b2
 have uV:=b1.trans (b2.mono z1);have z2:=b2.size
 by_cases hc:chk 16 x=0
 case neg=>
  rw[aa hc];apply G _;exact WQ.oU rfl rfl rfl ⟨uV,_,rfl,m6.nil _ _ _ _ _⟩
 case pos=>
 rw[ag hc];have v2:=U.below v1 b2 l1;have l2:=U.lt v2;apply G _;apply jx func74 (CD (h.below uV) t fun r hr ht=>by have:=hi.doc r hr;rw[ht]at this;exact this);rw[L9];rintro _ w3 ⟨b3,lv,rfl,hE⟩;refine⟨_,rfl,?_⟩;have z3:=b3.size;have uB:=uV.kj b3;have v3:=U.below v2 b3 l2;generalize nT s t=L at hE mq hlen;obtain⟨mB,yx,rfl,-⟩:=id hE;have l3:=U.lt v3;clear v1 v2 b1 b2 b3 uV;apply G _;refine WC.loop (fun y:Nat×Value=>[(2,.string f),(7,jV g1),(10,y.2),(11,.slice mB L.length yx),(12,Iq y.1)])
  (fun y wx=>y.1<=L.length/\jP w3 wx/\kC iT 1 0 tl (fun b=>w3.heap.size<=b) wx y.2 (Dl f x (L.take y.1))) (fun y=>L.length - y.1) (0,kP) kz
  ⟨ay _,Below.refl _ _,kC.nil _ _ _ _ _ _⟩ ?_
 rintro⟨i,ov⟩ wl ⟨Kn,bl,hO⟩;simp only at Kn hO;have zl:=bl.size
 by_cases kt:i<L.length
 case neg=>
  have:L.take i=L:=bg I;rw[this]at hO;apply G _;exact WQ.oU rfl rfl rfl ⟨uB.kj bl,_,rfl,m6.mono hO.kN (fun b hb=>by have:=uB.size;omega) Db⟩
 case pos=>
 obtain⟨b,o,cap,dc,qD,hb,-,ly,CV,-,nE⟩:=nw hE kt;obtain⟨rfl,-,rfl⟩:mB=some (Aq b o)/\L.length=L.length/\yx=cap:=by injection qD with a b c;exact⟨a,b,c⟩
 have zJ:L.getD i kE∈L:=by rw[ah,ai kt];exact aH kt
 have rY:=abu (f:=f) (x:=x) kt;obtain⟨-,Cm,-,-⟩:=mq.ok _ zJ;have mL:=aeN (f:=f) (x:=x) (L.take i);have htl:(L.take i).length<=i:=by rw[aC];omega
 generalize L.getD i kE=r at ly CV nE Cm rY;have Bw:=(bl.cell (p:=Aq b (o+i*14+1)) hb).trans ly.doc;have wI:wl.rangeAt b (o+i*14+3) dc:=fun j u hu=>(bl.cell (p:=Aq b (o+i*14+3+j)) hb).trans (ly.data j u hu);have lM:=CV.len;have wU:=(CV.sN).below bl;have lb:b<wl.heap.size:=I;clear ly;apply G _;apply jQ i (o+i*14) kt;apply G _;apply jy wI lM;apply G _;apply WL.call rfl rfl rfl rfl rfl func75 rfl jG (JT (B:=3000) I f wU nE);rintro _ w4 ⟨b4,oH⟩;cases ud:fldR r.data f with
 | none=>
  rw[ud]at oH;refine⟨_,oH,?_⟩;apply G _;refine jJ (z:=.agg jK.toArray) (fun _=>jG) fun g5 w5 f5=>?_;apply jE f5.blk (oe (fun _=>True) 0 w).one;obtain⟨-,b5,-,-⟩:=nv jK (Below.refl w4.heap.size w4) f5;generalize w5.setRow g5 _=w6 at b5 ⊢;have b46:=b4.kj b5;have nI:MW f x r=none:=by unfold MW;rw[ud]
  rw[nI,dM,aP]at rY;apply G _;exact WQ.again (i+1,ov) kz ⟨by show i+1<=L.length;omega,bl.trans (b46.mono zl),by show kC _ _ _ _ _ _ _ (Dl f x (L.take (i+1)));rw[rY];exact hO.jA (Z.jw b46) (fun g hg=>hO.lt hg) nN Db⟩ (by show L.length - (i+1)<L.length - i;omega)
 | some v=>
  rw[ud]at oH;obtain⟨fc,rfl,k_⟩:=oH;refine⟨_,rfl,?_⟩;have oH:=k_.len;apply G _;refine jJ (z:=.agg jK.toArray) (fun _=>jG) fun g5 w5 f5=>?_;apply jE (hm:=oH) f5.blk k_.one;obtain⟨v5,b5,-,e5⟩:=nv fc (Below.refl w4.heap.size w4) f5;generalize w5.setRow g5 _=w6 at v5 b5 ⊢;clear f5;have b46:=b4.kj b5;have bl6:=bl.trans (b46.mono zl);have v6:=U.below v3 bl6 l3;have akX:=k_.sN.below b5;have hx6:=hx.below (uB.kj bl6);apply G _;apply jy (U.rangeAt v5) oH;apply G _;apply jy (U.rangeAt v6) vR;apply G _;apply kH func76 (yU 16 akX hx6 (Below.refl _ _) (u6 Cm ud) hc);rintro w7 b7
  have b47:=b46.kj b7;have hO7:=hO.jA (P':=tl) (Z.jw b47) (fun g hg=>hO.lt hg) nN Db;have bl7:=bl.trans (b47.mono zl);have az5:=(b47.cell (p:=Aq b (o+i*14+1)) lb).trans Bw;clear hO b7 v5 v6 akX hx6 k_ b5 b4;have W4:=hO7;obtain⟨YO,Yy,rfl,Sz,xI⟩:=W4.kN
  by_cases h0:ordV 16 v x=0
  ·have nI:MW f x r=some r.doc:=by unfold MW;rw[ud];exact ag h0
   rw[nI]at rY;apply G _;apply jQ i (o+i*14) kt;apply jF _;refine lh (cs:=[Iq r.doc]) fun g8 w8 f8=>?_;refine WL.snoc (y:=r.doc) rfl rfl rfl rfl aaA rfl (hO7.jA (P':=tl) (Z.jw f8.below) (fun g hg=>hO7.lt hg) nN Db) rfl f8.blk (WA _) rfl rfl I I fun v9 w9 o9 gr9=>?_;have b8:=f8.below;have hB:∀g,(Value.slice YO (Dl f x (L.take i)).length Yy).ownBlock=some g->w3.heap.size<=g:=fun g hg=>hO7.own hg;have b9:=(bl7.kj b8).trans (gr9.old (aU bl7.size b8.size) hB);apply G _;refine WQ.again (i+1,v9) kz ⟨by show i+1<=L.length;omega,b9,?_⟩ (by show L.length - (i+1)<L.length - i;omega)
   show kC _ _ _ _ _ _ _ (Dl f x (L.take (i+1)))
   rw[rY];exact kC.jA o9 (Z.refl (fun _=>True) _) (fun _ _=>trivial) (fun b hb=>hb.elim id fun e=>by have:=bl7.size;have:=b8.size;omega) Db
  ·have nI:MW f x r=none:=by unfold MW;rw[ud];exact aa h0
   rw[nI,dM,aP]at rY;apply G _;refine WQ.again (i+1,_) kz ⟨by show i+1<=L.length;omega,bl7,by show kC _ _ _ _ _ _ _ (Dl f x (L.take (i+1)));rw[rY];exact hO7⟩ (by show L.length - (i+1)<L.length - i;omega)
end Ix
namespace Ix
open K Tre
open Vw (qx Inv iT)
def J_ (x y:V)(H:List Au):oK:=(H.filter fun e=>HU x y e.2).map Prod.fst
theorem acW {y:V}{H:List Au}(h:i<H.length): J_ x y (H.take (i+1))=J_ x y (H.take i)++(if HU x y (H.getD i AZ).2=true then[(H.getD i AZ).1] else[]):=by
 unfold J_;rw[aK,cm,aV,ah,ai h]
 congr 1
 simp only[dm,fo,cM,List.filter_nil]
 split<;>rfl
theorem ad5 {y:V}(H:List Au): (J_ x y H).length<=H.length:=by unfold J_;rw[aB];exact dN _ _
def aji (w:World)(s:Vw.St)(t:Int)(f:lD)(x y:V)(e:Ending)(w':World):Prop :=
 ∃l,uI w l (Cat.has s.cat t f) e w'/\(Cat.has s.cat t f=true->∃H,u7 f (lS s t) H/\l=J_ x y H)/\(Cat.has s.cat t f=false->l=[])
theorem U3 {k:Nat}{s:Vw.St}(h:qx w rb M D (k+1) s N)(hi:Inv s)(hd:sH s)(t:Int)(f:lD){g':Nat}{y:V}(hx:mj g w x cs)(hy:mj g' w y rU):
  Calls prog 46 #[jV rb,Iq t,.string f,.agg cs.toArray,.agg rU.toArray] w (aji w s t f x y):=by
 have hN:s.rows.length<=1000000:=by obtain⟨_,_,_,_,_,hp⟩:=id h;have:=hp.ok;omega
 have tp:=sA hi hd I t;have vR:=hx.len;have QR:=hy.len;apply kq (args:=[jV rb,Iq t,.string f,.agg cs.toArray,.agg rU.toArray]) func46 ntmps46;apply mA _;refine jO fun g1 w1 f1=>?_;have v1:U V8 w1 g1 cs:=f1.blk;have b1:=f1.below;clear f1;have l1:=U.lt v1;refine jO fun g2 w2 f2=>?_;have v2:U V8 w2 g2 rU:=f2.blk;have b2:=f2.below;clear f2;have l2:=U.lt v2;have u1:=U.below v1 b2 l1;have uV:=b1.kj b2;have z2:=uV.size;clear v1 b1 b2;have l1:=U.lt u1;obtain⟨rc,c0,JD⟩:=RL (h.below uV) t f;apply jF _;apply WL.call rfl rfl rfl rfl rfl func17 rfl jG JD;rintro _ _ ⟨rfl,rfl⟩;refine⟨_,rfl,?_⟩;clear JD c0;cases hb:Cat.has s.cat t f with
 | false=>
  apply G _;refine WQ.oU rfl rfl rfl ⟨[],⟨uV,_,by rw[hb],m6.nil _ _ _ _ _⟩,fun h=>?_,fun _=>rfl⟩;rw[hb]at h;cases h
 | true=>
 apply G _;apply jx func47 (PT (h.below uV) hi hd t f);rintro _ w3 ⟨b3,lv,H,rfl,hH,hHl,hE⟩;refine⟨_,rfl,?_⟩;have uB:=uV.trans (b3.mono z2);have z13:=uB.size;have v3:=U.below u1 b3 l1;have v4:=U.below v2 b3 l2;obtain⟨mB,yx,rfl,-,-,-,hr⟩:=hE;have l3:=U.lt v3;have l4:=U.lt v4;clear u1 v2 b3;apply G _;refine WC.loop (fun q:Nat×Value=>[(8,jV g1),(9,jV g2),(12,q.2),(13,.slice mB H.length yx),(14,Iq q.1)])
  (fun q wx=>q.1<=H.length/\jP w3 wx/\kC iT 1 0 tl (fun b=>w3.heap.size<=b) wx q.2 (J_ x y (H.take q.1))) (fun q=>H.length - q.1) (0,kP) kz
  ⟨ay _,Below.refl _ _,kC.nil _ _ _ _ _ _⟩ ?_
 rintro⟨i,ov⟩ wl ⟨Kn,bl,hO⟩;simp only at Kn hO;have zl:=bl.size
 by_cases kt:i<H.length
 case neg=>
  have:H.take i=H:=bg I;rw[this]at hO;apply G _;exact WQ.oU rfl rfl rfl ⟨_,⟨uB.trans (bl.mono z13),_,by rw[hb],m6.mono hO.kN (fun b hb=>by omega) Db⟩,fun _=>⟨H,hH,rfl⟩,fun h=>by rw[hb]at h;cases h⟩
 case pos=>
 replace hr:=hr I;obtain⟨b,o,rfl,Dm,-,hr⟩:=hr;obtain⟨-,-,⟨vc,rfl,wC⟩,ly⟩:=hr i kt;have hgi:=hH.oP tp (H.getD i AZ) (by rw[ah,ai kt];exact aH kt);have rY:=acW (x:=x) (y:=y) kt;have mL:=ad5 (x:=x) (y:=y) (H.take i);have htl:(H.take i).length<=i:=by rw[aC];omega
 generalize H.getD i AZ=e at wC ly hgi rY;obtain⟨n,v⟩:=e;simp only at wC ly hgi rY;have hvl:=wC.len;have Dz:∀wx,jP w3 wx->wx.cell? (Aq b (o+i*7))=some (Iq n):=fun wx hx=>(hx.cell (p:=Aq b (o+i*7)) Dm).trans (ly 0 _ rfl);have CP:∀wx,jP w3 wx->wx.rangeAt b (o+i*7+1) vc:=fun wx hx j u hu=>by
  rw[show o+i*7+1+j=o+i*7+(j+1) by omega];exact(hx.cell (p:=Aq b (o+i*7+(j+1))) Dm).trans (ly (j+1) u hu)
 clear hr ly;apply ur _;apply WC.block;apply WC.seq;apply WC.seq;refine WC.tn (fun c:Bool=>[(8,jV g1),(9,jV g2),(12,ov),(13,nj b o H.length yx),(14,Iq i),(45,.bool c)]) (fun c wx=>jP wl wx/\c=decide (chk 16 x=0/\ordV 16 v x<0)) rfl ?_ ?_
 ·refine WC.drawn 10 (jP wl) fun Hd kv=>?_
  have hS:jP wl Hd:=kv.below _;clear kv;have bq:∀wx,jP wl wx->jP w3 wx:=fun wx hx=>bl.kj hx;apply kG 0 (mw 1 12) (fun wx hx=>U.rangeAt (U.below v3 (bq wx hx) l3)) vR hS;apply jS 1;apply kH func18 (z_ (hx.below (uB.trans ((bq _ hS).mono z13))));rintro w5 b5
  replace hS:=hS.kj b5;clear b5;apply lI hS
  by_cases hc:chk 16 x=0
  ·apply jC [2,3,4,5] hS _
   apply kY 6 i (o+i*7) kt (.inr hS);apply jC [7] hS _;apply kG 8 [10,11,12] (fun wx hx=>CP _ (bq wx hx)) hvl hS;apply kG 9 [10,11,12] (fun wx hx=>U.rangeAt (U.below v3 (bq wx hx) l3)) vR hS;apply jS 10;apply(jX);apply kH func76 (yU 16 wC.sN (hx.below uB) (bq _ hS) hgi.1 hc);rintro w6 b6
   have hS6:=hS.kj b6;apply(jZ)
   (apply ke 11 rfl _;apply ke 12 rfl _)
   apply(jD);apply WQ.as 45 (.bool (decide (ordV 16 v x<0))) rfl rfl;exact WQ.meet (decide (ordV 16 v x<0)) kz ⟨hS6,by simp[hc]⟩
  ·apply jC [2,3,4,5,6,7,8,9] hS _
   apply jS 10;apply WL.off rfl rfl rfl;apply(jZ)
   (apply ke 11 rfl _;apply ke 12 rfl _)
   apply(jD);exact WQ.meet false kz ⟨hS,by simp[hc]⟩
 rintro c w4 ⟨c4,hc⟩;have b4:=bl.trans (c4.mono zl);cases c with
 | true=>
  have hc:=aR hc.symm;have xg:HU x y v=false:=by unfold HU;rw[aw hc.1,aw hc.2];rfl
  rw[xg,aa lZ,aP]at rY;apply G _;exact WQ.again (i+1,ov) kz ⟨by show i+1<=H.length;omega,b4,by show kC _ _ _ _ _ _ _ (J_ x y (H.take (i+1)));rw[rY];exact hO.jA (Z.jw c4) (fun g hg=>hO.lt hg) nN Db⟩ (by show H.length - (i+1)<H.length - i;omega)
 | false=>
 have hc:=dI hc.symm;apply WC.condFalse rfl;apply WC.skip;apply WQ.then rfl;apply WC.seq;apply WC.seq;refine WC.tn (fun c:Bool=>[(8,jV g1),(9,jV g2),(12,ov),(13,nj b o H.length yx),(14,Iq i),(58,.bool c)]) (fun c wx=>jP w4 wx/\c=decide (chk 16 y=0/\0<=ordV 16 v y)) rfl ?_ ?_
 ·refine WC.drawn 10 (jP w4) fun Hd kv=>?_
  have hS:jP w4 Hd:=kv.below _;clear kv;have bq:∀wx,jP w4 wx->jP w3 wx:=fun wx hx=>b4.kj hx;apply kG 0 (mw 1 12) (fun wx hx=>U.rangeAt (U.below v4 (bq wx hx) l4)) QR hS;apply jS 1;apply kH func18 (z_ (hy.below (uB.trans ((bq _ hS).mono z13))));rintro w5 b5
  replace hS:=hS.kj b5;clear b5;apply lI hS
  by_cases hc:chk 16 y=0
  ·apply jC [2,3,4,5] hS _
   apply kY 6 i (o+i*7) kt (.inr hS);apply jC [7] hS _;apply kG 8 [10,11,12] (fun wx hx=>CP _ (bq wx hx)) hvl hS;apply kG 9 [10,11,12] (fun wx hx=>U.rangeAt (U.below v4 (bq wx hx) l4)) QR hS;apply jS 10;apply(jX);apply kH func76 (yU 16 wC.sN (hy.below uB) (bq _ hS) hgi.1 hc);rintro w6 b6
   have hS6:=hS.kj b6;apply(jZ)
   (apply ke 11 rfl _;apply ke 12 rfl _)
   apply(jD);apply WQ.as 58 (.bool (decide (0<=ordV 16 v y))) rfl rfl;exact WQ.meet (decide (0<=ordV 16 v y)) kz ⟨hS6,by simp[hc]⟩
  ·apply jC [2,3,4,5,6,7,8,9] hS _
   apply jS 10;apply WL.off rfl rfl rfl;apply(jZ)
   (apply ke 11 rfl _;apply ke 12 rfl _)
   apply(jD);exact WQ.meet false kz ⟨hS,by simp[hc]⟩
 rintro c2 w5 ⟨c5,rE⟩;have b5:=b4.kj c5;have c15:=c4.kj c5;have Ud:=hO.jA (P':=tl) (Z.jw c15) (fun g hg=>hO.lt hg) nN Db;cases c2 with
 | true=>
  have rE:=aR rE.symm;have xg:HU x y v=false:=by unfold HU;rw[aw rE.1,ar (I:¬ordV 16 v y<0)];simp
  rw[xg,aa lZ,aP]at rY;apply G _;exact WQ.again (i+1,ov) kz ⟨by show i+1<=H.length;omega,b5,by show kC _ _ _ _ _ _ _ (J_ x y (H.take (i+1)));rw[rY];exact Ud⟩ (by show H.length - (i+1)<H.length - i;omega)
 | false=>
 have rE:=dI rE.symm;have xg:HU x y v=true:=by
  unfold HU
  by_cases q1:chk 16 x=0
  ·rw[ar (show ¬ordV 16 v x<0 from fun h=>hc ⟨q1,h⟩)]
   by_cases q2:chk 16 y=0
   ·rw[aw (show ordV 16 v y<0 from Int.not_le.1 fun h=>rE ⟨q2,h⟩)];simp
   ·rw[ar q2];simp
  ·rw[ar q1]
   by_cases q2:chk 16 y=0
   ·rw[aw (show ordV 16 v y<0 from Int.not_le.1 fun h=>rE ⟨q2,h⟩)];simp
   ·rw[ar q2];simp
 rw[xg,ag rfl]at rY;have azH:=Dz _ b5;clear CP hc rE c4 b4 c5 hO;obtain⟨YO,Yy,rfl,Sz,xI⟩:=Ud.kN;apply G _;apply jQ i (o+i*7) kt;apply jF _;refine lh (cs:=[Iq n]) fun g8 w8 f8=>?_;refine WL.snoc (y:=n) rfl rfl rfl rfl aaA rfl (Ud.jA (P':=tl) (Z.jw f8.below) (fun g hg=>Ud.lt hg) nN Db) rfl f8.blk (WA _) rfl rfl I I fun v9 w9 o9 gr9=>?_;have b8:=f8.below;have hB:∀g,(Value.slice YO (J_ x y (H.take i)).length Yy).ownBlock=some g->w3.heap.size<=g:=fun g hg=>Ud.own hg;have b9:=(b5.kj b8).trans (gr9.old (aU b5.size b8.size) hB);apply G _;refine WQ.again (i+1,v9) kz ⟨by show i+1<=H.length;omega,b9,?_⟩ (by show H.length - (i+1)<H.length - i;omega)
 show kC _ _ _ _ _ _ _ (J_ x y (H.take (i+1)))
 rw[rY];exact kC.jA o9 (Z.refl (fun _=>True) _) (fun _ _=>trivial) (fun b hb=>hb.elim id fun e=>by have:=b5.size;have:=b8.size;omega) Db
end Ix
namespace Ix
open K
open Cat (uF nV m_ Tb ku kM wZ)
open Vw (Rw kE ni rD nw lA ln nu nv zU rO nT Inv j9 uJ yC)
theorem MC {L:List Tb}(hg:Cat.Good L)(hi:i<L.length)(hj:j<(L.getD i ku).fs.length): Cat.vI ((i:Int)+1,(L.getD i ku).fs.getD j ⟨#[]⟩):=by
 refine⟨Vw.AR ⟨by have:=hg.len;omega,by have:=hg.len;omega⟩,?_⟩;have:=(hg.each i hi).2.2.1 ((L.getD i ku).fs.getD j ⟨#[]⟩) (by generalize (L.getD i ku).fs=l at hj ⊢;rw[ah,ai hj];exact aH hj);unfold maxLen;simp only
 omega
structure ahZ (w:World) (s:Vw.St) (sb mb:Nat) (i j q:Nat) (w':World):Prop where
 ex:∃n S X,qY w' sb mb n S X (gS s)/\(∀x,(X x).isSome=true ↔ CZ s.cat i j x)/\n<=q/\∀b,S b->w.heap.size<=b
theorem Jl {k:Nat}{s:Vw.St}(h0:rO w vb M D (k+2) s N)(hi:Inv s)(hd:sH s):
  Calls prog 11 #[jV vb] w fun e w'=>∃sb mb n S X,e=.returned (jV sb)/\qY w' sb mb n S X (gS s)/\(∀x,(X x).isSome=Cat.has s.cat x.1 x.2)/\n<=1024/\(∀b,S b->w.heap.size<=b)/\jP w w':=by
 have mq:s.rows.length<=N/\N<=1000000:=by obtain⟨cp,Oc,mr,md,mp,mn,k,F,h⟩:=id h0;have:=h.ok;omega
 apply kq func11 ntmps11;apply G _;apply WL.mkMap rfl rfl rfl rfl;have m1:MF prog FA Cat.mk (w.alloc (.map #[] 0)) w.heap.size 0 (fun _=>none):=MF.made _ _ _ _;have b1:jP w (w.alloc (.map #[] 0)):=(Below.refl _ w).alloc (aj _) _;have z1:(w.alloc (.map #[] 0)).heap.size=w.heap.size+1:=jM;obtain⟨mb,Pd⟩:∃mb,mb=w.heap.size:=⟨_,rfl⟩;rw[<-Pd]at m1;rw[show w.heap.size=mb from Pd.symm];generalize w.alloc (.map #[] 0)=w1 at m1 b1 z1 ⊢;apply jR [Value.map (some mb)] jG;refine jO fun sb w2 f2=>?_;have v2:U adQ w2 sb [.map (some mb)]:=f2.blk;have e2:=f2.eq;have z2:=f2.size;have m2:=m1.j_ (f2.below.block mb (m1.lt));have b2:=b1.kj f2.below;clear f2 m1 b1;have s2:qY w2 sb mb 0 (fun b=>b=sb\/b=mb) (fun _=>none) (gS s):=⟨v2,m2.congr fun _=>rfl,⟨fun _ _ e=>(by cases e),fun _ _ _ e=>(by cases e),fun _ _ _ _ _ e=>(by cases e),.inr rfl,fun _ _ e=>(by cases e),fun b hb=>by
  rcases hb with rfl|rfl
  ·exact U.lt v2
  ·exact m2.lt⟩,.inl rfl,fun _ _ e=>(by cases e)⟩
 apply G _;have h2:=h0.below b2;obtain⟨cp,Oc,mr,md,mp,mn,k',F,hp⟩:=id h2;apply kH func24 (uJ hp);rintro _ rfl
 apply jx func28 (wZ hp.cat);rintro _ w3 ⟨sp,cap,rfl,hT,b3⟩;refine⟨_,rfl,?_⟩;have hG:Cat.Good s.cat:=by obtain⟨_,_,_,-,-,-,-,-,-,-,hg⟩:=hp.cat;exact hg
 have hlen:=hG.len;clear hp;have Io:=b2.kj b3;have h3:=h2.below b3;have s3:=s2.below b3;have z3:=b3.size;clear h2 v2 m2 s2 b2;apply G _;refine WC.loop (fun x:Nat=>[(0,jV vb),(3,jV sb),(13,.slice sp s.cat.length cap),(14,Iq (s.cat.length:Nat)),(15,Iq x)])
  (fun x w'=>x<=s.cat.length/\Z (fun b=>b<w3.heap.size/\b≠mb) w3 w'/\ahZ w s sb mb x 0 (16*x) w') (fun x=>s.cat.length - x) 0 kz
  ⟨ay _,Z.refl _ _,⟨0,_,_,s3,fun x=>⟨fun h=>(by cases h),fun h=>(NM x h).elim⟩,ay _,fun b hb=>(by rcases hb with rfl|rfl<;>omega)⟩⟩ ?_
 clear s3;rintro i w4 ⟨uU,k4,hR⟩;have z4:=k4.size;have EH:=Io.trans (k4.mono fun b (hb:b<w.heap.size)=>⟨I,I⟩:Z (fun x=>x<w.heap.size) w3 w4).below
 by_cases xx:i<s.cat.length
 case neg=>
  obtain rfl:i=s.cat.length:=I;obtain⟨n,S,X,q1,q2,q3,q4⟩:=hR.ex;subst Pd;apply G _;refine J ⟨sb,_,n,S,X,rfl,q1,fun x=>?_,I,q4,EH⟩;rw[gy,q2,Qu]
 case pos=>
 obtain⟨gt,OH,F7,cf,es,lg,og,ly,tP⟩:=Ms hT xx;obtain⟨rfl,rfl⟩:sp=some (Aq gt 0)/\cap=OH:=by simpa using es
 clear es;have oH:=(hG.each i xx).2.1;have mh:=fun j=>MC (j:=j) hG xx;replace ly:w4.rangeAt gt (0+i*4) _:=fun j v hv=>by rw[k4.cell (p:=Aq gt (0+i*4+j)) ⟨lg,by show gt≠mb;omega⟩];exact ly j v hv
 replace tP:=tP.jA k4 (fun b hb=>by have h1:=tP.lt hb;have h2:=tP.own hb;exact⟨h1,I⟩);have vH:=fun j=>Nq (L:=s.cat) (i:=i) (j:=j) xx;have kF:=Pm (L:=s.cat) (i:=i);apply G _;apply jQ i (0+i*4) xx;apply jy ly rfl;refine jJ (z:=.agg #[Iq 0,.string ByteArray.empty,.bool false,kP]) (fun _=>jG) fun g5 w5 f5=>?_;have b5:=f5.below;have z5:=f5.eq;have v5:U tbT w5 g5 [Iq 0,.string ByteArray.empty,.bool false,kP]:=f5.blk;clear f5;refine WL.o7 rfl rfl rfl rfl rfl rfl v5 rfl rfl (by intro u hu;simp at hu;rcases hu with rfl|rfl|rfl|rfl<;>rfl) ?_;have Az:=U.setRow v5 [Iq ((i:Int)+1),.string (s.cat.getD i ku).name,.bool (s.cat.getD i ku).dropped,.slice F7 (s.cat.getD i ku).fs.length cf];have CL:jP w4 (w5.setRow g5 [Iq ((i:Int)+1),.string (s.cat.getD i ku).name,.bool (s.cat.getD i ku).dropped,.slice F7 (s.cat.getD i ku).fs.length cf].toArray):=below_setRow b5 I _;generalize w5.setRow g5 _=w6 at Az CL ⊢;clear v5 b5 ly;generalize (s.cat.getD i ku).fs=fs at *;have z6:=CL.size;have k6:=k4.trans ((Z.jw CL).mono fun b hb=>by omega);have b06:=EH.kj CL;have hR6:ahZ w s sb mb i 0 (16*i+0) w6:=by obtain⟨n,S,X,q1,q2⟩:=hR.ex;exact⟨n,S,X,q1.below CL,q2⟩
 replace tP:=tP.jA (Z.jw CL) (fun b hb=>tP.lt hb);have c5:=Az.cell 3 (by simp);simp only[al,aA]at c5;clear hR CL k4 EH;apply jF _;refine WC.loop (fun x:Nat=>[(0,jV vb),(3,jV sb),(13,nj gt 0 s.cat.length cap),(14,Iq (s.cat.length:Nat)),(15,Iq i),(5,jV g5),(20,.slice F7 fs.length cf),(21,Iq (fs.length:Nat)),(22,Iq x)])
  (fun x w'=>x<=fs.length/\Z (fun b=>b<w6.heap.size/\b≠mb) w6 w'/\ahZ w s sb mb i x (16*i+x) w') (fun x=>fs.length - x) 0 kz
  ⟨ay _,Z.refl _ _,hR6⟩ ?_
 clear hR6 c5;rintro j w7 ⟨zA,k7,hR⟩;have z7:=k7.size;have k37:=k6.trans (k7.mono fun b hb=>⟨I,hb.2⟩);have b07:=b06.trans (k7.mono fun b (hb:b<w.heap.size)=>⟨I,I⟩:Z (fun x=>x<w.heap.size) w6 w7).below
 by_cases ub:j<fs.length
 case neg=>
  obtain rfl:j=fs.length:=I;apply G _;refine WQ.again (i+1) kz ⟨xx,k37,?_⟩ (by show s.cat.length - (i+1)<s.cat.length - i;omega);obtain⟨n,S,X,q1,q2,q3,q4⟩:=hR.ex;exact⟨n,S,X,q1,fun x=>(q2 x).trans (kF x),I,q4⟩
 case pos=>
 obtain⟨gf,rfl,lf,of,Lu⟩:=aik tP ub;have Sg:=mh j ub;have p5:=vH j ub;replace Lu:=(k7.cell (p:=Aq gf j) ⟨lf,by show gf≠mb;omega⟩).trans Lu;generalize fs.getD j ⟨#[]⟩=f at Lu Sg p5;replace Az:=U.jA Az k7 ⟨U.lt Az,I⟩;have U9:w7.rangeAt gf (0+j*1) [.string f]:=fun q v hv=>by
  have:q<1:=(cP.1 hv).1;obtain rfl:q=0:=I;cases hv
  rw[show 0+j*1+0=j by omega];exact Lu
 apply G _;apply jQ j (0+j*1) ub;apply jy U9 rfl;refine jJ (z:=.agg #[.string ByteArray.empty]) (fun _=>jG) fun g7 w8 f8=>?_;have v8:U ixT w8 g7 [.string ByteArray.empty]:=f8.blk;have e8:=f8.eq;have b8:=f8.below;clear f8;refine WL.o7 rfl rfl rfl rfl rfl rfl v8 rfl rfl (by intro u hu;simp at hu;rw[hu];rfl) ?_;have WM:=U.setRow v8 [.string f];have b9:jP w7 (w8.setRow g7 [Value.string f].toArray):=below_setRow b8 I _;generalize w8.setRow g7 _=w9 at WM b9 ⊢;clear v8 b8 U9 Lu;replace Az:=U.below Az b9 (U.lt Az);obtain⟨n,S,X,q1,q2,q3,q4⟩:=hR.ex;replace q1:=q1.below b9;have b09:=b07.kj b9;have Yw:=k7.trans ((Z.jw b9).mono fun b hb=>by omega);have z9:=b9.size;have lsb:=U.lt q1.blk;have ES:=q1.blk.cell 0 jM;have l5:=U.lt Az;have c5:=Az.cell 0 jM;have l7:=U.lt WM;have c7:=WM.cell 0 jM;simp only[al]at ES c5 c7;apply G _;refine WC.drawn 16 (jP w9) fun wa kv=>?_;have hS:jP w9 wa:=kv.below _;clear kv;apply jC [0,1,2] hS _;apply jz 3 [16] (lX lsb ES) hS;apply jC [4] hS _;apply jz 5 [8,16] (lX l5 c5) hS;apply jC [6] hS _;apply jz 7 [8,16] (lX l7 c7) hS;apply WD.build [Iq ((i:Int)+1),.string f] 8 rfl jG rfl rfl (fun _ _ _ _ _ h=>h) rfl rfl rfl jG (.inr hS);apply jC [9,10] hS _;apply jz 11 [12,15,16] (lX l5 c5) hS;apply jC [13] hS _;apply jz 14 [15,16] (lX l7 c7) hS;apply jS 12;apply jx func30 (yC ((h0.below b09).below hS) (t:=(i:Int)+1) ⟨I,I⟩);rintro _ wb ⟨bb,vd,rfl,mL⟩;refine⟨_,rfl,?_⟩;have pO:=hS.kj bb;apply lI pO;apply jS 15;apply jx func29 (N1 mL (Ie hi hd I _) (by have:=Ez s ((i:Int)+1);omega) f);rintro _ wc ⟨tb,st,L,rfl,hTn,YA,-,bc,tR,TC⟩;refine⟨_,rfl,?_⟩;have Ym:=pO.kj bc;apply lI Ym;apply jS 16;have zb:=pO.size;obtain⟨wd,my,vY,kd⟩:=(q1.below Ym).add Sg (by unfold maxLen;have:=hG.len;omega) (t:=⟨tb,st,L⟩) hTn (YA.congr fun m=>(BD hi _ m).symm) (fun b hb hs=>by
  have:=q1.pC.lt b hs;rcases hb with e|hb
  ·have e:b=tb:=e
   omega
  ·have:=TC b hb
   omega)
 apply WL.ml rfl rfl rfl rfl rfl rfl my;apply(jZ);apply(jD);apply G _;refine WQ.again (j+1) kz ⟨ub,?_,⟨n+1,_,_,vY,fun x=>?_,I,fun b hb=>?_⟩⟩ (by show fs.length - (j+1)<fs.length - j;omega)
 ·exact(Yw.trans ((Z.jw Ym).mono fun b hb=>by omega)).trans (kd.mono fun b hb=>hb.2)
 ·rw[p5]
  by_cases e:x=((i:Int)+1,f)
  ·simp[e]
  ·simp only[aa e,q2]
   exact⟨.inl,fun h=>h.resolve_right e⟩
 ·have z0:=b09.size
  rcases hb with hb|e|hb
  ·exact q4 b hb
  ·have e:b=tb:=e
   omega
  ·have:=TC b hb;omega
end Ix
namespace Ix
open K
open Vw (nR tV AR)
theorem Em {P:Program}{ti:TypeId}(hi:P.underlying ti=some (.int .i64)){d:Nat}{v:Value}(h:P.keyLits (d+1) ti [v]=some L): ∃n,v=Iq n/\(Lit.int .i64 n).wf=true:=by
 unfold Program.keyLits at h;rw[hi]at h;cases v with
 | int k n=>
  simp only at h
  split at h
  ·rename_i q
   obtain⟨rfl,q2⟩:=q;exact⟨n,rfl,q2⟩
  ·cases h
 | _=>simp at h
theorem Qd {P:Program}{ts:TypeId}(hi:P.underlying ts=some .string){d:Nat}{v:Value}(h:P.keyLits (d+1) ts [v]=some L): ∃s,v=.string s/\s.size<=maxLen:=by
 unfold Program.keyLits at h;rw[hi]at h;cases v with
 | string s=>
  simp only at h
  split at h
  ·rename_i q
   exact⟨s,rfl,q⟩
  ·cases h
 | _=>simp at h
theorem I9 {P:Program}{k t0 t1:TypeId}{f0 f1:Field}(hk:P.underlying k=some (.struct #[f0,f1]))(e0:f0.type=t0)(o0:f0.offset=0)(e1:f1.type=t1)(o1:f1.offset=1)(hc:P.cellsOf k=2)(c0:P.cellsOf t0=1)(c1:P.cellsOf t1=1){d:Nat}(hd:P.types.size+1=d+1+1){key:Value}{kl:Lit}(h:keyOf P k key=some kl): ∃a b La Lb,key=.agg #[a,b]/\P.keyLits (d+1) t0 [a]=some La/\P.keyLits (d+1) t1 [b]=some Lb:=by
 unfold keyOf at h;rw[hk]at h;simp only at h
 split at h
 ·rename_i q
  rw[aF]at q;obtain⟨-,q⟩:=q;unfold Value.formed at q;rw[hk]at q;cases key with
  | agg cs=>
   simp only[hc,gM]at q;obtain⟨a,b,rfl⟩:∃a b,cs=#[a,b]:=by
    obtain⟨l⟩:=cs;have q:l.length=2:=q
    match l,q with
    | [a,b],_=>exact⟨a,b,rfl⟩
   rw[hd]at h;unfold Program.keyLits at h;rw[hk]at h;simp only[Value.cells,hc]at h
   split at h
   ·simp only[i_,jl]at h
    cases ha:P.keyLits (d+1) t0 [a] with
    | none=>simp[ha,e0,o0,c0]at h
    | some La=>
     cases hb:P.keyLits (d+1) t1 [b] with
     | none=>simp[ha,hb,e0,o0,c0,e1,o1,c1]at h
     | some Lb=>exact⟨a,b,La,Lb,rfl,ha,hb⟩
   ·cases h
  | _=>simp at q
 ·cases h
theorem aoO (key:Value)(kl:Lit)(h:keyOf prog FA key=some kl): ∃x,key=Cat.mk x:=by
 obtain⟨a,b,La,Lb,rfl,ha,hb⟩:=I9 gI (t0:=3) (t1:=9) rfl rfl rfl rfl NF Cat.tB Cat.strCells Cat.rK h;obtain⟨n,rfl,-⟩:=Em bJ ha;obtain⟨s,rfl,-⟩:=Qd cF hb;exact⟨(n,s),rfl⟩
theorem arN {x:Int×lD}{kl:Lit}(h:keyOf prog FA (Cat.mk x)=some kl): Cat.vI x:=by
 obtain⟨a,b,La,Lb,e,ha,hb⟩:=I9 gI (t0:=3) (t1:=9) rfl rfl rfl rfl NF Cat.tB Cat.strCells Cat.rK h;obtain⟨n,rfl,h1⟩:=Em bJ ha;obtain⟨s,rfl,h2⟩:=Qd cF hb;obtain⟨rfl,rfl⟩:x.1=n/\x.2=s:=by unfold Cat.mk at e;simpa using e
 exact⟨h1,h2⟩
theorem apS: zC<prog.types.size:=aR jG
theorem ajW:(match prog.underlying zC with|some (.array _ _)|some (.struct _)=>true|_=>false)=true:=by rw[show prog.underlying zC=_ from underlying78]
theorem Of: Keyed prog zC:=gK (gp Cat.laid (m:=2) I apS jG ajW)
theorem Xb: prog.keyType zC=true:=jG
theorem TF: prog.cellsOf zC=2:=jG
theorem SG {x:Int×Int}(h1:lV x.1)(h2:lV x.2): ∃kl,keyOf prog zC (nR x)=some kl :=
 ⟨_,Vw.Oi underlying78 bJ rfl rfl lZ rfl rfl lZ Xb TF Cat.tB Cat.rK x (AR h1) (AR h2)⟩
theorem aps (key:Value)(kl:Lit)(h:keyOf prog zC key=some kl): ∃x,key=nR x:=by
 obtain⟨a,b,La,Lb,rfl,ha,hb⟩:=I9 underlying78 (t0:=3) (t1:=3) rfl rfl rfl rfl TF Cat.tB Cat.tB Cat.rK h;obtain⟨n,rfl,-⟩:=Em bJ ha;obtain⟨s,rfl,-⟩:=Em bJ hb;exact⟨(n,s),rfl⟩
end Ix
namespace Ix
open K
open Vw (Rw kE ni rD nw zU rO Inv lU)
theorem Rl {f:Nat}{s:Vw.St}(h:rO w vb M D f s N){r:Rw}(hr:r∈s.rows): zU r/\Sm 3000 f r.data:=by
 obtain⟨cp,Oc,mr,md,mp,mn,k,F,h⟩:=h;have hm:r∈Vw.of s.rows r.key:=cg.2 ⟨hr,aw rfl⟩;obtain⟨i,hi,e⟩:=bH hm;obtain⟨-,-,-,-,-,-,-,-,-,ok,sm⟩:=nw (h.kN r.key) hi;rw[Vw.lR hi,e]at ok sm;exact⟨ok,sm⟩
def zO (l:List (Int×Int))(x:Int×Int):Option Value:=if x∈l then some (.bool true) else none
theorem acV (l:List (Int×Int))(a x:Int×Int): zO (l++[a]) x=pR (zO l) a (.bool true) x:=by
 unfold zO pR
 by_cases e:x=a
 ·simp[e]
 ·simp[e]
def CW (s:Vw.St)(e:En):Option (Int×Int):=if e.kind=2\/e.kind=3 then some (e.table,e.doc) else if e.kind=4 then atR s (e.ab,e.ae) else none
theorem acu {s:Vw.St}{l:List En}(hi:i<l.length): Dj s (l.take (i+1))=Dj s (l.take i)++(CW s (l.getD i kQ)).toList:=by
 have kF:l.take (i+1)=l.take i++[l.getD i kQ]:=by rw[aK,ai hi,Vw.lR hi];rfl
 rw[kF];unfold Dj;rw[fV]
 show _++List.filterMap (CW s) [l.getD i kQ]=_
 rw[gC];cases CW s (l.getD i kQ)<;>rfl
def yP (T:List (Int×Int))(left:Int×Int->Bool)(g g':Gx)(t:Int):Gx:=fun n=>if(t,n)∈T/\left (t,n)=false then g' n else g n
theorem YY {T:List (Int×Int)}{left yX:Int×Int->Bool}{g g':Gx}{t:Int}{d:Int×Int}(hd:d∈T)(h1:yX d=false)(h2:∀y∈T,y≠d->yX y=left y)(n:Int): yP T yX g g' t n=if(t,n)=d then g' n else yP T left g g' t n:=by
 unfold yP
 by_cases e:(t,n)=d
 ·rw[ag e,e,ag ⟨hd,h1⟩]
 ·rw[aa e]
  by_cases hm:(t,n)∈T
  ·rw[h2 _ hm e]
  ·rw[aa (fun q=>hm q.1),aa (fun q=>hm q.1)]
def T7 (f:lD)(n:Int)(o:Option V)(L:List Tre.KV):List Tre.KV:=match o with|some d=>layOut f n d L|none=>L
def inL (f:lD)(n:Int)(o:Option V)(L:List Tre.KV):List Tre.KV:=match o with|some d=>vo f n d L|none=>L
theorem afN {g:Gx}{L:List Tre.KV}(h:sV f g L)(hg:Gd g){n:Int}{o':Option V}(ho:∀d,o'=some d->R6 n/\chk 16 d=0/\Rg d): sV f (ml g n o') (inL f n o' (T7 f n (g n) L)):=by
 have h1:sV f (ml g n none) (T7 f n (g n) L):=by
  cases hq:g n with
  | some d=>exact h.del hg hq
  | none=>
   refine h.congr fun m=>?_
   ·unfold ml
    split
    ·rename_i e
     rw[e,hq]
    ·rfl
 cases o' with
 | none=>exact h1
 | some d=>
  obtain⟨a1,a2,a3⟩:=ho d rfl;exact(h1.put hg.cut a1 a2 a3 (by unfold ml;rw[ag rfl])).congr fun m=>by
   unfold ml
   by_cases e:m=n
   ·rw[ag e,ag e]
   ·rw[aa e,aa e,aa e]
section
variable {w w':World}{mb:Nat}{S:Nat->Prop}{X:Bl}{g g':Int×lD->Gx}
theorem yR.atK (h:yR w mb S X g){x:Int×lD}{t:Tx}(hx:X x=some t){K:Nat->Prop}(hk:Z K w w')(hK:∀b,S b->¬t.own b->K b){u:Tx}(hT:xw w' u.st u.tb u.L)(hL:sV x.2 (g' x) u.L)(jW:∀b,u.own b->t.own b\/¬S b)(hg:∀y v,y≠x->X y=some v->g' y=g y): yR w' mb (fun b=>S b\/u.own b) (fun y=>if y=x then some u else X y) g':=by
 have EP:∀b,u.own b->∀y v,y≠x->X y=some v->¬v.own b:=fun b hb y v hy hv kK=>by
  rcases jW b hb with q|q
  ·exact h.rF x y t v b hx hv (dT hy) q kK
  ·exact q (h.own y v b hv kK)
 refine⟨fun y v e=>?_,fun y v b e hb=>?_,fun y z u1 v b e1 e2 hyz hb kK=>?_,.inl h.mS,fun y v e hb=>?_,fun b hb=>?_⟩
 ·by_cases q:y=x
  ·rw[ag q]at e;cases e;subst q;exact⟨hT,hL⟩
  ·rw[aa q]at e
   rw[hg y v q e];exact⟨(h.is y v e).1.jA hk (fun b hb=>hK b (h.own y v b e (.inr hb)) fun kK=>h.rF x y t v b hx e (dT q) kK (.inr hb)) (hK _ (h.own y v _ e (.inl rfl)) fun kK=>h.rF x y t v _ hx e (dT q) kK (.inl rfl)),(h.is y v e).2⟩
 ·by_cases q:y=x
  ·rw[ag q]at e;cases e;exact .inr hb
  ·rw[aa q]at e;exact .inl (h.own y v b e hb)
 ·by_cases q:y=x
  ·rw[ag q]at e1;cases e1
   rw[aa (fun q2=>hyz (q.trans q2.symm))]at e2;exact EP b hb z v (fun q2=>hyz (q.trans q2.symm)) e2 kK
  ·rw[aa q]at e1
   by_cases q2:z=x
   ·rw[ag q2]at e2;cases e2;exact EP b kK y u1 q e1 hb
   ·rw[aa q2]at e2;exact h.rF y z u1 v b e1 e2 hyz hb kK
 ·by_cases q:y=x
  ·rw[ag q]at e;cases e
   rcases jW mb hb with q2|q2
   ·exact h.out x t hx q2
   ·exact q2 h.mS
  ·rw[aa q]at e;exact h.out y v e hb
 ·rcases hb with hb|rfl|hb
  ·exact ao (h.lt b hb) hk.size
  ·obtain⟨_,_,hv,-⟩:=hT.ex;exact U.lt hv
  ·exact hT.mem.lt hb
theorem XR {x:Int×lD}{t u:Tx}(hx:X x=some t)(tR:u.tb=t.tb): AQ (fun y=>if y=x then some u else X y)=AQ X:=by
 funext y
 unfold AQ
 by_cases q:y=x
 ·simp only[ag q];rw[q,hx];unfold Tx.ptr;simp[tR]
 ·simp only[aa q]
theorem yR.drop (h:yR w mb S X g)(x:Int×lD){K:Nat->Prop}(hk:Z K w w')(hK:∀b,S b->b≠mb->K b)(hg:∀y v,y≠x->X y=some v->g' y=g y): yR w' mb S (fun y=>if y=x then none else X y) g':=by
 have hx:∀ {y v},(if y=x then none else X y)=some v->y≠x/\X y=some v:=fun {y v} e=>by
  by_cases q:y=x
  ·rw[ag q]at e;cases e
  ·rw[aa q]at e;exact⟨q,e⟩
 refine⟨fun y v e=>?_,fun y v b e hb=>h.own y v b (hx e).2 hb,fun y z u v b e1 e2=>h.rF y z u v b (hx e1).2 (hx e2).2,h.mS,fun y v e=>h.out y v (hx e).2,fun b hb=>ao (h.lt b hb) hk.size⟩;obtain⟨q,e⟩:=hx e;rw[hg y v q e];exact⟨(h.is y v e).1.jA hk (fun b hb=>hK b (h.own y v b e (.inr hb)) fun e2=>h.out y v e (by rw[<-e2];exact .inr hb)) (hK _ (h.own y v _ e (.inl rfl)) fun e2=>h.out y v e (by rw[<-e2];exact .inl rfl)),(h.is y v e).2⟩
theorem Yu (x:Int×lD): AQ (fun y=>if y=x then none else X y)=An (AQ X) x:=by
 funext y
 unfold AQ An
 by_cases q:y=x
 ·simp only[ag q];rfl
 ·simp only[aa q]
end
theorem WL.ats {n:NN}{Q:Exit->Act->World->Prop}{l:Env}{ops:Array Oper}{o:Oper}{rest:List Oper}{t k:Nat}{x y:Operand}{mv:Value}(hg:o.guard=none)(hd:o.dst=none)(ho:o.op=.call { callee:=.builtin .delete,args:=#[x,y],argTypes:=#[t,k]})(hx:kS l x=some mv)(hy:kS l y=some xv)(hr:(Builtin.delete_ #[t,k] o.type #[mv,xv]).run prog w=.ok (.tuple #[]) w')(h:WL n ops Q rest l w'): WL n ops Q (o::rest) l w :=
 ⟨fun a ha=>PZ (w':=w') (v:=.tuple #[]) hg (by
  unfold execOp;rw[ho];simp[resolve,invoke,builtin,ha.eval hx,ha.eval hy,hr,Result.andThen]) (by rw[hd];exact h.go _ (ha.none _))⟩
end Ix
namespace Vw
open K
theorem UM {f:Nat}{v:Value}{L:List Rw}(h:m6 14 kE (ni D f w) O w v L)(hl:L.length<=1000000){a b:Int}(ha:w.cell? (Aq g 44)=some (Iq a))(hb:w.cell? (Aq g 45)=some (Iq b))(j6:g<w.heap.size):
  Calls prog 86 #[v,.func (.func 87) #[] #[jV g]] w fun e w'=>jP w w'/\e=.returned (Iq (NO (L.findIdx? fun r=>decide (r.nD=(a,b))))):=by
 obtain⟨sp,cap,rfl,-⟩:=id h;apply kq (args:=[.slice sp L.length cap,.func (.func 87) #[] #[jV g]]) func86 ntmps86;apply G _;refine WC.loop (fun i:Nat=>[(0,.slice sp L.length cap),(1,.func (.func 87) #[] #[jV g]),(7,Iq (L.length:Nat)),(8,Iq i)])
  (fun i w'=>i<=L.length/\jP w w'/\∀j,j<i->(L.getD j kE).nD≠(a,b)) (fun i=>L.length - i) 0 kz ⟨ay _,Below.refl _ _,fun j hj=>absurd hj (dg j)⟩ ?_
 rintro i w1 ⟨hi,b1,nI⟩
 by_cases zP:i<L.length
 case neg=>
  obtain rfl:i=L.length:=I;apply G _;refine J ⟨b1,?_⟩;rw[LS fun j hj=>ar (nI j hj)]
  rfl
 case pos=>
 obtain⟨b9,o9,qu,DQ,es,sw,-,R9,qO,-,-⟩:=nw h zP;obtain⟨rfl,rfl⟩:sp=some (Aq b9 o9)/\cap=qu:=by simpa using es
 clear es;have R1:=R9.below (Z.jw b1) sw;have lM:=qO.len;have x3:=R1.all;have z1:=b1.size;apply G _;apply jQ i (o9+i*14) zP;apply jy x3 (ln lM);refine WL.Ai rfl rfl rfl rfl rfl rfl func87 rfl (by kernel_rfl) (aku lM ((b1.cell (p:=⟨g,44,none⟩) j6).trans ha) ((b1.cell (p:=⟨g,45,none⟩) j6).trans hb) (by omega)) ?_;rintro _ w2 ⟨b2,rfl⟩;refine⟨_,rfl,?_⟩;have bw:=b1.trans (b2.mono z1)
 by_cases hq:(L.getD i kE).nD=(a,b)
 ·rw[aw hq]
  apply G _;refine J ⟨bw,?_⟩;rw[HC zP (fun j hj=>ar (nI j hj)) (aw hq)]
  rfl
 ·rw[ar hq]
  apply G _;refine WQ.again (i+1) kz ⟨zP,bw,fun j hj=>?_⟩ I
  by_cases e:j=i
  ·rw[e];exact hq
  ·exact nI j I
structure PG (w:World) (vb:Nat) (M D:Nat->Prop) (f:Nat) (n:Nat) (cat:List Cat.Tb) (A:Int×Int->List Rw) (dF:Int->Option Value) (pF nF:Int×Int->Option Value) (cp:Nat) (Oc:Nat->Prop) (mr md mp mn k:Nat) (F:Int×Int->Option Value):Prop where
 su:U pvT w vb [jV cp,.map (some mr),.map (some md),.map (some mp),.map (some mn),Iq n]
 cat:Cat.m_ w cp Oc k cat
 rows:MF prog IN nR w mr k F
 kN:∀x,m6 14 kE (ni D f w) D w ((F x).getD (kP)) (A x)
 xQ:MF prog iT O5 w md k dF
 xR:MF prog xZ nR w mp k pF
 xP:MF prog xZ nR w mn k nF
 wG:M vb
 AB:M mr
 AV:M md
 Bz:M mp
 Cj:M mn
 tU:∀b,Oc b->M b
 out:¬Oc vb/\¬Oc mr/\¬Oc md/\¬Oc mp/\¬Oc mn
 rF:(mr≠md/\mr≠mp/\mr≠mn)/\(md≠mp/\md≠mn)/\mp≠mn
 lt:∀b,M b\/D b->b<w.heap.size
 sep:∀b,M b->¬D b
section
variable {w w':World}{vb:Nat}{M D:Nat->Prop}{f:Nat}{s:St}{n:Nat}{cat:List Cat.Tb}{A:Int×Int->List Rw}{dF:Int->Option Value}{pF nF:Int×Int->Option Value}{cp:Nat}{Oc:Nat->Prop}{mr md mp mn k N:Nat}{F:Int×Int->Option Value}
theorem PV.pg (h:PV w vb M D f s cp Oc mr md mp mn k N F): PG w vb M D f s.n s.cat (Vw.of s.rows) (vV s.rows) (sK s.rows) (CG s.red) cp Oc mr md mp mn k F :=
 ⟨h.su,h.cat,h.rows,h.kN,h.xQ,h.xR,h.xP,h.wG,h.AB,h.AV,h.Bz,h.Cj,h.tU,h.out,h.rF,h.lt,h.sep⟩
theorem PG.pv (h:PG w vb M D f n cat A dF pF nF cp Oc mr md mp mn k F)(hn:s.n=n)(hc:s.cat=cat)(hA:∀x,Vw.of s.rows x=A x)(hd:∀x,vV s.rows x=dF x)(hp:∀x,sK s.rows x=pF x)(oQ:∀x,CG s.red x=nF x)(mq:s.n<=N/\s.rows.length<=N/\k<=N/\N<=1000000): PV w vb M D f s cp Oc mr md mp mn k N F:=by
 subst hn hc;exact⟨h.su,h.cat,h.rows,fun x=>by rw[hA];exact h.kN x,h.xQ.congr hd,h.xR.congr hp,h.xP.congr oQ,h.wG,h.AB,h.AV,h.Bz,h.Cj,h.tU,h.out,h.rF,h.lt,h.sep,mq⟩
theorem PG.jA (h:PG w vb M D f n cat A dF pF nF cp Oc mr md mp mn k F){K:Nat->Prop}(hk:Z K w w')(hK:∀b,M b\/D b->K b): PG w' vb M D f n cat A dF pF nF cp Oc mr md mp mn k F :=
 ⟨h.su.jA hk (hK _ (.inl h.wG)),h.cat.jA hk fun b hb=>hK b (.inl (h.tU b hb)),h.rows.jA hk (hK _ (.inl h.AB)),fun x=>(h.kN x).jA hk (fun b hb _=>hK b (.inr hb)) nN fun _ _ hp=>hp.jA hk (fun b hb _=>hK b (.inr hb)) nN,
  h.xQ.jA hk (hK _ (.inl h.AV)),h.xR.jA hk (hK _ (.inl h.Bz)),h.xP.jA hk (hK _ (.inl h.Cj)),h.wG,h.AB,h.AV,h.Bz,h.Cj,h.tU,h.out,h.rF,fun b hb=>ao (h.lt b hb) hk.size,h.sep⟩
theorem PG.below (h:PG w vb M D f n cat A dF pF nF cp Oc mr md mp mn k F)(hb:jP w w'): PG w' vb M D f n cat A dF pF nF cp Oc mr md mp mn k F:=h.jA (Z.jw hb) h.lt
theorem PG.agX (h:PG w vb M D f n cat A dF pF nF cp Oc mr md mp mn k F){k':Nat}(hk:k<=k'): PG w vb M D f n cat A dF pF nF cp Oc mr md mp mn k' F :=
 { h with cat:=h.cat.mono hk,rows:=h.rows.mono hk,xQ:=h.xQ.mono hk,xR:=h.xR.mono hk,xP:=h.xP.mono hk }
theorem PG.more (h:PG w vb M D f n cat A dF pF nF cp Oc mr md mp mn k F){D':Nat->Prop}(hD:∀b,D b->D' b)(hl:∀b,D' b->b<w.heap.size)(hs:∀b,M b->¬D' b): PG w vb M D' f n cat A dF pF nF cp Oc mr md mp mn k F :=
 { h with
  kN:=fun x=>(h.kN x).mono hD fun _ _ hp=>hp.jA (Z.refl (fun _=>True) w) (fun _ _ _=>trivial) hD
  lt:=fun b hb=>hb.elim (fun q=>h.lt b (.inl q)) (hl b)
  sep:=hs }
theorem PG.uW (h:PG w vb M D f n cat A dF pF nF cp Oc mr md mp mn k F): mr≠vb/\md≠vb/\mp≠vb/\mn≠vb :=
 ⟨Cat.MF.mP h.rows (show w.heap[vb]? = _ from h.su),Cat.MF.mP h.xQ (show w.heap[vb]? = _ from h.su),Cat.MF.mP h.xR (show w.heap[vb]? = _ from h.su),Cat.MF.mP h.xP (show w.heap[vb]? = _ from h.su)⟩
theorem PG.adb (h:PG w vb M D f n cat A dF pF nF cp Oc mr md mp mn k F)(hk:k<=1000000){x:Int×Int}(h1:lV x.1)(h2:lV x.2){v:Value}{L:List Rw}(hv:m6 14 kE (ni D f w) D w v L):
  ∃w',(Instr.mapUpdate 127 (.map (some mr)) (nR x) v).run prog w=.ok () w'/\Z (fun b=>b≠mr) w w'/\PG w' vb M D f n cat (fun y=>if y=x then L else A y) dF pF nF cp Oc mr md mp mn (k+1) (pR F x v):=by
 obtain⟨w',h3,h4,h5⟩:=h.rows.put tV Lv fw (by unfold maxLen;omega) v (XN h1 h2);have wP:=h.uW;have hD:∀b,D b->b≠mr:=fun b hb e=>h.sep mr h.AB (e ▸ hb);refine⟨w',h3,h5,⟨h.su.jA h5 wP.1.symm,(h.cat.jA h5 fun b hb e=>h.out.2.1 (e ▸ hb)).mono (bQ k),h4,fun y=>?_,(h.xQ.jA h5 h.rF.1.1.symm).mono (bQ k),(h.xR.jA h5 h.rF.1.2.1.symm).mono (bQ k),(h.xP.jA h5 h.rF.1.2.2.symm).mono (bQ k),
  h.wG,h.AB,h.AV,h.Bz,h.Cj,h.tU,h.out,h.rF,fun b hb=>ao (h.lt b hb) h5.size,h.sep⟩⟩
 unfold pR
 by_cases e:y=x
 ·rw[ag e,ag e]
  exact hv.jA h5 (fun b hb _=>hD b hb) nN fun _ _ hp=>hp.jA h5 (fun b hb _=>hD b hb) nN
 ·rw[aa e,aa e]
  exact(h.kN y).jA h5 (fun b hb _=>hD b hb) nN fun _ _ hp=>hp.jA h5 (fun b hb _=>hD b hb) nN
theorem PG.atS (h:PG w vb M D f n cat A dF pF nF cp Oc mr md mp mn k F)(hk:k<=1000000){x:Int}(h1:lV x)(v:Value):
  ∃w',(Instr.mapUpdate 128 (.map (some md)) (Iq x) v).run prog w=.ok () w'/\Z (fun b=>b≠md) w w'/\PG w' vb M D f n cat A (pR dF x v) pF nF cp Oc mr md mp mn (k+1) F:=by
 obtain⟨w',h3,h4,h5⟩:=h.xQ.put aea Ty gh (by unfold maxLen;omega) v (ah6 h1);have wP:=h.uW;have hD:∀b,D b->b≠md:=fun b hb e=>h.sep md h.AV (e ▸ hb);exact⟨w',h3,h5,⟨h.su.jA h5 wP.2.1.symm,(h.cat.jA h5 fun b hb e=>h.out.2.2.1 (e ▸ hb)).mono (bQ k),(h.rows.jA h5 h.rF.1.1).mono (bQ k),fun y=>(h.kN y).jA h5 (fun b hb _=>hD b hb) nN fun _ _ hp=>hp.jA h5 (fun b hb _=>hD b hb) nN,h4,(h.xR.jA h5 h.rF.2.1.1.symm).mono (bQ k),(h.xP.jA h5 h.rF.2.1.2.symm).mono (bQ k),
  h.wG,h.AB,h.AV,h.Bz,h.Cj,h.tU,h.out,h.rF,fun b hb=>ao (h.lt b hb) h5.size,h.sep⟩⟩
theorem PG.avx (h:PG w vb M D f n cat A dF pF nF cp Oc mr md mp mn k F)(hk:k<=1000000){x:Int×Int}(h1:lV x.1)(h2:lV x.2)(v:Value):
  ∃w',(Instr.mapUpdate 129 (.map (some mp)) (nR x) v).run prog w=.ok () w'/\Z (fun b=>b≠mp) w w'/\PG w' vb M D f n cat A dF (pR pF x v) nF cp Oc mr md mp mn (k+1) F:=by
 obtain⟨w',h3,h4,h5⟩:=h.xR.put tV xj gj (by unfold maxLen;omega) v (DT h1 h2);have wP:=h.uW;have hD:∀b,D b->b≠mp:=fun b hb e=>h.sep mp h.Bz (e ▸ hb);exact⟨w',h3,h5,⟨h.su.jA h5 wP.2.2.1.symm,(h.cat.jA h5 fun b hb e=>h.out.2.2.2.1 (e ▸ hb)).mono (bQ k),(h.rows.jA h5 h.rF.1.2.1).mono (bQ k),fun y=>(h.kN y).jA h5 (fun b hb _=>hD b hb) nN fun _ _ hp=>hp.jA h5 (fun b hb _=>hD b hb) nN,(h.xQ.jA h5 h.rF.2.1.1).mono (bQ k),h4,(h.xP.jA h5 h.rF.2.2.symm).mono (bQ k),
  h.wG,h.AB,h.AV,h.Bz,h.Cj,h.tU,h.out,h.rF,fun b hb=>ao (h.lt b hb) h5.size,h.sep⟩⟩
theorem PG.aqX (h:PG w vb M D f n cat A dF pF nF cp Oc mr md mp mn k F)(hk:k<=1000000){x:Int×Int}(h1:lV x.1)(h2:lV x.2)(v:Value):
  ∃w',(Instr.mapUpdate 130 (.map (some mn)) (nR x) v).run prog w=.ok () w'/\Z (fun b=>b≠mn) w w'/\PG w' vb M D f n cat A dF pF (pR nF x v) cp Oc mr md mp mn (k+1) F:=by
 obtain⟨w',h3,h4,h5⟩:=h.xP.put tV xj gk (by unfold maxLen;omega) v (DT h1 h2);have wP:=h.uW;have hD:∀b,D b->b≠mn:=fun b hb e=>h.sep mn h.Cj (e ▸ hb);exact⟨w',h3,h5,⟨h.su.jA h5 wP.2.2.2.symm,(h.cat.jA h5 fun b hb e=>h.out.2.2.2.2 (e ▸ hb)).mono (bQ k),(h.rows.jA h5 h.rF.1.2.2).mono (bQ k),fun y=>(h.kN y).jA h5 (fun b hb _=>hD b hb) nN fun _ _ hp=>hp.jA h5 (fun b hb _=>hD b hb) nN,(h.xQ.jA h5 h.rF.2.1.2).mono (bQ k),(h.xR.jA h5 h.rF.2.2).mono (bQ k),h4,
  h.wG,h.AB,h.AV,h.Bz,h.Cj,h.tU,h.out,h.rF,fun b hb=>ao (h.lt b hb) h5.size,h.sep⟩⟩
theorem PG.app (h:PG w vb M D f n cat A dF pF nF cp Oc mr md mp mn k F){akT:List Cat.Tb}{O':Nat->Prop}(hc:Cat.m_ w' cp O' (k+1) akT)(hk:Z (fun b=>b<w.heap.size/\¬Oc b) w w')(ho:∀b,O' b->Oc b\/w.heap.size<=b):
  PG w' vb (fun b=>M b\/(w.heap.size<=b/\b<w'.heap.size)) D f n akT A dF pF nF cp O' mr md mp mn (k+1) F:=by
 have l:=h.lt;have hz:=hk.size;have hn:∀b,M b->¬Oc b->¬O' b:=fun b hb nI q=>by
  rcases ho b q with q|q
  ·exact nI q
  ·have:=l b (.inl hb);omega
 have hD:∀b,D b->b<w.heap.size/\¬Oc b:=fun b hb=>⟨l b (.inr hb),fun q=>h.sep b (h.tU b q) hb⟩;have hM:∀b,M b->¬Oc b->b<w.heap.size/\¬Oc b:=fun b hb q=>⟨l b (.inl hb),q⟩;exact⟨h.su.jA hk (hM _ h.wG h.out.1),hc,(h.rows.jA hk (hM _ h.AB h.out.2.1)).mono (bQ k),fun x=>(h.kN x).jA hk (fun b hb _=>hD b hb) nN fun _ _ hp=>hp.jA hk (fun b hb _=>hD b hb) nN,
  (h.xQ.jA hk (hM _ h.AV h.out.2.2.1)).mono (bQ k),(h.xR.jA hk (hM _ h.Bz h.out.2.2.2.1)).mono (bQ k),(h.xP.jA hk (hM _ h.Cj h.out.2.2.2.2)).mono (bQ k),.inl h.wG,.inl h.AB,.inl h.AV,.inl h.Bz,.inl h.Cj,
  fun b hb=>(ho b hb).elim (fun q=>.inl (h.tU b q)) fun q=>.inr ⟨q,hc.lt b hb⟩,⟨hn _ h.wG h.out.1,hn _ h.AB h.out.2.1,hn _ h.AV h.out.2.2.1,hn _ h.Bz h.out.2.2.2.1,hn _ h.Cj h.out.2.2.2.2⟩,h.rF,
  fun b hb=>by
   rcases hb with(q|q)|q
   ·have:=l b (.inl q);omega
   ·exact q.2
   ·have:=l b (.inr q);omega,fun b hb=>by
   rcases hb with q|q
   ·exact h.sep b q
   ·intro q2;have:=l b (.inr q2);omega⟩
end
end Vw
namespace Vw
structure apQ (s:St) (a:Int×Int) (r:Rw) (i j:Nat):Prop where
 lt:i<s.rows.length
 here:s.rows.getD i kE=r
 idx:s.rows.findIdx? (zD s a)=some i
 jlt:j<(Vw.of s.rows r.key).length
 afg:(Vw.of s.rows r.key).getD j kE=r
 jdx:(Vw.of s.rows r.key).findIdx? (fun x=>decide (x.nD=a))=some j
 ofs:∀x,Vw.of (s.rows.set i (shut r)) x=if x=r.key then(Vw.of s.rows r.key).set j (shut r) else Vw.of s.rows x
 aqG:∀t,j9 t (s.rows.set i (shut r))=j9 t s.rows
 plc:∀x,sK (s.rows.set i (shut r)) x=sK s.rows x
theorem Tp {s:St}(hI:Inv s){r:Rw}(hf:s.rows.find? (fun x=>decide (x.nD=a) && !x.del)=some r)(Fg:s.red a=false): ∃i j,apQ s a r i j:=by
 obtain⟨hp,i,hi,vp,nI⟩:=List.find?_eq_some_iff_getElem.1 hf;have hra:r.nD=a:=by simp only[aF,aX]at hp;exact hp.1
 have wI:r.del=false:=by simp only[aF,cG]at hp;exact hp.2
 have hg:s.rows.getD i kE=r:=by rw[lR hi];exact vp
 have JS:∀x:Rw,zD s a x=(decide (x.nD=a) && !x.del):=fun x=>by
  unfold zD;rw[Fg,Bool.not_false,Bool.and_true]
  congr 1
  rw[<-Bool.decide_and];exact cN.2 ⟨fun q=>eO q.1 q.2,fun q=>⟨congrArg Prod.fst q,congrArg Prod.snd q⟩⟩
 obtain⟨A,B,e,Ol,hs⟩:=BF hi;rw[hg]at e;have hd:=hI.rF;rw[e,aV,aY,bS]at hd;have hA:∀x∈A,x.nD≠a:=fun x hx q=>hd.2.2 _ (gB hx) _ (cL ..) (by rw[q,hra]);have hof:Vw.of s.rows r.key=Vw.of A r.key++r::Vw.of B r.key:=by rw[e,yo,ag rfl];rfl
 have zA:(Vw.of A r.key).length<(Vw.of s.rows r.key).length:=by rw[hof,af,ak];omega
 have hjr:(Vw.of s.rows r.key).getD (Vw.of A r.key).length kE=r:=by rw[hof];simp[ah]
 refine⟨i,(Vw.of A r.key).length,hi,hg,HC hi (fun j hj=>?_) ?_,zA,hjr,HC zA (fun j hj=>?_) ?_,fun x=>?_,fun t=>?_,fun x=>?_⟩
 ·rw[JS,lR I]
  have:=nI j hj
  simpa only[cG] using this
 ·rw[JS,hg];exact hp
 ·apply ar
  rw[hof,ah,aZ hj,ai hj];exact hA _ (cg.1 (aH hj)).1
 ·rw[hjr];exact aw hra
 ·rw[hs,yo]
  by_cases q:x=r.key
  ·subst q
   rw[ag rfl,ag (show(shut r).key=r.key from rfl),hof];simp
  ·rw[aa q,aa (show ¬(shut r).key=x from fun y=>q y.symm),e,yo,aa (fun y=>q y.symm)]
 ·rw[hs,e,M_]
 ·unfold sK
  rw[hs,e,fP,fP,gA,gA];have pk:(decide ((shut r).nD=x) && !(shut r).del)=(decide (r.nD=x) && !r.del):=rfl;rw[pk];cases A.find? (fun y=>decide (y.nD=x) && !y.del) with
  | some y=>rfl
  | none=>
   rw[Option.none_or,Option.none_or];cases(decide (r.nD=x) && !r.del)<;>rfl
theorem JB {s:St}(hf:s.rows.find? (fun x=>decide (x.nD=a) && !x.del)=none\/s.red a=true): s.rows.findIdx? (zD s a)=none:=by
 refine LS fun j hj=>?_;unfold zD;rcases hf with hf|hf
 ·have:=dL.1 hf (s.rows.getD j kE) (by rw[lR hj];exact aH hj)
  cases hq:(decide ((s.rows.getD j kE).blk=a.1) && decide ((s.rows.getD j kE).pH=a.2)) with
  | false=>rw[Bool.false_and,Bool.false_and]
  | true=>
   simp only[aF,aX]at hq;have ha:(s.rows.getD j kE).nD=a:=eO hq.1 hq.2;rw[aw ha,iw]at this;simp only[cG,Bool.not_eq_false]at this;rw[this]
   rfl
 ·rw[hf,jk,Bool.and_false]
end Vw
end Go.Proofs.YtlenklobbngopaaGreat
