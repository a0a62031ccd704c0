import Derived.Test.YtlenklobbngopaaGreatZIxC6
set_option maxHeartbeats 64000000
set_option maxRecDepth 100000
set_option linter.all false
namespace Go.Proofs.YtlenklobbngopaaGreat
open _root_.Go.Proofs.Tryz
open Go.RowKit Go.Maps
variable {α:Type}{a:Int×Int}{b vb f cp mr md mp mn g m N N' i sb mb rb fuel o b0 f' B pb:Nat}{w w':World}{M D Oc E S O E' M' D':Nat->Prop}{F:Int×Int->Option Value}{cs bc:kL}{l:List α}{h:oK}{x u y:V}{r:Reach}{p:List MemPlace}
namespace Vw
open K
def agG (w:World)(vb:Nat)(M D:Nat->Prop)(f:Nat)(c:Int)(s':St)(N:Nat)(e:Ending)(w':World):Prop :=
 e=.returned (Iq c)/\Z (fun b=>b<w.heap.size/\¬M b) w w'/\(c=0->∃M' D',rO w' vb M' D' f s' N/\(∀b,M' b->M b\/w.heap.size<=b)/\∀b,D' b->D b\/w.heap.size<=b)
theorem Bm: (3:Int)≠0:=by decide
theorem CT {a b:Int}: lY [Iq a,Iq b]:=ahK
theorem MG (a b c g h i:Int)(d e:Bool)(v1 v2 v3:Int)(t:lD)(sp sq:Option Addr)(n1 n2 c1 c2:Nat):
  prog.built vM [(0,Iq a),(1,Iq b),(2,Iq c),(3,.agg #[Iq v1,Iq v2,Iq v3,.string t,.slice sp n1 c1,.slice sq n2 c2]),(4,.bool d),(5,.bool e),(6,Iq g),(7,Iq h),(8,Iq i)] =
   some [Iq a,Iq b,Iq c,Iq v1,Iq v2,Iq v3,.string t,.slice sp n1 c1,.slice sq n2 c2,.bool d,.bool e,Iq g,Iq h,Iq i].toArray:=jG
theorem Ya (L:List Rw)(r:Rw): vV (L++[r])=if r.kA=0 then pR (vV L) r.m5 (Iq ((j9 r.m5 L:Int)+1)) else vV L:=by
 funext t
 by_cases h0:r.kA=0
 ·rw[ag h0]
  unfold pR
  by_cases ht:t=r.m5
  ·subst ht
   rw[ag rfl];unfold vV;have e1:j9 r.m5 (L++[r])=j9 r.m5 L+1:=by rw[Bo,ag ⟨rfl,h0⟩]
   rw[e1,aa I]
   rfl
  ·rw[aa ht]
   unfold vV;have e1:j9 t (L++[r])=j9 t L:=by rw[Bo,aa (fun q=>ht q.1.symm),fO]
   rw[e1]
 ·rw[aa h0]
  unfold vV;have e1:j9 t (L++[r])=j9 t L:=by rw[Bo,aa (fun q=>h0 q.2),fO]
  rw[e1]
theorem Yl (L:List Rw)(r:Rw)(vY:∀x∈L,x.nD≠r.nD): sK (L++[r])=if r.del=true then sK L else pR (sK L) r.nD (nR r.key):=by
 funext a
 unfold sK;rw[fP]
 by_cases ha:a=r.nD
 ·subst ha
  have hn:L.find? (fun x=>decide (x.nD=r.nD) && !x.del)=none:=by
   rw[dL];intro x hx;simp[vY x hx]
  rw[hn];cases hd:r.del with
  | true=>
   rw[ag rfl]
   show _=Option.map _ (L.find? (fun x=>decide (x.nD=r.nD) && !x.del))
   rw[hn];simp[hd]
  | false=>rw[aa lZ];simp[hd,pR]
 ·have hr:[r].find? (fun x=>decide (x.nD=a) && !x.del)=none:=by
   rw[dL];intro x hx;rw[bn.1 hx];simp[show ¬r.nD=a from fun q=>ha q.symm]
  rw[hr,Option.or_none];cases hd:r.del with
  | true=>rw[ag rfl]
  | false=>rw[aa lZ];unfold pR;rw[aa ha]
theorem PG.Zu {n:Nat}{cat:List Cat.Tb}{A:Int×Int->List Rw}{dF dF':Int->Option Value}{pF nF:Int×Int->Option Value}{k:Nat}(h:PG w vb M D f n cat A dF pF nF cp Oc mr md mp mn k F)(e:dF'=dF): PG w vb M D f n cat A dF' pF nF cp Oc mr md mp mn k F:=e ▸ h
theorem Zs {T:Nat}(hf:U T w g cs)(h1:lY cs)(hc:cs.length=m): ph w (fun b=>b=g) m (nj g 0 1 1) 1 cs :=
 ⟨by rw[hc,Nat.one_mul],h1,_,1,rfl,aj _,I,(fun h=>by cases h),fun _=>⟨g,0,rfl,hf.lt,rfl,Fo.HV hf⟩⟩
theorem Uw {s:St}(h0:rO w vb M D f s N)(hN:N+4<=1000000)(hI:Inv s){b:Bk}(hb:pr E f w b bc)(k:Nat)(o_:k<=1000000)(hU:Hr s b.index k){e:En}{ec:kL}(hEM:∀x,E x->¬M x)(yg:p_ (lz E f w) e ec)(lL:lQ e)(nE:Sm 3000 f e.data):
  Calls prog 54 #[jV vb,.agg ec.toArray,.agg bc.toArray,Iq k] w (agG w vb M D f (entR s e b.index k b.time).1 (entR s e b.index k b.time).2 (N+4)):=by
 obtain⟨cp,Oc,mr,md,mp,mn,kc,F,h⟩:=id h0;obtain⟨se,rfl,oG,oR,xK,Yn,rti,-⟩:=hb;have hE:=ZV yg;obtain⟨dc,rfl,Dk,lM,vP,vO,hhb,um,Ic⟩:=yg;have mL:(km e dc).length=46:=by simp[km,lM,vO]
 have j6:=h.lt;have mq:=h.ok;have rk:lV (k:Int):=⟨I,I⟩;apply kq (args:=[jV vb,.agg (km e dc).toArray,.agg (qT b se).toArray,Iq k]) func54 ntmps54;apply mA _;refine jO fun g5 w1 f1=>?_;refine jO fun g6 w2 f2=>?_;have E5:lT BI g5 w2 e dc:=⟨U.below f1.blk f2.below f1.blk.lt,lM,vO⟩;have B6:nM zq g6 w2 b se:=⟨f2.blk,oR⟩;have b2:=f1.below.trans (f2.below.mono f1.below.size);have q5:w.heap.size<=g5/\w.heap.size<=g6:=⟨by have:=f1.eq;omega,by have:=f2.eq;have:=f1.below.size;omega⟩;clear f1 f2;have ci:=B6.index;apply jF _;apply jR [Iq b.index,Iq k] (Ly _ _);refine jJ (z:=.agg [Iq 0,Iq 0].toArray) (fun _=>jG) fun g9 w3 f3=>?_;apply jE f3.blk CT;obtain⟨v9,b3,e9,-⟩:=nv [Iq b.index,Iq k] (Below.refl w2.heap.size w2) f3;have q9:w.heap.size<=g9:=by have:=f3.eq;have:=b2.size;omega
 generalize w3.setRow g9 _=w4 at v9 b3 ⊢;clear f3 e9 ci;have l5:=U.lt E5.blk;have l6:=U.lt B6.blk;replace E5:=E5.jA (Z.jw b3) l5;replace B6:nM zq g6 w4 b se:=⟨U.below B6.blk b3 l6,oR⟩;replace b2:=b2.kj b3;clear l5 l6 b3 w3 w2 w1;have ct:=E5.table;have cd:=E5.doc;apply jF _;apply jR [Iq e.table,Iq e.doc] (Ho _ _);refine jJ (z:=.agg [Iq 0,Iq 0].toArray) (fun _=>jG) fun Gt w5 f5=>?_;apply jE f5.blk CT;obtain⟨v10,b3,e9,-⟩:=nv [Iq e.table,Iq e.doc] (Below.refl w4.heap.size w4) f5;have q10:w.heap.size<=Gt:=by have:=f5.eq;have:=b2.size;omega
 generalize w5.setRow Gt _=w1 at v10 b3 ⊢;clear f5 e9 ct cd;have l5:=U.lt E5.blk;have l6:=U.lt B6.blk;have l9:=U.lt v9;replace E5:=E5.jA (Z.jw b3) l5;replace B6:nM zq g6 w1 b se:=⟨U.below B6.blk b3 l6,oR⟩;replace v9:=U.below v9 b3 l9;have b1:=b2.kj b3;clear l5 l6 l9 b3 b2 w5 w4;have l5:=U.lt E5.blk;have l6:=U.lt B6.blk;have l9:=U.lt v9;have IH:=U.lt v10;have h1:=h.below b1;have z1:=b1.size;have JE:=Dk.jA (O':=E) (Z.jw b1) (fun x _ h=>h) (fun x h=>h);have c0:=h1.su.cell 0 jM;have c1:=h1.su.cell 1 jM;have c2:=h1.su.cell 2 jM;have c3:=h1.su.cell 3 jM;have c4:=h1.su.cell 4 jM;simp only[aA,al]at c0 c1 c2 c3 c4;have xu:=h1.lt vb (.inl h1.wG);have ck:=E5.kind;have bad:∀ {c:Int}{s':St}{wx:World},c≠0->Z (fun x=>x<w.heap.size/\¬M x) w wx->agG w vb M D f c s' (N+4) (.returned (Iq c)) wx:=fun hc hk=>⟨rfl,hk,fun q=>absurd q hc⟩;have kb:∀ {wx:World},jP w1 wx->Z (fun x=>x<w.heap.size/\¬M x) w wx:=fun hx=>(Z.jw (b1.trans (hx.mono z1))).mono fun x hx=>hx.1;apply jF _
 by_cases HM:e.kind=2\/e.kind=3
 case pos=>
  obtain⟨Kh,aAd,Sc,h3v⟩:=I8 lL HM;have rt:lV e.table:=⟨I,I⟩;have rd:lV e.doc:=⟨I,I⟩;obtain⟨ha0,-⟩:=EC (L:=s.cat) (kind:=e.kind) (txt:=e.text) (tbl:=e.table) I I I;have hR:entR s e b.index k b.time=if(Cat.kM s.cat e.table).2.2≠0\/(Cat.kM s.cat e.table).2.1.dropped=true\/fits s e=false then(3,s) else(0,{ s with rows:=s.rows++[rowOf e b.index k b.time]}):=by
   unfold entR;rw[aa (by simpa using ha0),ag HM]
  rw[hR,hI.fit lL HM];refine WC.tn (fun _:Unit=>[(0,jV vb),(3,Iq k),(5,jV g5),(6,jV g6),(9,jV g9),(10,jV Gt),(37,.bool true)]) (fun _ w'=>w'=w1) rfl ?_ ?_
  ·rcases HM with e2|e3
   ·apply WC.sE rfl e2
    apply G _;exact WQ.meet () ⟨rfl,rfl,rfl,rfl,rfl,rfl,congrArg (fun z=>some (Value.bool z)) (aw e2),trivial⟩ rfl
   ·apply WC.q_ rfl I
    apply G _;exact WQ.meet () kz rfl
  rintro⟨⟩ w1 rfl;apply G _;refine WC.tn (fun g:Nat=>[(0,jV vb),(3,Iq k),(5,jV g5),(6,jV g6),(9,jV g9),(10,jV Gt),(11,jV g),(12,Iq (Cat.kM s.cat e.table).2.2)])
   (fun g w'=>jP w1 w'/\g<w'.heap.size/\w'.cell? (Aq g 2)=some (.bool (Cat.kM s.cat e.table).2.1.dropped)) rfl ?_ ?_
  ·refine WC.drawn 6 (jP w1) fun wa kv=>?_
   have hS:jP w1 wa:=kv.below _;apply jC [0,1,2,4] hS _;apply jz 3 [6,7,8,9,11,12] (lX xu c0) hS;apply jz 5 [6,7,8,9,11,12] (fun wx hx=>(hx.cell (p:=Aq g5 2) l5).trans E5.table) hS;refine WD.two 6 10 jG rfl rfl ?_ ?_
   ·skip
    apply jx func82 (Cat.yy (h1.below hS).cat e.table);rintro _ wb ⟨sp,c,rfl,ho,rA⟩;refine⟨_,rfl,?_⟩;apply(jZ)
    (apply ke 7 rfl _;apply ke 8 rfl _;apply ke 9 rfl _)
    apply jS 10;refine jJ (z:=.agg Cr.sX.toArray) Gr fun gt wc f9=>?_;apply(jZ);apply jS 11;apply jE f9.blk (Cr.rn rfl);obtain⟨vf,bf,-,-⟩:=nv [Iq (Cat.kM s.cat e.table).1,.string (Cat.kM s.cat e.table).2.1.name,.bool (Cat.kM s.cat e.table).2.1.dropped,.slice sp (Cat.kM s.cat e.table).2.1.fs.length c] rA f9;replace bf:=hS.kj bf;apply(jZ)
    (apply ke 12 rfl _)
    apply(jD);apply G _;exact WQ.meet gt kz ⟨bf,vf.lt,vf.cell 2 jM⟩
   ·skip
    refine jJ (z:=.agg Cr.sX.toArray) Gr fun gt wc f9=>?_;have AG:=hS.kj f9.below;apply lI AG;apply jS 6;apply jx func82 (Cat.yy (h1.below AG).cat e.table);rintro _ wb ⟨sp,c,rfl,ho,rA⟩;refine⟨_,rfl,?_⟩;apply(jZ)
    (apply ke 7 rfl _;apply ke 8 rfl _;apply ke 9 rfl _)
    apply jS 11;have vt9:=U.below f9.blk rA f9.blk.lt;apply jE vt9 (Cr.rn rfl);have vf:=vt9.setRow [Iq (Cat.kM s.cat e.table).1,.string (Cat.kM s.cat e.table).2.1.name,.bool (Cat.kM s.cat e.table).2.1.dropped,.slice sp (Cat.kM s.cat e.table).2.1.fs.length c];have hge:=f9.eq;have hgz:=hS.size;have bf:=(Cr.mo (K:=fun x=>x<w1.heap.size) (g:=gt) (Z.jw (AG.kj rA)) (fun hh=>by omega) [Iq (Cat.kM s.cat e.table).1,.string (Cat.kM s.cat e.table).2.1.name,.bool (Cat.kM s.cat e.table).2.1.dropped,.slice sp (Cat.kM s.cat e.table).2.1.fs.length c].toArray).below;apply(jZ)
    (apply ke 12 rfl _)
    apply(jD);apply G _;exact WQ.meet gt kz ⟨bf,vf.lt,vf.cell 2 jM⟩
  rintro g11 w3 ⟨b3,atT,cdr⟩;have h3:=h1.below b3;replace E5:=E5.jA (Z.jw b3) l5;replace B6:nM zq g6 w3 b se:=⟨U.below B6.blk b3 l6,oR⟩;replace v9:=U.below v9 b3 l9;replace v10:=U.below v10 b3 IH;replace JE:=JE.jA (O':=E) (Z.jw b3) (fun x _ h=>h) (fun x h=>h);replace c1:=(b3.cell (p:=Aq vb 1) xu).trans c1;replace c2:=(b3.cell (p:=Aq vb 2) xu).trans c2;replace c3:=(b3.cell (p:=Aq vb 3) xu).trans c3;have z3:=b3.size;replace kb:∀ {wx:World},jP w3 wx->Z (fun x=>x<w.heap.size/\¬M x) w wx:=fun hx=>kb (b3.trans (hx.mono z3));have bw3:=b1.trans (b3.mono z1);replace l5:=U.lt E5.blk;replace l6:=U.lt B6.blk;replace l9:=U.lt v9;replace IH:=U.lt v10;replace xu:=h3.lt vb (.inl h3.wG);have az8:w.heap.size<=w3.heap.size:=I;clear h1 b1 b3 z1 z3 c0 c4 ck hR;have axx:∀q,q=(Cat.kM s.cat e.table).2.2->q=0->(Cat.kM s.cat e.table).2.2=0:=fun q h1 h2=>h1.symm.trans h2;generalize Bw:(Cat.kM s.cat e.table).2.2=code;generalize (Cat.kM s.cat e.table).2.1.dropped=dr at cdr ⊢
  by_cases c9:code=0
  case neg=>
   rw[ag (.inl c9)];apply G _;exact J (bad Bm (kb (Below.refl _ _)))
  case pos=>
  cases dr with
  | true=>
   rw[ag (.inr (.inl rfl))];apply jF _;exact J (bad Bm (kb (Below.refl _ _)))
  | false=>
  have xY:∀ {wx:World},jP w3 wx->(Instr.lookup 127 (.map (some mr)) (nR (e.table,e.doc)) false).run prog wx=.ok ((F (e.table,e.doc)).getD (kP)) wx:=fun hx=>(h3.below hx).Yj rt rd;have aah:=h3.kN (e.table,e.doc);have HZ:=Sx s.rows (e.table,e.doc);generalize hFe:(F (e.table,e.doc)).getD (kP)=sv at xY aah;have hfit:Lw s e=if e.kind=2/\e.kA=0 then decide (e.doc=next s e.table) else match(Vw.of s.rows (e.table,e.doc)).getLast? with|some r=>!r.del && decide (e.kA=(Vw.of s.rows (e.table,e.doc)).length)|none=>false:=rfl
  generalize hLe:Vw.of s.rows (e.table,e.doc)=L at aah HZ hfit;obtain⟨sp,cap,rfl,ag9,arT,azL,-⟩:=id aah;apply jF _;refine WC.drawn 6 (jP w3) fun wa kv=>?_;have hS:jP w3 wa:=kv.below _;clear kv;apply jC [0,1,2] hS _;apply jz 3 [5,6] (lX xu c1) hS;apply kG 4 [5,6] (fun wx hx=>U.rangeAt (U.below v10 hx IH)) rfl hS;apply nJ 5 [6] (fun wx hx=>xY hx) hS;apply jS 6;apply(jN);apply(jZ);apply(jD)
  repeat (first|refine WC.seq ?_|refine WQ.then rfl ?_)
  have hSz:=hS.size;refine WC.tn (fun _:Unit=>[(0,jV vb),(3,Iq k),(5,jV g5),(6,jV g6),(9,jV g9),(10,jV Gt),(13,.slice sp L.length cap),(14,.bool (decide (e.kind=2/\e.kA=0)))]) (fun _ w'=>w'=wa) rfl ?_ ?_
  ·have ck:=(hS.cell (p:=Aq g5 0) l5).trans E5.kind
   have cv:=(hS.cell (p:=Aq g5 4) l5).trans E5.kA
   by_cases k2:e.kind=2
   ·apply jF _
    exact WQ.meet () ⟨rfl,rfl,rfl,rfl,rfl,rfl,rfl,congrArg (fun z=>some (Value.bool z)) (cN.2 ⟨fun q=>⟨k2,q⟩,fun q=>q.2⟩),trivial⟩ rfl
   ·apply jF _
    exact WQ.meet () ⟨rfl,rfl,rfl,rfl,rfl,rfl,rfl,congrArg (fun z=>some (Value.bool z)) (ar fun q=>k2 q.1).symm,trivial⟩ rfl
  rintro⟨⟩ wa rfl;apply G _;refine WC.tn (fun _:Unit=>[(0,jV vb),(3,Iq k),(5,jV g5),(6,jV g6),(9,jV g9),(10,jV Gt),(13,.slice sp L.length cap),(14,.bool (decide (e.kind=2/\e.kA=0))),(104,.bool (!Lw s e))]) (fun _ w'=>jP w3 w') rfl ?_ ?_
  ·by_cases ud:e.kind=2/\e.kA=0
   case pos=>
    rw[ag ud]at hfit;have hfd:=aw ud;rw[hfd]
    by_cases KI:e.doc=next s e.table
    ·refine WC.drawn 34 (jP w3) fun wb zL=>?_
     have rX:jP w3 wb:=hS.trans (zL.below _);clear hS;have hS:=rX;apply jC [0,1,2] hS _;apply jz 3 (mw 8 34) (fun wx hx=>(hx.cell (p:=Aq g5 3) l5).trans E5.doc) hS;apply jC [4,5] hS _;apply jz 6 (mw 7 34) (fun wx hx=>(hx.cell (p:=Aq g5 2) l5).trans E5.table) hS;apply jS 7;apply(jX);apply kH func83 (Nn (rO.below ⟨_,_,_,_,_,_,_,_,h3⟩ hS) rt);rintro wc bc
     replace hS:=hS.kj bc;apply lI hS;apply jC [8,9,10,11,12,13,14,15,16,17,18,19,20,21] hS _;apply jC [22] hS _;apply jC [23] hS _;apply jC [24] hS _;apply jC [25,26,27] hS _;apply jC [28] hS _;apply jC [29,30,31,32,33] hS _;apply jS 34;apply(jN);apply(jZ);apply(jD);apply G _;exact WQ.meet () ⟨rfl,rfl,rfl,rfl,rfl,rfl,rfl,rfl,congrArg (fun z=>some (Value.bool z)) (by rw[hfit,aw KI];rfl),trivial⟩ hS
    ·refine WC.drawn 34 (jP w3) fun wb zL=>?_
     have rX:jP w3 wb:=hS.trans (zL.below _);clear hS;have hS:=rX;apply jC [0,1,2] hS _;apply jz 3 (mw 8 34) (fun wx hx=>(hx.cell (p:=Aq g5 3) l5).trans E5.doc) hS;apply jC [4,5] hS _;apply jz 6 (mw 7 34) (fun wx hx=>(hx.cell (p:=Aq g5 2) l5).trans E5.table) hS;apply jS 7;apply(jX);apply kH func83 (Nn (rO.below ⟨_,_,_,_,_,_,_,_,h3⟩ hS) rt);rintro wc bc
     replace hS:=hS.kj bc;apply lI hS;apply jC [8,9,10,11,12,13,14,15,16,17,18,19,20,21] hS _;apply jC [22] hS _;apply jC [23] hS _;apply jC [24] hS _;apply jC [25,26,27] hS _;apply jC [28] hS _;apply jC [29,30,31,32,33] hS _;apply jS 34;apply(jN);apply(jZ);apply(jD);apply G _;exact WQ.meet () ⟨rfl,rfl,rfl,rfl,rfl,rfl,rfl,rfl,congrArg (fun z=>some (Value.bool z)) (by rw[hfit,ar KI];rfl),trivial⟩ hS
   case neg=>
    rw[aa ud]at hfit;have hfd:=ar ud;rw[hfd]
    by_cases G_:L.length=0
    case pos=>
     obtain rfl:L=[]:=bF G_;refine WC.drawn 34 (jP w3) fun wb zL=>?_;have rX:jP w3 wb:=hS.trans (zL.below _);clear hS;have hS:=rX;apply jC [0,1,2] hS _;apply jC [3] hS _;apply jC [4,5] hS _;apply jC [6] hS _;apply jC [7] hS _;apply jC [8,9,10,11,12,13,14,15,16,17,18,19,20,21] hS _;apply jC [22] hS _;apply jC [23] hS _;apply jC [24] hS _;apply jC [25,26,27] hS _;apply jC [28] hS _;apply jC [29,30,31,32,33] hS _;apply jS 34;apply(jN);apply(jZ);apply(jD);apply G _;exact WQ.meet () ⟨rfl,rfl,rfl,rfl,rfl,rfl,rfl,rfl,congrArg (fun z=>some (Value.bool z)) (by rw[hfit];rfl),trivial⟩ hS
    case neg=>
    have hi:L.length - 1<L.length:=I;have ui:L.getLast? = some (L.getD (L.length - 1) kE):=by rw[g_,ah,ai hi];rfl
    rw[ui]at hfit;obtain⟨b9,o9,qu,DQ,es,sw,-,R9,-,-,-⟩:=nw aah hi;obtain⟨rfl,rfl⟩:sp=some (Aq b9 o9)/\cap=qu:=by simpa using es
    clear es;have yZ:=R9.del;have eNi:((L.length:Int) - 1)=((L.length - 1:Nat):Int):=I;cases wI:(L.getD (L.length - 1) kE).del with
    | true=>
     rw[wI]at yZ;have RU:Lw s e=false:=by rw[hfit];simp only;rw[wI];rfl
     rw[RU];refine WC.drawn 34 (jP w3) fun wb zL=>?_;have rX:jP w3 wb:=hS.trans (zL.below _);clear hS;have hS:=rX;apply jC [0,1,2] hS _;apply jC [3] hS _;apply jC [4,5] hS _;apply jC [6] hS _;apply jC [7] hS _;apply jC [8,9,10,11,12,13,14,15,16,17,18,19,20,21] hS _;apply kY (hz:=I) 22 (L.length - 1) (o9+(L.length - 1)*14) hi (.inr hS);apply jC [23] hS _;apply jz 24 (mw 25 34) (lX sw yZ) hS;apply jC [25,26,27] hS _;apply jC [28] hS _;apply jC [29,30,31,32,33] hS _;apply jS 34;apply(jN);apply(jZ);apply(jD);apply G _;exact WQ.meet () kz hS
    | false=>
     rw[wI]at yZ;have RU:Lw s e=decide (e.kA=L.length):=by rw[hfit];simp only;rw[wI];rfl
     rw[RU]
     by_cases hvl:e.kA=L.length
     ·rw[aw hvl]
      refine WC.drawn 34 (jP w3) fun wb zL=>?_;have rX:jP w3 wb:=hS.trans (zL.below _);clear hS;have hS:=rX;apply jC [0,1,2] hS _;apply jC [3] hS _;apply jC [4,5] hS _;apply jC [6] hS _;apply jC [7] hS _;apply jC [8,9,10,11,12,13,14,15,16,17,18,19,20,21] hS _;apply kY (hz:=I) 22 (L.length - 1) (o9+(L.length - 1)*14) hi (.inr hS);apply jC [23] hS _;apply jz 24 (mw 25 34) (lX sw yZ) hS;apply jC [25,26,27] hS _;apply jz 28 [31,32,33,34] (fun wx hx=>(hx.cell (p:=Aq g5 4) l5).trans E5.kA) hS;apply jC [29,30,31,32,33] hS _;apply jS 34;apply(jN);apply(jZ);apply(jD);apply G _;exact WQ.meet () kz hS
     ·rw[ar hvl]
      refine WC.drawn 34 (jP w3) fun wb zL=>?_;have rX:jP w3 wb:=hS.trans (zL.below _);clear hS;have hS:=rX;apply jC [0,1,2] hS _;apply jC [3] hS _;apply jC [4,5] hS _;apply jC [6] hS _;apply jC [7] hS _;apply jC [8,9,10,11,12,13,14,15,16,17,18,19,20,21] hS _;apply kY (hz:=I) 22 (L.length - 1) (o9+(L.length - 1)*14) hi (.inr hS);apply jC [23] hS _;apply jz 24 (mw 25 34) (lX sw yZ) hS;apply jC [25,26,27] hS _;apply jz 28 [31,32,33,34] (fun wx hx=>(hx.cell (p:=Aq g5 4) l5).trans E5.kA) hS;apply jC [29,30,31,32,33] hS _;apply jS 34;apply(jN);apply(jZ);apply(jD);apply G _;exact WQ.meet () kz hS
  rintro⟨⟩ w4 b4;cases vB:Lw s e with
  | false=>
   rw[ag (.inr (.inr rfl))];apply G _;exact J (bad Bm (kb b4))
  | true=>
  rw[aa (fun q=>by rcases q with q|q|q<;>(first|exact q c9|cases q))];have Ko:e.kA=0->e.kind=2:=fun q=>HM.elim id fun x=>by have:=h3v x;omega
  have vY:∀x∈s.rows,x.nD≠(b.index,(k:Int)):=fun x hx q=>by
   have q1:x.blk=b.index:=congrArg Prod.fst q;have q2:x.pH=(k:Int):=congrArg Prod.snd q;have:=hU x hx;omega
  have HS:=Ya s.rows (rowOf e b.index k b.time);have ZP:=Yl s.rows (rowOf e b.index k b.time) vY;have h4:=h3.below b4;have z4:=b4.size;replace E5:=E5.jA (Z.jw b4) l5;replace B6:nM zq g6 w4 b se:=⟨U.below B6.blk b4 l6,oR⟩;replace v9:=U.below v9 b4 l9;replace v10:=U.below v10 b4 IH;replace JE:=JE.jA (O':=E) (Z.jw b4) (fun x _ h=>h) (fun x h=>h);replace c1:=(b4.cell (p:=Aq vb 1) xu).trans c1;replace c2:=(b4.cell (p:=Aq vb 2) xu).trans c2;replace c3:=(b4.cell (p:=Aq vb 3) xu).trans c3;replace l5:=U.lt E5.blk;replace l6:=U.lt B6.blk;replace l9:=U.lt v9;replace IH:=U.lt v10;have k4:=kb b4;have lmd:=j6 md (.inl h.AV);have lmr:=j6 mr (.inl h.AB);have lmp:=j6 mp (.inl h.Bz);have auv:=j6 vb (.inl h.wG);have zz4:w.heap.size<=w4.heap.size:=I;have hlD:=h4.Oj (t:=e.table) rt;have Ta:=h4.pg.uW;have Rp:PG w4 vb M D f s.n s.cat (Vw.of s.rows) (vV s.rows) (sK s.rows) (CG s.red) cp Oc mr md mp mn kc F:=h4.pg;have ZY:=h4.ok;have amj:∀ {wx:World},jP w4 wx->(Instr.lookup 128 (.map (some md)) (Iq e.table) false).run prog wx=.ok (Iq (j9 e.table s.rows:Nat)) wx:=fun hx=>(h4.below hx).Oj rt;have nL:=uZ e.table s.rows;clear h3 b4 kb xY cdr hlD bw3 atT h4 hS hSz z4;apply G _;refine WC.tn (fun _:Unit=>[(0,jV vb),(3,Iq k),(5,jV g5),(6,jV g6),(9,jV g9),(10,jV Gt),(13,.slice sp L.length cap)]) (fun _ w'=>Z (fun x=>x<w4.heap.size/\x≠md) w4 w'/\PG w' vb M D f s.n s.cat (Vw.of s.rows) (vV (s.rows++[rowOf e b.index k b.time])) (sK s.rows) (CG s.red) cp Oc mr md mp mn (kc+1) F) rfl ?_ ?_
  ·by_cases ud:e.kind=2/\e.kA=0
   ·apply WC.sE rfl ud
    rw[ag (show(rowOf e b.index k b.time).kA=0 from ud.2)]at HS;apply mA _;refine WC.drawn 8 (jP w4) fun wb kv=>?_;have hS:jP w4 wb:=kv.below _;clear kv;apply jC [0,1,2] hS _;apply jz 3 [6,7,8] (fun wx hx=>(hx.cell (p:=Aq vb 2) (I:vb<w4.heap.size)).trans c2) hS;apply jC [4] hS _;apply jz 5 [6,7,8] (fun wx hx=>(hx.cell (p:=Aq g5 2) l5).trans E5.table) hS;apply nJ 6 [7,8] (fun wx hx=>amj hx) hS;apply jC [7] hS _;apply jS 8;obtain⟨w',Xq,Ea,Xz⟩:=(Rp.below hS).atS I rt (Iq ((j9 e.table s.rows:Int)+1));apply WL.ml rfl rfl rfl rfl rfl rfl Xq;apply(jZ);apply(jD);apply G _;exact WQ.meet () kz ⟨((Z.jw hS).mono fun x hx=>hx.1).trans (Ea.mono fun x hx=>hx.2),Xz.Zu HS⟩
   ·apply WC.q_ rfl ud
    rw[aa (show ¬(rowOf e b.index k b.time).kA=0 from fun q=>ud ⟨Ko q,q⟩)]at HS;apply G _;exact WQ.meet () kz ⟨Z.refl _ _,(Rp.agX (bQ kc)).Zu HS⟩
  rintro⟨⟩ w5 ⟨k5,hG5⟩;clear HS amj Rp;have z5:=k5.size;replace E5:=E5.jA k5 ⟨l5,I⟩;replace B6:nM zq g6 w5 b se:=⟨B6.blk.jA k5 ⟨l6,I⟩,oR⟩;replace v9:=v9.jA k5 ⟨l9,I⟩;replace v10:=v10.jA k5 ⟨IH,I⟩;replace JE:=JE.jA (O':=E) k5 (fun x hx hl=>⟨hl,fun q=>hEM x hx (q ▸ h.AV)⟩) (fun x h=>h);replace c1:=(k5.cell (p:=Aq vb 1) ⟨by show vb<w4.heap.size;omega,Ta.2.1.symm⟩).trans c1;replace c3:=(k5.cell (p:=Aq vb 3) ⟨by show vb<w4.heap.size;omega,Ta.2.1.symm⟩).trans c3;replace l5:=U.lt E5.blk;replace l6:=U.lt B6.blk;replace l9:=U.lt v9;replace IH:=U.lt v10;replace k4:Z (fun x=>x<w.heap.size/\¬M x) w w5:=k4.trans (k5.mono fun x hx=>⟨I,fun q=>hx.2 (q ▸ h.AV)⟩);clear k5 c2;have atj:∀ {wx:World}{rU:kL}{P:Nat->Prop},lz P f wx e.data rU->ni P f wx (rowOf e b.index k b.time) (lA (rowOf e b.index k b.time) rU):=fun CC=>⟨_,rfl,CC,⟨Ic.2.1,Ic.2.2.1,Ic.2.2.2.1,Yn,rk,rti⟩,nE⟩;apply G _;refine WC.tn (fun x:Nat×kL=>[(0,jV vb),(3,Iq k),(5,jV g5),(6,jV g6),(9,jV g9),(10,jV Gt),(13,.slice sp L.length cap),(15,.pointer (some (Aq x.1 0)))])
   (fun x w'=>jP w5 w'/\U vM w' x.1 (lA (rowOf e b.index k b.time) x.2)/\lz (fun y=>w5.heap.size<=y/\y<w'.heap.size) f w' e.data x.2) rfl ?_ ?_
  ·refine WC.drawn 21 (jP w5) fun wa2 kv=>?_
   have hS:jP w5 wa2:=kv.below _;clear kv;apply jC [0] hS _;apply jz 1 [19,21] (fun wx hx=>(hx.cell (p:=Aq g5 2) l5).trans E5.table) hS;apply jC [2] hS _;apply jz 3 [19,21] (fun wx hx=>(hx.cell (p:=Aq g5 3) l5).trans E5.doc) hS;apply jC [4] hS _;apply jz 5 [19,21] (fun wx hx=>(hx.cell (p:=Aq g5 4) l5).trans E5.kA) hS;apply jC [6] hS _;apply kG 7 [8,19,21] (fun wx hx=>(E5.jA (Z.jw hx) l5).data) lM hS;apply jC [9] hS _;apply jz 10 [19,21] (fun wx hx=>(hx.cell (p:=Aq g5 43) l5).trans E5.gone) hS;apply jC [11] hS _;apply jz 12 [13,19,21] (fun wx hx=>(hx.cell (p:=Aq g5 0) l5).trans E5.kind) hS;apply jC [13,14] hS _;apply jz 15 [19,21] (fun wx hx=>(hx.cell (p:=Aq g6 0) l6).trans B6.index) hS;apply jC [16,17] hS _;apply jz 18 [19,21] (fun wx hx=>(hx.cell (p:=Aq g6 1) l6).trans B6.time) hS;have zS:=hS.size;refine WD.two 8 20 jG rfl rfl ?_ ?_
   ·skip
    apply jx func84 (EB (B:=3000) I f (JE.jA (O':=E) (Z.jw hS) (fun x _ h=>h) (fun x h=>h)).sN nE);rintro _ wb ⟨rA,rU,rfl,CC⟩;refine⟨_,rfl,?_⟩;obtain⟨qQ,CA,AE,Af,sZ,rM,rfl⟩:=BH CC;have zb:=rA.size;have rX:=hS;replace hS:=hS.trans (rA.mono zS);apply lI hS;apply Cr.xy (lA (rowOf e b.index k b.time) [Iq e.data.k,Iq e.data.n,Iq e.data.s,.string e.data.t,.slice qQ AE sZ,.slice CA Af rM]) 19 rfl jG rfl rfl (fun _ _ _ _ _ h=>h) rfl rfl rfl (MG _ _ _ _ _ _ _ _ _ _ _ _ _ _ _ _ _ _) (.inr hS);apply jS 20;refine jJ (z:=.agg (lA kE jK).toArray) (fun _=>jG) fun Mz wc f9=>?_;have bc:=f9.below;have eg:=f9.eq;have pO:=hS.kj bc;apply lI pO;apply jS 21;apply jE f9.blk (nu CC.one);have Ha:=U.setRow f9.blk (lA (rowOf e b.index k b.time) [Iq e.data.k,Iq e.data.n,Iq e.data.s,.string e.data.t,.slice qQ AE sZ,.slice CA Af rM]);have Y0:Z (fun x=>x<wb.heap.size) wb (wc.setRow Mz (lA (rowOf e b.index k b.time) [Iq e.data.k,Iq e.data.n,Iq e.data.s,.string e.data.t,.slice qQ AE sZ,.slice CA Af rM]).toArray):=Cr.mo (Z.jw bc) (fun hh=>by omega) _;have zz:=Y0.size;have agF:=CC.there.jA (O':=fun y=>w5.heap.size<=y/\y<(wc.setRow Mz (lA (rowOf e b.index k b.time) [Iq e.data.k,Iq e.data.n,Iq e.data.s,.string e.data.t,.slice qQ AE sZ,.slice CA Af rM]).toArray).heap.size) Y0 (fun x hx _=>hx.2) (fun x hx=>⟨I,I⟩);apply(jZ);apply(jD);apply G _;exact WQ.meet (Mz,_) kz ⟨hS.trans ((Y0.below).mono hS.size),Ha,agF⟩
   ·skip
    refine jJ (z:=.agg (lA kE jK).toArray) (fun _=>jG) fun Mz wc f9=>?_;have bc:=f9.below;have eg:=f9.eq;have pO:=hS.trans (bc.mono zS);have zc:=bc.size;have sc:=f9.size;apply lI pO;apply jS 8;apply jx func84 (EB (B:=3000) I f (JE.jA (O':=E) (Z.jw pO) (fun x _ h=>h) (fun x h=>h)).sN nE);rintro _ wb ⟨rA,rU,rfl,CC⟩;refine⟨_,rfl,?_⟩;obtain⟨qQ,CA,AE,Af,sZ,rM,rfl⟩:=BH CC;have zb:=rA.size;have rX:=hS;replace hS:=pO.kj rA;apply lI hS;apply Cr.xy (lA (rowOf e b.index k b.time) [Iq e.data.k,Iq e.data.n,Iq e.data.s,.string e.data.t,.slice qQ AE sZ,.slice CA Af rM]) 19 rfl jG rfl rfl (fun _ _ _ _ _ h=>h) rfl rfl rfl (MG _ _ _ _ _ _ _ _ _ _ _ _ _ _ _ _ _ _) (.inr hS);apply jS 21;have Ha:=U.below f9.blk rA f9.blk.lt;apply jE Ha (nu CC.one);replace Ha:=U.setRow Ha (lA (rowOf e b.index k b.time) [Iq e.data.k,Iq e.data.n,Iq e.data.s,.string e.data.t,.slice qQ AE sZ,.slice CA Af rM]);have Y0:Z (fun x=>x≠Mz) wb (wb.setRow Mz (lA (rowOf e b.index k b.time) [Iq e.data.k,Iq e.data.n,Iq e.data.s,.string e.data.t,.slice qQ AE sZ,.slice CA Af rM]).toArray):=Cr.mo (Z.refl _ _) jM _;have zz:=Y0.size;have agF:=CC.there.jA (O':=fun y=>w5.heap.size<=y/\y<(wb.setRow Mz (lA (rowOf e b.index k b.time) [Iq e.data.k,Iq e.data.n,Iq e.data.s,.string e.data.t,.slice qQ AE sZ,.slice CA Af rM]).toArray).heap.size) Y0 (fun x hx _=>by have:=hx.1;omega) (fun x hx=>⟨I,I⟩);apply(jZ);apply(jD);apply G _;exact WQ.meet (Mz,_) kz ⟨((Z.jw hS).trans (Y0.mono fun x (hx:x<w5.heap.size)=>by omega)).below,Ha,agF⟩
  rintro⟨Mz,tW⟩ w6 ⟨b6,Ha,CC⟩;simp only at Ha CC;have z6:=b6.size;have Y7:=hG5.below b6;replace c1:=(b6.cell (p:=Aq vb 1) (I:vb<w5.heap.size)).trans c1;replace c3:=(b6.cell (p:=Aq vb 3) (I:vb<w5.heap.size)).trans c3;replace E5:=E5.jA (Z.jw b6) l5;replace v9:=U.below v9 b6 l9;replace v10:=U.below v10 b6 IH;replace l5:=U.lt E5.blk;replace l9:=U.lt v9;replace IH:=U.lt v10;have l15:=U.lt Ha;have xU:=CC.len;have zw6:w.heap.size<=w6.heap.size:=I;replace k4:Z (fun x=>x<w.heap.size/\¬M x) w w6:=k4.trans ((Z.jw b6).mono fun x hx=>by show x<w5.heap.size;omega);have JO:=atj CC;have Lr:m6 14 kE (ni D f w6) D w6 (.slice sp L.length cap) L:=by
   have:=Y7.kN (e.table,e.doc);rw[hLe]at this
   rwa [hFe]at this
  have amw:0<L.length->∃b o,sp=some (Aq b o):=fun q=>by
   obtain⟨b9,o9,qu,DQ,es,-⟩:=nw Lr q;exact⟨b9,o9,(by simpa using es:sp=some (Aq b9 o9)/\cap=qu).1⟩
  apply G _;refine WC.tn (fun _:Unit=>[(0,jV vb),(3,Iq k),(5,jV g5),(6,jV g6),(9,jV g9),(10,jV Gt)]) (fun _ w'=>∃D' F',Z (fun x=>x<w6.heap.size/\x≠mr) w6 w'/\(∀x,D' x->D x\/w.heap.size<=x)/\PG w' vb M D' f s.n s.cat (fun y=>if y=(e.table,e.doc) then L++[rowOf e b.index k b.time] else Vw.of s.rows y) (vV (s.rows++[rowOf e b.index k b.time])) (sK s.rows) (CG s.red) cp Oc mr md mp mn (kc+2) F') rfl ?_ ?_
  ·refine WC.drawn 14 (jP w6) fun wa2 kv=>?_
   have hS:jP w6 wa2:=kv.below _;clear kv;apply jC [0,1,2] hS _;apply jz 3 [14] (fun wx hx=>(hx.cell (p:=Aq vb 1) (I:vb<w6.heap.size)).trans c1) hS;apply kG 4 [14] (fun wx hx=>U.rangeAt (U.below v10 hx IH)) rfl hS;apply jC [5,6,7,8,9] hS _;apply kG 11 [12,13,14] (fun wx hx=>U.rangeAt (U.below Ha hx l15)) (ln xU) hS;refine WD.two 10 12 jG rfl rfl ?_ ?_
   ·skip
    apply WL.clip rfl rfl rfl rfl rfl rfl rfl rfl ag9 amw;apply lI hS;apply jS 12;refine lh (hcs:=(ln xU)) (cs:=lA (rowOf e b.index k b.time) tW) fun gl w7 f7=>?_;have b7:=f7.below;have tQ:=hS.kj b7;have z7:=tQ.size;apply lI tQ;apply jS 13;obtain⟨mZ,kl,kat,ksl⟩:=Jb (Lr.jA (P':=ni D f w7) (Z.jw tQ) (fun x _ hl=>hl) nN fun _ _ hp=>hp.jA (Z.jw tQ) (fun x hx _=>Y7.lt x (.inr hx)) nN) (fun _ _ hp=>hp.one);refine WL.agR rfl rfl rfl rfl Hu rfl ksl rfl (Zs f7.blk JO.one JO.len) I I I fun v8 w8 Aw b8=>?_;have Kd:=tQ.trans (b8.mono z7);have z8:=b8.size;apply lI Kd;apply jS 14;have UL:=Y7.below Kd;have EN:=UL.lt;have ahY:∀x,M x->x<w.heap.size:=fun x hx=>j6 x (.inl hx);have afX:=UL.more (D':=fun x=>D x\/(w5.heap.size<=x/\x<w8.heap.size)) (fun x hx=>.inl hx) (fun x hx=>hx.elim (fun q=>EN x (.inr q)) fun q=>q.2) (fun x hx q=>q.elim (h.sep x hx) fun q=>by have:=ahY x hx;omega);have rY:kC vM 14 kE (ni (fun x=>D x\/(w5.heap.size<=x/\x<w8.heap.size)) f w8) (fun x=>w7.heap.size<=x) w8 v8 (L++[rowOf e b.index k b.time]) :=
     L6 kl (fun j hj=>⟨(kat j hj).1,(kat j hj).2.jA (Z.jw b8) (fun x hx hl=>hl) fun x hx=>.inl hx⟩) JO.len (JO.jA (Z.jw Kd) (fun x hx _=>hx.2) fun x hx=>.inr ⟨hx.1,I⟩) Aw
    have ah5:m6 14 kE (ni (fun x=>D x\/(w5.heap.size<=x/\x<w8.heap.size)) f w8) (fun x=>D x\/(w5.heap.size<=x/\x<w8.heap.size)) w8 v8 (L++[rowOf e b.index k b.time]):=by
     obtain⟨a1,a2,a3,a4,a5,a6,a7⟩:=rq rY;refine⟨a1,a2,a3,a4,a5,a6,fun q=>?_⟩;obtain⟨y1,y2,y3,y4,y5,y6⟩:=a7 q;exact⟨y1,y2,y3,y4,.inr ⟨I,y4⟩,y6⟩
    obtain⟨w9,Xj,IE,Vk⟩:=afX.adb I (x:=(e.table,e.doc)) rt rd ah5;apply WL.ml rfl rfl rfl rfl rfl rfl Xj;apply(jZ);apply(jD);apply G _;exact WQ.meet () kz ⟨_,_,((Z.jw Kd).mono fun x hx=>hx.1).trans (IE.mono fun x hx=>hx.2),fun x hx=>hx.elim .inl fun q=>.inr I,Vk⟩
   ·skip
    refine lh (hcs:=(ln xU)) (cs:=lA (rowOf e b.index k b.time) tW) fun gl w7 f7=>?_;have hSx:=hS.kj f7.below;apply lI hSx;apply jS 10;apply WL.clip rfl rfl rfl rfl rfl rfl rfl rfl ag9 amw;have b7:=f7.below;have tQ:=hS.kj b7;have z7:=tQ.size;apply lI tQ;apply jS 13;obtain⟨mZ,kl,kat,ksl⟩:=Jb (Lr.jA (P':=ni D f w7) (Z.jw tQ) (fun x _ hl=>hl) nN fun _ _ hp=>hp.jA (Z.jw tQ) (fun x hx _=>Y7.lt x (.inr hx)) nN) (fun _ _ hp=>hp.one);refine WL.agR rfl rfl rfl rfl Hu rfl ksl rfl (Zs f7.blk JO.one JO.len) I I I fun v8 w8 Aw b8=>?_;have Kd:=tQ.trans (b8.mono z7);have z8:=b8.size;apply lI Kd;apply jS 14;have UL:=Y7.below Kd;have EN:=UL.lt;have ahY:∀x,M x->x<w.heap.size:=fun x hx=>j6 x (.inl hx);have afX:=UL.more (D':=fun x=>D x\/(w5.heap.size<=x/\x<w8.heap.size)) (fun x hx=>.inl hx) (fun x hx=>hx.elim (fun q=>EN x (.inr q)) fun q=>q.2) (fun x hx q=>q.elim (h.sep x hx) fun q=>by have:=ahY x hx;omega);have rY:kC vM 14 kE (ni (fun x=>D x\/(w5.heap.size<=x/\x<w8.heap.size)) f w8) (fun x=>w7.heap.size<=x) w8 v8 (L++[rowOf e b.index k b.time]) :=
     L6 kl (fun j hj=>⟨(kat j hj).1,(kat j hj).2.jA (Z.jw b8) (fun x hx hl=>hl) fun x hx=>.inl hx⟩) JO.len (JO.jA (Z.jw Kd) (fun x hx _=>hx.2) fun x hx=>.inr ⟨hx.1,I⟩) Aw
    have ah5:m6 14 kE (ni (fun x=>D x\/(w5.heap.size<=x/\x<w8.heap.size)) f w8) (fun x=>D x\/(w5.heap.size<=x/\x<w8.heap.size)) w8 v8 (L++[rowOf e b.index k b.time]):=by
     obtain⟨a1,a2,a3,a4,a5,a6,a7⟩:=rq rY;refine⟨a1,a2,a3,a4,a5,a6,fun q=>?_⟩;obtain⟨y1,y2,y3,y4,y5,y6⟩:=a7 q;exact⟨y1,y2,y3,y4,.inr ⟨I,y4⟩,y6⟩
    obtain⟨w9,Xj,IE,Vk⟩:=afX.adb I (x:=(e.table,e.doc)) rt rd ah5;apply WL.ml rfl rfl rfl rfl rfl rfl Xj;apply(jZ);apply(jD);apply G _;exact WQ.meet () kz ⟨_,_,((Z.jw Kd).mono fun x hx=>hx.1).trans (IE.mono fun x hx=>hx.2),fun x hx=>hx.elim .inl fun q=>.inr I,Vk⟩
  rintro⟨⟩ w8 ⟨D',F',k8,hD',UL⟩;have z8:=k8.size;replace E5:=E5.jA k8 ⟨l5,I⟩;replace v9:=v9.jA k8 ⟨l9,I⟩;replace v10:=v10.jA k8 ⟨IH,I⟩;replace c3:=(k8.cell (p:=Aq vb 3) ⟨by show vb<w6.heap.size;omega,Ta.1.symm⟩).trans c3;replace l9:=U.lt v9;replace IH:=U.lt v10;replace k4:Z (fun x=>x<w.heap.size/\¬M x) w w8:=k4.trans (k8.mono fun x hx=>⟨I,fun q=>hx.2 (q ▸ h.AB)⟩);have ck:=E5.kind;have hA:∀x,Vw.of (s.rows++[rowOf e b.index k b.time]) x=if x=(e.table,e.doc) then L++[rowOf e b.index k b.time] else Vw.of s.rows x:=fun x=>by
   rw[G1]
   by_cases q:x=(e.table,e.doc)
   ·subst q
    rw[ag rfl,hLe,ag (show(rowOf e b.index k b.time).key=(e.table,e.doc) from rfl)]
   ·rw[aa q,aa (show ¬(rowOf e b.index k b.time).key=x from fun y=>q y.symm),aP]
  have ak5:({ s with rows:=s.rows++[rowOf e b.index k b.time]}:St).n<=N+4/\({ s with rows:=s.rows++[rowOf e b.index k b.time]}:St).rows.length<=N+4/\kc+3<=N+4/\N+4<=1000000:=by
   refine⟨by show s.n<=_;omega,?_,I,hN⟩
   show(s.rows++[rowOf e b.index k b.time]).length<=_
   rw[af,eQ];omega
  by_cases k2:e.kind=2
  ·have asb:(rowOf e b.index k b.time).del=false:=ar I
   rw[asb,aa lZ]at ZP;apply jF _;refine WC.drawn 6 (jP w8) fun wa2 kv=>?_;have hS:jP w8 wa2:=kv.below _;clear kv;apply jC [0,1,2] hS _;apply jz 3 [6] (fun wx hx=>(hx.cell (p:=Aq vb 3) (I:vb<w8.heap.size)).trans c3) hS;apply kG 4 [6] (fun wx hx=>U.rangeAt (U.below v9 hx l9)) rfl hS;apply kG 5 [6] (fun wx hx=>U.rangeAt (U.below v10 hx IH)) rfl hS;apply jS 6;obtain⟨w9,Xj,IE,hG9⟩:=(UL.below hS).avx I (x:=(b.index,(k:Int))) Yn rk (nR (e.table,e.doc));apply WL.ml rfl rfl rfl rfl rfl rfl Xj;apply(jZ);apply(jD);apply G _;exact J ⟨rfl,(k4.trans ((Z.jw hS).mono fun x hx=>by show x<w8.heap.size;omega)).trans (IE.mono fun x hx q=>hx.2 (q ▸ h.Bz)),fun _=>⟨M,D',⟨cp,Oc,mr,md,mp,mn,kc+3,F',hG9.pv rfl rfl hA (fun _=>rfl) (fun x=>congrFun ZP x) (fun _=>rfl) ak5⟩,fun x hx=>.inl hx,hD'⟩⟩
  ·have arh:(rowOf e b.index k b.time).del=true:=aw I
   rw[arh,ag rfl]at ZP;apply jF _;exact J ⟨rfl,k4,fun _=>⟨M,D',⟨cp,Oc,mr,md,mp,mn,kc+3,F',(UL.agX (bQ _)).pv rfl rfl hA (fun _=>rfl) (fun x=>congrFun ZP x) (fun _=>rfl) ak5⟩,fun x hx=>.inl hx,hD'⟩⟩
 case neg=>
 by_cases h4:e.kind=4
 case pos=>
  obtain⟨k2,k3⟩:¬e.kind=2/\¬e.kind=3:=⟨I,I⟩;obtain⟨ha0,-⟩:=EC (L:=s.cat) (kind:=e.kind) (txt:=e.text) (tbl:=e.table) I I I;have hR:entR s e b.index k b.time=(match s.rows.findIdx? (zD s (e.ab,e.ae)) with|some i=>(0,{ s with rows:=s.rows.set i (shut (s.rows.getD i kE)),red:=yE s.red (e.ab,e.ae)})|none=>(3,s)):=by
   unfold entR;rw[aa (by simpa using ha0),aa HM,ag h4];rfl
  rw[hR];have ra:lV (e.ab,e.ae).1:=Ic.2.2.2.2.1;have re:lV (e.ab,e.ae).2:=Ic.2.2.2.2.2;have hlp:∀ {wx:World},jP w1 wx->(Instr.lookup 129 (.map (some mp)) (nR (e.ab,e.ae)) true).run prog wx=.ok (.tuple #[(sK s.rows (e.ab,e.ae)).getD (nR (0,0)),.bool (sK s.rows (e.ab,e.ae)).isSome]) wx:=fun hx=>(h1.below hx).apV ra re;have Ca:∀ {wx:World},jP w1 wx->(Instr.lookup 130 (.map (some mn)) (nR (e.ab,e.ae)) false).run prog wx=.ok (.bool (s.red (e.ab,e.ae))) wx:=fun hx=>(h1.below hx).apl ra re;obtain⟨kk,okb,DZ,mW⟩:∃kk okb,(sK s.rows (e.ab,e.ae)).getD (nR (0,0))=nR kk/\(sK s.rows (e.ab,e.ae)).isSome=okb:=by
   unfold sK;cases s.rows.find? fun r=>decide (r.nD=(e.ab,e.ae)) && !r.del with
   | none=>exact⟨(0,0),false,rfl,rfl⟩
   | some r=>exact⟨r.key,true,rfl,rfl⟩
  rw[DZ,mW]at hlp;apply WC.q_ rfl k2;apply G _;refine WC.tn (fun OE:Nat=>[(0,jV vb),(3,Iq k),(5,jV g5),(16,jV OE),(17,.bool okb)]) (fun OE w'=>jP w1 w'/\w.heap.size<=OE/\U IN w' OE [Iq kk.1,Iq kk.2]) rfl ?_ ?_
  ·refine WC.drawn 11 (jP w1) fun wa kv=>?_
   have hS:jP w1 wa:=kv.below _;clear kv;apply jC [0,1,2] hS _;apply jz 3 [6,7,8,9,11,12] (lX xu c3) hS;apply jC [4] hS _;apply kG 5 [6,7,8,9,11,12] (fun wx hx=>(E5.jA (Z.jw hx) l5).BA) rfl hS;apply nJ 6 [7,8,9,11,12] (fun wx hx=>hlp hx) hS;apply jC [7,8,9] hS _;apply jS 10;have hSq:=hS;refine jJ (z:=.agg [Iq 0,Iq 0].toArray) (fun _=>jG) fun OE wc f9=>?_;have bf0:=hS.kj f9.below;apply lI bf0;have hS:=bf0;apply jS 11;apply jE f9.blk CT;have vf:=U.setRow f9.blk [Iq kk.1,Iq kk.2];have bf:jP w1 (wc.setRow OE [Iq kk.1,Iq kk.2].toArray):=(Cr.mo (K:=fun x=>x<w1.heap.size) (g:=OE) (Z.jw bf0) (fun hh=>by have:=f9.eq;have:=hSq.size;omega) _).below;apply(jZ)
   (apply ke 12 rfl _)
   apply(jD);apply G _;exact WQ.meet OE kz ⟨bf,by have:=f9.eq;have:=hSq.size;omega,vf⟩
  rintro OE w3 ⟨b3,q16,OL⟩;have h3:=h1.below b3;replace E5:=E5.jA (Z.jw b3) l5;replace c1:=(b3.cell (p:=Aq vb 1) xu).trans c1;replace c4:=(b3.cell (p:=Aq vb 4) xu).trans c4;have z3:=b3.size;have YL:=kb b3;replace Ca:∀ {wx:World},jP w3 wx->_:=fun {wx} hx=>Ca (wx:=wx) (b3.trans (hx.mono z3));replace l5:=U.lt E5.blk;have l16:=U.lt OL;have PD:vb<w3.heap.size:=I;have zw3:w.heap.size<=w3.heap.size:=I;cases okb with
  | false=>
   have ao0:=JB (s:=s) (a:=(e.ab,e.ae)) (.inl (by
    unfold sK at mW;cases hq:s.rows.find? fun r=>decide (r.nD=(e.ab,e.ae)) && !r.del with
    | none=>rfl
    | some r=>rw[hq]at mW;cases mW))
   rw[ao0];apply G _;refine WC.drawn 10 (jP w3) fun wa kv=>?_;have hS:jP w3 wa:=kv.below _;clear kv;apply jC [0,1,2,3,4,5] hS _;apply jC [6] hS _;apply jC [7] hS _;apply jC [8] hS _;apply jC [9] hS _;apply jS 10;apply(jN);apply(jZ);apply(jD);apply G _;exact J (bad Bm (YL.trans ((Z.jw hS).mono fun x hx=>by show x<w3.heap.size;omega)))
  | true=>
  obtain⟨r,am5,rfl⟩:∃r,s.rows.find? (fun r=>decide (r.nD=(e.ab,e.ae)) && !r.del)=some r/\r.key=kk:=by
   unfold sK at DZ mW;cases hq:s.rows.find? fun r=>decide (r.nD=(e.ab,e.ae)) && !r.del with
   | none=>rw[hq]at mW;cases mW
   | some r=>rw[hq]at DZ;exact⟨r,rfl,tV _ _ DZ⟩
  cases Fg:s.red (e.ab,e.ae) with
  | true=>
   rw[Fg]at Ca;rw[JB (s:=s) (a:=(e.ab,e.ae)) (.inr Fg)];apply G _;refine WC.drawn 10 (jP w3) fun wa kv=>?_;have hS:jP w3 wa:=kv.below _;clear kv;apply jC [0,1,2,3,4,5] hS _;apply jz 6 [9,10] (lX PD c4) hS;apply jC [7] hS _;apply kG 8 [9,10] (fun wx hx=>(E5.jA (Z.jw hx) l5).BA) rfl hS;apply nJ 9 [10] (fun wx hx=>Ca hx) hS;apply jS 10;apply(jN);apply(jZ);apply(jD);apply G _;exact J (bad Bm (YL.trans ((Z.jw hS).mono fun x hx=>by show x<w3.heap.size;omega)))
  | false=>
  rw[Fg]at Ca;obtain⟨i,j,nm⟩:=Tp hI am5 Fg;rw[nm.idx];simp only
  rw[nm.here];apply G _;refine WC.drawn 10 (jP w3) fun wa kv=>?_;have hS:jP w3 wa:=kv.below _;clear kv;apply jC [0,1,2,3,4,5] hS _;apply jz 6 [9,10] (lX PD c4) hS;apply jC [7] hS _;apply kG 8 [9,10] (fun wx hx=>(E5.jA (Z.jw hx) l5).BA) rfl hS;apply nJ 9 [10] (fun wx hx=>Ca hx) hS;apply jS 10;apply(jN);apply(jZ);apply(jD);have hGa:=h3.pg.below hS;have za:=hS.size;replace E5:=E5.jA (Z.jw hS) l5;replace OL:=U.below OL hS l16;replace c1:=(hS.cell (p:=Aq vb 1) PD).trans c1;replace c4:=(hS.cell (p:=Aq vb 4) PD).trans c4;replace YL:=YL.trans ((Z.jw hS).mono fun x (hx:x<w.heap.size/\¬M x)=>(by omega:x<w3.heap.size));replace l5:=U.lt E5.blk;replace l16:=U.lt OL;clear hS h3 Ca hlp b3 z3 bad kb h1;apply G _;refine WC.drawn 6 (jP wa) fun wb kv=>?_;have hS:jP wa wb:=kv.below _;clear kv;apply jC [0,1,2] hS _;apply jz 3 [6] (fun wx hx=>(hx.cell (p:=Aq vb 4) (I:vb<wa.heap.size)).trans c4) hS;apply jC [4] hS _;apply kG 5 [6] (fun wx hx=>(E5.jA (Z.jw hx) l5).BA) rfl hS;apply jS 6;obtain⟨w4,RN,pA,Rp⟩:=(hGa.below hS).aqX I (x:=(e.ab,e.ae)) ra re (.bool true);apply WL.ml rfl rfl rfl rfl rfl rfl RN;apply(jZ);apply(jD);have z4:=pA.size;have zb:=hS.size;have hMn:∀x,M x->x<w.heap.size:=fun x hx=>j6 x (.inl hx);have lmn:=hMn mn h.Cj;have lmr:=hMn mr h.AB;have Ta:=h.pg.uW;have yG:Z (fun x=>x<wa.heap.size/\x≠mn) wa w4:=((Z.jw hS).mono fun x hx=>hx.1).trans (pA.mono fun x hx=>hx.2);replace E5:=E5.jA yG ⟨l5,I⟩;replace OL:=OL.jA yG ⟨l16,I⟩;replace c1:=(yG.cell (p:=Aq vb 1) ⟨by show vb<wa.heap.size;omega,Ta.2.2.2.symm⟩).trans c1;replace YL:Z (fun x=>x<w.heap.size/\¬M x) w w4:=YL.trans (yG.mono fun x hx=>⟨I,fun q=>hx.2 (q ▸ h.Cj)⟩);replace l5:=U.lt E5.blk;replace l16:=U.lt OL;have zw4:w.heap.size<=w4.heap.size:=I;clear hS c4 hGa;have mL:=Rp.kN r.key;have al4:=nm.jlt;have HZ:=Sx s.rows r.key;obtain⟨rt,rd⟩:lV r.key.1/\lV r.key.2:=by
   obtain⟨-,-,-,-,-,-,-,-,-,AN,-⟩:=nw mL nm.jlt;rw[nm.afg]at AN;exact⟨AN.m5,AN.doc⟩
  have xY:∀ {wx:World},jP w4 wx->(Instr.lookup 127 (.map (some mr)) (nR r.key) false).run prog wx=.ok ((F r.key).getD (kP)) wx:=fun hx=>(Rp.below hx).rows.look Lv fw jG (XN rt rd);generalize (F r.key).getD (kP)=sv at mL xY;obtain⟨Am,cpv,rfl,-⟩:=id mL;apply G _;refine WC.drawn 7 (jP w4) fun wb kv=>?_;have hS:jP w4 wb:=kv.below _;clear kv;apply jC [0,1,2] hS _;apply jz 3 [5,6,7] (fun wx hx=>(hx.cell (p:=Aq vb 1) (I:vb<w4.heap.size)).trans c1) hS;apply kG 4 [5,6,7] (fun wx hx=>U.rangeAt (U.below OL hx l16)) rfl hS;apply nJ 5 [6,7] (fun wx hx=>xY hx) hS;apply jS 6;have P9:=mL.jA (P':=ni D f wb) (Z.jw hS) (fun x _ hl=>hl) nN fun _ _ hp=>hp.jA (Z.jw hS) (fun x hx _=>Rp.lt x (.inr hx)) nN;apply jx func85 (V_ P9 (fun _ _ hp=>hp.one) I I);rintro _ w5 ⟨b5,v5,rfl,Ay⟩;refine⟨_,rfl,?_⟩;have Ss:=hS.kj b5;apply lI Ss;apply jS 7;apply(jN);apply(jZ);apply(jD);have z5:=Ss.size;have jW:kC vM 14 kE (ni D f w5) (fun x=>wb.heap.size<=x) w5 v5 (Vw.of s.rows r.key):=K.kC.jA Ay (Z.refl (fun _=>True) w5) (fun _ _=>trivial) nN fun _ _ hp=>hp.jA (Z.jw b5) (fun x hx hl=>hl) nN;have E55:=E5.jA (Z.jw Ss) l5;have l55:=U.lt E55.blk;have hG5:=Rp.below Ss;have amp:=U.below OL Ss l16;have c15:=(Ss.cell (p:=Aq vb 1) (I:vb<w4.heap.size)).trans c1;have zbb:=hS.size;apply G _;apply WL.fn rfl rfl rfl rfl (cs:=[jV g5]) rfl;apply jx func86 (UM (rq jW) I E55.ab E55.ae l55);rintro _ w6 ⟨b6,rfl⟩;refine⟨_,rfl,?_⟩;rw[nm.jdx];have zj:NO (some j)=(j:Int):=rfl;rw[zj];have z6:=b6.size;have an3:kC vM 14 kE (ni D f w6) (fun x=>wb.heap.size<=x) w6 v5 (Vw.of s.rows r.key):=K.kC.jA jW (Z.jw b6) (fun x hx=>K.kC.lt jW hx) nN fun _ _ hp=>hp.jA (Z.jw b6) (fun x hx _=>hG5.lt x (.inr hx)) nN;have Y7:=hG5.below b6;have avv:=U.below amp b6 (U.lt amp);have c16:=(b6.cell (p:=Aq vb 1) (I:vb<w5.heap.size)).trans c15;obtain⟨g,ac5,rfl,hgO,lgg,A,B,C,Gl,Ol,hBl,hPB,aek⟩:=SL an3 nm.jlt;rw[nm.afg]at hPB;obtain⟨dB,rfl,hvB,okB,smB⟩:=hPB;obtain⟨zh,FH,n1,n2,sZ,rM,rfl⟩:=BH hvB;have H_:(lA r [Iq r.data.k,Iq r.data.n,Iq r.data.s,.string r.data.t,.slice zh n1 sZ,.slice FH n2 rM]).length=14:=rfl;have wP:=Gl.set (j*14+9) (.bool true);rw[UN _ Ol (by rw[H_];omega)]at wP;have ahq:w6.cell? (Aq g (j*14+9))=some ((A++((lA r [Iq r.data.k,Iq r.data.n,Iq r.data.s,.string r.data.t,.slice zh n1 sZ,.slice FH n2 rM])++C)).getD (j*14+9) undef):=Gl.cell _ (by simp only[af];rw[H_];omega);apply G _;apply jR jK jG;apply jQ (hq:=I) j (j*14) al4;apply G _;apply jT ahq (U.free Gl _);apply jQ (hq:=I) j (j*14) al4;apply G _;refine WL.uM rfl rfl rfl rfl rfl rfl wP rfl (by simp only[af,aI];rw[H_];omega) (oe (fun _=>True) 0 w6).one ?_;have rI:=U.setRow wP ((A++((lA r [Iq r.data.k,Iq r.data.n,Iq r.data.s,.string r.data.t,.slice zh n1 sZ,.slice FH n2 rM]).set 9 (.bool true)++C)).take (j*14+3)++jK++(A++((lA r [Iq r.data.k,Iq r.data.n,Iq r.data.s,.string r.data.t,.slice zh n1 sZ,.slice FH n2 rM]).set 9 (.bool true)++C)).drop (j*14+3+6));have Mb:=TU (A:=A) (B:=(lA r [Iq r.data.k,Iq r.data.n,Iq r.data.s,.string r.data.t,.slice zh n1 sZ,.slice FH n2 rM]).set 9 (.bool true)) (C:=C) (m:=jK) (x:=j*14) (off:=3) (k:=6) Ol rfl (by rw[aI,H_];omega);rw[Qq]at Mb;obtain⟨row,kF⟩:∃row,row=(A++((lA r [.int .i64 r.data.k,.int .i64 r.data.n,.int .i64 r.data.s,.string r.data.t,.slice zh n1 sZ,.slice FH n2 rM]).set 9 (.bool true)++C)).take (j*14+3)++jK++(A++((lA r [.int .i64 r.data.k,.int .i64 r.data.n,.int .i64 r.data.s,.string r.data.t,.slice zh n1 sZ,.slice FH n2 rM]).set 9 (.bool true)++C)).drop (j*14+3+6):=⟨_,rfl⟩;rw[<-kF]at rI Mb ⊢;have kg:Z (fun x=>x≠g) w6 ((w6.setCell (Aq g (j*14+9)) (.bool true)).setRow g row.toArray):=Cr.mo ((Z.refl _ _).setCell jM _) jM _;generalize (w6.setCell (Aq g (j*14+9)) (.bool true)).setRow g row.toArray=we at rI kg ⊢;rw[Mb]at rI;have ze:=kg.size;have Pc:w4.heap.size<=g:=by have:wb.heap.size<=g:=hgO;omega
  have Sk:=Rp.lt;have hGe:=Y7.jA kg (fun x hx=>by have:=Sk x hx;show x≠g;omega);have azS:=U.lt OL;have alA:=avv.jA kg I;have c1e:=(kg.cell (p:=Aq vb 1) (I:vb≠g)).trans c16;obtain⟨f',rfl⟩:∃f',f=f'+1:=qx.as2 hvB;have KS:=aek (w':=we) (P':=ni D (f'+1) we) (lA (shut r) jK) (shut r) rI rfl (ni.one (D:=D) (f:=f'+1) (w:=we) ⟨jK,rfl,oe D f' we,⟨okB.m5,okB.doc,okB.kA,okB.blk,okB.pH,okB.sC⟩,GV f'⟩) ⟨jK,rfl,oe D f' we,⟨okB.m5,okB.doc,okB.kA,okB.blk,okB.pH,okB.sC⟩,GV f'⟩
   (fun x cs hp=>hp.jA kg (fun y hy _=>by have:=Sk y (.inr hy);show y≠g;omega) nN)
  have aj6:m6 14 kE (ni (fun x=>D x\/(w4.heap.size<=x/\x<we.heap.size)) (f'+1) we) (fun x=>D x\/(w4.heap.size<=x/\x<we.heap.size)) we (nj g 0 (Vw.of s.rows r.key).length ac5) ((Vw.of s.rows r.key).set j (shut r)):=by
   obtain⟨a1,a2,a3,a4,a5,a6,a7⟩:=rq KS;refine⟨a1,a2,a3,a4,a5,a6,fun q=>?_⟩;obtain⟨y1,y2,y3,y4,y5,y6⟩:=a7 q;refine⟨y1,y2,y3,y4,.inr ⟨?_,y4⟩,fun jj hjj=>?_⟩
   ·have:wb.heap.size<=y1:=y5
    omega
   ·obtain⟨x1,x2,x3,x4⟩:=y6 jj hjj
    exact⟨x1,x2,x3.jA (Z.refl (fun _=>True) we) (fun _ _ _=>trivial) (fun _ h=>.inl h),x4⟩
  have hGm:=hGe.more (D':=fun x=>D x\/(w4.heap.size<=x/\x<we.heap.size)) (fun x hx=>.inl hx) (fun x hx=>hx.elim (fun q=>by have:=Sk x (.inr q);omega) fun q=>q.2) (fun x hx q=>q.elim (h.sep x hx) fun q=>by have:=hMn x hx;omega);have kwe:Z (fun x=>x<w.heap.size/\¬M x) w we:=YL.trans (((Z.jw (Ss.trans (b6.mono z5))).mono fun x (hx:x<w.heap.size/\¬M x)=>(by omega:x<w4.heap.size)).trans (kg.mono fun x hx=>by omega));apply G _;refine WC.drawn 6 (jP we) fun wf kv=>?_;have KE:jP we wf:=kv.below _;clear kv hS;have hS:=KE;apply jC [0,1,2] hS _;apply jz 3 [6] (fun wx hx=>(hx.cell (p:=Aq vb 1) (I:vb<we.heap.size)).trans c1e) hS;apply kG 4 [6] (fun wx hx=>U.rangeAt (U.below alA hx alA.lt)) rfl hS;apply jC [5] hS _;apply jS 6;obtain⟨w9,Xj,IE,hG9⟩:=(hGm.below hS).adb I (x:=r.key) rt rd (aj6.jA (Z.jw hS) (fun x _ hl=>hl) nN fun _ _ hp=>hp.jA (Z.jw hS) (fun x hx hl=>hl) nN);apply WL.ml rfl rfl rfl rfl rfl rfl Xj;apply(jZ);apply(jD);apply G _;have asG:CG (yE s.red (e.ab,e.ae))=pR (CG s.red) (e.ab,e.ae) (.bool true):=by
   funext x
   unfold CG yE pR
   by_cases q:x=(e.ab,e.ae)
   ·rw[ag q,ag q,ag rfl]
   ·rw[aa q,aa q]
  exact J ⟨rfl,(kwe.trans ((Z.jw hS).mono fun x hx=>by show x<we.heap.size;omega)).trans (IE.mono fun x hx q=>hx.2 (q ▸ h.AB)),fun _=>⟨M,_,⟨cp,Oc,mr,md,mp,mn,kc+2,_,hG9.pv rfl rfl nm.ofs (fun x=>by show vV (s.rows.set i (shut r)) x=vV s.rows x;unfold vV;rw[nm.aqG]) nm.plc (fun x=>congrFun asG x) (by
   refine⟨by show s.n<=_;omega,?_,I,hN⟩
   show(s.rows.set i (shut r)).length<=_
   rw[aI];omega)⟩,fun x hx=>.inl hx,fun x hx=>hx.elim .inl fun q=>.inr I⟩⟩
 case neg=>
 obtain⟨k2,k3⟩:¬e.kind=2/\¬e.kind=3:=⟨fun q=>HM (.inl q),fun q=>HM (.inr q)⟩;have hR:entR s e b.index k b.time=(if Cat.mu s.cat e.kind e.text e.table≠0 then(Cat.mu s.cat e.kind e.text e.table,s) else(0,{ s with cat:=Cat.oV s.cat e.kind e.text e.table })):=by
  unfold entR;rw[aa HM,aa h4]
 rw[hR];apply WC.q_ rfl k2;apply G _;refine WC.drawn 5 (jP w1) fun wa kv=>?_;have hS:jP w1 wa:=kv.below _;clear kv;apply jC [0,1,2] hS _;apply jz 3 [5,6] (lX xu c0) hS;apply kG 4 [5,6] (fun wx hx=>U.rangeAt (U.below E5.blk hx l5)) mL hS;apply jS 5;apply jx iI (Cat.Y6 (h1.below hS).cat hE I);rintro _ w' ⟨O',rfl,Lm,Ea,ho'⟩;refine⟨_,rfl,?_⟩;apply(jZ)
 (apply ke 6 rfl _)
 apply(jD);apply G _;have pY:PG w' vb _ D f s.n (Cat.oV s.cat e.kind e.text e.table) _ _ _ _ cp O' mr md mp mn (kc+1) F:=(h1.pg.below hS).app Lm Ea ho';have hz:=hS.size;have zr:Z (fun x=>x<w.heap.size/\¬M x) w w':=(kb hS).trans (Ea.mono fun x hx=>⟨I,fun q=>hx.2 (h.tU x q)⟩)
 by_cases yK:Cat.mu s.cat e.kind e.text e.table=0
 ·rw[aa (by simpa using yK),yK]
  apply G _;refine J ⟨rfl,zr,fun _=>⟨_,D,⟨cp,O',mr,md,mp,mn,kc+1,F,pY.pv rfl rfl (fun _=>rfl) (fun _=>rfl) (fun _=>rfl) (fun _=>rfl) (by show s.n<=_/\s.rows.length<=_/\_;omega)⟩,fun x hx=>hx.elim .inl fun q=>.inr I,fun x hx=>.inl hx⟩⟩
 ·rw[ag yK]
  apply G _;exact J (bad yK zr)
open K
def aai (w:World)(vb:Nat)(M D:Nat->Prop)(f:Nat)(c:Int)(s:St)(N:Nat)(e:Ending)(w':World):Prop :=
 ∃M' D',e=.returned (Iq c)/\rO w' vb M' D' f s N/\Z (fun b=>b<w.heap.size/\¬M b) w w'/\(∀b,M' b->M b\/w.heap.size<=b)/\∀b,D' b->D b\/w.heap.size<=b
theorem PV.Tv {wl wf:World}{xb:Nat}{Mi Di:Nat->Prop}{si:St}{k:Nat}(h:PV wl xb Mi Di f si cp Oc mr md mp mn k N F)(hv:U pvT wf vb [jV cp,.map (some mr),.map (some md),.map (some mp),.map (some mn),Iq (si.n+1:Nat)])(kf:Z (fun x=>x≠xb/\x≠vb) wl wf)(hM:∀x,Mi x->x≠vb)(hD:∀x,Di x->x≠vb)(j6:vb<wl.heap.size)(hN:si.n+1<=N'/\N<=N'/\N'<=1000000): PV wf vb (fun x=>x=vb\/Mi x) Di f { si with n:=si.n+1 } cp Oc mr md mp mn k N' F:=by
 obtain⟨n1,n2,n3,n4⟩:=h.pg.uW;have hl:=h.lt;have hDk:∀x,Di x->x≠xb/\x≠vb:=fun x hx=>⟨fun e=>h.sep xb h.wG (e ▸ hx),hD x hx⟩;have mq:=h.ok;exact⟨hv,h.cat.jA kf fun x hx=>⟨fun e=>h.out.1 (e ▸ hx),hM x (h.tU x hx)⟩,h.rows.jA kf ⟨n1,hM _ h.AB⟩,fun x=>(h.kN x).jA kf (fun b hb _=>hDk b hb) nN fun _ _ hp=>hp.jA kf (fun b hb _=>hDk b hb) nN,
  h.xQ.jA kf ⟨n2,hM _ h.AV⟩,h.xR.jA kf ⟨n3,hM _ h.Bz⟩,h.xP.jA kf ⟨n4,hM _ h.Cj⟩,.inl rfl,.inr h.AB,.inr h.AV,.inr h.Bz,.inr h.Cj,fun x hx=>.inr (h.tU x hx),⟨fun q=>hM vb (h.tU vb q) rfl,h.out.2⟩,h.rF,
  fun x hx=>ao (by
   rcases hx with(hx|hx)|hx
   ·omega
   ·exact hl x (.inl hx)
   ·exact hl x (.inr hx)) kf.size,fun x hx hd=>by
   rcases hx with hx|hx
   ·exact hD x hd hx
   ·exact h.sep x hx hd,⟨hN.1,by show si.rows.length<=_;omega,I,hN.2.2⟩⟩
theorem zE {s:St}(h0:rO w vb M D f s N)(hI:Fv s)(RH:∀x,E x->x<w.heap.size){b:Bk}(hb:pr E f w b bc)(nE:MU f b)(hN:N+4*b.jH.length+4<=1000000):
  Calls prog 22 #[jV vb,.agg bc.toArray] w (aai w vb M D f (mX s b).1 (mX s b).2 (N+4*b.jH.length+1)):=by
 obtain⟨cp,Oc,mr,md,mp,mn,kc,F,h⟩:=id h0;have j6:=h.lt;have uR:=hb.len;have bq:=hb;obtain⟨se,rfl,oG,oR,xK,Yn,rti,-⟩:=bq;obtain⟨sp,cap,rfl,vN,rE,De,kF⟩:=oG;apply kq (args:=[jV vb,.agg (qT b (.slice sp b.jH.length cap)).toArray]) func22 ntmps22;apply mA _;refine jO fun g3 w1 f1=>?_;have B1:nM zq g3 w1 b (.slice sp b.jH.length cap):=⟨f1.blk,oR⟩;have b1:=f1.below;have e3:=f1.eq;clear f1;have RG:=U.lt B1.blk;have h1:=h.below b1;have c5:=h1.su.cell 5 jM;simp only[aA,al]at c5;have xu:=h1.lt vb (.inl h1.wG);have ei:=B1.index;have ee:=B1.jH;have z1:=b1.size;have auv:=j6 vb (.inl h.wG);have mq:=h.ok;have bad:∀ {wx:World}{c:Int},jP w1 wx->(mX s b)=(c,s)->aai w vb M D f (mX s b).1 (mX s b).2 (N+4*b.jH.length+1) (.returned (Iq c)) wx:=fun hx hc=>by
  rw[hc];exact⟨M,D,rfl,rO.mono ⟨_,_,_,_,_,_,_,_,h1.below hx⟩ I I,(Z.jw (b1.trans (hx.mono z1))).mono fun x hx=>hx.1,fun _ h=>.inl h,fun _ h=>.inl h⟩
 apply G _;apply(kV);apply G _;refine WC.drawn 6 (jP w1) fun wa hd=>?_;have hS:jP w1 wa:=hd.below _;apply jC [0] hS _;apply jz 1 [6] (lX RG ei) hS;apply jC [2,3,4] hS _;apply jz 5 [6] (lX xu c5) hS;apply jS 6;apply(jN);apply(jZ);apply(jD)
 by_cases Iv:b.index=s.n
 case neg=>
  apply G _;apply WC.sE rfl Iv;apply G _;exact J (bad hS (by unfold mX;rw[ag Iv]))
 case pos=>
 apply G _;apply WC.q_ rfl (fun q=>q Iv);apply G _;apply jy (U.rangeAt (U.below B1.blk hS RG)) uR;have F4:=pr.below hb (b1.trans (hS.mono z1));apply kH func53 (QJ (pr.isB F4) nE.len);rintro wb bb
 have rQ:=hS.kj bb
 by_cases Cm:qL b=0
 case neg=>
  have hr:mX s b=(qL b,s):=by unfold mX;rw[aa (fun q=>q Iv),ag Cm]
  generalize qL b=cb at Cm hr;apply G _;exact J (bad rQ hr)
 case pos=>
 rw[Cm];obtain⟨lL,Kn,uE,sL⟩:=Ph Cm;obtain⟨bb0,bo,rfl,auU,hbE,kF⟩:=kF I;apply G _;apply jx func21 (Gg ⟨_,_,_,_,_,_,_,_,h1.below rQ⟩);rintro _ wc ⟨xb,Mx,rfl,hx,bc2,mx⟩;refine⟨_,rfl,?_⟩;have AG:=rQ.kj bc2;have zc:=AG.size;have zb:=rQ.size;have Ux:mX s b=if(runR b b.jH 0 s).1=0 then(0,{ (runR b b.jH 0 s).2 with n:=s.n+1 }) else((runR b b.jH 0 s).1,s):=by
  unfold mX;rw[aa (fun q=>q Iv),aa (fun q=>q Cm)]
 have hu0:Hr s b.index 0:=fun r hr=>.inl (by have:=hI.2 r hr;omega);have eec:=(AG.cell (p:=Aq g3 35) RG).trans ee;apply jF _;refine WC.loop (fun i:Nat=>[(0,jV vb),(3,jV g3),(6,jV xb),(27,nj bb0 bo b.jH.length cap),(28,Iq (b.jH.length:Nat)),(29,Iq i)])
  (fun i w'=>i<=b.jH.length/\jP w1 w'/\∃si Mi Di,rO w' xb Mi Di f si (N+4*i)/\Inv si/\Hr si b.index i/\runR b b.jH 0 s=runR b (b.jH.drop i) i si/\(∀x,Mi x->w1.heap.size<=x)/\∀x,Di x->D x\/w1.heap.size<=x) (fun i=>b.jH.length - i) 0 kz
  ⟨ay _,AG,s,Mx,D,hx,hI.1,hu0,rfl,fun x h=>by have:=mx x h;omega,fun x h=>.inl h⟩ ?_
 clear hx mx bc2 AG rQ bb F4 hS zc zb eec;rintro i wl ⟨hi,bl,si,Mi,Di,MB,hIi,hUi,my,mi,di⟩;have zl:=bl.size
 by_cases uU:i<b.jH.length
 case pos=>
  have bwl:=b1.trans (bl.mono z1);have hbi:=pr.below hb bwl;rw[L8 uU]at my;obtain⟨ec,mL,yg,her⟩:=kF i uU;have P9:=mL;have atJ:wl.rangeAt bb0 (bo+i*46) ec:=fun q u hu=>(bwl.cell (p:=Aq bb0 (bo+i*46+q)) auU).trans (her q u hu);have alr:=p_.mono (fun v cs hv=>hv.jA (Z.jw bwl) (fun x _ h=>h) (fun x h=>h)) yg;apply G _;apply jQ i (bo+i*46) uU;apply jy atJ P9;refine jJ (z:=.agg (km kQ jK).toArray) (fun _=>jG) fun g8 w2 f2=>?_;apply G _;apply jE (hm:=P9) f2.blk alr.one;obtain⟨v8,b8,-,-⟩:=nv ec (Below.refl wl.heap.size wl) f2;generalize w2.setRow g8 _=w3 at v8 b8 ⊢;clear f2;have WU:=bl.trans (b8.mono zl);have z8:=WU.size;have hx8:=MB.below b8;have ar7:=pr.below hbi b8;have ar8:=p_.mono (fun v cs hv=>hv.jA (Z.jw b8) (fun x _ h=>h) (fun x h=>h)) alr;apply G _;apply jy (U.rangeAt v8) P9;apply jy (U.rangeAt (U.below B1.blk WU RG)) uR;apply G _;apply kH func54 (Uw hx8 I hIi ar7 i I hUi (fun x hx hm=>by have:=RH x hx;have:=mi x hm;omega) ar8 (lL _ (by rw[lR uU];exact aH uU)) (nE.sm i uU));rintro w4 ⟨k4,ZY⟩
  have V0:=((Z.jw WU).trans (k4.mono fun x (hx:x<w1.heap.size)=>⟨I,fun hm=>by have:=mi x hm;omega⟩)).below;have hinv:=P1 (sC:=b.time) hIi hUi (lL (b.jH.getD i kQ) (by rw[lR uU];exact aH uU));generalize entR si (b.jH.getD i kQ) b.index i b.time=er at my ZY hinv;obtain⟨ec2,es⟩:=er;simp only at my ZY hinv
  by_cases F9:ec2=0
  case pos=>
   rw[ag F9]at my;obtain⟨M2,D2,h2,m2,d2⟩:=ZY F9;obtain⟨hI2,hU2⟩:=hinv F9;apply G _;exact WQ.again (i+1) kz ⟨uU,V0,es,M2,D2,h2,hI2,hU2,my,fun x hx=>(m2 x hx).elim (mi x) (fun h=>by omega),fun x hx=>(d2 x hx).elim (di x) (fun h=>.inr I)⟩ I
  case neg=>
   rw[aa F9]at my;apply G _;exact J (bad V0 (by rw[Ux,my,aa F9]))
 case neg=>
  obtain rfl:i=b.jH.length:=I;rw[ey]at my;have yi:runR b b.jH 0 s=(0,si):=my;rw[Ux,yi,ag rfl];obtain⟨NU,Ox,mrx,mdx,mpx,mnx,kx,Fx,hX⟩:=MB;have cx5:=hX.su.cell 5 jM;simp only[aA,al]at cx5;have hnN:=hX.ok;have Ou:=Z0 yi;apply jF _;apply jT cx5 (U.free hX.su 5);have vx:=hX.su.set 5 (Iq ((si.n:Int)+1));have X_:Z (fun x=>x≠xb) wl (wl.setCell (Aq xb 5) (Iq ((si.n:Int)+1))):=(Z.refl _ _).setCell jM _;generalize wl.setCell (Aq xb 5) (Iq ((si.n:Int)+1))=wm at vx X_ ⊢;change U pvT wm xb [jV NU,.map (some mrx),.map (some mdx),.map (some mpx),.map (some mnx),Iq ((si.n:Int)+1)]at vx;apply G _;apply jy (U.rangeAt vx) rfl;have GU:=mi xb hX.wG;have vvb:=(U.below h1.su bl xu).jA X_ (I:vb≠xb);have m9:lY [Value.pointer (some ⟨NU,0,none⟩),.map (some mrx),.map (some mdx),.map (some mpx),.map (some mnx),.int .i64 ((si.n:Int)+1)]:=fun u hu=>by
   simp at hu
   rcases hu with rfl|rfl|rfl|rfl|rfl|rfl<;>rfl
  apply G _;apply jE vvb m9;have vf:=vvb.setRow [Value.pointer (some ⟨NU,0,none⟩),.map (some mrx),.map (some mdx),.map (some mpx),.map (some mnx),.int .i64 ((si.n:Int)+1)];have kf:Z (fun x=>x≠xb/\x≠vb) wl (wm.setRow vb [Value.pointer (some ⟨NU,0,none⟩),.map (some mrx),.map (some mdx),.map (some mpx),.map (some mnx),.int .i64 ((si.n:Int)+1)].toArray):=Cr.mo (X_.mono fun x hx=>hx.1) (fun hh=>hh.2 rfl) _;generalize wm.setRow vb _=wf at vf kf ⊢;apply G _;have hV:PV wf vb (fun x=>x=vb\/Mi x) Di f { si with n:=si.n+1 } NU Ox mrx mdx mpx mnx kx (N+4*b.jH.length+1) Fx :=
   hX.Tv (by rw[show(((si.n+1:Nat)):Int)=(si.n:Int)+1 by omega];exact vf) kf (fun x hx e=>by have:=mi x hx;omega) (fun x hx e=>(di x hx).elim (fun hd=>h.sep vb h.wG (e ▸ hd)) (fun hd=>by omega)) I ⟨I,I,I⟩
  rw[<-Ou];exact J ⟨_,Di,rfl,⟨_,_,_,_,_,_,_,_,hV⟩,((Z.jw (b1.trans (bl.mono z1))).mono fun x hx=>hx.1).trans (kf.mono fun x hx=>⟨fun e=>by omega,fun e=>hx.2 (e ▸ h.wG)⟩),fun x hx=>hx.elim (fun e=>.inl (e ▸ h.wG)) (fun hm=>.inr (by have:=mi x hm;omega)),fun x hx=>(di x hx).imp id fun hh=>by omega⟩
end Vw
namespace Ix
open K
open Cat (uF nV m_ Tb ku kM wZ)
open Vw (Rw kE ni rD nw lA ln nu nv zU rO nT Inv Fv j9 uJ yC IT zE Gg mX yl nR tV MU aai lU)
abbrev BI:Nat:=76
abbrev avA:Nat:=72
def ap2 (w:World)(sb mb n:Nat)(S:Nat->Prop)(s':Vw.St)(e:Ending)(w':World):Prop :=
 e=.returned (.tuple #[])/\∃n' S' X',qY w' sb mb n' S' X' (gS s')/\(∀x,(X' x).isSome=Cat.has s'.cat x.1 x.2)/\n'<=n+1024/\(∀b,S' b->S b\/w.heap.size<=b)/\Z (fun b=>b<w.heap.size/\¬S b) w w'
theorem aac {s:Vw.St}(h:rO w vb M D f s N){k:Int×Int}(e:atR s a=some k): lV k.1/\lV k.2:=by
 unfold atR at e;cases hq:s.rows.find? fun r=>decide (r.nD=a) with
 | none=>rw[hq]at e;cases e
 | some r=>
  rw[hq]at e;cases e
  obtain⟨h1,-⟩:=Rl h (dQ hq);exact⟨h1.m5,h1.doc⟩
theorem Lg {tm:Nat}{l:List (Int×Int)}(h:MF prog zC nR w tm i (zO l))(hi:i<maxLen)(h1:lV a.1)(h2:lV a.2):
  ∃w',(Instr.mapUpdate avA (.map (some tm)) (nR a) (.bool true)).run prog w=.ok () w'/\MF prog zC nR w' tm (i+1) (zO (l++[a]))/\Z (fun b=>b≠tm) w w':=by
 obtain⟨kl,hk⟩:=SG h1 h2;obtain⟨w',q1,q2,q3⟩:=h.put tV Of underlying72 hi (.bool true) hk;exact⟨w',q1,q2.congr fun x=>acV l a x,q3⟩
theorem TK {k:Nat}{s:Vw.St}(h0:rO w vb M D (k+2) s N)(hI:Fv s)(hd:sH s){n:Nat}{X:Bl}(h1:qY w sb mb n S X (gS s))(hX:∀x,(X x).isSome=Cat.has s.cat x.1 x.2)(hn:n<=1000000000)(hSM:∀b,S b->¬(M b\/D b))(hE:∀x,E x->x<w.heap.size){b:Bk}{bc:List Value}(hb:pr E (k+2) w b bc)(nE:MU (k+2) b)(hN:N+4*b.jH.length+4<=100000)(mq:(mX s b).1=0)(BV:∀e∈b.jH,Rg e.data):
  Calls prog 8 #[.pointer (some ⟨sb,0,none⟩),.pointer (some ⟨vb,0,none⟩),.agg bc.toArray] w (ap2 w sb mb n S (mX s b).2):=by
 have uR:=hb.len;have RQ:=hb.one;have bq:=hb;obtain⟨se,rfl,oG,oR,xK,Yn,rti,-⟩:=bq;have VW:=yl hI b;have KG:=IY hd mq BV;have hER:∀e∈b.jH,lV e.table/\lV e.doc:=fun e he=>by
  obtain⟨sp,cap,-,-,-,-,hr⟩:=oG;obtain⟨i,hi,rfl⟩:=bH he;obtain⟨bE,oE,-,-,-,hr⟩:=hr (by omega);obtain⟨ec,-,⟨dc,-,-,-,-,-,-,-,re⟩,-⟩:=hr i hi;rw[Vw.lR hi]at re;exact⟨re.2.1,re.2.2.1⟩
 have p5:∀t n,(t,n) ∉ Dj (mX s b).2 b.jH->Vw.AS (mX s b).2 t=Vw.AS s t->lS (mX s b).2 t n=lS s t n:=fun t n h1 h2=>Sv mq VW.1 h1 h2;refine kq (args:=[.pointer (some ⟨sb,0,none⟩),.pointer (some ⟨vb,0,none⟩),.agg (qT b se).toArray]) func8 ntmps8 (h:=?_);apply mA _;refine jO fun g5 w1 f1=>?_;have v5:U 34 w1 g5 (qT b se):=f1.blk;have b1:=f1.below;have z1:=f1.size;have e5:=f1.eq;clear f1;apply G _;apply(kV);apply G _;apply(kV);apply G _;apply jx func21 (Gg (h0.below b1));rintro _ w2 ⟨nb,M2,rfl,h2,b2,Rb⟩;refine⟨_,rfl,?_⟩;have xo:=b1.trans (b2.mono b1.size);have v5b:=U.below v5 b2 (U.lt v5);have zb2:=b2.size;apply G _;apply jy (U.rangeAt v5b) uR;apply jx func22 (zE h2 hI (fun x hx=>ao (hE x hx) xo.size) (Vw.pr.below hb xo) nE (by omega));rintro _ w3 ⟨M3,D3,rfl,h3,k3,Bt,hD3⟩;refine⟨_,rfl,?_⟩;rw[mq];generalize (mX s b).2=s' at *;have zb3:=k3.size;have Io:=((Z.jw xo).trans (k3.mono fun x (hx:x<w.heap.size)=>⟨by omega,fun hm=>by have:=Rb x hm;omega⟩)).below;have v5c:=U.jA v5b k3 ⟨U.lt v5b,fun hm=>by have:=Rb _ hm;omega⟩;replace v5c:nM 34 g5 w3 b se:=⟨v5c,oR⟩;have l5:=U.lt v5c.blk;have c5:=v5c.jH;obtain⟨spe,cpe,rfl,Vj,P9,-⟩:=id oG;have hbe:=nE.jH;have hN3:N+4*b.jH.length+1<=100000:=by omega
 clear h2 k3 b2 v5 v5b xo;apply G _;apply WL.mkMap rfl rfl rfl rfl;have t4:MF prog zC nR (w3.alloc (.map #[] 0)) w3.heap.size 0 (fun _=>none):=MF.made _ _ _ _;have b4:Below w3.heap.size w3 (w3.alloc (.map #[] 0)):=(Below.refl _ w3).alloc (aj _) _;have z4:(w3.alloc (.map #[] 0)).heap.size=w3.heap.size+1:=by simp
 obtain⟨tm,htm⟩:∃tm,tm=w3.heap.size:=⟨_,rfl⟩;rw[<-htm]at t4;rw[show w3.heap.size=tm from htm.symm];generalize w3.alloc (.map #[] 0)=w4 at t4 b4 z4 ⊢;have EH:=Io.trans (b4.mono Io.size);have h4:=h3.below b4;have c5':=(b4.cell (p:=⟨g5,35,none⟩) l5).trans c5;have azX:=Io.size;apply jF _;refine WC.loop (fun i:Nat=>[(0,.pointer (some ⟨sb,0,none⟩)),(1,.pointer (some ⟨vb,0,none⟩)),(6,.pointer (some ⟨nb,0,none⟩)),(7,.map (some tm)),(38,.slice spe b.jH.length cpe),(39,.int .i64 (b.jH.length:Nat)),(40,.int .i64 i)])
  (fun i w'=>i<=b.jH.length/\Z (fun x=>x<w4.heap.size/\x≠tm) w4 w'/\MF prog zC nR w' tm i (zO (Dj s' (b.jH.take i)))) (fun i=>b.jH.length - i) 0 ⟨rfl,rfl,rfl,rfl,rfl,rfl,rfl,trivial⟩
  ⟨ay _,Z.refl _ _,t4.congr fun x=>rfl⟩ ?_
 clear t4 c5' c5 v5c;rintro i w5 ⟨uU,k5,t5⟩;have z5:=k5.size;have hpv:∀x,M3 x\/D3 x->x<w4.heap.size/\x≠tm:=fun x hx=>by have:=h3.lt x hx;omega
 by_cases xx:i<b.jH.length
 case pos=>
  have MN:=EH.trans (k5.mono fun x (hx:x<w.heap.size)=>⟨by omega,by omega⟩:Z (fun x=>x<w.heap.size) w4 w5).below;obtain⟨bE,oE,ec,rfl,lE,yg,ly⟩:∃bE oE ec,spe=some ⟨bE,oE,none⟩/\bE<w.heap.size/\p_ (lz E (k+2) w) (b.jH.getD i kQ) ec/\w.rangeAt bE (oE+i*46) ec:=by
   obtain⟨sp,cap,e,-,-,-,hr⟩:=oG;obtain⟨bE,oE,rfl,lE,-,hr⟩:=hr (by omega);obtain⟨ec,-,yg,ly⟩:=hr i xx;obtain⟨rfl,rfl⟩:spe=some ⟨bE,oE,none⟩/\cpe=cap:=by simpa using e
   exact⟨bE,oE,ec,rfl,lE,yg,ly⟩
  have xE:=acu (s:=s') xx;obtain⟨dc,rfl,-,lM,zn,vO,-,-,re⟩:=yg;replace ly:w5.rangeAt bE (oE+i*46) _:=fun q u hu=>(MN.cell (p:=⟨bE,oE+i*46+q,none⟩) lE).trans (ly q u hu);generalize b.jH.getD i kQ=e at *;have F9:(km e dc).length=46:=by simp[km,lM,vO]
  have m9:lY (km e dc):=by
   intro u hu;unfold km at hu;simp only[ax,au,a_,eJ]at hu;rcases hu with rfl|rfl|rfl|rfl|rfl|hu|hu|rfl|rfl|rfl
   all_goals first|rfl|exact zn u hu|(obtain⟨x,-,rfl⟩:=bD.1 hu;rfl)
  apply G _;apply jQ i (oE+i*46) xx;apply jy ly F9;refine jJ (z:=.agg (km kQ jK).toArray) (fun _=>jG) fun g9 w6 f6=>?_;apply jE (hm:=F9) f6.blk m9;obtain⟨v9,b9,-,-⟩:=nv (km e dc) (Below.refl w5.heap.size w5) f6;generalize w6.setRow g9 _=w7 at v9 b9 ⊢;clear f6;replace v9:lT BI g9 w7 e dc:=⟨v9,lM,vO⟩;have k7:=k5.trans ((Z.jw b9).mono fun x hx=>by omega);have t7:=t5.j_ (b9.block tm t5.lt);have ck:=v9.kind;have ct:=v9.table;have cd:=v9.doc;have Wp:i<maxLen:=by unfold maxLen;omega
  have hup:∀ {a:Int×Int}{wx:World},CW s' e=some a->MF prog zC nR wx tm (i+1) (zO (Dj s' (b.jH.take i)++[a]))->MF prog zC nR wx tm (i+1) (zO (Dj s' (b.jH.take (i+1)))):=fun h1 h2=>by rw[xE,h1];exact h2
  have nI:∀ {wx:World},CW s' e=none->MF prog zC nR wx tm i (zO (Dj s' (b.jH.take i)))->MF prog zC nR wx tm (i+1) (zO (Dj s' (b.jH.take (i+1)))):=fun h1 h2=>by rw[xE,h1];simpa using h2.mono (bQ i)
  by_cases e2:e.kind=2
  ·apply jF _
   obtain⟨w8,q1,q2,q3⟩:=Lg t7 Wp (a:=(e.table,e.doc)) re.2.1 re.2.2.1;have k8:=k7.trans (q3.mono fun x hx=>hx.2);apply jR [Value.int .i64 e.table,.int .i64 e.doc] (by kernel_rfl);apply WL.ml rfl rfl rfl rfl rfl rfl q1;apply G _;exact WQ.again (i+1) ⟨rfl,rfl,rfl,rfl,rfl,rfl,rfl,trivial⟩ ⟨xx,k8,hup (by unfold CW;rw[ag (.inl e2)]) q2⟩ (by show b.jH.length - (i+1)<b.jH.length - i;omega)
  ·by_cases e3:e.kind=3
   ·apply jF _
    obtain⟨w8,q1,q2,q3⟩:=Lg t7 Wp (a:=(e.table,e.doc)) re.2.1 re.2.2.1;have k8:=k7.trans (q3.mono fun x hx=>hx.2);apply jR [Value.int .i64 e.table,.int .i64 e.doc] (by kernel_rfl);apply WL.ml rfl rfl rfl rfl rfl rfl q1;apply G _;exact WQ.again (i+1) ⟨rfl,rfl,rfl,rfl,rfl,rfl,rfl,trivial⟩ ⟨xx,k8,hup (by unfold CW;rw[ag (.inr e3)]) q2⟩ (by show b.jH.length - (i+1)<b.jH.length - i;omega)
   ·by_cases e4:e.kind=4
    ·have Kh:CW s' e=atR s' (e.ab,e.ae):=by unfold CW;rw[aa (by omega),ag e4]
     have KA:=v9.BA;have h7:=h3.jA ((Z.jw b4).trans (k7.mono fun x (hx:x<w3.heap.size)=>⟨by omega,by omega⟩)) fun x hx=>h3.lt x hx;have z7:=k7.size;apply jF _;apply jy (m:=2) KA rfl;apply jx func23 (aeG h7 hN3 VW.1 (e.ab,e.ae));rintro _ w8 ⟨rfl,b8⟩;refine⟨_,rfl,?_⟩;have k8:=k7.trans ((Z.jw b8).mono fun x hx=>by omega);have t8:=t7.j_ (b8.block tm t7.lt);cases hq:atR s' (e.ab,e.ae) with
     | none=>
      unfold atV;apply G _;refine jJ (z:=.agg #[.int .i64 0,.int .i64 0]) (fun _=>jG) fun ga wa fa=>?_;refine WL.o7 rfl rfl rfl rfl rfl rfl (show U zC wa ga [.int .i64 0,.int .i64 0] from fa.blk) rfl rfl (by intro u hu;simp at hu;rw[hu];rfl) ?_;have ba:Below w8.heap.size w8 (wa.setRow ga [Value.int .i64 0,.int .i64 0].toArray):=below_setRow fa.below (by rw[fa.eq];exact aj _) _;clear fa;generalize wa.setRow ga _=wx at ba ⊢;have z8:=k8.size;apply G _;exact WQ.again (i+1) ⟨rfl,rfl,rfl,rfl,rfl,rfl,rfl,trivial⟩ ⟨xx,k8.trans ((Z.jw ba).mono fun x hx=>by omega),nI (Kh.trans hq) (t8.j_ (ba.block tm t8.lt))⟩ (by show b.jH.length - (i+1)<b.jH.length - i;omega)
     | some a=>
      obtain⟨r1,r2⟩:=aac h7 hq;unfold atV;apply G _;refine jJ (z:=.agg #[.int .i64 0,.int .i64 0]) (fun _=>jG) fun ga wa fa=>?_;have va:U zC wa ga [.int .i64 0,.int .i64 0]:=fa.blk;apply jE va (show lY [Value.int .i64 a.1,.int .i64 a.2] from by intro u hu;simp at hu;rcases hu with rfl|rfl<;>rfl);have va':=U.setRow va [.int .i64 a.1,.int .i64 a.2];have ba:Below w8.heap.size w8 (wa.setRow ga [Value.int .i64 a.1,.int .i64 a.2].toArray):=below_setRow fa.below (by rw[fa.eq];exact aj _) _;clear fa va;generalize wa.setRow ga _=wx at ba va' ⊢;have z8:=k8.size;obtain⟨w9,q1,q2,q3⟩:=Lg (t8.j_ (ba.block tm t8.lt)) Wp (a:=a) r1 r2;apply G _;apply jy (m:=2) (U.rangeAt va') rfl;apply WL.ml rfl rfl rfl rfl rfl rfl q1;apply G _;exact WQ.again (i+1) ⟨rfl,rfl,rfl,rfl,rfl,rfl,rfl,trivial⟩ ⟨xx,(k8.trans ((Z.jw ba).mono fun x hx=>by omega)).trans (q3.mono fun x hx=>hx.2),hup (Kh.trans hq) q2⟩ (by show b.jH.length - (i+1)<b.jH.length - i;omega)
    ·have Kh:CW s' e=none:=by unfold CW;rw[aa (by omega),aa e4]
     apply jF _;exact WQ.again (i+1) ⟨rfl,rfl,rfl,rfl,rfl,rfl,rfl,trivial⟩ ⟨xx,k7,nI Kh t7⟩ (by show b.jH.length - (i+1)<b.jH.length - i;omega)
 case neg=>
 obtain rfl:i=b.jH.length:=by omega
 rw[aN]at t5;have hT:∀x∈Dj s' b.jH,lV x.1/\lV x.2:=fun x hx=>by
  obtain⟨e,he,hq⟩:=gU.1 hx;have:=hER e he
  split at hq
  ·cases hq;exact this
  ·split at hq
   ·exact aac h3 hq
   ·cases hq
 have hTn:b.jH.length<maxLen:=by unfold maxLen;omega
 have k05:=(Z.jw EH).trans (k5.mono fun x (hx:x<w.heap.size)=>⟨by omega,by omega⟩);have h5:=h0.jA k05 h0.lt;have Wz:=h3.jA ((Z.jw b4).trans (k5.mono fun x (hx:x<w3.heap.size)=>⟨by omega,by omega⟩)) h3.lt;have ang:∀x,M3 x\/D3 x->(M x\/D x)\/w.heap.size<=x:=fun x hx=>by
  rcases hx with hx|hx
  ·rcases Bt x hx with h|h
   ·exact .inr (by have:=Rb x h;have:=b1.size;omega)
   ·exact .inr (by omega)
  ·rcases hD3 x hx with h|h
   ·exact .inl (.inr h)
   ·exact .inr (by omega)
 have s5:=h1.jA k05 h1.pC.lt;have arW:∀x,S x->x≠tm:=fun x hx=>by have:=h1.pC.lt x hx;omega
 have hNs:s.rows.length<=1000000:=by obtain⟨_,_,_,_,_,_,_,_,hp⟩:=h0;have:=hp.ok;omega
 have az9:s'.rows.length<=1000000:=by obtain⟨_,_,_,_,_,_,_,_,hp⟩:=h3;have:=hp.ok;omega
 have hG':Cat.Good s'.cat:=by obtain⟨_,_,_,_,_,_,_,_,hp⟩:=h3;obtain⟨_,_,_,-,-,-,-,-,-,-,hg⟩:=hp.cat;exact hg
 have hG:Cat.Good s.cat:=by obtain⟨_,_,_,_,_,_,_,_,hp⟩:=h0;obtain⟨_,_,_,-,-,-,-,-,-,-,hg⟩:=hp.cat;exact hg
 clear h3 h0 Rb Bt hD3 EH b4 Io k5 z4 hpv oG hER hb nE h4;generalize htT:Dj s' b.jH=T at *;have ES:=s5.blk.cell 0 (by simp);simp only[al]at ES;have lsb:=U.lt s5.blk;have lS5:=s5.pC.lt;have lw5:=k05.size;apply jF _;apply WL.Z3 fN D5 rfl rfl rfl rfl rfl s5.map;rintro rr w6 ⟨af2,c0,hR0,EJ⟩ F6 b6 z6;have h6:=h5.below b6;have hn6:=Wz.below b6;have t6:=t5.j_ (b6.block tm t5.lt);have s6:=s5.below b6;have GG:∀x,Cat.has s.cat x.1 x.2=true->∃kl,keyOf prog FA (Cat.mk x)=some kl:=fun x hx=>by
  obtain⟨q1,q2,q3⟩:=D_.1 hx;refine XW ⟨Vw.AR ⟨by omega,by have:=hG.len;omega⟩,?_⟩;have:=(hG.each (x.1 - 1).toNat (by omega)).2.2.1 x.2 q3;unfold maxLen;omega
 have Nk:∀x,M3 x\/D3 x->x<w6.heap.size/\¬S x/\x≠rr:=fun x hx=>by
  have q1:=Wz.lt x hx;refine⟨by omega,fun hs=>?_,by omega⟩;rcases ang x hx with q|q
  ·exact hSM x hs q
  ·have:=h1.pC.lt x hs;omega
 have h5l:∀x,M x\/D x->x<w6.heap.size/\¬S x/\x≠rr:=fun x hx=>by
  have q1:=h5.lt x hx;exact⟨by omega,fun hs=>hSM x hs hx,by omega⟩
 have html:tm<w6.heap.size/\¬S tm/\tm≠rr:=by
  have:=t5.lt;exact⟨by omega,fun hs=>arW _ hs rfl,by omega⟩
 have at1:¬S rr:=fun hs=>by have:=lS5 rr hs;omega
 have k06:=k05.trans ((Z.jw b6).mono fun x (hx:x<w.heap.size)=>by show x<w5.heap.size;omega);clear h5 Wz t5 s5 k05 ES;apply G _;refine WC.loop (fun _:Nat=>[(0,.pointer (some ⟨sb,0,none⟩)),(1,.pointer (some ⟨vb,0,none⟩)),(6,.pointer (some ⟨nb,0,none⟩)),(7,.map (some tm)),(72,.pointer (some ⟨rr,0,none⟩))])
  (fun c w'=>Z (fun x=>x<w6.heap.size/\¬S x/\x≠rr) w6 w'/\∃S' X' left,MR prog FA Cat.mk w' mb rr n (AQ X') left c/\yR w' mb S' X' (fun x=>if left x=true then lS s x.1 else lS s' x.1)/\
   (∀x,(X' x).isSome=true ↔ Cat.has s.cat x.1 x.2=true/\(left x=true\/Cat.has s'.cat x.1 x.2=true))/\U adQ w' sb [.map (some mb)]/\(∀x t,X' x=some t->¬t.own sb)/\S' sb/\∀x,S' x->S x\/w6.heap.size<=x)
  (fun c=>c) c0 ⟨rfl,rfl,rfl,rfl,rfl,trivial⟩
  ⟨Z.refl _ _,S,X,af2,hR0,⟨fun x t e=>?_,s6.pC.own,s6.pC.rF,s6.pC.mS,s6.pC.out,s6.pC.lt⟩,fun x=>?_,s6.blk,s6.out,s6.sS,fun _ h=>.inl h⟩ ?_
 ·obtain⟨q1,q2⟩:=s6.pC.is x t e
  obtain⟨kl,hk⟩:=GG x (by rw[<-hX,e];rfl);have hl:af2 x=true:=by rw[EJ x kl hk];unfold AQ;rw[e];rfl
  refine⟨q1,?_⟩;simp only[hl,fI];exact q2
 ·rw[hX]
  constructor
  ·intro h
   obtain⟨kl,hk⟩:=GG x h;exact⟨h,.inl (by rw[EJ x kl hk];unfold AQ;rw[Option.isSome_map,hX];exact h)⟩
  ·exact fun h=>h.1
 clear hR0 EJ s6;rintro c w7 ⟨k7,S7,X7,left,hR,vl,TM,v7,NG,RA,tQ⟩;have z7:=k7.size;apply G _;refine WL.afK D5 Cat.mk_inj aoO rfl rfl rfl rfl rfl hR (fun lO=>?_) ?_
 ·have s7:qY w7 sb mb n S7 X7 (gS s'):=⟨v7,hR.mf,⟨fun y u e=>⟨(vl.is y u e).1,(vl.is y u e).2.congr fun m=>by
   obtain⟨kl,hk⟩:=GG y ((TM y).1 (by rw[e];rfl)).1;simp only[lO y kl hk]
   rfl⟩,vl.own,vl.rF,vl.mS,vl.out,vl.lt⟩,RA,NG⟩
  have hX7:∀y,(X7 y).isSome=true ↔ (Cat.has s.cat y.1 y.2=true/\Cat.has s'.cat y.1 y.2=true):=fun y=>by
   rw[TM]
   constructor
   ·rintro⟨a1,a2⟩
    obtain⟨kl,hk⟩:=GG y a1;rw[lO y kl hk]at a2;exact⟨a1,a2.resolve_left (by simp)⟩
   ·rintro⟨a1,a2⟩
    exact⟨a1,.inr a2⟩
  have hn7:=hn6.jA k7 Nk;have akL:∀x,M3 x\/D3 x->x≠mb:=fun x hx e=>(Nk x hx).2.1 (e ▸ h1.pC.mS);have k07:Z (fun x=>x<w.heap.size/\¬S x) w w7:=(k06.mono fun x hx=>hx.1).trans (k7.mono fun x hx=>⟨by have:=k06.size;omega,hx.2,by omega⟩);have rX:∀y,S7 y->S y\/w.heap.size<=y:=fun y hy=>(tQ y hy).imp id fun h=>by have:=k06.size;omega
  have aAi:=h1.pC.lt _ h1.pC.mS;have aAa:=s7.pC.lt _ s7.pC.mS;clear hR vl TM v7 NG RA k7 hn6 h6 t6 lO k06;obtain⟨cp,Oc,mr,md,mp,mn,kc,F,hp⟩:=id hn7;apply G _;apply jx func24 (uJ hp);rintro _ _ ⟨rfl,rfl⟩;refine⟨_,rfl,?_⟩;apply jx func28 (wZ hp.cat);rintro _ w8 ⟨sp,cap,rfl,hTa,b8⟩;refine⟨_,rfl,?_⟩;clear hp;have hn8:=hn7.below b8;have s8:=s7.below b8;have z8:=b8.size;have hlen:=hG'.len;have ak9:=hn7.lt;clear hn7 s7;apply G _;refine WC.loop (fun i:Nat=>[(0,.pointer (some ⟨sb,0,none⟩)),(6,.pointer (some ⟨nb,0,none⟩)),(140,.slice sp s'.cat.length cap),(141,.int .i64 (s'.cat.length:Nat)),(142,.int .i64 i)])
   (fun i w'=>i<=s'.cat.length/\Z (fun y=>y<w8.heap.size/\y≠mb) w8 w'/\∃n' S' X',qY w' sb mb n' S' X' (gS s')/\(∀x,(X' x).isSome=true ↔ (Cat.has s.cat x.1 x.2=true/\Cat.has s'.cat x.1 x.2=true)\/CZ s'.cat i 0 x)/\n'<=n+16*i/\∀y,S' y->S7 y\/w8.heap.size<=y)
   (fun i=>s'.cat.length - i) 0 ⟨rfl,rfl,rfl,rfl,rfl,trivial⟩
   ⟨ay _,Z.refl _ _,n,S7,X7,s8,fun x=>(hX7 x).trans ⟨.inl,fun h=>h.resolve_right (NM x)⟩,by omega,fun y h=>.inl h⟩ ?_
  clear s8;rintro i w9 ⟨uU,k9,n9,S9,X9,s9,hX9,hn9,hS9⟩;have z9:=k9.size
  by_cases Oa:i<s'.cat.length
  case neg=>
   obtain rfl:i=s'.cat.length:=by omega
   apply G _;refine WQ.GN rfl ⟨rfl,n9,S9,X9,s9,fun x=>?_,by omega,fun y hy=>?_,(k07.trans ((Z.jw b8).mono fun y hy=>by have:=k07.size;omega)).trans (k9.mono fun y hy=>⟨by have:=k07.size;omega,fun e=>hy.2 (e ▸ h1.pC.mS)⟩)⟩
   ·rw[gy,hX9,Qu]
    exact⟨fun h=>h.elim (fun q=>q.2) id,.inr⟩
   ·rcases hS9 y hy with q|q
    ·exact rX y q
    ·exact .inr (by have:=k07.size;omega)
  case pos=>
  obtain⟨gt,OH,F7,cf,es,lg,og,ly,tP⟩:=Ms hTa Oa;obtain⟨rfl,rfl⟩:sp=some ⟨gt,0,none⟩/\cap=OH:=by simpa using es
  clear es;have oH:=(hG'.each i Oa).2.1;have mh:=fun j=>MC (j:=j) hG' Oa;replace ly:w9.rangeAt gt (0+i*4) _:=fun j v hv=>by rw[k9.cell (p:=⟨gt,0+i*4+j,none⟩) ⟨lg,by show gt≠mb;omega⟩];exact ly j v hv
  replace tP:=tP.jA k9 (fun b hb=>by have h1:=tP.lt hb;have h2:=tP.own hb;exact⟨h1,by omega⟩);have vH:=fun j=>Nq (L:=s'.cat) (i:=i) (j:=j) Oa;have kF:=Pm (L:=s'.cat) (i:=i);apply G _;apply jQ i (0+i*4) Oa;apply jy ly rfl;refine jJ (z:=.agg #[.int .i64 0,.string ByteArray.empty,.bool false,.slice none 0 0]) (fun _=>jG) fun g20 wa fa=>?_;have b5:=fa.below;have z5:=fa.eq;have v5:U tbT wa g20 [.int .i64 0,.string ByteArray.empty,.bool false,.slice none 0 0]:=fa.blk;clear fa;refine WL.o7 rfl rfl rfl rfl rfl rfl v5 rfl rfl (by intro u hu;simp at hu;rcases hu with rfl|rfl|rfl|rfl<;>rfl) ?_;have Az:=U.setRow v5 [.int .i64 ((i:Int)+1),.string (s'.cat.getD i ku).name,.bool (s'.cat.getD i ku).dropped,.slice F7 (s'.cat.getD i ku).fs.length cf];have CL:Below w9.heap.size w9 (wa.setRow g20 [.int .i64 ((i:Int)+1),.string (s'.cat.getD i ku).name,.bool (s'.cat.getD i ku).dropped,.slice F7 (s'.cat.getD i ku).fs.length cf].toArray):=below_setRow b5 (by omega) _;generalize wa.setRow g20 _=tF at Az CL ⊢;clear v5 b5 ly;generalize (s'.cat.getD i ku).fs=fs at *;have z10:=CL.size;have G5:=k9.trans ((Z.jw CL).mono fun b hb=>by omega);have s10:=s9.below CL;replace tP:=tP.jA (Z.jw CL) (fun b hb=>tP.lt hb);have c5:=Az.cell 3 (by simp);simp only[al,aA]at c5;clear s9 CL k9;apply jF _;refine WC.loop (fun j:Nat=>[(0,.pointer (some ⟨sb,0,none⟩)),(6,.pointer (some ⟨nb,0,none⟩)),(140,.slice (some ⟨gt,0,none⟩) s'.cat.length cap),(141,.int .i64 (s'.cat.length:Nat)),(142,.int .i64 i),(20,.pointer (some ⟨g20,0,none⟩)),(147,.slice F7 fs.length cf),(148,.int .i64 (fs.length:Nat)),(149,.int .i64 j)])
   (fun j w'=>j<=fs.length/\Z (fun y=>y<tF.heap.size/\y≠mb) tF w'/\∃n' S' X',qY w' sb mb n' S' X' (gS s')/\(∀x,(X' x).isSome=true ↔ (Cat.has s.cat x.1 x.2=true/\Cat.has s'.cat x.1 x.2=true)\/CZ s'.cat i j x)/\n'<=n+(16*i+j)/\∀y,S' y->S7 y\/w8.heap.size<=y)
   (fun j=>fs.length - j) 0 ⟨rfl,rfl,rfl,rfl,rfl,rfl,rfl,rfl,rfl,trivial⟩
   ⟨ay _,Z.refl _ _,n9,S9,X9,s10,hX9,by omega,hS9⟩ ?_
  clear s10 c5 hX9 hn9 hS9;rintro j QZ ⟨zA,Ow,n11,S11,X11,s11,aaB,az4,afO⟩;have z11:=Ow.size;have atU:=G5.trans (Ow.mono fun b hb=>⟨by omega,hb.2⟩)
  by_cases ub:j<fs.length
  case neg=>
   obtain rfl:j=fs.length:=by omega
   apply G _;exact WQ.again (i+1) ⟨rfl,rfl,rfl,rfl,rfl,trivial⟩ ⟨Oa,atU,n11,S11,X11,s11,fun x=>(aaB x).trans (or_congr Iff.rfl (kF x)),by omega,afO⟩ (by show s'.cat.length - (i+1)<s'.cat.length - i;omega)
  case pos=>
  obtain⟨gf,rfl,lf,of,Lu⟩:=aik tP ub;have Sg:=mh j ub;have ahO:=vH j ub;replace Lu:=(Ow.cell (p:=⟨gf,j,none⟩) ⟨lf,by show gf≠mb;omega⟩).trans Lu;generalize fs.getD j ⟨#[]⟩=f at Lu Sg ahO;replace Az:=U.jA Az Ow ⟨U.lt Az,by omega⟩;have U9:QZ.rangeAt gf (0+j*1) [.string f]:=fun q v hv=>by
   have:q<1:=(cP.1 hv).1;obtain rfl:q=0:=by omega
   cases hv
   rw[show 0+j*1+0=j by omega];exact Lu
  apply G _;apply jQ j (0+j*1) ub;apply jy U9 rfl;refine jJ (z:=.agg #[.string ByteArray.empty]) (fun _=>jG) fun g22 wa fa=>?_;have va:U ixT wa g22 [.string ByteArray.empty]:=fa.blk;have ea:=fa.eq;have ba:=fa.below;clear fa;refine WL.o7 rfl rfl rfl rfl rfl rfl va rfl rfl (by intro u hu;simp at hu;rw[hu];rfl) ?_;have YJ:=U.setRow va [.string f];have uV:Below QZ.heap.size QZ (wa.setRow g22 [Value.string f].toArray):=below_setRow ba (by omega) _;generalize wa.setRow g22 _=Yq at YJ uV ⊢;clear va ba U9 Lu;have ES:=(s11.below uV).blk.cell 0 (by simp);have c20:=(U.below Az uV (U.lt Az)).cell 0 (by simp);have c22:=YJ.cell 0 (by simp);simp only[al]at ES c20 c22;apply jF _;apply WL.alN fN rfl rfl rfl rfl rfl;apply jF _;apply jR [Value.int .i64 ((i:Int)+1),.string f] (by kernel_rfl);refine jJ (z:=.agg #[.int .i64 0,.string ByteArray.empty]) (fun _=>jG) fun g23 wa fa=>?_;have va:U FA wa g23 [.int .i64 0,.string ByteArray.empty]:=fa.blk;have ea:=fa.eq;have ba:=fa.below;clear fa;apply jE va (show lY [Value.int .i64 ((i:Int)+1),.string f] from by intro u hu;simp at hu;rcases hu with rfl|rfl<;>rfl);have v23:=U.setRow va [.int .i64 ((i:Int)+1),.string f];have uB:Below Yq.heap.size Yq (wa.setRow g23 [Value.int .i64 ((i:Int)+1),.string f].toArray):=below_setRow ba (by omega) _;generalize wa.setRow g23 _=GD at v23 uB ⊢;clear va ba ES c20 c22;have QQ:=uV.trans (uB.mono uV.size);have s13:=s11.below QQ;have v20:=U.below Az QQ (U.lt Az);replace YJ:=U.below YJ uB (U.lt YJ);have ES:=s13.blk.cell 0 (by simp);have c20:=v20.cell 0 (by simp);have c22:=YJ.cell 0 (by simp);simp only[al]at ES c20 c22;have lsb:=U.lt s13.blk;have l20:=U.lt v20;have l22:=U.lt YJ;have l23:=U.lt v23;have z13:=QQ.size;have Dc:=Ow.trans ((Z.jw QQ).mono fun b hb=>by omega);have atY:=(hn8.jA G5 fun y hy=>⟨by have:=ak9 y hy;omega,akL y hy⟩).jA Dc fun y hy=>⟨by have:=ak9 y hy;omega,akL y hy⟩;have anu:=fun {wx:World}(hx:Below GD.heap.size GD wx)=>(s13.below hx).look Sg;clear Az uV uB s11 Ow;apply G _;refine WC.drawn 6 (fun wx=>Below GD.heap.size GD wx) fun wb kv=>?_;have hS:Below GD.heap.size GD wb:=kv.below _;clear kv;apply jC [0,1,2] hS _;apply jz 3 [5,6] (fun wx hx=>(hx.cell (p:=⟨sb,0,none⟩) lsb).trans ES) hS;apply kG 4 [5,6] (fun wx hx=>U.rangeAt (U.below v23 hx l23)) rfl hS;apply nJ 5 [6] (fun wx hx=>anu hx) hS;apply jS 6;apply(kV);apply(jZ);apply(jD);cases hXk:X11 ((i:Int)+1,f) with
  | some u=>
   apply G _;refine WQ.again (j+1) ⟨rfl,rfl,rfl,rfl,rfl,rfl,rfl,rfl,rfl,trivial⟩ ⟨ub,Dc.trans ((Z.jw hS).mono fun b hb=>by omega),n11,S11,X11,s13.below hS,fun x=>?_,by omega,afO⟩ (by show fs.length - (j+1)<fs.length - j;omega);rw[aaB,ahO]
   constructor
   ·rintro(h|h)
    ·exact .inl h
    ·exact .inr (.inl h)
   ·rintro(h|h|h)
    ·exact .inl h
    ·exact .inr h
    ·rw[h];exact(aaB _).1 (by rw[hXk];rfl)
  | none=>
   apply G _;refine WC.drawn 12 (fun wx=>Below GD.heap.size GD wx) fun wc kv=>?_;have rX:=hS.trans (kv.below _);clear hS kv;have hS:=rX;clear rX;apply jC [0,1,2] hS _;apply jz 3 [12] (fun wx hx=>(hx.cell (p:=⟨sb,0,none⟩) lsb).trans ES) hS;apply kG 4 [12] (fun wx hx=>U.rangeAt (U.below v23 hx l23)) rfl hS;apply jC [5,6] hS _;apply jz 7 [8,11,12] (fun wx hx=>(hx.cell (p:=⟨g20,0,none⟩) l20).trans c20) hS;apply jC [9] hS _;apply jz 10 [11,12] (fun wx hx=>(hx.cell (p:=⟨g22,0,none⟩) l22).trans c22) hS;apply jS 8;apply jx func30 (yC (atY.below hS) (t:=(i:Int)+1) ⟨by omega,by omega⟩);rintro _ wd ⟨bd,vd,rfl,mL⟩;refine⟨_,rfl,?_⟩;have pO:=hS.trans (bd.mono hS.size);apply lI pO;apply jS 11;apply jx func29 (N1 mL (Ie VW.1 KG (by omega) _) (by have:=Ez s' ((i:Int)+1);omega) f);rintro _ we ⟨tb,st,L,rfl,hTn,YA,-,be,tR,TC⟩;refine⟨_,rfl,?_⟩;have Ym:=pO.trans (be.mono pO.size);apply lI Ym;apply jS 12;have zb:=pO.size;obtain⟨wf,my,vY,kd⟩:=(s13.below Ym).add Sg (by unfold maxLen;omega) (t:=⟨tb,st,L⟩) hTn (YA.congr fun m=>(BD VW.1 _ m).symm) (fun b hb hs=>by
    have:=s13.pC.lt b hs;rcases hb with e|hb
    ·have e:b=tb:=e
     omega
    ·have:=TC b hb
     omega)
   apply WL.ml rfl rfl rfl rfl rfl rfl my;apply(jZ);apply(jD);apply G _;refine WQ.again (j+1) ⟨rfl,rfl,rfl,rfl,rfl,rfl,rfl,rfl,rfl,trivial⟩ ⟨ub,(Dc.trans ((Z.jw Ym).mono fun b hb=>by omega)).trans (kd.mono fun b hb=>hb.2),n11+1,_,_,vY,fun x=>?_,by omega,fun b hb=>?_⟩ (by show fs.length - (j+1)<fs.length - j;omega)
   ·rw[ahO]
    by_cases e:x=((i:Int)+1,f)
    ·simp[e]
    ·simp only[aa e,aaB]
     constructor
     ·rintro(h|h)
      ·exact .inl h
      ·exact .inr (.inl h)
     ·rintro(h|h|h)
      ·exact .inl h
      ·exact .inr h
      ·exact(e h).elim
   ·rcases hb with hb|e|hb
    ·exact afO b hb
    ·have e:b=tb:=e
     have:=G5.size;exact .inr (by omega)
    ·have:=TC b hb
     have:=G5.size;exact .inr (by omega)
 rintro x v w8 c2 hlx hF ⟨kl,qf⟩ ⟨yX,hR8,uE,sL⟩ j6 k8 z8 hen;obtain⟨t,E_,rfl⟩:∃t,X7 x=some t/\v=t.ptr:=by
  unfold AQ at hF;cases hq:X7 x with
  | none=>rw[hq]at hF;cases hF
  | some t=>rw[hq]at hF;cases hF;exact⟨t,rfl,rfl⟩
 have asi:=arN qf;have hho:=((TM x).1 (by rw[E_];rfl)).1;have om:∀y u,y≠x->X7 y=some u->yX y=left y:=fun y u hy hu=>sL y hy (GG y ((TM y).1 (by rw[hu];rfl)).1);apply G _;apply WL.Z2 rfl rfl rfl rfl rfl hen;apply G _;refine jJ (z:=.agg #[.int .i64 0,.string ByteArray.empty]) (fun _=>jG) fun I0 wa fa=>?_;have va:U FA wa I0 [.int .i64 0,.string ByteArray.empty]:=fa.blk;apply jE va (show lY [Value.int .i64 x.1,.string x.2] from by intro u hu;simp at hu;rcases hu with rfl|rfl<;>rfl);have Ys:=U.setRow va [.int .i64 x.1,.string x.2];have b9:Below w8.heap.size w8 (wa.setRow I0 [Value.int .i64 x.1,.string x.2].toArray):=below_setRow fa.below (by rw[fa.eq];exact aj _) _;have e12:=fa.eq;clear fa va hen;generalize wa.setRow I0 _=w9 at b9 Ys ⊢;have z9:=b9.size;have l12:=U.lt Ys;have Pt:=Ys.cell 0 (by simp);have Fe:=Ys.cell 1 (by simp);simp only[al,aA]at Pt Fe;have k79:=k8.trans ((Z.jw b9).mono fun y hy=>by omega);have Yw:=k7.trans (k79.mono fun y hy=>⟨by omega,hy.2.2⟩);have h9:=h6.jA Yw h5l;have hn9:=hn6.jA Yw Nk;have t9:=t6.j_ (Yw.block tm html);have aoq:=vl.lt;have Xu:¬S7 rr:=fun h=>(tQ rr h).elim at1 fun h=>by omega
 have v9:=U.jA v7 k79 ⟨vl.lt _ RA,fun e=>Xu (e ▸ RA)⟩;have ES:=v9.cell 0 (by simp);simp only[al]at ES;have l9:=U.lt v9;have hR9:=hR8.below b9;have DF:=vl.jA k79 fun y hy=>⟨vl.lt y hy,fun e=>Xu (e ▸ hy)⟩;clear hR8 hR k8 b9 vl h6 hn6 t6 v7;obtain⟨cp,Oc,mr,md,mp,mn,kc,F,hp⟩:=id hn9;apply G _;refine WC.drawn 6 (fun wx=>Below w9.heap.size w9 wx) fun wb kv=>?_;have hS:Below w9.heap.size w9 wb:=kv.below _;clear kv;apply jC [0,2] hS _;apply jz 3 [6,7] (fun wx hx=>(hx.cell (p:=⟨I0,0,none⟩) l12).trans Pt) hS;apply jC [4] hS _;apply jz 5 [6,7] (fun wx hx=>(hx.cell (p:=⟨I0,1,none⟩) l12).trans Fe) hS;apply jS 1;apply jx func24 (uJ (hp.below hS));rintro _ _ ⟨rfl,rfl⟩;refine⟨_,rfl,?_⟩;apply lI hS;apply jS 6;apply jx func25 (Cat.ag8 (hp.below hS).cat x.1 x.2 asi.2);rintro _ wx ⟨rfl,GO⟩;subst GO;refine⟨_,rfl,?_⟩;apply(jZ)
 (apply ke 7 rfl _)
 apply(jD);clear hp;cases hhn:Cat.has s'.cat x.1 x.2 with
 | false=>
  apply G _;refine WC.drawn 5 (fun wx=>Below w9.heap.size w9 wx) fun wc kv=>?_;have rX:=hS.trans (kv.below _);clear hS kv;have hS:=rX;clear rX;apply jC [0,1,2] hS _;apply jz 3 [5] (fun wx hx=>(hx.cell (p:=⟨sb,0,none⟩) l9).trans ES) hS;apply kG 4 [5] (fun wx hx=>U.rangeAt (U.below Ys hx l12)) rfl hS;apply jS 5;obtain⟨wd,c3,q1,q2,q3,q4⟩:=(hR9.below hS).drop fN D5 Cat.mk_inj qf uE 0;refine WL.ats rfl rfl rfl rfl rfl q1 ?_;apply(jZ);apply(jD);have zS:=hS.size;have k9d:Z (fun y=>y<w9.heap.size/\y≠mb) w9 wd:=((Z.jw hS).mono fun y hy=>hy.1).trans (q4.mono fun y hy=>hy.2);have aqm:sb≠mb:=fun e=>Cat.MF.mP hR9.mf v9 e.symm;apply G _;refine WQ.again c3 ⟨rfl,rfl,rfl,rfl,rfl,trivial⟩ ⟨Yw.trans (k9d.mono fun y hy=>⟨by omega,fun e=>hy.2.1 (e ▸ h1.pC.mS)⟩),S7,fun y=>if y=x then none else X7 y,yX,?_,DF.drop x k9d (fun y hy mE=>⟨DF.lt y hy,mE⟩) (fun y u hy hu=>by simp only[om y u hy hu]),fun y=>?_,U.jA v9 k9d ⟨l9,aqm⟩,fun y u hu=>?_,RA,tQ⟩ (by omega)
  ·rw[Yu];exact q2
  ·change (if y=x then none else X7 y).isSome=true ↔ _
   by_cases e:y=x
   ·subst e;simp[uE,hhn]
   ·rw[aa e,TM]
    constructor
    ·rintro⟨a1,a2⟩;rw[<-sL y e (GG y a1)]at a2;exact⟨a1,a2⟩
    ·rintro⟨a1,a2⟩;rw[sL y e (GG y a1)]at a2;exact⟨a1,a2⟩
  ·simp only at hu
   by_cases e:y=x
   ·rw[ag e]at hu;cases hu
   ·rw[aa e]at hu;exact NG y u hu
 | true=>
 have zS:=hS.size;apply G _;apply WL.Z3 underlying72 Of rfl rfl rfl rfl rfl (t9.j_ (hS.block tm t9.lt));rintro HJ tF ⟨lf0,d0,hQ0,UE⟩ aAh Li z10;have Jt:=hS.trans (Li.mono zS);have Cy:=h9.below Jt;have ama:=hn9.below Jt;have v10:=U.below v9 Jt l9;have aes:=hR9.below Jt;have yV:=DF.jA (Z.jw Jt) DF.lt;have K_:=DF.lt;have agI:=U.below Ys Jt l12;have azW:=Jt.size;have aAj:=t9.lt;obtain⟨hTt,hLt⟩:=yV.is x t E_;simp only[hlx,fI]at hLt;have ZC:=fun y hy=>DF.lt y (DF.own x t y E_ hy);have YS:¬t.own tm:=fun hh=>by
  rcases tQ tm (DF.own x t tm E_ hh) with q|q
  ·exact html.2.1 q
  ·omega
 have Si:¬t.own I0:=fun hh=>by have:=DF.own x t _ E_ hh;have:=aoq I0 this;omega
 have hpo:∀y,(M3 y\/D3 y)\/(M y\/D y)->¬t.own y:=fun y hy hh=>by
  rcases tQ y (DF.own x t y E_ hh) with q|q
  ·rcases hy with hy|hy
   ·exact(Nk y hy).2.1 q
   ·exact(h5l y hy).2.1 q
  ·rcases hy with hy|hy
   ·have:=(Nk y hy).1;omega
   ·have:=(h5l y hy).1;omega
 have avs:∀y,M y\/D y->y<tF.heap.size/\¬t.own y/\y≠HJ:=fun y hy=>⟨by have:=(h5l y hy).1;omega,hpo y (.inr hy),by have:=(h5l y hy).1;omega⟩;have anB:∀y,M3 y\/D3 y->y<tF.heap.size/\¬t.own y/\y≠HJ:=fun y hy=>⟨by have:=(Nk y hy).1;omega,hpo y (.inl hy),by have:=(Nk y hy).1;omega⟩;clear Li hS h9 hn9 v9 hR9 DF t9 Ys Pt Fe ES;apply G _;refine WC.loop (fun _:Nat=>[(0,.pointer (some ⟨sb,0,none⟩)),(1,.pointer (some ⟨vb,0,none⟩)),(6,.pointer (some ⟨nb,0,none⟩)),(7,.map (some tm)),(72,.pointer (some ⟨rr,0,none⟩)),(12,.pointer (some ⟨I0,0,none⟩)),(13,t.ptr),(92,.pointer (some ⟨HJ,0,none⟩))])
  (fun c w'=>Z (fun y=>y<tF.heap.size/\¬t.own y/\y≠HJ) tF w'/\∃st L lf,MR prog zC nR w' tm HJ b.jH.length (zO T) lf c/\xw w' st t.tb L/\sV x.2 (yP T lf (lS s x.1) (lS s' x.1) x.1) L/\∀y,st y≠none->t.st y≠none\/tF.heap.size<=y)
  (fun c=>c) d0 ⟨rfl,rfl,rfl,rfl,rfl,rfl,rfl,rfl,trivial⟩
  ⟨Z.refl _ _,t.st,t.L,lf0,hQ0,hTt,hLt.congr fun m=>?_,fun y hy=>.inl hy⟩ ?_
 ·unfold yP
  by_cases hm:(x.1,m)∈T
  ·obtain⟨kl2,mW⟩:=SG (hT _ hm).1 (hT _ hm).2
   rw[aa (fun q=>?_)];have q2:=q.2;rw[UE _ kl2 mW]at q2;unfold zO at q2;rw[ag hm]at q2;cases q2
  ·rw[aa (fun q=>hm q.1)]
 clear hQ0 UE hTt hLt;rintro e wi ⟨ki,st,L,lf,hQ,hTi,hLi,YF⟩;have zi:=ki.size;apply G _;refine WL.afK Of tV aps rfl rfl rfl rfl rfl hQ (fun lO=>?_) ?_
 ·have hLf:=hLi.congr fun m=>by
   unfold yP
   by_cases hm:(x.1,m)∈T
   ·obtain⟨kl2,mW⟩:=SG (hT _ hm).1 (hT _ hm).2
    rw[ag ⟨hm,lO _ kl2 mW⟩]
   ·rw[aa (fun q=>hm q.1)]
    exact p5 x.1 m hm (by rw[To hG hho,To hG' hhn])
  have aol:∀y,¬S7 y->¬t.own y:=fun y h hh=>h (yV.own x t y E_ hh);apply G _;refine WQ.again c2 ⟨rfl,rfl,rfl,rfl,rfl,trivial⟩ ⟨(Yw.trans ((Z.jw Jt).mono fun y hy=>by omega)).trans (ki.mono fun y hy=>⟨by omega,fun hh=>?_,by omega⟩),fun y=>S7 y\/Tx.own ⟨t.tb,st,L⟩ y,fun y=>if y=x then some ⟨t.tb,st,L⟩ else X7 y,yX,?_,yV.atK E_ ki (fun y h1 h2=>⟨yV.lt y h1,h2,by have:=K_ y h1;omega⟩) hTi (by simp only[uE];exact hLf) (fun y hy=>?_) (fun y u hy hu=>by simp only[om y u hy hu]),fun y=>?_,U.jA v10 ki ⟨U.lt v10,NG x t E_,by omega⟩,fun y u hu=>?_,.inl RA,fun y hy=>?_⟩ (by omega)
  ·rcases tQ y (yV.own x t y E_ hh) with q|q
   ·exact hy.2.1 q
   ·have:=hy.1;omega
  ·rw[XR (u:=⟨t.tb,st,L⟩) E_ rfl]
   exact aes.jA ki ⟨yV.lt _ yV.mS,yV.out x t E_,by have:=K_ _ yV.mS;omega⟩ ⟨aes.lt.2.1,aol rr Xu,by have:=aes.lt;omega⟩
  ·rcases hy with hy|hy
   ·exact .inl (.inl hy)
   ·rcases YF y hy with q|q
    ·exact .inl (.inr q)
    ·exact .inr fun h=>by have:=K_ y h;omega
  ·change (if y=x then some (⟨t.tb,st,L⟩:Tx) else X7 y).isSome=true ↔ _
   by_cases e:y=x
   ·subst e;simp[hho,hhn]
   ·rw[aa e,TM]
    constructor
    ·rintro⟨a1,a2⟩;rw[<-sL y e (GG y a1)]at a2;exact⟨a1,a2⟩
    ·rintro⟨a1,a2⟩;rw[sL y e (GG y a1)]at a2;exact⟨a1,a2⟩
  ·simp only at hu
   by_cases e:y=x
   ·rw[ag e]at hu
    cases hu
    rintro(hh|hh)
    ·exact NG x t E_ (.inl hh)
    ·rcases YF sb hh with q|q
     ·exact NG x t E_ (.inr q)
     ·omega
   ·rw[aa e]at hu;exact NG y u hu
  ·rcases hy with hy|hy|hy
   ·exact tQ y hy
   ·exact tQ y (yV.own x t y E_ (.inl hy))
   ·rcases YF y hy with q|q
    ·exact tQ y (yV.own x t y E_ (.inr q))
    ·exact .inr (by omega)
 rintro d v2 Yq e2 hld hFd ⟨kl2,akU⟩ ⟨lf',al3,vP,tA⟩ zP k12 z12 alU;have hdT:d∈T:=by
  unfold zO at hFd
  by_cases q:d∈T
  ·exact q
  ·rw[aa q]at hFd;cases hFd
 obtain⟨Dd,yb⟩:=hT d hdT;have Wp:∀m,yP T lf' (lS s x.1) (lS s' x.1) x.1 m=if(x.1,m)=d then lS s' x.1 m else yP T lf (lS s x.1) (lS s' x.1) x.1 m:=fun m=>YY hdT vP (fun y hy mE=>tA y mE (SG (hT y hy).1 (hT y hy).2)) m
 apply G _;apply WL.Z2 rfl rfl rfl rfl rfl alU;apply G _;refine jJ (z:=.agg #[.int .i64 0,.int .i64 0]) (fun _=>jG) fun Sr wa fa=>?_;have va:U zC wa Sr [.int .i64 0,.int .i64 0]:=fa.blk;apply jE va (show lY [Value.int .i64 d.1,.int .i64 d.2] from by intro u hu;simp at hu;rcases hu with rfl|rfl<;>rfl);have VG:=U.setRow va [.int .i64 d.1,.int .i64 d.2];have uB:Below Yq.heap.size Yq (wa.setRow Sr [Value.int .i64 d.1,.int .i64 d.2].toArray):=below_setRow fa.below (by rw[fa.eq];exact aj _) _;have e14:=fa.eq;clear fa va alU;generalize wa.setRow Sr _=GD at uB VG ⊢;have z13:=uB.size;have k13:=k12.trans ((Z.jw uB).mono fun y hy=>by omega);have Dc:=ki.trans (k13.mono fun y hy=>⟨by omega,hy.2.2⟩);have az1:=ZC t.tb (.inl rfl);have ahn:∀y,st y≠none->y≠HJ:=fun y hy=>by
  rcases YF y hy with q|q
  ·have:=ZC y (.inr q);omega
  ·omega
 have aeE:∀y,y<tF.heap.size->¬t.own y->st y=none/\y≠t.tb:=fun y h1 h2=>⟨by
  cases q:st y with
  | none=>rfl
  | some nd=>
   rcases YF y (by rw[q];simp) with q2|q2
   ·exact(h2 (.inr q2)).elim
   ·omega,fun e=>h2 (.inl e)⟩
 have af_:=hTi.jA k13 (fun y hy=>⟨hTi.mem.lt hy,ahn y hy⟩) ⟨by omega,by omega⟩;have ad7:=al3.below uB;have al0:=U.lt agI;have aaz:=U.jA agI Dc ⟨al0,Si,by omega⟩;have Pt:=aaz.cell 0 (by simp);have Fe:=aaz.cell 1 (by simp);have UW:=VG.cell 0 (by simp);have Qa:=VG.cell 1 (by simp);simp only[al,aA]at Pt Fe UW Qa;clear k12 uB al3 hQ
 by_cases hdx:d.1=x.1
 case neg=>
  apply jF _;exact WQ.again e2 ⟨rfl,rfl,rfl,rfl,rfl,rfl,rfl,rfl,trivial⟩ ⟨Dc,st,L,lf',ad7,af_,hLi.congr (fun m=>by rw[Wp,aa (fun q=>hdx (by rw[<-q]))]),YF⟩ (by omega)
 case pos=>
 have hde:d=(x.1,d.2):=eO hdx rfl;have afD:L.length<=1000000:=Wj hLi fun m dd hm=>by
  unfold yP at hm
  split at hm
  ·have:=I4 VW.1 hm;omega
  ·have:=I4 hI.1 hm;omega
 have Kq:yP T lf (lS s x.1) (lS s' x.1) x.1 d.2=lS s x.1 d.2:=by
  unfold yP;rw[aa (fun q=>by rw[<-hde,hld]at q;cases q.2)]
 have arS:Gd (yP T lf (lS s x.1) (lS s' x.1) x.1):=⟨fun m dd hm=>by
  unfold yP at hm
  split at hm
  ·exact(sA VW.1 KG (by omega) _).ok _ _ hm
  ·exact(sA hI.1 hd (by omega) _).ok _ _ hm⟩
 apply jF _;apply jx func26 (IT (Cy.jA Dc avs) Dd yb);rintro _ w14 ⟨b14,r,dc,bq,rfl,hv,hm⟩;refine⟨_,rfl,?_⟩;have lM:=hv.len;apply G _;refine jJ (z:=.agg (lA kE jK).toArray) (fun _=>jG) fun Mz wa fa=>?_;apply jE (hm:=(ln lM)) fa.blk (nu hv.one);obtain⟨Ha,b15,-,-⟩:=nv (lA r dc) (Below.refl w14.heap.size w14) fa;generalize wa.setRow Mz _=w15 at Ha b15 ⊢;clear fa;have Gm:=b14.trans (b15.mono b14.size);have auP:=hv.jA (Z.jw b15) (fun _ _ hl=>hl) (fun _ h=>h);have agl:=Dc.trans ((Z.jw Gm).mono fun y hy=>by omega);have adI:=af_.below Gm;have z15:=Gm.size;have A15:=rD.of (U.rangeAt Ha) lM;have ag3:=(Gm.cell (p:=⟨I0,1,none⟩) (U.lt aaz)).trans Fe;have Nw:=(Gm.cell (p:=⟨Sr,1,none⟩) (U.lt VG)).trans Qa;have alg:=U.below VG Gm (U.lt VG);have alH:=ad7.below Gm;have l14:=U.lt VG;clear b14 b15 hv k13 af_ ad7 VG Pt Fe UW Qa Ha;apply G _;refine WC.tn (fun _:Unit=>[(0,.pointer (some ⟨sb,0,none⟩)),(1,.pointer (some ⟨vb,0,none⟩)),(6,.pointer (some ⟨nb,0,none⟩)),(7,.map (some tm)),(72,.pointer (some ⟨rr,0,none⟩)),(12,.pointer (some ⟨I0,0,none⟩)),(13,t.ptr),(92,.pointer (some ⟨HJ,0,none⟩)),(14,.pointer (some ⟨Sr,0,none⟩))])
  (fun _ wm=>R4 w15 t.tb st (T7 x.2 d.2 (lS s x.1 d.2) L) wm) rfl ?_ ?_
 ·cases qD:lU s (d.1,d.2) with
  | none=>
   have nI:lS s x.1 d.2=none:=by unfold lS;rw[<-hdx,qD];rfl
   rw[qD]at hm;obtain⟨rfl,rfl⟩:=hm;rw[nI];apply G _;exact WQ.meet () ⟨rfl,rfl,rfl,rfl,rfl,rfl,rfl,rfl,rfl,trivial⟩ ⟨st,adI,Z.refl _ _,fun _ h=>.inl h⟩
  | some r'=>
   have JK:lS s x.1 d.2=some r'.data:=by unfold lS;rw[<-hdx,qD];rfl
   rw[qD]at hm;obtain⟨rfl,rfl⟩:=hm;rw[JK];apply G _;apply Y ag3;apply G _;apply Y Nw;apply G _;obtain⟨a1,a2,a3⟩:=(sA hI.1 hd (by omega) x.1).ok _ _ JK;have a4:=(FO hd JK).2;have sm:=(Rl Cy (qV qD).1).2;apply jy (m:=6) A15.data lM;apply jx func27 (CY (B:=3000) I adI I x.2 a1 auP.sN sm a2 a4 false);rintro _ wl ⟨rfl,hTP⟩;refine⟨_,rfl,?_⟩;apply G _;exact WQ.meet () ⟨rfl,rfl,rfl,rfl,rfl,rfl,rfl,rfl,rfl,trivial⟩ hTP
 rintro⟨⟩ w16 ⟨yz,alj,kO1,hN1⟩;have ajL:(T7 x.2 d.2 (lS s x.1 d.2) L).length<=1000000:=by
  cases lS s x.1 d.2 with
  | none=>exact afD
  | some dd=>exact aU (Ub _ _ _ _) afD
 have Jj:=afN (n:=d.2) (o':=lS s' x.1 d.2) hLi arS fun dd hq=>(sA VW.1 KG (by omega) x.1).ok _ _ hq;rw[Kq]at Jj;generalize (T7 x.2 d.2 (lS s x.1 d.2) L)=L1 at alj ajL Jj;have ams:∀y,y<tF.heap.size->¬t.own y->uL st t.tb w15 y:=fun y h1 h2=>⟨by omega,(aeE y h1 h2).1,(aeE y h1 h2).2⟩;have Xf:=agl.trans (kO1.mono fun y hy=>ams y hy.1 hy.2.1);have afr:st Sr=none/\Sr≠t.tb:=⟨by
  cases q:st Sr with
  | none=>rfl
  | some nd=>have:=hTi.mem.lt (b:=Sr) (by rw[q];simp);omega,by omega⟩
 have avX:=aeE I0 (by omega) Si;have TB:=U.jA alg kO1 ⟨by omega,afr.1,afr.2⟩;have adS:=U.jA agI Xf ⟨al0,Si,by omega⟩;have aln:=alH.jA kO1 (ams tm (by omega) YS) ⟨by omega,by
  cases q:st HJ with
  | none=>rfl
  | some nd=>exact(ahn HJ (by rw[q];simp) rfl).elim,by omega⟩
 have z16:=kO1.size;clear alg alH A15 ag3 Nw hm adI aaz;have UW:=TB.cell 0 (by simp);have Qa:=TB.cell 1 (by simp);simp only[al,aA]at UW Qa;apply jF _;apply jx func26 (IT (ama.jA Xf anB) Dd yb);rintro _ w17 ⟨VO,r2,dc2,bq2,rfl,wP,yd⟩;refine⟨_,rfl,?_⟩;have afj:=wP.len;apply G _;refine jJ (z:=.agg (lA kE jK).toArray) (fun _=>jG) fun g17 wa fa=>?_;apply jE (hm:=(ln afj)) fa.blk (nu wP.one);obtain⟨v17,b18,-,-⟩:=nv (lA r2 dc2) (Below.refl w17.heap.size w17) fa;generalize wa.setRow g17 _=w18 at v17 b18 ⊢;clear fa;have Iu:=VO.trans (b18.mono VO.size);have ast:=wP.jA (Z.jw b18) (fun _ _ hl=>hl) (fun _ h=>h);have akW:=alj.below Iu;have z18:=Iu.size;have A17:=rD.of (U.rangeAt v17) afj;have au_:=U.below adS Iu (U.lt adS);have aqU:=U.below TB Iu (U.lt TB);have Fe:=au_.cell 1 (by simp);have Nw:=aqU.cell 1 (by simp);simp only[al,aA]at Fe Nw;have amk:∀y,yz y≠none->t.st y≠none\/tF.heap.size<=y:=fun y hy=>by
  rcases hN1 y hy with q|q
  ·exact YF y q
  ·exact .inr (by omega)
 have So:∀y,y<tF.heap.size->¬t.own y->yz y=none/\y≠t.tb:=fun y h1 h2=>⟨by
  cases q:yz y with
  | none=>rfl
  | some nd=>
   rcases amk y (by rw[q];simp) with q2|q2
   ·exact(h2 (.inr q2)).elim
   ·omega,fun e=>h2 (.inl e)⟩
 have al7:∀ {L2:List Tre.KV}{wz:World},R4 w18 t.tb yz L2 wz->sV x.2 (ml (yP T lf (lS s x.1) (lS s' x.1) x.1) d.2 (lS s' x.1 d.2)) L2->
   Z (fun y=>y<tF.heap.size/\¬t.own y/\y≠HJ) tF wz/\∃st L lf,MR prog zC nR wz tm HJ b.jH.length (zO T) lf e2/\xw wz st t.tb L/\sV x.2 (yP T lf (lS s x.1) (lS s' x.1) x.1) L/\∀y,st y≠none->t.st y≠none\/tF.heap.size<=y:=by
  rintro L2 wz ⟨yc,hT2,kO2,hN2⟩ hL2;refine⟨(Xf.trans ((Z.jw Iu).mono fun y hy=>by omega)).trans (kO2.mono fun y hy=>⟨by omega,(So y hy.1 hy.2.1).1,(So y hy.1 hy.2.1).2⟩),yc,L2,lf',(aln.below Iu).jA kO2 ⟨by omega,(So tm (by omega) YS).1,(So tm (by omega) YS).2⟩ ⟨by omega,?_,by omega⟩,hT2,hL2.congr fun m=>?_,fun y hy=>?_⟩
  ·cases q:yz HJ with
   | none=>rfl
   | some nd=>
    rcases hN1 HJ (by rw[q];simp) with q2|q2
    ·exact(ahn HJ q2 rfl).elim
    ·omega
  ·rw[Wp,hde]
   unfold ml
   by_cases e:m=d.2
   ·rw[ag e,ag (by rw[e]),e]
   ·rw[aa e,aa (fun q=>e (congrArg Prod.snd q))]
  ·rcases hN2 y hy with q|q
   ·exact amk y q
   ·exact .inr (by omega)
 clear aln TB adS agl kO1 VO b18 wP v17 Qa UW;apply G _;cases qD:lU s' (d.1,d.2) with
 | none=>
  have nI:lS s' x.1 d.2=none:=by unfold lS;rw[<-hdx,qD];rfl
  rw[qD]at yd;obtain⟨rfl,rfl⟩:=yd;rw[nI]at Jj;apply G _;exact WQ.again e2 ⟨rfl,rfl,rfl,rfl,rfl,rfl,rfl,rfl,trivial⟩ (al7 ⟨yz,akW,Z.refl _ _,fun _ h=>.inl h⟩ (by rw[nI];exact Jj)) (by omega)
 | some r'=>
  have JK:lS s' x.1 d.2=some r'.data:=by unfold lS;rw[<-hdx,qD];rfl
  rw[qD]at yd;obtain⟨rfl,rfl⟩:=yd;rw[JK]at Jj;apply G _;apply Y Fe;apply G _;apply Y Nw;apply G _;obtain⟨a1,a2,a3⟩:=(sA VW.1 KG (by omega) x.1).ok _ _ JK;have a4:=(FO KG JK).2;have sm:=(Rl ama (qV qD).1).2;apply jy (m:=6) A17.data afj;apply jx func27 (CY (B:=3000) I akW I x.2 a1 ast.sN sm a2 a4 true);rintro _ wl ⟨rfl,hTP⟩;refine⟨_,rfl,?_⟩;apply G _;exact WQ.again e2 ⟨rfl,rfl,rfl,rfl,rfl,rfl,rfl,rfl,trivial⟩ (al7 hTP (by rw[JK];exact Jj)) (by omega)
end Ix
namespace Vw
open K (En Bk zV lQ mz kQ)
structure Ac where
 kind:Int
 table:Int
 doc:Int
 pick:Int
 data:V
 field:lD
 e:En
def verL (L:List Rw)(k:Int×Int):Int:=match(Vw.of L k).getLast? with|some r=>r.kA+1|none=>0
def adl (s:St)(t d:Int):Int:=verL s.rows (t,d)
theorem NB {L:List Rw}{k:Int×Int}(hi:i<L.length): verL (L.take (i+1)) k=if(L.getD i kE).key=k then(L.getD i kE).kA+1 else verL (L.take i) k:=by
 unfold verL;rw[aK,ai hi,dm,<-lR (d:=kE) hi,G1]
 by_cases h:(L.getD i kE).key=k
 ·rw[ag h,ag h,List.getLast?_append];rfl
 ·rw[aa h,aa h,aP]
theorem abg {L:List Rw}{k:Int×Int}(h:∀r∈L,-9223372036854775808<=r.kA/\r.kA+1<=9223372036854775807): -9223372036854775808<=verL L k/\verL L k<=9223372036854775807:=by
 unfold verL
 split
 ·rename_i r hr
  have:=h r ((cg.1 (gw hr)).1);omega
 ·omega
def QW (s:St)(p:Int):Rw:=s.rows.getD ((bits .and .i64 p 65535).toNat % s.rows.length) kE
open Classical in
noncomputable def m0 (s:St)(x:Ac):En :=
 if x.kind=0 then { kQ with kind:=2,table:=x.table,doc:=next s x.table,data:=x.data,hash:=mz x.data }
 else if x.kind=1 then { kQ with kind:=2,table:=x.table,doc:=x.doc,kA:=adl s x.table x.doc,data:=x.data,hash:=mz x.data }
 else if x.kind=2 then { kQ with kind:=3,table:=x.table,doc:=x.doc,kA:=adl s x.table x.doc }
 else if x.kind=3 then(if s.rows=[] then { kQ with kind:=4 } else { kQ with kind:=4,ab:=(QW s x.pick).blk,ae:=(QW s x.pick).pH })
 else if x.kind=4 then { kQ with kind:=5,table:=(s.cat.length:Int)+1,text:=x.field }
 else if x.kind=5 then { kQ with kind:=6,table:=x.table }
 else if x.kind=6 then { kQ with kind:=7,table:=x.table,text:=x.field }
 else x.e
noncomputable def actsR (n:Nat):List Ac->Nat->St->List En×St
 | [],_,s=>([],s)
 | x::r,k,s=>((m0 s x)::(actsR n r (k+1) (entR s (m0 s x) n k (7*n)).2).1,(actsR n r (k+1) (entR s (m0 s x) n k (7*n)).2).2)
noncomputable def tO (s:St)(l:List Ac):Bk:={ index:=s.n,time:=7*s.n,tM:=0,prev:=Dig.nA,jH:=(actsR s.n l 0 s).1 }
theorem BN (n:Nat):∀(l:List Ac) (k:Nat) (s:St),(actsR n l k s).1.length=l.length
 | [],_,_=>rfl
 | x::r,k,s=>by
  unfold actsR;rw[ak,ak,BN n r]
end Vw
namespace Vw
open K
abbrev Kb:Nat:=114
def pI (x:Ac)(dc ec:kL):kL:=[Iq x.kind,Iq x.table,Iq x.doc,Iq x.pick]++(dc++(Value.string x.field::ec))
structure ac4 (x:Ac):Prop where
 kind:lV x.kind
 table:lV x.table
 doc:lV x.doc
 pick:lV x.pick
 field:x.field.size<=140737488355328
def OD (E:Nat->Prop)(f:Nat)(w:World)(x:Ac)(cs:kL):Prop:=∃dc ec,cs=pI x dc ec/\lz E f w x.data dc/\p_ (lz E f w) x.e ec/\ac4 x
structure v_ (w:World) (g:Nat) (x:Ac) (dc ec:kL):Prop where
 blk:U Kb w g (pI x dc ec)
 dl:dc.length=6
 el:ec.length=46
section
variable {w w':World}{g:Nat}{x:Ac}{dc ec:kL}
theorem v_.kind (h:v_ w g x dc ec): w.cell? (Aq g 0)=some (Iq x.kind):=h.blk.cell 0 (by simp[pI])
theorem v_.table (h:v_ w g x dc ec): w.cell? (Aq g 1)=some (Iq x.table):=h.blk.cell 1 (by simp[pI])
theorem v_.doc (h:v_ w g x dc ec): w.cell? (Aq g 2)=some (Iq x.doc):=h.blk.cell 2 (by simp[pI])
theorem v_.pick (h:v_ w g x dc ec): w.cell? (Aq g 3)=some (Iq x.pick):=h.blk.cell 3 (by simp[pI])
theorem v_.data (h:v_ w g x dc ec): w.rangeAt g 4 dc:=U.part h.blk [Iq x.kind,Iq x.table,Iq x.doc,Iq x.pick] dc (Value.string x.field::ec) rfl
theorem v_.field (h:v_ w g x dc ec): w.cell? (Aq g 10)=some (.string x.field):=by
 have:=U.part h.blk ([Iq x.kind,Iq x.table,Iq x.doc,Iq x.pick]++dc) [Value.string x.field] ec (by unfold pI;simp);rw[show(([Iq x.kind,Iq x.table,Iq x.doc,Iq x.pick]:kL)++dc).length=10 by simp[h.dl]]at this;exact this 0 _ rfl
theorem v_.e (h:v_ w g x dc ec): w.rangeAt g 11 ec:=by
 have:=U.part h.blk ([Iq x.kind,Iq x.table,Iq x.doc,Iq x.pick]++(dc++[Value.string x.field])) ec [] (by unfold pI;simp)
 rwa [show(([Iq x.kind,Iq x.table,Iq x.doc,Iq x.pick]:kL)++(dc++[Value.string x.field])).length=11 by simp[h.dl]]at this
theorem v_.below (h:v_ w g x dc ec)(hb:jP w w'): v_ w' g x dc ec:=⟨U.below h.blk hb (U.lt h.blk),h.dl,h.el⟩
end
open K
theorem aeu (t:Int): prog.built BI [(0,Iq 6),(2,Iq t)]=some (km { kQ with kind:=6,table:=t } jK).toArray:=jG
theorem aha (t:Int)(s:lD): prog.built BI [(0,Iq 7),(2,Iq t),(1,.string s)]=some (km { kQ with kind:=7,table:=t,text:=s } jK).toArray:=jG
theorem aeY (t:Int)(s:lD): prog.built BI [(0,Iq 5),(2,Iq t),(1,.string s)]=some (km { kQ with kind:=5,table:=t,text:=s } jK).toArray:=jG
theorem ahQ (t d v:Int): prog.built BI [(0,Iq 3),(2,Iq t),(3,Iq d),(4,Iq v)]=some (km { kQ with kind:=3,table:=t,doc:=d,kA:=v } jK).toArray:=jG
theorem abj: prog.built BI [(0,Iq 4)]=some (km { kQ with kind:=4 } jK).toArray:=jG
theorem aaJ (k ta d v n1 n2 n3:Int)(tx:lD)(sp sq:Option Addr)(a1 a2 c1 c2:Nat)(q:Nat->Int): prog.built BI [(0,Iq k),(2,Iq ta),(3,Iq d),(4,Iq v),(5,.agg #[Iq n1,Iq n2,Iq n3,.string tx,.slice sp a1 c1,.slice sq a2 c2]),(6,.agg (kT ((List.range 32).map q)).toArray)] =
  some (km ⟨k,kZ,ta,d,v,zV,(List.range 32).map q,false,0,0⟩ [Iq n1,Iq n2,Iq n3,.string tx,.slice sp a1 c1,.slice sq a2 c2]).toArray:=jG
theorem acA (k ta d n1 n2 n3:Int)(tx:lD)(sp sq:Option Addr)(a1 a2 c1 c2:Nat)(q:Nat->Int): prog.built BI [(0,Iq k),(2,Iq ta),(3,Iq d),(5,.agg #[Iq n1,Iq n2,Iq n3,.string tx,.slice sp a1 c1,.slice sq a2 c2]),(6,.agg (kT ((List.range 32).map q)).toArray)] =
  some (km ⟨k,kZ,ta,d,0,zV,(List.range 32).map q,false,0,0⟩ [Iq n1,Iq n2,Iq n3,.string tx,.slice sp a1 c1,.slice sq a2 c2]).toArray:=jG
theorem Us (hh:h.length=32): ∃q:Nat->Int,h=(List.range 32).map q:=by
 refine⟨fun i=>h.getD i 0,?_⟩;apply ew
 ·simp[hh]
 ·intro i h1 h2
  simp[ah,ai h1]
theorem agt (k ta d:Int)(hh:h.length=32)(n1 n2 n3:Int)(tx:lD)(sp sq:Option Addr)(a1 a2 c1 c2:Nat)(RO:V): prog.built BI [(0,Iq k),(2,Iq ta),(3,Iq d),(5,.agg #[Iq n1,Iq n2,Iq n3,.string tx,.slice sp a1 c1,.slice sq a2 c2]),(6,.agg (kT h).toArray)] =
  some (km { kQ with kind:=k,table:=ta,doc:=d,data:=RO,hash:=h } [Iq n1,Iq n2,Iq n3,.string tx,.slice sp a1 c1,.slice sq a2 c2]).toArray:=by
 obtain⟨q,rfl⟩:=Us hh;exact acA k ta d n1 n2 n3 tx sp sq a1 a2 c1 c2 q
theorem afW (k ta d v:Int)(hh:h.length=32)(n1 n2 n3:Int)(tx:lD)(sp sq:Option Addr)(a1 a2 c1 c2:Nat)(RO:V): prog.built BI [(0,Iq k),(2,Iq ta),(3,Iq d),(4,Iq v),(5,.agg #[Iq n1,Iq n2,Iq n3,.string tx,.slice sp a1 c1,.slice sq a2 c2]),(6,.agg (kT h).toArray)] =
  some (km { kQ with kind:=k,table:=ta,doc:=d,kA:=v,data:=RO,hash:=h } [Iq n1,Iq n2,Iq n3,.string tx,.slice sp a1 c1,.slice sq a2 c2]).toArray:=by
 obtain⟨q,rfl⟩:=Us hh;exact aaJ k ta d v n1 n2 n3 tx sp sq a1 a2 c1 c2 q
theorem agv (a b:Int): prog.built BI [(0,Iq 4),(8,.agg #[Iq a,Iq b])]=some (km { kQ with kind:=4,ab:=a,ae:=b } jK).toArray:=jG
theorem L7 (v:V): Byt (mz v):=by
 unfold mz
 split
 ·exact Ee
 ·intro c hc
  obtain⟨i,hi,rfl⟩:=bH hc;have hl:(Dig.sJ (0::(mJ v).1)).length=32:=Dig.qC _;have:=Dig.V7 (0::(mJ v).1) i I;unfold nth at this
  rwa [ah,ai hi]at this
theorem JJ: kZ.size<=140737488355328:=by decide
theorem VU {e:En}(h1:e.data=zV)(h2:e.hash=Dig.nA)(h3:e.text.size<=140737488355328)(h4:lV e.kind/\lV e.table/\lV e.doc/\lV e.kA/\lV e.ab/\lV e.ae): p_ (lz E (f+1) w) e (km e jK) :=
 ⟨jK,rfl,h1 ▸ oe E f w,rfl,(oe E f w).one,by rw[h2];rfl,by rw[h2];exact Ee,h3,h4⟩
theorem VZ {s:St}(h0:qx w rb M D (f+1) s N){x:Ac}{xc:kL}(hx:OD E (f+1) w x xc)(hlen:chk 16 x.data=0->(encV 16 x.data).length<=70368744177664):
  Calls prog 69 #[jV rb,.agg xc.toArray] w fun e w'=>jP w w'/\∃ec,e=.returned (.agg ec.toArray)/\p_ (lz E (f+1) w') (m0 s x) ec:=by
 obtain⟨dc,ec,rfl,Dk,yg,mq⟩:=hx;have lM:=Dk.len;have mL:=yg.len;apply kq (args:=[jV rb,.agg (pI x dc ec).toArray]) func69 ntmps69;apply mA _;refine jO fun g3 w1 f1=>?_;have A1:v_ w1 g3 x dc ec:=⟨f1.blk,lM,mL⟩;have b1:=f1.below;have e3:=f1.eq;clear f1;refine jJ (z:=.agg (km kQ jK).toArray) (fun _=>jG) fun g4 w2 f2=>?_;have v4:U BI w2 g4 (km kQ jK):=f2.blk;have b2:=b1.kj f2.below;have e4:=f2.eq;replace A1:=A1.below f2.below;have z1:=b1.size;clear f2;apply G _;apply jy A1.data lM;apply kH func104 (LN (Dk.sN.below b2) hlen);rintro w3 b3
 have vO:(kT (mz x.data)).length=32:=by rw[aB];exact rT _
 replace A1:=A1.below b3;have l4:=U.lt v4;replace v4:=U.below v4 b3 l4;have c3:=b2.kj b3;apply G _;refine jJ (z:=.agg (kT Dig.nA).toArray) (Dig.yf) fun g5 w4 f4=>?_;apply jE (hm:=vO) f4.blk (lY.int _ _);obtain⟨v5,b5,-,-⟩:=nv (kT (mz x.data)) (Below.refl w3.heap.size w3) f4;generalize w4.setRow g5 _=w5 at v5 b5 ⊢;clear f4;replace A1:=A1.below b5;have l4':=U.lt v4;replace v4:=U.below v4 b5 l4';have c5:=c3.kj b5;have ck:=A1.kind;have cx:=A1.table;have l4s:=U.lt v4;have qF:w.heap.size<=g4:=I;have fin:∀ {wx:World}{en:En}{cs:kL},jP w5 wx->p_ (lz E (f+1) w) en cs->m0 s x=en->
   U BI (wx.setRow g4 cs.toArray) g4 cs/\(jP w (wx.setRow g4 cs.toArray)/\∃ec,Ending.returned (.agg cs.toArray)=.returned (.agg ec.toArray)/\p_ (lz E (f+1) (wx.setRow g4 cs.toArray)) (m0 s x) ec):=fun {wx en cs} GU hp he=>by
  have bb:=c5.kj GU;have bf:=(Cr.mo (K:=fun y=>y<w.heap.size) (g:=g4) (Z.jw bb) (fun hh=>by omega) cs.toArray).below;have v4x:=U.below v4 GU l4s;refine⟨v4x.setRow cs,bf,cs,rfl,?_⟩;rw[he];exact p_.mono (fun v c hv=>hv.jA (Z.jw bf) (fun y _ hl=>hl) nN) hp
 obtain⟨YQ,rOc,rv,mb,rk,rr⟩:=id h0;have r5:=rr.below c5;obtain⟨tv,cells,EX⟩:=id r5.cat;have rok:∀r∈s.rows,lV r.kA:=fun r hr=>by
  obtain⟨j,hj,rfl⟩:=bH hr;obtain⟨-,-,-,-,-,-,-,-,-,AT,-⟩:=nw (rq r5.rows) hj;rw[<-lR (d:=kE) hj];exact AT.kA
 have Bb:=rq r5.rows;obtain⟨H7,Gk,rfl,-⟩:=id Bb;have hrk:=rr.ok;have d0:=r5.vb.cell 0 jM;have d1:=r5.vb.cell 1 jM;simp only[aA,al]at d0 d1;have sG:=r5.lt rb (.inl r5.vK);have ahG:=EX.lt YQ EX.rc;have RT:=EX.oP.len;have t0:=EX.vb.cell 0 jM;simp only[al]at t0;obtain⟨spt,cpt,rfl⟩:∃spt cpt,tv=.slice spt s.cat.length cpt:=by
  obtain⟨-,-,x1,x2,x3,-⟩:=EX.own.EM;exact⟨x1,x2,x3⟩
 have r0:∀n:Nat,n<=10->lV (n:Int):=fun n hn=>⟨I,I⟩;apply jF _
 by_cases k0:x.kind=0
 case pos=>
  obtain⟨qQ,CA,AE,Af,sZ,rM,rfl⟩:=BH Dk;have nL:=uZ x.table s.rows;have AT:=rr.ok;have xq:lV (next s x.table):=by
   unfold next
   split
   ·exact⟨I,I⟩
   ·exact r0 0 I
  have he:m0 s x={ kQ with kind:=2,table:=x.table,doc:=next s x.table,data:=x.data,hash:=mz x.data }:=by unfold m0;rw[ag k0]
  have hp:p_ (lz E (f+1) w) { kQ with kind:=2,table:=x.table,doc:=next s x.table,data:=x.data,hash:=mz x.data } (km { kQ with kind:=2,table:=x.table,doc:=next s x.table,data:=x.data,hash:=mz x.data } [Iq x.data.k,Iq x.data.n,Iq x.data.s,.string x.data.t,.slice qQ AE sZ,.slice CA Af rM]):=⟨_,rfl,Dk,rfl,Dk.one,rT _,L7 _,JJ,⟨r0 2 I,mq.table,xq,r0 0 I,r0 0 I,r0 0 I⟩⟩;have l3:=U.lt A1.blk;have l5:=U.lt v5;apply jF _;apply WC.sE rfl k0;apply jF _;refine WC.drawn 10 (jP w5) fun wa kv=>?_;have hS:jP w5 wa:=kv.below _;clear kv;apply jC [0] hS _;apply jz 1 [9,10] (lX l3 cx) hS;apply jC [2,3] hS _;apply jz 4 [5,9,10] (lX l3 cx) hS;apply jC [6] hS _;apply kG 7 [9,10] (fun wx hx=>(A1.below hx).data) rfl hS;apply kG 8 [9,10] (fun wx hx=>U.rangeAt (U.below v5 hx l5)) vO hS;apply jS 5;apply kH func105 (Ik (h0.below (c5.kj hS)) x.table);rintro wb bb
  replace hS:=hS.kj bb;apply lI hS;apply Cr.xy (km { kQ with kind:=2,table:=x.table,doc:=next s x.table,data:=x.data,hash:=mz x.data } [Iq x.data.k,Iq x.data.n,Iq x.data.s,.string x.data.t,.slice qQ AE sZ,.slice CA Af rM]) 9 rfl jG rfl rfl (fun _ _ _ _ _ h=>h) rfl rfl rfl (agt _ _ _ (rT _) _ _ _ _ _ _ _ _ _ _ _) (.inr hS);apply jS 10;obtain⟨vf,hf⟩:=fin hS hp he;apply jE (hm:=hp.len) (U.below v4 hS l4s) hp.one;apply(jZ);apply(jD);apply G _;exact WQ.vJ rfl rfl rfl hp.len vf hf
 case neg=>
 apply WC.q_ rfl k0
 by_cases k12:x.kind=1\/x.kind=2
 case pos=>
  have cy:=A1.doc;have l3:=U.lt A1.blk;have AP:adl s x.table x.doc=verL s.rows (x.table,x.doc):=rfl;have hvR:lV (verL s.rows (x.table,x.doc)):=abg fun r hr=>by have h1:=rr.zF r hr;have h2:=rr.ok;exact⟨(rok r hr).1,I⟩
  by_cases k2:x.kind=2
  case pos=>
   have k1:¬x.kind=1:=I;apply jF _;apply WC.loop (fun i:Nat=>[(0,jV rb),(3,jV g3),(4,jV g4),(5,jV g5),(7,Iq (verL (s.rows.take i) (x.table,x.doc))),(8,Iq i)]) (fun i wx=>i<=s.rows.length/\jP w5 wx) (fun i=>s.rows.length - i) 0 kz ⟨ay _,Below.refl _ _⟩;rintro i wl ⟨hi,bl⟩;have dl:=(bl.cell (p:=Aq rb 1) sG).trans d1
   by_cases j6:i<s.rows.length
   case pos=>
    obtain⟨b,o,oa,tW,es,hb,-,yi,-,AT,-⟩:=nw Bb j6;obtain⟨rfl,rfl⟩:H7=some (Aq b o)/\Gk=oa:=by simpa using es
    clear es;have hv:=NB (k:=(x.table,x.doc)) j6;have Is:=rr.zF _ (show s.rows.getD i kE∈s.rows by rw[lR j6];exact aH j6);have x0:=yi.m5;have x1:=yi.doc;have Vz:=yi.kA;have x2:=(bl.cell (p:=Aq b (o+i*14+2)) hb).trans yi.kA;have SE:=AT.kA;have mh:(s.rows.getD i kE).key=(x.table,x.doc) ↔ (s.rows.getD i kE).m5=x.table/\(s.rows.getD i kE).doc=x.doc:=⟨fun q=>⟨congrArg Prod.fst q,congrArg Prod.snd q⟩,fun q=>eO q.1 q.2⟩;generalize s.rows.getD i kE=r at x0 x1 x2 Vz hv Is SE mh
    by_cases e1:r.m5=x.table
    case neg=>
     rw[aa (fun q=>e1 (mh.1 q).1)]at hv;apply jF _;refine WC.drawn 23 (jP w5) fun wa kv=>?_;have hS:=bl.trans ((kv.below _).mono bl.size);clear kv;apply jC [0,1,2] hS _;apply jz 3 [5,6,7,10,11,12,13,14,15,16,17,18,19,20,21,22,23] (lX sG d1) hS;apply jC [4] hS _;apply kY 5 i (o+i*14) j6 (.inr hS);apply jC [6] hS _;apply jz 7 (mw 10 23) (lX hb x0) hS;apply jC [8] hS _;apply jz 9 (mw 10 23) (lX l3 cx) hS;apply jC [10,11,12,13,14,15,16,17,18,19,20,21,22] hS _;apply jS 23;apply(jN);apply(jZ);apply(jD);apply G _;exact WQ.again (i+1) ⟨rfl,rfl,rfl,rfl,congrArg (fun z=>some (Iq z)) hv.symm,rfl,trivial⟩ ⟨j6,hS⟩ I
    case pos=>
    by_cases e2:r.doc=x.doc
    case neg=>
     rw[aa (fun q=>e2 (mh.1 q).2)]at hv;apply jF _;refine WC.drawn 23 (jP w5) fun wa kv=>?_;have hS:=bl.trans ((kv.below _).mono bl.size);clear kv;apply jC [0,1,2] hS _;apply jz 3 [5,6,7,10,11,12,13,14,15,16,17,18,19,20,21,22,23] (lX sG d1) hS;apply jC [4] hS _;apply kY 5 i (o+i*14) j6 (.inr hS);apply jC [6] hS _;apply jz 7 (mw 10 23) (lX hb x0) hS;apply jC [8] hS _;apply jz 9 (mw 10 23) (lX l3 cx) hS;apply jC [10,11,12,13,14] hS _;apply jz 15 [17,18,19,22,23] (lX sG d1) hS;apply jC [16] hS _;apply kY 17 i (o+i*14) j6 (.inr hS);apply jC [18] hS _;apply jz 19 [22,23] (lX hb x1) hS;apply jC [20] hS _;apply jz 21 [22,23] (lX l3 cy) hS;apply jC [22] hS _;apply jS 23;apply(jN);apply(jZ);apply(jD);apply G _;exact WQ.again (i+1) ⟨rfl,rfl,rfl,rfl,congrArg (fun z=>some (Iq z)) hv.symm,rfl,trivial⟩ ⟨j6,hS⟩ I
    case pos=>
     rw[ag (mh.2 ⟨e1,e2⟩)]at hv;apply jF _;refine WC.drawn 23 (jP w5) fun wa kv=>?_;have hS:=bl.trans ((kv.below _).mono bl.size);clear kv;apply jC [0,1,2] hS _;apply jz 3 [5,6,7,10,11,12,13,14,15,16,17,18,19,20,21,22,23] (lX sG d1) hS;apply jC [4] hS _;apply kY 5 i (o+i*14) j6 (.inr hS);apply jC [6] hS _;apply jz 7 (mw 10 23) (lX hb x0) hS;apply jC [8] hS _;apply jz 9 (mw 10 23) (lX l3 cx) hS;apply jC [10,11,12,13,14] hS _;apply jz 15 [17,18,19,22,23] (lX sG d1) hS;apply jC [16] hS _;apply kY 17 i (o+i*14) j6 (.inr hS);apply jC [18] hS _;apply jz 19 [22,23] (lX hb x1) hS;apply jC [20] hS _;apply jz 21 [22,23] (lX l3 cy) hS;apply jC [22] hS _;apply jS 23;apply(jN);apply(jZ);apply(jD);have dS:=(hS.cell (p:=Aq rb 1) sG).trans d1;have xS:=(hS.cell (p:=Aq b (o+i*14+2)) hb).trans Vz;apply jF _;apply jQ i (o+i*14) j6;apply jF _;exact WQ.again (i+1) ⟨rfl,rfl,rfl,rfl,congrArg (fun z=>some (Iq z)) hv.symm,rfl,trivial⟩ ⟨j6,hS⟩ I
   case neg=>
   obtain rfl:i=s.rows.length:=I;rw[aN];have he:m0 s x={ kQ with kind:=3,table:=x.table,doc:=x.doc,kA:=verL s.rows (x.table,x.doc)}:=by unfold m0;rw[aa k0,aa k1,ag k2,AP]
   have hp:p_ (lz E (f+1) w) { kQ with kind:=3,table:=x.table,doc:=x.doc,kA:=verL s.rows (x.table,x.doc)} (km { kQ with kind:=3,table:=x.table,doc:=x.doc,kA:=verL s.rows (x.table,x.doc)} jK):=VU rfl rfl JJ ⟨r0 3 I,mq.table,mq.doc,hvR,r0 0 I,r0 0 I⟩;obtain⟨vf,hf⟩:=fin bl hp he;have ckl:=(bl.cell (p:=Aq g3 0) l3).trans ck;have cxl:=(bl.cell (p:=Aq g3 1) l3).trans cx;have cyl:=(bl.cell (p:=Aq g3 2) l3).trans cy;apply jF _;apply jR (km { kQ with kind:=3,table:=x.table,doc:=x.doc,kA:=verL s.rows (x.table,x.doc)} jK) (ahQ _ _ _);apply jE (U.below v4 bl l4s) hp.one;apply G _;exact WQ.vJ rfl rfl rfl hp.len vf hf
  case neg=>
  have k1:x.kind=1:=I;apply jF _;apply WC.loop (fun i:Nat=>[(0,jV rb),(3,jV g3),(4,jV g4),(5,jV g5),(7,Iq (verL (s.rows.take i) (x.table,x.doc))),(8,Iq i)]) (fun i wx=>i<=s.rows.length/\jP w5 wx) (fun i=>s.rows.length - i) 0 kz ⟨ay _,Below.refl _ _⟩;rintro i wl ⟨hi,bl⟩;have dl:=(bl.cell (p:=Aq rb 1) sG).trans d1
  by_cases j6:i<s.rows.length
  case pos=>
   obtain⟨b,o,oa,tW,es,hb,-,yi,-,AT,-⟩:=nw Bb j6;obtain⟨rfl,rfl⟩:H7=some (Aq b o)/\Gk=oa:=by simpa using es
   clear es;have hv:=NB (k:=(x.table,x.doc)) j6;have Is:=rr.zF _ (show s.rows.getD i kE∈s.rows by rw[lR j6];exact aH j6);have x0:=yi.m5;have x1:=yi.doc;have Vz:=yi.kA;have x2:=(bl.cell (p:=Aq b (o+i*14+2)) hb).trans yi.kA;have SE:=AT.kA;have mh:(s.rows.getD i kE).key=(x.table,x.doc) ↔ (s.rows.getD i kE).m5=x.table/\(s.rows.getD i kE).doc=x.doc:=⟨fun q=>⟨congrArg Prod.fst q,congrArg Prod.snd q⟩,fun q=>eO q.1 q.2⟩;generalize s.rows.getD i kE=r at x0 x1 x2 Vz hv Is SE mh
   by_cases e1:r.m5=x.table
   case neg=>
    rw[aa (fun q=>e1 (mh.1 q).1)]at hv;apply jF _;refine WC.drawn 23 (jP w5) fun wa kv=>?_;have hS:=bl.trans ((kv.below _).mono bl.size);clear kv;apply jC [0,1,2] hS _;apply jz 3 [5,6,7,10,11,12,13,14,15,16,17,18,19,20,21,22,23] (lX sG d1) hS;apply jC [4] hS _;apply kY 5 i (o+i*14) j6 (.inr hS);apply jC [6] hS _;apply jz 7 (mw 10 23) (lX hb x0) hS;apply jC [8] hS _;apply jz 9 (mw 10 23) (lX l3 cx) hS;apply jC [10,11,12,13,14,15,16,17,18,19,20,21,22] hS _;apply jS 23;apply(jN);apply(jZ);apply(jD);apply G _;exact WQ.again (i+1) ⟨rfl,rfl,rfl,rfl,congrArg (fun z=>some (Iq z)) hv.symm,rfl,trivial⟩ ⟨j6,hS⟩ I
   case pos=>
   by_cases e2:r.doc=x.doc
   case neg=>
    rw[aa (fun q=>e2 (mh.1 q).2)]at hv;apply jF _;refine WC.drawn 23 (jP w5) fun wa kv=>?_;have hS:=bl.trans ((kv.below _).mono bl.size);clear kv;apply jC [0,1,2] hS _;apply jz 3 [5,6,7,10,11,12,13,14,15,16,17,18,19,20,21,22,23] (lX sG d1) hS;apply jC [4] hS _;apply kY 5 i (o+i*14) j6 (.inr hS);apply jC [6] hS _;apply jz 7 (mw 10 23) (lX hb x0) hS;apply jC [8] hS _;apply jz 9 (mw 10 23) (lX l3 cx) hS;apply jC [10,11,12,13,14] hS _;apply jz 15 [17,18,19,22,23] (lX sG d1) hS;apply jC [16] hS _;apply kY 17 i (o+i*14) j6 (.inr hS);apply jC [18] hS _;apply jz 19 [22,23] (lX hb x1) hS;apply jC [20] hS _;apply jz 21 [22,23] (lX l3 cy) hS;apply jC [22] hS _;apply jS 23;apply(jN);apply(jZ);apply(jD);apply G _;exact WQ.again (i+1) ⟨rfl,rfl,rfl,rfl,congrArg (fun z=>some (Iq z)) hv.symm,rfl,trivial⟩ ⟨j6,hS⟩ I
   case pos=>
    rw[ag (mh.2 ⟨e1,e2⟩)]at hv;apply jF _;refine WC.drawn 23 (jP w5) fun wa kv=>?_;have hS:=bl.trans ((kv.below _).mono bl.size);clear kv;apply jC [0,1,2] hS _;apply jz 3 [5,6,7,10,11,12,13,14,15,16,17,18,19,20,21,22,23] (lX sG d1) hS;apply jC [4] hS _;apply kY 5 i (o+i*14) j6 (.inr hS);apply jC [6] hS _;apply jz 7 (mw 10 23) (lX hb x0) hS;apply jC [8] hS _;apply jz 9 (mw 10 23) (lX l3 cx) hS;apply jC [10,11,12,13,14] hS _;apply jz 15 [17,18,19,22,23] (lX sG d1) hS;apply jC [16] hS _;apply kY 17 i (o+i*14) j6 (.inr hS);apply jC [18] hS _;apply jz 19 [22,23] (lX hb x1) hS;apply jC [20] hS _;apply jz 21 [22,23] (lX l3 cy) hS;apply jC [22] hS _;apply jS 23;apply(jN);apply(jZ);apply(jD);have dS:=(hS.cell (p:=Aq rb 1) sG).trans d1;have xS:=(hS.cell (p:=Aq b (o+i*14+2)) hb).trans Vz;apply jF _;apply jQ i (o+i*14) j6;apply jF _;exact WQ.again (i+1) ⟨rfl,rfl,rfl,rfl,congrArg (fun z=>some (Iq z)) hv.symm,rfl,trivial⟩ ⟨j6,hS⟩ I
  case neg=>
  obtain rfl:i=s.rows.length:=I;rw[aN];obtain⟨qQ,CA,AE,Af,sZ,rM,rfl⟩:=BH Dk;have he:m0 s x={ kQ with kind:=2,table:=x.table,doc:=x.doc,kA:=verL s.rows (x.table,x.doc),data:=x.data,hash:=mz x.data }:=by unfold m0;rw[aa k0,ag k1,AP]
  have hp:p_ (lz E (f+1) w) { kQ with kind:=2,table:=x.table,doc:=x.doc,kA:=verL s.rows (x.table,x.doc),data:=x.data,hash:=mz x.data } (km { kQ with kind:=2,table:=x.table,doc:=x.doc,kA:=verL s.rows (x.table,x.doc),data:=x.data,hash:=mz x.data } [Iq x.data.k,Iq x.data.n,Iq x.data.s,.string x.data.t,.slice qQ AE sZ,.slice CA Af rM]):=⟨_,rfl,Dk,rfl,Dk.one,rT _,L7 _,JJ,⟨r0 2 I,mq.table,mq.doc,hvR,r0 0 I,r0 0 I⟩⟩;obtain⟨vf,hf⟩:=fin bl hp he;have ckl:=(bl.cell (p:=Aq g3 0) l3).trans ck;have cxl:=(bl.cell (p:=Aq g3 1) l3).trans cx;have cyl:=(bl.cell (p:=Aq g3 2) l3).trans cy;apply jF _;apply jy (A1.below bl).data rfl;apply jF _;apply jy (U.rangeAt (U.below v5 bl (U.lt v5))) vO;apply jR (km { kQ with kind:=2,table:=x.table,doc:=x.doc,kA:=verL s.rows (x.table,x.doc),data:=x.data,hash:=mz x.data } [Iq x.data.k,Iq x.data.n,Iq x.data.s,.string x.data.t,.slice qQ AE sZ,.slice CA Af rM]) (afW _ _ _ _ (rT _) _ _ _ _ _ _ _ _ _ _ _);apply jE (hm:=hp.len) (U.below v4 bl l4s) hp.one;apply G _;exact WQ.vJ rfl rfl rfl hp.len vf hf
 case neg=>
 obtain⟨k1,k2⟩:¬x.kind=1/\¬x.kind=2:=⟨fun q=>k12 (.inl q),fun q=>k12 (.inr q)⟩
 by_cases k3:x.kind=3
 case pos=>
  obtain⟨R,hR,eR⟩:∃R:Nat,R<=65535/\bits .and .i64 x.pick 65535=(R:Int):=K.bits_mask x.pick 65535 I;have cpk:=A1.pick;have l3:=U.lt A1.blk
  by_cases mE:s.rows=[]
  case pos=>
   have he:m0 s x={ kQ with kind:=4 }:=by unfold m0;rw[aa k0,aa k1,aa k2,ag k3,ag mE]
   have hp:p_ (lz E (f+1) w) { kQ with kind:=4 } (km { kQ with kind:=4 } jK):=VU rfl rfl JJ ⟨r0 4 I,r0 0 I,r0 0 I,r0 0 I,r0 0 I,r0 0 I⟩;have EJ:s.rows.length=0:=by rw[mE];rfl
   obtain⟨vf,hf⟩:=fin (Below.refl _ w5) hp he;apply jF _;apply jR (km { kQ with kind:=4 } jK) abj;apply jE v4 hp.one;apply G _;exact WQ.vJ rfl rfl rfl hp.len vf hf
  case neg=>
   obtain⟨q,hq⟩:∃q,s.rows.length=q+1:=⟨s.rows.length - 1,by have:=jd.2 mE;omega⟩;have hj:R % (q+1)<s.rows.length:=by rw[hq];exact Nat.mod_lt _ I
   have anE:QW s x.pick=s.rows.getD (R % (q+1)) kE:=by unfold QW;rw[eR,hq];rfl
   have he:m0 s x={ kQ with kind:=4,ab:=(s.rows.getD (R % (q+1)) kE).blk,ae:=(s.rows.getD (R % (q+1)) kE).pH }:=by unfold m0;rw[aa k0,aa k1,aa k2,ag k3,aa mE,anE]
   obtain⟨b,o,oa,tW,es,hb,-,yi,SE,AT,-⟩:=nw Bb hj;obtain⟨rfl,rfl⟩:H7=some (Aq b o)/\Gk=oa:=by simpa using es
   clear es;generalize s.rows.getD (R % (q+1)) kE=r at he yi SE AT;have hp:p_ (lz E (f+1) w) { kQ with kind:=4,ab:=r.blk,ae:=r.pH } (km { kQ with kind:=4,ab:=r.blk,ae:=r.pH } jK):=VU rfl rfl JJ ⟨r0 4 I,r0 0 I,r0 0 I,r0 0 I,AT.blk,AT.pH⟩;have auH:=yi.all;apply jF _;refine WC.drawn 16 (jP w5) fun wa kv=>?_;have hS:jP w5 wa:=kv.below _;clear kv;apply jC [0,1,2] hS _;apply jz 3 [13,14,16] (lX sG d1) hS;apply jC [4] hS _;apply jz 5 [6,12,13,14,16] (lX l3 cpk) hS;apply WD.xX 6 (Iq (R:Int)) rfl jG rfl rfl (fun _ _ _ _ _ h=>h) rfl rfl (congrArg (Value.int .i64) eR) (.inr hS);apply jC [7,8,9] hS _;apply jz 10 [11,12,13,14,16] (lX sG d1) hS;apply WD.xX 11 (Iq ((q+1:Nat):Int)) rfl jG rfl rfl (fun _ _ _ _ _ h=>h) rfl rfl (by rw[hq]) (.inr hS);apply WD.xX 12 (Iq ((R % (q+1):Nat):Int)) rfl jG rfl rfl (fun _ _ _ _ _ h=>h) rfl rfl rfl (.inr hS);apply WD.idx 13 (R % (q+1)) (o+R % (q+1)*14) rfl jG rfl rfl (fun _ _ _ _ _ h=>h) rfl rfl rfl rfl rfl rfl hj rfl (.inr hS);apply kG 14 [16] (fun wx hx=>fun u v hv=>(hx.cell (p:=Aq b (o+R % (q+1)*14+u)) hb).trans (auH u v hv)) (ln SE.len) hS;apply jS 15;refine jJ (z:=.agg (lA kE jK).toArray) (fun _=>jG) fun g9 w6 f6=>?_;have hS6:=hS.kj f6.below;apply lI hS6;apply jS 16;apply jE (hm:=(ln SE.len)) f6.blk (nu SE.one);obtain⟨v9,b9,-,-⟩:=nv (lA r tW) hS f6;generalize w6.setRow g9 _=w7 at v9 b9 ⊢;clear f6;apply(jZ);apply(jD);have R9:=rD.of (U.rangeAt v9) SE.len;have cb9:w7.cell? (Aq g9 11)=some (Iq r.blk):=R9.blk;have ce9:w7.cell? (Aq g9 12)=some (Iq r.pH):=R9.pH;obtain⟨vf,hf⟩:=fin b9 hp he;apply jF _;apply jR [Iq r.blk,Iq r.pH] (Ly _ _);apply jR (km { kQ with kind:=4,ab:=r.blk,ae:=r.pH } jK) (agv _ _);apply jE (U.below v4 b9 l4s) hp.one;apply G _;exact WQ.vJ rfl rfl rfl hp.len vf hf
 case neg=>
 by_cases k4:x.kind=4
 case pos=>
  have he:m0 s x={ kQ with kind:=5,table:=(s.cat.length:Int)+1,text:=x.field }:=by unfold m0;rw[aa k0,aa k1,aa k2,aa k3,ag k4]
  have hp:p_ (lz E (f+1) w) { kQ with kind:=5,table:=(s.cat.length:Int)+1,text:=x.field } (km { kQ with kind:=5,table:=(s.cat.length:Int)+1,text:=x.field } jK):=VU rfl rfl mq.field ⟨r0 5 I,⟨by show _<=(s.cat.length:Int)+1;omega,by show(s.cat.length:Int)+1<=_;omega⟩,r0 0 I,r0 0 I,r0 0 I,r0 0 I⟩;have cf:=A1.field;have l3:=U.lt A1.blk;apply jF _;refine WC.drawn 12 (jP w5) fun wa kv=>?_;have hS:jP w5 wa:=kv.below _;clear kv;apply jC [0,1,2] hS _;apply jz 3 [4,5,6,7,8,11,12] (lX sG d0) hS;apply jC [4,5] hS _;apply jz 6 [7,8,11,12] (lX ahG t0) hS;apply jC [7,8,9] hS _;apply jz 10 [11,12] (lX l3 cf) hS;apply Cr.xy (km { kQ with kind:=5,table:=(s.cat.length:Int)+1,text:=x.field } jK) 11 rfl jG rfl rfl (fun _ _ _ _ _ h=>h) rfl rfl rfl (aeY _ _) (.inr hS);apply jS 12;obtain⟨vf,hf⟩:=fin hS hp he;apply jE (U.below v4 hS l4s) hp.one;apply(jZ);apply(jD);apply G _;exact WQ.vJ rfl rfl rfl hp.len vf hf
 case neg=>
 by_cases k5:x.kind=5
 case pos=>
  have he:m0 s x={ kQ with kind:=6,table:=x.table }:=by unfold m0;rw[aa k0,aa k1,aa k2,aa k3,aa k4,ag k5]
  have hp:p_ (lz E (f+1) w) { kQ with kind:=6,table:=x.table } (km { kQ with kind:=6,table:=x.table } jK):=VU rfl rfl JJ ⟨r0 6 I,mq.table,r0 0 I,r0 0 I,r0 0 I,r0 0 I⟩;obtain⟨vf,hf⟩:=fin (Below.refl _ w5) hp he;apply jF _;apply jR (km { kQ with kind:=6,table:=x.table } jK) (aeu _);apply jE v4 hp.one;apply G _;exact WQ.vJ rfl rfl rfl hp.len vf hf
 case neg=>
 by_cases k6:x.kind=6
 case pos=>
  have cf:=A1.field;have he:m0 s x={ kQ with kind:=7,table:=x.table,text:=x.field }:=by unfold m0;rw[aa k0,aa k1,aa k2,aa k3,aa k4,aa k5,ag k6]
  have hp:p_ (lz E (f+1) w) { kQ with kind:=7,table:=x.table,text:=x.field } (km { kQ with kind:=7,table:=x.table,text:=x.field } jK):=VU rfl rfl mq.field ⟨r0 7 I,mq.table,r0 0 I,r0 0 I,r0 0 I,r0 0 I⟩;obtain⟨vf,hf⟩:=fin (Below.refl _ w5) hp he;apply jF _;apply jR (km { kQ with kind:=7,table:=x.table,text:=x.field } jK) (aha _ _);apply jE v4 hp.one;apply G _;exact WQ.vJ rfl rfl rfl hp.len vf hf
 case neg=>
  have he:m0 s x=x.e:=by unfold m0;rw[aa k0,aa k1,aa k2,aa k3,aa k4,aa k5,aa k6]
  obtain⟨vf,hf⟩:=fin (Below.refl _ w5) yg he;apply jF _;apply jy A1.e mL;apply jE (hm:=mL) v4 yg.one;apply G _;exact WQ.vJ rfl rfl rfl mL vf hf
end Vw
open Go.ChangeShapes Go.WideShapes Go.ChangeAt
namespace K
section
variable {H:Type}{P:Program}
def qh (P:Program)(t:TypeId)(d:DataW H):Prop:=∀n∈d.weights P t,n<=reachBytes
theorem CJ {e:TypeId}:∀ {ds:List (DataW H)}{d:DataW H}{n:Nat},d∈ds->n∈d.weights P e->n∈DataW.weightsAll P e ds
 | d0::ds,d,n,hd,hn=>by
  rw[DataW.weightsAll,au];rcases ax.1 hd with rfl|hd
  ·exact .inl hn
  ·exact .inr (CJ hd hn)
theorem qh.slice {t e:TypeId}{elems spare:List (DataW H)}(hu:P.underlying t=some (.slice e))(h:qh P t (.slice elems spare)): (elems.length+spare.length)*P.bytesOf e<=reachBytes/\∀d∈elems,qh P e d:=by
 unfold qh at h;rw[DataW.weights,hu]at h;simp only[ax,au]at h;exact⟨h _ (.inl rfl),fun d hd n hn=>h n (.inr (.inl (CJ hd hn)))⟩
theorem qh.agg {t:TypeId}{fs:Array Field}{parts:List (DataW H)}(hu:P.underlying t=some (.struct fs))(h:qh P t (.agg parts)){f:Field}{d:DataW H}(hf:fs[i]? = some f)(hd:parts[i]? = some d): qh P f.type d:=by
 unfold qh at h;rw[DataW.weights,hu]at h;exact fun n hn=>h n (DataW.weights_mem_each (j:=i) (by simp[hf]) hd n hn)
theorem qh.string {t:TypeId}{l:List UInt8}(h:qh P t (.lit (.string l):DataW H)): l.length<=reachBytes:=h _ (by simp[DataW.weights])
end
section
variable {H:Type}{enc:TypeId×Value->H}{W:World}{base:Nat}{held:Bool}
theorem rG {n:Nat}(h:n<=reachBytes): n<=140737488355328:=aU h lZ
theorem Jg {t e:TypeId}{v:Value}{x:DataW H×List MemPlace}(m:Nat)(hm0:0<m)(hu:prog.underlying t=some (.slice e))(CF:prog.cellsOf e=m)(h:DataW.trod enc prog W base (fun _=>true) held fuel t [v]=some x):
  ∃sp len cap,v=.slice sp len cap/\len<=cap/\cap<=9223372036854775807/\∃n elems rest,n<fuel/\(x.1=.slice (elems.map (·.1)) rest\/(x.1=.nil/\elems=[]))/\elems.length=len/\
   ∀i,i<len->∃(b o:Nat) (cs:List Value) (y:DataW H×List MemPlace),sp=some ⟨b,o,none⟩/\b<W.heap.size/\cs.length=m/\W.rangeAt b (o+i*m) cs/\elems[i]? = some y/\DataW.trod enc prog W base (fun _=>true) held n e cs=some y:=by
 rcases DataW.trod_slice hu h with⟨hcs,rfl⟩|⟨a,len,cap,elems,rest,n,rfl,hcs,rfl,hb,hl,xV,hlen,mL,-,-⟩
 ·obtain rfl:v=.slice none 0 0:=by simpa using hcs
  cases fuel with
  | zero=>simp[DataW.trod]at h
  | succ f=>exact⟨none,0,0,rfl,aj _,I,f,[],[],I,.inr ⟨rfl,rfl⟩,rfl,fun i hi=>absurd hi I⟩
 ·obtain rfl:v=.slice (some a) len cap:=by simpa using hcs
  refine⟨some a,len,cap,rfl,hl,by unfold maxLen at xV;exact xV,n,elems,rest.map (·.1),I,.inl rfl,hlen,fun i hi=>?_⟩;have h1:=mL i hi;rw[CF]at h1;obtain⟨y,hy⟩:∃y,elems[i]? = some y:=⟨elems[i],ai I⟩;rw[hy]at h1;obtain⟨cs,vN,rE⟩:=fG.1 h1;obtain⟨-,nL,ly⟩:=World.cells?_some vN;have h00:=mL 0 I;rw[CF]at h00;obtain⟨y0,hy0⟩:∃y,elems[0]? = some y:=⟨elems[0],ai I⟩;rw[hy0]at h00;obtain⟨cs0,ard,-⟩:=fG.1 h00;obtain⟨-,azK,aug⟩:=World.cells?_some ard;have OG:=aug 0 hm0;have e0:(a.add (0*m)).add 0=a:=by rw[jt];rfl
  rw[e0,ai I]at OG;have sD:=YN OG;obtain⟨b,o,s⟩:=a;simp only at sD;subst sD;refine⟨b,o,cs,y,rfl,block_lt_of_cell OG,nL,fun j u hj=>?_,hy,rE⟩;have zA:j<m:=by
   rcases aW j m with h|h
   ·exact h
   ·rw[aM I]at hj;cases hj
  have:=ly j zA;rw[Bc,Bc]at this;rw[this];exact hj
theorem On.mono {P P':V->List Value->Prop}{v:Value}{l:List V}(h:On P w v l)(hP:∀x cs,P x cs->P' x cs): On P' w v l:=by
 obtain⟨sp,cap,h1,h2,h3,h4⟩:=h;refine⟨sp,cap,h1,h2,h3,fun h0=>?_⟩;obtain⟨b,o,e,j6,hr⟩:=h4 h0;refine⟨b,o,e,j6,fun j hj=>?_⟩;obtain⟨cs,hc,hp,ly⟩:=hr j hj;exact⟨cs,hc,hP _ _ hp,ly⟩
theorem mj.mono: ∀ {f f':Nat}{v:V}{cs:List Value},f<=f'->mj f w v cs->mj f' w v cs
 | 0,_,_,_,_,h=>h.elim
 | f+1,f',v,cs,hf,h=>by
  obtain⟨g,rfl⟩:∃g,f'=g+1:=⟨f' - 1,I⟩;obtain⟨sn,sk,h1,h2,h3,h4,h5,h6,h7⟩:=h;exact⟨sn,sk,h1,h2,h3,h4,h5,h6,On.mono h7 fun _ _ hp=>mj.mono I hp⟩
theorem qS.mono: ∀ {f f':Nat}{v:V},f<=f'->qS f v->qS f' v
 | 0,_,_,_,h=>h.elim
 | f+1,f',v,hf,h=>by
  obtain⟨g,rfl⟩:∃g,f'=g+1:=⟨f' - 1,I⟩;exact⟨h.1,h.2.1,fun x hx=>qS.mono I (h.2.2 x hx)⟩
theorem BY: prog.cellsOf 25=6:=jG
theorem qU: prog.cellsOf 3=1:=jG
theorem Eg: prog.cellsOf 9=1:=jG
theorem Zy: prog.bytesOf 9=16:=jG
theorem ZF: prog.bytesOf 25=88:=jG
theorem JV {v:Value}{x:DataW H×List MemPlace}(h:DataW.trod enc prog W base (fun _=>true) held fuel 22 [v]=some x)(hz:qh prog 22 x.1):
  ∃l,AI W v l/\l.length<=140737488355328:=by
 obtain⟨sp,len,cap,rfl,hl,hc,n,elems,rest,-,hx,hlen,mL⟩:=Jg 1 I eG Eg h;have key:∀i,i<len->∃(s:ByteArray),s.size<=140737488355328/\∃b o,sp=some ⟨b,o,none⟩/\b<W.heap.size/\W.cell? ⟨b,o+i,none⟩=some (.string s):=by
  intro i hi;obtain⟨b,o,cs,y,sD,hb,nL,ly,hy,ht⟩:=mL i hi;obtain⟨s,rfl,rfl,-⟩:=DataW.trod_string cF ht;have hw:qh prog 9 (.lit (.string s.data.toList):DataW H):=by
   rcases hx with hx|⟨-,rfl⟩
   ·rw[hx]at hz
    exact(hz.slice eG).2 _ (bD.2 ⟨_,dW hy,rfl⟩)
   ·cases hy
  have:=hw.string;rw[bU]at this;refine⟨s,rG this,b,o,sD,hb,?_⟩;have:=ly 0 _ rfl;rw[cJ]at this;exact this
 have:Inhabited ByteArray:=⟨kZ⟩;obtain⟨g,hg⟩:=fQ key;have tH:∀k,k<len->((List.range len).map g).getD k kZ=g k:=fun k hk=>by simp[hk]
 have yt:((List.range len).map g).length=len:=jM;refine⟨(List.range len).map g,⟨sp,cap,by rw[yt],by rw[yt];exact hl,hc,fun j hj=>?_,fun h0=>?_⟩,?_⟩
 ·rw[yt]at hj;rw[tH j hj];exact(hg j hj).1
 ·rw[yt]at h0
  obtain⟨-,b,o,sD,hb,-⟩:=hg 0 h0;refine⟨b,o,sD,hb,fun j hj=>?_⟩;rw[yt]at hj;obtain⟨-,b2,o2,JX,-,FC⟩:=hg j hj;rw[sD]at JX;cases JX
  rw[tH j hj];exact FC
 ·rw[yt]
  rcases hx with hx|⟨-,rfl⟩
  ·rw[hx]at hz
   have:=(hz.slice eG).1;rw[Zy,aB,hlen]at this;exact rG I
  ·simp at hlen;omega
theorem J2: ∀(fuel:Nat),(∀n,n<fuel->∀ {cs:List Value}{x:DataW H×List MemPlace},DataW.trod enc prog W base (fun _=>true) held n 25 cs=some x->qh prog 25 x.1->∃v,mj n W v cs/\qS n v)->
  ∀ {v:Value}{x:DataW H×List MemPlace},DataW.trod enc prog W base (fun _=>true) held fuel 23 [v]=some x->qh prog 23 x.1->∃l n,n<fuel/\LW n W v l/\(∀y∈l,qS n y)/\l.length<=140737488355328:=by
 intro fuel ih v x h hz;obtain⟨sp,len,cap,rfl,hl,hc,n,elems,rest,hn,hx,hlen,mL⟩:=Jg 6 I fj BY h;have key:∀i,i<len->∃(y:V),qS n y/\∃b o cs,sp=some ⟨b,o,none⟩/\b<W.heap.size/\cs.length=6/\mj n W y cs/\W.rangeAt b (o+i*6) cs:=by
  intro i hi;obtain⟨b,o,cs,y,sD,hb,nL,ly,hy,ht⟩:=mL i hi;have hw:qh prog 25 y.1:=by
   rcases hx with hx|⟨-,rfl⟩
   ·rw[hx]at hz
    exact(hz.slice fj).2 _ (bD.2 ⟨_,dW hy,rfl⟩)
   ·cases hy
  obtain⟨v,hv,hs⟩:=ih n hn ht hw;exact⟨v,hs,b,o,cs,sD,hb,nL,hv,ly⟩
 have:Inhabited V:=⟨mM⟩;obtain⟨g,hg⟩:=fQ key;have tH:∀k,k<len->((List.range len).map g).getD k mM=g k:=fun k hk=>by simp[hk]
 have yt:((List.range len).map g).length=len:=jM;refine⟨(List.range len).map g,n,hn,⟨sp,cap,by rw[yt],by rw[yt];exact hl,hc,fun h0=>?_⟩,fun y hy=>?_,?_⟩
 ·rw[yt]at h0
  obtain⟨-,b,o,-,sD,hb,-⟩:=hg 0 h0;refine⟨b,o,sD,hb,fun j hj=>?_⟩;rw[yt]at hj;obtain⟨-,b2,o2,cs,JX,-,nL,hv,ly⟩:=hg j hj;rw[sD]at JX;cases JX
  rw[tH j hj];exact⟨cs,nL,hv,ly⟩
 ·obtain⟨i,hi,rfl⟩:=bD.1 hy
  exact(hg i (bX.1 hi)).1
 ·rw[yt]
  rcases hx with hx|⟨-,rfl⟩
  ·rw[hx]at hz
   have:=(hz.slice fj).1;rw[ZF,aB,hlen]at this;exact rG I
  ·simp at hlen;omega
theorem qJ {l:List Value}{v:Value}(h:(l.drop o).take 1=[v]): l[o]? = some v:=by
 have:((l.drop o).take 1)[0]? = some v:=by rw[h];rfl
 simpa[List.getElem?_take] using this
theorem Qe: ∀(fuel:Nat) {cs:List Value}{x:DataW H×List MemPlace},DataW.trod enc prog W base (fun _=>true) held fuel 25 cs=some x->qh prog 25 x.1->∃v,mj fuel W v cs/\qS fuel v:=by
 intro fuel
 induction fuel using Nat.strongRecOn with
 | _ fuel ih=>
  intro cs x h hz;obtain⟨xs,n,rfl,rfl,hl,vR,hx⟩:=DataW.trod_struct gF h;have Zx:xs.length=6:=vR;rw[BY]at hl;have e:∀i,i<6->∃y,xs[i]? = some y:=fun i hi=>⟨xs[i],ai I⟩;obtain⟨x0,e0⟩:=e 0 I;obtain⟨x1,e1⟩:=e 1 I;obtain⟨x2,e2⟩:=e 2 I;obtain⟨x3,e3⟩:=e 3 I;obtain⟨x4,e4⟩:=e 4 I;obtain⟨x5,e5⟩:=e 5 I;have h0:=hx 0 _ rfl;have h1:=hx 1 _ rfl;have h2:=hx 2 _ rfl;have h3:=hx 3 _ rfl;have h4:=hx 4 _ rfl;have h5:=hx 5 _ rfl;rw[e0]at h0;rw[e1]at h1;rw[e2]at h2;rw[e3]at h3;rw[e4]at h4;rw[e5]at h5;have z:∀ {i:Nat}{f:Field}{y:DataW H×List MemPlace},_->xs[i]? = some y->qh prog f.type y.1:=fun {i f y} hf hy=>qh.agg gF hz (i:=i) (f:=f) hf (by rw[cX,hy];rfl);have z3:qh prog 9 x3.1:=z (i:=3) rfl e3;have z4:qh prog 22 x4.1:=z (i:=4) rfl e4;have z5:qh prog 23 x5.1:=z (i:=5) rfl e5;obtain⟨a,ha,-,wa⟩:=DataW.trod_int bJ h0;obtain⟨b,hb,-,wb⟩:=DataW.trod_int bJ h1;obtain⟨c,hc,-,wc⟩:=DataW.trod_int bJ h2;obtain⟨s,hs,Bj,-⟩:=DataW.trod_string cF h3;have t0:cs[0]? = some (.int .i64 a):=qJ (by rw[<-qU];exact ha);have t1:cs[1]? = some (.int .i64 b):=qJ (by rw[<-qU];exact hb);have t2:cs[2]? = some (.int .i64 c):=qJ (by rw[<-qU];exact hc);have t3:cs[3]? = some (.string s):=qJ (by rw[<-Eg];exact hs)
  match cs,hl with
  | [c0,c1,c2,c3,c4,c5],_=>
   simp at t0 t1 t2 t3
   subst t0;subst t1;subst t2;subst t3;have h4':DataW.trod enc prog W base (fun _=>true) held n 22 [c4]=some x4:=h4;have Sh:DataW.trod enc prog W base (fun _=>true) held n 23 [c5]=some x5:=h5;obtain⟨names,oQ,WE⟩:=JV h4' z4;obtain⟨kids,k,hk,zu,vQ,qf⟩:=J2 n (fun q hq {cs x} h1 h2=>ih q I h1 h2) Sh z5;rw[Bj]at z3;have lJ:=z3.string;rw[bU]at lJ;refine⟨.mk a b c s names kids,⟨c4,c5,rfl,wa,wb,wc,rG lJ,oQ,On.mono zu fun _ _ hp=>mj.mono I hp⟩,WE,qf,fun y hy=>qS.mono I (vQ y hy)⟩
theorem Nr {v:Value}{d:DataW H}(wY:Value.okWide prog W r b0 23 v)(h:DataW.Trod enc prog W base (fun _=>true) held 23 v d p):
  (∀n∈d.weights prog 23,n<=reachBytes)->∃f l,LW f W v l/\(∀x∈l,qS f x)/\l.length<=140737488355328:=by
 intro hz;obtain⟨a,len,cap,rfl⟩:=okWide_slice fj wY;obtain⟨fuel,hf⟩:=h;obtain⟨l,n,-,h1,h2,h3⟩:=J2 fuel (fun n _ {cs x} h1 h2=>Qe n h1 h2) (v:=.slice a len cap) hf hz;exact⟨n,l,h1,h2,h3⟩
end
section
variable {H:Type}{enc:TypeId×Value->H}{W:World}{base:Nat}{held:Bool}
theorem YW {x:DataW H×List MemPlace}(h:DataW.trod enc prog W base (fun _=>true) held fuel 31 cs=some x)(hl:cs.length=32):
  ∃l:oK,cs=kT l/\l.length=32/\Byt l:=by
 obtain⟨xs,m,-,-,-,vR,hx⟩:=DataW.trod_array dX h;have he:prog.cellsOf 5=1:=jG;have mL:∀i,i<32->∃q:Int,cs[i]? = some (.int .u8 q)/\0<=q/\q<=255:=by
  intro i hi;have h1:=hx i hi;rw[he,cJ,ai I]at h1;obtain⟨q,e1,-,e2⟩:=DataW.trod_int underlying5 h1;refine⟨q,qJ e1,?_⟩;simp[Lit.wf,IntKind.min,IntKind.max,IntKind.bits,IntKind.signed]at e2
  omega
 have:Inhabited Int:=⟨0⟩;obtain⟨g,hg⟩:=fQ mL;refine⟨(List.range 32).map g,?_,jM,fun c hc=>?_⟩
 ·refine fR fun i=>?_
  by_cases hi:i<32
  ·rw[(hg i hi).1];simp[hi]
  ·rw[aM I,aM (by simp;omega)]
 ·obtain⟨i,hi,rfl⟩:=bD.1 hc
  exact(hg i (bX.1 hi)).2
theorem aqh (cs:List α): cs=cs.take 5++((cs.drop 5).take 6++((cs.drop 11).take 32++cs.drop 43)):=by
 have h1:cs.drop 43=(cs.drop 11).drop 32:=by rw[fg]
 have h2:cs.drop 11=(cs.drop 5).drop 6:=by rw[fg]
 rw[h1,aO,h2,aO,aO]
theorem qK {x:Int}(h:(Lit.int .i64 x).wf=true): lV x:=by
 simp[Lit.wf,IntKind.min,IntKind.max,IntKind.bits,IntKind.signed]at h;omega
theorem af8 {x:DataW H×List MemPlace}(h:DataW.trod enc prog W base (fun _=>true) held fuel 76 cs=some x)(hz:qh prog 76 x.1):
  ∃e,xM fuel W e cs/\qS fuel e.data:=by
 obtain⟨xs,n,rfl,rfl,hl,vR,hx⟩:=DataW.trod_struct gH h;have Zx:xs.length=9:=vR;have nL:cs.length=46:=hl.trans jG;have e:∀i,i<9->∃y,xs[i]? = some y:=fun i hi=>⟨xs[i],ai I⟩;obtain⟨x0,e0⟩:=e 0 I;obtain⟨x1,e1⟩:=e 1 I;obtain⟨x2,e2⟩:=e 2 I;obtain⟨x3,e3⟩:=e 3 I;obtain⟨x4,e4⟩:=e 4 I;obtain⟨x5,e5⟩:=e 5 I;obtain⟨x6,e6⟩:=e 6 I;obtain⟨x7,e7⟩:=e 7 I;obtain⟨x8,e8⟩:=e 8 I;have h0:=hx 0 _ rfl;have h1:=hx 1 _ rfl;have h2:=hx 2 _ rfl;have h3:=hx 3 _ rfl;have h4:=hx 4 _ rfl;have h5:=hx 5 _ rfl;have h6:=hx 6 _ rfl;have h7:=hx 7 _ rfl;have h8:=hx 8 _ rfl;rw[e0]at h0;rw[e1]at h1;rw[e2]at h2;rw[e3]at h3;rw[e4]at h4;rw[e5]at h5;rw[e6]at h6;rw[e7]at h7;rw[e8]at h8;have z:∀ {i:Nat}{f:Field}{y:DataW H×List MemPlace},_->xs[i]? = some y->qh prog f.type y.1:=fun {i f y} hf hy=>qh.agg gH hz (i:=i) (f:=f) hf (by rw[cX,hy];rfl);have z1:qh prog 9 x1.1:=z (i:=1) rfl e1;have z5:qh prog 25 x5.1:=z (i:=5) rfl e5;obtain⟨a,ha,-,wa⟩:=DataW.trod_int bJ h0;obtain⟨s,hs,Bj,-⟩:=DataW.trod_string cF h1;obtain⟨b,hb,-,wb⟩:=DataW.trod_int bJ h2;obtain⟨c,hc,-,wc⟩:=DataW.trod_int bJ h3;obtain⟨d,hd,-,wd⟩:=DataW.trod_int bJ h4;have Sh:DataW.trod enc prog W base (fun _=>true) held n 25 ((cs.drop 5).take (prog.cellsOf 25))=some x5:=h5;rw[BY]at Sh;obtain⟨v,hv,Oz⟩:=Qe n Sh z5;have h6':DataW.trod enc prog W base (fun _=>true) held n 31 ((cs.drop 11).take (prog.cellsOf 31))=some x6:=h6;rw[show prog.cellsOf 31=32 by kernel_rfl]at h6';obtain⟨hh,Ae,vO,hhb⟩:=YW h6' (by simp[nL]);obtain⟨g,hg,-⟩:=DataW.trod_bool underlying4 h7;have h8':DataW.trod enc prog W base (fun _=>true) held n 74 ((cs.drop 44).take (prog.cellsOf 74))=some x8:=h8;rw[show prog.cellsOf 74=2 by kernel_rfl]at h8';obtain⟨ys,n8,-,-,EN,QR,hy⟩:=DataW.trod_struct underlying74 h8';have az7:ys.length=2:=QR;obtain⟨y0,f0⟩:∃y,ys[0]? = some y:=⟨ys[0],ai I⟩;obtain⟨y1,f1⟩:∃y,ys[1]? = some y:=⟨ys[1],ai I⟩;have k0:=hy 0 _ rfl;have k1:=hy 1 _ rfl;rw[f0]at k0;rw[f1]at k1;obtain⟨ab,uP,-,wab⟩:=DataW.trod_int bJ k0;obtain⟨ae,HD,-,wae⟩:=DataW.trod_int bJ k1;have t0:cs[0]? = some (Iq a):=qJ (by rw[<-qU];exact ha);have t1:cs[1]? = some (.string s):=qJ (by rw[<-Eg];exact hs);have t2:cs[2]? = some (Iq b):=qJ (by rw[<-qU];exact hb);have t3:cs[3]? = some (Iq c):=qJ (by rw[<-qU];exact hc);have t4:cs[4]? = some (Iq d):=qJ (by rw[<-qU];exact hd);have t43:cs[43]? = some (.bool g):=qJ (by rw[<-show prog.cellsOf 4=1 by kernel_rfl];exact hg);have t44:((cs.drop 44).take 2)[0]? = some (Iq ab):=qJ (by rw[<-qU];exact uP);have t45:((cs.drop 44).take 2)[1]? = some (Iq ae):=qJ (by rw[<-qU];exact HD);have auC:cs[44]? = some (Iq ab):=by simpa using t44
 have asp:cs[45]? = some (Iq ae):=by simpa using t45
 have lJ:s.size<=140737488355328:=by
  rw[Bj]at z1;have:=z1.string;rw[bU]at this;exact rG this
 have XA:cs.take 5=[Iq a,.string s,Iq b,Iq c,Iq d]:=by
  refine fR fun i=>?_
  match i with
  | 0=>simpa using t0
  | 1=>simpa using t1
  | 2=>simpa using t2
  | 3=>simpa using t3
  | 4=>simpa using t4
  | i+5=>rw[aM (by simp;omega),aM jM]
 have apF:cs.drop 43=[.bool g,Iq ab,Iq ae]:=by
  refine fR fun i=>?_
  match i with
  | 0=>simpa using t43
  | 1=>simpa using auC
  | 2=>simpa using asp
  | i+3=>rw[aM (by simp;omega),aM jM]
 refine⟨⟨a,s,b,c,d,v,hh,g,ab,ae⟩,⟨(cs.drop 5).take 6,?_,mj.mono I hv,by simp[nL],mj.one hv,vO,hhb,lJ,qK wa,qK wb,qK wc,qK wd,qK wab,qK wae⟩,qS.mono I Oz⟩;have:=aqh cs;rw[XA,apF,Ae]at this;exact this.trans rfl
theorem aiG: prog.cellsOf 76=46:=jG
end
end K
namespace Vw
open K
theorem m6.P {z:α}{P P':α->kL->Prop}{v:Value}(h:m6 m z P O w v l)(hP:∀x cs,P x cs->P' x cs): m6 m z P' O w v l:=m6.mono h nN hP
theorem lz.more: ∀ {f f':Nat}{v:V}{cs:kL},f<=f'->lz O f w v cs->lz O f' w v cs
 | 0,_,_,_,_,h=>h.elim
 | f+1,f',v,cs,hf,h=>by
  obtain⟨g,rfl⟩:∃g,f'=g+1:=⟨f' - 1,I⟩;obtain⟨sn,sk,h1,h2,h3,h4,h5,h6,h7⟩:=h;exact⟨sn,sk,h1,h2,h3,h4,h5,h6,m6.P h7 fun _ _ hp=>lz.more I hp⟩
section
variable {H:Type}{enc:TypeId×Value->H}{W:World}{base:Nat}{held:Bool}
theorem EF {t e:TypeId}{v:Value}{x:DataW H×List MemPlace}(m:Nat)(hm0:0<m)(hu:prog.underlying t=some (.slice e))(CF:prog.cellsOf e=m)(h:DataW.trod enc prog W base (fun _=>true) held fuel t [v]=some x)(hz:qh prog t x.1)(z:α)(P:Nat->α->kL->Prop)(key:∀n,n<fuel->∀ {cs:kL}{y:DataW H×List MemPlace},cs.length=m->DataW.trod enc prog W base (fun _=>true) held n e cs=some y->qh prog e y.1->∃a,P n a cs):
  ∃l n,n<fuel/\m6 m z (P n) (fun b=>b<W.heap.size) W v l/\l.length*prog.bytesOf e<=reachBytes:=by
 obtain⟨sp,len,cap,rfl,hl,hc,n,elems,rest,hn,hx,hlen,mL⟩:=Jg m hm0 hu CF h;have ZH:∀i,i<len->∃(y:α),∃b o cs,sp=some (Aq b o)/\b<W.heap.size/\cs.length=m/\P n y cs/\W.rangeAt b (o+i*m) cs:=by
  intro i hi;obtain⟨b,o,cs,y,sD,hb,nL,ly,hy,ht⟩:=mL i hi;have hw:qh prog e y.1:=by
   rcases hx with hx|⟨-,rfl⟩
   ·rw[hx]at hz
    exact(hz.slice hu).2 _ (bD.2 ⟨_,dW hy,rfl⟩)
   ·cases hy
  obtain⟨a,ha⟩:=key n hn nL ht hw;exact⟨a,b,o,cs,sD,hb,nL,ha,ly⟩
 have:Inhabited α:=⟨z⟩;obtain⟨g,hg⟩:=fQ ZH;have tH:∀k,k<len->((List.range len).map g).getD k z=g k:=fun k hk=>by simp[hk]
 have yt:((List.range len).map g).length=len:=jM;refine⟨(List.range len).map g,n,hn,⟨sp,cap,by rw[yt],by rw[yt];exact hl,hc,fun h0=>?_,fun h0=>?_⟩,?_⟩
 ·subst h0
  rcases DataW.trod_slice hu h with⟨hcs,-⟩|⟨a,aAl,oa,avI,ayu,n',-,hcs,-⟩
  ·injection hcs with hcs
   injection hcs
  ·injection hcs with hcs
   injection hcs with h1
   cases h1
 ·rw[yt]at h0
  obtain⟨b,o,-,sD,hb,-⟩:=hg 0 h0;refine⟨b,o,sD,hb,hb,fun j hj=>?_⟩;rw[yt]at hj;obtain⟨b2,o2,cs,JX,-,nL,hv,ly⟩:=hg j hj;rw[sD]at JX;cases JX
  rw[tH j hj];exact⟨cs,nL,hv,ly⟩
 ·rw[yt]
  rcases hx with hx|⟨-,rfl⟩
  ·rw[hx]at hz
   have:=(hz.slice hu).1;rw[aB,hlen]at this;exact aU (cK _ (Nat.le_add_right _ _)) this
  ·simp at hlen;subst hlen;simp
theorem agJ {z:α}{P:α->kL->Prop}{v:Value}(h:m6 m z P O w v l): ∀x∈l,∃cs,P x cs:=by
 intro x hx;obtain⟨sp,cap,-,-,-,-,h4⟩:=h;obtain⟨j,hj,rfl⟩:=bH hx;obtain⟨b,o,-,-,-,hr⟩:=h4 I;obtain⟨cs,-,hp,-⟩:=hr j hj;exact⟨cs,by simpa[hj] using hp⟩
theorem Td {v:Value}{x:DataW H×List MemPlace}(h:DataW.trod enc prog W base (fun _=>true) held fuel 22 [v]=some x)(hz:qh prog 22 x.1):
  ∃l,m6 1 kZ Gw (fun b=>b<W.heap.size) W v l/\l.length<=140737488355328:=by
 obtain⟨l,n,-,h1,h2⟩:=EF 1 I eG Eg h hz kZ (fun _ s cs=>Gw s cs) fun n _ cs y nL ht hw=>by
  obtain⟨s,rfl,hs,-⟩:=DataW.trod_string cF ht;rw[hs]at hw;have:=qh.string hw;rw[bU]at this;exact⟨s,rfl,rG this⟩
 rw[Zy]at h2;exact⟨l,h1,rG I⟩
theorem NK: ∀(fuel:Nat) {cs:kL}{x:DataW H×List MemPlace},DataW.trod enc prog W base (fun _=>true) held fuel 25 cs=some x->qh prog 25 x.1->∃v,lz (fun b=>b<W.heap.size) fuel W v cs/\qS fuel v:=by
 intro fuel
 induction fuel using Nat.strongRecOn with
 | _ fuel ih=>
  intro cs x h hz;obtain⟨xs,n,rfl,rfl,hl,vR,hx⟩:=DataW.trod_struct gF h;have Zx:xs.length=6:=vR;rw[BY]at hl;have e:∀i,i<6->∃y,xs[i]? = some y:=fun i hi=>⟨xs[i],ai I⟩;obtain⟨x0,e0⟩:=e 0 I;obtain⟨x1,e1⟩:=e 1 I;obtain⟨x2,e2⟩:=e 2 I;obtain⟨x3,e3⟩:=e 3 I;obtain⟨x4,e4⟩:=e 4 I;obtain⟨x5,e5⟩:=e 5 I;have h0:=hx 0 _ rfl;have h1:=hx 1 _ rfl;have h2:=hx 2 _ rfl;have h3:=hx 3 _ rfl;have h4:=hx 4 _ rfl;have h5:=hx 5 _ rfl;rw[e0]at h0;rw[e1]at h1;rw[e2]at h2;rw[e3]at h3;rw[e4]at h4;rw[e5]at h5;have z:∀ {i:Nat}{f:Field}{y:DataW H×List MemPlace},_->xs[i]? = some y->qh prog f.type y.1:=fun {i f y} hf hy=>qh.agg gF hz (i:=i) (f:=f) hf (by rw[cX,hy];rfl);have z3:qh prog 9 x3.1:=z (i:=3) rfl e3;have z4:qh prog 22 x4.1:=z (i:=4) rfl e4;have z5:qh prog 23 x5.1:=z (i:=5) rfl e5;obtain⟨a,ha,-,wa⟩:=DataW.trod_int bJ h0;obtain⟨b,hb,-,wb⟩:=DataW.trod_int bJ h1;obtain⟨c,hc,-,wc⟩:=DataW.trod_int bJ h2;obtain⟨s,hs,Bj,-⟩:=DataW.trod_string cF h3;have t0:cs[0]? = some (Iq a):=qJ (by rw[<-qU];exact ha);have t1:cs[1]? = some (Iq b):=qJ (by rw[<-qU];exact hb);have t2:cs[2]? = some (Iq c):=qJ (by rw[<-qU];exact hc);have t3:cs[3]? = some (.string s):=qJ (by rw[<-Eg];exact hs)
  match cs,hl with
  | [c0,c1,c2,c3,c4,c5],_=>
   simp at t0 t1 t2 t3
   subst t0;subst t1;subst t2;subst t3;have h4':DataW.trod enc prog W base (fun _=>true) held n 22 [c4]=some x4:=h4;have Sh:DataW.trod enc prog W base (fun _=>true) held n 23 [c5]=some x5:=h5;obtain⟨names,oQ,WE⟩:=Td h4' z4;obtain⟨kids,k,hk,zu,qf⟩:=EF 6 I fj BY Sh z5 mM (fun n v cs=>lz (fun b=>b<W.heap.size) n W v cs/\qS n v) fun q hq cs y _ h1 h2=>ih q I h1 h2;rw[Bj]at z3;have lJ:=z3.string;rw[bU]at lJ;rw[ZF]at qf;refine⟨.mk a b c s names kids,⟨c4,c5,rfl,wa,wb,wc,rG lJ,oQ,m6.P zu fun _ _ hp=>lz.more I hp.1⟩,WE,(by show kids.length<=140737488355328;exact rG I),fun y hy=>?_⟩;obtain⟨cs,-,hp⟩:=agJ zu y hy;exact qS.mono I hp
end
open K
def zZ:Ac:=⟨0,0,0,0,zV,kZ,kQ⟩
def LP (E:Nat->Prop)(f:Nat)(w:World)(x:Ac)(cs:kL):Prop:=OD E f w x cs/\qS f x.data/\qS f x.e.data
theorem OD.more {x:Ac}(hf:f<=f')(h:OD E f w x cs): OD E f' w x cs:=by
 obtain⟨dc,ec,h1,h2,h3,h4⟩:=h;exact⟨dc,ec,h1,lz.more hf h2,p_.mono (fun _ _ h=>lz.more hf h) h3,h4⟩
theorem LP.more {x:Ac}(hf:f<=f')(h:LP E f w x cs): LP E f' w x cs:=⟨h.1.more hf,qS.mono hf h.2.1,qS.mono hf h.2.2⟩
theorem OD.jA {x:Ac}(h:OD E f w x cs){K:Nat->Prop}(hk:Z K w w')(hK:∀b,E b->b<w.heap.size->K b)(hE:∀b,E b->E' b): OD E' f w' x cs:=by
 obtain⟨dc,ec,h1,h2,h3,h4⟩:=h;exact⟨dc,ec,h1,h2.jA hk hK hE,p_.mono (fun _ _ h=>h.jA hk hK hE) h3,h4⟩
theorem LP.jA {x:Ac}(h:LP E f w x cs){K:Nat->Prop}(hk:Z K w w')(hK:∀b,E b->b<w.heap.size->K b)(hE:∀b,E b->E' b): LP E' f w' x cs:=⟨h.1.jA hk hK hE,h.2⟩
def pW (E:Nat->Prop)(f:Nat)(w:World)(v:Value)(L:List Ac):Prop:=m6 57 zZ (LP E f w) E w v L
theorem pW.more {v:Value}{L:List Ac}(hf:f<=f')(h:pW E f w v L): pW E f' w v L:=m6.P h fun _ _ hp=>hp.more hf
theorem pW.jA {v:Value}{L:List Ac}(h:pW E f w v L){K:Nat->Prop}(hk:Z K w w')(hK:∀b,E b->b<w.heap.size->K b)(hE:∀b,E b->E' b): pW E' f w' v L:=Go.Proofs.YtlenklobbngopaaGreat.K.m6.jA h hk hK hE fun _ _ hp=>hp.jA hk hK hE
theorem pW.below {v:Value}{L:List Ac}(h:pW E f w v L)(hb:Below w.heap.size w w'): pW E f w' v L:=h.jA (Z.jw hb) (fun _ _ hl=>hl) fun _ h=>h
def alW (E:Nat->Prop)(f:Nat)(w:World)(L:List Ac)(cs:kL):Prop:=∃v,cs=[v]/\pW E f w v L
def pP (E:Nat->Prop)(f:Nat)(w:World)(v:Value)(LL:List (List Ac)):Prop:=m6 1 [] (alW E f w) E w v LL
theorem pP.more {v:Value}{LL:List (List Ac)}(hf:f<=f')(h:pP E f w v LL): pP E f' w v LL:=m6.P h fun _ _ ⟨u,hu,hp⟩=>⟨u,hu,hp.more hf⟩
theorem pP.jA {v:Value}{LL:List (List Ac)}(h:pP E f w v LL){K:Nat->Prop}(hk:Z K w w')(hK:∀b,E b->b<w.heap.size->K b)(hE:∀b,E b->E' b): pP E' f w' v LL:=Go.Proofs.YtlenklobbngopaaGreat.K.m6.jA h hk hK hE fun _ _ ⟨u,hu,hp⟩=>⟨u,hu,hp.jA hk hK hE⟩
theorem pP.below {v:Value}{LL:List (List Ac)}(h:pP E f w v LL)(hb:Below w.heap.size w w'): pP E f w' v LL:=h.jA (Z.jw hb) (fun _ _ hl=>hl) fun _ h=>h
section
variable {H:Type}{enc:TypeId×Value->H}{W:World}{base:Nat}{held:Bool}
theorem aa2 {x:DataW H×List MemPlace}(h:DataW.trod enc prog W base (fun _=>true) held fuel 76 cs=some x)(hz:qh prog 76 x.1):
  ∃e,N5 (fun b=>b<W.heap.size) fuel W e cs/\qS fuel e.data:=by
 obtain⟨e,he,hs⟩:=af8 h hz;obtain⟨xs,n,rfl,rfl,hl,vR,hx⟩:=DataW.trod_struct gH h;have Zx:xs.length=9:=vR;obtain⟨x5,e5⟩:∃y,xs[5]? = some y:=⟨xs[5],ai I⟩;have h5:=hx 5 _ rfl;rw[e5]at h5;have z5:qh prog 25 x5.1:=qh.agg gH hz (i:=5) rfl (by rw[cX,e5];rfl);have Sh:DataW.trod enc prog W base (fun _=>true) held n 25 ((cs.drop 5).take (prog.cellsOf 25))=some x5:=h5;rw[BY]at Sh;obtain⟨v,hv,Oz⟩:=NK n Sh z5;obtain⟨dc,rfl,-,lM,h1,h2⟩:=he;have hd:((km e dc).drop 5).take 6=dc:=by
  show(dc++_).take 6=dc
  rw[bZ I,bg I]
 rw[hd]at hv;refine⟨{ e with data:=v },⟨dc,rfl,lz.more I hv,lM,h1,h2⟩,qS.mono I Oz⟩
theorem apv (cs:List α): cs=cs.take 4++((cs.drop 4).take 6++((cs.drop 10).take 1++(cs.drop 11))):=by
 have h1:cs.drop 11=(cs.drop 10).drop 1:=by rw[fg]
 have h2:cs.drop 10=(cs.drop 4).drop 6:=by rw[fg]
 rw[h1,aO,h2,aO,aO]
theorem ahI {x:DataW H×List MemPlace}(h:DataW.trod enc prog W base (fun _=>true) held fuel Kb cs=some x)(hz:qh prog Kb x.1):
  ∃a,LP (fun b=>b<W.heap.size) fuel W a cs:=by
 obtain⟨xs,n,rfl,rfl,hl,vR,hx⟩:=DataW.trod_struct underlying114 h;have Zx:xs.length=7:=vR;have nL:cs.length=57:=hl.trans jG;have e:∀i,i<7->∃y,xs[i]? = some y:=fun i hi=>⟨xs[i],ai I⟩;obtain⟨x0,e0⟩:=e 0 I;obtain⟨x1,e1⟩:=e 1 I;obtain⟨x2,e2⟩:=e 2 I;obtain⟨x3,e3⟩:=e 3 I;obtain⟨x4,e4⟩:=e 4 I;obtain⟨x5,e5⟩:=e 5 I;obtain⟨x6,e6⟩:=e 6 I;have h0:=hx 0 _ rfl;have h1:=hx 1 _ rfl;have h2:=hx 2 _ rfl;have h3:=hx 3 _ rfl;have h4:=hx 4 _ rfl;have h5:=hx 5 _ rfl;have h6:=hx 6 _ rfl;rw[e0]at h0;rw[e1]at h1;rw[e2]at h2;rw[e3]at h3;rw[e4]at h4;rw[e5]at h5;rw[e6]at h6;have z:∀ {i:Nat}{f:Field}{y:DataW H×List MemPlace},_->xs[i]? = some y->qh prog f.type y.1:=fun {i f y} hf hy=>qh.agg underlying114 hz (i:=i) (f:=f) hf (by rw[cX,hy];rfl);have z4:qh prog 25 x4.1:=z (i:=4) rfl e4;have z5:qh prog 9 x5.1:=z (i:=5) rfl e5;have z6:qh prog 76 x6.1:=z (i:=6) rfl e6;obtain⟨a,ha,-,wa⟩:=DataW.trod_int bJ h0;obtain⟨b,hb,-,wb⟩:=DataW.trod_int bJ h1;obtain⟨c,hc,-,wc⟩:=DataW.trod_int bJ h2;obtain⟨d,hd,-,wd⟩:=DataW.trod_int bJ h3;have h4':DataW.trod enc prog W base (fun _=>true) held n 25 ((cs.drop 4).take (prog.cellsOf 25))=some x4:=h4;rw[BY]at h4';obtain⟨v,hv,Oz⟩:=NK n h4' z4;obtain⟨s,hs,Bj,-⟩:=DataW.trod_string cF h5;have h6':DataW.trod enc prog W base (fun _=>true) held n 76 ((cs.drop 11).take (prog.cellsOf 76))=some x6:=h6;rw[aiG,bg (by simp[nL])]at h6';obtain⟨en,hen,avj⟩:=aa2 h6' z6;have t0:cs[0]? = some (Iq a):=qJ (by rw[<-qU];exact ha);have t1:cs[1]? = some (Iq b):=qJ (by rw[<-qU];exact hb);have t2:cs[2]? = some (Iq c):=qJ (by rw[<-qU];exact hc);have t3:cs[3]? = some (Iq d):=qJ (by rw[<-qU];exact hd);have t10:(cs.drop 10).take 1=[.string s]:=by rw[<-Eg];exact hs
 rw[Bj]at z5;have lJ:=qh.string z5;rw[bU]at lJ;have XA:cs.take 4=[Iq a,Iq b,Iq c,Iq d]:=by
  refine fR fun i=>?_
  match i with
  | 0=>simpa using t0
  | 1=>simpa using t1
  | 2=>simpa using t2
  | 3=>simpa using t3
  | i+4=>rw[aM (by simp;omega),aM jM]
 refine⟨⟨a,b,c,d,v,s,en⟩,⟨(cs.drop 4).take 6,cs.drop 11,?_,lz.more I hv,p_.mono (fun _ _ h=>lz.more I h) hen,⟨qK wa,qK wb,qK wc,qK wd,rG lJ⟩⟩,qS.mono I Oz,qS.mono I avj⟩;have:=apv cs;rw[XA,t10]at this;exact this.trans rfl
theorem afw: prog.cellsOf Kb=57:=jG
theorem acb: prog.cellsOf 49=1:=jG
theorem JF {v:Value}{d:DataW H}(wY:Value.okWide prog W r b0 43 v)(h:DataW.Trod enc prog W base (fun _=>true) held 43 v d p):
  (∀n∈d.weights prog 43,n<=reachBytes)->∃f LL,pP (fun b=>b<W.heap.size) (f+1) W v LL/\LL.length<=140737488355328:=by
 intro hz;obtain⟨a,len,cap,rfl⟩:=okWide_slice underlying43 wY;obtain⟨fuel,hf⟩:=h;obtain⟨LL,n,-,h1,h2⟩:=EF (v:=.slice a len cap) 1 I underlying43 acb hf hz [] (fun n=>alW (fun b=>b<W.heap.size) (n+1) W) fun n _ cs y nL ht hw=>by
  obtain⟨u,rfl⟩:∃u,cs=[u]:=by
   match cs,nL with
   | [u],_=>exact⟨u,rfl⟩
  obtain⟨L,k,hk,hL,-⟩:=EF 57 I underlying49 afw ht hw zZ (fun n=>LP (fun b=>b<W.heap.size) n W) fun n _ cs y _ ht hw=>ahI ht hw;exact⟨L,u,rfl,m6.P hL fun _ _ hp=>hp.more I⟩
 rw[show prog.bytesOf 49=24 by kernel_rfl]at h2;exact⟨n,LL,h1,rG I⟩
end
open K
structure xn (f:Nat) (x:Ac):Prop where
 sd:Sm 3000 f x.data
 se:Sm 3000 f x.e.data
 ld:chk 16 x.data=0->(encV 16 x.data).length<=70368744177664
 le:chk 16 x.e.data=0->(encV 16 x.e.data).length<=70368744177664
theorem Nx (s:St)(x:Ac): (m0 s x).data=x.data\/(m0 s x).data=zV\/(m0 s x).data=x.e.data:=by
 unfold m0
 repeat' split
 all_goals first|exact .inl rfl|exact .inr (.inl rfl)|exact .inr (.inr rfl)
theorem SS (s:St){x:Ac}(h:xn (f+1) x): Sm 3000 (f+1) (m0 s x).data:=by
 rcases Nx s x with e|e|e<;>rw[e]
 ·exact h.sd
 ·exact GV f
 ·exact h.se
theorem acs (s:St){x:Ac}(h:xn f x): chk 16 (m0 s x).data=0->(encV 16 (m0 s x).data).length<=70368744177664:=by
 rcases Nx s x with e|e|e<;>rw[e]
 ·exact h.ld
 ·intro _
  have:(encV 16 zV).length<=65536:=by decide
  omega
 ·exact h.le
theorem TS (n:Nat){L:List Ac}(hi:i<L.length)(s:St): actsR n (L.drop i) i s=((m0 s (L.getD i zZ))::(actsR n (L.drop (i+1)) (i+1) (entR s (m0 s (L.getD i zZ)) n i (7*n)).2).1,(actsR n (L.drop (i+1)) (i+1) (entR s (m0 s (L.getD i zZ)) n i (7*n)).2).2):=by
 rw[bI hi,ah,ai hi]
 rfl
theorem kC.self {e:TypeId}{z:α}{P:α->kL->Prop}{v:Value}(h:kC e m z P O w v l): kC e m z P (fun b=>v.ownBlock=some b) w v l:=by
 obtain⟨mZ,q1,q2,q3⟩:=h;exact⟨mZ,q1,q2,q3.1,q3.2.1,fun g hg=>hg⟩
theorem adx (i t:Int): prog.built zq [(0,Iq i),(1,Iq t)]=some (qT ⟨i,t,0,Dig.nA,[]⟩ (kP)).toArray:=jG
theorem U8 (b:Bk)(sp:Option Addr)(n c:Nat): lY (qT b (.slice sp n c)):=by
 intro u hu;unfold qT at hu;simp only[ax,au,a_,eJ]at hu;rcases hu with rfl|rfl|rfl|hu|rfl
 all_goals first|rfl|exact lY.int _ _ u hu
theorem Qo {s:St}(h0:qx w rb M D (f+1) s N)(hcp:qg s.rows s.red=s.red)(hE:∀b,E b->b<w.heap.size){v:Value}{L:List Ac}(hv:pW E (f+1) w v L)(hL:∀x∈L,xn (f+1) x)(hN:N+L.length+1<=1000000):
  Calls prog 40 #[jV rb,v] w fun e w'=>jP w w'/\∃bc,e=.returned (.agg bc.toArray)/\pr (fun b=>E b\/w.heap.size<=b) (f+1) w' (tO s L) bc:=by
 obtain⟨YQ,rOc,rv,mb,rk,rr⟩:=id h0;obtain⟨Am,vZ,rfl,vN,rE,De,kF⟩:=id hv;have d2:=rr.vb.cell 2 jM;simp only[aA,al]at d2;have sG:=rr.lt rb (.inl rr.vK);have AT:=rr.ok;apply kq (args:=[jV rb,.slice Am L.length vZ]) func40 ntmps40;apply G _;refine jJ (z:=.agg (qT noB (kP)).toArray) (fun _=>jG) fun g4 w1 f1=>?_;have v4:U zq w1 g4 (qT noB (kP)):=f1.blk;have b1:=f1.below;have e4:=f1.eq;have z1:=b1.size;clear f1;apply G _;refine WC.drawn 11 (jP w1) fun wa kv=>?_;have hS:jP w1 wa:=kv.below _;clear kv;have d21:=(b1.cell (p:=Aq rb 2) sG).trans d2;have alB:rb<w1.heap.size:=I;apply jC [0,1,2] hS _;apply jz 3 [9,11] (lX alB d21) hS;apply jC [4,5,6] hS _;apply jz 7 [8,9,11] (lX alB d21) hS;apply jC [8] hS _;apply Cr.xy (qT ⟨s.n,7*s.n,0,Dig.nA,[]⟩ (kP)) 9 rfl jG rfl rfl (fun _ _ _ _ _ h=>h) rfl rfl rfl (adx _ _) (.inr hS);apply jS 10;refine jJ (z:=.agg (qT noB (kP)).toArray) (fun _=>jG) fun g5 w2 f2=>?_;have pO:=hS.kj f2.below;have e5:=f2.eq;apply lI pO;apply jS 11;apply jE f2.blk (U8 _ _ _ _);obtain⟨v5,b5,-,-⟩:=nv (qT ⟨s.n,7*s.n,0,Dig.nA,[]⟩ (kP)) hS f2;generalize w2.setRow g5 _=w5 at v5 b5 ⊢;have zS:=hS.size;clear f2 pO;apply(jZ);apply(jD);have c5:=b1.trans (b5.mono z1);have z5:=c5.size;have l5:=U.lt v5;have l4:=U.lt v4;have z15:=b5.size;apply G _;apply jx func41 (BB (h0.below c5));rintro _ w6 ⟨xb,Mx,rfl,hx,b6,mx⟩;refine⟨_,rfl,?_⟩;rw[hcp]at hx;change qx w6 xb Mx D (f+1) s N at hx;have c6:=c5.trans (b6.mono z5);have z6:=c6.size;apply G _;refine WC.loop (fun i:Nat=>[(1,.slice Am L.length vZ),(4,jV g4),(5,jV g5),(6,jV xb),(7,Iq i)])
  (fun i w'=>i<=L.length/\jP w w'/\w5.heap.size<=w'.heap.size/\∃(si:St) (Mi Di:Nat->Prop) (se:Value) (es:List En),qx w' xb Mi Di (f+1) si (N+i)/\(∀x,Mi x->w5.heap.size<=x)/\(∀x,Di x->D x\/w5.heap.size<=x)/\
   nM zq g5 w' ⟨s.n,7*s.n,0,Dig.nA,es⟩ se/\U zq w' g4 (qT noB (kP))/\kC BI 46 kQ (N5 E (f+1) w') (fun _=>True) w' se es/\(∀g,se.ownBlock=some g->w5.heap.size<=g/\¬Mi g/\¬Di g)/\es.length=i/\
   actsR s.n L 0 s=(es++(actsR s.n (L.drop i) i si).1,(actsR s.n (L.drop i) i si).2)) (fun i=>L.length - i) 0 kz
  ⟨ay _,c6,b6.size,s,Mx,D,kP,[],hx,mx,fun x h=>.inl h,⟨U.below v5 b6 l5,rfl⟩,U.below (U.below v4 b5 l4) b6 I,K.kC.nil _ _ _ _ _ _,(fun g h=>by cases h),rfl,rfl⟩ ?_
 clear hx mx b6;rintro i wl ⟨hi,bl,z5l,si,Mi,Di,se,es,MB,mi,di,B,v4l,vC,jW,mL,my⟩;have zl:=bl.size
 by_cases kt:i<L.length
 case pos=>
  obtain⟨b,o,rfl,hb,UJ,lP⟩:=kF I;obtain⟨ac,akK,⟨vi,-⟩,ly⟩:=lP i kt;have hlx:=hL (L.getD i zZ) (by rw[ah,ai kt];exact aH kt);rw[TS s.n kt si]at my;generalize L.getD i zZ=x at vi hlx my;have ce:=B.jH;have lg5:=U.lt B.blk;have Ye:=U.lt v4l;apply jF _;refine WC.drawn 9 (jP wl) fun wa kv=>?_;have hS:jP wl wa:=kv.below _;clear kv;apply jC [0] hS _;apply jz 1 [9,10,11] (lX lg5 ce) hS;apply jC [2,3,4] hS _;apply kY 5 i (o+i*57) kt (.inr hS);apply kG 6 (mw 7 11) (fun wx hx=>fun u q hq=>((bl.trans (hx.mono zl)).cell (p:=Aq b (o+i*57+u)) hb).trans (ly u q hq)) akK hS;apply jS 7;apply jx func69 (VZ (MB.below hS) (vi.jA (Z.jw (bl.trans (hS.mono zl))) (fun y _ h=>h) nN) hlx.ld);rintro _ wb ⟨bb,ec,rfl,yg⟩;refine⟨_,rfl,?_⟩;have rQ:=hS.kj bb;apply lI rQ;apply jS 8;refine lh (hcs:=yg.len) (hs:=⟨I,I⟩) fun g7 w7 xF=>?_;have tQ:=rQ.kj xF.below;apply lI tQ;have z7:=tQ.size;have hE7:N5 E (f+1) w7 (m0 si x) ec:=p_.mono (fun v c hv=>hv.jA (Z.jw xF.below) (fun y _ hl=>hl) nN) yg;have Dx:kC BI 46 kQ (N5 E (f+1) w7) (fun _=>True) w7 se es:=K.kC.jA vC (Z.jw tQ) (fun g hg=>K.kC.lt vC hg) nN fun _ _ hp=>p_.mono (fun v c hv=>hv.jA (Z.jw tQ) (fun y _ hl=>hl) nN) hp;have axG:∀g,se.ownBlock=some g->g<wl.heap.size:=fun g hg=>K.kC.lt vC hg;apply jS 9;refine WL.snoc rfl rfl rfl rfl apz rfl Dx rfl xF.blk yg.one yg.len hE7 I I fun FI w8 Aw p7=>?_;apply(jZ)
  (apply ke 10 rfl _)
  apply jS 11;have z8:=p7.1.size;have B8:=(nM.below B tQ).jA p7.1 ⟨I,fun e=>by have:=(jW g5 e).1;omega⟩;have IP:=(U.below v4l tQ Ye).jA p7.1 ⟨I,fun e=>by have:=(jW g4 e).1;omega⟩;apply jT (hv:=Aw.one) B8.jH (B8.blk.free 35);have B9:=B8.agP FI (es++[m0 si x]);have k9:Z (fun y=>y≠g5) w8 (w8.setCell (Aq g5 35) FI):=(Z.refl _ _).setCell jM _;have v49:=IP.jA k9 (I:g4≠g5);have hKa:Z (fun y=>y<wl.heap.size/\se.ownBlock≠some y/\y≠g5) wl (w8.setCell (Aq g5 35) FI):=((Z.jw tQ).mono fun y hy=>hy.1).trans ((p7.1.mono fun y hy=>⟨I,hy.2.1⟩).trans (k9.mono fun y hy=>hy.2.2));have Ry:∀g,FI.ownBlock=some g->w5.heap.size<=g/\¬Mi g/\¬Di g/\g<w8.heap.size:=fun g hg=>by
   have j6:=K.kC.lt Aw hg;rcases p7.2 g hg with q|q
   ·obtain⟨q1,q2,q3⟩:=jW g q
    exact⟨q1,q2,q3,j6⟩
   ·exact⟨I,fun h=>by have:=MB.lt g (.inl h);omega,fun h=>by have:=MB.lt g (.inr h);omega,j6⟩
  have ua:∀y,E y->y<w8.heap.size/\¬se.ownBlock=some y/\y≠g5:=fun y hy=>by
   have:=hE y hy;exact⟨I,fun e=>by have:=(jW y e).1;omega,I⟩
  have k79:Z (fun y=>y<w7.heap.size/\se.ownBlock≠some y/\y≠g5) w7 (w8.setCell (Aq g5 35) FI):=(p7.1.mono fun y hy=>⟨hy.1,hy.2.1⟩).trans (k9.mono fun y hy=>hy.2.2);have DN:kC BI 46 kQ (N5 E (f+1) (w8.setCell (Aq g5 35) FI)) (fun b=>FI.ownBlock=some b) (w8.setCell (Aq g5 35) FI) FI (es++[m0 si x]) :=
   K.kC.jA (kC.self Aw) k9 (fun g hg e=>by have:=(Ry g hg).1;omega) nN fun _ _ hp=>p_.mono (fun v c hv=>hv.jA k79 (fun y hy _=>by have q:=ua y hy;have:=hE y hy;exact⟨I,q.2.1,q.2.2⟩) nN) hp
  have z9:(w8.setCell (Aq g5 35) FI).heap.size=w8.heap.size:=jM;generalize w8.setCell (Aq g5 35) FI=w9 at B9 v49 hKa DN z9 ⊢;clear k9 k79 Aw Dx hE7 B8 IP xF hS rQ bb;have hx9:=MB.jA hKa fun y hy=>⟨MB.lt y hy,fun e=>by
   obtain⟨q1,q2,q3⟩:=jW y e;exact hy.elim q2 q3,fun e=>by
   rcases hy with hy|hy
   ·have:=mi y hy;omega
   ·rcases di y hy with q|q
    ·have:=h0.lt y (.inr q);omega
    ·omega⟩
  have c9:=((Z.jw bl).trans (hKa.mono fun y (hy:y<w.heap.size)=>⟨I,fun e=>by have:=(jW y e).1;omega,I⟩)).below;apply(jZ);apply(jD);apply G _;apply jy (U.rangeAt B9.blk) B9.len;apply G _;have RZ:(es++[m0 si x]).length=i+1:=by rw[af,mL];rfl
  have adD:(es++[m0 si x]).getD i kQ=m0 si x:=by rw[ah,aE I,mL];simp
  have G7:pr (fun y=>E y\/FI.ownBlock=some y) (f+1) w9 ⟨s.n,7*s.n,0,Dig.nA,es++[m0 si x]⟩ (qT ⟨s.n,7*s.n,0,Dig.nA,es++[m0 si x]⟩ FI) :=
   ⟨FI,rfl,(K.kC.kN DN).mono (fun y h=>.inr h) (fun _ _ hp=>p_.mono (fun v c hv=>hv.mono fun y h=>.inl h) hp),rfl,Ee,⟨by show _<=(s.n:Int);omega,by show(s.n:Int)<=_;omega⟩,⟨by show _<=7*(s.n:Int);omega,by show 7*(s.n:Int)<=_;omega⟩,by show lV 0;omega⟩
  have aqH:Sm 3000 (f+1) ((es++[m0 si x]).getD i kQ).data:=by rw[adD];exact SS si hlx
  apply jx func70 (VN hx9 I (fun y hy hm=>hy.elim (fun h=>by have:=hE y h;have:=mi y hm;omega) fun h=>(Ry y h).2.1 hm) G7 i (by show i<(es++[m0 si x]).length;omega) I aqH);rintro _ tF ⟨M2,D2,rfl,ak1,G5,m2,d2⟩;refine⟨_,rfl,?_⟩;have z10:=G5.size;simp only[adD]at ak1;apply G _;refine WQ.again (i+1) kz ⟨kt,((Z.jw c9).trans (G5.mono fun y (hy:y<w.heap.size)=>⟨I,fun hm=>by have:=mi y hm;omega⟩)).below,I,_,M2,D2,FI,es++[m0 si x],ak1,
   fun y hy=>(m2 y hy).elim (mi y) (fun h=>by omega),fun y hy=>(d2 y hy).elim (di y) (fun h=>.inr I),?_,v49.jA G5 ⟨I,fun hm=>by have:=mi g4 hm;omega⟩,?_,fun g hg=>?_,RZ,?_⟩ I
  ·exact nM.jA B9 G5 ⟨I,fun hm=>by have:=mi g5 hm;omega⟩
  ·exact K.kC.jA DN G5 (fun g hg=>⟨K.kC.lt DN hg,(Ry g hg).2.1⟩) (fun _ _=>trivial) fun _ _ hp=>p_.mono (fun v c hv=>hv.jA G5 (fun y hy _=>⟨by have:=hE y hy;omega,fun hm=>by have:=hE y hy;have:=mi y hm;omega⟩) nN) hp
  ·obtain⟨q1,q2,q3,q4⟩:=Ry g hg
   exact⟨q1,fun hm=>(m2 g hm).elim q2 (fun h=>by omega),fun hm=>(d2 g hm).elim q3 (fun h=>by omega)⟩
  ·rw[my]
   simp
 case neg=>
  obtain rfl:i=L.length:=I;rw[ey]at my;have hm:tO s L=⟨s.n,7*s.n,0,Dig.nA,es⟩:=by unfold tO;rw[my];simp[actsR]
  rw[hm];apply G _;apply jy (U.rangeAt B.blk) B.len;obtain⟨spE,aAb,rfl,-⟩:=id (K.kC.kN vC);apply jE (hm:=B.len) v4l (U8 _ _ _ _);have Ow:∀a,Z (fun y=>y≠g4) wl (wl.setRow g4 a):=fun a=>Z.setRow (Z.refl _ wl) (fun hk=>hk rfl) a;apply G _;refine WQ.vJ rfl rfl rfl B.len (v4l.setRow _) ⟨((Z.jw bl).trans ((Ow _).mono fun y (hy:y<w.heap.size)=>by omega)).below,_,rfl,_,rfl,?_,rfl,Ee,⟨by show _<=(s.n:Int);omega,by show(s.n:Int)<=_;omega⟩,⟨by show _<=7*(s.n:Int);omega,by show 7*(s.n:Int)<=_;omega⟩,by show lV 0;omega⟩;exact(K.kC.kN (kC.self vC)).jA (Ow _) (fun y hy _=>by have:=(jW y hy).1;omega) (fun y hy=>.inr (by have:=(jW y hy).1;omega)) fun _ _ hp=>p_.mono (fun v c hv=>hv.jA (Ow _) (fun y hy _=>by have:=hE y hy;omega) (fun y h=>.inl h)) hp
end Vw
namespace K
theorem yS:∀(f:Nat) {w0 w:World}{v:V}{cs:kL}{pb n:Nat},mj f w0 v cs->qS f v->jP w0 w->w0.heap.size<=pb->U 3 w pb [Iq n]->n<=140737488355328->
  Calls prog 7 #[.agg cs.toArray,jV pb] w fun e w'=>e=.returned (.bool (decide (2000<grt 2000 f v n)))/\U 3 w' pb [Iq (grt 2000 f v n)]/\Z (fun b=>b<w.heap.size/\b≠pb) w w'
 | 0,_,_,_,_,_,_,h,_,_,_,_,_=>h.elim
 | f+1,w0,w,v,cs,pb,n,hv,hs,lG,xK,rh,hn=>by
  have ih:=@yS f;obtain⟨sn,sk,rfl,-,-,-,Y9,⟨np,nc,rfl,nl,LQ,-,-⟩,⟨sp,cap,rfl,vg,qn,kF⟩⟩:=hv;obtain⟨rY,hsk,nE⟩:=hs;have nB:grt 2000 (f+1) v n=grtK 2000 (grt 2000 f) v.kids (n+1+v.t.size / 20+v.names.length):=rfl;rw[nB];apply kq (args:=[.agg (mR v (.slice np v.names.length nc) (.slice sp v.kids.length cap)).toArray,jV pb]) func7 ntmps7;apply G _;refine jO fun g w1 hf=>?_;have lj:kJ w g w1 25 (mR v (.slice np v.names.length nc) (.slice sp v.kids.length cap)):=hf;clear hf;have oC:=rh.lt;have mE:g≠pb:=by rw[lj.eq];omega
  have Lt:=rh.below lj.below oC;have QI:Z (fun b=>b<w.heap.size/\b≠pb) w w1:=(Z.jw lj.below).mono fun _ h=>h.1;apply G _;refine WC.drawn 15 (fun wx=>U 3 wx pb [Iq n]/\U 25 wx g (mR v (.slice np v.names.length nc) (.slice sp v.kids.length cap))) fun w2 tA=>?_;have hS:U 3 w2 pb [Iq n]/\U 25 w2 g (mR v (.slice np v.names.length nc) (.slice sp v.kids.length cap)):=⟨Lt.below (tA.below _) Lt.lt,lj.blk.below (tA.below _) lj.blk.lt⟩;apply jC [0,1,2] hS _;apply jz 3 [4,9,13,15] (fun wx hx=>hx.1.cell 0 jM) hS;apply jC [4,5] hS _;apply jz 6 [7,8,9,13,15] (fun wx hx=>hx.2.cell 3 jM) hS;apply jC [7,8,9,10] hS _;apply jz 11 [12,13,15] (fun wx hx=>hx.2.cell 4 jM) hS;apply jC [12,13,14] hS _;apply jS 15;have e:IntKind.i64.wrap ((v.t.size:Int).tdiv 20)=((v.t.size / 20:Nat):Int):=by rw[fh I,dG];omega
  have e2:IntKind.i64.wrap (IntKind.i64.wrap ((n:Int)+1+IntKind.i64.wrap ((v.t.size:Int).tdiv 20))+(v.names.length:Int))=((n+1+v.t.size / 20+v.names.length:Nat):Int):=by
   rw[e,show IntKind.i64.wrap ((n:Int)+1+((v.t.size / 20:Nat):Int))=(n:Int)+1+((v.t.size / 20:Nat):Int) from bN _ I,bN _ I];omega
  generalize n+1+v.t.size / 20+v.names.length=n1 at e2 ⊢;refine WL.store (v:=.int .i64 n1) rfl rfl rfl rfl (congrArg (fun z=>some (Value.int .i64 z)) e2) rfl (by kernel_rfl) (hS.1.cell 0 (by simp)) (hS.1.free 0) ?_;have kK:U 3 (w2.setCell (Aq pb 0) (Iq n1)) pb [Iq n1]:=hS.1.set 0 (Iq n1);have nK:U 25 (w2.setCell (Aq pb 0) (Iq n1)) g (mR v (.slice np v.names.length nc) (.slice sp v.kids.length cap)):=hS.2.other _ _ mE;have mW:Z (fun b=>b<w.heap.size/\b≠pb) w (w2.setCell (Aq pb 0) (Iq n1)):=(QI.trans ((Z.jw (tA.below w1.heap.size)).mono fun b hb=>ao hb.1 lj.below.size)).setCell (fun h=>h.2 rfl) _;generalize w2.setCell (Aq pb 0) (Iq n1)=w3 at kK nK mW;apply(jZ);apply(jD);apply G _;generalize hRR:grtK 2000 (grt 2000 f) v.kids n1=RR;have Pc:=nK.lt;refine WC.loop (fun i:Nat=>[(1,jV pb),(2,jV g),(5,Iq i)])
   (fun i w'=>i<=v.kids.length/\Z (fun b=>b<w3.heap.size/\b≠pb) w3 w'/\∃x:Nat,U 3 w' pb [Iq x]/\grtK 2000 (grt 2000 f) (v.kids.drop i) x=RR) (fun i=>v.kids.length - i) 0
   kz ⟨ay _,Z.refl _ _,n1,kK,hRR⟩ ?_
  rintro i wr ⟨hi,uy,x,y_,hx⟩;have Ut:=nK.jA uy ⟨Pc,mE⟩;have Y3:=mW.trans (uy.mono fun b hb=>⟨ao hb.1 mW.size,hb.2⟩);have Mo:∀ {wz:World}{xz:Nat},U 3 wz pb [Iq xz]->Z (fun b=>b<w.heap.size/\b≠pb) w wz->xz=RR->(Ending.returned (.bool (decide ((2000:Int)<(xz:Int))))=.returned (.bool (decide (2000<RR)))/\U 3 wz pb [Iq (RR)]/\Z (fun b=>b<w.heap.size/\b≠pb) w wz) :=
   fun h1 h2 h3=>⟨by rw[<-h3];congr 2;simp only[cN];omega,by rw[<-h3];exact h1,h2⟩
  apply G _;apply Y (Ut.cell 5 jM)
  by_cases kt:i<v.kids.length
  ·have kv:v.kids.drop i=v.kids.getD i mM::v.kids.drop (i+1):=by
    rw[bI kt];simp[kt]
   rw[kv]at hx;apply G _;apply Y (y_.cell 0 jM)
   by_cases EP:x<=2000
   ·obtain⟨kb,ko,rfl,qp,lP⟩:=kF I
    obtain⟨c,oh,qw,nW⟩:=lP i kt;have pV:=(lG.trans ((Y3.mono fun b hb=>⟨ao hb lG.size,Nat.ne_of_lt (ao hb xK)⟩:Z (fun b=>b<w0.heap.size) w wr).below));have t_:wr.rangeAt kb (ko+i*6) c:=fun j u hu=>by rw[pV.cell (p:=Aq kb (ko+i*6+j)) qp];exact nW j u hu
    unfold grtK at hx;rw[ag EP]at hx;apply G _;apply Y (Ut.cell 5 jM);apply G _;apply jQ i (ko+i*6) kt;apply jy t_ oh;apply G _;apply jx func7 (ih (n:=x) qw (nE _ (by rw[ah,ai kt];exact aH kt)) pV xK y_ I);rintro e w4 ⟨rfl,nk,pA⟩;refine⟨_,rfl,?_⟩;apply G _;exact WQ.again (i+1) kz ⟨kt,uy.trans (pA.mono fun b hb=>⟨ao hb.1 uy.size,hb.2⟩),_,nk,hx⟩ (by show v.kids.length - (i+1)<v.kids.length - i;omega)
   ·unfold grtK at hx
    rw[aa EP]at hx;apply G _;apply Y (y_.cell 0 jM);apply(jN);apply(jN);apply G _;exact J ⟨congrArg (fun b=>Ending.returned (Value.bool b)) (aw I).symm,(Mo y_ Y3 hx).2⟩
  ·obtain rfl:i=v.kids.length:=I
   rw[ey]at hx;unfold grtK at hx;apply G _;apply Y (y_.cell 0 jM);apply(jN);apply(jN);apply G _;exact J (Mo y_ Y3 hx)
end K
namespace Vw
open K
theorem qI {a m z:kL}(h:w.rangeAt b o (a++(m++z))): w.rangeAt b (o+a.length) m:=fun j u hj=>by
 have hl:j<m.length:=by
  rcases aW j m.length with q|q
  ·exact q
  ·rw[aM q]at hj;cases hj
 have:=h (a.length+j) u (by rw[aE I,eB,aZ hl];exact hj)
 rwa [<-gm]at this
section
variable {w:World}{b o:Nat}{x:Ac}{dc ec:kL}
theorem aeM (h:w.rangeAt b o (pI x dc ec)): w.rangeAt b (o+4) dc:=qI (a:=[Iq x.kind,Iq x.table,Iq x.doc,Iq x.pick]) (m:=dc) (z:=Value.string x.field::ec) h
theorem acY (h:w.rangeAt b o (pI x dc ec))(hd:dc.length=6): w.cell? (Aq b (o+10))=some (.string x.field):=by
 have:=qI (a:=[Iq x.kind,Iq x.table,Iq x.doc,Iq x.pick]++dc) (m:=[Value.string x.field]) (z:=ec) (w:=w) (b:=b) (o:=o) (by unfold pI at h;simpa using h);rw[show(([Iq x.kind,Iq x.table,Iq x.doc,Iq x.pick]:kL)++dc).length=10 by simp[hd]]at this;exact this 0 _ rfl
theorem alP (h:w.rangeAt b o (pI x dc ec))(hd:dc.length=6): w.rangeAt b (o+11) ec:=by
 have:=qI (a:=[Iq x.kind,Iq x.table,Iq x.doc,Iq x.pick]++(dc++[Value.string x.field])) (m:=ec) (z:=[]) (w:=w) (b:=b) (o:=o) (by unfold pI at h;simpa using h)
 rwa [show(([Iq x.kind,Iq x.table,Iq x.doc,Iq x.pick]:kL)++(dc++[Value.string x.field])).length=11 by simp[hd]]at this
end
theorem adN {e:En}{dc:kL}(h:w.rangeAt b o (km e dc)): w.rangeAt b (o+5) dc:=qI (a:=[Iq e.kind,.string e.text,Iq e.table,Iq e.doc,Iq e.kA]) (m:=dc) (z:=kT e.hash++[.bool e.gone,Iq e.ab,Iq e.ae]) h
theorem Sm.up {B':Nat}(hB:B<=B'): ∀ {f:Nat}{v:V},Sm B f v->Sm B' f v
 | 0,_,h=>h
 | _+1,_,⟨h1,h2,h3⟩=>⟨I,I,fun x hx=>Sm.up hB (h3 x hx)⟩
theorem Qf {v:V}{n:Nat}(hs:qS f v)(h:¬2000<grt 2000 f v n): Sm 3000 f v/\(chk 16 v=0->(encV 16 v).length<=70368744177664) :=
 ⟨Sm.up I (KQ (B:=2000) f v n hs I).2,fun hc=>by have:=(NL (B:=2000) f 16 v n hs hc I).2;omega⟩
def FV (LL:List (List Ac)):Nat:=(LL.map List.length).sum
theorem wO (LL:List (List Ac))(hi:i<LL.length): FV (LL.take (i+1))=FV (LL.take i)+(LL.getD i []).length:=by
 unfold FV;rw[aK,ai hi,dm,aV,List.sum_append,ah,ai hi];simp
theorem aau {n:Nat}(h:n<=140737488355328): IntKind.i64.wrap ((n:Int).tdiv 10)=((n / 10:Nat):Int):=by rw[fh I,dG];omega
theorem y8 {v:Value}{LL:List (List Ac)}(h:pP E (f+1) w v LL):
  Calls prog 14 #[v] w fun r w'=>jP w w'/\∃b',r=.returned (.bool b')/\(b'=false->LL.length<=60/\FV LL<=2000/\∀L∈LL,∀x∈L,xn (f+1) x):=by
 obtain⟨Am,vZ,rfl,vN,rE,De,kF⟩:=id h;apply kq (args:=[.slice Am LL.length vZ]) func14 ntmps14;apply G _;refine jJ (z:=Iq 0) (fun _=>jG) fun pb w2 f2=>?_;have P2:U 3 w2 pb [Iq 0]:=f2.blk;have epb:=f2.eq;have b2:=f2.below;clear f2;apply G _;apply WL.store (v:=Iq 0) rfl rfl rfl rfl rfl rfl jG (P2.cell 0 jM) (U.free P2 0);have P3:U 3 (w2.setCell (Aq pb 0) (Iq 0)) pb [Iq 0]:=P2.set 0 (Iq 0);have b3:jP w (w2.setCell (Aq pb 0) (Iq 0)):=((Z.jw b2).setCell (fun hk=>absurd hk (by show ¬pb<w.heap.size;omega)) _).below;generalize w2.setCell (Aq pb 0) (Iq 0)=w3 at P3 b3 ⊢;clear P2 b2;have amd:∀ {wx:World}{n n':Nat},U 3 wx pb [Iq n]->jP w wx->U 3 (wx.setCell (Aq pb 0) (Iq n')) pb [Iq n']/\jP w (wx.setCell (Aq pb 0) (Iq n')):=fun hp hb=>⟨hp.set 0 _,((Z.jw hb).setCell (fun hk=>absurd hk (by show ¬pb<w.heap.size;omega)) _).below⟩;apply G _;refine WC.loop (fun i:Nat=>[(0,.slice Am LL.length vZ),(3,jV pb),(4,Iq i)])
  (fun i wx=>i<=LL.length/\jP w wx/\(∃n:Nat,n<=2000/\i+FV (LL.take i)<=n/\U 3 wx pb [Iq n])/\∀L∈LL.take i,∀x∈L,xn (f+1) x) (fun i=>LL.length - i) 0 kz
  ⟨ay _,b3,⟨0,I,by simp[FV],P3⟩,jM⟩ ?_
 clear P3 b3;rintro i wr ⟨hi,br,⟨n,hn,pN,P⟩,lO⟩
 by_cases kt:i<LL.length
 case neg=>
  obtain rfl:i=LL.length:=I;apply G _;rw[aN]at lO pN;refine J ⟨br,_,rfl,fun hb=>?_⟩;have:=dI hb;exact⟨I,I,lO⟩
 case pos=>
 obtain⟨b,o,rfl,hb,UJ,lP⟩:=kF I;obtain⟨cs,-,⟨u,rfl,hu⟩,ly⟩:=lP i kt;have EZ:=wO LL kt;have xE:LL.take (i+1)=LL.take i++[LL.getD i []]:=by rw[aK,ai kt,ah,ai kt];rfl
 generalize LL.getD i []=L at hu EZ xE;obtain⟨spu,ad9,rfl,vP,tA,Fa,aov⟩:=id hu;have Ku:∀ {wx:World},jP w wx->wx.cell? (Aq b (o+i*1))=some (.slice spu L.length ad9):=fun hx=>(hx.cell (p:=Aq b (o+i*1)) hb).trans (ly 0 _ rfl);have cp:=P.cell 0 jM;simp only[al]at cp;apply jF _;apply jT (v:=Iq ((n+1:Nat):Int)) cp (U.free P 0);obtain⟨P4,b4⟩:=amd (n':=n+1) P br;generalize wr.setCell (Aq pb 0) (Iq ((n+1:Nat):Int))=w4 at P4 b4 ⊢;clear P br cp;apply G _;refine WC.loop (fun k:Nat=>[(0,nj b o LL.length vZ),(3,jV pb),(4,Iq i),(5,Iq k)])
  (fun k wx=>k<=L.length/\jP w wx/\(∃m:Nat,m<=2001/\i+1+FV (LL.take i)+k<=m/\U 3 wx pb [Iq m])/\∀x∈L.take k,xn (f+1) x) (fun k=>L.length - k) 0 kz
  ⟨ay _,b4,⟨n+1,I,I,P4⟩,jM⟩ ?_
 clear P4 b4 pN hn;rintro k wl ⟨hk,bl,⟨m,hm,XX,P⟩,hx⟩;have cu:=Ku bl;have cp:=P.cell 0 jM;simp only[al]at cp;apply jF _;apply jQ i (o+i*1) kt
 by_cases qf:k<L.length
 case neg=>
  obtain rfl:k=L.length:=I;rw[aN]at hx
  by_cases yd:m<=2000
  case neg=>
   apply jF _;exact J ⟨bl,true,rfl,fun h=>by cases h⟩
  case pos=>
   apply jF _;refine WQ.again (i+1) kz ⟨kt,bl,⟨m,yd,I,P⟩,fun L' hL'=>?_⟩ I;rw[xE]at hL';rcases au.1 hL' with q|q
   ·exact lO L' q
   ·rw[bn.1 q];exact hx
 case pos=>
 obtain⟨b2,o2,rfl,kK,azP,aim⟩:=aov I;obtain⟨ac,akK,⟨⟨dc,ec,rfl,Dk,yg,mq⟩,XQ,tC⟩,Qc⟩:=aim k qf;have aly:L.take (k+1)=L.take k++[L.getD k zZ]:=by rw[aK,ai qf,ah,ai qf];rfl
 generalize L.getD k zZ=x at Dk yg mq XQ tC Qc aly;have lM:=Dk.len;obtain⟨dc2,rfl,hev,ar6,-,-,-,um,-⟩:=id yg;have Zm:∀ {wx:World},jP w wx->wx.rangeAt b2 (o2+k*57) (pI x dc (km x.e dc2)):=fun hx j q hj=>(hx.cell (p:=Aq b2 (o2+k*57+j)) kK).trans (Qc j q hj);have cf:∀ {wx:World},jP w wx->wx.cell? (Aq b2 (o2+k*57+10))=some (.string x.field):=fun hx=>acY (Zm hx) lM;have ct:∀ {wx:World},jP w wx->wx.cell? (Aq b2 (o2+k*57+11+1))=some (.string x.e.text):=fun hx=>alP (Zm hx) lM 1 _ rfl;have hfz:=mq.field;apply jF _;refine WC.drawn 25 (jP wl) fun wa kv=>?_;have hS:jP wl wa:=kv.below _;clear kv;have Xn:=U.lt P;have zl:=bl.size;have bx:∀ {wx:World},jP wl wx->jP w wx:=fun hx=>bl.trans (hx.mono zl);apply jz 0 [1,12,24,25] (lX Xn cp) hS;apply jC [1,2,3] hS _;apply kY 4 i (o+i*1) kt (.inr hS);apply jz 5 [7,8,9,10,11,12,24,25] (fun wx hx=>Ku (bx hx)) hS;apply jC [6] hS _;apply kY 7 k (o2+k*57) qf (.inr hS);apply jC [8] hS _;apply jz 9 [10,11,12,24,25] (fun wx hx=>cf (bx hx)) hS;apply jC [10] hS _;apply WD.xX 11 (Iq ((x.field.size / 10:Nat):Int)) rfl jG rfl rfl (fun _ _ _ _ _ h=>h) rfl rfl (congrArg (Value.int .i64) (aau hfz)) (.inr hS);apply jC [12,13,14] hS _;apply kY 15 i (o+i*1) kt (.inr hS);apply jz 16 (mw 18 25) (fun wx hx=>Ku (bx hx)) hS;apply jC [17] hS _;apply kY 18 k (o2+k*57) qf (.inr hS);apply jC [19,20] hS _;apply jz 21 [22,23,24,25] (fun wx hx=>ct (bx hx)) hS;apply jC [22] hS _;apply WD.xX 23 (Iq ((x.e.text.size / 10:Nat):Int)) rfl jG rfl rfl (fun _ _ _ _ _ h=>h) rfl rfl (congrArg (Value.int .i64) (aau um)) (.inr hS);apply jC [24] hS _;apply jS 25;have e2:(m:Int)+1+((x.field.size / 10:Nat):Int)+((x.e.text.size / 10:Nat):Int)=((m+1+x.field.size / 10+x.e.text.size / 10:Nat):Int):=I;have HA:m+1+x.field.size / 10+x.e.text.size / 10<=140737488355328:=I;have yd:i+1+FV (LL.take i)+(k+1)<=m+1+x.field.size / 10+x.e.text.size / 10:=I;generalize m+1+x.field.size / 10+x.e.text.size / 10=n1 at e2 HA yd;have Pa:=U.below P hS Xn;refine WL.store (v:=.int .i64 (n1:Int)) rfl rfl rfl rfl (congrArg (fun z=>some (Value.int .i64 z)) e2) rfl (by kernel_rfl) (Pa.cell 0 (by simp)) (U.free Pa 0) ?_;obtain⟨P5,b5⟩:=amd (n':=n1) Pa (bx hS);generalize wa.setCell (Aq pb 0) (Iq (n1:Int))=w5 at P5 b5 ⊢;clear hS Pa bx cp cu;apply(jZ);apply(jD);have cu5:=Ku b5;apply G _;apply jQ i (o+i*1) kt;apply jF _;apply jQ k (o2+k*57) qf;apply G _;apply jy (aeM (Zm b5)) lM;apply kH func7 (yS (f+1) Dk.sN XQ b5 I P5 HA);rintro w6 ⟨P6,k6⟩
 have b6:=((Z.jw b5).trans (k6.mono fun y (hy:y<w.heap.size)=>⟨by have:=b5.size;omega,I⟩)).below
 by_cases vL:2000<grt 2000 (f+1) x.data n1
 case pos=>
  rw[aw vL];apply G _;exact J ⟨b6,true,rfl,fun h=>by cases h⟩
 case neg=>
 obtain⟨l1,l2⟩:=Qf XQ vL;have RT:=(KQ (B:=2000) (f+1) x.data n1 XQ I).1;rw[ar vL];have cu6:=Ku b6;generalize grt 2000 (f+1) x.data n1=n2 at P6 vL RT;apply G _;apply jQ i (o+i*1) kt;apply jF _;apply jQ k (o2+k*57) qf;apply G _;apply jy (adN (alP (Zm b6) lM)) ar6;apply(jX);apply kH func7 (yS (f+1) hev.sN tC b6 I P6 I);rintro w7 ⟨P7,k7⟩
 have b7:=((Z.jw b6).trans (k7.mono fun y (hy:y<w.heap.size)=>⟨by have:=b6.size;omega,I⟩)).below
 by_cases nK:2000<grt 2000 (f+1) x.e.data n2
 case pos=>
  rw[aw nK];apply G _;exact J ⟨b7,true,rfl,fun h=>by cases h⟩
 case neg=>
 obtain⟨l3,l4⟩:=Qf tC nK;have asF:=(KQ (B:=2000) (f+1) x.e.data n2 tC I).1;rw[ar nK];generalize grt 2000 (f+1) x.e.data n2=n3 at P7 nK asF;apply G _;refine WQ.again (k+1) kz ⟨qf,b7,⟨n3,I,I,P7⟩,fun y hy=>?_⟩ I;rw[aly]at hy;rcases au.1 hy with q|q
 ·exact hx y q
 ·rw[bn.1 q];exact⟨l1,l3,l2,l4⟩
end Vw
namespace Vw
open K (En Bk zV lQ mz kQ m4 qL zW mJ oY)
def E9:Ac:=⟨4,0,0,0,zV,⟨#[116]⟩,kQ⟩
def F3:En:={ kQ with kind:=5,table:=1,text:=⟨#[116]⟩}
def OI:St:={ uO with cat:=[⟨⟨#[116]⟩,false,[]⟩]}
theorem al2: m0 uO E9=F3:=by
 unfold m0;rw[aa lZ,aa lZ,aa lZ,aa lZ,ag (show E9.kind=4 from rfl)]
 rfl
theorem afk: entR uO F3 0 0 0=(0,OI):=by
 have hc:Cat.mu uO.cat F3.kind F3.text F3.table=0:=by decide
 have hl:Cat.oV uO.cat F3.kind F3.text F3.table=[⟨⟨#[116]⟩,false,[]⟩]:=by unfold Cat.oV;rw[ag hc];rfl
 unfold entR;rw[aa (by rw[hc];decide),aa lZ,aa lZ,hl]
 rfl
theorem Uq: lQ F3:=by
 unfold lQ;rw[aa lZ,aa lZ,aa lZ,aa lZ,ag (.inl rfl)];exact⟨by decide,by decide,by decide,by decide,rfl,rfl,rfl,rfl,rfl,rfl,rfl,rfl⟩
end Vw
namespace Vw
open K
theorem pr.there {b:Bk}(hb:pr E f w b bc): pr (fun x=>E x/\x<w.heap.size) f w b bc:=by
 obtain⟨se,q1,q2,q3⟩:=hb;exact⟨se,q1,q2.there fun _ _ hp=>p_.mono (fun _ _ hv=>hv.there) hp,q3⟩
theorem Gh {P:En->Prop}(n:Nat):∀(L:List Ac) (k:Nat) (s:St),(∀s x,x∈L->P (m0 s x))->∀e∈(actsR n L k s).1,P e
 | [],_,_,_,e,he=>by cases he
 | x::r,k,s,h,e,he=>by
  unfold actsR at he;rcases ax.1 he with q|q
  ·rw[q];exact h s x (cL ..)
  ·exact Gh n r _ _ (fun s y hy=>h s y (aD _ hy)) e q
theorem PY {s:St}{L:List Ac}(h:∀x∈L,xn (f+1) x)(hl:L.length<=2000): MU (f+1) (tO s L):=by
 have hlen:(tO s L).jH.length=L.length:=BN _ _ _ _;refine⟨I,fun k hk=>?_,fun e he=>?_⟩
 ·rw[lR hk]
  exact Gh (P:=fun e=>Sm 3000 (f+1) e.data) s.n L 0 s (fun s x hx=>SS s (h x hx)) _ (aH hk)
 ·exact Gh (P:=fun e=>chk 16 e.data=0->(encV 16 e.data).length<=70368744177664) s.n L 0 s (fun s x hx=>acs s (h x hx)) e he
section
variable {B:Nat}{w w':World}{vb rb:Nat}{M D M' D':Nat->Prop}{f:Nat}{s1 s2:St}{N:Nat}
end
end Vw
namespace K
theorem H9 {w:World}:∀ {f:Nat}{v:V}{cs:List Value},mj f w v cs->Ran f v
 | 0,_,_,h=>h
 | f+1,v,_,⟨_,_,_,_,hn,_,_,_,_,_,_,_,_,hk⟩=>by
  refine⟨?_,fun x hx=>?_⟩
  ·simp[Lit.wf,IntKind.min,IntKind.max,IntKind.bits,IntKind.signed]at hn;omega
  ·obtain⟨j,hj,rfl⟩:=bH hx
   obtain⟨_,_,_,_,hr⟩:=hk I;obtain⟨cs,_,h,_⟩:=hr j hj;have:=H9 h
   rwa [ah,ai hj]at this
end K
namespace Ix
open K
open Vw (rO qx Fv mX yl aai vF zE Ap BB Qo tO PY BN pW Ac xn Pr Qg uO Tn nv MU)
abbrev paT:Nat:=61
abbrev zq:Nat:=34
structure Ci (B:Nat) (w:World) (pb vb sb rb mb n:Nat) (S M D M' D':Nat->Prop) (k:Nat) (s:Vw.St) (X:Bl) (N:Nat):Prop where
 blk:U paT w pb [jV vb,jV sb,jV rb]
 p:rO w vb M D (k+2) s N
 r:qx w rb M' D' (k+2) s N
 set:qY w sb mb n S X (gS s)
 has:∀x,(X x).isSome=Cat.has s.cat x.1 x.2
 inv:Fv s
 RO:sH s
 mm:∀x,M x->B<=x/\¬M' x/\¬D' x
 rm:∀x,M' x->B<=x/\¬D x
 sm:∀x,S x->B<=x/\¬(M x\/D x)/\¬(M' x\/D' x)
 pm:B<=pb/\¬S pb/\¬M pb/\¬M' pb
section
variable {B:Nat}{w w':World}{pb vb sb rb mb n:Nat}{S M D M' D':Nat->Prop}{k:Nat}{s:Vw.St}{X:Bl}{N:Nat}
theorem Ci.below (h:Ci B w pb vb sb rb mb n S M D M' D' k s X N)(hb:jP w w'): Ci B w' pb vb sb rb mb n S M D M' D' k s X N :=
 ⟨U.below h.blk hb (U.lt h.blk),h.p.below hb,h.r.below hb,h.set.below hb,h.has,h.inv,h.RO,h.mm,h.rm,h.sm,h.pm⟩
theorem Ci.mono (h:Ci B w pb vb sb rb mb n S M D M' D' k s X N)(h1:N<=N')(h2:N'<=1000000): Ci B w pb vb sb rb mb n S M D M' D' k s X N':={ h with p:=h.p.mono h1 h2,r:=h.r.mono h1 h2 }
end
theorem F2 {k:Nat}: Calls prog 15 #[] w fun e w'=>∃pb vb sb rb mb n S M D M' D' X,e=.returned (.tuple #[.pointer (some ⟨pb,0,none⟩),.bool true])/\Ci w.heap.size w' pb vb sb rb mb n S M D M' D' k uO X 0/\n<=1024/\Below w.heap.size w w':=by
 apply kq func15 ntmps15;apply G _;apply jx func38 (Pr (f:=k+2));rintro _ w1 ⟨vb,M,rfl,hp,b1,m1⟩;refine⟨_,rfl,?_⟩;apply G _;apply jx func11 (Jl hp Tn.1 R7);rintro _ w2 ⟨sb,mb,n,S,X,rfl,hs,hX,hn,hS,b2⟩;refine⟨_,rfl,?_⟩;have j6:=hp.lt;have hp2:=hp.below b2;have xo:=b1.trans (b2.mono b1.size);have z1:=b1.size;have z2:=b2.size;have alb:=hs.pC.lt;apply G _;apply jx func39 (Qg (f:=k+2));rintro _ w3 ⟨rb,M',rfl,hr,b3,m3⟩;refine⟨_,rfl,?_⟩;have arP:=hr.lt;have z3:=b3.size;apply G _;apply jR [jV vb,jV sb,jV rb] jG;refine jO fun pb w4 f4=>?_;have v4:U paT w4 pb [.pointer (some ⟨vb,0,none⟩),.pointer (some ⟨sb,0,none⟩),.pointer (some ⟨rb,0,none⟩)]:=f4.blk;have e4:=f4.eq;have b4:=f4.below;clear f4;apply G _;apply WL.tk rfl rfl rfl rfl rfl rfl jG;apply G _;apply WL.tk rfl rfl rfl rfl rfl rfl jG;apply G _;have b34:=b3.trans (b4.mono b3.size);refine WQ.oU rfl rfl rfl ⟨pb,vb,sb,rb,mb,n,S,M,(fun _=>False),M',(fun _=>False),X,rfl,⟨v4,hp2.below b34,hr.below b4,hs.below b34,hX,Tn,R7,fun x hx=>⟨m1 x hx,fun h=>?_,fun h=>h⟩,fun x hx=>⟨by have:=m3 x hx;omega,fun h=>h⟩,fun x hx=>⟨by have:=hS x hx;omega,fun h=>?_,fun h=>?_⟩,⟨by omega,fun h=>?_,fun h=>?_,fun h=>?_⟩⟩,hn,xo.trans (b34.mono xo.size)⟩
 ·have:=m3 x h;have:=j6 x (.inl hx);omega
 ·rcases h with h|h
  ·have:=hS x hx;have:=j6 x (.inl h);omega
  ·exact h
 ·rcases h with h|h
  ·have:=m3 x h;have:=alb x hx;omega
  ·exact h
 ·have:=alb pb h;omega
 ·have:=j6 pb (.inl h);omega
 ·have:=arP pb (.inl h);omega
noncomputable def Rc (s:Vw.St)(L:List Ac):Vw.St:=if(mX s (tO s L)).1=0 then(mX s (tO s L)).2 else s
theorem Ci.old {n:Nat}{k:Nat}{s:Vw.St}{X:Bl}(h:Ci B w pb vb sb rb mb n S M D M' D' k s X N)(hB:B<=w.heap.size)(hk:Z (fun x=>x<w.heap.size/\¬S x/\¬M x/\¬M' x) w w'): Below B w w' :=
 (hk.mono fun x (hx:x<B)=>⟨I,fun hs=>by have:=(h.sm x hs).1;omega,fun hm=>by have:=(h.mm x hm).1;omega,fun hm=>by have:=(h.rm x hm).1;omega⟩:Z (fun x=>x<B) w w').below
theorem IX {n:Nat}{k:Nat}{s:Vw.St}{X:Bl}(h:Ci B w pb vb sb rb mb n S M D M' D' k s X N)(hB:B<=w.heap.size)(hn:n<=1000000000)(hE:∀x,E x->x<w.heap.size/\¬S x/\¬M x/\¬M' x){v:Value}{L:List Ac}(hv:pW E (k+2) w v L)(hL:∀x∈L,xn (k+2) x)(hl:L.length<=2000)(hN:N+4*L.length+4<=100000):
  Calls prog 16 #[jV pb,v] w fun e w'=>e=.returned (.bool true)/\(∃n1 S1 M1 D1 M2 D2 X1,Ci B w' pb vb sb rb mb n1 S1 M1 D1 M2 D2 k (Rc s L) X1 (N+4*L.length+4)/\n1<=n+1024)/\Z (fun x=>x<w.heap.size/\¬S x/\¬M x/\¬M' x) w w':=by
 obtain⟨Am,vZ,rfl,-⟩:=id hv;apply kq (args:=[jV pb,.slice Am L.length vZ]) func16 ntmps16;have c2:=h.blk.cell 2 jM;simp only[aA,al]at c2;apply jF _;apply jx func40 (Qo h.r h.inv.1.copy (fun x hx=>(hE x hx).1) hv hL I);rintro _ w5 ⟨b5,bc,rfl,RQ⟩;refine⟨_,rfl,?_⟩;have nE:MU (k+2) (tO s L):=PY hL I;have mL:(tO s L).jH.length=L.length:=BN _ _ _ _;have zn:Rc s L=if(mX s (tO s L)).1=0 then(mX s (tO s L)).2 else s:=rfl
 rw[zn];clear zn hv hL;have uR:=RQ.len;have ltM:=h.p.lt;have J8:=h.r.lt;have Sn:=h.set.pC.lt;have h5:=h.below b5;have z5:=b5.size;have Xn:=U.lt h.blk;refine jJ (z:=.agg (qT noB (kP)).toArray) (fun _=>jG) fun g8 w6 f6=>?_;apply jE (hm:=uR) f6.blk RQ.one;obtain⟨v8,b8,-,e8⟩:=nv bc (Below.refl w5.heap.size w5) f6;generalize w6.setRow g8 _=w7 at v8 b8 ⊢;clear f6;have h7:=h5.below b8;have y9:=Vw.pr.there (Vw.pr.below RQ b8);have z8:=b8.size;have c7:Z (fun x=>x<w.heap.size/\¬S x/\¬M x/\¬M' x) w w7:=(Z.jw (b5.kj b8)).mono fun x hx=>hx.1;have l8:=U.lt v8;have hEb:∀x,((E x\/w.heap.size<=x)/\x<w7.heap.size)->¬S x/\¬M x/\¬M' x:=fun x hx=>by
  rcases hx.1 with q|q
  ·exact(hE x q).2
  ·exact⟨fun hs=>by have:=Sn x hs;omega,fun hm=>by have:=ltM x (.inl hm);omega,fun hm=>by have:=J8 x (.inl hm);omega⟩
 have p7:¬S g8/\¬M g8/\¬M' g8:=⟨fun hs=>by have:=Sn g8 hs;omega,fun hm=>by have:=ltM g8 (.inl hm);omega,fun hm=>by have:=J8 g8 (.inl hm);omega⟩;clear RQ h5 b5 b8;generalize tO s L=b at *;have d0:=h7.blk.cell 0 jM;have d1:=h7.blk.cell 1 jM;have d2:=h7.blk.cell 2 jM;simp only[aA,al]at d0 d1 d2;have lp7:=U.lt h7.blk;apply G _;refine WC.drawn 6 (jP w7) fun wa kv=>?_;have hS:jP w7 wa:=kv.below _;clear kv;apply jC [0,1,2] hS _;apply jz 3 [4,6,7] (lX lp7 d2) hS;apply kG 5 [6,7] (fun wx hx=>U.rangeAt (U.below v8 hx l8)) uR hS;apply jS 4;apply jx func41 (BB (h7.r.below hS));rintro _ wb ⟨rb2,M3,rfl,EV,bb,m3⟩;refine⟨_,rfl,?_⟩;rw[show({ s with red:=Vw.qg s.rows s.red }:Vw.St)=s from by rw[h.inv.1.copy]]at EV;have pO:=hS.kj bb;have zS:=hS.size;apply lI pO;apply jS 6;apply jx func42 (Ap EV (fun x hx=>ao hx.2 pO.size) (Vw.pr.below y9 pO) nE I h.inv.1.copy);rintro _ w9 ⟨M4,D4,rfl,-,k9,-,-⟩;refine⟨_,rfl,?_⟩;have zS2:=pO.size;have Vx:=((Z.jw pO).trans (k9.mono fun x (hx:x<w7.heap.size)=>⟨I,fun hm=>by have:=m3 x hm;omega⟩)).below;apply(jZ);apply jS 7;apply(jN);apply(jZ);apply(jD);clear EV m3 k9 bb hS pO zS zS2;have z9:=Vx.size;have h9:=h7.below Vx;have c9:=c7.trans ((Z.jw Vx).mono fun x hx=>by have:=hx.1;omega);have G7:=Vw.pr.below y9 Vx;have v9:=U.below v8 Vx l8;clear d0 d1 d2 y9 v8
 by_cases mq:(mX s b).1=0
 case neg=>
  rw[aa mq];generalize (mX s b).1=ac at mq;apply G _;apply WC.sE rfl mq;apply G _;exact J ⟨rfl,⟨n,S,M,D,M',D',X,h9.mono I I,I⟩,c9⟩
 case pos=>
 rw[ag mq];apply G _;apply WC.q_ rfl (fun q=>q mq);have BV:∀e∈b.jH,Rg e.data:=fun e he=>by
  obtain⟨se,-,oG,-⟩:=G7;obtain⟨sp,cap,-,-,-,-,hr⟩:=oG;obtain⟨i,hi,rfl⟩:=bH he;obtain⟨bE,oE,-,-,-,hr⟩:=hr I;obtain⟨ec,-,⟨dc,-,CC,-⟩,-⟩:=hr i hi;rw[Vw.lR hi]at CC;exact⟨_,H9 CC.sN⟩
 have d0:=h9.blk.cell 0 jM;have d1:=h9.blk.cell 1 jM;simp only[aA,al]at d0 d1;have lp9:=U.lt h9.blk;have l9:=U.lt v9;apply G _;refine WC.drawn 9 (jP w9) fun wb kv=>?_;have hS:jP w9 wb:=kv.below _;clear kv;apply jC [0,1,2] hS _;apply jz 3 [9] (lX lp9 d1) hS;apply jC [4,5,6] hS _;apply jz 7 [9] (lX lp9 d0) hS;apply kG 8 [9] (fun wx hx=>U.rangeAt (U.below v9 hx l9)) uR hS;apply jS 9;have zS:=hS.size;have QV:=h9.below hS;have Mv:=Vw.pr.below G7 hS;have vb8:=U.below v9 hS l9;have cb:=c9.trans ((Z.jw hS).mono fun x hx=>by have:=hx.1;omega);clear d0 d1 hS h9 G7 v9 c9;apply kH func8 (TK QV.p h.inv h.RO QV.set h.has hn (fun x hx=>(h.sm x hx).2.1) (fun x hx=>by omega) Mv nE I mq BV);rintro wc ⟨n1,S1,X1,s1,hX1,yu,hS1,kc⟩
 apply(jZ);apply(jD);have zc:=kc.size;have p10:=QV.p.jA kc fun y hy=>⟨QV.p.lt y hy,fun hs=>(h.sm y hs).2.1 hy⟩;have r10:=QV.r.jA kc fun y hy=>⟨QV.r.lt y hy,fun hs=>(h.sm y hs).2.2 hy⟩;have G5:=U.jA QV.blk kc ⟨U.lt QV.blk,h.pm.2.1⟩;have v10:=U.jA vb8 kc ⟨U.lt vb8,p7.1⟩;have QC:=Vw.pr.jA Mv kc fun x hx _=>⟨I,(hEb x hx).1⟩;have Sq:=cb.trans (kc.mono fun x hx=>⟨by have:=hx.1;omega,hx.2.1⟩);have agp:∀x,S1 x->¬(M x\/D x)/\¬(M' x\/D' x)/\B<=x/\x<wc.heap.size:=fun x hx=>by
  have:=s1.pC.lt x hx;rcases hS1 x hx with q|q
  ·exact⟨(h.sm x q).2.1,(h.sm x q).2.2,(h.sm x q).1,this⟩
  ·exact⟨fun hm=>by have:=ltM x hm;omega,fun hm=>by have:=J8 x hm;omega,I,this⟩
 have avt:¬S1 pb:=fun hs=>(hS1 pb hs).elim h.pm.2.1 fun q=>I;clear QV Mv vb8 cb kc;apply G _;refine WC.drawn 13 (fun wx=>U paT wx pb [jV vb,jV sb,jV rb]/\U zq wx g8 bc) fun wd kv=>?_;have bd:jP wc wd:=kv.below _;clear kv;have hS:U paT wd pb [jV vb,jV sb,jV rb]/\U zq wd g8 bc:=⟨U.below G5 bd (U.lt G5),U.below v10 bd (U.lt v10)⟩;have zd:=bd.size;apply jC [0,1,2] hS _;apply jz 3 (mw 5 16) (fun wx hx=>show wx.cell? (Aq pb 0)=some (jV vb) from U.cell hx.1 0 jM) hS;apply kG 4 (mw 5 16) (fun wx hx=>U.rangeAt hx.2) uR hS;apply jS 5;have pd:=p10.below bd;have rd:=r10.below bd;have sd:=s1.below bd;have hbd:=Vw.pr.below QC bd;have cd:=Sq.trans ((Z.jw bd).mono fun x hx=>by have:=hx.1;omega);apply jx func22 (zE pd h.inv (fun x hx=>by omega) hbd nE I);rintro _ we ⟨M1,D1,rfl,pe,k1,Q_,hD1⟩;refine⟨_,rfl,?_⟩;rw[mq];have ze:=k1.size;have V6:U paT we pb [jV vb,jV sb,jV rb]/\U zq we g8 bc:=⟨U.jA hS.1 k1 ⟨U.lt hS.1,h.pm.2.2.1⟩,U.jA hS.2 k1 ⟨U.lt hS.2,p7.2.1⟩⟩;have re:=rd.jA k1 fun y hy=>⟨rd.lt y hy,fun hm=>hy.elim (h.mm y hm).2.1 (h.mm y hm).2.2⟩;have se:=sd.jA k1 fun y hy=>⟨sd.pC.lt y hy,fun hm=>(agp y hy).1 (.inl hm)⟩;have hbe:=Vw.pr.jA hbd k1 fun x hx _=>⟨I,(hEb x hx).2.1⟩;have ce:=cd.trans (k1.mono fun x hx=>⟨by have:=hx.1;omega,hx.2.2.1⟩);apply lI V6;clear hS pd rd sd hbd cd k1;have hS:=V6;apply jC [6,7,8,9,10] hS _;apply jz 11 [13,14,15,16] (fun wx hx=>show wx.cell? (Aq pb 2)=some (jV rb) from U.cell hx.1 2 jM) hS;apply kG 12 [13,14,15,16] (fun wx hx=>U.rangeAt hx.2) uR hS;apply jS 13;apply(jX);apply jx func42 (Ap re (fun x hx=>by omega) hbe nE I h.inv.1.copy);rintro _ wf ⟨M2,D2,rfl,rf,k2,Rb,hD2⟩;refine⟨_,rfl,?_⟩;rw[mq];apply(jZ)
 (apply ke 14 rfl _;apply ke 15 rfl _;apply ke 16 rfl _)
 apply(jD);have cf:=ce.trans (k2.mono fun x hx=>⟨by have:=hx.1;omega,hx.2.2.2⟩);have hmR:∀y,M1 y\/D1 y->¬M' y:=fun y hy hm=>by
  have:=J8 y (.inl hm);rcases hy with hy|hy
  ·rcases Q_ y hy with q|q
   ·exact(h.mm y q).2.1 hm
   ·omega
  ·rcases hD1 y hy with q|q
   ·exact(h.rm y hm).2 q
   ·omega
 have pf:=pe.jA k2 fun y hy=>⟨pe.lt y hy,hmR y hy⟩;have sf:=se.jA k2 fun y hy=>⟨se.pC.lt y hy,fun hm=>(agp y hy).2.1 (.inl hm)⟩;have ltP:=pe.lt;apply G _;refine J ⟨rfl,⟨n1,S1,M1,D1,M2,D2,X1,⟨U.jA V6.1 k2 ⟨U.lt V6.1,h.pm.2.2.2⟩,pf.mono I I,rf.mono I I,sf,hX1,yl h.inv b,IY h.RO mq BV,fun x hx=>?_,fun x hx=>?_,fun x hx=>?_,?_⟩,I⟩,cf⟩
 ·have h1:=ltP x (.inl hx)
  refine⟨?_,fun hm=>?_,fun hm=>?_⟩
  ·rcases Q_ x hx with q|q
   ·exact(h.mm x q).1
   ·omega
  ·rcases Rb x hm with q|q
   ·exact hmR x (.inl hx) q
   ·omega
  ·rcases hD2 x hm with q|q
   ·have:=J8 x (.inr q)
    rcases Q_ x hx with q2|q2
    ·exact(h.mm x q2).2.2 q
    ·omega
   ·omega
 ·rcases Rb x hx with q|q
  ·exact⟨(h.rm x q).1,fun hm=>hmR x (.inr hm) q⟩
  ·exact⟨I,fun hm=>by have:=ltP x (.inr hm);omega⟩
 ·obtain⟨q1,q2,q3,q4⟩:=agp x hx
  refine⟨q3,fun hm=>?_,fun hm=>?_⟩
  ·rcases hm with hm|hm
   ·rcases Q_ x hm with q|q
    ·exact q1 (.inl q)
    ·omega
   ·rcases hD1 x hm with q|q
    ·exact q1 (.inr q)
    ·omega
  ·rcases hm with hm|hm
   ·rcases Rb x hm with q|q
    ·exact q2 (.inl q)
    ·omega
   ·rcases hD2 x hm with q|q
    ·exact q2 (.inr q)
    ·omega
 ·refine⟨h.pm.1,avt,fun hm=>?_,fun hm=>?_⟩
  ·rcases Q_ pb hm with q|q
   ·exact h.pm.2.2.1 q
   ·omega
  ·rcases Rb pb hm with q|q
   ·exact h.pm.2.2.2 q
   ·omega
end Ix
namespace Ix
open K
theorem SV {v:Value}{l:oK}(h:m6 1 0 tl O w v l)(hi:i<l.length): ∃b o cap,v=nj b o l.length cap/\b<w.heap.size/\w.cell? (Aq b (o+i*1))=some (Iq (l.getD i 0)):=by
 obtain⟨sp,cap,rfl,-,-,-,hr⟩:=h;obtain⟨b,o,rfl,hb,-,hr⟩:=hr I;obtain⟨cs,-,e,ly⟩:=hr i hi;unfold tl at e;subst e;exact⟨b,o,cap,rfl,hb,ly 0 _ rfl⟩
theorem Ew {O1 O2:Nat->Prop}{v1 v2:Value}{l1 l2:oK}(h1:m6 1 0 tl O1 w v1 l1)(h2:m6 1 0 tl O2 w v2 l2):
  Calls prog 19 #[v1,v2] w fun e w'=>e=.returned (.bool (decide (l1=l2)))/\jP w w':=by
 obtain⟨zh,cp1,rfl,vN,rE,-⟩:=id h1;obtain⟨uS,OH,rfl,De,XF,-⟩:=id h2;apply kq (args:=[.slice zh l1.length cp1,.slice uS l2.length OH]) func19 ntmps19
 by_cases hlen:l1.length=l2.length
 case neg=>
  rw[ar (fun e=>hlen (by rw[e]))];apply G _;exact J ⟨rfl,Below.refl _ _⟩
 case pos=>
 apply G _;apply WC.loop (fun i:Nat=>[(0,.slice zh l1.length cp1),(1,.slice uS l2.length OH),(5,Iq i)]) (fun i w'=>i<=l1.length/\jP w w'/\l1.take i=l2.take i) (fun i=>l1.length - i) 0 kz ⟨ay _,Below.refl _ _,rfl⟩;rintro i wl ⟨hi,bl,ht⟩
 by_cases j6:i<l1.length
 case neg=>
  obtain rfl:i=l1.length:=I;rw[aN,hlen,aN]at ht;rw[aw ht];apply G _;exact J ⟨rfl,bl⟩
 case pos=>
 have zP:i<l2.length:=I;obtain⟨b1,o1,agj,es,lb1,R1⟩:=SV h1 j6;obtain⟨rfl,rfl⟩:zh=some (Aq b1 o1)/\cp1=agj:=by simpa using es
 clear es;obtain⟨b2,o2,afZ,es,lb2,R2⟩:=SV h2 zP;obtain⟨rfl,rfl⟩:uS=some (Aq b2 o2)/\OH=afZ:=by simpa using es
 clear es;have Kh:l1.take (i+1)=l1.take i++[l1.getD i 0]:=by rw[aK,ai j6,Vw.lR j6];rfl
 have KC:l2.take (i+1)=l2.take i++[l2.getD i 0]:=by rw[aK,ai zP,Vw.lR zP];rfl
 have mE:l1.getD i 0≠l2.getD i 0->l1≠l2:=fun h e=>h (by rw[e]);generalize l1.getD i 0=x at R1 Kh mE;generalize l2.getD i 0=y at R2 KC mE;apply G _;refine WC.drawn 8 (jP w) fun wa kv=>?_;have hS:=bl.trans (kv.below _);apply jC [0,1] hS _;apply kY 2 i (o1+i*1) j6 (.inr hS);apply jz 3 [8] (lX lb1 R1) hS;apply jC [4,5] hS _;apply kY 6 i (o2+i*1) zP (.inr hS);apply jz 7 [8] (lX lb2 R2) hS;apply jS 8;apply(jN);apply(jZ);apply(jD)
 by_cases hxy:x=y
 ·apply G _
  apply WC.q_ rfl (fun q=>q hxy);apply G _;exact WQ.again (i+1) kz ⟨j6,hS,by rw[Kh,KC,ht,hxy]⟩ I
 ·rw[ar (mE hxy)]
  apply G _;apply WC.sE rfl hxy;apply G _;exact J ⟨rfl,hS⟩
end Ix
namespace Ix
open K (En Bk zV lQ mz kQ m4 qL zW mJ oY)
open Vw (St Rw Ac uO rowOf m0 entR runR mX tO actsR fits nT F3 OI E9 al2 afk Uq)
def rP:V:=.mk 3 5 0 kZ [] []
def Ig:V:=.mk 4 55 1 kZ [] []
def dA:V:=.mk 9 0 0 kZ [⟨#[97]⟩] [rP]
def dB:V:=.mk 9 0 0 kZ [⟨#[97]⟩] [Ig]
def It:Ac:=⟨6,1,0,0,zV,⟨#[97]⟩,kQ⟩
def FL:Ac:=⟨0,1,0,0,dA,⟨#[]⟩,kQ⟩
def O3:Ac:=⟨0,1,0,0,dB,⟨#[]⟩,kQ⟩
def jL:List Ac:=[E9,It,FL,O3]
def Gv:En:={ kQ with kind:=7,table:=1,text:=⟨#[97]⟩}
def Ao:En:={ kQ with kind:=2,table:=1,doc:=1,data:=dA,hash:=mz dA }
def Bg:En:={ kQ with kind:=2,table:=1,doc:=2,data:=dB,hash:=mz dB }
def jB:Bk:=⟨0,0,0,Dig.nA,[F3,Gv,Ao,Bg]⟩
def I2:St:={ uO with cat:=[⟨⟨#[116]⟩,false,[⟨#[97]⟩]⟩]}
def jR0:Rw:=rowOf Ao 0 2 0
def jR1:Rw:=rowOf Bg 0 3 0
def OK:St:={ I2 with rows:=[jR0]}
def jS3:St:={ I2 with rows:=[jR0,jR1]}
def CM:St:={ jS3 with n:=1 }
theorem atb: m0 OI It=Gv:=by
 unfold m0;rw[aa lZ,aa lZ,aa lZ,aa lZ,aa lZ,aa lZ,ag (show It.kind=6 from rfl)]
 rfl
theorem ale: entR OI Gv 0 1 0=(0,I2):=by
 have hc:Cat.mu OI.cat Gv.kind Gv.text Gv.table=0:=by decide
 have hl:Cat.oV OI.cat Gv.kind Gv.text Gv.table=[⟨⟨#[116]⟩,false,[⟨#[97]⟩]⟩]:=by unfold Cat.oV;rw[ag hc];rfl
 unfold entR;rw[aa (by rw[hc];decide),aa lZ,aa lZ,hl]
 rfl
theorem aqC: m0 I2 FL=Ao:=by
 unfold m0;rw[ag (show FL.kind=0 from rfl)]
 rfl
theorem alS: entR I2 Ao 0 2 0=(0,OK):=by
 unfold entR;rw[aa (show ¬Cat.mu I2.cat Ao.kind Ao.text Ao.table≠0 by decide),ag (show Ao.kind=2\/Ao.kind=3 from .inl rfl),aa (show ¬((Cat.kM I2.cat Ao.table).2.2≠0\/(Cat.kM I2.cat Ao.table).2.1.dropped=true\/fits I2 Ao=false) by decide)]
 rfl
theorem asX: m0 OK O3=Bg:=by
 unfold m0;rw[ag (show O3.kind=0 from rfl)]
 rfl
theorem auL: entR OK Bg 0 3 0=(0,jS3):=by
 unfold entR;rw[aa (show ¬Cat.mu OK.cat Bg.kind Bg.text Bg.table≠0 by decide),ag (show Bg.kind=2\/Bg.kind=3 from .inl rfl),aa (show ¬((Cat.kM OK.cat Bg.table).2.2≠0\/(Cat.kM OK.cat Bg.table).2.1.dropped=true\/fits OK Bg=false) by decide)]
 rfl
theorem aiZ: tO uO jL=jB:=by
 unfold tO
 show(⟨0,7*((0:Nat):Int),0,Dig.nA,(actsR 0 [E9,It,FL,O3] 0 uO).1⟩:Bk)=jB
 unfold actsR actsR actsR actsR actsR;simp only[al2,Int.natCast_zero,jr,bA];have h1:(entR uO F3 ((0:Nat):Int) ((0:Nat):Int) (7*((0:Nat):Int))).2=OI:=congrArg Prod.snd afk;have h2:(entR OI Gv ((0:Nat):Int) ((1:Nat):Int) (7*((0:Nat):Int))).2=I2:=congrArg Prod.snd ale;have h3:(entR I2 Ao ((0:Nat):Int) ((1+1:Nat):Int) (7*((0:Nat):Int))).2=OK:=congrArg Prod.snd alS;simp only[Int.natCast_zero,jr]at h1 h2 h3;rw[h1,atb,h2,aqC,h3,asX]
 rfl
theorem ao6: runR jB jB.jH 0 uO=(0,jS3):=by
 show runR jB [F3,Gv,Ao,Bg] 0 uO=_
 have h1:entR uO F3 jB.index ((0:Nat):Int) jB.time=(0,OI):=afk;have h2:entR OI Gv jB.index ((0+1:Nat):Int) jB.time=(0,I2):=ale;have h3:entR I2 Ao jB.index ((0+1+1:Nat):Int) jB.time=(0,OK):=alS;have h4:entR OK Bg jB.index ((0+1+1+1:Nat):Int) jB.time=(0,jS3):=auL;unfold runR;rw[h1,ag rfl];unfold runR;rw[h2,ag rfl];unfold runR;rw[h3,ag rfl];unfold runR;rw[h4,ag rfl]
 rfl
theorem agh: lQ Gv:=by
 unfold lQ;rw[aa lZ,aa lZ,aa lZ,aa lZ,ag (.inr rfl)];exact⟨by decide,by decide,by decide,by decide,rfl,rfl,rfl,rfl,rfl,rfl,rfl,rfl⟩
theorem aic: lQ Ao:=by
 unfold lQ;rw[aa lZ,ag (show Ao.kind=2 from rfl)];exact⟨by decide,by decide,by decide,⟨by decide,rfl,rfl,rfl,rfl,rfl,rfl,rfl,rfl⟩,fun h=>by cases h⟩
theorem aer: lQ Bg:=by
 unfold lQ;rw[aa lZ,ag (show Bg.kind=2 from rfl)];exact⟨by decide,by decide,by decide,⟨by decide,rfl,rfl,rfl,rfl,rfl,rfl,rfl,rfl⟩,fun h=>by cases h⟩
theorem ajU: (mJ dA).2=0:=by decide +kernel
theorem aiB: (mJ dB).2=0:=by decide +kernel
theorem amQ: qL jB=0:=by
 have h1:m4 F3=0:=by unfold m4;rw[ag Uq,ag (.inl lZ)]
 have h2:m4 Gv=0:=by unfold m4;rw[ag agh,ag (.inl lZ)]
 have h3:m4 Ao=0:=by unfold m4;rw[ag aic,aa lZ,aa (show ¬(mJ Ao.data).2≠0 from fun h=>h ajU),ag (show mz Ao.data=Ao.hash from rfl)]
 have h4:m4 Bg=0:=by unfold m4;rw[ag aer,aa lZ,aa (show ¬(mJ Bg.data).2≠0 from fun h=>h aiB),ag (show mz Bg.data=Bg.hash from rfl)]
 have hl:¬262144<(zW true jB).length:=by decide +kernel
 unfold qL;rw[ag lZ,aa (by simp[jB,firstBad,h1,h2,h3,h4]),aa hl]
theorem M8: mX uO jB=(0,CM):=by
 unfold mX;rw[aa (show ¬jB.index≠(uO.n:Int) from fun h=>h rfl),aa (fun h=>h amQ),ao6,ag rfl]
 rfl
theorem aix: nT CM 1=[jR0,jR1]:=by rfl
theorem Q8: Cat.has CM.cat 1 ⟨#[97]⟩=true:=by decide
theorem aeH: chk 16 rP=0:=by decide
theorem rg5: Rg rP:=⟨1,by show(5:Int).natAbs<10 ^ 20;decide,fun _ h=>by cases h⟩
theorem aoL: K.ordV 16 rP Ig<0:=by decide +kernel
theorem ap_: ¬K.ordV 16 Ig rP=0:=by decide +kernel
theorem SQ (n:Int): lS CM 1 n=if n=1 then some dA else if n=2 then some dB else none:=by
 have hi:Vw.Inv CM:=by
  have:=(Vw.yl Vw.Tn jB).1
  rwa [M8]at this
 rw[<-BD hi,aix];unfold vW
 by_cases h1:n=1
 ·subst h1;rfl
 ·by_cases h2:n=2
  ·subst h2;rfl
  ·rw[aa h1,aa h2]
   have e1:jR0.doc=1:=rfl;have e2:jR1.doc=2:=rfl;simp only[gA,List.find?_nil,e1,e2];rw[ar (fun e=>h1 e.symm),ar (fun e=>h2 e.symm)]
   rfl
theorem aid: u7 ⟨#[97]⟩ (lS CM 1) [(1,rP),(2,Ig)]:=⟨by
 refine bT.2 ⟨fun b hb=>?_,iD _ _⟩;obtain rfl:=bn.1 hb;exact .inl aoL,fun h=>by
 rw[SQ]
 constructor
 ·intro hm
  rcases ax.1 hm with rfl|hm
  ·exact⟨dA,rfl,rfl⟩
  ·obtain rfl:=bn.1 hm
   exact⟨dB,rfl,rfl⟩
 ·rintro⟨d,q1,q2⟩
  obtain⟨n,v⟩:=h;simp only at q1 q2
  by_cases h1:n=1
  ·rw[ag h1]at q1
   cases q1
   have:fldR dA ⟨#[97]⟩=some rP:=rfl;rw[this]at q2;cases q2
   subst h1;simp
  ·rw[aa h1]at q1
   by_cases h2:n=2
   ·rw[ag h2]at q1
    cases q1
    have:fldR dB ⟨#[97]⟩=some Ig:=rfl;rw[this]at q2;cases q2
    subst h2;simp
   ·rw[aa h2]at q1
    cases q1⟩
end Ix
namespace Ix
open K
open Vw (Ac xn pW OD LP pI Kb zZ E9 nv GV ac4 VU JJ)
abbrev vaT:Nat:=25
def stV (u:V):V:=.mk 9 0 0 kZ [⟨#[97]⟩] [u]
theorem U7 {cu:kL}(hu:lz O (f+1) w u cu)(hO:∀b,O b->b<w.heap.size):
  Calls prog 37 #[.agg cu.toArray] w fun e w'=>∃cs,e=.returned (.agg cs.toArray)/\lz (fun b=>O b\/w.heap.size<=b) (f+2) w' (stV u) cs/\jP w w':=by
 have SK:=hu.len;have huo:=hu.one;apply kq (args:=[.agg cu.toArray]) func37 ntmps37;apply mA _;refine jO fun g1 w1 f1=>?_;have v1:U vaT w1 g1 cu:=f1.blk;have b1:=f1.below;clear f1;refine jJ (z:=.agg jK.toArray) (fun _=>jG) fun g2 w2 f2=>?_;have v2:U vaT w2 g2 jK:=f2.blk;have e2:=f2.eq;have s2:=f2.size;have v1b:=U.below v1 f2.below (U.lt v1);have b2:=b1.kj f2.below;have z1:=b1.size;clear f2 v1 b1;apply G _;refine lh (hs:=lZ) (cs:=[.string ⟨#[97]⟩]) fun g3 w3 f3=>?_;have v3:U 9 w3 g3 [.string ⟨#[97]⟩]:=f3.blk;have e3:=f3.eq;have s3:=f3.size;have v2b:=U.below v2 f3.below (U.lt v2);have v1c:=U.below v1b f3.below (U.lt v1b);have z2:=b2.size;have b3:=b2.trans (f3.below.mono z2);clear f3 v1b v2 b2;apply jy (m:=6) (U.rangeAt v1c) SK;refine lh (hcs:=SK) (hs:=lZ) (cs:=cu) fun g4 w4 f4=>?_;have v4:U vaT w4 g4 cu:=f4.blk;have e4:=f4.eq;have s4:=f4.size;have v2c:=U.below v2b f4.below (U.lt v2b);have v3b:=U.below v3 f4.below (U.lt v3);have z3:=b3.size;have b4:=b3.trans (f4.below.mono z3);clear f4 v1c v2b v3 b3;apply jR [Iq 9,Iq 0,Iq 0,.string ⟨#[]⟩,nj g3 0 1 1,nj g4 0 1 1] jG;refine WL.o7 rfl rfl rfl rfl rfl rfl v2c rfl rfl (by intro q hq;simp at hq;rcases hq with rfl|rfl|rfl|rfl|rfl|rfl<;>rfl) ?_;have v5:=U.setRow v2c [Iq 9,Iq 0,Iq 0,.string ⟨#[]⟩,nj g3 0 1 1,nj g4 0 1 1];have kk:Z (fun x=>x≠g2) w4 (w4.setRow g2 [Iq 9,Iq 0,Iq 0,.string ⟨#[]⟩,nj g3 0 1 1,nj g4 0 1 1].toArray):=Cr.mo (Z.refl _ _) (fun hh=>hh rfl) _;generalize w4.setRow g2 _=w5 at v5 kk ⊢;have z4:=b4.size;have b5:=((Z.jw b4).trans (kk.mono fun x (hx:x<w.heap.size)=>by show x≠g2;omega)).below;have v3c:=U.jA v3b kk (by show g3≠g2;omega);have v4c:=U.jA v4 kk (by show g4≠g2;omega);apply G _;refine WQ.vJ rfl rfl rfl rfl v5 ⟨_,rfl,⟨_,_,rfl,(show(Lit.int .i64 9).wf=true by decide),(show(Lit.int .i64 0).wf=true by decide),(show(Lit.int .i64 0).wf=true by decide),(show(kZ:lD).size<=140737488355328 by decide),?_,?_⟩,b5⟩
 ·refine⟨some (Aq g3 0),1,rfl,aj _,I,(fun h=>by cases h),fun _=>⟨g3,0,rfl,U.lt v3c,.inr I,fun j hj=>?_⟩⟩
  have Za:j=0:=by have:j<1:=hj;omega
  subst Za;exact⟨[.string ⟨#[97]⟩],rfl,⟨rfl,(show(⟨#[97]⟩:lD).size<=140737488355328 by decide)⟩,U.rangeAt v3c⟩
 ·refine⟨some (Aq g4 0),1,rfl,aj _,I,(fun h=>by cases h),fun _=>⟨g4,0,rfl,U.lt v4c,.inr I,fun j hj=>?_⟩⟩
  have Za:j=0:=by have:j<1:=hj;omega
  subst Za;exact⟨cu,SK,hu.jA (Z.jw b5) (fun x hx _=>hO x hx) (fun x hx=>.inl hx),U.rangeAt v4c⟩
theorem Ci.len {n:Nat}{k:Nat}{s:Vw.St}{X:Bl}(h:Ci B w pb vb sb rb mb n S M D M' D' k s X N): ∀x t,X x=some t->t.L.length<=1000000:=fun x t e=>by
 have hN:s.rows.length<=1000000:=by obtain⟨_,_,_,_,_,_,_,_,hp⟩:=h.p;have:=hp.ok;omega
 exact Wj (h.set.pC.is x t e).2 fun m d hm=>by have:=I4 h.inv.1 hm;omega
def Rv:kL:=[Iq 3,Iq 5,Iq 0,.string ⟨#[]⟩,kP,kP]
def afL:kL:=[Iq 4,Iq 55,Iq 1,.string ⟨#[]⟩,kP,kP]
theorem Ia (O:Nat->Prop)(f:Nat)(w:World): lz O (f+1) w rP Rv:=BZ (k:=3) (n:=5) (s:=0) (t:=kZ) I I I lZ
theorem akf (O:Nat->Prop)(f:Nat)(w:World): lz O (f+1) w Ig afL:=BZ (k:=4) (n:=55) (s:=1) (t:=kZ) I I I lZ
theorem GJ (O:Nat->Prop)(f:Nat)(w:World): N5 O (f+1) w kQ (km kQ jK):=VU rfl rfl JJ ⟨by show lV 0;omega,by show lV 0;omega,by show lV 0;omega,by show lV 0;omega,by show lV 0;omega,by show lV 0;omega⟩
theorem Ip (f:Nat): qS (f+1) zV:=⟨by show(0:Nat)<=_;omega,by show(0:Nat)<=_;omega,fun x hx=>by cases hx⟩
theorem ahM (h:qS (f+1) u): qS (f+2) (stV u):=⟨by show(1:Nat)<=_;omega,by show(1:Nat)<=_;omega,fun x hx=>by rw[bn.1 (show x∈[u] from hx)];exact h⟩
theorem alC (h:Sm 3000 (f+1) u): Sm 3000 (f+2) (stV u):=⟨by show(1:Nat)<=3000;omega,by show(1:Nat)<=3000;omega,fun x hx=>by rw[bn.1 (show x∈[u] from hx)];exact h⟩
theorem adG (f:Nat)(k n s:Int): qS (f+1) (.mk k n s kZ [] []):=⟨by show(0:Nat)<=_;omega,by show(0:Nat)<=_;omega,fun x hx=>by cases hx⟩
theorem alo (f:Nat)(k n s:Int): Sm 3000 (f+1) (.mk k n s kZ [] []):=⟨by show(0:Nat)<=3000;omega,by show(0:Nat)<=3000;omega,fun x hx=>by cases hx⟩
theorem afc {v:V}(h:(encV 16 v).length<=65536): (encV 16 v).length<=70368744177664:=I
theorem anf (f:Nat): ∀x∈jL,xn (f+2) x:=by
 intro x hx;have hz:(encV 16 zV).length<=70368744177664:=afc lZ;simp only[jL,ax,a_,eJ]at hx;rcases hx with rfl|rfl|rfl|rfl
 ·exact⟨GV (f+1),GV (f+1),fun _=>hz,fun _=>hz⟩
 ·exact⟨GV (f+1),GV (f+1),fun _=>hz,fun _=>hz⟩
 ·exact⟨alC (alo f 3 5 0),GV (f+1),fun _=>afc (show(encV 16 dA).length<=65536 by decide +kernel),fun _=>hz⟩
 ·exact⟨alC (alo f 4 55 1),GV (f+1),fun _=>afc (show(encV 16 dB).length<=65536 by decide +kernel),fun _=>hz⟩
theorem akk: Rc Vw.uO jL=CM:=by
 unfold Rc;rw[aiZ,M8]
 rfl
theorem aaw: chk 16 rP=0->(nC 16 [rP]).length<=70368744177664:=fun _=>by
 have:(nC 16 [rP]).length<=2000000:=by decide +kernel
 omega
theorem Rm: chk 16 zV=0->(nC 16 [zV]).length<=70368744177664:=fun h=>by exact absurd h lZ
section
variable {w:World}{sb mb n:Nat}{S:Nat->Prop}{X:Bl}
theorem ZX (hX:∀x,(X x).isSome=Cat.has CM.cat x.1 x.2): ∃t,X (1,⟨#[97]⟩)=some t:=by
 have:=hX (1,⟨#[97]⟩);rw[show Cat.has CM.cat (1,(⟨#[97]⟩:lD)).1 (1,(⟨#[97]⟩:lD)).2=true from Q8]at this;exact iy.1 this
theorem akY: Gd (lS CM 1):=by
 have hi:Vw.Fv CM:=by
  have:=Vw.yl Vw.Tn jB
  rwa [M8]at this
 have hd:sH CM:=by
  have:=IY R7 (b:=jB) (by rw[M8]) fun e he=>by
   simp only[jB,ax,a_,eJ]at he;rcases he with rfl|rfl|rfl|rfl
   ·exact Rs
   ·exact Rs
   ·exact⟨2,by show(0:Int).natAbs<10 ^ 20;decide,fun x hx=>by rw[bn.1 (show x∈[rP] from hx)];exact⟨by show(5:Int).natAbs<10 ^ 20;decide,fun _ h=>by cases h⟩⟩
   ·exact⟨2,by show(0:Int).natAbs<10 ^ 20;decide,fun x hx=>by rw[bn.1 (show x∈[Ig] from hx)];exact⟨by show(55:Int).natAbs<10 ^ 20;decide,fun _ h=>by cases h⟩⟩
  rwa [M8]at this
 exact sA hi.1 hd lZ 1
theorem au4 (h:qY w sb mb n S X (gS CM))(hX:∀x,(X x).isSome=Cat.has CM.cat x.1 x.2){hi:lD}(qZ:hi.toList=Ord.Aa (Ord.strip (sO rP).toList)): Kv X 1 ⟨#[97]⟩ rP hi=[1]:=by
 obtain⟨t,ht⟩:=ZX hX;unfold Kv;rw[ht];simp only
 rw[ag aeH];refine aid.equal akY (h.pC.is _ _ ht).2 aeH rg5 qZ (iD _ _) fun n=>?_;rw[SQ,bn]
 constructor
 ·rintro rfl
  exact⟨dA,rP,rfl,rfl,abG aeH rg5⟩
 ·rintro⟨d,v,q1,q2,q3⟩
  by_cases h1:n=1
  ·exact h1
  ·rw[aa h1]at q1
   by_cases h2:n=2
   ·rw[ag h2]at q1
    cases q1
    have:fldR dB ⟨#[97]⟩=some Ig:=rfl;rw[this]at q2;cases q2
    exact(ap_ q3).elim
   ·rw[aa h2]at q1
    cases q1
theorem aql (h:qY w sb mb n S X (gS CM))(hX:∀x,(X x).isSome=Cat.has CM.cat x.1 x.2): Ks X 1 ⟨#[97]⟩ rP zV=[1,2]:=by
 obtain⟨t,ht⟩:=ZX hX;unfold Ks;rw[ht];simp only
 rw[aid.range akY (h.pC.is _ _ ht).2 rg5 Rs];have b1:HU rP zV rP=true:=by decide +kernel
 have b2:HU rP zV Ig=true:=by decide +kernel
 simp[b1,b2]
end
end Ix
namespace Ix
open K Tre
open Vw (qx Inv iT nT)
theorem ae0 {s:Vw.St}{X:Bl}{t:Int}{f:lD}{tx:Tx}(hX:X (t,f)=some tx)(hi:Inv s)(hd:sH s)(hl:s.rows.length<=1000000000)(hL:sV f (lS s t) tx.L){H:List Au}(hH:u7 f (lS s t) H)(rx:Rg x)(ry:Rg y){q:lD}(hq:q.toList=Ord.Aa (Ord.strip (sO x).toList)):
  Kv X t f x q=(if chk 16 x=0 then Dl f x (nT s t) else[])/\Ks X t f x y=J_ x y H/\tx.L.length=H.length:=by
 have hg:=sA hi hd hl t;refine⟨?_,?_,(hH.len hg hL).symm⟩
 ·unfold Kv
  rw[hX];simp only
  by_cases hc:chk 16 x=0
  ·rw[ag hc,ag hc]
   exact hH.equal hg hL hc rx hq (aeB (Qz s t)) fun n=>aen hi n
  ·rw[aa hc,aa hc]
 ·unfold Ks
  rw[hX];exact hH.range hg hL rx ry
theorem F1 {n:Nat}{k:Nat}{s:Vw.St}{X:Bl}(h:Ci B w pb vb sb rb mb n S M D M' D' k s X N){QT mb2 n2:Nat}{S2:Nat->Prop}{X2:Bl}(hs:qY w QT mb2 n2 S2 X2 (gS s))(hlen:∀x t,X2 x=some t->t.L.length<=1000000)(JD:∀x,(X2 x).isSome=Cat.has s.cat x.1 x.2){t:Int}{f:ByteArray}(mq:Cat.vI (t,f)){cs rU:List Value}(hx:mj (g+1) w x cs)(hy:mj (g+1) w y rU)(nO:chk 16 x=0->(nC 16 [x]).length<=70368744177664)(xl:chk 16 y=0->(nC 16 [y]).length<=70368744177664):
  Calls prog 20 #[.pointer (some ⟨pb,0,none⟩),.pointer (some ⟨QT,0,none⟩),.int .i64 t,.string f,.agg cs.toArray,.agg rU.toArray] w fun e w'=>e=.returned (.bool true)/\Below w.heap.size w w':=by
 have rx:Rg x:=⟨_,H9 hx⟩;have ry:Rg y:=⟨_,H9 hy⟩;have hi:=h.inv.1;have hd:=h.RO;have hN:s.rows.length<=1000000:=by obtain⟨_,_,_,_,_,hp⟩:=id h.r;have:=hp.ok;omega
 have vR:=hx.len;have QR:=hy.len;have Xn:=U.lt h.blk;have FZ:=JD (t,f);refine kq (args:=[.pointer (some ⟨pb,0,none⟩),.pointer (some ⟨QT,0,none⟩),.int .i64 t,.string f,.agg cs.toArray,.agg rU.toArray]) func20 ntmps20 (h:=?_);apply mA _;refine jO fun g1 w1 f1=>?_;have v1:U V8 w1 g1 cs:=f1.blk;have b1:=f1.below;clear f1;have l1:=U.lt v1;refine jO fun g2 w2 f2=>?_;have v2:U V8 w2 g2 rU:=f2.blk;have b2:=f2.below;clear f2;have u1:=U.below v1 b2 l1;have uV:=b1.trans (b2.mono b1.size);have z2:=uV.size;clear v1 b1 b2 l1;have l1:=U.lt u1;have l2:=U.lt v2;have V1:∀wx,Below w2.heap.size w2 wx->wx.rangeAt g1 0 cs:=fun wx q=>U.rangeAt (U.below u1 q l1);have V2:∀wx,Below w2.heap.size w2 wx->wx.rangeAt g2 0 rU:=fun wx q=>U.rangeAt (U.below v2 q l2);have P:∀wx,Below w2.heap.size w2 wx->Below w.heap.size w wx:=fun wx q=>uV.trans (q.mono z2);have c2:=fun wx q=>by
  have:=((h.below (P wx q)).blk).cell 2 (by simp)
  simpa only[aA,al] using this
 clear u1 v2;apply G _;apply jy (V1 _ (Below.refl _ _)) vR;apply G _;apply jx func9 (Jr (hs.below uV) hlen mq (hx.below uV) nO);rintro _ w3 ⟨hq,hqq,b3,va,rfl,Ge⟩;refine⟨_,rfl,?_⟩;have z3:=b3.size;apply G _;refine WC.drawn 7 (fun wx=>Below w2.heap.size w2 wx) fun w4 kv=>?_;have hS:=b3.trans ((kv.below w3.heap.size).mono z3);replace Ge:=Ge.jA (P':=tl) (Z.jw (kv.below w3.heap.size)) (fun _ _ hl=>hl) (fun _ h=>h) (fun _ _ h=>h);clear kv b3;apply jC [0,1,2] hS _;apply jz 3 [7,8,9,10,11,12] (fun wx hx=>c2 wx hx) hS;apply jC [4,5] hS _;apply kG 6 [7,8,9,10,11,12] (fun wx hx=>V1 wx hx) vR hS;apply jS 7;apply jx func45 (SW (h.r.below (P _ hS)) hi hd t f (hx.below (P _ hS)));rintro _ w5 ⟨b5,vb,rfl,Oo⟩;refine⟨_,rfl,?_⟩;replace Ge:=Ge.jA (P':=tl) (Z.jw b5) (fun _ _ hl=>hl) (fun _ h=>h) (fun _ _ h=>h);have c5:=hS.trans (b5.mono hS.size);clear hS b5;apply(jZ)
 (apply ke 8 rfl _;apply ke 9 rfl _;apply ke 10 rfl _;apply ke 11 rfl _;apply ke 12 rfl _)
 apply(jD);have z5:=c5.size;apply G _;apply jy (V1 _ c5) vR;apply jy (V2 _ c5) QR;apply G _;apply jx func10 (JN (hs.below (P _ c5)) hlen mq (hx.below (P _ c5)) (hy.below (P _ c5)) nO xl);rintro _ w6 ⟨b6,vc,rfl,O7⟩;refine⟨_,rfl,?_⟩;replace Ge:=Ge.jA (P':=tl) (Z.jw b6) (fun _ _ hl=>hl) (fun _ h=>h) (fun _ _ h=>h);replace Oo:=Oo.jA (P':=tl) (Z.jw b6) (fun _ _ hl=>hl) (fun _ h=>h) (fun _ _ h=>h);have c6:=c5.trans (b6.mono z5);clear b6;apply G _;refine WC.drawn 8 (fun wx=>Below w2.heap.size w2 wx) fun w7 kv=>?_;have b7:=kv.below w6.heap.size;have hS:=c6.trans (b7.mono c6.size);replace Ge:=Ge.jA (P':=tl) (Z.jw b7) (fun _ _ hl=>hl) (fun _ h=>h) (fun _ _ h=>h);replace Oo:=Oo.jA (P':=tl) (Z.jw b7) (fun _ _ hl=>hl) (fun _ h=>h) (fun _ _ h=>h);replace O7:=O7.jA (P':=tl) (Z.jw b7) (fun _ _ hl=>hl) (fun _ h=>h) (fun _ _ h=>h);clear kv b7;apply jC [0,1,2] hS _;apply jz 3 [8,9,10,11,12,13] (fun wx hx=>c2 wx hx) hS;apply jC [4,5] hS _;apply kG 6 [8,9,10,11,12,13] (fun wx hx=>V1 wx hx) vR hS;apply kG 7 [8,9,10,11,12,13] (fun wx hx=>V2 wx hx) QR hS;apply jS 8;apply jx func46 (U3 (h.r.below (P _ hS)) hi hd t f (hx.below (P _ hS)) (hy.below (P _ hS)));rintro _ w8 ⟨ld,⟨b8,vd,rfl,eld⟩,hld,alc⟩;refine⟨_,rfl,?_⟩;replace Ge:=Ge.jA (P':=tl) (Z.jw b8) (fun _ _ hl=>hl) (fun _ h=>h) (fun _ _ h=>h);replace Oo:=Oo.jA (P':=tl) (Z.jw b8) (fun _ _ hl=>hl) (fun _ h=>h) (fun _ _ h=>h);replace O7:=O7.jA (P':=tl) (Z.jw b8) (fun _ _ hl=>hl) (fun _ h=>h) (fun _ _ h=>h);have c8:=hS.trans (b8.mono hS.size);clear hS b8 c6 c5;apply(jZ)
 (apply ke 9 rfl _;apply ke 10 rfl _;apply ke 11 rfl _;apply ke 12 rfl _;apply ke 13 rfl _)
 apply(jD);have z8:=c8.size;obtain⟨rc,d0,hrh⟩:=RL (h.r.below (P _ c8)) t f;have d2:=c2 _ c8;apply jF _;apply jx func17 hrh;rintro _ w8 ⟨rfl,rfl⟩;refine⟨_,rfl,?_⟩;clear hrh;have J3:(X2 (t,f)).isSome=Cat.has s.cat t f:=FZ;obtain⟨nn,UR⟩:∃nn:Nat,(match X2 (t,f) with|some x=>x.L.length|none=>0)=nn:=⟨_,rfl⟩;rw[J3];have aqf:∀wx,Below w2.heap.size w2 wx->Calls prog 12 #[.pointer (some ⟨QT,0,none⟩),.int .i64 t,.string f] wx fun e w'=>e=.returned (.int .i64 (nn:Int))/\w'=wx:=fun wx q=>(IQ (hs.below (P _ q)) mq).mono fun e w' r=>⟨r.1.trans (congrArg (fun k:Nat=>Ending.returned (.int .i64 (k:Int))) UR),r.2⟩;apply WL.nil;apply WQ.then rfl;refine WC.tn (fun m:Nat=>[(1,.pointer (some ⟨QT,0,none⟩)),(2,.int .i64 t),(3,.string f),(13,va),(14,.bool (Cat.has s.cat t f)),(15,vb),(16,.bool (Cat.has s.cat t f)),(17,vc),(18,.bool (Cat.has s.cat t f)),(19,vd),(20,.bool (Cat.has s.cat t f)),(21,.int .i64 (m:Int))])
  (fun m wx=>Below w8.heap.size w8 wx/\m=nn/\Kv X2 t f x hq=(if Cat.has s.cat t f=true then(if chk 16 x=0 then Dl f x (nT s t) else[]) else[])/\Ks X2 t f x y=ld) rfl ?_ ?_
 ·cases hb:Cat.has s.cat t f with
  | false=>
   have hX:X2 (t,f)=none:=by
    rw[hb]at J3;cases q:X2 (t,f) with
    | none=>rfl
    | some _=>rw[q]at J3;cases J3
   have e0:nn=0:=by rw[<-UR,hX]
   apply G _;exact WQ.meet 0 ⟨rfl,rfl,rfl,rfl,rfl,rfl,rfl,rfl,rfl,rfl,rfl,rfl,trivial⟩ ⟨Below.refl _ _,e0.symm,by unfold Kv;rw[hX];rfl,by unfold Ks;rw[hX,alc hb]⟩
  | true=>
   obtain⟨tx,hX⟩:∃tx,X2 (t,f)=some tx:=by
    rw[hb]at J3;cases q:X2 (t,f) with
    | none=>rw[q]at J3;cases J3
    | some u=>exact⟨u,rfl⟩
   obtain⟨H,hH,rfl⟩:=hld hb;have hL:sV f (lS s t) tx.L:=(hs.pC.is _ _ hX).2;obtain⟨e1,e2,e3⟩:=ae0 hX hi hd (by omega) hL hH rx ry hqq;have en:nn=tx.L.length:=by rw[<-UR,hX]
   apply jF _;apply jx func47 (PT (h.r.below (P _ c8)) hi hd t f);rintro _ w9 ⟨b9,ve,H',rfl,hH',DS,RH⟩;refine⟨_,rfl,?_⟩;obtain⟨spe,cpe,rfl,-⟩:=RH;have e4:=hH'.len (sA hi hd (by omega) t) hL;apply G _;exact WQ.meet H'.length ⟨rfl,rfl,rfl,rfl,rfl,rfl,rfl,rfl,rfl,rfl,rfl,rfl,trivial⟩ ⟨b9,by omega,by rw[e1];rfl,e2⟩
 ·rintro m w9 ⟨b9,rfl,e1,e2⟩
  rw[e1]at Ge;rw[e2]at O7;clear hld alc JD FZ J3 UR e1 e2 d2 d0;generalize (if Cat.has s.cat t f=true then(if chk 16 x=0 then Dl f x (nT s t) else[]) else[])=la at Ge Oo;have c9:=c8.trans (b9.mono z8);have z9:=c9.size;replace Ge:=Ge.jA (P':=tl) (Z.jw b9) (fun _ _ hl=>hl) (fun _ h=>h) (fun _ _ h=>h);replace Oo:=Oo.jA (P':=tl) (Z.jw b9) (fun _ _ hl=>hl) (fun _ h=>h) (fun _ _ h=>h);replace O7:=O7.jA (P':=tl) (Z.jw b9) (fun _ _ hl=>hl) (fun _ h=>h) (fun _ _ h=>h);replace eld:=eld.jA (P':=tl) (Z.jw b9) (fun _ _ hl=>hl) (fun _ h=>h) (fun _ _ h=>h);clear b9;apply G _;apply jx func19 (Ew Ge Oo);rintro _ tF ⟨rfl,Li⟩;refine⟨_,rfl,?_⟩;rw[aw rfl];replace O7:=O7.jA (P':=tl) (Z.jw Li) (fun _ _ hl=>hl) (fun _ h=>h) (fun _ _ h=>h);replace eld:=eld.jA (P':=tl) (Z.jw Li) (fun _ _ hl=>hl) (fun _ h=>h) (fun _ _ h=>h);have Sq:=c9.trans (Li.mono z9);generalize Cat.has s.cat t f=bb;cases bb
  all_goals
   apply G _;apply jx func19 (Ew O7 eld);rintro _ QZ ⟨rfl,Yt⟩;refine⟨_,rfl,?_⟩;rw[aw rfl];have c11:=Sq.trans (Yt.mono Sq.size);apply G _;apply jx func12 (aqf _ c11);rintro _ _ ⟨rfl,rfl⟩;refine⟨_,rfl,?_⟩;apply G _;exact J ⟨rfl,P _ c11⟩
end Ix
end Go.Proofs.YtlenklobbngopaaGreat
