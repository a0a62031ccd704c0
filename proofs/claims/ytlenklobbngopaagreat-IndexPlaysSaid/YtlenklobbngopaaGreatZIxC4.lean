import Derived.Test.YtlenklobbngopaaGreatZIxC3
set_option maxHeartbeats 64000000
set_option maxRecDepth 100000
set_option linter.all false
namespace Go.Proofs.YtlenklobbngopaaGreat
open _root_.Go.Proofs.Tryz
open Go.RowKit
variable {α:Type}{w w5 w' w0:World}{rc j i cap c dr g m T b t2 f o rb N:Nat}{O O' D M:Nat->Prop}{l h:oK}{eF:TypeId}{cells:List Value}{cs dc A B C:kL}{tbl a:Int}{txt:lD}{x y:Operand}{tv vG mv xv:Value}{p:Prop}{oi:Oper}
namespace Cr
open K Cat
theorem aaD (a b:lD): (a.toList == b.toList)=decide (a=b):=by
 by_cases h:a=b
 ·subst h;simp
 ·rw[ar h]
  simpa using fun e=>h (Tre.LF e)
theorem W6 {L:List Tb}(h:rH w rc O L)(s:lD): Calls prog 140 #[jV rc,.string s] w (ZK w O (tJ L s)):=by
 obtain⟨tv,cells,h⟩:=h;have hlen:=h.oP.len;obtain⟨QH,Hb,rfl,-,-⟩:=h.own.slice;apply kq func140 ntmps140;apply mA _;refine jJ (z:=.agg sX.toArray) x_ fun g w1 f1=>?_;have h1:=h.below f1.below;have cv:=h1.vb.cell 0 jM;simp only[al]at cv;have bz:=f1.blk;have b1:=f1.below;have eg:=f1.eq;clear f1;apply G _;apply WC.loop (fun i:Nat=>[(0,jV rc),(1,.string s),(4,jV g),(6,Iq i)]) (fun i w'=>w'=w1/\i<=L.length/\∀j,j<i->uj L s j=false) (fun i=>L.length - i) 0 kz ⟨rfl,ay _,fun j hj=>absurd hj (dg j)⟩;rintro i w1 ⟨rfl,hi,nI⟩
 by_cases hk:i<L.length
 ·obtain⟨g',cap,es,-,-,-,-,c0,c1,c2,sp,c,c3,jW⟩:=oD h1.own hk (h1.m5 i hk)
  obtain⟨rfl,rfl⟩:QH=some (Aq g' 0)/\Hb=cap:=by simpa using es
  clear es;have hf:uj L s i=(decide ((L.getD i ku).name=s) && !(L.getD i ku).dropped):=rfl;have ud:uj L s i=true->tJ L s=((i:Int)+1,L.getD i ku,0):=fun hh=>Qi hk nI hh;have Pb:uj L s i=false->∀j,j<i+1->uj L s j=false:=fun hh j hj=>by
   rcases aW j i with h'|h'
   ·exact nI j h'
   ·obtain rfl:j=i:=I
    exact hh
  generalize L.getD i ku=t at c0 c1 c2 c3 jW hf ud ⊢;cases hd:t.dropped with
  | true=>
   rw[hd]at c2 hf;apply jF _;apply jQ (hq:=I) i (i*4) hk;apply jF _;exact WQ.again (i+1) kz ⟨rfl,hk,Pb (by rw[hf];simp)⟩ I
  | false=>
   rw[hd]at c2 hf;apply jF _;apply jQ (hq:=I) i (i*4) hk;apply jF _;apply jQ (hq:=I) i (i*4) hk;apply jF _;cases hq:(t.name.toList == s.toList) with
   | true=>
    rw[aaD]at hq;rw[ud (by rw[hf,hq];rfl)];apply jF _;apply jQ (hq:=I) i (i*4) hk;apply jy (QO c0 c1 c2 c3) rfl;apply jE bz (rn rfl);have mE:Z (fun b=>b<w.heap.size) w (w1.setRow g [Iq ((i+1:Nat):Int),.string t.name,.bool false,.slice sp t.fs.length c].toArray):=mo (Z.jw b1) (fun hk=>by omega) _;apply G _;refine WQ.yQ rfl rfl rfl rfl rfl (bz.setRow _) ⟨.slice sp t.fs.length c,by rw[<-hd];rfl,jW.j_ fun b hb=>?_,mE.below⟩;have:=h.lt b (jW.own hb);exact Go.setRow_other w1 g b _ I
   | false=>
    rw[aaD]at hq;apply jF _;exact WQ.again (i+1) kz ⟨rfl,hk,Pb (by rw[hf,hq];rfl)⟩ I
 ·obtain rfl:i=L.length:=I
  rw[PN nI];apply jF _;apply jR sX Vi;apply jE bz (rn rfl);have mE:Z (fun b=>b<w.heap.size) w (w1.setRow g sX.toArray):=mo (Z.jw b1) (fun hk=>by omega) _;apply G _;exact WQ.yQ rfl rfl rfl rfl rfl (bz.setRow _) ⟨kP,rfl,jY.nil _ _ _ _,mE.below⟩
theorem af5 {e:TypeId}{v:Value}{l:List lD}(h:jY e 1 w O v l.length (l.map Value.string))(hj:j<l.length): ∃g cap,v=nj g 0 l.length cap/\w.cell? (Aq g j)=some (.string (l.getD j ByteArray.empty)):=by
 rcases h.form with⟨-,h0,-⟩|⟨g,cap,cur,rfl,-⟩
 ·omega
 ·refine⟨g,cap,rfl,?_⟩
  rw[h.at j (by simpa using hj)];simp[hj]
theorem Qp {L:List Tb}(h:rH w rc O L)(id:Int)(f:lD): Calls prog 17 #[jV rc,Iq id,.string f] w fun e w'=>w'=w/\e=.returned (.bool (has L id f)):=by
 obtain⟨tv,cells,h⟩:=h;have hlen:=h.oP.len;apply kq func17 ntmps17;apply G _;apply jx func43 (DI h id);rintro _ w1 ⟨rfl,⟨ht,rfl⟩|⟨k,g,cap,hk,rfl,ht,Ch,rfl,rfl⟩⟩
 ·refine⟨_,rfl,?_⟩
  rw[LR h.oP id f ht];apply G _;apply WC.loop (fun _:Unit=>[(7,.pointer none),(8,Iq 0)]) (fun _ w'=>w'=w1) (fun _=>0) () kz rfl;rintro⟨⟩ w1 rfl;apply G _;apply WL.tk rfl rfl rfl rfl rfl rfl jG;apply G _;exact J ⟨rfl,rfl⟩
 ·refine⟨_,rfl,?_⟩
  have hh:has L ((k:Int)+1) f=mem (L.getD k ku).fs f:=by
   unfold has;rw[aw (by omega:1<=(k:Int)+1),aw (by omega:(k:Int)+1<=L.length),show((k:Int)+1 - 1).toNat=k by omega]
   rfl
  rw[hh];have tP:=(h.oP.each k hk).2.1;obtain⟨g',oa,es,-,-,-,-,c0,c1,c2,sp,c,c3,jW⟩:=oD h.own hk (h.m5 k hk);obtain⟨rfl,rfl⟩:g=g'/\cap=oa:=by simpa using es
  clear es;generalize L.getD k ku=t at c0 c1 c2 c3 jW tP Ch ⊢;apply G _;apply WC.loop (fun i:Nat=>[(2,.string f),(7,.pointer (some (Aq g (k*4)))),(8,Iq i)]) (fun i w'=>w'=w1/\i<=t.fs.length/\∀j,j<i->t.fs.getD j ByteArray.empty≠f) (fun i=>t.fs.length - i) 0 kz ⟨rfl,ay _,fun j hj=>absurd hj (dg j)⟩;rintro i w1 ⟨rfl,hi,nI⟩
  by_cases j6:i<t.fs.length
  ·obtain⟨g2,afZ,es,ci⟩:=af5 jW j6
   obtain⟨rfl,rfl⟩:sp=some (Aq g2 0)/\c=afZ:=by simpa using es
   clear es;have UE:∀x,t.fs.getD i ByteArray.empty=x->x=f->mem t.fs f=true:=fun x hx hf=>by
    rw[mem_iff,<-hf,<-hx,ah,ai j6];exact aH j6
   have Pb:t.fs.getD i ByteArray.empty≠f->∀j,j<i+1->t.fs.getD j ByteArray.empty≠f:=fun hh j hj=>by
    rcases aW j i with h'|h'
    ·exact nI j h'
    ·obtain rfl:j=i:=I
     exact hh
   generalize t.fs.getD i ByteArray.empty=x at ci UE Pb;apply G _;apply WL.tk rfl rfl rfl rfl rfl rfl jG;apply jF _;apply jQ (hq:=I) i (i*1) j6;have ci':w1.cell? (Aq g2 (i*1))=some (.string x):=by rw[cJ];exact ci
   apply jF _;cases hq:(x.toList == f.toList) with
   | true=>
    rw[aaD]at hq;rw[UE x rfl (aR hq)];apply jF _;exact J ⟨rfl,rfl⟩
   | false=>
    rw[aaD]at hq;apply jF _;exact WQ.again (i+1) kz ⟨rfl,j6,Pb (dI hq)⟩ I
  ·obtain rfl:i=t.fs.length:=I
   have hm:mem t.fs f=false:=by
    cases hq:mem t.fs f with
    | false=>rfl
    | true=>
     rw[mem_iff]at hq;obtain⟨j,hj,e⟩:=cT.1 hq;refine absurd ?_ (nI j hj);rw[ah,ai hj,fo];exact e
   rw[hm];apply G _;apply WL.tk rfl rfl rfl rfl rfl rfl jG;apply jF _;exact J ⟨rfl,rfl⟩
end Cr
open Go.Maps
namespace Cat
theorem nV.mono {t:Tb}(h:nV eF w O cells i t)(hO:∀b,O b->O' b): nV eF w O' cells i t :=
 ⟨h.1,h.2.1,h.2.2.1,h.2.2.2.mono hO⟩
theorem nV.left {r:List Value}{t:Tb}(h:nV eF w O cells i t)(hi:i*4+4<=cells.length): nV eF w O (cells++r) i t:=by
 obtain⟨i0,i1,i2,i3⟩:=h;refine⟨?_,?_,?_,?_⟩
 ·rw[nU _ _ _ _ I];exact i0
 ·rw[nU _ _ _ _ I];exact i1
 ·rw[nU _ _ _ _ I];exact i2
 ·rw[nU _ _ _ _ I];exact i3
theorem nV.last {k:Nat}{t:Tb}{v:Value}(hl:cells.length=k*4)(h:jY eF 1 w O v t.fs.length (t.fs.map Value.string)):
  nV eF w O (cells++[.int .i64 (k+1:Nat),.string t.name,.bool t.dropped,v]) k t:=by
 unfold nV;rw[<-hl];exact⟨ot cells _ 0 _,ot cells _ 1 _,ot cells _ 2 _,by rw[ot cells _ 3 _];exact h⟩
def Z7 (w:World)(L:List Tb)(i l:Value)(wr:World):Prop :=
 ∃(k:Nat) (sp:Option Addr) (cap:Nat) (cells:List Value),k<=L.length/\i=.int .i64 (k:Nat)/\l=.slice sp k cap/\Below w.heap.size w wr/\
  jY 98 4 wr (fun b=>w.heap.size<=b) (.slice sp k cap) k cells/\∀j,j<k->nV 100 wr (fun b=>w.heap.size<=b) cells j (L.getD j ku)
theorem abf {wr w2:World}{L:List Tb}{k:Nat}{t:Tb}{sp uS Ah:Option Addr}{c2 c5:Nat}{row:List Value}(hk:k<L.length)(ht:t=L.getD k ku)(hb:Below w.heap.size w wr)(hT:jY 98 4 wr (fun b=>w.heap.size<=b) (.slice sp k cap) k cells)(hI:∀j,j<k->nV 100 wr (fun b=>w.heap.size<=b) cells j (L.getD j ku))(kF:row=[.int .i64 (k+1:Nat),.string t.name,.bool t.dropped,.slice uS t.fs.length c2])(kK:Below wr.heap.size wr w2)(jW:jY 100 1 w2 (fun b=>wr.heap.size<=b) (.slice uS t.fs.length c2) t.fs.length (t.fs.map Value.string))(h5:jY 98 4 w5 (fun g=>w.heap.size<=g\/g=(w2.alloc (.cells row.toArray 98)).heap.size) (.slice Ah (k+1) c5) (k+1) (cells++row))(hg:(w2.alloc (.cells row.toArray 98)).grownBy w5 (Value.slice sp k cap).ownBlock):
  Z7 w L (.int .i64 (k+1:Nat)) (.slice Ah (k+1) c5) w5:=by
 subst kF;have hw:=hb.size;have nQ:=kK.size;have tN:∀b,b<w2.heap.size->(Value.slice sp k cap).ownBlock≠some b->w5.heap[b]? = w2.heap[b]?:=fun b h1 h2=>by
  rw[hg.block b (by simp;omega) (fun e=>h2 e.symm),Below.heap_alloc _ _ _ h1]
 have qv:Below w.heap.size w w5:=by
  refine(hb.trans ((kK.mono hw).alloc (aU hw nQ) _)).trans ((qE hg).mono fun b (Gy:b<w.heap.size)=>⟨by simp;omega,fun e=>?_⟩).below;have:=hT.own e;omega
 have ud:∀b (cur:Array Value),w2.heap[b]? = some (Obj.cells cur 100 (0,0))->w5.heap[b]? = w2.heap[b]?:=fun b cur mG=>by
  refine tN b (dz mG) fun e=>?_;obtain⟨ava,LM⟩:=hT.tag e;have h1:=dz LM;rw[<-kK.block b h1]at LM;exact mP LM mG lZ rfl
 have hlen:=hT.len;refine⟨k+1,Ah,c5,_,I,rfl,rfl,qv,h5.mono (fun b hb=>?_),fun j hj=>?_⟩
 ·rcases hb with hb|rfl
  ·exact hb
  ·show w.heap.size<=_;simp;omega
 ·by_cases CU:j<k
  ·refine nV.left ((hI j CU).j_ fun b Dm ⟨cur,mG⟩=>?_) I
   have h1:=dz mG;have h2:=kK.block b h1;rw[ud b cur (by rw[h2];exact mG),h2]
  ·have e:j=k:=I
   subst e;rw[<-ht];apply nV.last hlen;refine(jW.j_ fun g Xz=>?_).mono (fun b (Gy:wr.heap.size<=b)=>aU hw Gy);obtain⟨cur,mG⟩:=jW.tag Xz;exact ud g cur mG
theorem wZ {n:Nat}{L:List Tb}(h:m_ w c O n L):
  Calls prog 28 #[.pointer (some ⟨c,0,none⟩)] w fun e w'=>∃sp cap,e=.returned (.slice sp L.length cap)/\uF 98 100 w' (fun b=>w.heap.size<=b) (.slice sp L.length cap) L/\Below w.heap.size w w':=by
 have hlen:=h.oP.len;have tP:=fun i hi=>(h.oP.each i hi).2.1;have H0:=jU.mk h;have HF:=jU.mk tP;obtain⟨tv,dr,mb,hc,-,-,-,⟨cells,hT,hI⟩,-,-,hG⟩:=h;obtain⟨sp,cap,rfl,xV,qn⟩:=hT.slice;have c0:=hc.cell 0 jM;simp only[al]at c0;have HT:=jU.mk hT;have HI:=jU.mk hI;clear hc hT hI hG tP
 go_enter func28,ntmps28
 go_wp2_with fail
 go_loopw [13,3] (fun i l wr=>Z7 w L i l wr) (fun i _ _=>L.length - (intOf i).toNat)
 case atStart=>exact⟨0,none,0,[],I,rfl,rfl,Below.refl _ _,jY.nil _ _ _ _,fun j hj=>by omega⟩
 case round=>
  obtain⟨k,mB,aAo,lc,hk,rfl,rfl,lx,hTl,hIl⟩:=hrel;have vl:=HT.out.jA (Z.jw lx) (fun g hg=>HT.out.lt hg);have YH:=fun i hi=>(HI.out i hi).j_ fun b hb _=>lx.block b (H0.out.lt b hb)
  by_cases qf:k<L.length
  ·have akU:(k:Int)<L.length:=I
   obtain⟨t,ht⟩:∃t,t=L.getD k ku:=⟨_,rfl⟩;have yN:=YH k qf;have hf:=HF.out k qf;rw[<-ht]at yN hf;obtain⟨g,oa,nG,-,-,hg,-,x0,x1,x2,qQ,cc,x3,jW⟩:=oD vl qf yN;obtain⟨rfl,rfl⟩:sp=some ⟨g,0,none⟩/\cap=oa:=by simpa using nG
   have Fq:=jU.mk jW;have Ht:=jU.mk ht;have Hbr:=jU.mk lx;have HTl:=jU.mk hTl;have HIl:=jU.mk hIl;clear vl YH yN jW nG ht lx hTl hIl
   go_wp2_with fail
   have SX:=Fq.out.alloc (.cells #[.int .i64 ((k:Int)+1),.string t.name,.bool t.dropped,.slice qQ t.fs.length cc] 98);refine(My _ _ _ _ SX.EM I).mono ?_;rintro e w2 ⟨uS,c2,rfl,tS,kK⟩;have Hb2:=jU.mk (((Below.refl _ wr).alloc (aj _) _).trans (kK.mono jM));have apH:=jU.mk (tS.mono (O':=fun b=>wr.heap.size<=b) (fun b (hb:_<=b)=>aU jM hb));have avg:=jU.mk ((HTl.out.jA (Z.jw Hb2.out) (fun g hg=>HTl.out.lt hg)).alloc (.cells #[.int .i64 (k+1:Nat),.string t.name,.bool t.dropped,.slice uS t.fs.length c2] 98));have Hsl:=jU.mk (ph.fresh w2 (fun _=>True) 98 (m:=4) (n:=1) (l:=[.int .i64 (k+1:Nat),.string t.name,.bool t.dropped,.slice uS t.fs.length c2]) rfl (fun u hu=>by simp at hu;rcases hu with rfl|rfl|rfl|rfl<;>rfl) trivial (by unfold maxLen;omega));clear kK tS SX x0 x1 x2 x3 c0 hg
   go_wp2_with (refine yh rfl (.tmp 17) (.tmp 20) 94 rfl NR rfl avg.out rfl Hsl.out (n':=k+1) rfl (by unfold maxLen;omega) I ?_;intro Ah c5 w5 Ay yF ly)
   have Hst:=jU.mk (abf qf Ht.out Hbr.out HTl.out HIl.out rfl Hb2.out apH.out Ay yF);clear Ay yF ly
   go_roundw
   case rel=>exact Hst.out
   case measure=>simp[intOf];omega
  ·have tA:decide ((k:Int)<L.length)=false:=ar I
   obtain rfl:k=L.length:=I;have Hbr:=jU.mk lx;have HTl:=jU.mk hTl;have HIl:=jU.mk hIl;clear vl YH lx hTl hIl c0
   go_wp2_with fail
   go_ret
   exact⟨_,_,rfl,⟨_,HTl.out,HIl.out⟩,Hbr.out⟩
theorem or_eq (dr k:Nat)(hd:dr<18446744073709551616)(hk:k<64): bits BinOp.or IntKind.u64 (dr:Int) (IntKind.u64.wrap (2 ^ min (IntKind.u64.wrap (IntKind.i64.wrap (k:Int))).toNat 64))=((dr ||| 2 ^ k:Nat):Int):=by
 have h1:IntKind.i64.wrap (k:Int)=k:=bN _ I;have h2:(IntKind.u64.wrap (k:Int)).toNat=k:=by rw[aS];omega
 have h3:min k 64=k:=I;have h4:(2:Nat) ^ k<2 ^ 64:=jb I hk;have h5:((2:Int) ^ k)=((2 ^ k:Nat):Int):=jM;rw[h1,h2,h3,h5];generalize 2 ^ k=p at h4 ⊢;have h6:IntKind.u64.wrap ((p:Nat):Int)=((p:Nat):Int):=by rw[aS];omega
 rw[h6];exact bits_or_u64_nat dr p hd I
theorem apy (dr k:Nat)(hd:dr<18446744073709551616)(hk:k<64): dr ||| 2 ^ k<18446744073709551616 :=
 Nat.or_lt_two_pow (n:=64) hd (jb I hk)
def Dv (L:List Tb)(k:Nat)(l:List ByteArray)(x:Int×ByteArray):Option Value:=if x.1=(k+1:Nat)/\mem l x.2=true then none else xm L x
theorem aaV (L:List Tb)(k:Nat): Dv L k []=xm L:=by funext x;simp[Dv,Dw]
theorem Yf (L:List Tb)(k:Nat)(l:List ByteArray)(f:ByteArray): An (Dv L k l) (((k+1:Nat):Int),f)=Dv L k (l++[f]):=by
 funext x
 obtain⟨x1,x2⟩:=x;unfold An Dv;simp only[PF]
 by_cases h:x1=(k+1:Nat)
 ·by_cases h2:x2=f
  ·subst h;subst h2;simp
  ·have:¬((x1,x2)=(((k+1:Nat):Int),f)):=fun e=>h2 (by injection e)
   rw[aa this];have h3:decide (f=x2)=false:=ar (fun e=>h2 e.symm);rw[h3,ix]
 ·have:¬((x1,x2)=(((k+1:Nat):Int),f)):=fun e=>h (by injection e)
  rw[aa this,aa (fun e=>h e.1),aa (fun e=>h e.1)]
theorem aci {L:List Tb}{k:Nat}(hk:k<L.length)(nm:ByteArray): Dv L k (L.getD k ku).fs=xm (L.set k ⟨nm,true,[]⟩):=by
 funext x
 obtain⟨x1,x2⟩:=x;unfold Dv xm has
 by_cases h:x1=(k+1:Nat)
 ·subst h
  have e:(((k+1:Nat):Int) - 1).toNat=k:=I;simp only[e,aI];have e2:(L.set k ⟨nm,true,[]⟩).getD k ku=⟨nm,true,[]⟩:=by simp[hk]
  rw[e2];cases h2:mem (L.getD k ku).fs x2<;>simp[Dw]
 ·rw[aa (fun e=>h e.1)]
  by_cases h1:1<=x1
  ·have e2:(L.set k ⟨nm,true,[]⟩).getD (x1 - 1).toNat ku=L.getD (x1 - 1).toNat ku:=by
    simp only[ah];rw[gv I]
   simp only[e2,aI]
  ·simp[h1]
theorem CB {cs:Array Value}{kind:Int}{txt:ByteArray}(hE:Hj cs kind txt tbl): (w.alloc (.cells cs 76)).cell? ⟨w.heap.size,0,none⟩=some (.int .i64 kind)/\
  (w.alloc (.cells cs 76)).cell? ⟨w.heap.size,1,none⟩=some (.string txt)/\(w.alloc (.cells cs 76)).cell? ⟨w.heap.size,2,none⟩=some (.int .i64 tbl):=by
 have kF:=cz w (.cells cs 76);exact⟨by rw[fD _ _ _ _ _ _ kF];exact hE.hk,by rw[fD _ _ _ _ _ _ kF];exact hE.um,by rw[fD _ _ _ _ _ _ kF];exact hE.tR⟩
theorem nV.XD {x9:List Value}{t:Tb}(h:nV eF w O cells i t)(hc:∀j,j<4->x9.getD (i*4+j) undef=cells.getD (i*4+j) undef)(hb:∀b,O b->(∃cur,w.heap[b]? = some (.cells cur eF (0,0)))->w'.heap[b]? = w.heap[b]?): nV eF w' O x9 i t:=by
 obtain⟨i0,i1,i2,i3⟩:=h.j_ hb;refine⟨(hc 0 I).trans i0,(hc 1 I).trans i1,(hc 2 I).trans i2,?_⟩;rw[hc 3 I];exact i3
theorem getD_set_ne (l:List α)(i j:Nat)(x d:α)(h:i≠j): (l.set i x).getD j d=l.getD j d:=by
 simp only[ah];rw[gv h]
theorem mO (l:List α)(i:Nat)(x d:α)(h:i<l.length): (l.set i x).getD i d=x:=by simp[h]
theorem XO {k:Nat}{L:List Tb}(h:Nh dr L)(hk:k<L.length)(Rh:L.length<=64)(nm:ByteArray)(fs:List ByteArray): Nh (dr ||| 2 ^ k) (L.set k ⟨nm,true,fs⟩):=by
 refine⟨apy dr k h.1 I,fun i=>?_⟩;rw[Nat.testBit_or,Nat.testBit_two_pow,h.2 i]
 by_cases e:k=i
 ·subst e;rw[mO _ _ _ _ hk];simp
 ·rw[getD_set_ne _ _ _ _ _ e];simp[e]
theorem Es {L:List Tb}(h:Good L){k:Nat}{t:Tb}(h1:t.name.size<=40)(h2:t.fs.length<=16)(h3:∀f∈t.fs,f.size<=40)(h4:t.dropped=true->t.fs=[]): Good (L.set k t):=by
 refine⟨by rw[aI];exact h.len,fun i hi=>?_⟩;rw[aI]at hi
 by_cases e:k=i
 ·subst e;rw[mO _ _ _ _ hi];exact⟨h1,h2,h3,h4⟩
 ·rw[getD_set_ne _ _ _ _ _ e];exact h.each i hi
theorem abV (k:Nat)(h:k<1000): (Lit.int .i64 ((k+1:Nat):Int)).wf=true:=by
 simp[Lit.wf,IntKind.min,IntKind.max,IntKind.bits,IntKind.signed];omega
theorem T0 {n:Nat}{L:List Tb}{cs:Array Value}{txt:ByteArray}(h:m_ w c O n L)(hE:Hj cs 6 txt tbl):
  Calls prog 88 #[.pointer (some ⟨c,0,none⟩),.agg cs] w (yJ w c n O L 6 txt tbl):=by
 have hz:=ux;have lG:Below w.heap.size w (w.alloc (.cells cs 76)):=(Below.refl _ w).alloc (aj _) _;have h1:=h.below lG (aj _);have HE:=jU.mk hE;obtain⟨e0,e1,e2⟩:=CB (w:=w) hE;have H:=jU.mk h;have HB:=jU.mk lG;have H1:=jU.mk h1;have HT:=jU.mk (uv h1 tbl);clear h lG h1 hE;cases ht:there L tbl with
 | false=>
  have hx:mu L 6 txt tbl=7:=by unfold mu;rw[aa I,ag rfl,ht];rfl
  have Hx:=jU.mk hx;have Ht:=jU.mk ht;clear hx ht
  go_enter iI,ik
  go_wp2_with (refine(HT.out).mono ?_;rw[Ht.out];rintro e w' ⟨rfl,rfl⟩)
  go_ret
  exact qH Hx.out I H.out HB.out
 | true=>
  obtain⟨k,rfl,hk⟩:∃k:Nat,tbl=(k+1:Nat)/\k<L.length:=⟨(tbl - 1).toNat,by unfold there at ht;simp at ht;omega,by unfold there at ht;simp at ht;omega⟩;have hlen:=H.out.oP.len;obtain⟨t,EO⟩:∃t,t=L.getD k ku:=⟨_,rfl⟩;obtain⟨tv,dr,mb,hc,zk,wB,Lz,⟨cells,hT,hI⟩,DR,Bt,hG⟩:=H1.out;have yN:=hI k hk;rw[<-EO]at yN;obtain⟨g,cap,rfl,xV,qn,hg,KD,x0,x1,x2,sp,cc,x3,jW⟩:=oD hT hk yN;have c0:=hc.cell 0 jM;have c1:=hc.cell 1 jM;have c2:=hc.cell 2 jM;have f1:=hc.free 1;simp only[al,aA]at c0 c1 c2;have Ht:=jU.mk ht;have Hc:=jU.mk hc;have Cw:=jU.mk EO;have G0:=jU.mk hT;have HI:=jU.mk hI;have Hm:=jU.mk Bt;have Fq:=jU.mk jW;have HX:=jU.mk (And.intro wB (And.intro Lz (And.intro DR hG)));have oH:t.fs.length<=16:=by rw[EO];exact(hG.each k hk).2.1
  clear ht hc hT hI yN jW Bt hG Lz wB EO
  go_enter iI,ik
  go_wp2_with (refine(HT.out).mono ?_;rw[Ht.out];rintro e w' ⟨rfl,rfl⟩)
  generalize World.alloc _ _ = w1 at e0 e1 e2 HB H1 HT c0 c1 c2 f1 x0 x1 x2 x3 hg Hc G0 HI Hm Fq HX ⊢;apply qz 12 (fun w' => w'.cell? ⟨c,1,none⟩ = some (.int .u64 (dr : Nat)) /\ w'.cell? ⟨w.heap.size,2,none⟩ = some (.int .i64 ((k + 1 : Nat) : Int))) jG;have hS : w1.drew.cell? ⟨c,1,none⟩ = some (.int .u64 (dr : Nat)) /\ w1.drew.cell? ⟨w.heap.size,2,none⟩ = some (.int .i64 ((k + 1 : Nat) : Int)):=⟨c1,e2⟩;apply j8 (i:=0) (.inr hS)  -- move (tmp 0)
  apply j8 (i:=1) (.inr hS)  -- nilCheck (tmp 71)
  apply j8 (i:=2) (.inr hS)  -- fieldAddr 69 (tmp 72) 1
  refine pL (i:=3) [12] rfl jG jG jG jG rfl (fun _ _ _ h => h) (by rfl) (fun w' NV => by first | (go_simp;done) | (go_simp;with_reducible rfl)) hS ?_  -- load 67 (tmp 73)
  refine oF (i:=4) rfl jG jG jG rfl (fun _ _ _ h => h) (.inr hS) (by rfl) (fun _ => by first | (go_simp;done) | (go_simp;with_reducible rfl)) ?_  -- fieldAddr 37 (tmp 3) 2
  refine pL (i:=5) [12] rfl jG jG jG jG rfl (fun _ _ _ h => h) (by rfl) (fun w' NV => by first | (go_simp;done) | (go_simp;with_reducible rfl)) hS ?_  -- load 3 (tmp 75)
  refine oF (i:=6) rfl jG jG jG rfl (fun _ _ _ h => h) (.inr hS) (by rfl) (fun _ => by first | (go_simp;done) | (go_simp;with_reducible rfl)) ?_  -- binOp Binsub 3 (tmp 76) (const (Value.int IntKind.
  apply j8 (i:=7) (.inr hS)  -- convert 3 72 (tmp 77)
  refine oF (i:=8) rfl jG jG jG rfl (fun _ _ _ h => h) (.inr hS) (by rfl) (fun _ => by first | (go_simp;done) | (go_simp;with_reducible rfl)) ?_  -- binOp Binshl 67 (const (Value.int IntKind.u64 1)) 
  apply j8 (i:=9) (.inr hS)  -- binOp Binor 67 (tmp 74) (tmp 79) 67
  apply j8 (i:=10) (.inr hS)  -- nilCheck (tmp 71)
  apply j8 (i:=11) (.inr hS)  -- fieldAddr 69 (tmp 81) 1
  refine sy (i:=12) jG rfl ?_;intro K hK  -- Cb Op.store 67 (Operand.tmp 82) (Operand.tmp 80)
  go_simp
  have nH:IntKind.i64.wrap (k:Int)=k:=bN _ I;have nQ:IntKind.u64.wrap (k:Int)=k:=by rw[aS];omega
  rw[or_eq dr k DR.1 I,nH,nQ,dZ];clear nH nQ;have sM:g≠c:=by
   obtain⟨cur,mG⟩:=G0.out.tag rfl;exact mP mG Hc.out lZ
  have mE:w.heap.size≠c:=fun e=>by have:=H.out.lt c zk;omega
  have ET:=MF.mP Hm.out Hc.out;have rE:U 144 (w1.setCell ⟨c,1,none⟩ (.int .u64 ((dr ||| 2 ^ k:Nat):Int))).drew c [.slice (some ⟨g,0,none⟩) L.length cap,.int .u64 ((dr ||| 2 ^ k:Nat):Int),.map (some mb)]:=Hc.out.set 1 (.int .u64 ((dr ||| 2 ^ k:Nat):Int));have mW:Z (fun b=>b≠c) w1 (w1.setCell ⟨c,1,none⟩ (.int .u64 ((dr ||| 2 ^ k:Nat):Int))).drew:=(Z.refl _ w1).setCell (fun h=>h rfl) _ |>.drewN 1;have yd:=Hm.out.jA mW ET;apply hK _ _ (.inl rfl);refine wD jG ?_ _;clear hK K hS;generalize (World.setCell _ _ _).drew=w2 at rE mW yd ⊢;have c0':=rE.cell 0 jM;have rM:=rE.cell 2 jM;simp only[al,aA]at c0' rM;have e2':w2.cell? ⟨w.heap.size,2,none⟩=some (.int .i64 ((k+1:Nat):Int)):=by rw[mW.cell (p:=⟨w.heap.size,2,none⟩) mE];exact e2
  have x3':w2.cell? ⟨g,k*4+3,none⟩=some (.slice sp t.fs.length cc):=by rw[mW.cell (p:=⟨g,k*4+3,none⟩) sM];exact x3
  have hwk:IntKind.i64.wrap (k:Int)=k:=bN _ I;have qf:(k:Int)<L.length:=I;have I5:(0:Int)<=k:=I;have Hc2:=jU.mk rE;have Hk2:=jU.mk mW;have Hm2:=jU.mk yd;clear rE mW yd e0 e1 e2 c0 c1 c2 f1 x0 x1 x2 x3
  go_wp2_with fail
  go_quiet (fail)
  clear hwk;generalize pE:World.drewN _ _=w3;have y0:w3.cell? ⟨c,0,none⟩=some (.slice (some ⟨g,0,none⟩) L.length cap):=by rw[<-pE];exact c0'
  have y2:w3.cell? ⟨c,2,none⟩=some (.map (some mb)):=by rw[<-pE];exact rM
  have ye:w3.cell? ⟨w.heap.size,2,none⟩=some (.int .i64 ((k+1:Nat):Int)):=by rw[<-pE];exact e2'
  have y3:w3.cell? ⟨g,k*4+3,none⟩=some (.slice sp t.fs.length cc):=by rw[<-pE];exact x3'
  have yB:=jU.mk (show Z (fun b=>b≠c) w1 w3 by rw[<-pE];exact Hk2.out.drewN _);have Hc3:=jU.mk (show U 144 w3 c [.slice (some ⟨g,0,none⟩) L.length cap,.int .u64 ((dr ||| 2 ^ k:Nat):Int),.map (some mb)] by rw[<-pE];exact Hc2.out);have Hm3:=jU.mk (show MF prog 146 mk w3 mb n (xm L) by rw[<-pE];exact Hm2.out);clear c0' rM e2' x3' pE Hk2 Hc2 Hm2
  go_wp2_with fail
  go_loopw [96] (fun i wr=>∃j:Nat,j<=t.fs.length/\i=.int .i64 (j:Nat)/\Z (fun b=>b<w3.heap.size/\b≠mb) w3 wr/\MF prog 146 mk wr mb n (Dv L k (t.fs.take j))) (fun i _=>t.fs.length - (intOf i).toNat)
  case atStart=>exact⟨0,I,rfl,Z.refl _ _,by rw[cj,aaV];exact Hm3.out⟩
  case round=>
   obtain⟨j,hj,rfl,uy,hmr⟩:=hrel;have y2r:wr.cell? ⟨c,2,none⟩=some (.map (some mb)):=by rw[uy.cell (p:=⟨c,2,none⟩) ⟨Hc3.out.lt,dT ET⟩];exact y2
   have hes:w.heap.size<w3.heap.size:=cC w3 _ ye;have hem:w.heap.size≠mb:=fun e=>by have:=HX.out.1;have:=H.out.lt mb this;omega
   have yer:wr.cell? ⟨w.heap.size,2,none⟩=some (.int .i64 ((k+1:Nat):Int)):=by rw[uy.cell (p:=⟨w.heap.size,2,none⟩) ⟨hes,hem⟩];exact ye
   have Ki:=hmr.lt;have SA:=jU.mk uy;have Hmr:=jU.mk hmr;clear uy hmr
   by_cases zA:j<t.fs.length
   ·have az0:(j:Int)<t.fs.length:=I
    have hj0:(0:Int)<=j:=I;obtain⟨f,hf⟩:∃f,f=t.fs[j]:=⟨_,rfl⟩;have hiv:jY 100 1 wr O (.slice sp t.fs.length cc) t.fs.length (t.fs.map Value.string):=by
     refine Fq.out.j_ fun b hb=>?_;obtain⟨cur,mG⟩:=Fq.out.tag hb;have h1:=mP mG Hc.out lZ;have h2:=dT (MF.mP Hm.out mG);have h3:=ao (dz mG) yB.out.size;rw[SA.out.block b ⟨h3,h2⟩,yB.out.block b h1]
    rcases hiv.form with⟨-,h0,-⟩|⟨gi,cpi,cur,nG,-,-,-⟩
    ·omega
    ·obtain⟨rfl,rfl⟩:sp=some ⟨gi,0,none⟩/\cc=cpi:=by simpa using nG
     have z0:wr.cell? ⟨gi,j,none⟩=some (.string f):=by
      rw[hiv.at j (by simpa using zA),hf];simp[zA]
     have xE:t.fs.take (j+1)=t.fs.take j++[f]:=by rw[List.take_succ_eq_append_getElem zA,hf]
     have Htk:=jU.mk xE;have tP:f.size<=maxLen:=by
      have:=(HX.out.2.2.2.each k hk).2.2.1 f (by rw[<-Cw.out,hf];exact aH zA);unfold maxLen;omega
     have Hfs:=jU.mk tP;clear hf hiv nG xE tP
     go_wp2_with fail
     have hS:(wr.alloc (.cells #[.string f] 100)).drew.cell? ⟨c,2,none⟩=some (.map (some mb))/\(wr.alloc (.cells #[.string f] 100)).drew.cell? ⟨w.heap.size,2,none⟩=some (.int .i64 ((k+1:Nat):Int))/\(wr.alloc (.cells #[.string f] 100)).drew.cell? ⟨wr.heap.size,0,none⟩=some (.string f) :=
      ⟨by rw[<-y2r];exact bM (w:=wr) (Below.heap_alloc _ _ _ (cC wr _ y2r)),by rw[<-yer];exact bM (w:=wr) (Below.heap_alloc _ _ _ (cC wr _ yer)),(U.mk wr [.string f] _).cell 0 jM⟩
     apply qz 9 (fun w' => w'.cell? ⟨c,2,none⟩ = some (.map (some mb)) /\ w'.cell? ⟨w.heap.size,2,none⟩ = some (.int .i64 ((k + 1 : Nat) : Int)) /\ w'.cell? ⟨wr.heap.size,0,none⟩ = some (.string f)) jG;apply j8 (i:=0) (.inr hS)  -- move (tmp 0)
     apply j8 (i:=1) (.inr hS)  -- nilCheck (tmp 100)
     apply j8 (i:=2) (.inr hS)  -- fieldAddr 69 (tmp 101) 2
     refine pL (i:=3) [9] rfl jG jG jG jG rfl (fun _ _ _ h => h) (by rfl) (fun w' NV => by first | (go_simp;done) | (go_simp;with_reducible rfl)) hS ?_  -- load 66 (tmp 102)
     refine oF (i:=4) rfl jG jG jG rfl (fun _ _ _ h => h) (.inr hS) (by rfl) (fun _ => by first | (go_simp;done) | (go_simp;with_reducible rfl)) ?_  -- fieldAddr 37 (tmp 3) 2
     refine pL (i:=5) [8,9] rfl jG jG jG jG rfl (fun _ _ _ h => h) (by rfl) (fun w' NV => by first | (go_simp;done) | (go_simp;with_reducible rfl)) hS ?_  -- load 3 (tmp 104)
     refine oF (i:=6) rfl jG jG jG rfl (fun _ _ _ h => h) (.inr hS) (by rfl) (fun _ => by first | (go_simp;done) | (go_simp;with_reducible rfl)) ?_  -- fieldAddr 62 (tmp 9) 0
     refine pL (i:=7) [8,9] rfl jG jG jG jG rfl (fun _ _ _ h => h) (by rfl) (fun w' NV => by first | (go_simp;done) | (go_simp;with_reducible rfl)) hS ?_  -- load 9 (tmp 106)
     refine oF (i:=8) rfl jG jG jG rfl (fun _ _ _ h => h) (.inr hS) (by rfl) (fun _ => by first | (go_simp;done) | (go_simp;with_reducible rfl)) ?_  -- build 75 #[(0,tmp 105),(1,tmp 107)]
     refine sy (i:=9) jG rfl ?_;intro K hK  -- Cb Op.call { callee:=Callee.builtin Builtin.delete,args:=#[Operand.tmp 103,Operand.tmp 108],argTypes:=#[66,75] }
     obtain⟨kl,zr⟩:=Ji (((k+1:Nat):Int),f) ⟨abV k I,Hfs.out⟩;have hmA:MF prog 146 mk (wr.alloc (.cells #[.string f] 100)).drew mb n (Dv L k (t.fs.take j)):=(Hmr.out.alloc _).j_ rfl;obtain⟨w5,my,Gu,oM⟩:=hmA.del mk_inj keyed d_ zr 0;have em:mk (((k+1:Nat):Int),f)=.agg #[.int .i64 ((k:Int)+1),.string f]:=by unfold mk;simp
     rw[em]at my;have Yp:MF prog 146 mk w5 mb n (Dv L k (t.fs.take (j+1))):=by rw[Htk.out,<-Yf];exact Gu
     have o_ :=
      SA.out.trans (((Z.jw (((Below.refl wr.heap.size wr).alloc (aj _) (.cells #[.string f] 100)).drew)).mono (fun b (hb:b<w3.heap.size/\b≠mb)=>ao hb.1 SA.out.size)).trans (oM.mono fun b hb=>hb.2))
     have Hm6:=jU.mk Yp;have Hk6:=jU.mk o_;apply abW rfl (.tmp 103) (.tmp 108) 142 146 rfl (.map (some mb)) (.agg #[.int .i64 ((k:Int)+1),.string f]) (by go_simp) (by go_simp) my;apply hK _ _ (.inl rfl);clear Gu oM Yp o_ my hmA hS hK K zr;refine wD jG ?_ _
     go_wp2_with fail
     go_roundw
     case rel=>exact⟨j+1,I,by go_num,Hk6.out,Hm6.out⟩
     case measure=>simp[intOf];omega
   ·have tA:decide ((j:Int)<t.fs.length)=false:=ar I
    have Zd:j=t.fs.length:=I;have vl:jY 98 4 wr O (.slice (some ⟨g,0,none⟩) L.length cap) L.length cells:=by
     refine G0.out.j_ fun b hb=>?_;obtain⟨cur,mG⟩:=G0.out.tag hb;have h1:=mP mG Hc.out lZ;have h2:=dT (MF.mP Hm.out mG);have h3:=ao (dz mG) yB.out.size;rw[SA.out.block b ⟨h3,h2⟩,yB.out.block b h1]
    have Sk:=vl.len;have q2:=vl.at (k*4+2) I;have q3:=vl.at (k*4+3) I;have f2:=vl.free (k*4+2);have f3:=vl.free (k*4+3);have HTr:=jU.mk vl;have avu:=jU.mk (show MF prog 146 mk wr mb n (Dv L k t.fs) by have:=Hmr.out;rw[Zd,aN]at this;exact this);clear vl Zd y0 y2 y3 ye Sk
    go_wp2_with fail
    go_ret
    have oS:wr.heap[g]? = w1.heap[g]?:=by
     obtain⟨cur,mG⟩:=G0.out.tag rfl;rw[SA.out.block g ⟨ao (dz mG) yB.out.size,dT (MF.mP Hm.out mG)⟩,yB.out.block g sM]
    have Kq:mb≠g:=by obtain⟨cur,mG⟩:=G0.out.tag rfl;exact MF.mP Hm.out mG
    have Sk:=HTr.out.len;have XF:=Hc3.out.jA SA.out ⟨Hc3.out.lt,dT ET⟩;have hOw:=(HTr.out.stored (k*4+2) (u:=.bool true) rfl).stored (k*4+3) (u:=.slice none 0 0) rfl;have LC:Z (fun b=>b≠g) wr ((wr.setCell ⟨g,k*4+2,none⟩ (.bool true)).setCell ⟨g,k*4+3,none⟩ (.slice none 0 0)):=((Z.refl _ wr).setCell (fun h=>h rfl) _).setCell (fun h=>h rfl) _;obtain⟨wB,hO1,hBt,hG⟩:=HX.out;have hx:mu L 6 txt ((k+1:Nat):Int)=0:=by unfold mu;rw[aa I,ag rfl,Ht.out];rfl
    have e1:(((k+1:Nat):Int) - 1).toNat=k:=I;have hl:oV L 6 txt ((k+1:Nat):Int)=L.set k ⟨t.name,true,[]⟩:=by
     unfold oV;rw[ag hx,aa I,ag rfl,e1,<-Cw.out]
    refine⟨O,by rw[hx];rfl,?_,?_,fun b hb=>.inl hb⟩
    ·rw[hl]
     refine m_.mono (n:=n) ⟨_,_,mb,XF.jA LC (dT sM),zk,wB,fun b hb=>ao (ao (ao (hO1 b hb) yB.out.size) SA.out.size) LC.size,⟨_,by rw[aI];exact hOw,fun i hi=>?_⟩,XO hBt hk hlen _ _,?_,Es hG ?_ jM jM (fun _=>rfl)⟩ I
     ·rw[aI]at hi
      by_cases e:k=i
      ·subst e
       rw[mO _ _ _ _ hk];obtain⟨i0,i1,i2,i3⟩:=HI.out k hk;refine⟨?_,?_,?_,?_⟩
       ·rw[getD_set_ne _ _ _ _ _ I,getD_set_ne _ _ _ _ _ I];exact i0
       ·rw[getD_set_ne _ _ _ _ _ I,getD_set_ne _ _ _ _ _ I,Cw.out];exact i1
       ·rw[getD_set_ne _ _ _ _ _ I,mO _ _ _ _ I]
       ·rw[mO _ _ _ _ (by simp;omega)];exact jY.nil _ _ _ _
      ·rw[getD_set_ne _ _ _ _ _ e]
       refine(HI.out i hi).XD (fun j hj=>?_) (fun b hb mG=>?_)
       ·rw[getD_set_ne _ _ _ _ _ I,getD_set_ne _ _ _ _ _ I]
       ·obtain⟨cur,mG⟩:=mG
        obtain⟨asD,XU⟩:=G0.out.tag rfl;rw[LC.block b (mP mG XU lZ),SA.out.block b ⟨ao (dz mG) yB.out.size,dT (MF.mP Hm.out mG)⟩,yB.out.block b (mP mG Hc.out lZ)]
     ·rw[<-aci hk,<-Cw.out]
      exact avu.out.jA LC Kq
     ·rw[Cw.out];exact(hG.each k hk).1
    ·refine((Z.jw HB.out).mono fun b hb=>hb.1).trans ((yB.out.mono fun b hb e=>hb.2 (e ▸ zk)).trans ((SA.out.mono fun b (hb:b<w.heap.size/\¬O b)=>⟨ao (ao hb.1 HB.out.size) yB.out.size,fun e=>hb.2 (e ▸ wB)⟩).trans (LC.mono fun b hb e=>hb.2 (e ▸ KD))))
theorem afx {L:List Tb}{k:Nat}(hk:k<L.length)(txt nm:ByteArray)(d:Bool): pR (xm L) (((k+1:Nat):Int),txt) (.bool true)=xm (L.set k ⟨nm,d,(L.getD k ku).fs++[txt]⟩):=by
 funext x
 obtain⟨x1,x2⟩:=x;unfold pR xm has
 by_cases h:x1=(k+1:Nat)
 ·subst h
  have e:(((k+1:Nat):Int) - 1).toNat=k:=I;simp only[e,aI];have e2:(L.set k ⟨nm,d,(L.getD k ku).fs++[txt]⟩).getD k ku=⟨nm,d,(L.getD k ku).fs++[txt]⟩:=by simp[hk]
  have e3:decide ((1:Int)<=((k+1:Nat):Int))=true:=aw I;have e4:decide (((k+1:Nat):Int)<=L.length)=true:=aw I;rw[e2,PF,e3,e4]
  by_cases h2:x2=txt
  ·subst h2;simp
  ·have:¬(((((k+1:Nat):Int)),x2)=(((k+1:Nat):Int),txt)):=fun e=>h2 (by injection e)
   rw[aa this];have h3:decide (txt=x2)=false:=ar (fun e=>h2 e.symm);rw[h3,ix]
 ·have:¬((x1,x2)=(((k+1:Nat):Int),txt)):=fun e=>h (by injection e)
  rw[aa this]
  by_cases h1:1<=x1
  ·have e2:(L.set k ⟨nm,d,(L.getD k ku).fs++[txt]⟩).getD (x1 - 1).toNat ku=L.getD (x1 - 1).toNat ku:=by
    simp only[ah];rw[gv I]
   simp only[e2,aI]
  ·simp[h1]
theorem YK {k:Nat}{L:List Tb}(h:Nh dr L)(hk:k<L.length)(t:Tb)(ht:t.dropped=(L.getD k ku).dropped): Nh dr (L.set k t):=by
 refine⟨h.1,fun i=>?_⟩;rw[h.2 i]
 by_cases e:k=i
 ·subst e;rw[mO _ _ _ _ hk,ht]
 ·rw[getD_set_ne _ _ _ _ _ e]
theorem Km {n:Nat}{L:List Tb}{cs:Array Value}{txt:ByteArray}(h:m_ w c O n L)(hE:Hj cs 7 txt tbl)(hn:n<1000000000)(ht:there L tbl=true)(oQ:xf txt=true)(hh:has L tbl txt=false)(QL:(L.getD (tbl - 1).toNat ku).fs.length<16):
  Calls prog 88 #[.pointer (some ⟨c,0,none⟩),.agg cs] w (yJ w c n O L 7 txt tbl):=by
 have hz:=ux;have lG:Below w.heap.size w (w.alloc (.cells cs 76)):=(Below.refl _ w).alloc (aj _) _;have h1:=h.below lG (aj _);have HE:=jU.mk hE;obtain⟨e0,e1,e2⟩:=CB (w:=w) hE;have H:=jU.mk h;have HB:=jU.mk lG;have H1:=jU.mk h1;have HT:=jU.mk (uv h1 tbl);clear h lG h1 hE;obtain⟨k,rfl,hk⟩:∃k:Nat,tbl=(k+1:Nat)/\k<L.length:=⟨(tbl - 1).toNat,by unfold there at ht;simp at ht;omega,by unfold there at ht;simp at ht;omega⟩;have hlen:=H.out.oP.len;obtain⟨t,EO⟩:∃t,t=L.getD k ku:=⟨_,rfl⟩;have ek:(((k+1:Nat):Int) - 1).toNat=k:=I;obtain⟨tv,dr,mb,hc,zk,wB,Lz,⟨cells,hT,hI⟩,DR,Bt,hG⟩:=H1.out;have yN:=hI k hk;rw[<-EO]at yN;obtain⟨g,cap,rfl,xV,qn,hg,KD,x0,x1,x2,sp,cc,x3,jW⟩:=oD hT hk yN;have c0:=hc.cell 0 jM;have c2:=hc.cell 2 jM;simp only[al,aA]at c0 c2;have xY:∀m,(Instr.lookup 142 (.map (some mb)) (.agg #[.int .i64 ((k:Int)+1),.string txt]) false).run prog ((w.alloc (.cells cs 76)).drewN m)=.ok (.bool (has L ((k+1:Nat):Int) txt)) ((w.alloc (.cells cs 76)).drewN m) :=
  fun m=>Jc (Bt.drewN m) ((k+1:Nat):Int) txt ⟨HE.out.hwf,HE.out.hsh⟩
 obtain⟨kl,zr⟩:=Ji (((k+1:Nat):Int),txt) ⟨HE.out.hwf,HE.out.hsh⟩;have Hkk:=jU.mk zr;clear zr;have Cw:=jU.mk EO;have G0:=jU.mk hT;have HI:=jU.mk hI;have Hm:=jU.mk Bt;have Fq:=jU.mk jW;have HX:=jU.mk (And.intro wB (And.intro Lz (And.intro DR hG)));have oH:t.fs.length<=16:=by rw[EO];exact(hG.each k hk).2.1
 obtain⟨nf,OS⟩:∃nf,nf=t.fs.length:=⟨_,rfl⟩;rw[<-OS]at x3 oH;have arx:nf<=cc:=by obtain⟨qQ,oa,e,hle,-⟩:=jW.slice;injection e with _ _ e3;omega
 have TT:=jU.mk OS;have Ht:=jU.mk ht;have FU:=jU.mk oQ;have Hc:=jU.mk hc;clear ht hc hT hI yN jW Bt hG Lz wB EO DR oQ OS;have auw:=xY;rw[hh]at xY;clear auw;have hwk:IntKind.i64.wrap (k:Int)=k:=bN _ I;have qf:(k:Int)<L.length:=I;have I5:(0:Int)<=k:=I;have Hh:=jU.mk hh;have Hek:=jU.mk ek;have QL:nf<16:=by have:=QL;rw[ek,<-Cw.out,<-TT.out]at this;exact this
 clear hh ek;have aro:(nf:Int)<16:=I;have qm:∀(w:World) r,(binOp .eql 142 (.map (some r)) (.map none)).run prog w=.ok (.bool false) w:=fun w r=>run_eql_map_nil w _ _ _ (some r) d_
 go_enter iI,ik
 go_wp2_with (first|(go_at_call 56;refine(HT.out).mono ?_;rw[Ht.out];rintro e w' ⟨rfl,rfl⟩)|(go_at_call 126;refine(tg _ _).mono ?_;rw[FU.out];rintro e w' ⟨rfl,rfl⟩))
 go_quiet (fail)
 clear xY
 go_wp2_with fail
 go_quiet (fail)
 go_wp2_with fail
 go_quiet (fail)
 clear hwk
 go_wp2_with fail
 generalize pE:World.drewN _ _=w3;have kv:w3.heap=(w.alloc (.cells cs 76)).heap/\w3.os=(w.alloc (.cells cs 76)).os/\w3.tape=(w.alloc (.cells cs 76)).tape/\w3.output=(w.alloc (.cells cs 76)).output:=by rw[<-pE];exact⟨rfl,rfl,rfl,rfl⟩
 clear pE;obtain⟨d1,d2,d3,d4⟩:=kv;have db:∀b:Nat,w3.heap[b]? = (w.alloc (.cells cs 76)).heap[b]?:=fun b=>by rw[d1]
 have yB:=jU.mk (show Z (fun _=>True) (w.alloc (.cells cs 76)) w3 from⟨d2,d3,d4,by rw[d1];exact aj _,fun b _=>db b⟩);have y2:w3.cell? ⟨c,2,none⟩=some (.map (some mb)):=by rw[yB.out.cell (p:=⟨c,2,none⟩) trivial];exact c2
 have y3:w3.cell? ⟨g,k*4+3,none⟩=some (.slice sp nf cc):=by rw[yB.out.cell (p:=⟨g,k*4+3,none⟩) trivial];exact x3
 have ye1:w3.cell? ⟨w.heap.size,1,none⟩=some (.string txt):=by rw[yB.out.cell (p:=⟨w.heap.size,1,none⟩) trivial];exact e1
 have ye2:w3.cell? ⟨w.heap.size,2,none⟩=some (.int .i64 ((k+1:Nat):Int)):=by rw[yB.out.cell (p:=⟨w.heap.size,2,none⟩) trivial];exact e2
 clear d1 d2 d3 d4 db c0 c2 x0 x1 x2 x3 e0 e1 e2;have Rt:=H.out.lt g KD;have hco:=H.out.lt c zk;have hs3 : w.heap.size < w3.heap.size:=cC w3 _ ye1;have hS : w3.drew.cell? ⟨g,k * 4 + 3,none⟩ = some (.slice sp nf cc) /\ w3.drew.cell? ⟨w.heap.size,1,none⟩ = some (.string txt):=⟨y3,ye1⟩;apply qz 20 (fun w' => w'.cell? ⟨g,k * 4 + 3,none⟩ = some (.slice sp nf cc) /\ w'.cell? ⟨w.heap.size,1,none⟩ = some (.string txt)) jG;apply j8 (i:=0) (.inr hS)  -- move (tmp 10)
 apply j8 (i:=1) (.inr hS)  -- move (tmp 10)
 apply j8 (i:=2) (.inr hS)  -- nilCheck (tmp 162)
 apply j8 (i:=3) (.inr hS)  -- fieldAddr 45 (tmp 163) 3
 refine pL (i:=4) [15,20] rfl jG jG jG jG rfl (fun _ _ _ h => h) (by rfl) (fun w' NV => by first | (go_simp;done) | (go_simp;with_reducible rfl)) hS ?_  -- load 43 (tmp 164)
 apply j8 (i:=5) (.inr hS)  -- move (tmp 10)
 refine oF (i:=6) rfl jG jG jG rfl (fun _ _ _ h => h) (.inr hS) (by rfl) (fun _ => by first | (go_simp;done) | (go_simp;with_reducible rfl)) ?_  -- nilCheck (tmp 166)
 apply j8 (i:=7) (.inr hS)  -- fieldAddr 45 (tmp 167) 3
 refine pL (i:=8) [9,15,20] rfl jG jG jG jG rfl (fun _ _ _ h => h) (by rfl) (fun w' NV => by first | (go_simp;done) | (go_simp;with_reducible rfl)) hS ?_  -- load 43 (tmp 168)
 refine oF (i:=9) rfl jG jG jG rfl (fun _ _ _ h => h) (.inr hS) (by rfl) (fun _ => by first | (go_simp;done) | (go_simp;with_reducible rfl)) ?_  -- call { callee:=Callee.builtin Builtin.len,args 
 apply j8 (i:=10) (.inr hS)  -- move (tmp 10)
 apply j8 (i:=11) (.inr hS)  -- nilCheck (tmp 171)
 apply j8 (i:=12) (.inr hS)  -- fieldAddr 45 (tmp 172) 3
 refine pL (i:=13) [14,15,20] rfl jG jG jG jG rfl (fun _ _ _ h => h) (by rfl) (fun w' NV => by first | (go_simp;done) | (go_simp;with_reducible rfl)) hS ?_  -- load 43 (tmp 173)
 refine oF (i:=14) rfl jG jG jG rfl (fun _ _ _ h => h) (.inr hS) (by rfl) (fun _ => by first | (go_simp;done) | (go_simp;with_reducible rfl)) ?_  -- call { callee:=Callee.builtin Builtin.len,args 
 apply j8 (i:=15) (.inr hS)  -- slice 43 (tmp 165) none (some (tmp 170)) (some (tm
 apply j8 (i:=16) (.inr hS)  -- fieldAddr 37 (tmp 3) 1
 refine pL (i:=17) [18,19,20] rfl jG jG jG jG rfl (fun _ _ _ h => h) (by rfl) (fun w' NV => by first | (go_simp;done) | (go_simp;with_reducible rfl)) hS ?_  -- load 9 (tmp 177)
 refine oF (i:=18) rfl jG jG jG rfl (fun _ _ _ h => h) (.inr hS) (by rfl) (fun _ => by first | (go_simp;done) | (go_simp;with_reducible rfl)) ?_  -- build 62 #[(0,tmp 178)]
 refine sy (i:=19) jG rfl ?_;intro K hK  -- Cb Op.buildSlice 43 1 #[(0,Operand.tmp 179)]
 go_simp
 have pO:(w3.alloc (.cells #[.string txt] 100)).drew.cell? ⟨g,k*4+3,none⟩=some (.slice sp nf cc)/\(w3.alloc (.cells #[.string txt] 100)).drew.cell? ⟨w.heap.size,1,none⟩=some (.string txt) :=
  ⟨by rw[<-y3];exact bM (w:=w3) (Below.heap_alloc _ _ _ (by show g<w3.heap.size;omega)),by rw[<-ye1];exact bM (w:=w3) (Below.heap_alloc _ _ _ hs3)⟩
 apply hK _ _ (.inr pO);have nk:Below w3.heap.size w3 (w3.alloc (.cells #[.string txt] 100)).drew:=((Below.refl _ _).alloc (aj _) _).drew;have ho5:ph (w3.alloc (.cells #[.string txt] 100)).drew O 1 (.slice sp nf cc) nf (t.fs.map Value.string):=by
  rw[TT.out];exact(Fq.out.EM.jA yB.out (fun _ _ _=>trivial)).below nk (aj _)
 have hs5 : ph (w3.alloc (.cells #[.string txt] 100)).drew (fun _ => True) 1 (.slice (some ⟨w3.heap.size,0,none⟩) 1 1) 1 [.string txt]:=ph.fresh w3 (fun _ => True) _ (m:=1) (n:=1) (l:=[.string txt]) rfl (fun u hu => by simp at hu;subst hu;rfl) trivial (by unfold maxLen;omega);clear hS pO hK K;refine sy (i:=20) jG rfl ?_;intro K hK  -- Cb Op.call { callee:=Callee.builtin Builtin.append,args:=#[Operand.tmp 176,Operand.tmp 180],argTypes:=#[43,43] }
 apply JM rfl (.tmp 176) (.tmp 180) 96 rfl Mr rfl ho5 rfl hs5 I (n':=nf+1) rfl (by unfold maxLen;omega) I;intro Ah c5 w5 Ay yF;have qv:=nk.trans (((qE yF).mono fun b (hb:b<w3.heap.size)=>⟨ao hb nk.size,fun e=>by cases e⟩).below);have UP:=G0.out.j_ fun b hb=>by
  have:b=g:=(az hb).symm;rw[this,qv.block g I,yB.out.block g trivial]
 have Sk:=UP.len;have q3:=UP.at (k * 4 + 3) I;have f3:=UP.free (k * 4 + 3);have HT5:=jU.mk UP;have Hb5:=jU.mk qv;have I3:=jU.mk Ay;apply hK _ _ (.inl rfl);clear hK K ho5 hs5 nk qv Ay yF UP Sk;apply j8 (i:=21) (.inl rfl)  -- nilCheck (tmp 161)
 apply j8 (i:=22) (.inl rfl)  -- fieldAddr 45 (tmp 182) 3
 refine sy (i:=23) jG rfl ?_;intro K hK  -- Cb Op.store 43 (Operand.tmp 183) (Operand.tmp 181)
 go_simp
 apply hK _ _ (.inl rfl);refine wD jG ?_ _;clear hK K y3;have SY:g≠w.heap.size:=I;have KJ:g≠c:=by obtain⟨cur,mG⟩:=G0.out.tag rfl;exact mP mG Hc.out lZ
 have z2:(w5.setCell ⟨g,k*4+3,none⟩ (.slice Ah (nf+1) c5)).cell? ⟨c,2,none⟩=some (.map (some mb)):=by
  rw[bM (w:=w5) (Below.heap_setCell _ _ _ _ (by show c≠g;omega)),Hb5.out.cell (p:=⟨c,2,none⟩) (by show c<w3.heap.size;omega)];exact y2
 have ze1:(w5.setCell ⟨g,k*4+3,none⟩ (.slice Ah (nf+1) c5)).cell? ⟨w.heap.size,1,none⟩=some (.string txt):=by
  rw[bM (w:=w5) (Below.heap_setCell _ _ _ _ (by show w.heap.size≠g;omega)),Hb5.out.cell (p:=⟨w.heap.size,1,none⟩) (by show w.heap.size<w3.heap.size;omega)];exact ye1
 have ze2:(w5.setCell ⟨g,k*4+3,none⟩ (.slice Ah (nf+1) c5)).cell? ⟨w.heap.size,2,none⟩=some (.int .i64 ((k+1:Nat):Int)):=by
  rw[bM (w:=w5) (Below.heap_setCell _ _ _ _ (by show w.heap.size≠g;omega)),Hb5.out.cell (p:=⟨w.heap.size,2,none⟩) (by show w.heap.size<w3.heap.size;omega)];exact ye2
 have hmg:mb≠g:=by obtain⟨cur,mG⟩:=G0.out.tag rfl;exact MF.mP Hm.out mG
 have Yp:MF prog 146 mk (w5.setCell ⟨g,k*4+3,none⟩ (.slice Ah (nf+1) c5)) mb n (xm L) :=
  (((Hm.out.jA yB.out trivial).below Hb5.out (ao Hm.out.lt yB.out.size)).other _ _ hmg)
 have hT6:=HT5.out.stored (k*4+3) (u:=.slice Ah (nf+1) c5) rfl;have o_:Z (fun b=>b<w3.heap.size/\b≠g) w3 (w5.setCell ⟨g,k*4+3,none⟩ (.slice Ah (nf+1) c5)):=((Z.jw Hb5.out).mono fun b hb=>hb.1).setCell (fun h=>h.2 rfl) _;have h67:Z (fun b=>b≠g) w5 (w5.setCell ⟨g,k*4+3,none⟩ (.slice Ah (nf+1) c5)):=(Z.refl _ w5).setCell (fun h=>h rfl) _;generalize World.setCell _ _ _=w6 at z2 ze1 ze2 Yp hT6 o_ h67 ⊢;have alu:MF prog 146 mk w6.drew mb n (xm L):=Yp.j_ rfl;have WE:n<maxLen:=by unfold maxLen;omega
 obtain⟨w7,my,hm7,wS⟩:=alu.put mk_inj keyed d_ WE (.bool true) Hkk.out;have em:mk (((k+1:Nat):Int),txt)=.agg #[.int .i64 ((k:Int)+1),.string txt]:=by unfold mk;simp
 rw[em]at my;have as5:=jU.mk my;have Hm7:=jU.mk hm7;have Hk7:=jU.mk (show Z (fun b=>b≠mb) w6 w7 from((Z.refl _ w6).drewN 1).trans wS);clear alu WE my hm7 wS em;have HT6:=jU.mk hT6;have Hk6:=jU.mk o_;have H67:=jU.mk h67;clear Yp hT6 o_ h67 q3 f3 y2 ye1 ye2 hz
 go_wp2_with fail
 have my:=as5.out;apply gu 9 jG jG;simp only[cE,cj,de,ff]
 repeat still_step
 try refine wpStill_nil ?_
 change wpList _ _ _ _ _ w6.drew
 go_wp2_with fail
 go_ret
 clear my;obtain⟨wB,hO1,hBt,hG⟩:=HX.out;have hmo:=H.out.lt mb wB;have ET:=MF.mP Hm.out Hc.out;have hx:mu L 7 txt ((k+1:Nat):Int)=0:=by
  unfold mu;rw[aa I,aa I,ag rfl,aa (by rw[Ht.out];simp),aa (by rw[FU.out];simp),aa (by rw[Hh.out];simp),Hek.out,aa (by rw[<-Cw.out,<-TT.out];omega)]
 have hl:oV L 7 txt ((k+1:Nat):Int)=L.set k ⟨t.name,t.dropped,t.fs++[txt]⟩:=by
  unfold oV;rw[ag hx,aa I,aa I,ag rfl,Hek.out,<-Cw.out]
 have adF:txt.size<=40:=by
  have:=FU.out;unfold xf at this;simp at this
  exact this.2
 have azQ:=Hk6.out.size;have az_:=Hk7.out.size;have azT:=H67.out.size;have hsA:∀b,(w3.alloc (.cells #[.string txt] 100)).drew.heap.size<=b->w3.heap.size<b:=fun b (hb:(w3.alloc _).heap.size<=b)=>by simp at hb;omega
 have hc7 :=
  ((Hc.out.jA yB.out trivial).jA Hk6.out ⟨I,dT KJ⟩).jA Hk7.out (dT ET)
 have QY:=HT6.out.jA Hk7.out (fun b hb=>by have e:=az hb;subst e;exact dT hmg);have Ud:=fun b hb=>hsA b (I3.out.own hb);have Sk:=G0.out.len;refine⟨fun b=>O b\/(Value.slice Ah (nf+1) c5).ownBlock=some b,by rw[hx];rfl,?_,?_,fun b hb=>hb.imp id fun h=>by have:=Ud b h;omega⟩
 ·rw[hl]
  refine⟨_,dr,mb,hc7,.inl zk,.inl wB,fun b hb=>?_,⟨_,by rw[aI];exact QY.mono (fun _ h=>.inl h),fun i hi=>?_⟩,YK hBt hk _ (by rw[<-Cw.out]),?_,Es hG ?_ ?_ ?_ ?_⟩
  ·rcases hb with hb|hb
   ·have:=H.out.lt b hb;omega
   ·have:=I3.out.lt hb;omega
  ·rw[aI]at hi
   by_cases e:k=i
   ·subst e
    rw[mO _ _ _ _ hk];obtain⟨i0,i1,i2,i3⟩:=HI.out k hk;refine⟨?_,?_,?_,?_⟩
    ·rw[getD_set_ne _ _ _ _ _ I];exact i0
    ·rw[getD_set_ne _ _ _ _ _ I,Cw.out];exact i1
    ·rw[getD_set_ne _ _ _ _ _ I,Cw.out];exact i2
    ·rw[mO _ _ _ _ I]
     have e1:(t.fs++[txt]).length=nf+1:=by rw[af,<-TT.out];rfl
     have e2:(t.fs++[txt]).map Value.string=t.fs.map Value.string++[.string txt]:=jM
     show jY _ 1 w7 _ _ (t.fs++[txt]).length ((t.fs++[txt]).map Value.string)
     rw[e1,e2];refine⟨(I3.out.j_ (w':=w7) fun b hb=>?_).1,I3.out.2.1,fun b hb=>.inr hb⟩;have:=Ud b hb;rw[Hk7.out.block b (by show b≠mb;omega),H67.out.block b (by show b≠g;omega)]
   ·rw[getD_set_ne _ _ _ _ _ e]
    have zD:nV 100 w7 O (cells.set (k*4+3) (.slice Ah (nf+1) c5)) i (L.getD i ku):=by
     refine(HI.out i hi).XD (fun j hj=>?_) (fun b hb mG=>?_)
     ·rw[getD_set_ne _ _ _ _ _ I]
     ·obtain⟨cur,mG⟩:=mG
      obtain⟨asD,XU⟩:=G0.out.tag rfl;have xH:=H.out.lt b hb;rw[Hk7.out.block b (dT (MF.mP Hm.out mG)),Hk6.out.block b ⟨I,mP mG XU lZ⟩,yB.out.block b trivial]
    exact⟨zD.1,zD.2.1,zD.2.2.1,zD.2.2.2.mono (fun _ h=>.inl h)⟩
  ·have:=afx hk txt t.name t.dropped
   rw[<-Cw.out]at this;rw[<-this];exact Hm7.out
  ·rw[Cw.out];exact(hG.each k hk).1
  ·show(t.fs++[txt]).length<=16
   rw[af,<-TT.out];show nf+1<=16;omega
  ·intro f hf
   rcases au.1 hf with h|h
   ·have:=(hG.each k hk).2.2.1 f (by rw[<-Cw.out];exact h);exact this
   ·rw[bn.1 h];exact adF
  ·intro hd
   have h1:=Ht.out;unfold there at h1;rw[Hek.out,<-Cw.out]at h1;have KG:t.dropped=true:=hd;rw[KG]at h1;simp at h1
 ·refine((Z.jw HB.out).mono fun b hb=>hb.1).trans ((yB.out.mono fun _ _=>trivial).trans ((Hk6.out.mono fun b (hb:b<w.heap.size/\¬O b)=>⟨I,fun e=>hb.2 (e ▸ KD)⟩).trans (Hk7.out.mono fun b hb e=>hb.2 (e ▸ wB))))
theorem Rr {n:Nat}{L:List Tb}{cs:Array Value}{txt:ByteArray}(h:m_ w c O n L)(hE:Hj cs 7 txt tbl)(hn:n<1000000000):
  Calls prog 88 #[.pointer (some ⟨c,0,none⟩),.agg cs] w (yJ w c n O L 7 txt tbl):=by
 have hz:=ux;have lG:Below w.heap.size w (w.alloc (.cells cs 76)):=(Below.refl _ w).alloc (aj _) _;have h1:=h.below lG (aj _);have HE:=jU.mk hE;obtain⟨e0,e1,e2⟩:=CB (w:=w) hE;have H:=jU.mk h;have HB:=jU.mk lG;have H1:=jU.mk h1;have HT:=jU.mk (uv h1 tbl);clear h lG h1 hE;cases ht:there L tbl with
 | false=>
  have hx:mu L 7 txt tbl=7:=by unfold mu;rw[aa I,aa I,ag rfl,ag ht]
  have Hx:=jU.mk hx;have Ht:=jU.mk ht;clear hx ht
  go_enter iI,ik
  go_wp2_with (refine(HT.out).mono ?_;rw[Ht.out];rintro e w' ⟨rfl,rfl⟩)
  go_ret
  exact qH Hx.out I H.out HB.out
 | true=>
  cases oQ:xf txt with
  | false=>
   have hx:mu L 7 txt tbl=3:=by unfold mu;rw[aa I,aa I,ag rfl,aa (by rw[ht];simp),ag oQ]
   have Hx:=jU.mk hx;have Ht:=jU.mk ht;have FU:=jU.mk oQ;clear hx ht oQ
   go_enter iI,ik
   go_wp2_with (first|(go_at_call 56;refine(HT.out).mono ?_;rw[Ht.out];rintro e w' ⟨rfl,rfl⟩)|(go_at_call 126;refine(tg _ _).mono ?_;rw[FU.out];rintro e w' ⟨rfl,rfl⟩))
   go_ret
   exact qH Hx.out I H.out HB.out
  | true=>
   obtain⟨k,rfl,hk⟩:∃k:Nat,tbl=(k+1:Nat)/\k<L.length:=⟨(tbl - 1).toNat,by unfold there at ht;simp at ht;omega,by unfold there at ht;simp at ht;omega⟩;have hlen:=H.out.oP.len;obtain⟨t,EO⟩:∃t,t=L.getD k ku:=⟨_,rfl⟩;have ek:(((k+1:Nat):Int) - 1).toNat=k:=I;obtain⟨tv,dr,mb,hc,zk,wB,Lz,⟨cells,hT,hI⟩,DR,Bt,hG⟩:=H1.out;have yN:=hI k hk;rw[<-EO]at yN;obtain⟨g,cap,rfl,xV,qn,hg,KD,x0,x1,x2,sp,cc,x3,jW⟩:=oD hT hk yN;have c0:=hc.cell 0 jM;have c2:=hc.cell 2 jM;simp only[al,aA]at c0 c2;have xY:∀m,(Instr.lookup 142 (.map (some mb)) (.agg #[.int .i64 ((k:Int)+1),.string txt]) false).run prog ((w.alloc (.cells cs 76)).drewN m)=.ok (.bool (has L ((k+1:Nat):Int) txt)) ((w.alloc (.cells cs 76)).drewN m) :=
    fun m=>Jc (Bt.drewN m) ((k+1:Nat):Int) txt ⟨HE.out.hwf,HE.out.hsh⟩
   have Cw:=jU.mk EO;have G0:=jU.mk hT;have HI:=jU.mk hI;have Hm:=jU.mk Bt;have Fq:=jU.mk jW;have HX:=jU.mk (And.intro wB (And.intro Lz (And.intro DR hG)));have oH:t.fs.length<=16:=by rw[EO];exact(hG.each k hk).2.1
   obtain⟨nf,OS⟩:∃nf,nf=t.fs.length:=⟨_,rfl⟩;rw[<-OS]at x3 oH;have arx:nf<=cc:=by obtain⟨qQ,oa,e,hle,-⟩:=jW.slice;injection e with _ _ e3;omega
   have TT:=jU.mk OS;have Ht:=jU.mk ht;have FU:=jU.mk oQ;have Hc:=jU.mk hc;clear ht hc hT hI yN jW Bt hG Lz wB EO DR oQ OS;cases hh:has L ((k+1:Nat):Int) txt with
   | true=>
    have hx:mu L 7 txt ((k+1:Nat):Int)=8:=by unfold mu;rw[aa I,aa I,ag rfl,aa (by rw[Ht.out];simp),aa (by rw[FU.out];simp),ag hh]
    rw[hh]at xY;have Hx:=jU.mk hx;clear hx hh ek
    go_enter iI,ik
    go_wp2_with (first|(go_at_call 56;refine(HT.out).mono ?_;rw[Ht.out];rintro e w' ⟨rfl,rfl⟩)|(go_at_call 126;refine(tg _ _).mono ?_;rw[FU.out];rintro e w' ⟨rfl,rfl⟩))
    go_quiet (fail)
    clear xY
    go_wp2_with fail
    go_ret
    exact qH Hx.out I H.out (Co HB.out _)
   | false=>
    rw[hh]at xY;have hwk:IntKind.i64.wrap (k:Int)=k:=bN _ I;have qf:(k:Int)<L.length:=I;have I5:(0:Int)<=k:=I;have Hh:=jU.mk hh;have Hek:=jU.mk ek;clear hh ek
    by_cases QL:16<=nf
    ·have hx:mu L 7 txt ((k+1:Nat):Int)=17:=by unfold mu;rw[aa I,aa I,ag rfl,aa (by rw[Ht.out];simp),aa (by rw[FU.out];simp),aa (by rw[Hh.out];simp),Hek.out,ag (by rw[<-Cw.out,<-TT.out];exact QL)]
     have Hx:=jU.mk hx;have aro:(16:Int)<=nf:=I;clear hx
     go_enter iI,ik
     go_wp2_with (first|(go_at_call 56;refine(HT.out).mono ?_;rw[Ht.out];rintro e w' ⟨rfl,rfl⟩)|(go_at_call 126;refine(tg _ _).mono ?_;rw[FU.out];rintro e w' ⟨rfl,rfl⟩))
     go_quiet (fail)
     clear xY
     go_wp2_with fail
     go_quiet (fail)
     go_wp2_with fail
     go_ret
     exact qH Hx.out I H.out (Co (Co HB.out _) _)
    ·exact Km H.out HE.out hn Ht.out FU.out Hh.out (by rw[Hek.out,<-Cw.out,<-TT.out];omega)
theorem QP {n:Nat}{L:List Tb}{cs:Array Value}{kind:Int}{txt:ByteArray}(h:m_ w c O n L)(hE:Hj cs kind txt tbl)(h5:kind≠5)(h6:kind≠6)(h7:kind≠7):
  Calls prog 88 #[.pointer (some ⟨c,0,none⟩),.agg cs] w (yJ w c n O L kind txt tbl):=by
 have lG:Below w.heap.size w (w.alloc (.cells cs 76)):=(Below.refl _ w).alloc (aj _) _;obtain⟨e0,e1,e2⟩:=CB (w:=w) hE;have hx:mu L kind txt tbl=0:=by unfold mu;rw[aa h5,aa h6,aa h7]
 have hl:oV L kind txt tbl=L:=by unfold oV;rw[ag hx,aa h5,aa h6,aa h7]
 have Hx:=jU.mk hx;have Hl:=jU.mk hl;have HB:=jU.mk lG;have H:=jU.mk h;have g5:=b_.2 h5;have g6:=b_.2 h6;have g7:=b_.2 h7;clear hx hl lG h hE h5 h6 h7 e1 e2
 go_enter iI,ik
 go_wp2_with fail
 go_ret
 exact⟨O,by rw[Hx.out];rfl,by rw[Hl.out];exact(H.out.below HB.out (aj _)).mono I,(Z.jw HB.out).mono (fun b hb=>hb.1),fun b hb=>.inl hb⟩
theorem Y6 {n:Nat}{L:List Tb}{cs:Array Value}{kind:Int}{txt:ByteArray}(h:m_ w c O n L)(hE:Hj cs kind txt tbl)(hn:n<1000000000):
  Calls prog 88 #[.pointer (some ⟨c,0,none⟩),.agg cs] w (yJ w c n O L kind txt tbl):=by
 by_cases h5:kind=5
 ·subst h5;exact R8 h hE
 ·by_cases h6:kind=6
  ·subst h6;exact T0 h hE
  ·by_cases h7:kind=7
   ·subst h7;exact Rr h hE hn
   ·exact QP h hE h5 h6 h7
theorem abF: Good []:=⟨jM,fun i hi=>by simp at hi⟩
theorem agy (w:World): Calls prog 68 #[] w fun e w'=>∃O,e=.returned (.pointer (some ⟨w.heap.size+1,0,none⟩))/\m_ w' (w.heap.size+1) O 0 []/\Below w.heap.size w w'/\∀b,O b->w.heap.size<=b:=by
 have hmm:=@run_makeMap prog
 go_enter func68,ntmps68
 go_wp2_with fail
 go_ret
 have hm:MF prog 146 mk (w.alloc (.map #[] 0)) w.heap.size 0 (fun _=>none):=MF.made _ _ _ w;have sF:(w.alloc (.map #[] 0)).heap.size=w.heap.size+1:=jM;have hv:=U.mk (w.alloc (.map #[] 0)) [.slice none 0 0,.int .u64 0,.map (some w.heap.size)] 144;rw[sF]at hv;refine⟨fun b=>b=w.heap.size\/b=w.heap.size+1,rfl,⟨.slice none 0 0,0,w.heap.size,hv,.inr rfl,.inl rfl,fun b hb=>?_,⟨[],jY.nil _ _ _ _,fun i hi=>by simp at hi⟩,⟨I,fun i=>by simp[ku]⟩,?_,abF⟩,((Below.refl _ _).alloc (aj _) _).alloc jM _,fun b hb=>by omega⟩
 ·simp;omega
 ·exact(hm.alloc _).congr fun x=>by unfold xm has;simp;omega
end Cat
namespace Cr
open K Cat
theorem BU: na prog 50 zt 4 56:=na.mk' (z:=.agg sX.toArray) underlying50 jG rfl I
theorem Ct: na prog 22 Ad 1 16:=na.mk' (z:=.string ByteArray.empty) eG jG rfl I
theorem jY.fresh {e n:Nat}(h:kJ w g w' e cs)(h1:lY cs)(hl:cs.length=n*m)(hn:n<=1000000)(hO:O g): jY e m w' O (nj g 0 n n) n cs :=
 ⟨⟨hl,.inr ⟨g,n,cs.toArray,rfl,ay _,h.blk,aj _,by unfold maxLen;omega,by simp[hl],by simp[<-hl]⟩⟩,h1,fun b hb=>by cases hb;exact hO⟩
def xO (w:World)(rc:Nat)(O:Nat->Prop)(L:List Tb)(kind:Int)(txt:lD)(tbl:Int)(e:Ending)(w':World):Prop :=
 ∃O',e=.returned (Iq (mu L kind txt tbl))/\rH w' rc O' (oV L kind txt tbl)/\Z (fun b=>b<w.heap.size/\¬O b) w w'/\∀b,O' b->O b\/w.heap.size<=b
theorem xO.no {L:List Tb}{kind:Int}{x:Int}(hx:mu L kind txt tbl=x)(mE:x≠0)(h:rH w rc O L)(hb:jP w w'): xO w rc O L kind txt tbl (.returned (Iq x)) w' :=
 ⟨O,by rw[hx],by unfold oV;rw[aa (by rw[hx];exact mE)];exact h.below hb,Z.mono (Z.jw hb) (fun k hk=>hk.1),fun b hb=>.inl hb⟩
theorem KP {cs:Array Value}{kind:Int}(hE:Hj cs kind txt tbl)(h:U T w g cs.toList): w.cell? (Aq g 0)=some (Iq kind)/\w.cell? (Aq g 1)=some (.string txt)/\w.cell? (Aq g 2)=some (Iq tbl):=by
 have hl:cs.toList.length=46:=by simpa using hE.lJ
 have e:∀j v,cs[j]? = some v->cs.toList.getD j undef=v:=fun j v hv=>by rw[ah,Array.getElem?_toList,hv];rfl
 exact⟨by rw[h.cell 0 I,e _ _ hE.hk],by rw[h.cell 1 I,e _ _ hE.um],by rw[h.cell 2 I,e _ _ hE.tR]⟩
theorem RC.push {O2:Nat->Prop}{L:List Tb}{cells:kL}(h:RC w rc O L tv cells)(hk:Z (fun b=>b<w0.heap.size) w w')(hs:w0.heap.size=w.heap.size)(Rh:L.length<64)(oQ:xf txt=true)(ho:jY zt 4 w' O2 vG (L.length+1) (cells++[Iq ((L.length:Int)+1),.string txt,.bool false,kP]))(hO2:∀g,vG.ownBlock=some g->w.heap.size<=g):
  RC (w'.setCell (Aq rc 0) vG) rc (fun b=>(O b\/w.heap.size<=b)/\b<w'.heap.size) (L++[⟨txt,false,[]⟩]) vG (cells++[Iq ((L.length:Int)+1),.string txt,.bool false,kP])/\
   Z (fun b=>b<w.heap.size/\¬O b) w (w'.setCell (Aq rc 0) vG):=by
 rw[hs]at hk;have hz:=hk.size;have EX:=h.lt _ h.rc;have hl:=h.own.len;have ID:=h.vb.jA hk EX;have avD:1<=txt.size/\txt.size<=40:=by unfold xf at oQ;simpa using oQ
 have lJ:(w'.setCell (Aq rc 0) vG).heap.size=w'.heap.size:=jM;refine⟨⟨ID.set 0 vG,?_,fun i hi=>?_,⟨.inl h.rc,I⟩,fun b hb=>by rw[lJ];exact hb.2,?_⟩,Z.setCell (hk.mono fun b hb=>hb.1) (fun hh=>hh.2 h.rc) _⟩
 ·rw[show(L++[(⟨txt,false,[]⟩:Tb)]).length=L.length+1 by simp]
  have ho':jY zt 4 w' (fun b=>(O b\/w.heap.size<=b)/\b<w'.heap.size) vG (L.length+1) (cells++[Iq ((L.length:Int)+1),.string txt,.bool false,kP]):=⟨ho.1,ho.2.1,fun g hg=>⟨.inr (hO2 g hg),ho.lt hg⟩⟩;refine ho'.j_ fun g hg=>Below.heap_setCell w' _ _ g ?_;have:=hO2 g hg
  show g≠rc
  omega
 ·have hb:∀b,O b->(∃cur,w.heap[b]? = some (.cells cur Ad (0,0)))->(w'.setCell (Aq rc 0) vG).heap[b]? = w.heap[b]?:=fun b hb ⟨cur,hc⟩=>by
   rw[Below.heap_setCell w' _ _ b (fun e=>?_),hk.block b (h.lt b hb)];have e':b=rc:=e;have hv:w.heap[rc]? = some (.cells [tv].toArray rcT (0,0)):=h.vb;rw[e',hv]at hc
   injection hc with hc
   injection hc with _ hc _
   exact absurd hc lZ
  by_cases j6:i<L.length
  ·rw[Cat.nU _ _ _ _ j6]
   exact((h.m5 i j6).j_ hb).left I |>.mono fun b hb=>⟨.inl hb,ao (h.lt b hb) hz⟩
  ·obtain rfl:i=L.length:=by simp at hi;omega
   have e:(L++[(⟨txt,false,[]⟩:Tb)]).getD L.length ku=⟨txt,false,[]⟩:=jM;rw[e];exact nV.last (t:=⟨txt,false,[]⟩) I (jY.nil _ _ _ _)
 ·refine⟨by simp;omega,fun i hi=>?_⟩
  by_cases j6:i<L.length
  ·rw[Cat.nU _ _ _ _ j6];exact h.oP.each i j6
  ·obtain rfl:i=L.length:=by simp at hi;omega
   have e:(L++[(⟨txt,false,[]⟩:Tb)]).getD L.length ku=⟨txt,false,[]⟩:=jM;rw[e];exact⟨avD.2,jM,jM,jM⟩
theorem RC.place {L:List Tb}{cells x9:kL}{t:Tb}{k:Nat}(h:RC w rc O L (nj g 0 L.length cap) cells)(hk:k<L.length)(hb:∀b,b<w.heap.size->b≠g->w'.heap[b]? = w.heap[b]?)(ho:jY zt 4 w' O (nj g 0 L.length cap) L.length x9)(hO:∀b,O b->O' b)(j6:∀b,O' b->b<w'.heap.size)(hc:∀i,i≠k->∀j,j<4->x9.getD (i*4+j) undef=cells.getD (i*4+j) undef)(ht:nV Ad w' O' x9 k t)(hg:Cat.Good (L.set k t)): RC w' rc O' (L.set k t) (nj g 0 L.length cap) x9:=by
 have al5:w.heap[g]? = some (.cells ((w.heap[g]?).elim #[] fun|.cells c _ _=>c|_=>#[]) zt (0,0)):=by
  obtain⟨cur,mG⟩:=h.own.tag (g:=g) rfl;rw[mG];rfl
 have asq:rc≠g:=fun e=>by
  have hv:w.heap[rc]? = some (.cells [nj g 0 L.length cap].toArray rcT (0,0)):=h.vb;rw[e,al5]at hv
  injection hv with hv
  injection hv with _ hv _
  exact absurd hv lZ
 refine⟨(hb rc (h.lt _ h.rc) asq).trans h.vb,?_,fun i hi=>?_,hO _ h.rc,j6,hg⟩
 ·rw[aI];exact ho.mono hO
 ·rw[aI]at hi
  by_cases e:i=k
  ·subst e
   rw[Cat.mO _ _ _ _ hi];exact ht
  ·rw[Cat.getD_set_ne _ _ _ _ _ (fun q=>e q.symm)]
   refine((h.m5 i hi).XD (hc i e) fun b UJ ⟨cur,mG⟩=>hb b (h.lt b UJ) fun q=>?_).mono hO;rw[q,al5]at mG
   injection mG with mG
   injection mG with _ mG _
   exact absurd mG lZ
open K Cat
theorem O9 {L:List Tb}{cs:Array Value}(h0:rH w rc O L)(hE:Hj cs 5 txt tbl):
  Calls prog 109 #[jV rc,.agg cs] w (xO w rc O L 5 txt tbl):=by
 obtain⟨tv,cells,h⟩:=id h0;obtain⟨QH,Hb,rfl,-,-⟩:=h.own.slice;have hlen:=h.oP.len;apply kq func109 ntmps109;apply mA _;refine jO fun ge w1 f1=>?_;have b1:=f1.below;obtain⟨e0,e1,e2⟩:=KP hE f1.blk;have eg:=f1.eq;have ez:=f1.size;clear f1;have h1:=h.below b1;have z1:=b1.size;have cv:=h1.vb.cell 0 jM;simp only[al]at cv
 by_cases g64:64<=L.length
 ·apply jF _
  exact J (xO.no (by unfold mu;rw[ag rfl,ag g64]) I h0 b1)
 by_cases ht:tbl=(L.length:Int)+1
 ·subst ht
  apply jF _;refine WC.drawn 14 (jP w1) fun w2 hd=>?_;have hS:jP w1 w2:=hd.below _;have kc:∀ {wx:World},jP w1 wx->wx.cell? (Aq rc 0)=some (.slice QH L.length Hb):=fun hx=>(hx.cell (p:=Aq rc 0) (show rc<w1.heap.size by have:=h.lt _ h.rc;omega)).trans cv;have k1:∀ {wx:World},jP w1 wx->wx.cell? (Aq ge 1)=some (.string txt):=fun hx=>(hx.cell (p:=Aq ge 1) (I:ge<w1.heap.size)).trans e1;have k2:∀ {wx:World},jP w1 wx->wx.cell? (Aq ge 2)=some (Iq ((L.length:Int)+1)):=fun hx=>(hx.cell (p:=Aq ge 2) (I:ge<w1.heap.size)).trans e2;apply jC [0,2,3,4] hS _;apply jz 1 [8,9,13,14] (fun wx hx=>k2 hx) hS;apply jz 5 [6,7,8,9,13,14] (fun wx hx=>kc hx) hS;apply jC [6,7,8,9,10] hS _;apply jz 11 [12,13,14] (fun wx hx=>k1 hx) hS;apply jS 12;apply(jX);apply WL.call rfl rfl rfl rfl rfl func139 rfl jG (Lp txt w2);rintro _ w2 ⟨rfl,rfl⟩;refine⟨_,rfl,?_⟩;apply lI hS;apply jC [13] hS _;apply jS 14;cases oQ:xf txt with
  | false=>
   apply G _;apply WQ.dk (.inl rfl);apply(jD);apply G _;exact J (xO.no (by unfold mu;rw[ag rfl,aa g64,ag (.inr oQ)]) I h0 (b1.trans (hS.mono z1)))
  | true=>
  apply G _;apply WQ.dk (.inl rfl);apply(jD);have h2:=(h1.below hS);have z2:=hS.size;have q1:=k1 hS;apply jF _;apply jx func140 (W6 ⟨_,_,h2⟩ txt);intro e w4 hp;have hA:mu L 5 txt ((L.length:Int)+1)=if(Bs L txt).isSome=true then 8 else 0:=by
   unfold mu;rw[ag rfl,aa g64,aa (by rw[oQ];simp)]
  cases Hy:Bs L txt with
  | some k=>
   rw[show tJ L txt=(((k+1:Nat):Int),L.getD k ku,0) by unfold tJ;rw[Hy]]at hp;obtain⟨fv,he,hfo,nk⟩:=hp;simp only at he;subst he;refine⟨_,rfl,?_⟩;apply G _;refine jJ (z:=.agg sX.toArray) x_ fun gt w5 f5=>?_;apply jE f5.blk (rn (jY.one hfo));apply G _;have b4:=hS.trans (nk.mono z2);have b5:=b4.kj f5.below;exact WQ.so rfl rfl (xO.no (by rw[hA,Hy];rfl) I h0 ((b1.trans (b5.mono z1)).trans (mo (K:=fun b=>b<w.heap.size) (g:=gt) (Z.refl _ _) (fun hh=>by have:=f5.eq;have:=b4.size;omega) _).below))
  | none=>
   rw[show tJ L txt=(0,ku,13) by unfold tJ;rw[Hy]]at hp;obtain⟨fv,he,hfo,nk⟩:=hp;simp only at he;subst he;refine⟨_,rfl,?_⟩;apply G _;refine jJ (z:=.agg sX.toArray) x_ fun gt w5 f5=>?_;apply jE f5.blk (rn (jY.one hfo));have b4:=hS.trans (nk.mono z2);have b5:=(b4.kj f5.below).trans (mo (K:=fun b=>b<w1.heap.size) (g:=gt) (Z.refl _ _) (fun hh=>by have:=f5.eq;have:=b4.size;omega) [Iq 0,.string ByteArray.empty,.bool false,fv].toArray).below;clear hfo nk b4 h2 z2 q1;have hc:mu L 5 txt ((L.length:Int)+1)=0:=by rw[hA,Hy];rfl
   have hL:oV L 5 txt ((L.length:Int)+1)=L++[⟨txt,false,[]⟩]:=by unfold oV;rw[ag hc,ag rfl]
   apply jF _;refine WC.drawn 13 (jP w1) fun w3 Fa=>?_;have c3:=b5.trans (Fa.below _);clear Fa b5 f5 hS;have hS:=c3;have src:∀ {wx:World},jP w1 wx->ph wx O 4 (.slice QH L.length Hb) L.length cells:=fun hx=>(h1.below hx).own.EM;apply jC [0,2,3,4,7,9] hS _;apply jz 5 [6,13] (fun wx hx=>kc hx) c3;apply jz 8 [11,12,13] (fun wx hx=>k2 hx) c3;apply jz 10 [11,12,13] (fun wx hx=>k1 hx) c3;apply xy [Iq ((L.length:Int)+1),.string txt,.bool false,kP] 11 rfl jG rfl rfl (fun _ _ _ _ _ h=>h) rfl rfl rfl jG (.inr c3);refine WD.two 1 12 jG rfl rfl ?_ ?_
   ·skip
    refine WL.empty rfl rfl rfl rfl rfl fun ga wa fa=>?_;have ca:=c3.kj fa.below;have tI:jY zt 4 wa (fun b=>w1.heap.size<=b) (nj ga 0 0 0) 0 []:=jY.fresh fa (fun u hu=>absurd hu a_) jM I (by have:=fa.eq;have:=c3.size;omega);apply lI ca;refine WD.two 6 12 jG rfl rfl ?_ ?_
    ·skip
     refine l_ BU tI (src ca) fun vb wb ob gb=>?_;have cb:=ca.trans (gb.old ca.size fun g hg=>tI.own hg);have xh:jY zt 4 wb (fun b=>w1.heap.size<=b) vb L.length cells:=by
      rw[bA,aT]at ob;exact ob.mono fun b hb=>hb.elim id fun e=>by have:=ca.size;omega
     apply lI cb;apply jS 12;refine lh (cs:=[Iq ((L.length:Int)+1),.string txt,.bool false,kP]) fun gl wl fl=>?_;have cl:=cb.kj fl.below;have DY:=ph.zN fl (T:=zt) (rn rfl);have Xi:=fl.blk.lt;have DL:=xh.jA (Z.jw fl.below) (fun g hg=>xh.lt hg)
     skip
     apply lI cl;apply jS 13;refine l_ BU DL DY fun vd wd od gd=>?_;have cd:=cl.trans (gd.old cl.size fun g hg=>DL.own hg);have pD:jY zt 4 wd (fun b=>w1.heap.size<=b) vd (L.length+1) (cells++[Iq ((L.length:Int)+1),.string txt,.bool false,kP]):=od.mono fun b hb=>hb.elim id fun e=>by have:=cl.size;omega
     apply(jZ)
     (apply ke 14 rfl _;apply ke 15 rfl _)
     apply jS 16;have j6:=h.lt _ h.rc;have bd:=b1.trans (cd.mono z1);have cvd:=(cd.cell (p:=Aq rc 0) (I:rc<w1.heap.size)).trans cv;apply jT (hv:=(jY.one pD)) cvd (U.free (h1.below cd |>.vb) 0);apply(jZ);apply(jD);apply G _;obtain⟨r1,r2⟩:=h.push (w0:=w) (Z.jw bd) rfl I oQ pD (fun g hg=>by have:=pD.own hg;omega);exact J ⟨_,by rw[hc],by rw[hL];exact⟨_,_,r1⟩,r2,fun b (hb:(O b\/w.heap.size<=b)/\_)=>hb.1⟩
    ·skip
     refine lh (cs:=[Iq ((L.length:Int)+1),.string txt,.bool false,kP]) fun gl wl fl=>?_;have cl:=ca.kj fl.below;have DY:=ph.zN fl (T:=zt) (rn rfl);have Xi:=fl.blk.lt;have DL:=tI.jA (Z.jw fl.below) (fun g hg=>tI.lt hg);have YX:ga≠gl:=by have:=fl.eq;have:ga<wa.heap.size:=tI.lt rfl;omega
     apply lI cl;apply jS 6;refine l_ BU DL (src cl) fun vb wb ob gb=>?_;have cb:=cl.trans (gb.old cl.size fun g hg=>DL.own hg);have xh:jY zt 4 wb (fun b=>w1.heap.size<=b) vb L.length cells:=by
      rw[bA,aT]at ob;exact ob.mono fun b hb=>hb.elim id fun e=>by have:=cl.size;omega
     have Ns:=DY.jA gb.1 (fun b hb hl=>⟨hl,fun e=>YX ((az e).trans hb)⟩);apply lI cb;apply jS 13;refine l_ BU xh Ns fun vd wd od gd=>?_;have cd:=cb.trans (gd.old cb.size fun g hg=>xh.own hg);have pD:jY zt 4 wd (fun b=>w1.heap.size<=b) vd (L.length+1) (cells++[Iq ((L.length:Int)+1),.string txt,.bool false,kP]):=od.mono fun b hb=>hb.elim id fun e=>by have:=cb.size;omega
     apply(jZ)
     (apply ke 14 rfl _;apply ke 15 rfl _)
     apply jS 16;have j6:=h.lt _ h.rc;have bd:=b1.trans (cd.mono z1);have cvd:=(cd.cell (p:=Aq rc 0) (I:rc<w1.heap.size)).trans cv;apply jT (hv:=(jY.one pD)) cvd (U.free (h1.below cd |>.vb) 0);apply(jZ);apply(jD);apply G _;obtain⟨r1,r2⟩:=h.push (w0:=w) (Z.jw bd) rfl I oQ pD (fun g hg=>by have:=pD.own hg;omega);exact J ⟨_,by rw[hc],by rw[hL];exact⟨_,_,r1⟩,r2,fun b (hb:(O b\/w.heap.size<=b)/\_)=>hb.1⟩
   ·skip
    refine lh (cs:=[Iq ((L.length:Int)+1),.string txt,.bool false,kP]) fun gl wl fl=>?_;have cl:=c3.kj fl.below;have DY:=ph.zN fl (T:=zt) (rn rfl);have Xi:=fl.blk.lt;apply lI cl;apply jS 1;refine WL.empty rfl rfl rfl rfl rfl fun ga wa fa=>?_;have ca:=cl.kj fa.below;have tI:jY zt 4 wa (fun b=>w1.heap.size<=b) (nj ga 0 0 0) 0 []:=jY.fresh fa (fun u hu=>absurd hu a_) jM I (by have:=fa.eq;have:=cl.size;omega);have afA:=DY.jA (Z.jw fa.below) (fun b _ hb=>hb);have YX:ga≠gl:=by have:=fa.eq;omega
    have glE:=ao Xi fa.below.size;apply lI ca;apply jS 6;refine l_ BU tI (src ca) fun vb wb ob gb=>?_;have cb:=ca.trans (gb.old ca.size fun g hg=>tI.own hg);have xh:jY zt 4 wb (fun b=>w1.heap.size<=b) vb L.length cells:=by
     rw[bA,aT]at ob;exact ob.mono fun b hb=>hb.elim id fun e=>by have:=ca.size;omega
    have Ns:=afA.jA gb.1 (fun b hb hl=>⟨hl,fun e=>YX ((az e).trans hb)⟩);apply lI cb;apply jS 13;refine l_ BU xh Ns fun vd wd od gd=>?_;have cd:=cb.trans (gd.old cb.size fun g hg=>xh.own hg);have pD:jY zt 4 wd (fun b=>w1.heap.size<=b) vd (L.length+1) (cells++[Iq ((L.length:Int)+1),.string txt,.bool false,kP]):=od.mono fun b hb=>hb.elim id fun e=>by have:=cb.size;omega
    apply(jZ)
    (apply ke 14 rfl _;apply ke 15 rfl _)
    apply jS 16;have j6:=h.lt _ h.rc;have bd:=b1.trans (cd.mono z1);have cvd:=(cd.cell (p:=Aq rc 0) (I:rc<w1.heap.size)).trans cv;apply jT (hv:=(jY.one pD)) cvd (U.free (h1.below cd |>.vb) 0);apply(jZ);apply(jD);apply G _;obtain⟨r1,r2⟩:=h.push (w0:=w) (Z.jw bd) rfl I oQ pD (fun g hg=>by have:=pD.own hg;omega);exact J ⟨_,by rw[hc],by rw[hL];exact⟨_,_,r1⟩,r2,fun b (hb:(O b\/w.heap.size<=b)/\_)=>hb.1⟩
 ·apply jF _
  refine WC.drawn 14 (jP w1) fun w2 hd=>?_;have hS:jP w1 w2:=hd.below _;have kc:∀ {wx:World},jP w1 wx->wx.cell? (Aq rc 0)=some (.slice QH L.length Hb):=fun hx=>(hx.cell (p:=Aq rc 0) (show rc<w1.heap.size by have:=h.lt _ h.rc;omega)).trans cv;have k2:∀ {wx:World},jP w1 wx->wx.cell? (Aq ge 2)=some (Iq tbl):=fun hx=>(hx.cell (p:=Aq ge 2) (I:ge<w1.heap.size)).trans e2;apply jC [0,2,3,4] hS _;apply jz 1 [8,9,13,14] (fun wx hx=>k2 hx) hS;apply jz 5 [6,7,8,9,13,14] (fun wx hx=>kc hx) hS;apply jC [6,7,8,9,10,11,12,13] hS _;apply jS 14;apply G _;apply WQ.dk (.inl rfl);apply(jD);apply G _;exact J (xO.no (by unfold mu;rw[ag rfl,aa g64,ag (.inl ht)]) I h0 (b1.trans (hS.mono z1)))
theorem RM {L:List Tb}{cs:Array Value}(h0:rH w rc O L)(hE:Hj cs 6 txt tbl):
  Calls prog 109 #[jV rc,.agg cs] w (xO w rc O L 6 txt tbl):=by
 obtain⟨tv,cells,h⟩:=id h0;have hlen:=h.oP.len;apply kq func109 ntmps109;apply mA _;refine jO fun ge w1 f1=>?_;have b1:=f1.below;obtain⟨e0,e1,e2⟩:=KP hE f1.blk;have eg:=f1.eq;have ez:=f1.size;clear f1;have h1:=h.below b1;have z1:=b1.size;apply jF _;apply jx func43 (DI h1 tbl);rintro _ w1' ⟨rfl,⟨ht,rfl⟩|⟨k,g,cap,hk,rfl,ht,Ch,rfl,rfl⟩⟩
 ·refine⟨_,rfl,?_⟩
  apply G _;apply(kV);apply G _;exact J (xO.no (by unfold mu;rw[aa I,ag rfl,aa (by rw[ht];simp)]) I h0 b1)
 ·refine⟨_,rfl,?_⟩
  have hc:mu L 6 txt ((k:Int)+1)=0:=by unfold mu;rw[aa I,ag rfl,ag ht]
  have hL:oV L 6 txt ((k:Int)+1)=L.set k ⟨(L.getD k ku).name,true,[]⟩:=by unfold oV;rw[ag hc,aa I,ag rfl,show((k:Int)+1 - 1).toNat=k by omega]
  obtain⟨g',oa,es,-,-,vL,KD,d0,d1,d2,sp,c,d3,jW⟩:=oD h1.own hk (h1.m5 k hk);obtain⟨rfl,rfl⟩:g=g'/\cap=oa:=by simpa using es
  clear es;have hl:=h1.own.len;have Bd:=h.oP.each k hk;have o1:=jY.stored h1.own (k*4+2) (u:=.bool true) rfl;have o2:=jY.stored o1 (k*4+3) (u:=kP) rfl;apply G _;apply(kV);apply G _;apply jT d2 (jY.free h1.own _);have d3':(w1'.setCell (Aq g (k*4+2)) (.bool true)).cell? (Aq g (k*4+3))=some (.slice sp (L.getD k ku).fs.length c):=by
   rw[jY.at o1 (k*4+3) (by rw[aI];omega)];rw[jY.at h1.own (k*4+3) I]at d3;rw[Cat.getD_set_ne _ _ _ _ _ I];exact d3
  apply G _;apply jT d3' (jY.free o1 _);apply G _;have hb:∀b,b<w1'.heap.size->b≠g->((w1'.setCell (Aq g (k*4+2)) (.bool true)).setCell (Aq g (k*4+3)) (kP)).heap[b]? = w1'.heap[b]?:=fun b _ mE=>by
   rw[Below.heap_setCell _ _ _ b mE,Below.heap_setCell _ _ _ b mE]
  have R:=h1.place (O':=O) (t:=⟨(L.getD k ku).name,true,[]⟩) hk hb o2 nN (fun b hh=>by simp;exact h1.lt b hh) (fun i hi j hj=>by
   rw[Cat.getD_set_ne _ _ _ _ _ I,Cat.getD_set_ne _ _ _ _ _ I]) ?_ (Cat.Es h.oP Bd.1 jM jM jM)
  ·refine J ⟨O,by rw[hc],by rw[hL];exact⟨_,_,R⟩,?_,fun b hh=>.inl hh⟩
   exact Z.setCell (Z.setCell ((Z.jw b1).mono fun b hh=>hh.1) (fun hh=>hh.2 KD) _) (fun hh=>hh.2 KD) _
  ·obtain⟨i0,i1,i2,i3⟩:=h1.m5 k hk
   refine⟨?_,?_,?_,?_⟩
   ·rw[Cat.getD_set_ne _ _ _ _ _ I,Cat.getD_set_ne _ _ _ _ _ I];exact i0
   ·rw[Cat.getD_set_ne _ _ _ _ _ I,Cat.getD_set_ne _ _ _ _ _ I];exact i1
   ·rw[Cat.getD_set_ne _ _ _ _ _ I,Cat.mO _ _ _ _ I]
   ·rw[Cat.mO _ _ _ _ (by rw[aI];omega)];exact jY.nil _ _ _ _
theorem OX {L:List Tb}{cs:Array Value}(h0:rH w rc O L)(hE:Hj cs 7 txt tbl):
  Calls prog 109 #[jV rc,.agg cs] w (xO w rc O L 7 txt tbl):=by
 obtain⟨tv,cells,h⟩:=id h0;have hlen:=h.oP.len;apply kq func109 ntmps109;apply mA _;refine jO fun ge w1 f1=>?_;have b1:=f1.below;obtain⟨e0,e1,e2⟩:=KP hE f1.blk;have eg:=f1.eq;have ez:=f1.size;clear f1;have h1:=h.below b1;have z1:=b1.size;apply jF _;apply jx func43 (DI h1 tbl);rintro _ w1 ⟨rfl,⟨ht,rfl⟩|⟨k,g,cap,hk,rfl,ht,Ch,rfl,rfl⟩⟩
 ·refine⟨_,rfl,?_⟩
  apply G _;apply(kV);apply G _;exact J (xO.no (by unfold mu;rw[aa I,aa I,ag rfl,ag ht]) I h0 b1)
 refine⟨_,rfl,?_⟩;have htf:¬there L ((k:Int)+1)=false:=by rw[ht];simp
 apply G _;apply(kV);apply jF _;apply WL.call rfl rfl rfl rfl rfl func139 rfl jG (Lp txt w1);rintro _ w1 ⟨rfl,rfl⟩;refine⟨_,rfl,?_⟩;cases oQ:xf txt with
 | false=>
  apply G _;exact J (xO.no (by unfold mu;rw[aa I,aa I,ag rfl,aa htf,ag oQ]) I h0 b1)
 | true=>
 apply jF _;apply WL.call rfl rfl rfl rfl rfl func17 rfl jG (Qp ⟨_,_,h1⟩ ((k:Int)+1) txt);rintro _ w1 ⟨rfl,rfl⟩;refine⟨_,rfl,?_⟩;cases OA:has L ((k:Int)+1) txt with
 | true=>
  apply G _;exact J (xO.no (by unfold mu;rw[aa I,aa I,ag rfl,aa htf,aa (by rw[oQ];simp),ag OA]) I h0 b1)
 | false=>
 have zr:((k:Int)+1 - 1).toNat=k:=I;obtain⟨g',oa,es,-,-,vL,KD,d0,d1,d2,sp,c,d3,jW⟩:=oD h1.own hk (h1.m5 k hk);obtain⟨rfl,rfl⟩:g=g'/\cap=oa:=by simpa using es
 clear es;have Bd:=h.oP.each k hk
 by_cases QL:16<=(L.getD k ku).fs.length
 ·apply jF _
  exact J (xO.no (by unfold mu;rw[aa I,aa I,ag rfl,aa htf,aa (by rw[oQ];simp),aa (by rw[OA];simp),ag (by rw[zr];exact QL)]) I h0 b1)
 have hc:mu L 7 txt ((k:Int)+1)=0:=by unfold mu;rw[aa I,aa I,ag rfl,aa htf,aa (by rw[oQ];simp),aa (by rw[OA];simp),aa (by rw[zr];exact QL)]
 have hL:oV L 7 txt ((k:Int)+1)=L.set k ⟨(L.getD k ku).name,(L.getD k ku).dropped,(L.getD k ku).fs++[txt]⟩:=by unfold oV;rw[ag hc,aa I,aa I,ag rfl,zr]
 have afp:txt.size<=40:=by unfold xf at oQ;simp at oQ;omega
 have sR:Cat.Good (L.set k ⟨(L.getD k ku).name,(L.getD k ku).dropped,(L.getD k ku).fs++[txt]⟩):=Cat.Es h.oP Bd.1 (by show((L.getD k ku).fs++[txt]).length<=16;rw[af];show _+1<=16;omega) (fun f hf=>by
  rcases au.1 hf with hf|hf
  ·exact Bd.2.2.1 f hf
  ·obtain rfl:f=txt:=by simpa using hf
   exact afp) (fun kv=>by rw[show(⟨(L.getD k ku).name,(L.getD k ku).dropped,(L.getD k ku).fs++[txt]⟩:Tb).dropped=(L.getD k ku).dropped from rfl,Ch]at kv;cases kv)
 have adh:=h1.m5 k hk;clear Bd OA htf Ch;generalize L.getD k ku=t at *;apply jF _;refine WC.drawn 10 (jP w1) fun w3 Fa=>?_;have c3:jP w1 w3:=Fa.below _;have hS:=c3;clear Fa;have src:∀ {wx:World},jP w1 wx->ph wx O 1 (.slice sp t.fs.length c) t.fs.length (t.fs.map Value.string):=fun hx=>jW.EM.below hx (aj _);apply jC [0,2,3,4,7] hS _;apply jz 5 [6,10] (lX vL d3) c3;apply jz 8 [9,10] (fun wx hx=>(hx.cell (p:=Aq ge 1) (I:ge<w1.heap.size)).trans e1) c3;refine WD.two 1 9 jG rfl rfl ?_ ?_
 ·skip
  refine WL.empty rfl rfl rfl rfl rfl fun ga wa fa=>?_;have ca:=c3.kj fa.below;have tI:jY Ad 1 wa (fun b=>w1.heap.size<=b) (nj ga 0 0 0) 0 []:=jY.fresh fa (fun u hu=>absurd hu a_) jM I (by have:=fa.eq;have:=c3.size;omega);apply lI ca;refine WD.two 6 9 jG rfl rfl ?_ ?_
  ·skip
   refine l_ Ct tI (src ca) fun vb wb ob gb=>?_;have cb:=ca.trans (gb.old ca.size fun g hg=>tI.own hg);have xh:jY Ad 1 wb (fun b=>w1.heap.size<=b) vb t.fs.length (t.fs.map Value.string):=by
    rw[bA,aT]at ob;exact ob.mono fun b hb=>hb.elim id fun e=>by have:=ca.size;omega
   apply lI cb;apply jS 9;refine lh (cs:=[.string txt]) fun gl wl fl=>?_;have cl:=cb.kj fl.below;have DY:=ph.zN fl (T:=Ad) (fun u hu=>by simp at hu;subst hu;rfl);have Xi:=fl.blk.lt;have DL:=xh.jA (Z.jw fl.below) (fun g hg=>xh.lt hg)
   skip
   apply lI cl;apply jS 10;refine l_ Ct DL DY fun vd wd od gd=>?_;have cd:=cl.trans (gd.old cl.size fun g hg=>DL.own hg);have pD:jY Ad 1 wd (fun b=>w1.heap.size<=b) vd (t.fs.length+1) ((t.fs.map Value.string)++[.string txt]):=od.mono fun b hb=>hb.elim id fun e=>by have:=cl.size;omega
   apply(jZ)
   (apply ke 11 rfl _;apply ke 12 rfl _)
   apply jS 13;have bd:=b1.trans (cd.mono z1);have vP:=h1.below cd;have d3d:=(cd.cell (p:=Aq g (k*4+3)) vL).trans d3;apply jT (hv:=(jY.one pD)) d3d (jY.free vP.own _);apply(jZ);apply(jD);apply G _;have o1:=jY.stored vP.own (k*4+3) (u:=vd) (jY.one pD);have R:=vP.place (O':=fun b=>(O b\/w.heap.size<=b)/\b<wd.heap.size) (t:=⟨t.name,t.dropped,t.fs++[txt]⟩) hk (fun b _ mE=>Below.heap_setCell _ _ _ b mE) o1 (fun b hh=>⟨.inl hh,ao (h.lt b hh) bd.size⟩) (fun b hh=>by simp;exact hh.2) (fun i hi j hj=>by rw[Cat.getD_set_ne _ _ _ _ _ I]) ?_ sR
   ·refine J ⟨_,by rw[hc],by rw[hL];exact⟨_,_,R⟩,?_,fun b (hh:(O b\/w.heap.size<=b)/\_)=>hh.1⟩
    exact Z.setCell ((Z.jw bd).mono fun b hh=>hh.1) (fun hh=>hh.2 KD) _
   ·have hl:=h1.own.len
    obtain⟨i0,i1,i2,-⟩:=adh;refine⟨?_,?_,?_,?_⟩
    ·rw[Cat.getD_set_ne _ _ _ _ _ I];exact i0
    ·rw[Cat.getD_set_ne _ _ _ _ _ I];exact i1
    ·rw[Cat.getD_set_ne _ _ _ _ _ I];exact i2
    ·rw[Cat.mO _ _ _ _ I]
     have e:(⟨t.name,t.dropped,t.fs++[txt]⟩:Tb).fs.length=t.fs.length+1:=jM;rw[e,show(⟨t.name,t.dropped,t.fs++[txt]⟩:Tb).fs.map Value.string=t.fs.map Value.string++[.string txt] by simp];refine(jY.j_ (w:=wd) (w':=wd.setCell (Aq g (k*4+3)) vd) ⟨pD.1,pD.2.1,fun b hb=>⟨.inr (by have:=pD.own hb;omega),pD.lt hb⟩⟩ fun b hb=>Below.heap_setCell _ _ _ b ?_);have:=pD.own hb
     show b≠g
     omega
  ·skip
   refine lh (cs:=[.string txt]) fun gl wl fl=>?_;have cl:=ca.kj fl.below;have DY:=ph.zN fl (T:=Ad) (fun u hu=>by simp at hu;subst hu;rfl);have Xi:=fl.blk.lt;have DL:=tI.jA (Z.jw fl.below) (fun g hg=>tI.lt hg);have YX:ga≠gl:=by have:=fl.eq;have:ga<wa.heap.size:=tI.lt rfl;omega
   apply lI cl;apply jS 6;refine l_ Ct DL (src cl) fun vb wb ob gb=>?_;have cb:=cl.trans (gb.old cl.size fun g hg=>DL.own hg);have xh:jY Ad 1 wb (fun b=>w1.heap.size<=b) vb t.fs.length (t.fs.map Value.string):=by
    rw[bA,aT]at ob;exact ob.mono fun b hb=>hb.elim id fun e=>by have:=cl.size;omega
   have Ns:=DY.jA gb.1 (fun b hb hl=>⟨hl,fun e=>YX ((az e).trans hb)⟩);apply lI cb;apply jS 10;refine l_ Ct xh Ns fun vd wd od gd=>?_;have cd:=cb.trans (gd.old cb.size fun g hg=>xh.own hg);have pD:jY Ad 1 wd (fun b=>w1.heap.size<=b) vd (t.fs.length+1) ((t.fs.map Value.string)++[.string txt]):=od.mono fun b hb=>hb.elim id fun e=>by have:=cb.size;omega
   apply(jZ)
   (apply ke 11 rfl _;apply ke 12 rfl _)
   apply jS 13;have bd:=b1.trans (cd.mono z1);have vP:=h1.below cd;have d3d:=(cd.cell (p:=Aq g (k*4+3)) vL).trans d3;apply jT (hv:=(jY.one pD)) d3d (jY.free vP.own _);apply(jZ);apply(jD);apply G _;have o1:=jY.stored vP.own (k*4+3) (u:=vd) (jY.one pD);have R:=vP.place (O':=fun b=>(O b\/w.heap.size<=b)/\b<wd.heap.size) (t:=⟨t.name,t.dropped,t.fs++[txt]⟩) hk (fun b _ mE=>Below.heap_setCell _ _ _ b mE) o1 (fun b hh=>⟨.inl hh,ao (h.lt b hh) bd.size⟩) (fun b hh=>by simp;exact hh.2) (fun i hi j hj=>by rw[Cat.getD_set_ne _ _ _ _ _ I]) ?_ sR
   ·refine J ⟨_,by rw[hc],by rw[hL];exact⟨_,_,R⟩,?_,fun b (hh:(O b\/w.heap.size<=b)/\_)=>hh.1⟩
    exact Z.setCell ((Z.jw bd).mono fun b hh=>hh.1) (fun hh=>hh.2 KD) _
   ·have hl:=h1.own.len
    obtain⟨i0,i1,i2,-⟩:=adh;refine⟨?_,?_,?_,?_⟩
    ·rw[Cat.getD_set_ne _ _ _ _ _ I];exact i0
    ·rw[Cat.getD_set_ne _ _ _ _ _ I];exact i1
    ·rw[Cat.getD_set_ne _ _ _ _ _ I];exact i2
    ·rw[Cat.mO _ _ _ _ I]
     have e:(⟨t.name,t.dropped,t.fs++[txt]⟩:Tb).fs.length=t.fs.length+1:=jM;rw[e,show(⟨t.name,t.dropped,t.fs++[txt]⟩:Tb).fs.map Value.string=t.fs.map Value.string++[.string txt] by simp];refine(jY.j_ (w:=wd) (w':=wd.setCell (Aq g (k*4+3)) vd) ⟨pD.1,pD.2.1,fun b hb=>⟨.inr (by have:=pD.own hb;omega),pD.lt hb⟩⟩ fun b hb=>Below.heap_setCell _ _ _ b ?_);have:=pD.own hb
     show b≠g
     omega
 ·skip
  refine lh (cs:=[.string txt]) fun gl wl fl=>?_;have cl:=c3.kj fl.below;have DY:=ph.zN fl (T:=Ad) (fun u hu=>by simp at hu;subst hu;rfl);have Xi:=fl.blk.lt;apply lI cl;apply jS 1;refine WL.empty rfl rfl rfl rfl rfl fun ga wa fa=>?_;have ca:=cl.kj fa.below;have tI:jY Ad 1 wa (fun b=>w1.heap.size<=b) (nj ga 0 0 0) 0 []:=jY.fresh fa (fun u hu=>absurd hu a_) jM I (by have:=fa.eq;have:=cl.size;omega);have afA:=DY.jA (Z.jw fa.below) (fun b _ hb=>hb);have YX:ga≠gl:=by have:=fa.eq;omega
  have glE:=ao Xi fa.below.size;apply lI ca;apply jS 6;refine l_ Ct tI (src ca) fun vb wb ob gb=>?_;have cb:=ca.trans (gb.old ca.size fun g hg=>tI.own hg);have xh:jY Ad 1 wb (fun b=>w1.heap.size<=b) vb t.fs.length (t.fs.map Value.string):=by
   rw[bA,aT]at ob;exact ob.mono fun b hb=>hb.elim id fun e=>by have:=ca.size;omega
  have Ns:=afA.jA gb.1 (fun b hb hl=>⟨hl,fun e=>YX ((az e).trans hb)⟩);apply lI cb;apply jS 10;refine l_ Ct xh Ns fun vd wd od gd=>?_;have cd:=cb.trans (gd.old cb.size fun g hg=>xh.own hg);have pD:jY Ad 1 wd (fun b=>w1.heap.size<=b) vd (t.fs.length+1) ((t.fs.map Value.string)++[.string txt]):=od.mono fun b hb=>hb.elim id fun e=>by have:=cb.size;omega
  apply(jZ)
  (apply ke 11 rfl _;apply ke 12 rfl _)
  apply jS 13;have bd:=b1.trans (cd.mono z1);have vP:=h1.below cd;have d3d:=(cd.cell (p:=Aq g (k*4+3)) vL).trans d3;apply jT (hv:=(jY.one pD)) d3d (jY.free vP.own _);apply(jZ);apply(jD);apply G _;have o1:=jY.stored vP.own (k*4+3) (u:=vd) (jY.one pD);have R:=vP.place (O':=fun b=>(O b\/w.heap.size<=b)/\b<wd.heap.size) (t:=⟨t.name,t.dropped,t.fs++[txt]⟩) hk (fun b _ mE=>Below.heap_setCell _ _ _ b mE) o1 (fun b hh=>⟨.inl hh,ao (h.lt b hh) bd.size⟩) (fun b hh=>by simp;exact hh.2) (fun i hi j hj=>by rw[Cat.getD_set_ne _ _ _ _ _ I]) ?_ sR
  ·refine J ⟨_,by rw[hc],by rw[hL];exact⟨_,_,R⟩,?_,fun b (hh:(O b\/w.heap.size<=b)/\_)=>hh.1⟩
   exact Z.setCell ((Z.jw bd).mono fun b hh=>hh.1) (fun hh=>hh.2 KD) _
  ·have hl:=h1.own.len
   obtain⟨i0,i1,i2,-⟩:=adh;refine⟨?_,?_,?_,?_⟩
   ·rw[Cat.getD_set_ne _ _ _ _ _ I];exact i0
   ·rw[Cat.getD_set_ne _ _ _ _ _ I];exact i1
   ·rw[Cat.getD_set_ne _ _ _ _ _ I];exact i2
   ·rw[Cat.mO _ _ _ _ I]
    have e:(⟨t.name,t.dropped,t.fs++[txt]⟩:Tb).fs.length=t.fs.length+1:=jM;rw[e,show(⟨t.name,t.dropped,t.fs++[txt]⟩:Tb).fs.map Value.string=t.fs.map Value.string++[.string txt] by simp];refine(jY.j_ (w:=wd) (w':=wd.setCell (Aq g (k*4+3)) vd) ⟨pD.1,pD.2.1,fun b hb=>⟨.inr (by have:=pD.own hb;omega),pD.lt hb⟩⟩ fun b hb=>Below.heap_setCell _ _ _ b ?_);have:=pD.own hb
    show b≠g
    omega
theorem Ov {L:List Tb}{cs:Array Value}{kind:Int}(h0:rH w rc O L)(hE:Hj cs kind txt tbl)(h5:kind≠5)(h6:kind≠6)(h7:kind≠7):
  Calls prog 109 #[jV rc,.agg cs] w (xO w rc O L kind txt tbl):=by
 obtain⟨tv,cells,h⟩:=id h0;apply kq func109 ntmps109;apply mA _;refine jO fun ge w1 f1=>?_;have b1:=f1.below;obtain⟨e0,e1,e2⟩:=KP hE f1.blk;have eg:=f1.eq;have ez:=f1.size;clear f1;have h1:=h.below b1;have z1:=b1.size;apply jF _;have hc:mu L kind txt tbl=0:=by unfold mu;rw[aa h5,aa h6,aa h7]
 exact J ⟨O,by rw[hc],by unfold oV;rw[ag hc,aa h5,aa h6,aa h7];exact⟨_,_,h1⟩,(Z.jw b1).mono fun b hh=>hh.1,fun b hh=>.inl hh⟩
theorem Vd {L:List Tb}{cs:Array Value}{kind:Int}(h0:rH w rc O L)(hE:Hj cs kind txt tbl):
  Calls prog 109 #[jV rc,.agg cs] w (xO w rc O L kind txt tbl):=by
 by_cases h5:kind=5
 ·subst h5;exact O9 h0 hE
 by_cases h6:kind=6
 ·subst h6;exact RM h0 hE
 by_cases h7:kind=7
 ·subst h7;exact OX h0 hE
 exact Ov h0 hE h5 h6 h7
open K Cat
theorem uW {a T':Nat}{rU:Array Value}(h:U T w a cs)(h':w.heap[b]? = some (.cells rU T' (0,0)))(mE:T'≠T): b≠a:=fun e=>by
 have hv:w.heap[a]? = some (.cells cs.toArray T (0,0)):=h;rw[e,hv]at h'
 injection h' with h'
 injection h' with _ h' _
 exact mE h'.symm
theorem RC.snoc {L:List Tb}{fv:Value}{cells:kL}{t:Tb}(h:RC w rc O L tv cells)(hk:Z (fun b=>b<w.heap.size/\tv.ownBlock≠some b) w w')(hO:∀b,O b->O' b)(j6:∀b,O' b->b<w'.heap.size)(ho:jY zt 4 w' O' vG (L.length+1) (cells++[Iq ((L.length+1:Nat):Int),.string t.name,.bool t.dropped,fv]))(hf:jY Ad 1 w' O' fv t.fs.length (t.fs.map Value.string))(hg:Cat.Good (L++[t])):
  RC (w'.setCell (Aq rc 0) vG) rc O' (L++[t]) vG (cells++[Iq ((L.length+1:Nat):Int),.string t.name,.bool t.dropped,fv]):=by
 have hl:=h.own.len;have EX:=h.lt _ h.rc;have hrn:tv.ownBlock≠some rc:=fun e=>by obtain⟨cur,hc⟩:=h.own.tag e;exact uW h.vb hc lZ rfl
 have ID:=h.vb.jA hk ⟨EX,hrn⟩;have jW:∀ {e:Nat}{m:Nat}{v:Value}{n:Nat}{l:kL},e≠rcT->jY e m w' O' v n l->jY e m (w'.setCell (Aq rc 0) vG) O' v n l:=fun mE hh=>hh.j_ fun b hb=>Below.heap_setCell w' _ _ b (by obtain⟨cur,hc⟩:=hh.tag hb;exact uW ID hc mE);refine⟨ID.set 0 vG,?_,fun i hi=>?_,hO _ h.rc,fun b hb=>by simp;exact j6 b hb,hg⟩
 ·rw[show(L++[t]).length=L.length+1 by simp]
  exact jW lZ ho
 ·by_cases j6:i<L.length
  ·rw[Cat.nU _ _ _ _ j6]
   refine(((h.m5 i j6).j_ fun b hb ⟨cur,hc⟩=>?_).left I).mono hO;have n1:=uW h.vb hc lZ;rw[Below.heap_setCell w' _ _ b n1];refine hk.block b ⟨h.lt b hb,fun e=>?_⟩;obtain⟨azG,rE⟩:=h.own.tag e;rw[rE]at hc
   injection hc with hc
   injection hc with _ hc _
   exact absurd hc lZ
  ·obtain rfl:i=L.length:=by simp at hi;omega
   have e:(L++[t]).getD L.length ku=t:=jM;rw[e];exact nV.last hl (jW lZ hf)
theorem MQ {L:List Tb}(hi:i<L.length): L.take (i+1)=L.take i++[L.getD i ku]:=by
 rw[aK,ah,ai hi];rfl
theorem XG {L:List Tb}(h:Cat.Good L)(i:Nat): Cat.Good (L.take i) :=
 ⟨by rw[aC];have:=h.len;omega,fun j hj=>by
  rw[aC]at hj;have e:(L.take i).getD j ku=L.getD j ku:=by rw[ah,ah,cS I]
  rw[e];exact h.each j I⟩
theorem SR: prog.built rcT []=some [kP].toArray:=jG
theorem N3 {L:List Tb}(h0:rH w rc O L): Calls prog 71 #[jV rc] w fun e w'=>∃rc' O',e=.returned (.pointer (some (Aq rc' 0)))/\rH w' rc' O' L/\jP w w'/\∀b,O' b->w.heap.size<=b:=by
 obtain⟨tv,cells,h⟩:=id h0;have hlen:=h.oP.len;obtain⟨QH,Hb,rfl,-,-⟩:=h.own.slice;apply kq func71 ntmps71;apply G _;apply jR [kP] SR;refine jO fun ob w1 f1=>?_;have b1:=f1.below;have eo:=f1.eq;have R1:RC w1 ob (fun b=>b=ob) [] (kP) []:=⟨f1.blk,jY.nil _ _ _ _,fun i hi=>absurd hi (dg i),rfl,fun b hb=>by rw[hb];exact f1.blk.lt,⟨jM,fun i hi=>absurd hi (dg i)⟩⟩;clear f1;apply G _;refine WC.loop (fun i:Nat=>[(0,jV rc),(3,jV ob),(4,Iq i)]) (fun i w'=>i<=L.length/\jP w w'/\∃O' vG x9,RC w' ob O' (L.take i) vG x9/\∀b,O' b->w.heap.size<=b) (fun i=>L.length - i) 0 kz
  ⟨ay _,b1,_,_,_,R1,fun b hb=>by rw[hb];omega⟩ ?_
 clear R1 b1 w1;rintro i w1 ⟨hi,b1,O1,tv1,avK,h1,Sz⟩;have hs:=h.below b1;have cv:=hs.vb.cell 0 jM;simp only[al]at cv;have z1:=b1.size
 by_cases hk:i<L.length
 ·obtain⟨g',cap,es,-,-,-,-,c0,c1,c2,sp,c,c3,jW⟩:=oD hs.own hk (hs.m5 i hk)
  obtain⟨rfl,rfl⟩:QH=some (Aq g' 0)/\Hb=cap:=by simpa using es
  clear es;have j6:(L.take i).length=i:=by rw[aC];omega
  have sR:=XG h.oP (i+1);rw[MQ hk]at sR;have ht:=MQ hk;have tP:=(h.oP.each i hk).2.1;generalize L.getD i ku=t at c0 c1 c2 c3 jW sR ht tP;apply jF _;apply jQ (hq:=I) i (i*4) hk;apply jy (QO c0 c1 c2 c3) rfl;refine jJ (z:=.agg sX.toArray) x_ fun g5 w2 f5=>?_;apply jE f5.blk (rn rfl);obtain⟨row,kF⟩:∃row,row=[Iq ((i+1:Nat):Int),.string t.name,.bool t.dropped,.slice sp t.fs.length c]:=⟨_,rfl⟩;rw[<-kF];have e5:=f5.eq;have v3:=f5.blk.setRow row;have k3:jP w1 (w2.setRow g5 row.toArray):=(mo (Z.jw f5.below) (fun hh=>by omega) _).below;have z3:=U.lt v3;generalize w2.setRow g5 row.toArray=w3 at v3 k3 z3 ⊢;clear f5;have cf:w3.cell? (Aq g5 3)=some (.slice sp t.fs.length c):=by rw[v3.cell 3 (by rw[kF];simp),kF];rfl
  apply G _;refine WL.empty rfl rfl rfl rfl rfl fun ga w4 fa=>?_;have cf4:=(fa.below.cell (p:=Aq g5 3) z3).trans cf;have v4:=v3.below fa.below z3;have k4:=k3.kj fa.below;have tI:jY Ad 1 w4 (fun b=>w1.heap.size<=b/\b≠g5) (nj ga 0 0 0) 0 []:=jY.fresh fa (fun u hu=>absurd hu a_) jM I (by have:=fa.eq;have:=k3.size;exact⟨I,I⟩);apply jF _;refine l_ Ct tI (jW.EM.below k4 (aj _)) fun vb w5 ob5 gb=>?_;have k5:=k4.trans (gb.old k4.size fun g hg=>(tI.own hg).1);have v5:=v4.jA gb.1 ⟨v4.lt,fun e=>(tI.own e).2 rfl⟩;have aak:jY Ad 1 w5 (fun b=>w1.heap.size<=b/\b≠g5) vb t.fs.length (t.fs.map Value.string):=by
   rw[bA,aT]at ob5;refine ob5.mono fun b hb=>hb.elim id fun e=>?_;have:=k4.size;have:=U.lt v4;exact⟨I,I⟩
  have cf5:w5.cell? (Aq g5 3)=some (.slice sp t.fs.length c):=by rw[v5.cell 3 (by rw[kF];simp),kF];rfl
  clear fa cf4 ob5 gb v3 v4 k3 cf;apply G _;apply jT (hv:=(jY.one aak)) cf5 (U.free v5 3);have v6:=v5.set 3 vb;have k6:jP w1 (w5.setCell (Aq g5 3) vb):=(Z.setCell (Z.jw k5) (fun(hh:g5<w1.heap.size)=>by omega) _).below;have ZI:jY Ad 1 (w5.setCell (Aq g5 3) vb) (fun b=>w1.heap.size<=b/\b≠g5) vb t.fs.length (t.fs.map Value.string):=aak.j_ fun b hb=>Below.heap_setCell w5 _ _ b (aak.own hb).2;rw[kF]at v6;generalize w5.setCell (Aq g5 3) vb=w6 at v6 k6 ZI ⊢;clear v5 cf5 aak k5 tI;change U zt w6 g5 [Iq ((i+1:Nat):Int),.string t.name,.bool t.dropped,vb]at v6;have h6:=h1.below k6;have z6:=k6.size;obtain⟨zh,agj,rfl,-,-⟩:=h6.own.slice;rw[j6]at h6;have cv6:=h6.vb.cell 0 jM;simp only[al]at cv6;apply G _;refine WC.drawn 7 (jP w6) fun w7 hd=>?_;have hS:jP w6 w7:=hd.below _;clear hd;have hob:=h6.lt _ h6.rc;have G2:=U.lt v6;apply jC [0,1,2,3] hS _;apply jz 4 [7] (lX hob cv6) hS;apply kG 5 [6,7] (fun wx hx=>U.rangeAt (v6.below hx G2)) rfl hS;apply jS 6;refine lh (cs:=[Iq ((i+1:Nat):Int),.string t.name,.bool t.dropped,vb]) fun gl w8 f8=>?_;have k8:=hS.kj f8.below;apply lI k8;have h8:=h6.below k8;have sl8:=ph.zN f8 (T:=zt) (rn (jY.one ZI));have z8:=k8.size;apply jS 7;refine l_ BU h8.own sl8 fun v9 w9 o9 g9=>?_;apply(jZ)
  (apply ke 8 rfl _;apply ke 9 rfl _)
  apply jS 10;have mE:(Value.slice zh i agj).ownBlock≠some ob:=fun e=>by obtain⟨cur,hc⟩:=h8.own.tag e;exact uW h8.vb hc lZ rfl
  have ak_:=h8.lt _ h8.rc;have cv9:=(g9.1.cell (p:=Aq ob 0) ⟨ak_,mE⟩).trans ((k8.cell (p:=Aq ob 0) hob).trans cv6);apply jT (hv:=(jY.one o9)) cv9 (U.free (h8.vb.jA g9.1 ⟨ak_,mE⟩) 0);apply(jZ);apply(jD);have Z6:=ZI.jA (Z.jw k8) (fun g hg=>ZI.lt hg);have auj:jY Ad 1 w9 (fun b=>(O1 b\/w1.heap.size<=b)/\b<w9.heap.size) vb t.fs.length (t.fs.map Value.string):=by
   have:=Z6.jA g9.1 (fun g hg=>⟨Z6.lt hg,fun e=>by
    have q1:=h1.lt g (h8.own.own e);have q2:=(Z6.own hg).1;omega⟩)
   exact⟨this.1,this.2.1,fun g hg=>⟨.inr (Z6.own hg).1,this.lt hg⟩⟩
  have R:=h8.snoc (O':=fun b=>(O1 b\/w1.heap.size<=b)/\b<w9.heap.size) (t:=t) (fv:=vb) g9.1 (fun b hb=>⟨.inl hb,ao (h8.lt b hb) g9.1.size⟩) (fun b hb=>hb.2) (by
   rw[show((L.take i).length+1:Nat)=i+1 by omega];rw[j6]at o9;exact⟨o9.1,o9.2.1,fun g hg=>⟨(o9.own hg).elim .inl (fun e=>.inr I),o9.lt hg⟩⟩) auj sR
  rw[<-ht]at R;have bf:jP w (w9.setCell (Aq ob 0) v9):=by
   refine(Z.setCell (Z.jw ((b1.trans (k6.mono z1)).trans ((k8.mono I).trans (g9.old I fun g hg=>?_)))) (fun(hh:ob<w.heap.size)=>?_) _).below
   ·exact Sz g (h8.own.own hg)
   ·have:=Sz ob h1.rc;omega
  apply G _;exact WQ.again (i+1) kz ⟨hk,bf,_,_,_,R,fun b hb=>hb.1.elim (Sz b) (fun hh=>by omega)⟩ I
 ·obtain rfl:i=L.length:=I
  rw[aN]at h1;apply jF _;exact J ⟨ob,O1,rfl,⟨_,_,h1⟩,b1,Sz⟩
end Cr
namespace K
theorem Rf {P:Program}(op:BinOp)(t:TypeId)(x y:Operand)(p q:Option Nat)(w:World): (eqGuard op t x y (.map p) (.map q)).run P w=.ok () w:=by
 cases op<;>simp[eqGuard]
section
variable {n:NN}{Q:Exit->Act->World->Prop}{l:Env}{w w':World}{ops:Array Oper}{o:Oper}{rest:List Oper}{d:Nat}{S:World->Prop}{m fuel:Nat}{jI:Array Bool}
theorem WL.alN {t k e:Nat}{p:Option Nat}(hu:prog.underlying t=some (.map k e))(hg:o.guard=none)(hd:o.dst=some d)(hn:Nat.blt d n.n=true)(ho:o.op=.binOp .eql t x (.const (.map none)) t2)(hx:kS l x=some (.map p))(h:WL n ops Q rest ((d,.bool p.isNone)::l) w): WL n ops Q (o::rest) l w :=
 WL.step hg hd hn (fun a ha=>by
  have hy:a.eval (.const (.map none))=.map none:=rfl;unfold execOp;rw[ho];simp[ha.eval hx,hy,Rf _ _ _ _ _ _ _,dK w t k e p hu]) h
theorem Pv {a:Act}{t:Nat}{ok:Bool}{v:Value}(ha:Fr n a l)(ho:o.op=.lookup t x y ok)(hx:kS l x=some mv)(hy:kS l y=some xv)(hr:(Instr.lookup t mv xv ok).run prog w=.ok v w'): (execOp a.eval o).run prog w=.ok (.value v) w':=by
 unfold execOp;rw[ho];simp[ha.eval hx,ha.eval hy,hr,Result.andThen]
theorem WL.look {t:Nat}{ok:Bool}{v:Value}(hg:o.guard=none)(hd:o.dst=some d)(hn:Nat.blt d n.n=true)(ho:o.op=.lookup t x y ok)(hx:kS l x=some mv)(hy:kS l y=some xv)(hr:(Instr.lookup t mv xv ok).run prog w=.ok v w)(h:WL n ops Q rest ((d,v)::l) w): WL n ops Q (o::rest) l w :=
 WL.step hg hd hn (fun _ ha=>Pv ha ho hx hy hr) h
theorem WD.look {t:Nat}{ok:Bool}{v:Value}(i:Nat)(us:List Nat)(hi:ops[i]? = some oi)(hs:Ft ops jI i m us=true)(hd:oi.dst=some d)(hn:Nat.blt d n.n=true)(hQ:Passes Q)(hw:wants ops l oi=some true)(ho:oi.op=.lookup t x y ok)(hx:kS l x=some mv)(hy:kS l y=some xv)(hr:∀w,S w->(Instr.lookup t mv xv ok).run prog w=.ok v w)(hS:S w)(h:WD n ops Q S m fuel (jI.setIfInBounds i true) ((d,v)::l) w): WD n ops Q S m (fuel+1) jI l w :=
 WD.read i us hi hs hd hn hQ hw (fun _ ha w hSw=>Pv ha ho hx hy (hr w hSw)) hS h
theorem _root_.Go.Proofs.YtlenklobbngopaaGreat.nJ {t:Nat}{ok:Bool}{v:Value}(i:Nat)(us:List Nat)(hr:∀w,S w->(Instr.lookup t mv xv ok).run prog w=.ok v w)(hS:S w)(hi:ops[i]? = some oi:=by exact rfl)(hs:Ft ops jI i m us=true:=by kernel_rfl)(hd:oi.dst=some d:=by exact rfl)(hn:Nat.blt d n.n=true:=by exact rfl)(hQ:Passes Q:=by exact fun _ _ _ _ _ h=>h)(hw:wants ops l oi=some true:=by exact rfl)(ho:oi.op=.lookup t x y ok:=by exact rfl)(hx:kS l x=some mv:=by exact rfl)(hy:kS l y=some xv:=by exact rfl)(h:WD n ops Q S m fuel (jI.setIfInBounds i true) ((d,v)::l) w): WD n ops Q S m (fuel+1) jI l w:=WD.look i us hi hs hd hn hQ hw ho hx hy hr hS h
theorem WL.ml {t:Nat}{z:Operand}{zv:Value}(hg:o.guard=none)(hd:o.dst=none)(ho:o.op=.mapUpdate t x y z)(hx:kS l x=some mv)(hy:kS l y=some xv)(hz:kS l z=some zv)(hr:(Instr.mapUpdate t mv xv zv).run prog w=.ok () w')(h:WL n ops Q rest l w'): WL n ops Q (o::rest) l w :=
 WL.XY hg hd (fun _ ha=>by
  unfold execOp;rw[ho];simp[ha.eval hx,ha.eval hy,ha.eval hz,hr,Result.andThen]) h
theorem WL.mkMap {t:Nat}(hg:o.guard=none)(hd:o.dst=some d)(hn:Nat.blt d n.n=true)(ho:o.op=.makeMap t none)(h:WL n ops Q rest ((d,.map (some w.heap.size))::l) (w.alloc (.map #[] 0))): WL n ops Q (o::rest) l w :=
 WL.step hg hd hn (fun a ha=>by
  unfold execOp;rw[ho];simp[go_sem,Instr.makeMap,Result.andThen]) h
end
theorem MF.clone {κ:Type}{P:Program}{k:TypeId}{mk:κ->Value}{n:Nat}{F:κ->Option Value}(h:MF P k mk w b n F):
  ∃es clock,w.heap[b]? = some (.map es clock)/\MF P k mk (w.alloc (.map es clock)) w.heap.size n F:=by
 obtain⟨D,⟨es,clock,h1,h2⟩,hF⟩:=h;exact⟨es,clock,h1,D,⟨es,clock,(MapKept.heap_alloc w _).1,h2⟩,hF⟩
end K
namespace Vw
open K
def lA (r:Rw)(dc:kL):kL :=
 Iq r.m5::Iq r.doc::Iq r.kA::(dc++[.bool r.gone,.bool r.del,Iq r.blk,Iq r.pH,Iq r.sC])
structure zU (r:Rw):Prop where
 m5:lV r.m5
 doc:lV r.doc
 kA:lV r.kA
 blk:lV r.blk
 pH:lV r.pH
 sC:lV r.sC
def ni (D:Nat->Prop)(f:Nat)(w:World)(r:Rw)(cs:kL):Prop:=∃dc,cs=lA r dc/\lz D f w r.data dc/\zU r/\Sm 3000 f r.data
theorem ni.len {r:Rw}(h:ni D f w r cs): cs.length=14:=by
 obtain⟨dc,rfl,h1,-⟩:=h;simp[lA,h1.len]
theorem ni.one {r:Rw}(h:ni D f w r cs): lY cs:=by
 obtain⟨dc,rfl,h1,-⟩:=h;intro u hu;unfold lA at hu;simp only[ax,au,a_,eJ]at hu;rcases hu with rfl|rfl|rfl|hu|rfl|rfl|rfl|rfl|rfl
 all_goals first|rfl|exact h1.one u hu
theorem ni.jA {D':Nat->Prop}{r:Rw}(h:ni D f w r cs){K:Nat->Prop}(hk:Z K w w')(hK:∀b,D b->b<w.heap.size->K b)(hD:∀b,D b->D' b): ni D' f w' r cs:=by
 obtain⟨dc,h1,h2,h3⟩:=h;exact⟨dc,h1,h2.jA hk hK hD,h3⟩
structure rD (w:World) (b o:Nat) (r:Rw) (dc:kL):Prop where
 m5:w.cell? (Aq b o)=some (Iq r.m5)
 doc:w.cell? (Aq b (o+1))=some (Iq r.doc)
 kA:w.cell? (Aq b (o+2))=some (Iq r.kA)
 data:w.rangeAt b (o+3) dc
 gone:w.cell? (Aq b (o+9))=some (.bool r.gone)
 del:w.cell? (Aq b (o+10))=some (.bool r.del)
 blk:w.cell? (Aq b (o+11))=some (Iq r.blk)
 pH:w.cell? (Aq b (o+12))=some (Iq r.pH)
 sC:w.cell? (Aq b (o+13))=some (Iq r.sC)
 all:w.rangeAt b o (lA r dc)
theorem rD.of {r:Rw}(h:w.rangeAt b o (lA r dc))(hd:dc.length=6): rD w b o r dc:=by
 have e:=fun i v hv=>h i v hv;have q:∀i,[Value.bool r.gone,.bool r.del,Iq r.blk,Iq r.pH,Iq r.sC][i]? = (lA r dc)[i+9]?:=fun i=>by
  have:lA r dc=([Iq r.m5,Iq r.doc,Iq r.kA]++dc)++[Value.bool r.gone,.bool r.del,Iq r.blk,Iq r.pH,Iq r.sC]:=by simp[lA]
  rw[this,aE (by simp[hd])];simp[hd]
 refine⟨e 0 _ rfl,e 1 _ rfl,e 2 _ rfl,fun j u hu=>?_,e 9 _ ((q 0).symm.trans rfl),e 10 _ ((q 1).symm.trans rfl),e 11 _ ((q 2).symm.trans rfl),e 12 _ ((q 3).symm.trans rfl),e 13 _ ((q 4).symm.trans rfl),h⟩;rw[show o+3+j=o+(j+3) by omega];apply e (j+3) u
 show(dc++_)[j]? = some u
 rw[aZ]
 ·exact hu
 ·rcases aW j dc.length with h|h
  ·exact h
  ·rw[aM h]at hu;cases hu
theorem rD.below {r:Rw}(h:rD w b o r dc){K:Nat->Prop}(hk:Z K w w')(hb:K b): rD w' b o r dc:=by
 have c:=fun i=>hk.cell (p:=Aq b i) hb;exact⟨by rw[c];exact h.m5,by rw[c];exact h.doc,by rw[c];exact h.kA,fun j u hu=>by rw[c];exact h.data j u hu,by rw[c];exact h.gone,by rw[c];exact h.del,by rw[c];exact h.blk,by rw[c];exact h.pH,by rw[c];exact h.sC,fun j u hu=>by rw[c];exact h.all j u hu⟩
theorem nw {v:Value}{L:List Rw}(h:m6 14 kE (ni D f w) O w v L)(hi:i<L.length):
  ∃b o cap dc,v=nj b o L.length cap/\b<w.heap.size/\O b/\rD w b (o+i*14) (L.getD i kE) dc/\lz D f w (L.getD i kE).data dc/\zU (L.getD i kE)/\Sm 3000 f (L.getD i kE).data:=by
 obtain⟨sp,cap,rfl,h1,h2,h3,h4⟩:=h;obtain⟨b,o,rfl,hb,hO,hr⟩:=h4 I;obtain⟨cs,hl,⟨dc,rfl,hd,mq⟩,ly⟩:=hr i hi;exact⟨b,o,cap,dc,rfl,hb,hO,rD.of ly hd.len,hd,mq⟩
def nR (x:Int×Int):Value:=.agg #[Iq x.1,Iq x.2]
theorem tV (x y:Int×Int)(h:nR x=nR y): x=y:=by
 unfold nR at h;simp at h
 exact eO h.1 h.2
theorem AR {x:Int}(h:lV x): (Lit.int .i64 x).wf=true:=by
 obtain⟨h1,h2⟩:=h;simp only[Lit.wf,IntKind.min,IntKind.max,IntKind.signed,IntKind.bits,aF,aX];exact⟨by simpa using h1,by simpa using h2⟩
theorem Oi {P:Program} {k ti:TypeId} {f0 f1:Field} (hk:P.underlying k = some (.struct #[f0,f1])) (hi:P.underlying ti = some (.int .i64)) (t0:f0.type = ti) (o0:f0.offset = 0) (n0:(f0.name != "_") = true) (t1:f1.type = ti) (o1:f1.offset = 1) (n1:(f1.name != "_") = true) (hkt:P.keyType k = true) (hc:P.cellsOf k = 2) (ci:P.cellsOf ti = 1) {d:Nat} (hd:P.types.size + 1 = d + 1 + 1) (x:Int × Int) (h1:(Lit.int .i64 x.1).wf = true) (h2:(Lit.int .i64 x.2).wf = true): keyOf P k (nR x) = some (.string (keyBytes [.int .i64 x.1,.int .i64 x.2])):=by
 have e1:(nR x).formed P k=true:=by
  unfold Value.formed nR;simp only[hk,hc]
  rfl
 have e3:∀y:Int,(Lit.int .i64 y).wf=true->P.keyLits (d+1) ti [.int .i64 y]=some [.int .i64 y]:=fun y hy=>by
  unfold Program.keyLits;rw[hi];exact ag ⟨rfl,hy⟩
 have e2:P.keyLits (d+1+1) k (nR x).cells.toList=some [.int .i64 x.1,.int .i64 x.2]:=by
  unfold Program.keyLits;rw[hk];simp only[nR,Value.cells,hc,t0,t1,o0,o1,n0,n1,ci,ak,aL,i_,jl,ff,de,cE,cj,e3 _ h1,e3 _ h2,jm,List.all_nil,iv,Array.all_toList.symm,and_self,fI];simp
 unfold keyOf;simp only[hk,hkt,e1,iv,fI,hd,e2,eM]
abbrev xZ:Nat:=74
theorem aom: xZ<prog.types.size:=aR jG
theorem akl:(match prog.underlying xZ with|some (.array _ _)|some (.struct _)=>true|_=>false)=true:=by rw[show prog.underlying xZ=_ from underlying74]
theorem xj: Keyed prog xZ:=gK (gp Cat.laid (m:=2) I aom jG akl)
theorem Zc: prog.keyType xZ=true:=jG
theorem ad6: prog.cellsOf xZ=2:=jG
theorem DT {x:Int×Int}(h1:lV x.1)(h2:lV x.2): keyOf prog xZ (nR x)=some (.string (keyBytes [.int .i64 x.1,.int .i64 x.2])) :=
 Oi underlying74 bJ rfl rfl lZ rfl rfl lZ Zc ad6 Cat.tB Cat.rK x (AR h1) (AR h2)
abbrev rvT:Nat:=57
abbrev EY:Nat:=168
def xW (f:Int×Int->Bool)(x:Int×Int):Option Value:=if f x=true then some (Iq 1) else none
structure RV (w:World) (rb:Nat) (M D:Nat->Prop) (f:Nat) (s:St) (cp:Nat) (Oc:Nat->Prop) (rv:Value) (mb k N:Nat):Prop where
 vb:U rvT w rb [jV cp,rv,Iq s.n,.map (some mb)]
 cat:Cr.rH w cp Oc s.cat
 rows:kC EY 14 kE (ni D f w) M w rv s.rows
 red:MF prog xZ nR w mb k (xW s.red)
 vK:M rb
 IS:M mb
 tU:∀b,Oc b->M b
 UG:¬Oc rb
 TY:¬Oc mb
 GY:∀g,rv.ownBlock=some g->¬Oc g
 lt:∀b,M b\/D b->b<w.heap.size
 sep:∀b,M b->¬D b
 zF:∀r∈s.rows,r.kA<=s.rows.length
 ok:s.n<=N/\s.rows.length<=N/\k<=N/\N<=1000000
def qx (w:World)(rb:Nat)(M D:Nat->Prop)(f:Nat)(s:St)(N:Nat):Prop:=∃cp Oc rv mb k,RV w rb M D f s cp Oc rv mb k N
section
variable {w w':World}{rb:Nat}{M D:Nat->Prop}{f:Nat}{s:St}{cp:Nat}{Oc:Nat->Prop}{rv:Value}{mb k N:Nat}
theorem kC.yW {e:Nat}{v:Value}{L:List Rw}(h:kC e 14 kE (ni D f w) O w v L){K:Nat->Prop}(hk:Z K w w')(hK:∀g,v.ownBlock=some g->K g)(hD:∀b,D b->b<w.heap.size->K b): kC e 14 kE (ni D f w') O w' v L :=
 Go.Proofs.YtlenklobbngopaaGreat.K.kC.jA h hk hK nN fun _ _ hp=>hp.jA hk hD fun _ h=>h
theorem RV.jA (h:RV w rb M D f s cp Oc rv mb k N){K:Nat->Prop}(hk:Z K w w')(hK:∀b,M b\/D b->K b): RV w' rb M D f s cp Oc rv mb k N :=
 ⟨h.vb.jA hk (hK _ (.inl h.vK)),h.cat.jA hk fun b hb=>hK b (.inl (h.tU b hb)),kC.yW h.rows hk (fun g hg=>hK g (.inl (h.rows.own hg))) (fun b hb _=>hK b (.inr hb)),h.red.jA hk (hK _ (.inl h.IS)),
  h.vK,h.IS,h.tU,h.UG,h.TY,h.GY,fun b hb=>ao (h.lt b hb) hk.size,h.sep,h.zF,h.ok⟩
theorem RV.below (h:RV w rb M D f s cp Oc rv mb k N)(hb:jP w w'): RV w' rb M D f s cp Oc rv mb k N:=h.jA (Z.jw hb) h.lt
theorem qx.below (h:qx w rb M D f s N)(hb:jP w w'): qx w' rb M D f s N:=by obtain⟨_,_,_,_,_,h⟩:=h;exact⟨_,_,_,_,_,h.below hb⟩
theorem qx.jA (h:qx w rb M D f s N){K:Nat->Prop}(hk:Z K w w')(hK:∀b,M b\/D b->K b): qx w' rb M D f s N:=by obtain⟨_,_,_,_,_,h⟩:=h;exact⟨_,_,_,_,_,h.jA hk hK⟩
theorem qx.lt (h:qx w rb M D f s N): ∀b,M b\/D b->b<w.heap.size:=by obtain⟨_,_,_,_,_,h⟩:=h;exact h.lt
end
theorem nv {w6 w7:World}{rU:kL}(cs:kL)(b6:jP w5 w6)(f:kJ w6 g w7 T rU): U T (w7.setRow g cs.toArray) g cs/\jP w5 (w7.setRow g cs.toArray)/\jP w6 (w7.setRow g cs.toArray)/\w6.heap.size<=g:=by
 have e:=f.eq;have z:=b6.size;exact⟨f.blk.setRow cs,(Cr.mo (Z.jw (b6.trans (f.below.mono z))) (fun hh=>by omega) _).below,(Cr.mo (Z.jw f.below) (fun hh=>by omega) _).below,I⟩
theorem RV.app {s:St}{cp:Nat}{Oc:Nat->Prop}{rv:Value}{mb k:Nat}{L:List Cat.Tb}(h:RV w rb M D f s cp Oc rv mb k N)(hr:Cr.rH w' cp O' L)(hk:Z (fun b=>b<w.heap.size/\¬Oc b) w w')(ho:∀b,O' b->Oc b\/w.heap.size<=b):
  RV w' rb (fun b=>M b\/(w.heap.size<=b/\b<w'.heap.size)) D f { s with cat:=L } cp O' rv mb k N:=by
 have z:=hk.size;have l1:=h.lt;have hd:∀b,D b->b<w.heap.size/\¬Oc b:=fun b hb=>⟨l1 b (.inr hb),fun hh=>h.sep b (h.tU b hh) hb⟩;refine⟨h.vb.jA hk ⟨l1 _ (.inl h.vK),h.UG⟩,hr,?_,h.red.jA hk ⟨l1 _ (.inl h.IS),h.TY⟩,.inl h.vK,.inl h.IS,fun b hb=>(ho b hb).elim (fun hh=>.inl (h.tU b hh)) (fun hh=>.inr ⟨hh,hr.lt b hb⟩),
  fun hh=>(ho _ hh).elim h.UG (fun q=>by have:=l1 _ (.inl h.vK);omega),fun hh=>(ho _ hh).elim h.TY (fun q=>by have:=l1 _ (.inl h.IS);omega),fun g hg hh=>(ho _ hh).elim (h.GY g hg) (fun q=>by have:=l1 g (.inl (h.rows.own hg));omega),?_,?_,h.zF,h.ok⟩
 ·exact Go.Proofs.YtlenklobbngopaaGreat.K.kC.jA h.rows hk (fun g hg=>⟨l1 g (.inl (h.rows.own hg)),h.GY g hg⟩) (fun _ hh=>.inl hh) fun _ _ hp=>hp.jA hk (fun b hb _=>hd b hb) fun _ hh=>hh
 ·rintro b ((hb|hb)|hb)
  ·have:=l1 b (.inl hb);omega
  ·exact hb.2
  ·have:=l1 b (.inr hb);omega
 ·rintro b (hb|hb) KG
  ·exact h.sep b hb KG
  ·have:=l1 b (.inr KG);omega
open K
def NO:Option Nat->Int
 | some i=>i
 | none=>-1
theorem rq {e:Nat}{v:Value}{L:List Rw}(h:kC e 14 kE (ni D f w) O w v L): m6 14 kE (ni D f w) O w v L:=K.kC.kN h
theorem acR {w:World}{rb:Nat}{M D:Nat->Prop}{f:Nat}{s:St}{N:Nat}(h0:qx w rb M D f s N)(t d:Int):
  Calls prog 111 #[jV rb,Iq t,Iq d] w fun e w'=>w'=w/\∃o,e=.returned (Iq (NO o))/\
   (match o with|some i=>i<s.rows.length/\(of s.rows (t,d)).getLast? = some (s.rows.getD i kE)|none=>of s.rows (t,d)=[]):=by
 obtain⟨cp,Oc,rv,mb,k,h⟩:=h0;have mL:=rq h.rows;obtain⟨sp,cap,rfl,-⟩:=id mL;have c1:=h.vb.cell 1 jM;simp only[aA,al]at c1;have mq:=h.ok;generalize s.rows=L at mL c1 mq ⊢;apply kq func111 ntmps111;apply jF _;apply WC.loop (fun n:Nat=>[(0,jV rb),(1,Iq t),(2,Iq d),(7,Iq ((n:Int) - 1))]) (fun n w'=>w'=w/\n<=L.length/\∀j,n<=j->j<L.length->(L.getD j kE).key≠(t,d)) (fun n=>n) L.length kz ⟨rfl,aj _,fun j h1 h2=>by omega⟩;rintro n w ⟨rfl,hn,nI⟩
 by_cases h0:n=0
 ·subst h0
  apply G _;exact J ⟨rfl,none,rfl,UK fun j hj=>nI j (ay _) hj⟩
 ·obtain⟨m,rfl⟩:∃m,n=m+1:=⟨n - 1,I⟩
  have hm:m<L.length:=hn;obtain⟨b,o,oa,dc,es,-,-,hr,-,-⟩:=nw mL hm;obtain⟨rfl,rfl⟩:sp=some (Aq b o)/\cap=oa:=by simpa using es
  clear es;have x0:=hr.m5;have x1:=hr.doc;have hl:=fun hk=>Ww hm hk fun j h1 h2=>nI j h1 h2;have nx:(L.getD m kE).key≠(t,d)->∀j,m<=j->j<L.length->(L.getD j kE).key≠(t,d):=fun hk j h1 h2=>by
   by_cases e:j=m
   ·rw[e];exact hk
   ·exact nI j I h2
  generalize hR:L.getD m kE=r at x0 x1 hl nx
  by_cases e1:r.m5=t
  ·by_cases e2:r.doc=d
   ·apply jF _
    apply jQ (hz:=I) m (o+m*14) hm;apply jF _;apply jQ (hz:=I) m (o+m*14) hm;apply jF _;refine J ⟨rfl,some m,congrArg (fun z=>Ending.returned (Iq z)) (show((m+1:Nat):Int) - 1=(m:Int) by omega),hm,?_⟩;rw[hR];exact hl (by rw[<-e1,<-e2])
   ·apply jF _
    apply jQ (hz:=I) m (o+m*14) hm;apply jF _;apply jQ (hz:=I) m (o+m*14) hm;apply jF _;exact WQ.again m ⟨rfl,rfl,rfl,congrArg (fun z=>some (Iq z)) (show((m+1:Nat):Int) - 1 - 1=(m:Int) - 1 by omega),trivial⟩ ⟨rfl,I,nx fun q=>e2 (congrArg Prod.snd q)⟩ I
  ·apply jF _
   apply jQ (hz:=I) m (o+m*14) hm;apply jF _;exact WQ.again m ⟨rfl,rfl,rfl,congrArg (fun z=>some (Iq z)) (show((m+1:Nat):Int) - 1 - 1=(m:Int) - 1 by omega),trivial⟩ ⟨rfl,I,nx fun q=>e1 (congrArg Prod.fst q)⟩ I
theorem Ik {s:St}(h0:qx w rb M D f s N)(t:Int):
  Calls prog 105 #[jV rb,Iq t] w fun e w'=>e=.returned (Iq (next s t))/\jP w w':=by
 obtain⟨cp,Oc,rv,mb,k,h⟩:=h0;have c0:=h.vb.cell 0 jM;simp only[al]at c0;apply kq func105 ntmps105;apply jF _;apply jx func110 (Cr.zR h.cat t);rintro _ w1 ⟨fv,rfl,ho,b1⟩;refine⟨_,rfl,?_⟩;apply G _;refine jJ (z:=.agg Cr.sX.toArray) Cr.x_ fun g w2 f2=>?_;apply jE f2.blk (Cr.rn (Cr.jY.one ho));have b2:jP w (w2.setRow g [Iq (Cat.kM s.cat t).1,.string (Cat.kM s.cat t).2.1.name,.bool (Cat.kM s.cat t).2.1.dropped,fv].toArray) :=
  (Cr.mo (K:=fun b=>b<w.heap.size) (Z.jw (b1.kj f2.below)) (fun hh=>by have:=f2.eq;have:=b1.size;omega) _).below
 generalize w2.setRow g _=w3 at b2 ⊢;clear ho b1 f2 w1 w2;have h3:=h.below b2;have mL:=rq h3.rows;obtain⟨sp,cap,rfl,-⟩:=id mL;have c1:=h3.vb.cell 1 jM;simp only[aA,al]at c1;have mq:=h.ok;have xq:next s t=if(Cat.kM s.cat t).2.2=0 then(j9 t s.rows:Int)+1 else 0:=rfl
 rw[xq];have hc:=uZ t s.rows;generalize (Cat.kM s.cat t).2.2=code;generalize s.rows=L at mL c1 mq hc ⊢
 by_cases Bw:code=0
 ·rw[ag Bw]
  apply G _;apply WC.loop (fun i:Nat=>[(0,jV rb),(1,Iq t),(7,Iq ((j9 t (L.take i):Int)+1)),(8,Iq i)]) (fun i w'=>w'=w3/\i<=L.length) (fun i=>L.length - i) 0 kz ⟨rfl,ay _⟩;rintro i w3 ⟨rfl,hi⟩
  by_cases j6:i<L.length
  ·obtain⟨b,o,oa,dc,es,-,-,hr,-,-⟩:=nw mL j6
   obtain⟨rfl,rfl⟩:sp=some (Aq b o)/\cap=oa:=by simpa using es
   clear es;have x0:=hr.m5;have x2:=hr.kA;have CK:=abr (t:=t) j6;have nL:=ag7 t L hi;generalize L.getD i kE=r at x0 x2 CK
   by_cases e1:r.m5=t
   ·by_cases e2:r.kA=0
    ·rw[ag ⟨e1,e2⟩]at CK
     apply jF _;apply jQ i (o+i*14) j6;apply jF _;apply jQ i (o+i*14) j6;apply jF _;refine WQ.again (i+1) ⟨rfl,rfl,?_,rfl,trivial⟩ ⟨rfl,j6⟩ I;rw[CK];rfl
    ·rw[aa (fun q=>e2 q.2)]at CK
     apply jF _;apply jQ i (o+i*14) j6;apply jF _;apply jQ i (o+i*14) j6;apply jF _;refine WQ.again (i+1) ⟨rfl,rfl,?_,rfl,trivial⟩ ⟨rfl,j6⟩ I;rw[CK];rfl
   ·rw[aa (fun q=>e1 q.1)]at CK
    apply jF _;apply jQ i (o+i*14) j6;apply jF _;refine WQ.again (i+1) ⟨rfl,rfl,?_,rfl,trivial⟩ ⟨rfl,j6⟩ I;rw[CK];rfl
  ·obtain rfl:i=L.length:=I
   rw[aN];apply jF _;exact J ⟨rfl,b2⟩
 ·rw[aa Bw]
  apply G _;exact J ⟨rfl,b2⟩
open K
theorem TU {m:kL}{x off k:Nat}(hA:A.length=x)(hk:m.length=k)(hB:off+k<=B.length):
  (A++(B++C)).take (x+off)++m++(A++(B++C)).drop (x+off+k)=A++((B.take off++m++B.drop (off+k))++C):=by
 subst hA hk;rw[fY,eA,bg (by omega:A.length<=A.length+off),iK (by omega:A.length<=A.length+off+m.length),aT,
  show A.length+off - A.length=off by omega,show A.length+off+m.length - A.length=off+m.length by omega,bZ I,eC I]
 simp only[av]
theorem UN {x off:Nat}(v:Value)(hA:A.length=x)(hB:off<B.length): (A++(B++C)).set (x+off) v=A++(B.set off v++C):=by
 subst hA;rw[dj _ _ I,show A.length+off - A.length=off by omega,List.set_append_left _ _ hB]
theorem sY {k:List (kL)}(h:∀x∈k,x.length=m): k.flatten.length=k.length*m:=by
 induction k with
 | nil=>simp
 | cons a k ih=>
  rw[dY,af,ih fun x hx=>h x (aD _ hx),h a jM,ak,gJ];omega
theorem Du {k:List (kL)}(hj:j<k.length): k.flatten=(k.take j).flatten++(k.getD j []++(k.drop (j+1)).flatten):=by
 have e:k=k.take j++(k.getD j []::k.drop (j+1)):=by
  rw[ah,ai hj,fo,<-bI hj,aO]
 rw[e];simp only[je,dY];rw[<-e]
theorem Qh {k:List (kL)}(hj:j<k.length)(x:kL): (k.set j x).flatten=(k.take j).flatten++(x++(k.drop (j+1)).flatten):=by
 rw[dP,ag hj];simp
theorem SL {e:Nat}{z:α}{P:α->kL->Prop}{v:Value}{L:List α}(h:kC e m z P O w v L)(hj:j<L.length):
  ∃g cap,v=nj g 0 L.length cap/\O g/\g<w.heap.size/\∃A B C,U e w g (A++(B++C))/\A.length=j*m/\B.length=m/\P (L.getD j z) B/\
   ∀ {w':World}{P':α->kL->Prop}(B':kL) (y:α),U e w' g (A++(B'++C))->B'.length=m->lY B'->P' y B'->(∀x cs,P x cs->P' x cs)->kC e m z P' O w' v (L.set j y):=by
 obtain⟨mZ,hk,ly,jW⟩:=h;have lO:=Cv (k:=mZ) (m:=m) fun i hi=>(ly i I).1;rcases jW.form with⟨-,h0,-⟩|⟨g,cap,cur,rfl,hO,j6,hg,h1,h2,h3,h4⟩
 ·omega
 have CU:j<mZ.length:=I;have oH:=sY lO;have mG:cur.toList=mZ.flatten++cur.toList.drop (L.length*m):=by rw[<-h4,aO]
 have hA:(mZ.take j).flatten.length=j*m:=by
  rw[sY fun x hx=>lO x (bP hx),aC,iM I]
 refine⟨g,cap,rfl,hO,j6,(mZ.take j).flatten,mZ.getD j [],(mZ.drop (j+1)).flatten++cur.toList.drop (L.length*m),?_,hA,(ly j hj).1,(ly j hj).2,?_⟩
 ·have e:(mZ.take j).flatten++(mZ.getD j []++((mZ.drop (j+1)).flatten++cur.toList.drop (L.length*m)))=cur.toList:=by
   conv=>rhs;rw[mG,Du CU]
   simp only[av]
  rw[e];exact hg
 ·intro w' P' B' y hb hl CE hp hP
  have Xd:∀x∈mZ.set j B',x.length=m:=fun x hx=>by
   rcases dh hx with hx|rfl
   ·exact lO x hx
   ·exact hl
  refine⟨mZ.set j B',by rw[aI,aI];exact hk,fun i hi=>?_,⟨?_,.inr ⟨g,cap,((mZ.take j).flatten++(B'++((mZ.drop (j+1)).flatten++cur.toList.drop (L.length*m)))).toArray,?_,ay _,hb,by rw[aI];exact h1,h2,?_,?_⟩⟩,?_,fun b hb=>by cases hb;exact hO⟩
  ·rw[aI]at hi
   by_cases e:i=j
   ·subst e
    rw[Cat.mO _ _ _ _ CU,Cat.mO _ _ _ _ hj];exact⟨hl,hp⟩
   ·rw[Cat.getD_set_ne _ _ _ _ _ (fun q=>e q.symm),Cat.getD_set_ne _ _ _ _ _ (fun q=>e q.symm)]
    exact⟨(ly i hi).1,hP _ _ (ly i hi).2⟩
  ·rw[sY Xd,aI,aI,hk]
  ·rw[aI]
  ·have q1:(cur.toList).length=cap*m:=by rw[bU];exact h3
   have q2:=congrArg List.length mG;have q3:=congrArg List.length (Du CU);simp only[af]at q2 q3;have hBl:=(ly j hj).1;simp only[cH,af];omega
  ·have e:(mZ.take j).flatten++(B'++((mZ.drop (j+1)).flatten++cur.toList.drop (L.length*m)))=(mZ.set j B').flatten++cur.toList.drop (L.length*m):=by
    rw[Qh CU];simp only[av]
   show((mZ.take j).flatten++(B'++((mZ.drop (j+1)).flatten++cur.toList.drop (L.length*m)))).take ((L.set j y).length*m)=_
   rw[e,bZ (by rw[sY Xd,aI,aI,hk];exact aj _),bg (by rw[sY Xd,aI,aI,hk];exact aj _)]
  ·intro u hu
   rw[Qh CU]at hu;have ho:=jW.2.1;rw[Du CU]at ho;rcases au.1 hu with hu|hu
   ·exact ho u (bm _ hu)
   ·rcases au.1 hu with hu|hu
    ·exact CE u hu
    ·exact ho u (bp _ (bp _ hu))
section
variable {w w':World}{rb:Nat}{M M' D D':Nat->Prop}{f:Nat}{s:St}{cp:Nat}{Oc:Nat->Prop}{rv X8:Value}{mb k N:Nat}
theorem RV.ne (h:RV w rb M D f s cp Oc rv mb k N): rv.ownBlock≠some rb/\rv.ownBlock≠some mb:=by
 obtain⟨_,_,_,jW⟩:=h.rows;refine⟨fun e=>?_,fun e=>?_⟩
 ·obtain⟨cur,hc⟩:=jW.tag e;exact Cr.uW h.vb hc lZ rfl
 ·obtain⟨cur,hc⟩:=jW.tag e;exact Cat.MF.mP h.red hc rfl
theorem RV.push (h:RV w rb M D f s cp Oc rv mb k N)(hN:N+1<=1000000){r:Rw}(hk:Z (fun b=>b<w.heap.size/\rv.ownBlock≠some b) w w')(jW:kC EY 14 kE (ni D' f w') M' w' X8 (s.rows++[r]))(hM:∀b,M b->M' b)(_hD:∀b,D b->D' b)(lt':∀b,M' b\/D' b->b<w'.heap.size)(akN:∀b,M' b->¬D' b)(ho:∀g,X8.ownBlock=some g->¬Oc g)(Is:r.kA<=s.rows.length+1):
  RV (w'.setCell (Aq rb 1) X8) rb M' D' f { s with rows:=s.rows++[r]} cp Oc X8 mb k (N+1):=by
 obtain⟨n1,n2⟩:=h.ne;have l:=h.lt;have ID:U rvT w' rb _:=h.vb.jA hk ⟨l _ (.inl h.vK),n1⟩;have v2:=ID.set 1 X8;have lJ:(w'.setCell (Aq rb 1) X8).heap.size=w'.heap.size:=jM;have k2:Z (fun b=>b≠rb) w' (w'.setCell (Aq rb 1) X8):=(Z.refl _ _).setCell jM _;have hd:∀b,D' b->b≠rb:=fun b hb e=>akN b (e ▸ hM _ h.vK) hb;refine⟨v2,(h.cat.jA hk fun b hb=>⟨l b (.inl (h.tU b hb)),fun e=>h.GY b e hb⟩).jA k2 fun b hb e=>h.UG (e ▸ hb),kC.yW jW k2 (fun g hg=>?_) (fun b hb _=>hd b hb),(h.red.jA hk ⟨l _ (.inl h.IS),n2⟩).jA k2 fun e=>?_,
  hM _ h.vK,hM _ h.IS,fun b hb=>hM _ (h.tU b hb),h.UG,h.TY,ho,fun b hb=>by rw[lJ];exact lt' b hb,akN,fun x hx=>by
   rw[show(s.rows++[r]).length=s.rows.length+1 by simp];rcases au.1 hx with hx|hx
   ·have:=h.zF x hx;omega
   ·obtain rfl:x=r:=by simpa using hx
    omega,by have:=h.ok;simp;omega⟩
 ·obtain⟨_,_,_,hw⟩:=jW
  obtain⟨cur,hc⟩:=hw.tag hg;exact Cr.uW ID hc lZ
 ·exact Cat.MF.mP h.red (show w.heap[rb]? = _ from h.vb) e
theorem RV.ann (h:RV w rb M D f s cp Oc rv mb k N)(hN:N+1<=1000000){a:Int×Int}(hk:Z (fun b=>b≠mb/\rv.ownBlock≠some b) w w')(Fg:MF prog xZ nR w' mb (k+1) (xW (yE s.red a)))(jW:kC EY 14 kE (ni D f w') M w' rv (s.rows.set i (shut (s.rows.getD i kE)))):
  RV w' rb M D f { s with rows:=s.rows.set i (shut (s.rows.getD i kE)),red:=yE s.red a } cp Oc rv mb (k+1) (N+1):=by
 obtain⟨n1,n2⟩:=h.ne;have n3:rb≠mb:=fun e=>Cat.MF.mP h.red (show w.heap[rb]? = _ from h.vb) e.symm;refine⟨h.vb.jA hk ⟨n3,n1⟩,h.cat.jA hk fun b hb=>⟨fun e=>h.TY (e ▸ hb),fun e=>h.GY b e hb⟩,jW,Fg,h.vK,h.IS,h.tU,h.UG,h.TY,h.GY,fun b hb=>ao (h.lt b hb) hk.size,h.sep,fun x hx=>by
  rw[aI];rcases dh hx with hx|rfl
  ·exact h.zF x hx
  ·show(s.rows.getD i kE).kA<=_
   by_cases hi:i<s.rows.length
   ·exact h.zF _ (by rw[lR hi];exact aH hi)
   ·rw[Cat.yA _ _ _ I];exact gO _,by have:=h.ok;simp;omega⟩
end
theorem Wf (f:Int×Int->Bool)(a:Int×Int): pR (xW f) a (Iq 1)=xW (yE f a):=by
 funext x
 unfold pR xW yE
 by_cases e:x=a
 ·rw[ag e,ag e,ag rfl]
 ·rw[aa e,aa e]
theorem HC {L:List Rw}{p:Rw->Bool}(hi:i<L.length)(nI:∀j,j<i->p (L.getD j kE)=false)(hp:p (L.getD i kE)=true): L.findIdx? p=some i:=by
 rw[cU];refine⟨hi,by rw[<-lR (d:=kE) hi];exact hp,fun j hj=>?_⟩;have:=nI j hj;rw[lR I]at this
 simpa using this
theorem LS {L:List Rw}{p:Rw->Bool}(nI:∀j,j<L.length->p (L.getD j kE)=false): L.findIdx? p=none:=by
 rw[gY];intro r hr;obtain⟨j,hj,rfl⟩:=cT.1 hr;have:=nI j hj
 rwa [lR hj]at this
theorem Qq {r:Rw}{v1 v2 v3:Int}{t:lD}{sn sk:Value}: ((lA r [Iq v1,Iq v2,Iq v3,.string t,sn,sk]).set 9 (.bool true)).take 3++jK++((lA r [Iq v1,Iq v2,Iq v3,.string t,sn,sk]).set 9 (.bool true)).drop (3+6)=lA (shut r) jK:=rfl
end Vw
namespace K
section
variable {n:NN}{Q:Exit->Act->World->Prop}{l:Env}{w w':World}{ops:Array Oper}{o:Oper}{rest:List Oper}{d:Nat}
end
section
variable {B rb:Nat}{w:World}{l:oK}{e:Int}
end
section
variable {T b:Nat}{w w':World}{e:En}{dc:kL}
theorem lT.TG (h:lT T b w e dc)(s:lD): lT T b (w.setCell (Aq b 1) (.string s)) { e with text:=s } dc:=⟨h.blk.set 1 (.string s),h.dl,h.hl⟩
theorem lT.setTable (h:lT T b w e dc)(x:Int): lT T b (w.setCell (Aq b 2) (Iq x)) { e with table:=x } dc:=⟨h.blk.set 2 (Iq x),h.dl,h.hl⟩
theorem lT.aav (h:lT T b w e dc)(x:Int): lT T b (w.setCell (Aq b 3) (Iq x)) { e with doc:=x } dc:=⟨h.blk.set 3 (Iq x),h.dl,h.hl⟩
theorem lT.Zq (h:lT T b w e dc)(x:Int): lT T b (w.setCell (Aq b 4) (Iq x)) { e with kA:=x } dc:=⟨h.blk.set 4 (Iq x),h.dl,h.hl⟩
theorem lT.aej (h:lT T b w e dc)(g:Bool): lT T b (w.setCell (Aq b 43) (.bool g)) { e with gone:=g } dc:=by
 refine⟨?_,h.dl,h.hl⟩;have:=h.blk.set 43 (.bool g);have e1:(km e dc).set 43 (.bool g)=km { e with gone:=g } dc:=by
  have h1:km e dc=(.int .i64 e.kind::.string e.text::.int .i64 e.table::.int .i64 e.doc::.int .i64 e.kA::(dc++kT e.hash))++[.bool e.gone,.int .i64 e.ab,.int .i64 e.ae]:=by simp[km]
  have h2:(Value.int IntKind.i64 e.kind::.string e.text::.int .i64 e.table::.int .i64 e.doc::.int .i64 e.kA::(dc++kT e.hash)).length=43:=by simp[h.dl,h.hl]
  rw[h1,dj _ _ (by omega),h2];simp[km]
 rwa [e1]at this
theorem lT.VQ (h:lT T b w e dc){m:kL}{off:Nat}(v:V)(hm:m.length=6)(ho:off=5): lT T b (w.setRow b ((km e dc).take off++m++(km e dc).drop (off+6)).toArray) { e with data:=v } m:=by
 subst ho;refine⟨?_,hm,h.hl⟩;have:=h.blk.setRow ((km e dc).take 5++m++(km e dc).drop (5+6));have e1:(km e dc).take 5++m++(km e dc).drop (5+6)=km { e with data:=v } m:=by
  have:(km e dc).drop 11=kT e.hash++[.bool e.gone,Iq e.ab,Iq e.ae]:=by
   unfold km;simp only[de];rw[eA,cD (by rw[h.dl];omega),h.dl];simp
  rw[this];simp[km]
 rw[e1]at this ⊢;exact this
theorem lT.agD (h:lT T b w e dc){hh:oK}{off:Nat}(hl:hh.length=32)(ho:off=11): lT T b (w.setRow b ((km e dc).take off++kT hh++(km e dc).drop (off+32)).toArray) { e with hash:=hh } dc:=by
 subst ho;refine⟨?_,h.dl,hl⟩;have:=h.blk.setRow ((km e dc).take 11++kT hh++(km e dc).drop (11+32));have e1:(km e dc).take 11++kT hh++(km e dc).drop (11+32)=km { e with hash:=hh } dc:=by
  have h1:km e dc=(.int .i64 e.kind::.string e.text::.int .i64 e.table::.int .i64 e.doc::.int .i64 e.kA::dc)++(kT e.hash++[.bool e.gone,.int .i64 e.ab,.int .i64 e.ae]):=by simp[km]
  have h2:(Value.int IntKind.i64 e.kind::.string e.text::.int .i64 e.table::.int .i64 e.doc::.int .i64 e.kA::dc).length=11:=by simp[h.dl]
  have h3:(kT e.hash).length=32:=by simp[h.hl]
  rw[h1,bZ (by omega),<-h2,aN,eA,cD (by omega)];rw[eB,<-h3,List.drop_left']
  ·simp[km]
  ·rfl
 rw[e1]at this ⊢;exact this
theorem lT.setAt (h:lT T b w e dc){off:Nat}(x y:Int)(ho:off=44): lT T b (w.setRow b ((km e dc).take off++[Iq x,Iq y]++(km e dc).drop (off+2)).toArray) { e with ab:=x,ae:=y } dc:=by
 subst ho;refine⟨?_,h.dl,h.hl⟩;have:=h.blk.setRow ((km e dc).take 44++[Iq x,Iq y]++(km e dc).drop (44+2));have e1:(km e dc).take 44++[Iq x,Iq y]++(km e dc).drop (44+2)=km { e with ab:=x,ae:=y } dc:=by
  have h1:km e dc=(.int .i64 e.kind::.string e.text::.int .i64 e.table::.int .i64 e.doc::.int .i64 e.kA::(dc++(kT e.hash++[.bool e.gone])))++[.int .i64 e.ab,.int .i64 e.ae]:=by simp[km]
  have h2:(Value.int IntKind.i64 e.kind::.string e.text::.int .i64 e.table::.int .i64 e.doc::.int .i64 e.kA::(dc++(kT e.hash++[.bool e.gone]))).length=44:=by simp[h.dl,h.hl]
  rw[h1,bZ (by omega),<-h2,aN,cD (by simp;omega)];simp[km]
 rw[e1]at this ⊢;exact this
end
theorem ox (n lo hi:Int)(w:World): Calls prog 79 #[Iq n,Iq lo,Iq hi] w fun e w'=>e=.returned (.bool (decide (lo<=n/\n<=hi)))/\w'=w:=by
 apply kq gg ntmps79
 by_cases h1:lo<=n
 ·by_cases h2:n<=hi
  ·apply G _
   exact J ⟨by rw[aw ⟨h1,h2⟩],rfl⟩
  ·apply G _
   exact J ⟨by rw[ar fun h=>h2 h.2],rfl⟩
 ·apply G _
  exact J ⟨by rw[ar fun h=>h1 h.1],rfl⟩
theorem akm {v:V}(h1:v.k=0)(h2:v.n=0)(h3:v.s=0)(h4:v.t.size=0)(h5:v.names.length=0)(h6:v.kids.length=0): v=zV :=
 V.ext' h1 h2 h3 (sI h4) (bF h5) (bF h6)
theorem MK (s:lD): (s.toList == (ByteArray.mk #[]).toList)=decide (s.size=0):=by
 have h0:(ByteArray.mk #[]).toList=[]:=by decide +kernel
 have hl:s.toList.length=s.size:=by rw[aJ];rfl
 rw[h0];cases h:s.toList with
 | nil=>rw[h]at hl;simp at hl;simp[<-hl]
 | cons a r=>rw[h]at hl;simp at hl;simp[<-hl]
theorem Gc {v:V}(h:mj f w v cs):
  Calls prog 145 #[.agg cs.toArray] w fun e w'=>(∃b,e=.returned (.bool b)/\(b=true ↔ v=zV))/\jP w w':=by
 cases f with
 | zero=>exact h.elim
 | succ f=>
 obtain⟨sn,sk,rfl,-,-,-,-,⟨np,nc,rfl,-⟩,⟨kp,kc,rfl,-⟩⟩:=h;apply kq (args:=[.agg (mR v (.slice np v.names.length nc) (.slice kp v.kids.length kc)).toArray]) func145 ntmps145;apply G _;refine jO fun g w1 hf=>?_;have lj:kJ w g w1 25 (mR v (.slice np v.names.length nc) (.slice kp v.kids.length kc)):=hf;clear hf;have B:=lj.blk;have no:¬v=zV->(∃b,Ending.returned (Value.bool false)=.returned (.bool b)/\(b=true ↔ v=zV))/\jP w w1:=fun h=>⟨⟨false,rfl,by simp[h]⟩,lj.below⟩;apply G _;apply Y (B.cell 0 jM)
 by_cases e1:v.k=0
 rotate_left
 ·apply G _
  exact J (no fun e=>e1 (by rw[e];rfl))
 apply G _;apply Y (B.cell 1 jM)
 by_cases e2:v.n=0
 rotate_left
 ·apply G _
  exact J (no fun e=>e2 (by rw[e];rfl))
 apply G _;apply Y (B.cell 2 jM)
 by_cases e3:v.s=0
 rotate_left
 ·apply G _
  exact J (no fun e=>e3 (by rw[e];rfl))
 apply G _;apply Y (B.cell 3 jM);apply(jX);apply WL.zI (.bool (decide (v.t.size=0))) rfl rfl rfl rfl (congrArg Value.bool (MK v.t))
 by_cases e4:v.t.size=0
 rotate_left
 ·apply G _
  exact J (no fun e=>e4 (by rw[e];rfl))
 apply G _;apply Y (B.cell 4 jM)
 by_cases e5:v.names.length=0
 rotate_left
 ·apply G _
  exact J (no fun e=>e5 (by rw[e];rfl))
 apply G _;apply Y (B.cell 5 jM)
 by_cases e6:v.kids.length=0
 rotate_left
 ·apply G _
  exact J (no fun e=>e6 (by rw[e];rfl))
 apply G _;exact J ⟨⟨true,rfl,⟨fun _=>akm e1 e2 e3 e4 e5 e6,fun _=>rfl⟩⟩,lj.below⟩
theorem or_zero {b:Int}(ha:lV a)(hb:lV b): bits .or .i64 a b=0 ↔ a=0/\b=0:=by
 have key:bits .or .i64 a b=IntKind.i64.wrap ((BitVec.ofInt 64 a ||| BitVec.ofInt 64 b).toNat:Int):=rfl;have wz:∀n:Nat,n<18446744073709551616->(IntKind.i64.wrap (n:Int)=0 ↔ n=0):=fun n hn=>by rw[dG];omega
 have z:∀x:Int,lV x->(BitVec.ofInt 64 x=0#64 ↔ x=0):=fun x hx=>by
  constructor
  ·intro h
   have:=congrArg BitVec.toNat h;rw[BitVec.toNat_ofInt]at this;simp at this
   omega
  ·rintro rfl;rfl
 rw[key,wz _ (BitVec.isLt _),<-z a ha,<-z b hb,<-BitVec.or_eq_zero_iff]
 constructor
 ·intro h;exact BitVec.eq_of_toNat_eq (by rw[h];rfl)
 ·intro h;rw[h];rfl
theorem ajZ (a b:Int): lV (bits .or .i64 a b):=by
 have key:bits .or .i64 a b=IntKind.i64.wrap ((BitVec.ofInt 64 a ||| BitVec.ofInt 64 b).toNat:Int):=rfl;rw[key,dG];omega
variable {n:NN}{Q:Exit->Act->World->Prop}{l:Env}{w w':World}{ops:Array Oper}{o:Oper}{rest:List Oper}{d:Nat}
end K
namespace K
section
variable {T b:Nat}{w w':World}{e:En}{dc:kL}
end
theorem abP (a b c d:Int)(W:World): (binOp .eql 74 (.agg #[Iq a,Iq b]) (.agg #[Iq c,Iq d])).run prog W=.ok (.bool (decide (a=c/\b=d))) W:=by
 have hq : (prog.info? 3).map (·.size) = some 1 := jG; obtain ⟨ie, Dg, lJ⟩ := cY.1 hq; rw [ja, show (10000 : Nat) = (9998 + 1) + 1 from rfl, run_equalIn_agg W (9998 + 1) _ _ _ jG jG]; generalize hN : 9998 + 1 = N; have hf : ∃ f1 f2, (prog.fieldsOf 74).toList = [f1, f2] /\ (f1.name == "_") = false /\ f1.type = 3 /\ f1.offset = 0 /\ (f2.name == "_") = false /\ f2.type = 3 /\ f2.offset = 1 :=
  ⟨(prog.fieldsOf 74).toList[0]!,(prog.fieldsOf 74).toList[1]!,jG,jG,jG,jG,jG,jG,jG⟩
 obtain ⟨f1, f2, hl, n1, t1, o1, n2, t2, o2⟩ := hf; have hu := bJ; rw [hl]; have AE : f1.name ≠ "_" := by simpa using n1
 have Af : f2.name ≠ "_" := by simpa using n2
 have hp:∀(xs:Array Value) (off:Nat) (v:Value),xs[off]? = some v->(part 3 xs off).run prog W=.ok v W:=fun xs off v h=>by
  unfold part isAgg;simp[bR hu,h]
 have e1:(Op.equalIn N 3 (Iq a) (Iq c)).run prog W=.ok (a == c) W:=by rw[<-hN];exact iN (P:=prog) W 9998 3 .i64 .i64 a c hu
 have e2:(Op.equalIn N 3 (Iq b) (Iq d)).run prog W=.ok (b == d) W:=by rw[<-hN];exact iN (P:=prog) W 9998 3 .i64 .i64 b d hu
 have p1:=hp #[Iq a,Iq b] 0 _ rfl;have p2:=hp #[Iq c,Iq d] 0 _ rfl;have p3:=hp #[Iq a,Iq b] 1 _ rfl;have p4:=hp #[Iq c,Iq d] 1 _ rfl;simp only[Op.eqFields,ag AE,ag Af,t1,t2,o1,o2,bK,Sem.run_ite,p1,p2,bG]
 erw[e1]
 by_cases h1:a=c
 ·subst h1
  simp only[bG,fZ,jk,gQ,eY]
  erw[p3]
  simp only[bG]
  erw[p4]
  simp only[bG]
  erw[e2]
  by_cases h2:b=d
  ·simp[h2]
  ·simp[h2]
 ·simp[h1]
theorem Tm (x y:Operand)(a b:Array Value)(W:World): (eqGuard .eql 74 x y (.agg a) (.agg b)).run prog W=.ok () W:=by
 have h:prog.eqGuardType prog.depth 74=false:=jG;simp[eqGuard,h]
section
variable {n:NN}{Q:Exit->Act->World->Prop}{l:Env}{w w':World}{ops:Array Oper}{o:Oper}{rest:List Oper}{d:Nat}
theorem WL.amu {b a2 b2:Int}(hg:o.guard=none)(hd:o.dst=some d)(hn:Nat.blt d n.n=true)(ho:o.op=.binOp .eql 74 x y t2)(hx:kS l x=some (.agg #[Iq a,Iq b]))(hy:kS l y=some (.agg #[Iq a2,Iq b2]))(h:WL n ops Q rest ((d,.bool (decide (a=a2/\b=b2)))::l) w): WL n ops Q (o::rest) l w :=
 WL.step hg hd hn (fun c hc=>by
  unfold execOp;rw[ho];simp only[hc.eval hx,hc.eval hy,bK,Tm,bG,abP a b a2 b2 w]
  rfl) h
end
theorem tq {e:En}(hv:mj f w e.data dc)(hh:e.hash.length=32)(hr:lV e.table/\lV e.doc/\lV e.kA):
  Calls prog 144 #[.agg (km e dc).toArray] w fun r w'=>(∃b,r=.returned (.bool b)/\(b=true ↔ oY e))/\jP w w':=by
 have lM:=hv.len;apply kq (args:=[.agg (km e dc).toArray]) func144 ntmps144;apply G _;refine jO fun g w1 hf=>?_;have lj:kJ w g w1 76 (km e dc):=hf;clear hf;have B:lT _ g w1 e dc:=⟨lj.blk,lM,hh⟩;have nH:=lj.below;clear lj;have no:∀ {wx:World},jP w wx->¬oY e->(∃b,Ending.returned (Value.bool false)=.returned (.bool b)/\(b=true ↔ oY e))/\jP w wx:=fun h1 h=>⟨⟨false,rfl,by simp[h]⟩,h1⟩;apply G _;apply Y B.text;apply WL.zI (.bool (decide (e.text.size=0))) rfl rfl rfl rfl (congrArg Value.bool (MK e.text))
 by_cases e1:e.text.size=0
 rotate_left
 ·apply G _
  exact J (no nH fun h=>e1 h.1)
 apply G _;apply Y B.table;apply G _;apply Y B.doc;apply G _;apply Y B.kA;have hor:bits .or .i64 (bits .or .i64 e.table e.doc) e.kA=0 ↔ (e.table=0/\e.doc=0)/\e.kA=0:=by rw[or_zero (ajZ _ _) hr.2.2,or_zero hr.1 hr.2.1]
 by_cases e2:bits .or .i64 (bits .or .i64 e.table e.doc) e.kA=0
 rotate_left
 ·apply G _
  exact J (no nH fun h=>e2 (hor.2 ⟨⟨h.2.1,h.2.2.1⟩,h.2.2.2.1⟩))
 obtain⟨⟨e3,e4⟩,e5⟩:=hor.1 e2;apply G _;apply jy B.data lM;apply(jX);apply jx func145 (Gc (hv.below nH));rintro _ w2 ⟨⟨b,rfl,hb⟩,mW⟩;refine⟨_,rfl,?_⟩;have nQ:=nH.kj mW;have B2:=B.below mW;cases b with
 | false=>
  apply G _;exact J (no nQ fun h=>by have:=hb.2 h.2.2.2.2.1;cases this)
 | true=>
  have e6:=hb.1 rfl;apply G _;apply WL.qX rfl rfl rfl rfl rfl rfl B2.hash (by rw[aB];exact hh);apply(jX);apply jR (kT Dig.nA) jG;apply(jX);apply WL.alQ rfl rfl rfl rfl rfl rfl hh rfl
  by_cases e7:e.hash=Dig.nA
  rotate_left
  ·apply WL.as 26 (.bool false) rfl (congrArg Value.bool (ar e7))
   apply G _;exact J (no nQ fun h=>e7 h.2.2.2.2.2.1)
  apply WL.as 26 (.bool true) rfl (congrArg Value.bool (aw e7));apply G _;apply Y B2.gone;cases e8:e.gone with
  | true=>
   apply G _;exact J (no nQ fun h=>by have:=h.2.2.2.2.2.2.1;rw[e8]at this;cases this)
  | false=>
   apply G _;apply jy B2.BA rfl;apply(jX);apply jR [Iq 0,Iq 0] jG;apply(jX);apply WL.amu rfl rfl rfl rfl rfl rfl
   by_cases e9:e.ab=0/\e.ae=0
   ·apply WL.as 37 (.bool true) rfl (congrArg Value.bool (aw e9))
    apply G _;exact J ⟨⟨true,rfl,⟨fun _=>⟨e1,e3,e4,e5,e6,e7,e8,e9.1,e9.2⟩,fun _=>rfl⟩⟩,nQ⟩
   ·apply WL.as 37 (.bool false) rfl (congrArg Value.bool (ar e9))
    apply G _;exact J (no nQ fun h=>e9 ⟨h.2.2.2.2.2.2.2.1,h.2.2.2.2.2.2.2.2⟩)
def lk (p:Prop)(w:World)(r:Ending)(w':World):Prop:=(∃b,r=.returned (.bool b)/\(b=true ↔ p))/\jP w w'
theorem lk.no (h:¬p)(hb:jP w w'): lk p w (.returned (.bool false)) w':=⟨⟨false,rfl,by simp[h]⟩,hb⟩
theorem lk.of {q:Prop}{b:Bool}(hb:jP w w')(h1:b=true ↔ q)(h2:p ↔ q): lk p w (.returned (.bool b)) w':=⟨⟨b,rfl,h1.trans h2.symm⟩,hb⟩
theorem lk.yes (h:p)(hb:jP w w'): lk p w (.returned (.bool true)) w':=⟨⟨true,rfl,by simp[h]⟩,hb⟩
theorem XH {e:En}(h:xM f w e cs): Calls prog 118 #[.agg cs.toArray] w (lk (lQ e) w):=by
 obtain⟨dc,rfl,hv,lM,m9,hh,tZ,um,hk,zf,zn,AP,uP,HD⟩:=h;have lO:p_ (mj f w) e (km e dc):=⟨dc,rfl,hv,lM,m9,hh,tZ,um,hk,zf,zn,AP,uP,HD⟩;apply kq (args:=[.agg (km e dc).toArray]) func118 ntmps118;apply G _;refine jO fun g w1 hf=>?_;have lj:kJ w g w1 76 (km e dc):=hf;clear hf;have B1:lT _ g w1 e dc:=⟨lj.blk,lM,hh⟩;have nH:=lj.below;have CN:=lj.size;have he1:=lj.eq;clear lj;apply G _;apply Y B1.table;apply kH gg (ox _ _ _ _);rintro w1 rfl
 apply(jN);apply mA _;apply jy (U.rangeAt B1.blk) B1.len;refine jJ (z:=.agg (km kQ jK).toArray) (fun _=>jG) fun c w2 mK=>?_;have mI:kJ w1 c w2 76 (km kQ jK):=mK;clear mK;apply jE (hm:=B1.len) (hold:=(by rfl)) mI.blk lO.one;have oN:jP w1 (w2.setRow c (km e dc).toArray):=below_setRow mI.below (by rw[mI.eq];exact aj _) _;have C3:lT 76 c (w2.setRow c (km e dc).toArray) e dc:=⟨mI.blk.setRow _,lM,hh⟩;have FW:=mI.eq;clear mI;generalize w2.setRow c (km e dc).toArray=w3 at oN C3;have B3:=B1.below oN;have pE:=nH.trans (oN.mono I);have KJ:g≠c:=I;have hcw:w.heap.size<=c:=I;have rI:=hv.below pE;have Fa:=C3.data
 -- a store into the copy
 have Na:∀ {wx:World}{i:Nat}(u:Value),jP w wx->lT 76 g wx e dc->jP w (wx.setCell (Aq c i) u)/\lT 76 g (wx.setCell (Aq c i) u) e dc:=fun {wx i} u h1 h2=>
  ⟨Z.below ((Z.jw h1).setCell (fun hk=>by simp only at hk;omega) _),h2.jA (K:=fun b=>b≠c) ((Z.refl _ wx).setCell (fun hk=>hk rfl) _) KJ⟩
 have stR:∀ {wx:World}(u:Array Value),jP w wx->lT 76 g wx e dc->jP w (wx.setRow c u)/\lT 76 g (wx.setRow c u) e dc:=fun {wx} u h1 h2=>
  ⟨Z.below (Z.setRow (Z.jw h1) (fun hk=>by omega) _),h2.jA (K:=fun b=>b≠c) (Z.setRow (Z.refl _ wx) (fun hk=>hk rfl) _) KJ⟩
 apply G _;apply Y B3.kind
 by_cases k1:e.kind=1
 ·have lL:lQ e ↔ (1<=e.text.size/\e.text.size<=4096)/\oY { e with text:=kZ }:=by unfold lQ;rw[ag k1];constructor<;>(intro h;simp_all)
  apply G _;apply jT (v:=.string kZ) C3.text (C3.blk.free 1);obtain⟨qq,B4⟩:=Na (i:=1) (.string kZ) pE B3;have C4:=C3.TG kZ;generalize w3.setCell (Aq c 1) (.string kZ)=w4 at qq B4 C4;apply G _;apply Y B4.text;apply G _;apply kH gg (ox _ _ _ _);rintro w4 rfl
  by_cases ht:(1:Int)<=(e.text.size:Int)/\(e.text.size:Int)<=4096
  ·apply G _
   apply jy (U.rangeAt C4.blk) C4.len;apply(jX);apply jx func144 (tq (e:={ e with text:=kZ }) (hv.below qq) hh ⟨zf,zn,AP⟩);rintro _ w5 ⟨⟨b,rfl,hb⟩,oM⟩;refine⟨_,rfl,?_⟩;apply G _;exact J (lk.of (qq.kj oM) hb (lL.trans ⟨fun h=>h.2,fun h=>⟨I,h⟩⟩))
  ·apply G _
   exact J (lk.no (fun h=>ht (by have:=(lL.1 h).1;omega)) qq)
 by_cases k23:e.kind=2\/e.kind=3
 ·have lL:lQ e ↔ ((1<=e.table/\e.table<=64)/\(1<=e.doc/\e.doc<=65536))/\((if e.kind=3 then 1 else 0)<=e.kA/\e.kA<=2147483648)/\oY (if e.kind=2 then { e with data:=zV,hash:=Dig.nA,gone:=false,table:=0,doc:=0,kA:=0 } else { e with table:=0,doc:=0,kA:=0 })/\(e.gone=true->e.data=zV):=by
   unfold lQ;rw[aa k1];rcases k23 with k2|k3
   ·rw[ag k2,ag k2,aa I]
    constructor
    ·rintro⟨a,b,c,d,x⟩;exact⟨⟨a,b⟩,c,d,x⟩
    ·rintro⟨⟨a,b⟩,c,d,x⟩;exact⟨a,b,c,d,x⟩
   ·rw[aa I,ag k3,ag k3,aa I]
    constructor
    ·rintro⟨a,b,c,d⟩;exact⟨⟨a,b⟩,c,d,fun h=>by have:=d.2.2.2.2.2.2.1;simp only at this;rw[this]at h;cases h⟩
    ·rintro⟨⟨a,b⟩,c,d,x⟩;exact⟨a,b,c,d⟩
  rcases k23 with k2|k3
  ·apply G _
   apply Y B3.kind;apply G _;apply jR jK jG;apply jR (kT Dig.nA) jG;apply G _;refine WL.uM rfl rfl rfl rfl rfl rfl C3.blk rfl (by rw[C3.len];omega) (oe (fun _=>True) 0 w3).one ?_;obtain⟨qq,B4⟩:=stR ((km e dc).take (0+5)++jK++(km e dc).drop (0+5+6)).toArray pE B3;have C4:=C3.VQ (m:=jK) (off:=0+5) zV rfl rfl;generalize w3.setRow c ((km e dc).take (0+5)++jK++(km e dc).drop (0+5+6)).toArray=w4 at qq B4 C4;apply G _;refine WL.uM rfl rfl rfl rfl rfl rfl C4.blk (by rfl) (by rw[C4.len];omega) (lY.int _ _) ?_;obtain⟨pK,B5⟩:=stR ((km { e with data:=zV } jK).take (0+11)++kT Dig.nA++(km { e with data:=zV } jK).drop (0+11+32)).toArray qq B4;have C5:=C4.agD (off:=0+11) (hh:=Dig.nA) rfl rfl;generalize w4.setRow c ((km { e with data:=zV } jK).take (0+11)++kT Dig.nA++(km { e with data:=zV } jK).drop (0+11+32)).toArray=w5 at pK B5 C5;apply G _;apply jT (v:=.bool false) C5.gone (C5.blk.free 43);obtain⟨E8,B6⟩:=Na (i:=43) (.bool false) pK B5;have C6:=C5.aej false;generalize w5.setCell (Aq c 43) (.bool false)=w6 at E8 B6 C6;apply G _;apply jT (v:=Iq 0) C6.table (C6.blk.free 2);obtain⟨TV,Bp⟩:=Na (i:=2) (Iq 0) E8 B6;have Cp:=C6.setTable 0;generalize w6.setCell (Aq c 2) (Iq 0)=wp at TV Bp Cp;apply G _;apply jT (v:=Iq 0) Cp.doc (Cp.blk.free 3);obtain⟨hwq,Bq⟩:=Na (i:=3) (Iq 0) TV Bp;have Cq:=Cp.aav 0;generalize wp.setCell (Aq c 3) (Iq 0)=wq at hwq Bq Cq;apply G _;apply jT (v:=Iq 0) Cq.kA (Cq.blk.free 4);obtain⟨GO,Bx⟩:=Na (i:=4) (Iq 0) hwq Bq;have Cx:=Cq.Zq 0;generalize wq.setCell (Aq c 4) (Iq 0)=wx at GO Bx Cx;have tw:lQ e ↔ ((1<=e.table/\e.table<=64)/\(1<=e.doc/\e.doc<=65536))/\(0<=e.kA/\e.kA<=2147483648)/\oY { e with data:=zV,hash:=Dig.nA,gone:=false,table:=0,doc:=0,kA:=0 }/\(e.gone=true->e.data=zV):=by
    rw[lL,ag k2,aa I]
   by_cases c1:1<=e.table/\e.table<=64
   rotate_left
   ·apply G _
    exact J (lk.no (fun h=>c1 (tw.1 h).1.1) GO)
   apply G _;apply Y Bx.doc;apply(jX);apply kH gg (ox _ _ _ _);rintro wx rfl
   by_cases c2:1<=e.doc/\e.doc<=65536
   rotate_left
   ·apply G _
    exact J (lk.no (fun h=>c2 (tw.1 h).1.2) GO)
   apply G _;apply Y Bx.kA;apply G _;apply kH gg (ox _ _ _ _);rintro wx rfl
   by_cases c3:0<=e.kA/\e.kA<=2147483648
   rotate_left
   ·apply G _
    exact J (lk.no (fun h=>c3 (tw.1 h).2.1) GO)
   apply G _;apply jy (U.rangeAt Cx.blk) Cx.len;apply(jX);apply jx func144 (tq (e:={ e with data:=zV,hash:=Dig.nA,gone:=false,table:=0,doc:=0,kA:=0 }) (oe (fun _=>True) 0 _).sN Cx.hl ⟨by show lV 0;omega,by show lV 0;omega,by show lV 0;omega⟩);rintro _ wy ⟨⟨b,rfl,hb⟩,xl⟩;refine⟨_,rfl,?_⟩;have Ra:=GO.kj xl;have By:=Bx.below xl;cases b with
   | false=>
    apply G _;exact J (lk.no (fun h=>by have:=hb.2 (tw.1 h).2.2.1;cases this) Ra)
   | true=>
    have hN:=hb.1 rfl;apply G _;apply Y By.gone;cases Rt:e.gone with
    | false=>
     apply G _;exact J (lk.yes (tw.2 ⟨⟨c1,c2⟩,c3,hN,fun h=>by rw[Rt]at h;cases h⟩) Ra)
    | true=>
     apply G _;apply jy By.data lM;apply(jX);apply jx func145 (Gc (hv.below Ra));rintro _ wz ⟨⟨b2,rfl,kK⟩,hkz⟩;refine⟨_,rfl,?_⟩;apply G _;exact J (lk.of (Ra.kj hkz) kK (tw.trans ⟨fun h=>h.2.2.2 Rt,fun h=>⟨⟨c1,c2⟩,c3,hN,fun _=>h⟩⟩))
  ·apply G _
   apply Y B3.kind;apply G _;apply jT (v:=Iq 0) C3.table (C3.blk.free 2);obtain⟨TV,Bp⟩:=Na (i:=2) (Iq 0) pE B3;have Cp:=C3.setTable 0;generalize w3.setCell (Aq c 2) (Iq 0)=wp at TV Bp Cp;apply G _;apply jT (v:=Iq 0) Cp.doc (Cp.blk.free 3);obtain⟨hwq,Bq⟩:=Na (i:=3) (Iq 0) TV Bp;have Cq:=Cp.aav 0;generalize wp.setCell (Aq c 3) (Iq 0)=wq at hwq Bq Cq;apply G _;apply jT (v:=Iq 0) Cq.kA (Cq.blk.free 4);obtain⟨GO,Bx⟩:=Na (i:=4) (Iq 0) hwq Bq;have Cx:=Cq.Zq 0;generalize wq.setCell (Aq c 4) (Iq 0)=wx at GO Bx Cx;have tw:lQ e ↔ ((1<=e.table/\e.table<=64)/\(1<=e.doc/\e.doc<=65536))/\(1<=e.kA/\e.kA<=2147483648)/\oY { e with table:=0,doc:=0,kA:=0 }/\(e.gone=true->e.data=zV):=by
    rw[lL,ag k3,aa I]
   by_cases c1:1<=e.table/\e.table<=64
   rotate_left
   ·apply G _
    exact J (lk.no (fun h=>c1 (tw.1 h).1.1) GO)
   apply G _;apply Y Bx.doc;apply(jX);apply kH gg (ox _ _ _ _);rintro wx rfl
   by_cases c2:1<=e.doc/\e.doc<=65536
   rotate_left
   ·apply G _
    exact J (lk.no (fun h=>c2 (tw.1 h).1.2) GO)
   apply G _;apply Y Bx.kA;apply G _;apply kH gg (ox _ _ _ _);rintro wx rfl
   by_cases c3:1<=e.kA/\e.kA<=2147483648
   rotate_left
   ·apply G _
    exact J (lk.no (fun h=>c3 (tw.1 h).2.1) GO)
   apply G _;apply jy (U.rangeAt Cx.blk) Cx.len;apply(jX);apply jx func144 (tq (e:={ e with table:=0,doc:=0,kA:=0 }) (hv.below GO) Cx.hl ⟨by show lV 0;omega,by show lV 0;omega,by show lV 0;omega⟩);rintro _ wy ⟨⟨b,rfl,hb⟩,xl⟩;refine⟨_,rfl,?_⟩;have Ra:=GO.kj xl;have By:=Bx.below xl;cases b with
   | false=>
    apply G _;exact J (lk.no (fun h=>by have:=hb.2 (tw.1 h).2.2.1;cases this) Ra)
   | true=>
    have hN:=hb.1 rfl;apply G _;apply Y By.gone;cases Rt:e.gone with
    | false=>
     apply G _;exact J (lk.yes (tw.2 ⟨⟨c1,c2⟩,c3,hN,fun h=>by rw[Rt]at h;cases h⟩) Ra)
    | true=>
     apply G _;apply jy By.data lM;apply(jX);apply jx func145 (Gc (hv.below Ra));rintro _ wz ⟨⟨b2,rfl,kK⟩,hkz⟩;refine⟨_,rfl,?_⟩;apply G _;exact J (lk.of (Ra.kj hkz) kK (tw.trans ⟨fun h=>h.2.2.2 Rt,fun h=>⟨⟨c1,c2⟩,c3,hN,fun _=>h⟩⟩))
 by_cases k4:e.kind=4
 ·have lL:lQ e ↔ (0<=e.ab/\e.ab<=2147483648)/\(0<=e.ae/\e.ae<=2147483648)/\oY { e with ab:=0,ae:=0 }:=by
   unfold lQ;rw[aa k1,aa I,aa I,ag k4]
  apply G _;apply jR [Iq 0,Iq 0] jG;apply G _;refine WL.uM rfl rfl rfl rfl rfl rfl C3.blk rfl (by rw[C3.len];omega) (by intro u hu;simp at hu;rw[hu];rfl) ?_;obtain⟨qq,B4⟩:=stR ((km e dc).take (0+44)++[Iq 0,Iq 0]++(km e dc).drop (0+44+2)).toArray pE B3;have C4:=C3.setAt (off:=0+44) 0 0 rfl;generalize w3.setRow c ((km e dc).take (0+44)++[Iq 0,Iq 0]++(km e dc).drop (0+44+2)).toArray=w4 at qq B4 C4;apply G _;apply Y B4.ab;apply kH gg (ox _ _ _ _);rintro w4 rfl
  by_cases c1:0<=e.ab/\e.ab<=2147483648
  rotate_left
  ·apply G _
   exact J (lk.no (fun h=>c1 (lL.1 h).1) qq)
  apply G _;apply Y B4.ae;apply(jX);apply kH gg (ox _ _ _ _);rintro w4 rfl
  by_cases c2:0<=e.ae/\e.ae<=2147483648
  ·apply G _
   apply jy (U.rangeAt C4.blk) C4.len;apply(jX);apply jx func144 (tq (e:={ e with ab:=0,ae:=0 }) (hv.below qq) C4.hl ⟨by first|exact zf|(show lV 0;omega),zn,AP⟩);rintro _ wy ⟨⟨b,rfl,hb⟩,xl⟩;refine⟨_,rfl,?_⟩;apply G _;exact J (lk.of (qq.kj xl) hb (lL.trans ⟨fun h=>h.2.2,fun h=>⟨c1,c2,h⟩⟩))
  ·apply G _
   exact J (lk.no (fun h=>c2 (lL.1 h).2.1) qq)
 by_cases SJ:e.kind=5\/e.kind=7
 ·have lL:lQ e ↔ (1<=e.table/\e.table<=64)/\(1<=e.text.size/\e.text.size<=40)/\oY { e with table:=0,text:=kZ }:=by
   unfold lQ;rw[aa k1,aa I,aa I,aa k4,ag SJ]
   constructor
   ·rintro⟨a,b,c,d⟩;exact⟨a,⟨b,c⟩,d⟩
   ·rintro⟨a,⟨b,c⟩,d⟩;exact⟨a,b,c,d⟩
  rcases SJ with k5|k7
  all_goals
   apply G _;apply jT (v:=Iq 0) C3.table (C3.blk.free 2);obtain⟨qq,B4⟩:=Na (i:=2) (Iq 0) pE B3;have C4:=C3.setTable 0;generalize w3.setCell (Aq c 2) (Iq 0)=w4 at qq B4 C4;apply G _;apply jT (v:=.string kZ) C4.text (C4.blk.free 1);obtain⟨pK,B5⟩:=Na (i:=1) (.string kZ) qq B4;have C5:=C4.TG kZ;generalize w4.setCell (Aq c 1) (.string kZ)=w5 at pK B5 C5
   by_cases c1:1<=e.table/\e.table<=64
   rotate_left
   ·apply G _
    exact J (lk.no (fun h=>c1 (lL.1 h).1) pK)
   apply G _;apply Y B5.text;apply G _;apply kH gg (ox _ _ _ _);rintro w5 rfl
   by_cases c2:(1:Int)<=(e.text.size:Int)/\(e.text.size:Int)<=40
   rotate_left
   ·apply G _
    exact J (lk.no (fun h=>c2 (by have:=(lL.1 h).2.1;omega)) pK)
   apply G _;apply jy (U.rangeAt C5.blk) C5.len;apply(jX);apply jx func144 (tq (e:={ e with table:=0,text:=kZ }) (hv.below pK) C5.hl ⟨by first|exact zf|(show lV 0;omega),zn,AP⟩);rintro _ wy ⟨⟨b,rfl,hb⟩,xl⟩;refine⟨_,rfl,?_⟩;apply G _;exact J (lk.of (pK.kj xl) hb (lL.trans ⟨fun h=>h.2.2,fun h=>⟨c1,I,h⟩⟩))
 by_cases k6:e.kind=6
 ·have lL:lQ e ↔ (1<=e.table/\e.table<=64)/\oY { e with table:=0 }:=by
   unfold lQ;rw[aa k1,aa I,aa I,aa k4,aa SJ,ag k6]
  apply G _;apply jT (v:=Iq 0) C3.table (C3.blk.free 2);obtain⟨qq,B4⟩:=Na (i:=2) (Iq 0) pE B3;have C4:=C3.setTable 0;generalize w3.setCell (Aq c 2) (Iq 0)=w4 at qq B4 C4
  by_cases c1:1<=e.table/\e.table<=64
  ·apply G _
   apply jy (U.rangeAt C4.blk) C4.len;apply(jX);apply jx func144 (tq (e:={ e with table:=0 }) (hv.below qq) C4.hl ⟨by first|exact zf|(show lV 0;omega),zn,AP⟩);rintro _ wy ⟨⟨b,rfl,hb⟩,xl⟩;refine⟨_,rfl,?_⟩;apply G _;exact J (lk.of (qq.kj xl) hb (lL.trans ⟨fun h=>h.2,fun h=>⟨c1,h⟩⟩))
  ·apply G _
   exact J (lk.no (fun h=>c1 (lL.1 h).1) qq)
 ·have lL:¬lQ e:=by
   unfold lQ;rw[aa k1,aa I,aa I,aa k4,aa SJ,aa k6];exact id
  apply G _;exact J (lk.no lL pE)
theorem alT (n:Int)(h:lV n): IntKind.u64.wrap (if n>0 then n else 0)=((n.toNat:Nat):Int):=by rw[aS];split<;>omega
theorem pX {b:Value}(n:Int)(hb:Bu w b l)(hn:lV n)(hm:l.length<=70368744177664):
  Calls prog 121 #[b,Iq n] w fun e w'=>∃b',e=.returned b'/\Bu w' b' (l++lK n.toNat)/\kX w b w' b':=by
 apply kq il ntmps121;have e:=alT n hn;have SK:=lF n.toNat;apply G _;apply WL.call rfl rfl rfl rfl rfl func147 rfl jG (by rw[show(bif false then(if(0:Int)>n then n else 0) else(if n>0 then n else 0))=(if n>0 then n else 0) from rfl,e];exact Hw n.toNat I w);rintro _ w2 ⟨b2,rfl,kK,mW,-⟩;refine⟨_,rfl,?_⟩;refine kW (hb.below mW) kK.sl fun b3 w3 lC oS=>?_;apply G _;exact J ⟨b3,rfl,lC,((kX.refl w b).below mW).trans oS⟩
theorem Ib {off:Nat}(hr:w.rangeAt b off (kT h))(hl:h.length=32)(hb:b<w.heap.size): Sl .u8 w (nj b off 32 32) h:=by
 have:=Sl.mk (k:=.u8) (w:=w) (b:=b) (o:=off) (cap:=32) (l:=h) I I hb (fun j hj=>by
  have h1:=hr j (.int .u8 (nth h j)) (by simp[nth,hj]);exact h1)
 rw[hl]at this;exact this
theorem Jk (e:En)(hh:e.hash.length=32): (qN e).length<=100+e.text.size:=by
 have h1:=lF e.table.toNat;have h2:=lF e.doc.toNat;have h3:=lF e.kA.toNat;have h4:=lF e.text.size;have h5:=lF e.ab.toNat;have h6:=lF e.ae.toNat;have h7:=u_ e.text;unfold qN
 by_cases k2:e.kind=2
 ·rw[ag k2];simp only[ak,af];omega
 ·rw[aa k2];simp only[ak,af,aL];omega
theorem OB {e:En}{b:Value}(h:xM f w0 e cs)(hk:1<=e.kind/\e.kind<=7)(hb:Bu w b l)(hm:l.length+e.text.size<=70368744170000):
  Calls prog 122 #[b,.agg cs.toArray] w fun r w'=>∃b',r=.returned b'/\Bu w' b' (l++qN e)/\kX w b w' b':=by
 obtain⟨dc,rfl,hv,lM,m9,hh,tZ,um,-,zf,zn,AP,uP,HD⟩:=h;apply kq (args:=[b,.agg (km e dc).toArray]) func122 ntmps122;apply G _;refine jO fun g w1 hf=>?_;have lj:kJ w g w1 76 (km e dc):=hf;clear hf;have oc:=hb.below lj.below;have vL:=(kX.refl w b).below lj.below;have hR:∀ {wk vk},kX w1 b wk vk->lT 76 g wk e dc:=fun h=>⟨lj.Sy hb h,lM,hh⟩;have fin:∀ {b' w'},Bu w' b' (l++qN e)->kX w1 b w' b'->∃F_,Ending.returned b'=.returned F_/\Bu w' F_ (l++qN e)/\kX w b w' F_:=fun {b' w'} h1 h2=>⟨b',rfl,h1,vL.trans h2⟩;have g0:=kX.refl w1 b;have e8:IntKind.u8.wrap e.kind=e.kind:=by rw[bL];omega
 apply G _;apply Y (hR g0).kind;apply G _;refine WL.push rfl rfl rfl rfl rfl rfl rfl rfl rfl rfl rfl (fun _=>rfl) rfl oc (by simp only[ak,aL];omega) fun b2 w2 kK g2=>?_;rw[e8]at kK;apply G _;apply Y (hR g2).table;apply G _;apply Y (hR g2).doc;apply G _;apply Y (hR g2).kA;apply G _;apply Y (hR g2).text;apply G _;apply jR [Iq e.table,Iq e.doc,Iq e.kA,Iq e.text.size] jG;have hN:∃N:oK,N=[e.table,e.doc,e.kA,(e.text.size:Int)]:=⟨_,rfl⟩;obtain⟨N,hN⟩:=hN;have hNg:∀i,i<4->[Iq e.table,Iq e.doc,Iq e.kA,Iq e.text.size][i]? = some (Iq (N.getD i 0))/\lV (N.getD i 0):=fun i hi=>by
  rw[hN]
  match i,hi with
  | 0,_=>exact⟨rfl,zf⟩
  | 1,_=>exact⟨rfl,zn⟩
  | 2,_=>exact⟨rfl,AP⟩
  | 3,_=>exact⟨rfl,by show lV (e.text.size:Int);omega⟩
 have oR:∀i,i<=4->((N.take i).flatMap fun n=>lK n.toNat).length<=10*i:=fun i hi=>by
  have h1:=lF e.table.toNat;have h2:=lF e.doc.toNat;have h3:=lF e.kA.toNat;have h4:=lF (e.text.size:Int).toNat;rw[hN]
  match i,hi with
  | 0,_=>simp
  | 1,_=>simp;omega
  | 2,_=>simp;omega
  | 3,_=>simp;omega
  | 4,_=>simp only[cE,cj,aq,dD,af,aL];omega
 have hM:(l++[e.kind]).length=l.length+1:=jM;have RP:l++qN e=(l++[e.kind])++((N.take 4).flatMap (fun n=>lK n.toNat)++(yI e.text++(lK e.ab.toNat++(lK e.ae.toNat++(if e.kind=2 then e.hash else[]))))):=by
  rw[hN];unfold qN;simp
 generalize l++[e.kind]=M at kK hM RP;apply G _;refine WC.loop (fun i:Nat×Value=>[(0,i.2),(3,jV g),(22,.agg [Iq e.table,Iq e.doc,Iq e.kA,Iq e.text.size].toArray),(23,Iq i.1)])
  (fun i w'=>i.1<=4/\Bu w' i.2 (M++(N.take i.1).flatMap fun n=>lK n.toNat)/\kX w1 b w' i.2) (fun i=>4 - i.1) (0,b2) kz ⟨ay _,by simpa using kK,g2⟩ ?_
 rintro⟨i,br⟩ wr ⟨hi,lx,nB⟩;simp only at hi lx nB ⊢;have hpi:=oR i hi
 by_cases kt:i<4
 ·obtain⟨yu,uA⟩:=hNg i kt
  apply G _;apply WL.elem i rfl rfl rfl rfl rfl rfl rfl rfl kt yu;apply G _;apply jx il (pX (N.getD i 0) lx uA (by rw[af];omega));rintro _ w3 ⟨b3,rfl,lC,oS⟩;refine⟨_,rfl,?_⟩;apply G _;refine WQ.again (i+1,b3) kz ⟨kt,?_,nB.trans oS⟩ (by show 4 - (i+1)<4 - i;omega);have hNl:N.length=4:=by rw[hN];rfl
  have ht:N.take (i+1)=N.take i++[N.getD i 0]:=by rw[aK];simp[show i<N.length by omega]
  show Bu w3 b3 (M++(N.take (i+1)).flatMap _)
  rw[ht,an,<-av]
  simpa using lC
 ·obtain rfl:i=4:=I
  have OM:=u_ e.text;have hu5:=lF e.ab.toNat;have hu6:=lF e.ae.toNat;apply G _;refine WC.drawn 11 (fun wx=>lT 76 g wx e dc) fun w4 Kt=>?_;have nk:=lx.below (Kt.below _);have qF:=nB.below (Kt.below _);have hS:=hR qF;apply jC [0,1] hS _;apply jz 2 [3,7,11,12] (fun wx hx=>hx.text) hS;apply jC [4,5] hS _;apply jz 6 [7,11,12] (fun wx hx=>hx.ab) hS;apply jC [8,9] hS _;apply jz 10 [11,12] (fun wx hx=>hx.ae) hS;apply jS 3;refine WL.TP rfl rfl rfl rfl rfl nk rfl (by rw[af];omega) fun b5 w5 qv DO=>?_;have g5:=qF.trans DO;refine WL.nil (WQ.dk (.inr (hR g5)) ?_);apply jS 7;apply jx il (pX e.ab qv uP (by rw[af,af,s_];omega));rintro _ w6 ⟨b6,rfl,tD,G2⟩;refine⟨_,rfl,?_⟩;have g6:=g5.trans G2;refine WL.nil (WQ.dk (.inr (hR g6)) ?_);apply jS 11;apply jx il (pX e.ae tD HD (by rw[af,af,af,s_];omega));rintro _ w7 ⟨b7,rfl,y9,SP⟩;refine⟨_,rfl,?_⟩;have g7:=g6.trans SP;apply(jZ);apply jS 12;apply(jN);apply(jZ);apply(jD);apply G _;apply Y (hR g7).kind;have aat:Bu w7 b7 (M++((N.take 4).flatMap (fun n=>lK n.toNat)++(yI e.text++(lK e.ab.toNat++lK e.ae.toNat)))):=by simpa[av,qA,yI] using y9
  by_cases k2:e.kind=2
  ·apply G _
   apply WL.all rfl rfl rfl rfl rfl rfl;refine kW (hb:=(by simp only[af];omega)) aat (Ib (hR g7).hash hh (hR g7).blk.lt) fun b8 w8 yj p7=>?_;apply G _;refine J (fin ?_ (g7.trans p7));rw[RP,ag k2]
   simpa[av] using yj
  ·apply G _
   refine J (fin ?_ g7);rw[RP,aa k2,aP];exact aat
theorem aaM (a b:oK)(ha:a.length=32)(hb:b.length=32)(W:World): (binOp .neq 31 (.agg (kT a).toArray) (.agg (kT b).toArray)).run prog W=.ok (.bool (!decide (a=b))) W:=by
 have h:=PU a b ha hb W;rw[ja]at h;rw[run_neq_struct]
 revert h
 generalize (Op.equalIn 10000 31 (.agg (kT a).toArray) (.agg (kT b).toArray)).run prog W=r;intro h;cases r with
 | ok x w2=>
  simp only[bG]at h ⊢
  injection h with h1 h2
  injection h1 with h1
  rw[h1,h2]
 | halt x w2=>cases h
theorem SB (x y:Operand)(a b:Array Value)(W:World): (eqGuard .neq 31 x y (.agg a) (.agg b)).run prog W=.ok () W:=by
 have h:prog.eqGuardType prog.depth 31=false:=jG;simp[eqGuard,h]
section
variable {n:NN}{Q:Exit->Act->World->Prop}{l:Env}{w w':World}{ops:Array Oper}{o:Oper}{rest:List Oper}{d:Nat}
theorem WL.amf {a b:oK}(hg:o.guard=none)(hd:o.dst=some d)(hn:Nat.blt d n.n=true)(ho:o.op=.binOp .neq 31 x y t2)(hx:kS l x=some (.agg (kT a).toArray))(hy:kS l y=some (.agg (kT b).toArray))(ha:a.length=32)(hb:b.length=32)(h:WL n ops Q rest ((d,.bool (!decide (a=b)))::l) w): WL n ops Q (o::rest) l w :=
 WL.step hg hd hn (fun c hc=>by
  unfold execOp;rw[ho];simp only[hc.eval hx,hc.eval hy,bK,SB,bG,aaM a b ha hb w]
  rfl) h
end
theorem KB {e:En}(h:xM f w e cs)(hlen:chk 16 e.data=0->(encV 16 e.data).length<=70368744177664):
  Calls prog 80 #[.agg cs.toArray] w fun r w'=>r=.returned (Iq (m4 e))/\jP w w':=by
 obtain⟨dc,rfl,hv,lM,m9,hh,tZ,um,hr⟩:=h;have lO:p_ (mj f w) e (km e dc):=⟨dc,rfl,hv,lM,m9,hh,tZ,um,hr⟩;apply kq (args:=[.agg (km e dc).toArray]) func80 ntmps80;apply G _;refine jO fun g w1 hf=>?_;have lj:kJ w g w1 76 (km e dc):=hf;clear hf;have B1:lT _ g w1 e dc:=⟨lj.blk,lM,hh⟩;have nH:=lj.below;clear lj;apply G _;apply jy (U.rangeAt B1.blk) B1.len;apply jx func118 (XH (xM.below nH lO));rintro _ w2 ⟨⟨b,rfl,hb⟩,mW⟩;refine⟨_,rfl,?_⟩;have nQ:=nH.kj mW;have B2:=B1.below mW;cases b with
 | false=>
  have hf:¬lQ e:=fun h=>by have:=hb.2 h;cases this
  apply G _;exact J ⟨by unfold m4;rw[aa hf],nQ⟩
 | true=>
  have hf:=hb.1 rfl;apply G _;apply Y B2.kind
  by_cases k2:e.kind=2
  rotate_left
  ·apply G _
   exact J ⟨by unfold m4;rw[ag hf,ag (.inl k2)],nQ⟩
  apply G _;apply Y B2.gone;cases hg:e.gone with
  | true=>
   apply G _;exact J ⟨by unfold m4;rw[ag hf,ag (.inr hg)],nQ⟩
  | false=>
   have yK:m4 e=if(mJ e.data).2≠0 then(mJ e.data).2 else if mz e.data=e.hash then 0 else 18:=by unfold m4;rw[ag hf,aa (by simp[k2,hg])]
   apply G _;apply jy B2.data lM;apply kH func119 (aaN (hv.below nQ) hlen);rintro w3 oN
   have pE:=nQ.kj oN;have B3:=B2.below oN;have vO:(kT (mz e.data)).length=32:=by rw[aB];exact rT _
   apply G _;refine jJ (z:=.agg (kT Dig.nA).toArray) (Dig.yf) fun c w4 Nv=>?_;have D9:kJ w3 c w4 31 (kT Dig.nA):=Nv;clear Nv;apply jE (hm:=vO) (hold:=(by rfl)) D9.blk (lY.int _ _);have oM:jP w3 (w4.setRow c (kT (mz e.data)).toArray):=below_setRow D9.below (by rw[D9.eq];exact aj _) _;have H5:U 31 (w4.setRow c (kT (mz e.data)).toArray) c (kT (mz e.data)):=D9.blk.setRow _;generalize w4.setRow c (kT (mz e.data)).toArray=w5 at oM H5;have pK:=pE.kj oM;have B5:=B3.below oM;clear D9
   by_cases he:(mJ e.data).2=0
   rotate_left
   ·apply G _
    exact WQ.so rfl rfl ⟨by rw[yK,ag he];rfl,pK⟩
   rw[aa (by simpa using he)]at yK;apply G _;apply jy (U.rangeAt H5) vO;apply G _;apply WL.qX rfl rfl rfl rfl rfl rfl B5.hash (by rw[aB];exact hh);apply(jX);apply WL.amf rfl rfl rfl rfl rfl rfl (rT _) hh
   by_cases hq:mz e.data=e.hash
   ·apply WL.as 27 (.bool false) rfl (congrArg Value.bool (by simp[hq]))
    apply G _;exact WQ.so rfl rfl ⟨by rw[yK,ag hq,<-he];rfl,pK⟩
   ·apply WL.as 27 (.bool true) rfl (congrArg Value.bool (by simp[hq]))
    apply G _;exact J ⟨by rw[yK,aa hq],pK⟩
structure nM (T g:Nat) (w:World) (b:Bk) (se:Value):Prop where
 blk:U T w g (qT b se)
 pl:b.prev.length=32
section
variable {T g:Nat}{w w':World}{b:Bk}{se:Value}
theorem nM.len (h:nM T g w b se): (qT b se).length=36:=by simp[qT,h.pl]
theorem nM.index (h:nM T g w b se): w.cell? (Aq g 0)=some (Iq b.index):=h.blk.cell 0 (by simp[qT])
theorem nM.time (h:nM T g w b se): w.cell? (Aq g 1)=some (Iq b.time):=h.blk.cell 1 (by simp[qT])
theorem nM.tM (h:nM T g w b se): w.cell? (Aq g 2)=some (Iq b.tM):=h.blk.cell 2 (by simp[qT])
theorem nM.prev (h:nM T g w b se): w.rangeAt g 3 (kT b.prev):=U.part h.blk [Iq b.index,Iq b.time,Iq b.tM] (kT b.prev) [se] rfl
theorem nM.jH (h:nM T g w b se): w.cell? (Aq g 35)=some se:=by
 have:=h.blk.cell 35 (by rw[h.len];omega);rw[this,ah];have h1:qT b se=(Iq b.index::Iq b.time::Iq b.tM::kT b.prev)++[se]:=by simp[qT]
 rw[h1,aE (by simp[h.pl])];simp[h.pl]
theorem nM.jA (h:nM T g w b se){K:Nat->Prop}(hk:Z K w w')(hb:K g): nM T g w' b se:=⟨U.jA h.blk hk hb,h.pl⟩
theorem nM.below (h:nM T g w b se)(hk:jP w w'): nM T g w' b se:=⟨U.below h.blk hk h.blk.lt,h.pl⟩
end
def LG (w:World)(l:oK)(r:Ending)(w':World):Prop:=∃v,r=.returned v/\Bu w' v l/\jP w w'/\∀g,v.ownBlock=some g->w.heap.size<=g
theorem abH {b:Bk}(h:FE f w b cs): Calls prog 120 #[.agg cs.toArray] w (LG w (uz b)):=by
 obtain⟨se,rfl,oG,oR,xK,hi,ht,hx⟩:=h;apply kq (args:=[.agg (qT b se).toArray]) func120 ntmps120;apply G _;refine jO fun g w1 hf=>?_;have lj:kJ w g w1 34 (qT b se):=hf;clear hf;have xC:kX w (kP) w1 (kP):=(kX.refl w _).below lj.below;have hR:∀ {wk vk},kX w1 (kP) wk vk->nM 34 g wk b se:=fun h=>⟨lj.Sy (Bu.nil w) h,oR⟩;have h1:=lF b.index.toNat;have h2:=lF b.time.toNat;have h3:=lF b.tM.toNat;apply G _;refine WC.drawn 11 (fun wx=>nM 34 g wx b se) fun w2 tA=>?_;have g2:kX w1 (kP) w2 (kP):=(kX.refl w1 _).below (tA.below _);have hS:=hR g2;apply jC [0] hS _;apply jz 1 [2,5,8,11,12] (fun wx hx=>hx.index) hS;apply jC [3] hS _;apply jz 4 [5,8,11,12] (fun wx hx=>hx.time) hS;apply jC [6] hS _;apply jz 7 [8,11,12] (fun wx hx=>hx.tM) hS;apply jC [9] hS _;apply WD.all 10 rfl jG rfl rfl (fun _ _ _ _ _ h=>h) rfl rfl rfl rfl (.inr hS);apply jS 2;apply jx il (pX b.index (Bu.nil w2) hi jM);rintro _ w3 ⟨b3,rfl,lC,oS⟩;refine⟨_,rfl,?_⟩;have g3:=g2.trans oS;refine WL.nil (WQ.dk (.inr (hR g3)) ?_);rw[aT]at lC;apply jS 5;apply jx il (pX b.time lC ht I);rintro _ w4 ⟨b4,rfl,nk,qF⟩;refine⟨_,rfl,?_⟩;have g4:=g3.trans qF;refine WL.nil (WQ.dk (.inr (hR g4)) ?_);apply jS 8;apply jx il (pX b.tM nk hx (by rw[af];omega));rintro _ w5 ⟨b5,rfl,qv,DO⟩;refine⟨_,rfl,?_⟩;have g5:=g4.trans DO;refine WL.nil (WQ.dk (.inr (hR g5)) ?_);apply jS 11;refine kW (hb:=(by rw[af,af];omega)) qv (Ib (hR g5).prev oR (hR g5).blk.lt) fun b6 w6 tD G2=>?_;have g6:=g5.trans G2;apply(jZ);apply jS 12;apply(jN);apply(jZ);apply(jD);apply G _;have g7:=xC.trans g6;refine J ⟨b6,rfl,?_,g7.old (aj _) (fun g h=>by cases h),g7.own (aj _) (fun g h=>by cases h)⟩;unfold uz
 simpa[av] using tD
theorem aco {data:Bool}{e:En}(h:m4 e=0)(hh:e.hash.length=32): (qN e++qG data e).length<=80000:=by
 obtain⟨hf,hd⟩:=NQ h;obtain⟨-,-,-,-,hx,-⟩:=wH hf;have h1:=Jk e hh;have h2:(qG data e).length<=70000:=by
  unfold qG
  by_cases k2:e.kind=2
  ·rw[ag k2]
   by_cases hg:e.gone=true\/data=false
   ·rw[ag hg];simp
   ·rw[aa hg]
    have XZ:e.gone=false:=by cases hq:e.gone with
     | true=>exact absurd (.inl hq) hg
     | false=>rfl
    obtain⟨he,-⟩:=hd k2 XZ;obtain⟨-,hl,hx⟩:=yY he;have:=lF (encV 16 e.data).length;rw[hx];simp only[ak,af];omega
  ·rw[aa k2];simp
 rw[af];omega
theorem F5 {data:Bool}:∀(es:List En),(∀e∈es,m4 e=0/\e.hash.length=32)->(es.flatMap fun e=>qN e++qG data e).length<=80000*es.length
 | [],_=>jM
 | e::es,h=>by
  have h1:=aco (data:=data) (h e jM).1 (h e jM).2;have h2:=F5 (data:=data) es fun x hx=>h x (aD _ hx);rw[aq,af,ak];omega
theorem m6.at {z:α}{P:α->kL->Prop}{v:Value}{l:List α}(h:m6 m z P O w v l)(hj:j<l.length):
  ∃b o cap cs,v=nj b o l.length cap/\b<w.heap.size/\cs.length=m/\P (l.getD j z) cs/\w.rangeAt b (o+j*m) cs:=by
 obtain⟨sp,cap,rfl,-,-,-,h4⟩:=h;obtain⟨b,o,rfl,hb,-,hr⟩:=h4 I;obtain⟨cs,h1,h2,h3⟩:=hr j hj;exact⟨b,o,cap,cs,rfl,hb,h1,h2,h3⟩
theorem m6.slice {z:α}{P:α->kL->Prop}{v:Value}{l:List α}(h:m6 m z P O w v l): ∃sp cap,v=.slice sp l.length cap:=by
 obtain⟨sp,cap,rfl,-⟩:=h;exact⟨sp,cap,rfl⟩
theorem Nf (l:List α)(z:α)(h:i<l.length): l.take (i+1)=l.take i++[l.getD i z]:=by rw[aK];simp[h]
theorem RW.Zv {b:Bk}(h:FE f w b cs): ∀e∈b.jH,e.hash.length=32/\atw e:=by
 intro e he;obtain⟨j,hj,rfl⟩:=bH he;obtain⟨se,-,oG,-⟩:=h;obtain⟨_,_,_,cs,-,-,-,⟨dc,-,hv,-,-,hl,-⟩,-⟩:=oG.at hj;have e1:b.jH.getD j kQ=b.jH[j]:=by simp[hj]
 rw[e1]at hv hl;exact⟨hl,⟨f,mj.rng hv⟩,hl⟩
theorem Yz {b:Bk}(data:Bool)(h:FE f w b cs)(Kg:∀e∈b.jH,m4 e=0)(hle:b.jH.length<=200): Calls prog 81 #[.agg cs.toArray,.bool data] w (LG w (zW data b)):=by
 have lO:=h;have OA:=RW.Zv h;have nL:=h.len;obtain⟨se,rfl,oG,oR,xK,hr⟩:=h;obtain⟨sp,cap,rfl⟩:=oG.slice;apply kq (args:=[.agg (qT b (.slice sp b.jH.length cap)).toArray,.bool data]) func81 ntmps81;apply G _;refine jO fun g w1 hf=>?_;have lj:kJ w g w1 34 (qT b (.slice sp b.jH.length cap)):=hf;clear hf;have nH:=lj.below;have B1:nM 34 g w1 b (.slice sp b.jH.length cap):=⟨lj.blk,oR⟩;clear lj;apply G _;apply jy (U.rangeAt B1.blk) nL;apply jx func120 (abH (FE.below nH lO));rintro _ w2 ⟨b2,rfl,kK,mW,xI⟩;refine⟨_,rfl,?_⟩;have nQ:=nH.kj mW;have B2:=B1.below mW;have ha2:pB w w2 b2:=⟨nQ,fun g hg=>aU nH.size (xI g hg)⟩;have vO:(uz b).length<=70:=by
  have h1:=lF b.index.toNat;have h2:=lF b.time.toNat;have h3:=lF b.tM.toNat;unfold uz;simp only[af];omega
 apply G _;apply Y B2.jH;apply G _;apply jx il (pX (b.jH.length:Int) kK (by show lV _;omega) I);rintro _ w3 ⟨b3,rfl,lC,oS⟩;refine⟨_,rfl,?_⟩;rw[dZ]at lC;have Yk:=ha2.grow oS;have B3:=B2.jA oS.1 ⟨B2.blk.lt,fun e=>by have:=xI g e;have:=B1.blk.lt;omega⟩;have KF:=lF b.jH.length;have hM:(uz b++lK b.jH.length).length<=80:=by rw[af];omega
 have RP:zW data b=(uz b++lK b.jH.length)++b.jH.flatMap fun e=>qN e++qG data e:=by unfold zW;rw[av]
 generalize uz b++lK b.jH.length=M at lC hM RP;apply G _;apply Y B3.jH;apply G _;refine WC.loop (fun i:Nat×Value=>[(1,.bool data),(5,i.2),(18,.slice sp b.jH.length cap),(19,Iq b.jH.length),(20,Iq i.1)])
  (fun i w'=>i.1<=b.jH.length/\Bu w' i.2 (M++(b.jH.take i.1).flatMap fun e=>qN e++qG data e)/\pB w w' i.2) (fun i=>b.jH.length - i.1) (0,b3) kz ⟨ay _,by simpa using lC,Yk⟩ ?_
 rintro⟨i,br⟩ wr ⟨hi,lx,uT⟩;simp only at hi lx uT ⊢
 by_cases kt:i<b.jH.length
 ·have hlen:(M++(b.jH.take i).flatMap fun e=>qN e++qG data e).length<=80+80000*200:=by
   have:=F5 (data:=data) (b.jH.take i) fun e he=>⟨Kg e (bP he),(OA e (bP he)).1⟩;rw[aC]at this;rw[af];have h2:min i b.jH.length<=200:=I;have:=jf 80000 h2;omega
  have EZ:=Nf b.jH kQ kt;obtain⟨kb,ko,oa,cs,tC,qp,AY,CF,nW⟩:=oG.at kt
  injection tC with N9 _ N7
  subst N9;subst N7;have zJ:b.jH.getD i kQ∈b.jH:=by simp[kt]
  have T4:=Kg _ zJ;have UC:=(OA _ zJ).1;obtain⟨lL,TE⟩:=NQ T4;obtain⟨zu,-,-,-,um,-⟩:=wH lL;generalize b.jH.getD i kQ=e at CF T4 UC lL TE zu um EZ;generalize Kk:(M++(b.jH.take i).flatMap fun e=>qN e++qG data e)=L at lx hlen;have hle:=Jk e UC;have again:∀ {wx:World}{bx:Value},Bu wx bx (L++(qN e++qG data e))->pB w wx bx->Bu wx bx (M++(b.jH.take (i+1)).flatMap fun e=>qN e++qG data e)/\pB w wx bx:=fun {wx bx} h1 h2=>by
   rw[EZ,an,<-av,Kk];exact⟨by simpa using h1,h2⟩
  have m9:=CF.one;have aez:=CF;obtain⟨dc,rfl,hv,lM,-,hh,-⟩:=CF;apply G _;apply jQ i (ko+i*46) kt;apply jy (fun j u hu=>(uT.below.cell (p:=Aq kb (ko+i*46+j)) qp).trans (nW j u hu)) AY;refine jJ (z:=.agg (km kQ jK).toArray) (fun _=>jG) fun c w5 VC=>?_;have vz:kJ wr c w5 76 (km kQ jK):=VC;clear VC;apply G _;apply jE (hm:=AY) (hold:=(by rfl)) vz.blk m9;have o_:jP wr (w5.setRow c (km e dc).toArray):=below_setRow vz.below (by rw[vz.eq];exact aj _) _;have C6:lT 76 c (w5.setRow c (km e dc).toArray) e dc:=⟨vz.blk.setRow _,lM,hh⟩;have as_:=vz.eq;generalize w5.setRow c (km e dc).toArray=w6 at o_ C6;clear vz;have tD:=lx.below o_;have g6:=(kX.refl wr br).below o_;have hco:br.ownBlock≠some c:=fun e=>by have:=lx.lt _ e;omega
  have hR:∀ {wk vk},kX w6 br wk vk->lT 76 c wk e dc:=fun h=>C6.jA h.1 ⟨C6.blk.lt,hco⟩;apply G _;apply jy (U.rangeAt C6.blk) AY;apply jx func122 (OB aez zu tD I);rintro _ w7 ⟨b7,rfl,y9,g7⟩;refine⟨_,rfl,?_⟩;apply G _;apply Y (hR g7).kind
  by_cases k2:e.kind=2
  rotate_left
  ·have hX:qG data e=[]:=by unfold qG;rw[aa k2]
   apply G _;refine WQ.again (i+1,b7) kz ⟨kt,again (by rw[hX,aP];exact y9) (uT.grow (g6.trans g7))⟩ (by show b.jH.length - (i+1)<b.jH.length - i;omega)
  apply G _;apply Y (hR g7).gone
  by_cases tp:e.gone=true\/data=false
  ·have hX:qG data e=[0]:=by unfold qG;rw[ag k2,ag tp]
   have Xk:e.gone=true\/(e.gone=false/\data=false):=by
    cases hq:e.gone with
    | true=>exact .inl rfl
    | false=>exact .inr ⟨rfl,tp.resolve_left (by rw[hq];simp)⟩
   rcases Xk with hq|⟨hq,hdf⟩
   ·rw[hq]
    apply G _;refine WL.push rfl rfl rfl rfl rfl rfl rfl rfl rfl rfl rfl (fun _=>rfl) rfl y9 (by rw[af];simp only[ak,aL];omega) fun b8 w8 yj g8=>?_;apply G _;refine WQ.again (i+1,b8) kz ⟨kt,again (by rw[hX,<-av];exact yj) (uT.grow ((g6.trans g7).trans g8))⟩ (by show b.jH.length - (i+1)<b.jH.length - i;omega)
   ·rw[hq]
    subst hdf;apply G _;refine WL.push rfl rfl rfl rfl rfl rfl rfl rfl rfl rfl rfl (fun _=>rfl) rfl y9 (by rw[af];simp only[ak,aL];omega) fun b8 w8 yj g8=>?_;apply G _;refine WQ.again (i+1,b8) kz ⟨kt,again (by rw[hX,<-av];exact yj) (uT.grow ((g6.trans g7).trans g8))⟩ (by show b.jH.length - (i+1)<b.jH.length - i;omega)
  ·have XZ:e.gone=false:=by cases hq:e.gone with
    | true=>exact absurd (.inl hq) tp
    | false=>rfl
   obtain rfl:data=true:=by cases data with
    | true=>rfl
    | false=>exact absurd (.inr rfl) tp
   have hX:qG true e=1::(lK (mJ e.data).1.length++(mJ e.data).1):=by unfold qG;rw[ag k2,aa tp]
   obtain⟨he,-⟩:=TE k2 XZ;obtain⟨hc,Mt,hx⟩:=yY he;have KF:=lF (mJ e.data).1.length;rw[<-hx]at Mt;rw[XZ];have alY:=uT.grow (g6.trans g7);apply G _;apply jy (hR g7).data lM;apply jx func123 (JZ (hv.below alY.below) fun _=>by rw[<-hx];omega);rintro _ w8 ⟨b8,rfl,yj,Bf,Aw⟩;refine⟨_,rfl,?_⟩;obtain⟨sp8,alv,rfl,-⟩:=yj.form;have atg:=y9.below Bf;have g8:=(kX.refl w7 b7).below Bf;apply G _;refine WL.push rfl rfl rfl rfl rfl rfl rfl rfl rfl rfl rfl (fun _=>rfl) rfl atg (by rw[af];simp only[ak,aL];omega) fun b9 w9 G7 g9=>?_;apply G _;apply WL.call rfl rfl rfl rfl rfl il rfl jG (pX ((mJ e.data).1.length:Int) G7 (by show lV _;omega) (by rw[af,af];simp only[ak,aL];omega));rintro _ tF ⟨Li,rfl,QC,Gt⟩;refine⟨_,rfl,?_⟩;rw[dZ]at QC;have arv:=yj.sl.jA (g9.trans Gt).1 fun b o n c hb j6=>⟨j6,fun e1=>by
    injection hb with oc _ _
    have h1:=Aw b (by rw[oc];rfl);have h2:=y9.lt _ e1;omega⟩
   apply G _;refine kW (hb:=(by simp only[af,ak,aL];omega)) QC arv fun Yt QZ Qm g11=>?_;apply G _;refine WQ.again (i+1,Yt) kz ⟨kt,again (by rw[hX];simpa[av] using Qm) ((((alY.grow g8).grow g9).grow Gt).grow g11)⟩ (by show b.jH.length - (i+1)<b.jH.length - i;omega)
 ·obtain rfl:i=b.jH.length:=I
  rw[aN]at lx;apply G _;refine J ⟨br,rfl,?_,uT.below,uT.own⟩;rw[RP];exact lx
theorem QJ {b:Bk}(h:FE f w b cs)(hlen:∀e∈b.jH,chk 16 e.data=0->(encV 16 e.data).length<=70368744177664): Calls prog 53 #[.agg cs.toArray] w fun r w'=>r=.returned (Iq (qL b))/\jP w w':=by
 have lO:=h;have nL:=h.len;obtain⟨se,rfl,oG,oR,xK,hi,ht,hx⟩:=h;obtain⟨sp,cap,rfl⟩:=oG.slice;apply kq (args:=[.agg (qT b (.slice sp b.jH.length cap)).toArray]) func53 ntmps53;apply G _;refine jO fun g w1 hf=>?_;have lj:kJ w g w1 34 (qT b (.slice sp b.jH.length cap)):=hf;clear hf;have nH:=lj.below;have B1:nM 34 g w1 b (.slice sp b.jH.length cap):=⟨lj.blk,oR⟩;clear lj;have bad:¬((0<=b.index/\b.index<=2147483648)/\(0<=b.time/\b.time<=9007199254740992)/\(0<=b.tM/\b.tM<=9007199254740992)/\(1<=b.jH.length/\b.jH.length<=200))->Ending.returned (Iq 1)=.returned (Iq (qL b)):=fun h=>by unfold qL;rw[aa h]
 apply G _;apply Y B1.index;apply kH gg (ox _ _ _ _);rintro w1 rfl
 by_cases c1:0<=b.index/\b.index<=2147483648
 rotate_left
 ·apply WL.as 8 (.bool false) rfl (congrArg Value.bool (ar c1))
  apply G _;exact J ⟨bad fun h=>c1 h.1,nH⟩
 apply WL.as 8 (.bool true) rfl (congrArg Value.bool (aw c1));apply G _;apply Y B1.time;apply(jX);apply kH gg (ox _ _ _ _);rintro w1 rfl
 by_cases c2:0<=b.time/\b.time<=9007199254740992
 rotate_left
 ·apply WL.as 13 (.bool false) rfl (congrArg Value.bool (ar c2))
  apply G _;exact J ⟨bad fun h=>c2 h.2.1,nH⟩
 apply WL.as 13 (.bool true) rfl (congrArg Value.bool (aw c2));apply G _;apply Y B1.tM;apply(jX);apply kH gg (ox _ _ _ _);rintro w1 rfl
 by_cases c3:0<=b.tM/\b.tM<=9007199254740992
 rotate_left
 ·apply WL.as 19 (.bool false) rfl (congrArg Value.bool (ar c3))
  apply G _;exact J ⟨bad fun h=>c3 h.2.2.1,nH⟩
 apply WL.as 19 (.bool true) rfl (congrArg Value.bool (aw c3));apply G _;apply Y B1.jH;apply G _;apply kH gg (ox _ _ _ _);rintro w1 rfl
 by_cases c4:(1:Int)<=(b.jH.length:Int)/\(b.jH.length:Int)<=200
 rotate_left
 ·apply WL.as 26 (.bool false) rfl (congrArg Value.bool (ar c4))
  apply G _;exact J ⟨bad fun h=>c4 I,nH⟩
 apply WL.as 26 (.bool true) rfl (congrArg Value.bool (aw c4));have sR:qL b=if firstBad (b.jH.map m4)≠0 then firstBad (b.jH.map m4) else if 262144<(zW true b).length then 5 else 0:=by unfold qL;rw[ag ⟨c1,c2,c3,I⟩]
 have Ml:∀j,j<b.jH.length->(b.jH.map m4).getD j 0=m4 (b.jH.getD j kQ):=fun j hj=>by simp[hj]
 apply G _;apply Y B1.jH;apply G _;refine WC.loop (fun i:Nat=>[(1,jV g),(30,.slice sp b.jH.length cap),(31,Iq b.jH.length),(32,Iq i)])
  (fun i w'=>i<=b.jH.length/\jP w1 w'/\∀j,j<i->m4 (b.jH.getD j kQ)=0) (fun i=>b.jH.length - i) 0 kz ⟨ay _,Below.refl _ _,fun j hj=>by omega⟩ ?_
 rintro i wr ⟨hi,lx,hz⟩;have uX:=nH.kj lx
 by_cases kt:i<b.jH.length
 ·obtain⟨kb,ko,oa,cs,tC,qp,AY,CF,nW⟩:=oG.at kt
  injection tC with N9 _ N7
  subst N9;subst N7;have zJ:b.jH.getD i kQ∈b.jH:=by simp[kt]
  have hl:=hlen _ zJ;have hmi:=Ml i kt;apply G _;apply jQ i (ko+i*46) kt;apply jy (fun j u hu=>(uX.cell (p:=Aq kb (ko+i*46+j)) qp).trans (nW j u hu)) AY;refine jJ (z:=.agg (km kQ jK).toArray) (fun _=>jG) fun c w5 VC=>?_;have vz:kJ wr c w5 76 (km kQ jK):=VC;clear VC;apply jE (hm:=AY) (hold:=(by rfl)) vz.blk CF.one;have o_:jP wr (w5.setRow c cs.toArray):=below_setRow vz.below (by rw[vz.eq];exact aj _) _;have C6:U 76 (w5.setRow c cs.toArray) c cs:=vz.blk.setRow _;generalize w5.setRow c cs.toArray=w6 at o_ C6;clear vz;have E8:=uX.kj o_;apply G _;apply jy (U.rangeAt C6) AY;apply kH func80 (KB (xM.below E8 CF) hl);rintro w7 wS
  have hw7:=E8.kj wS
  by_cases hc:m4 (b.jH.getD i kQ)=0
  ·apply G _
   refine WQ.again (i+1) kz ⟨kt,(lx.kj o_).trans (wS.mono (aU lx.size o_.size)),fun j hj=>?_⟩ (by show b.jH.length - (i+1)<b.jH.length - i;omega);rcases aW j i with h|h
   ·exact hz j h
   ·obtain rfl:j=i:=I
    exact hc
  ·have vB:firstBad (b.jH.map m4)=m4 (b.jH.getD i kQ):=by
    rw[<-hmi];exact rC (by simpa using kt) (fun j hj=>by rw[Ml j I];exact hz j hj) (by rw[hmi];exact hc)
   apply G _;exact J ⟨by rw[sR,vB,ag hc],hw7⟩
 ·obtain rfl:i=b.jH.length:=I
  have vB:=uc fun j hj=>by
   rw[aB]at hj;rw[Ml j hj];exact hz j hj
  have Kg:∀e∈b.jH,m4 e=0:=fun e he=>qi.1 vB _ (gB he);have Br:=B1.below lx;rw[aa (by simpa using vB)]at sR;apply G _;apply jy (U.rangeAt Br.blk) nL;apply jx func81 (Yz true (FE.below uX lO) Kg I);rintro _ w8 ⟨b8,rfl,yj,Bf,-⟩;refine⟨_,rfl,?_⟩;obtain⟨sp8,alv,rfl,-⟩:=yj.form;have XK:=uX.kj Bf
  by_cases ua:262144<(zW true b).length
  ·apply G _
   exact J ⟨by rw[sR,ag ua],XK⟩
  ·apply G _
   exact J ⟨by rw[sR,aa ua],XK⟩
section
variable {T g:Nat}{w w':World}{b:Bk}{se:Value}
theorem nM.agP (h:nM T g w b se)(v:Value)(es:List En): nM T g (w.setCell (Aq g 35) v) { b with jH:=es } v:=by
 refine⟨?_,h.pl⟩;have:=h.blk.set 35 v;have h1:∀se,qT b se=(.int .i64 b.index::.int .i64 b.time::.int .i64 b.tM::kT b.prev)++[se]:=fun se=>by simp[qT]
 have h2:(Value.int IntKind.i64 b.index::.int .i64 b.time::.int .i64 b.tM::kT b.prev).length=35:=by simp[h.pl]
 rw[h1,dj _ _ (by omega),h2]at this;exact this
end
section
variable {rb g:Nat}{w0 w w':World}{b:Bk}{se se':Value}{q:Nat->Prop}
end
theorem apz: na prog 32 76 46 192:=na.mk' (z:=.agg (km kQ jK).toArray) underlying32 jG rfl I
theorem Ee: Byt Dig.nA:=fun x hx=>by have:=List.eq_of_mem_replicate hx;omega
end K
namespace K
end K
namespace Vw
open K
abbrev BI:Nat:=76
abbrev zq:Nat:=34
def vF (w:World)(rb:Nat)(M D:Nat->Prop)(f:Nat)(c:Int)(s:St)(N:Nat)(e:Ending)(w':World):Prop :=
 ∃M' D',e=.returned (Iq c)/\qx w' rb M' D' f s N/\Z (fun b=>b<w.heap.size/\¬M b) w w'/\(∀b,M' b->M b\/w.heap.size<=b)/\∀b,D' b->D b\/w.heap.size<=b
theorem EC {L:List Cat.Tb}{kind:Int}(h5:kind≠5)(h6:kind≠6)(h7:kind≠7): Cat.mu L kind txt tbl=0/\Cat.oV L kind txt tbl=L:=by
 have hc:Cat.mu L kind txt tbl=0:=by unfold Cat.mu;rw[aa h5,aa h6,aa h7]
 exact⟨hc,by unfold Cat.oV;rw[ag hc,aa h5,aa h6,aa h7]⟩
theorem aet {L:List Cat.Tb}{kind:Int}(h:Cat.mu L kind txt tbl≠0): Cat.oV L kind txt tbl=L:=by unfold Cat.oV;rw[aa h]
theorem ZV {P:V->kL->Prop}{e:En}(h:p_ P e cs): Cat.Hj cs.toArray e.kind e.text e.table:=by
 obtain⟨dc,rfl,-,h1,-,h2,-,h3,-,h4,-⟩:=id h;exact⟨by simpa using h.len,rfl,rfl,rfl,by unfold maxLen;omega,AR h4⟩
theorem vF.of {M':Nat->Prop}{c c':Int}{s s':St}(h:qx w' rb M' D f s N)(hk:Z (fun b=>b<w.heap.size/\¬M b) w w')(hM:∀b,M' b->M b\/w.heap.size<=b)(e1:c'=c)(e2:s'=s):
  vF w rb M D f c' s' N (.returned (Iq c)) w':=by
 subst e1 e2;exact⟨M',D,rfl,h,hk,hM,fun b hb=>.inl hb⟩
theorem qx.mono {s:St}{N':Nat}(h:qx w rb M D f s N)(h1:N<=N')(h2:N'<=1000000): qx w rb M D f s N':=by
 obtain⟨cp,Oc,rv,mb,k,h⟩:=h;exact⟨cp,Oc,rv,mb,k,h.vb,h.cat,h.rows,h.red,h.vK,h.IS,h.tU,h.UG,h.TY,h.GY,h.lt,h.sep,h.zF,by have:=h.ok;omega⟩
theorem GV (f:Nat): Sm 3000 (f+1) zV:=⟨by show(0:Nat)<=3000;omega,by show(0:Nat)<=3000;omega,fun x hx=>by cases hx⟩
theorem KU: na prog 54 EY 14 144:=na.mk' (z:=.agg (lA kE jK).toArray) underlying54 jG rfl I
theorem abZ (a b c g h i:Int)(d e:Bool)(v1 v2 v3:Int)(t:lD)(sp sq:Option Addr)(n1 n2 c1 c2:Nat):
  prog.built EY [(0,Iq a),(1,Iq b),(2,Iq c),(3,.agg #[Iq v1,Iq v2,Iq v3,.string t,.slice sp n1 c1,.slice sq n2 c2]),(4,.bool d),(5,.bool e),(6,Iq g),(7,Iq h),(8,Iq i)] =
   some [Iq a,Iq b,Iq c,Iq v1,Iq v2,Iq v3,.string t,.slice sp n1 c1,.slice sq n2 c2,.bool d,.bool e,Iq g,Iq h,Iq i].toArray:=jG
theorem BH {v:V}(h:lz O f w v cs): ∃sp sq n1 n2 c1 c2,cs=[Iq v.k,Iq v.n,Iq v.s,.string v.t,.slice sp n1 c1,.slice sq n2 c2]:=by
 cases f with
 | zero=>exact h.elim
 | succ f=>
  obtain⟨sn,sk,rfl,-,-,-,-,⟨sp,c1,rfl,-⟩,⟨sq,c2,rfl,-⟩⟩:=h;exact⟨sp,sq,_,_,c1,c2,rfl⟩
theorem J0 {s:St}(h0:qx w rb M D f s N)(hN:N+1<=1000000){E:Nat->Prop}(RH:∀x,E x->¬M x){b:Bk}{bc:kL}(hb:pr E f w b bc)(k:Nat)(hk:k<b.jH.length)(o_:k<=1000000)(nE:Sm 3000 f (b.jH.getD k kQ).data):
  Calls prog 73 #[jV rb,.agg bc.toArray,Iq k] w (vF w rb M D f (entR s (b.jH.getD k kQ) b.index k b.time).1 (entR s (b.jH.getD k kQ) b.index k b.time).2 (N+1)):=by
 obtain⟨cp,Oc,rv,mb,kc,h⟩:=id h0;obtain⟨se,rfl,oG,oR,xK,Yn,rti,-⟩:=hb;obtain⟨sp,cap,rfl,vN,rE,De,kF⟩:=oG;obtain⟨bb,bo,rfl,uR,hbE,kF⟩:=kF I;obtain⟨ec,mL,yg,her⟩:=kF k hk;generalize b.jH.getD k kQ=e at nE yg ⊢;have hE:=ZV yg;obtain⟨dc,rfl,Dk,lM,vP,vO,hhb,um,Ic⟩:=yg;have j6:=h.lt;apply kq (args:=[jV rb,.agg (qT b (nj bb bo b.jH.length cap)).toArray,Iq k]) func73 ntmps73;apply mA _;refine jO fun g4 w1 f1=>?_;have B1:nM zq g4 w1 b (nj bb bo b.jH.length cap):=⟨f1.blk,oR⟩;have b1:=f1.below;have e4:=f1.eq;clear f1;have alm:w1.rangeAt bb (bo+k*46) (km e dc):=fun j u hu=>(b1.cell (p:=Aq bb (bo+k*46+j)) uR).trans (her j u hu);have cse:=B1.jH;apply jF _;apply jQ k (bo+k*46) hk;apply jy alm mL;refine jJ (z:=.agg (km kQ jK).toArray) (fun _=>jG) fun g7 w2 f2=>?_;apply jE (hm:=mL) f2.blk (p_.one (P:=fun _ _=>True) ⟨dc,rfl,trivial,lM,vP,vO,hhb,um,Ic⟩);obtain⟨v3,b3,-,q3⟩:=nv (km e dc) (Below.refl _ w1) f2;have e7:w.heap.size<=g7:=by have:=b1.size;omega
 have E3:lT BI g7 (w2.setRow g7 (km e dc).toArray) e dc:=⟨v3,lM,vO⟩;have Ye:=U.lt B1.blk;have B3:nM zq g4 (w2.setRow g7 (km e dc).toArray) b (nj bb bo b.jH.length cap):=⟨U.below B1.blk b3 Ye,oR⟩;replace b1:=b1.kj b3;generalize w2.setRow g7 (km e dc).toArray=w3 at v3 b1 b3 E3 B3 ⊢;replace Ye:=U.lt B3.blk;have Ba:=U.lt v3;clear f2 cse alm b3 B1 v3 her q3 w2 w1;have z1:=b1.size;have h3:=h.below b1;have au2:=Dk.jA (O':=E) (Z.jw b1) (fun b _ h=>h) (fun b h=>h);have cp3:=h3.vb.cell 0 jM;simp only[al]at cp3;have sG:=h3.lt rb (.inl h3.vK);apply G _;refine WC.drawn 5 (jP w3) fun Ua hd=>?_;have hS:jP w3 Ua:=hd.below _;clear hd;apply jC [0,1,2] hS _;apply jz 3 [5,6] (lX sG cp3) hS;apply kG 4 [5,6] (fun wx hx=>U.rangeAt (E3.below hx).blk) mL hS;apply jS 5;have h3a:=h3.below hS;apply jx func109 (Cr.Vd h3a.cat hE);rintro _ w4 ⟨O4,rfl,RN,k4,o4⟩;refine⟨_,rfl,?_⟩;apply(jZ)
 (apply ke 6 rfl _)
 apply(jD);have hAc:=aet (L:=s.cat) (kind:=e.kind) (txt:=e.text) (tbl:=e.table);have h4:=h3a.app RN k4 o4;have z3:=hS.size;have z4:=k4.size;have K4:Z (fun b=>b<w.heap.size/\¬M b) w w4:=(Z.jw (b1.trans (hS.mono z1))).mono (fun b hb=>hb.1) |>.trans (k4.mono fun b hb=>⟨I,fun hh=>hb.2 (h.tU b hh)⟩);have no4:∀g,w.heap.size<=g->g<w3.heap.size->g<Ua.heap.size/\¬Oc g:=fun g h1 h2=>⟨I,fun hh=>by have:=j6 g (.inl (h.tU g hh));omega⟩;have E4:=(E3.below hS).jA k4 (no4 g7 I Ba);have B4:nM zq g4 w4 b (nj bb bo b.jH.length cap):=⟨(U.below B3.blk hS I).jA k4 (no4 g4 I I),oR⟩;have Vm:∀x,(M x\/(Ua.heap.size<=x/\x<w4.heap.size))->M x\/w.heap.size<=x:=fun x hx=>hx.elim .inl fun hh=>.inr I;have afJ:=Dk.jA K4 (fun x hx h=>⟨h,RH x hx⟩) nN;clear o4 k4 RN h3a no4 E3 B3 h3 au2 hS
 by_cases Bw:Cat.mu s.cat e.kind e.text e.table=0
 case neg=>
  have hR:entR s e b.index k b.time=(Cat.mu s.cat e.kind e.text e.table,s):=by unfold entR;rw[ag Bw]
  rw[hAc Bw]at h4;rw[hR];generalize Cat.mu s.cat e.kind e.text e.table=code at Bw ⊢;apply G _;exact J (vF.of (qx.mono ⟨_,_,_,_,_,h4⟩ I hN) K4 Vm rfl rfl)
 case pos=>
 have ek:=E4.kind
 by_cases HM:e.kind=2\/e.kind=3
 case pos=>
  obtain⟨-,hL⟩:=EC (L:=s.cat) (kind:=e.kind) (txt:=e.text) (tbl:=e.table) I I I;rw[hL]at h4;change RV w4 rb (fun b=>M b\/(Ua.heap.size<=b/\b<w4.heap.size)) D f s cp O4 rv mb kc N at h4;have hR:entR s e b.index k b.time=if(Cat.kM s.cat e.table).2.2≠0\/(Cat.kM s.cat e.table).2.1.dropped=true\/fits s e=false then(3,s) else(0,{ s with rows:=s.rows++[rowOf e b.index k b.time]}):=by
   unfold entR;rw[aa (by simpa using Bw),ag HM]
  rw[hR];rw[Bw];clear hR Bw hAc hL;have cp4:=h4.vb.cell 0 jM;simp only[al]at cp4;have aas:=U.lt B4.blk;have Gz:=U.lt E4.blk;have ar0:=h4.lt rb (.inl h4.vK);have anV:=afJ.sN;apply jF _;refine WC.tn (fun _:Unit=>[(0,jV rb),(2,Iq k),(4,jV g4),(7,jV g7),(30,.bool true)]) (fun _ w'=>w'=w4) rfl ?_ ?_
  ·rcases HM with e2|e3
   ·apply WC.sE rfl e2
    apply G _;exact WQ.meet () ⟨rfl,rfl,rfl,rfl,congrArg (fun z=>some (Value.bool z)) (aw e2),trivial⟩ rfl
   ·apply WC.q_ rfl I
    apply G _;exact WQ.meet () kz rfl
  rintro⟨⟩ w4 rfl;apply G _;refine WC.tn (fun g:Nat=>[(0,jV rb),(2,Iq k),(4,jV g4),(7,jV g7),(9,jV g),(10,Iq (Cat.kM s.cat e.table).2.2)])
   (fun g w'=>jP w4 w'/\w'.cell? (Aq g 2)=some (.bool (Cat.kM s.cat e.table).2.1.dropped)) rfl ?_ ?_
  ·apply jF _
   refine WC.drawn 6 (jP w4) fun wa hd=>?_;have hS:jP w4 wa:=hd.below _;apply jC [0,1,2,4] hS _;apply jz 3 [6,7,8,9,11,12] (lX ar0 cp4) hS;apply jz 5 [6,7,8,9,11,12] (fun wx hx=>(hx.cell (p:=Aq g7 2) Gz).trans E4.table) hS;refine WD.two 6 10 jG rfl rfl ?_ ?_
   ·skip
    apply jx func110 (Cr.zR (h4.below hS).cat e.table);rintro _ wb ⟨fv,rfl,ho,rA⟩;refine⟨_,rfl,?_⟩;apply(jZ)
    (apply ke 7 rfl _;apply ke 8 rfl _;apply ke 9 rfl _)
    apply jS 10;refine jJ (z:=.agg Cr.sX.toArray) Cr.x_ fun g9 wc f9=>?_;apply(jZ);apply jS 11;apply jE f9.blk (Cr.rn (Cr.jY.one ho));obtain⟨vf,bf,-,-⟩:=nv [Iq (Cat.kM s.cat e.table).1,.string (Cat.kM s.cat e.table).2.1.name,.bool (Cat.kM s.cat e.table).2.1.dropped,fv] rA f9;replace bf:=hS.kj bf;apply(jZ)
    (apply ke 12 rfl _)
    apply(jD);apply G _;exact WQ.meet g9 kz ⟨bf,vf.cell 2 jM⟩
   ·skip
    refine jJ (z:=.agg Cr.sX.toArray) Cr.x_ fun g9 wc f9=>?_;have AG:=hS.kj f9.below;apply lI AG;apply jS 6;apply jx func110 (Cr.zR (h4.below AG).cat e.table);rintro _ wb ⟨fv,rfl,ho,rA⟩;refine⟨_,rfl,?_⟩;apply(jZ)
    (apply ke 7 rfl _;apply ke 8 rfl _;apply ke 9 rfl _)
    apply jS 11;have v9:=U.below f9.blk rA f9.blk.lt;apply jE v9 (Cr.rn (Cr.jY.one ho));have vf:=v9.setRow [Iq (Cat.kM s.cat e.table).1,.string (Cat.kM s.cat e.table).2.1.name,.bool (Cat.kM s.cat e.table).2.1.dropped,fv];have hge:=f9.eq;have hgz:=hS.size;have bf:=(Cr.mo (K:=fun x=>x<w4.heap.size) (g:=g9) (Z.jw (AG.kj rA)) (fun hh=>by omega) [Iq (Cat.kM s.cat e.table).1,.string (Cat.kM s.cat e.table).2.1.name,.bool (Cat.kM s.cat e.table).2.1.dropped,fv].toArray).below;apply(jZ)
    (apply ke 12 rfl _)
    apply(jD);apply G _;exact WQ.meet g9 kz ⟨bf,vf.cell 2 jM⟩
  rintro g9 w5 ⟨b5,cd⟩;have h5:=h4.below b5;have E5:=E4.jA (Z.jw b5) Gz;have B5:nM zq g4 w5 b (nj bb bo b.jH.length cap):=⟨U.below B4.blk b5 aas,oR⟩;have ak2:=afJ.jA (O':=E) (Z.jw b5) (fun b _ h=>h) (fun b h=>h);have z5:=b5.size;have K5:=K4.trans ((Z.jw b5).mono fun x (hx:x<w.heap.size/\¬M x)=>(by omega:x<w4.heap.size));have Ye:=U.lt B5.blk;have Ba:=U.lt E5.blk;clear h4 E4 B4 afJ anV b5 cp4 K4 ek;generalize (Cat.kM s.cat e.table).2.2=code;generalize (Cat.kM s.cat e.table).2.1.dropped=dr at cd ⊢;have bad:∀ {c9:Prop} [Decidable c9] {s2:Int×St}{wx:World},jP w5 wx->c9->vF w rb M D f (if c9 then((3:Int),s) else s2).1 (if c9 then((3:Int),s) else s2).2 (N+1) (.returned (Iq 3)) wx:=fun hx hc=>by
   rw[ag hc];exact vF.of (qx.mono ⟨_,_,_,_,_,h5.below hx⟩ I hN) (K5.trans ((Z.jw hx).mono fun x (hx:x<w.heap.size/\¬M x)=>(by omega:x<w5.heap.size))) Vm rfl rfl
  by_cases c9:code=0
  case neg=>
   apply G _;exact J (bad (Below.refl _ _) (.inl c9))
  case pos=>
  cases dr with
  | true=>
   apply jF _;exact J (bad (Below.refl _ _) (.inr (.inl rfl)))
  | false=>
  have ev:=E5.kA;have et:=E5.table;have ed:=E5.doc;have c1:=h5.vb.cell 1 jM;simp only[aA,al]at c1;have Js:=h5.lt rb (.inl h5.vK);have mL:=rq h5.rows;obtain⟨H7,Gk,rfl,-⟩:=id mL;have hfit:fits s e=if e.kA=0 then decide (e.doc=next s e.table) else match(of s.rows (e.table,e.doc)).getLast? with|some r=>!r.del && decide (r.kA+1=e.kA)|none=>false:=rfl
  have auu:=h5.ok;apply jF _;refine WC.tn (fun _:Unit=>[(0,jV rb),(2,Iq k),(4,jV g4),(7,jV g7)]) (fun _ w'=>jP w5 w'/\fits s e=true) rfl ?_ ?_
  ·by_cases Ko:e.kA=0
   case pos=>
    rw[ag Ko]at hfit;apply WC.sE rfl Ko;apply jF _;refine WC.drawn 6 (jP w5) fun wa hd=>?_;have hS:jP w5 wa:=hd.below _;apply jC [0] hS _;apply jz 1 [6] (lX Ba ed) hS;apply jC [2,3] hS _;apply jz 4 [5,6] (lX Ba et) hS;apply jS 5;apply kH func105 (Ik ⟨_,_,_,_,_,h5.below hS⟩ e.table);rintro wb rA
    replace hS:=hS.kj rA;apply lI hS;apply jS 6;apply(jN);apply(jZ);apply(jD)
    by_cases KI:e.doc=next s e.table
    ·apply G _
     apply WC.q_ rfl (fun q=>q KI);apply G _;exact WQ.meet () kz ⟨hS,by rw[hfit,aw KI]⟩
    ·apply G _
     apply WC.sE rfl KI;apply G _;exact J (bad hS (.inr (.inr (by rw[hfit,ar KI]))))
   case neg=>
    rw[aa Ko]at hfit;apply WC.q_ rfl Ko;apply jF _;apply WL.call rfl rfl rfl rfl rfl func111 rfl jG (acR ⟨_,_,_,_,_,h5⟩ e.table e.doc);rintro _ w5 ⟨rfl,o,rfl,ho⟩;refine⟨_,rfl,?_⟩;cases o with
    | none=>
     simp only at ho;rw[ho]at hfit;have z:NO none = -1:=rfl;rw[z];apply G _;refine WC.drawn 25 (jP w5) fun wa hd=>?_;have hS:jP w5 wa:=hd.below _;apply jC [0,1,2,3,4,5] hS _;apply jC [6] hS _;apply jC [7] hS _;apply jC [8] hS _;apply jC [9] hS _;apply jC [10] hS _;apply jC [11,12,13,14,15] hS _;apply jC [16] hS _;apply jC [17] hS _;apply jC [18] hS _;apply jC [19] hS _;apply jC [20] hS _;apply jC [21,22] hS _;apply jC [23] hS _;apply jC [24] hS _;apply jS 25;apply(jN);apply(jZ);apply(jD);apply G _;exact J (bad hS (.inr (.inr hfit)))
    | some i=>
     simp only at ho;obtain⟨hi,ui⟩:=ho;rw[ui]at hfit;simp only at hfit;have z:NO (some i)=(i:Int):=rfl;rw[z];obtain⟨b9,o9,qu,DQ,es,sw,-,R9,-,AN,-⟩:=nw mL hi;obtain⟨rfl,rfl⟩:H7=some (Aq b9 o9)/\Gk=qu:=by simpa using es
     clear es;have vp:s.rows.getD i kE∈s.rows:=by rw[lR hi];exact aH hi
     generalize s.rows.getD i kE=r at R9 hfit AN vp;have avF:lV r.kA/\r.kA<=1000000:=⟨AN.kA,by have:=h5.zF _ vp;omega⟩;cases wI:r.del with
     | true=>
      have yZ:=R9.del;rw[wI]at hfit yZ;apply G _;refine WC.drawn 25 (jP w5) fun wa hd=>?_;have hS:jP w5 wa:=hd.below _;apply jC [0,1,2,3,4,5] hS _;apply jz 6 (mw 8 25) (lX Js c1) hS;apply jC [7] hS _;apply kY 8 i (o9+i*14) hi (.inr hS);apply jC [9] hS _;apply jz 10 (mw 11 25) (lX sw yZ) hS;apply jC [11,12,13,14,15] hS _;apply jC [16] hS _;apply jC [17] hS _;apply jC [18] hS _;apply jC [19] hS _;apply jC [20] hS _;apply jC [21,22] hS _;apply jC [23] hS _;apply jC [24] hS _;apply jS 25;apply(jN);apply(jZ);apply(jD);apply G _;exact J (bad hS (.inr (.inr hfit)))
     | false=>
      have yZ:=R9.del;rw[wI]at hfit yZ;obtain⟨⟨rv1,-⟩,rv2⟩:=avF;have ae6:IntKind.wrap .i64 (r.kA+1)=r.kA+1:=bN _ I;apply G _;refine WC.drawn 25 (jP w5) fun wa hd=>?_;have hS:jP w5 wa:=hd.below _;apply jC [0,1,2,3,4,5] hS _;apply jz 6 (mw 8 25) (lX Js c1) hS;apply jC [7] hS _;apply kY 8 i (o9+i*14) hi (.inr hS);apply jC [9] hS _;apply jz 10 (mw 11 25) (lX sw yZ) hS;apply jC [11,12,13,14,15] hS _;apply jz 16 [18,19,20,21,24,25] (lX Js c1) hS;apply jC [17] hS _;apply kY 18 i (o9+i*14) hi (.inr hS);apply jC [19] hS _;apply jz 20 [21,24,25] (fun wx hx=>(hx.cell (p:=Aq b9 (o9+i*14+2)) sw).trans R9.kA) hS;apply jC [21,22] hS _;apply jz 23 [24,25] (lX Ba ev) hS;apply jC [24] hS _;apply jS 25;apply(jN);apply(jZ);apply(jD)
      by_cases J6:r.kA+1=e.kA
      ·apply G _
       apply WC.q_ rfl (fun q=>q J6);apply G _;exact WQ.meet () kz ⟨hS,by rw[hfit,aw J6];rfl⟩
      ·apply G _
       apply WC.sE rfl J6;apply G _;exact J (bad hS (.inr (.inr (by rw[hfit,ar J6];rfl))))
  rintro⟨⟩ w6 ⟨b6,X6⟩;rw[aa (by rw[X6];simp[c9])];have Is:e.kA<=s.rows.length+1:=by
   rw[hfit]at X6
   by_cases Ko:e.kA=0
   ·omega
   ·rw[aa Ko]at X6
    cases ui:(of s.rows (e.table,e.doc)).getLast? with
    | none=>rw[ui]at X6;cases X6
    | some r=>
     rw[ui]at X6;simp only[aF,aX]at X6;have:=h5.zF r (cg.1 (gw ui)).1;omega
  have h6:=h5.below b6;have E6:=E5.jA (Z.jw b6) Ba;have B6:nM zq g4 w6 b (nj bb bo b.jH.length cap):=⟨U.below B5.blk b6 Ye,oR⟩;have arf:=ak2.jA (O':=E) (Z.jw b6) (fun b _ h=>h) (fun b h=>h);have z6:=b6.size;have K6:=K5.trans ((Z.jw b6).mono fun x (hx:x<w.heap.size/\¬M x)=>(by omega:x<w5.heap.size));have aas:=U.lt B6.blk;have Gz:=U.lt E6.blk;have c16:=h6.vb.cell 1 jM;simp only[aA,al]at c16;have ad_:=h6.lt rb (.inl h6.vK);clear h5 E5 B5 ak2 K5 bad ev et ed c1 mL b6 cd Ye Ba Js;apply jF _;refine WC.drawn 26 (jP w6) fun wa hd=>?_;have hS:jP w6 wa:=hd.below _;apply jC [0,1,2,3] hS _;apply jz 4 [26,27,28,29] (lX ad_ c16) hS;apply jC [5] hS _;apply jz 6 (mw 24 29) (fun wx hx=>(hx.cell (p:=Aq g7 2) Gz).trans E6.table) hS;apply jC [7] hS _;apply jz 8 (mw 24 29) (fun wx hx=>(hx.cell (p:=Aq g7 3) Gz).trans E6.doc) hS;apply jC [9] hS _;apply jz 10 (mw 24 29) (fun wx hx=>(hx.cell (p:=Aq g7 4) Gz).trans E6.kA) hS;apply jC [11] hS _;apply kG 12 [13,24,25,26,27,28,29] (fun wx hx=>(E6.jA (Z.jw hx) Gz).data) lM hS;apply jC [14] hS _;apply jz 15 (mw 24 29) (fun wx hx=>(hx.cell (p:=Aq g7 43) Gz).trans E6.gone) hS;apply jC [16] hS _;apply jz 17 [18,24,25,26,27,28,29] (fun wx hx=>(hx.cell (p:=Aq g7 0) Gz).trans E6.kind) hS;apply jC [18,19] hS _;apply jz 20 (mw 24 29) (fun wx hx=>(hx.cell (p:=Aq g4 0) aas).trans B6.index) hS;apply jC [21,22] hS _;apply jz 23 (mw 24 29) (fun wx hx=>(hx.cell (p:=Aq g4 1) aas).trans B6.time) hS;apply jS 13;apply WL.call rfl rfl rfl rfl rfl func112 rfl jG ((wF (B:=3000) I f (arf.jA (O':=E) (Z.jw hS) (fun b _ h=>h) (fun b h=>h)).sN nE));rintro _ wb ⟨rA,rU,rfl,CC⟩;refine⟨_,rfl,?_⟩;obtain⟨qQ,CA,AE,Af,sZ,rM,rfl⟩:=BH CC;have cb:=hS.kj rA;apply lI cb;have rX:=hS;have hS:=cb;apply Cr.xy (lA (rowOf e b.index k b.time) [Iq e.data.k,Iq e.data.n,Iq e.data.s,.string e.data.t,.slice qQ AE sZ,.slice CA Af rM]) 24 rfl jG rfl rfl (fun _ _ _ _ _ h=>h) rfl rfl rfl (abZ _ _ _ _ _ _ _ _ _ _ _ _ _ _ _ _ _ _) (.inr hS);apply jS 25;refine lh (cs:=(lA (rowOf e b.index k b.time) [Iq e.data.k,Iq e.data.n,Iq e.data.s,.string e.data.t,.slice qQ AE sZ,.slice CA Af rM])) fun gl w8 f8=>?_;have c8:=cb.kj f8.below;apply lI c8;apply jS 26;have arV:=CC.there.jA (O':=fun b=>D b\/(wa.heap.size<=b/\b<wb.heap.size)) (Z.jw f8.below) (fun b _ h=>h) (fun b h=>.inr h);have Aw:kC EY 14 kE (ni (fun b=>D b\/(wa.heap.size<=b/\b<wb.heap.size)) f w8) (fun b=>M b\/(Ua.heap.size<=b/\b<w4.heap.size)) w8 (.slice H7 s.rows.length Gk) s.rows:=Go.Proofs.YtlenklobbngopaaGreat.K.kC.jA h6.rows (Z.jw c8) (fun g hg=>h6.lt g (.inl (h6.rows.own hg))) nN fun _ _ hp=>hp.jA (Z.jw c8) (fun x hx _=>h6.lt x (.inr hx)) (fun _ h=>.inl h);have FM:ni (fun b=>D b\/(wa.heap.size<=b/\b<wb.heap.size)) f w8 (rowOf e b.index k b.time) (lA (rowOf e b.index k b.time) [Iq e.data.k,Iq e.data.n,Iq e.data.s,.string e.data.t,.slice qQ AE sZ,.slice CA Af rM]):=⟨_,rfl,arV,⟨Ic.2.1,Ic.2.2.1,Ic.2.2.2.1,Yn,⟨by show(-9223372036854775808:Int)<=k;omega,by show(k:Int)<=_;omega⟩,rti⟩,nE⟩;refine WL.snoc rfl rfl rfl rfl KU rfl Aw rfl f8.blk FM.one FM.len FM I I fun rv9 w9 DN nB=>?_;apply(jZ)
  (apply ke 27 rfl _;apply ke 28 rfl _)
  apply jS 29;have c19:=(nB.1.cell (p:=Aq rb 1) ⟨by have:=c8.size;show rb<w8.heap.size;omega,fun q=>h6.ne.1 q⟩).trans ((c8.cell (p:=Aq rb 1) ad_).trans c16);apply jT (hv:=(K.kC.one DN)) c19 (U.free (U.jA (U.below h6.vb c8 ad_) nB.1 ⟨by have:=c8.size;omega,fun q=>h6.ne.1 q⟩) 1);apply(jZ);apply(jD);have zb:=c8.size;have z06:=rX.size;have z0b:=rA.size;have zb8:=f8.below.size;have z89:=nB.1.size;have l6:=h6.lt;have IE:Z (fun b=>b<w6.heap.size/\(Value.slice H7 s.rows.length Gk).ownBlock≠some b) w6 w9:=(Z.jw c8).mono (fun b hb=>hb.1) |>.trans (nB.1.mono fun b hb=>⟨I,hb.2⟩);have akP:∀g,(Value.slice H7 s.rows.length Gk).ownBlock=some g->(M g\/(Ua.heap.size<=g/\g<w4.heap.size)):=fun g hg=>h6.rows.own hg;have pY:=h6.push (M':=fun b=>(M b\/(Ua.heap.size<=b/\b<w4.heap.size))\/(w8.heap.size<=b/\b<w9.heap.size)) (D':=fun b=>D b\/(wa.heap.size<=b/\b<wb.heap.size)) (r:=rowOf e b.index k b.time) hN IE (by
    refine Go.Proofs.YtlenklobbngopaaGreat.K.kC.jA DN (K:=fun _=>True) (w':=w9) ⟨rfl,rfl,rfl,aj _,fun _ _=>rfl⟩ (fun _ _=>trivial) nN Db |> fun hx=>?_;obtain⟨mZ,q1,q2,q3⟩:=hx;refine⟨mZ,q1,fun j hj=>⟨(q2 j hj).1,(q2 j hj).2.jA nB.1 (fun x hx _=>⟨?_,fun hh=>?_⟩) nN⟩,q3.1,q3.2.1,fun g hg=>?_⟩
    ·rcases hx with hx|hx
     ·have:=l6 x (.inr hx);omega
     ·omega
    ·have q:=akP x hh
     rcases hx with hx|hx
     ·exact h6.sep x q hx
     ·have:=l6 x (.inl q);omega
    ·rcases q3.own hg with q|q
     ·exact .inl q
     ·exact .inr ⟨I,by have:=q3.lt hg;omega⟩)
   (fun b hb=>.inl hb) (fun b hb=>.inl hb) (fun x hx=>by
    rcases hx with(hx|hx)|(hx|hx)
    ·have:=l6 x (.inl hx);omega
    ·exact hx.2
    ·have:=l6 x (.inr hx);omega
    ·omega) (fun x hx hd=>by
    rcases hx with hx|hx
    ·rcases hd with hd|hd
     ·exact h6.sep x hx hd
     ·have:=l6 x (.inl hx);omega
    ·rcases hd with hd|hd
     ·have:=l6 x (.inr hd);omega
     ·omega) (fun g hg hh=>by
    rcases nB.2 g hg with q|q
    ·exact h6.GY g q hh
    ·have:=l6 g (.inl (h6.tU g hh));omega) Is
  apply G _;exact J ⟨_,_,rfl,⟨_,_,_,_,_,pY⟩,Z.setCell (K6.trans (IE.mono fun x hx=>⟨I,fun hh=>by
    rcases akP x hh with q|q
    ·exact hx.2 q
    ·omega⟩)) (fun hh=>hh.2 h.vK) _,fun x hx=>hx.elim (fun q=>Vm x q) (fun q=>.inr I),fun x hx=>hx.elim .inl (fun q=>.inr I)⟩
 case neg=>
 have h5k:∀ {kk:Int},kk=e.kind->True:=fun _=>trivial;clear h5k
 by_cases h44:e.kind=4
 case pos=>
  obtain⟨-,hL⟩:=EC (L:=s.cat) (kind:=e.kind) (txt:=e.text) (tbl:=e.table) I I I;rw[hL]at h4;change RV w4 rb (fun b=>M b\/(Ua.heap.size<=b/\b<w4.heap.size)) D f s cp O4 rv mb kc N at h4;have hR:entR s e b.index k b.time=match s.rows.findIdx? (zD s (e.ab,e.ae)) with|some i=>(0,{ s with rows:=s.rows.set i (shut (s.rows.getD i kE)),red:=yE s.red (e.ab,e.ae)})|none=>(3,s):=by
   unfold entR;rw[aa (by simpa using Bw),aa HM,ag h44];rfl
  rw[hR,Bw];clear hR Bw hAc hL;have c1:=h4.vb.cell 1 jM;have c3:=h4.vb.cell 3 jM;simp only[aA,al]at c1 c3;have Js:=h4.lt rb (.inl h4.vK);have Ba:=U.lt E4.blk;have mL:=rq h4.rows;obtain⟨H7,Gk,rfl,-⟩:=id mL;have eab:=E4.ab;have eae:=E4.ae;have ui:∀ {wx:World},jP w4 wx->(Instr.lookup 55 (.map (some mb)) (nR (e.ab,e.ae)) false).run prog wx=.ok ((xW s.red (e.ab,e.ae)).getD (Iq 0)) wx:=fun hx=>
   (h4.below hx).red.look xj gG (z:=Iq 0) jG (DT (x:=(e.ab,e.ae)) Ic.2.2.2.2.1 Ic.2.2.2.2.2)
  have auu:=h4.ok;apply jF _;apply WC.loop (fun i:Nat=>[(0,jV rb),(7,jV g7),(12,Iq i)]) (fun i w'=>i<=s.rows.length/\jP w4 w'/\∀j,j<i->zD s (e.ab,e.ae) (s.rows.getD j kE)=false) (fun i=>s.rows.length - i) 0 kz ⟨ay _,Below.refl _ _,fun j hj=>absurd hj (dg j)⟩;rintro i wl ⟨hi,bl,nI⟩;have c1l:=(bl.cell (p:=Aq rb 1) Js).trans c1
  by_cases Jq:i<s.rows.length
  case neg=>
   obtain rfl:i=s.rows.length:=I;rw[LS nI];apply jF _;exact J (vF.of (qx.mono ⟨_,_,_,_,_,h4.below bl⟩ I hN) (K4.trans ((Z.jw bl).mono fun x (hx:x<w.heap.size/\¬M x)=>(by omega:x<w4.heap.size))) Vm rfl rfl)
  case pos=>
  obtain⟨b9,o9,qu,DQ,es,sw,-,R9,qO,-⟩:=nw mL Jq;obtain⟨rfl,rfl⟩:H7=some (Aq b9 o9)/\Gk=qu:=by simpa using es
  clear es;obtain⟨r,hr⟩:∃r,r=s.rows.getD i kE:=⟨_,rfl⟩;rw[<-hr]at R9 qO;have JS:zD s (e.ab,e.ae) r=(decide (r.blk=e.ab) && decide (r.pH=e.ae) && !r.del && !s.red (e.ab,e.ae)):=rfl;have Pb:zD s (e.ab,e.ae) r=false->∀j,j<i+1->zD s (e.ab,e.ae) (s.rows.getD j kE)=false:=fun hh j hj=>by
   rcases aW j i with h'|h'
   ·exact nI j h'
   ·obtain rfl:j=i:=I
    rw[<-hr];exact hh
  apply jF _;apply jQ i (o9+i*14) Jq;apply jF _
  by_cases q1:r.blk=e.ab
  case neg=>
   refine WC.drawn 34 (jP w4) fun wa hd=>?_;have hS:=bl.trans (hd.below _);apply jC [0,1,2] hS _;apply jz 3 (mw 7 34) (fun wx hx=>(hx.cell (p:=Aq b9 (o9+i*14+11)) sw).trans R9.blk) hS;apply jC [4,5] hS _;apply jz 6 (mw 7 34) (lX Ba eab) hS;apply jC [7,8,9,10,11] hS _;apply jC [12] hS _;apply jC [13,14] hS _;apply jC [15] hS _;apply jC [16,17,18,19,20,21] hS _;apply jC [22] hS _;apply jC [23,24,25,26,27,28] hS _;apply jC [29] hS _;apply jC [30] hS _;apply jC [31] hS _;apply jC [32] hS _;apply jC [33] hS _;apply jS 34;apply(jN);apply(jZ);apply(jD);apply G _;exact WQ.again (i+1) kz ⟨Jq,hS,Pb (by rw[JS,ar q1];rfl)⟩ I
  case pos=>
  by_cases q2:r.pH=e.ae
  case neg=>
   refine WC.drawn 34 (jP w4) fun wa hd=>?_;have hS:=bl.trans (hd.below _);apply jC [0,1,2] hS _;apply jz 3 (mw 7 34) (fun wx hx=>(hx.cell (p:=Aq b9 (o9+i*14+11)) sw).trans R9.blk) hS;apply jC [4,5] hS _;apply jz 6 (mw 7 34) (lX Ba eab) hS;apply jC [7,8,9,10,11] hS _;apply jz 12 (mw 16 34) (fun wx hx=>(hx.cell (p:=Aq b9 (o9+i*14+12)) sw).trans R9.pH) hS;apply jC [13,14] hS _;apply jz 15 (mw 16 34) (lX Ba eae) hS;apply jC [16,17,18,19,20,21] hS _;apply jC [22] hS _;apply jC [23,24,25,26,27,28] hS _;apply jC [29] hS _;apply jC [30] hS _;apply jC [31] hS _;apply jC [32] hS _;apply jC [33] hS _;apply jS 34;apply(jN);apply(jZ);apply(jD);apply G _;exact WQ.again (i+1) kz ⟨Jq,hS,Pb (by rw[JS,ar q2];simp)⟩ I
  case pos=>
  have yZ:=R9.del;cases wI:r.del with
  | true=>
   rw[wI]at yZ;refine WC.drawn 34 (jP w4) fun wa hd=>?_;have hS:=bl.trans (hd.below _);apply jC [0,1,2] hS _;apply jz 3 (mw 7 34) (fun wx hx=>(hx.cell (p:=Aq b9 (o9+i*14+11)) sw).trans R9.blk) hS;apply jC [4,5] hS _;apply jz 6 (mw 7 34) (lX Ba eab) hS;apply jC [7,8,9,10,11] hS _;apply jz 12 (mw 16 34) (fun wx hx=>(hx.cell (p:=Aq b9 (o9+i*14+12)) sw).trans R9.pH) hS;apply jC [13,14] hS _;apply jz 15 (mw 16 34) (lX Ba eae) hS;apply jC [16,17,18,19,20,21] hS _;apply jz 22 (mw 23 34) (lX sw yZ) hS;apply jC [23,24,25,26,27,28] hS _;apply jC [29] hS _;apply jC [30] hS _;apply jC [31] hS _;apply jC [32] hS _;apply jC [33] hS _;apply jS 34;apply(jN);apply(jZ);apply(jD);apply G _;exact WQ.again (i+1) kz ⟨Jq,hS,Pb (by rw[JS,wI];simp)⟩ I
  | false=>
  rw[wI]at yZ;cases F6:s.red (e.ab,e.ae) with
  | true=>
   have adk:∀ {wx:World},jP w4 wx->(Instr.lookup 55 (.map (some mb)) (nR (e.ab,e.ae)) false).run prog wx=.ok (Iq 1) wx:=fun hx=>by rw[ui hx];unfold xW;rw[F6];rfl
   refine WC.drawn 34 (jP w4) fun wa hd=>?_;have hS:=bl.trans (hd.below _);apply jC [0,1,2] hS _;apply jz 3 (mw 7 34) (fun wx hx=>(hx.cell (p:=Aq b9 (o9+i*14+11)) sw).trans R9.blk) hS;apply jC [4,5] hS _;apply jz 6 (mw 7 34) (lX Ba eab) hS;apply jC [7,8,9,10,11] hS _;apply jz 12 (mw 16 34) (fun wx hx=>(hx.cell (p:=Aq b9 (o9+i*14+12)) sw).trans R9.pH) hS;apply jC [13,14] hS _;apply jz 15 (mw 16 34) (lX Ba eae) hS;apply jC [16,17,18,19,20,21] hS _;apply jz 22 (mw 23 34) (lX sw yZ) hS;apply jC [23,24,25,26,27,28] hS _;apply jz 29 [32,33,34] (lX Js c3) hS;apply jC [30] hS _;apply kG 31 [32,33,34] (fun wx hx=>(E4.jA (Z.jw hx) Ba).BA) rfl hS;apply nJ 32 [33,34] (fun wx hx=>adk hx) hS;apply jC [33] hS _;apply jS 34;apply(jN);apply(jZ);apply(jD);apply G _;exact WQ.again (i+1) kz ⟨Jq,hS,Pb (by rw[JS,F6];simp)⟩ I
  | false=>
  have adk:∀ {wx:World},jP w4 wx->(Instr.lookup 55 (.map (some mb)) (nR (e.ab,e.ae)) false).run prog wx=.ok (Iq 0) wx:=fun hx=>by rw[ui hx];unfold xW;rw[F6];rfl
  refine WC.drawn 34 (jP w4) fun wa hd=>?_;have hS:=bl.trans (hd.below _);apply jC [0,1,2] hS _;apply jz 3 (mw 7 34) (fun wx hx=>(hx.cell (p:=Aq b9 (o9+i*14+11)) sw).trans R9.blk) hS;apply jC [4,5] hS _;apply jz 6 (mw 7 34) (lX Ba eab) hS;apply jC [7,8,9,10,11] hS _;apply jz 12 (mw 16 34) (fun wx hx=>(hx.cell (p:=Aq b9 (o9+i*14+12)) sw).trans R9.pH) hS;apply jC [13,14] hS _;apply jz 15 (mw 16 34) (lX Ba eae) hS;apply jC [16,17,18,19,20,21] hS _;apply jz 22 (mw 23 34) (lX sw yZ) hS;apply jC [23,24,25,26,27,28] hS _;apply jz 29 [32,33,34] (lX Js c3) hS;apply jC [30] hS _;apply kG 31 [32,33,34] (fun wx hx=>(E4.jA (Z.jw hx) Ba).BA) rfl hS;apply nJ 32 [33,34] (fun wx hx=>adk hx) hS;apply jC [33] hS _;apply jS 34;apply(jN);apply(jZ);apply(jD);rw[HC Jq nI (by rw[<-hr,JS,wI,F6,aw q1,aw q2];rfl)];have ha:=h4.below hS;obtain⟨g,ac5,es,hMg,lgg,A,B,C,Gl,Ol,hBl,hPB,aek⟩:=SL ha.rows Jq;obtain⟨⟨rfl,rfl⟩,rfl⟩:(b9=g/\o9=0)/\Gk=ac5:=by simpa using es
  clear es;obtain⟨dB,rfl,hvB,okB,smB⟩:=hPB;obtain⟨zh,FH,n1,n2,sZ,rM,rfl⟩:=BH hvB;rw[<-hr]at hvB okB Gl hBl;have Kq:b9≠mb:=fun q=>ha.ne.2 (by rw[q];rfl);have auM:g7<wa.heap.size:=by have:=hS.size;omega
  have E7:=E4.jA (Z.jw hS) Ba;have aqM:=ha.lt rb (.inl ha.vK);have c3a:=ha.vb.cell 3 jM;simp only[aA,al]at c3a;have Ka:=K4.trans ((Z.jw hS).mono fun x (hx:x<w.heap.size/\¬M x)=>(by omega:x<w4.heap.size));apply G _;refine WC.drawn 6 (jP wa) fun wd tA=>?_;have pO:=hS;replace hS:jP wa wd:=tA.below _;apply jC [0,1,2] hS _;apply jz 3 [6] (lX aqM c3a) hS;apply jC [4] hS _;apply kG 5 [6] (fun wx hx=>(E7.jA (Z.jw hx) auM).BA) rfl hS;apply jS 6;obtain⟨wc,my,hmf,XX⟩:=MF.put tV (ha.below hS).red xj gG (by unfold maxLen;have:=ha.ok;omega) (key:=(e.ab,e.ae)) (Iq 1) (DT (x:=(e.ab,e.ae)) Ic.2.2.2.2.1 Ic.2.2.2.2.2);rw[Wf]at hmf;apply WL.ml rfl rfl rfl rfl rfl rfl my;apply(jZ);apply(jD);have wC:=(U.below Gl hS lgg).jA XX Kq;apply WQ.then rfl;apply WC.as 13 (.pointer (some (Aq b9 (i*14)))) rfl (by rw[bA]);have H_:(lA r [Iq r.data.k,Iq r.data.n,Iq r.data.s,.string r.data.t,.slice zh n1 sZ,.slice FH n2 rM]).length=14:=rfl;have wP:=wC.set (i*14+9) (.bool true);rw[UN _ Ol (by rw[H_];omega)]at wP;have ahq:wc.cell? (Aq b9 (i*14+9))=some ((A++(lA r [Iq r.data.k,Iq r.data.n,Iq r.data.s,.string r.data.t,.slice zh n1 sZ,.slice FH n2 rM]++C)).getD (i*14+9) undef):=wC.cell _ (by simp only[af];rw[H_];omega);apply G _;apply jT ahq (U.free wC _);apply G _;apply jR jK jG;apply G _;refine WL.uM rfl rfl rfl rfl rfl rfl wP rfl (by simp only[af,aI];rw[H_];omega) (oe (fun _=>True) 0 wc).one ?_;have rI:=U.setRow wP ((A++((lA r [Iq r.data.k,Iq r.data.n,Iq r.data.s,.string r.data.t,.slice zh n1 sZ,.slice FH n2 rM]).set 9 (.bool true)++C)).take (i*14+3)++jK++(A++((lA r [Iq r.data.k,Iq r.data.n,Iq r.data.s,.string r.data.t,.slice zh n1 sZ,.slice FH n2 rM]).set 9 (.bool true)++C)).drop (i*14+3+6));have Mb:=TU (A:=A) (B:=(lA r [Iq r.data.k,Iq r.data.n,Iq r.data.s,.string r.data.t,.slice zh n1 sZ,.slice FH n2 rM]).set 9 (.bool true)) (C:=C) (m:=jK) (x:=i*14) (off:=3) (k:=6) Ol rfl (by rw[aI,H_];omega);rw[Qq]at Mb;obtain⟨row,kF⟩:∃row,row=(A++((lA r [.int .i64 r.data.k,.int .i64 r.data.n,.int .i64 r.data.s,.string r.data.t,.slice zh n1 sZ,.slice FH n2 rM]).set 9 (.bool true)++C)).take (i*14+3)++jK++(A++((lA r [.int .i64 r.data.k,.int .i64 r.data.n,.int .i64 r.data.s,.string r.data.t,.slice zh n1 sZ,.slice FH n2 rM]).set 9 (.bool true)++C)).drop (i*14+3+6):=⟨_,rfl⟩;rw[<-kF]at rI Mb ⊢;have k2:Z (fun x=>x≠b9) wc ((wc.setCell (Aq b9 (i*14+9)) (.bool true)).setRow b9 row.toArray):=Cr.mo ((Z.refl _ _).setCell jM _) jM _;generalize (wc.setCell (Aq b9 (i*14+9)) (.bool true)).setRow b9 row.toArray=we at rI k2 ⊢;rw[Mb]at rI;have kae:Z (fun x=>x<wa.heap.size/\x≠mb/\x≠b9) wa we:=((Z.jw hS).mono fun x hx=>hx.1).trans ((XX.mono fun x hx=>hx.2.1).trans (k2.mono fun x hx=>hx.2.2));have hl:=ha.lt;have hfp:f≠0:=fun q=>by subst q;exact hvB.elim
  obtain⟨f',rfl⟩:∃f',f=f'+1:=⟨f - 1,I⟩;have KS:=aek (w':=we) (P':=ni D (f'+1) we) (lA (shut r) jK) (shut r) rI rfl (ni.one (D:=D) (f:=f'+1) (w:=we) ⟨jK,rfl,oe D f' we,⟨okB.m5,okB.doc,okB.kA,okB.blk,okB.pH,okB.sC⟩,GV f'⟩) ⟨jK,rfl,oe D f' we,⟨okB.m5,okB.doc,okB.kA,okB.blk,okB.pH,okB.sC⟩,GV f'⟩
   (fun x cs hp=>hp.jA kae (fun y hy _=>⟨hl y (.inr hy),fun q=>ha.sep mb ha.IS (q ▸ hy),fun q=>ha.sep b9 hMg (q ▸ hy)⟩) nN)
  rw[hr]at KS;have pY:=(ha.below hS).ann (w':=we) (i:=i) (a:=(e.ab,e.ae)) hN (k2.mono (fun x hx=>fun q=>hx.2 (by rw[q];rfl)) |> fun k3=>(XX.mono fun x hx=>hx.1).trans k3) (hmf.jA k2 (fun q=>Kq q.symm)) KS;apply G _;exact J (vF.of ⟨_,_,_,_,_,pY⟩ (Ka.trans (kae.mono fun x hx=>⟨by have:=pO.size;omega,fun q=>hx.2 (by rcases ha.IS with h'|h';exact q ▸ h';omega),fun q=>hx.2 (by rcases hMg with h'|h';exact q ▸ h';omega)⟩)) Vm rfl rfl)
 case neg=>
  have hR:entR s e b.index k b.time=(0,{ s with cat:=Cat.oV s.cat e.kind e.text e.table }):=by
   unfold entR;rw[aa (by simpa using Bw),aa HM,aa h44]
  rw[hR,Bw];apply jF _;exact J (vF.of (qx.mono ⟨_,_,_,_,_,h4⟩ I hN) K4 Vm rfl rfl)
end Vw
namespace K
theorem r8 (n lo hi:Int)(w:World): Calls prog 106 #[Iq n,Iq lo,Iq hi] w fun e w'=>e=.returned (.bool (decide (lo<=n/\n<=hi)))/\w'=w:=by
 apply kq fC ntmps106
 by_cases h1:lo<=n
 ·by_cases h2:n<=hi
  ·apply G _
   exact J ⟨by rw[aw ⟨h1,h2⟩],rfl⟩
  ·apply G _
   exact J ⟨by rw[ar fun h=>h2 h.2],rfl⟩
 ·apply G _
  exact J ⟨by rw[ar fun h=>h1 h.1],rfl⟩
theorem Zp (f:Nat)(w:World): mj (f+1) w zV jK:=(oe (fun _=>True) f w).sN
theorem JH {v:V}(h:mj f w v cs): Calls prog 154 #[.agg cs.toArray] w (lk (v=zV) w):=by
 have hcs:=h.len;apply kq (args:=[.agg cs.toArray]) func154 ntmps154;apply G _;refine jO fun g w1 hf=>?_;have lj:kJ w g w1 25 cs:=hf;clear hf;apply G _;apply jy (U.rangeAt lj.blk) hcs;apply jR jK jG;apply jx func165 (Mw f (h.below lj.below) (Zp 0 w1));rintro _ w2 ⟨⟨b,rfl,hb⟩,mW⟩;refine⟨_,rfl,?_⟩;apply G _;exact J ⟨⟨b,rfl,hb⟩,lj.below.trans (mW.mono lj.below.size)⟩
theorem Ze {e:En}(hd:dc.length=6)(hh:e.hash.length=32):
  Calls prog 155 #[.agg (km e dc).toArray] w fun r w'=>r=.returned (.agg (km { e with data:=zV } jK).toArray)/\jP w w':=by
 apply kq (args:=[.agg (km e dc).toArray]) func155 ntmps155;apply G _;refine jO fun g w1 hf=>?_;have lj:kJ w g w1 76 (km e dc):=hf;clear hf;refine jJ (z:=.agg (km kQ jK).toArray) (fun _=>jG) fun c w2 mK=>?_;have mI:kJ w1 c w2 76 (km kQ jK):=mK;clear mK;have he1:=lj.eq;have FW:=mI.eq;have CN:=lj.size;have nQ:=lj.below.trans (mI.below.mono lj.below.size);have A:lT 76 g w2 e dc:=⟨lj.blk.below mI.below lj.blk.lt,hd,hh⟩;have C:=mI.blk;clear lj mI;apply G _;apply jR jK jG;apply G _;refine WL.uM rfl rfl rfl rfl rfl rfl A.blk rfl (by rw[A.len];omega) (oe (fun _=>True) 0 w2).one ?_;have A3:=A.VQ (m:=jK) (off:=0+5) zV rfl rfl;have pE:jP w (w2.setRow g ((km e dc).take (0+5)++jK++(km e dc).drop (0+5+6)).toArray):=Z.below (Z.setRow (Z.jw nQ) (fun hk=>by omega) _);have C3:U 76 (w2.setRow g ((km e dc).take (0+5)++jK++(km e dc).drop (0+5+6)).toArray) c (km kQ jK):=C.setRow_other _ I;generalize w2.setRow g ((km e dc).take (0+5)++jK++(km e dc).drop (0+5+6)).toArray=w3 at A3 pE C3;have CE:lY (km { e with data:=zV } jK):=by
  intro u hu;unfold km at hu;simp only[ax,au,a_,eJ]at hu;rcases hu with rfl|rfl|rfl|rfl|rfl|hu|hu|rfl|rfl|rfl
  all_goals first|rfl|exact(oe (fun _=>True) 0 w2).one u hu|exact lY.int _ _ u hu
 apply G _;apply WL.qX rfl rfl rfl rfl rfl rfl (U.rangeAt A3.blk) A3.len;apply jE (hm:=A3.len) (hold:=(by rfl)) C3 CE;apply G _;exact WQ.vJ rfl rfl rfl A3.len (C3.setRow _) ⟨rfl,Z.below (Z.setRow (Z.jw pE) (fun hk=>by omega) _)⟩
def rR (e x:En):Prop:=e.kind=x.kind/\e.text=x.text/\e.table=x.table/\e.doc=x.doc/\e.kA=x.kA/\e.hash=x.hash/\e.gone=x.gone/\(e.ab=x.ab/\e.ae=x.ae)/\e.data=zV
theorem uN {f2:Nat}{e1 e2:En}{c1 c2:kL}(h1:xM f w e1 c1)(h2:xM f2 w e2 c2):
  Calls prog 153 #[.agg c1.toArray,.agg c2.toArray] w (lk (rR e1 e2) w):=by
 obtain⟨d1,rfl,Sc,vP,-,EL,-⟩:=h1;obtain⟨d2,rfl,wP,tA,-,Mp,-⟩:=h2;apply kq (args:=[.agg (km e1 d1).toArray,.agg (km e2 d2).toArray]) func153 ntmps153;apply G _;refine jO fun g1 w1 ou=>?_;have oJ:kJ w g1 w1 76 (km e1 d1):=ou;clear ou;refine jO fun g2 w2 mK=>?_;have mI:kJ w1 g2 w2 76 (km e2 d2):=mK;clear mK;have hw:=oJ.below.trans (mI.below.mono oJ.below.size);have A1:lT _ g1 w2 e1 d1:=⟨oJ.blk.below mI.below oJ.blk.lt,vP,EL⟩;have A2:lT _ g2 w2 e2 d2:=⟨mI.blk,tA,Mp⟩;clear oJ mI;have no:¬rR e1 e2->lk (rR e1 e2) w (.returned (.bool false)) w2:=fun h=>lk.no h hw;apply G _;apply Y A1.kind;apply G _;apply Y A2.kind
 by_cases q1:e1.kind=e2.kind
 rotate_left
 ·apply G _
  exact J (no fun e=>q1 e.1)
 apply G _;apply Y A1.text;apply G _;apply Y A2.text
 by_cases q2:e1.text=e2.text
 rotate_left
 ·apply(jX)
  apply WL.zI (.bool false) rfl rfl rfl rfl (by simp[I1 q2]);apply G _;exact J (no fun e=>q2 e.2.1)
 apply(jX);apply WL.zI (.bool true) rfl rfl rfl rfl (by simp[q2]);apply G _;apply Y A1.table;apply G _;apply Y A2.table
 by_cases q3:e1.table=e2.table
 rotate_left
 ·apply G _
  exact J (no fun e=>q3 e.2.2.1)
 apply G _;apply Y A1.doc;apply G _;apply Y A2.doc
 by_cases q4:e1.doc=e2.doc
 rotate_left
 ·apply G _
  exact J (no fun e=>q4 e.2.2.2.1)
 apply G _;apply Y A1.kA;apply G _;apply Y A2.kA
 by_cases q5:e1.kA=e2.kA
 rotate_left
 ·apply G _
  exact J (no fun e=>q5 e.2.2.2.2.1)
 apply G _;apply WL.qX rfl rfl rfl rfl rfl rfl A1.hash (by simp[EL]);apply G _;apply WL.qX rfl rfl rfl rfl rfl rfl A2.hash (by simp[Mp]);apply(jX);apply WL.alQ rfl rfl rfl rfl rfl rfl EL Mp
 by_cases q6:e1.hash=e2.hash
 rotate_left
 ·apply WL.as 43 (.bool false) rfl (congrArg Value.bool (ar q6))
  apply G _;exact J (no fun e=>q6 e.2.2.2.2.2.1)
 apply WL.as 43 (.bool true) rfl (congrArg Value.bool (aw q6));apply G _;apply Y A1.gone;apply G _;apply Y A2.gone
 by_cases q7:e1.gone=e2.gone
 rotate_left
 ·cases b1:e1.gone<;>cases b2:e2.gone
  ·exact absurd (b1.trans b2.symm) q7
  ·apply G _
   exact J (no fun e=>q7 e.2.2.2.2.2.2.1)
  ·apply G _
   exact J (no fun e=>q7 e.2.2.2.2.2.2.1)
  ·exact absurd (b1.trans b2.symm) q7
 apply(jX);apply WL.zI (.bool true) rfl rfl rfl rfl (by simp[q7]);apply G _;apply jy A1.BA rfl;apply G _;apply jy A2.BA rfl;apply(jX);apply WL.amu rfl rfl rfl rfl rfl rfl
 by_cases q8:e1.ab=e2.ab/\e1.ae=e2.ae
 rotate_left
 ·apply WL.as 57 (.bool false) rfl (congrArg Value.bool (ar q8))
  apply G _;exact J (no fun e=>q8 e.2.2.2.2.2.2.2.1)
 apply WL.as 57 (.bool true) rfl (congrArg Value.bool (aw q8));apply G _;apply jy A1.data vP;apply(jX);apply jx func154 (JH (Sc.below hw));rintro _ w3 ⟨⟨b,rfl,hb⟩,oN⟩;refine⟨_,rfl,?_⟩;apply G _;exact J (lk.of (hw.kj oN) hb ⟨fun h=>h.2.2.2.2.2.2.2.2,fun h=>⟨q1,q2,q3,q4,q5,q6,q7,q8,h⟩⟩)
theorem aiM (e:En): rR e ⟨e.kind,e.text,0,0,0,zV,Dig.nA,false,0,0⟩ ↔ oY { e with text:=kZ }:=by
 unfold rR oY
 constructor
 ·rintro⟨a1,a2,a3,a4,a5,a6,a7,⟨a8,a9⟩,a10⟩
  refine⟨?_,?_,?_,?_,?_,?_,?_,?_,?_⟩<;>first|rfl|assumption|exact(congrArg ByteArray.size a2)
 ·rintro⟨b1,b2,b3,b4,b5,b6,b7,b8,b9⟩
  refine⟨?_,?_,?_,?_,?_,?_,?_,⟨?_,?_⟩,?_⟩<;>first|rfl|assumption|exact sI b1
theorem aj2 (e:En): rR { e with data:=zV } ⟨e.kind,kZ,e.table,e.doc,e.kA,zV,e.hash,e.gone,0,0⟩ ↔ oY { e with data:=zV,hash:=Dig.nA,gone:=false,table:=0,doc:=0,kA:=0 }:=by
 unfold rR oY
 constructor
 ·rintro⟨a1,a2,a3,a4,a5,a6,a7,⟨a8,a9⟩,a10⟩
  refine⟨?_,?_,?_,?_,?_,?_,?_,?_,?_⟩<;>first|rfl|assumption|exact(congrArg ByteArray.size a2)
 ·rintro⟨b1,b2,b3,b4,b5,b6,b7,b8,b9⟩
  refine⟨?_,?_,?_,?_,?_,?_,?_,⟨?_,?_⟩,?_⟩<;>first|rfl|assumption|exact sI b1
theorem aiy (e:En): rR e ⟨e.kind,kZ,e.table,e.doc,e.kA,zV,Dig.nA,false,0,0⟩ ↔ oY { e with table:=0,doc:=0,kA:=0 }:=by
 unfold rR oY
 constructor
 ·rintro⟨a1,a2,a3,a4,a5,a6,a7,⟨a8,a9⟩,a10⟩
  refine⟨?_,?_,?_,?_,?_,?_,?_,?_,?_⟩<;>first|rfl|assumption|exact(congrArg ByteArray.size a2)
 ·rintro⟨b1,b2,b3,b4,b5,b6,b7,b8,b9⟩
  refine⟨?_,?_,?_,?_,?_,?_,?_,⟨?_,?_⟩,?_⟩<;>first|rfl|assumption|exact sI b1
theorem aiE (e:En): rR e ⟨e.kind,kZ,0,0,0,zV,Dig.nA,false,e.ab,e.ae⟩ ↔ oY { e with ab:=0,ae:=0 }:=by
 unfold rR oY
 constructor
 ·rintro⟨a1,a2,a3,a4,a5,a6,a7,⟨a8,a9⟩,a10⟩
  refine⟨?_,?_,?_,?_,?_,?_,?_,?_,?_⟩<;>first|rfl|assumption|exact(congrArg ByteArray.size a2)
 ·rintro⟨b1,b2,b3,b4,b5,b6,b7,b8,b9⟩
  refine⟨?_,?_,?_,?_,?_,?_,?_,⟨?_,?_⟩,?_⟩<;>first|rfl|assumption|exact sI b1
theorem aki (e:En): rR e ⟨e.kind,e.text,e.table,0,0,zV,Dig.nA,false,0,0⟩ ↔ oY { e with table:=0,text:=kZ }:=by
 unfold rR oY
 constructor
 ·rintro⟨a1,a2,a3,a4,a5,a6,a7,⟨a8,a9⟩,a10⟩
  refine⟨?_,?_,?_,?_,?_,?_,?_,?_,?_⟩<;>first|rfl|assumption|exact(congrArg ByteArray.size a2)
 ·rintro⟨b1,b2,b3,b4,b5,b6,b7,b8,b9⟩
  refine⟨?_,?_,?_,?_,?_,?_,?_,⟨?_,?_⟩,?_⟩<;>first|rfl|assumption|exact sI b1
theorem aiw (e:En): rR e ⟨e.kind,kZ,e.table,0,0,zV,Dig.nA,false,0,0⟩ ↔ oY { e with table:=0 }:=by
 unfold rR oY
 constructor
 ·rintro⟨a1,a2,a3,a4,a5,a6,a7,⟨a8,a9⟩,a10⟩
  refine⟨?_,?_,?_,?_,?_,?_,?_,?_,?_⟩<;>first|rfl|assumption|exact(congrArg ByteArray.size a2)
 ·rintro⟨b1,b2,b3,b4,b5,b6,b7,b8,b9⟩
  refine⟨?_,?_,?_,?_,?_,?_,?_,⟨?_,?_⟩,?_⟩<;>first|rfl|assumption|exact sI b1
theorem acO (hh:h.length=32): h=(List.range 32).map (nth h):=by
 apply ew (by simp[hh]);intro i h1 h2;simp[nth,h1]
theorem adz (k ta d v:Int)(q:Nat->Int)(g:Bool): prog.built 76 [(0,Iq k),(2,Iq ta),(3,Iq d),(4,Iq v),(6,.agg (kT ((List.range 32).map q)).toArray),(7,.bool g)]=some (km ⟨k,kZ,ta,d,v,zV,(List.range 32).map q,g,0,0⟩ jK).toArray:=jG
theorem aiV (k ta d v:Int)(hh:h.length=32)(g:Bool): prog.built 76 [(0,Iq k),(2,Iq ta),(3,Iq d),(4,Iq v),(6,.agg (kT h).toArray),(7,.bool g)]=some (km ⟨k,kZ,ta,d,v,zV,h,g,0,0⟩ jK).toArray:=by
 have:=adz k ta d v (nth h) g;rw[<-acO hh]at this;exact this
theorem Gi {e:En}(h:e.data=zV)(hl:e.hash.length=32)(hb:Byt e.hash)(ht:e.text.size<=140737488355328)(r:lV e.kind/\lV e.table/\lV e.doc/\lV e.kA/\lV e.ab/\lV e.ae): xM 1 w e (km e jK) :=
 ⟨jK,rfl,by rw[h];exact Zp 0 w,rfl,(oe (fun _=>True) 0 w).one,hl,hb,ht,r⟩
theorem po: lV 0:=by show -9223372036854775808<=(0:Int)/\(0:Int)<=9223372036854775807;omega
theorem Zb {e:En}(h:xM f w e cs): Calls prog 135 #[.agg cs.toArray] w (lk (lQ e) w):=by
 obtain⟨dc,rfl,hv,lM,m9,hh,tZ,um,hk,zf,zn,AP,uP,HD⟩:=h;have lO:p_ (mj f w) e (km e dc):=⟨dc,rfl,hv,lM,m9,hh,tZ,um,hk,zf,zn,AP,uP,HD⟩;have Lf:Dig.nA.length=32:=rfl;have SD:=Ee;have hnt:kZ.size<=140737488355328:=by decide
 apply kq (args:=[.agg (km e dc).toArray]) func135 ntmps135;apply G _;refine jO fun g w1 hf=>?_;have lj:kJ w g w1 76 (km e dc):=hf;clear hf;have B1:lT 76 g w1 e dc:=⟨lj.blk,lM,hh⟩;have nH:=lj.below;clear lj;apply G _;apply Y B1.text;apply G _;apply kH fC (r8 _ _ _ _);rintro w1 rfl
 apply G _;apply Y B1.table;apply kH fC (r8 _ _ _ _);rintro w1 rfl
 apply G _;apply Y B1.doc;apply kH fC (r8 _ _ _ _);rintro w1 rfl
 apply G _;apply Y B1.kind
 by_cases k1:e.kind=1
 ·have lL:lQ e ↔ (1<=e.text.size/\e.text.size<=4096)/\oY { e with text:=kZ }:=by unfold lQ;rw[ag k1];exact⟨fun h=>⟨⟨h.1,h.2.1⟩,h.2.2⟩,fun h=>⟨h.1.1,h.1.2,h.2⟩⟩
  apply G _;apply Y B1.text;apply G _;apply kH fC (r8 _ _ _ _);rintro w1 rfl
  by_cases ht:(1:Int)<=(e.text.size:Int)/\(e.text.size:Int)<=4096
  rotate_left
  ·apply G _
   exact J (lk.no (fun h=>ht (by have:=(lL.1 h).1;omega)) nH)
  apply G _;apply jy (U.rangeAt B1.blk) B1.len;apply G _;apply Y B1.kind;apply G _;apply Y B1.text;apply(jX);apply jR (km ⟨e.kind,e.text,0,0,0,zV,Dig.nA,false,0,0⟩ jK) jG;apply(jX);apply jx func153 (uN (xM.below nH lO) (Gi (e:=⟨e.kind,e.text,0,0,0,zV,Dig.nA,false,0,0⟩) rfl Lf SD (by first|exact um|exact hnt) ⟨hk,by first|exact zf|exact po,by first|exact zn|exact po,by first|exact AP|exact po,by first|exact uP|exact po,by first|exact HD|exact po⟩));rintro _ w5 ⟨⟨b,rfl,hb⟩,oM⟩;refine⟨_,rfl,?_⟩;apply G _;exact J (lk.of (nH.kj oM) (hb.trans (aiM e)) (lL.trans ⟨fun h=>h.2,fun h=>⟨I,h⟩⟩))
 by_cases k2:e.kind=2
 ·have lL:lQ e ↔ (1<=e.table/\e.table<=64)/\(1<=e.doc/\e.doc<=65536)/\(0<=e.kA/\e.kA<=2147483648)/\oY { e with data:=zV,hash:=Dig.nA,gone:=false,table:=0,doc:=0,kA:=0 }/\(e.gone=true->e.data=zV):=by unfold lQ;rw[aa k1,ag k2]
  apply G _;refine WL.tn (fun b:Bool=>[(1,jV g),(4,.bool (decide (1<=e.table/\e.table<=64))),(5,.bool (decide (1<=e.doc/\e.doc<=65536))),(42,.bool b)]) (fun b wx=>(b=true ↔ e.gone=true/\¬e.data=zV)/\lT 76 g wx e dc/\jP w wx) rfl ?_ ?_
  ·apply Y B1.gone
   cases Rt:e.gone with
   | false=>
    apply G _;exact WQ.meet false kz ⟨jM,B1,nH⟩
   | true=>
    apply G _;apply jy B1.data lM;apply(jX);apply jx func154 (JH (hv.below nH));rintro _ w2 ⟨⟨b,rfl,hb⟩,mW⟩;refine⟨_,rfl,?_⟩;cases b with
    | true=>
     apply G _;exact WQ.meet false kz ⟨by simp[hb.1 rfl],B1.below mW,nH.kj mW⟩
    | false=>
     apply G _;exact WQ.meet true kz ⟨by simp;exact fun h=>(by have:=hb.2 h;cases this),B1.below mW,nH.kj mW⟩
  rintro b w2 ⟨Dm,B2,nQ⟩;cases b with
  | true=>
   apply G _;exact J (lk.no (fun h=>(Dm.1 rfl).2 ((lL.1 h).2.2.2.2 (Dm.1 rfl).1)) nQ)
  | false=>
   have tp:=fun h=>gX fun h2=>by have:=Dm.2 ⟨h,h2⟩;cases this
   apply G _;refine WC.drawn 25 (fun wx=>lT 76 g wx e dc) fun w3 hd=>?_;have hS:=B2.below (hd.below _);have pE:=nQ.trans ((hd.below w2.heap.size).mono nQ.size)
   by_cases c1:1<=e.table/\e.table<=64
   rotate_left
   ·apply jC [0,1,2,3,4,5,6,7,8,9,10,11,12,13,14,15,16,17,18,19,20,21,22,23,24] hS _
    apply jS 25;apply WL.off rfl rfl rfl;apply(jZ)
    (apply ke 26 rfl _)
    apply jS 27;apply(jN);apply(jZ);apply(jD);apply G _;exact J (lk.no (fun h=>c1 (lL.1 h).1) pE)
   by_cases c2:1<=e.doc/\e.doc<=65536
   rotate_left
   ·apply jC [0,1,2,3,4,5,6,7,8,9,10,11,12,13,14,15,16,17,18,19,20,21,22,23,24] hS _
    apply jS 25;apply WL.off rfl rfl rfl;apply(jZ)
    (apply ke 26 rfl _)
    apply jS 27;apply(jN);apply(jZ);apply(jD);apply G _;exact J (lk.no (fun h=>c2 (lL.1 h).2.1) pE)
   apply jC [0,1,2,3,4,5] hS _;apply jz 6 (mw 7 27) (fun wx hx=>hx.kA) hS;apply jS 7;apply(jX);apply kH fC (r8 _ _ _ _);rintro w3 rfl
   apply lI hS
   by_cases c3:0<=e.kA/\e.kA<=2147483648
   rotate_left
   ·apply jC [8,9,10,11,12,13,14,15,16,17,18,19,20,21,22,23,24] hS _
    apply jS 25;apply WL.off rfl rfl rfl;apply(jZ)
    (apply ke 26 rfl _)
    apply jS 27;apply(jN);apply(jZ);apply(jD);apply G _;exact J (lk.no (fun h=>c3 (lL.1 h).2.2.1) pE)
   apply jC [8,9] hS _;apply kG 10 [11,25,26,27] (fun wx hx=>U.rangeAt hx.blk) B2.len hS;apply jC [12] hS _;apply jz 13 [24,25,26,27] (fun wx hx=>hx.kind) hS;apply jC [14] hS _;apply jz 15 [24,25,26,27] (fun wx hx=>hx.table) hS;apply jC [16] hS _;apply jz 17 [24,25,26,27] (fun wx hx=>hx.doc) hS;apply jC [18] hS _;apply jz 19 [24,25,26,27] (fun wx hx=>hx.kA) hS;apply jC [20] hS _;apply amv 21 [24,25,26,27] rfl rfl rfl rfl rfl rfl rfl (fun wx hx=>hx.hash) (by rw[aB];exact hh) hS;apply jC [22] hS _;apply jz 23 [24,25,26,27] (fun wx hx=>hx.gone) hS;apply WD.build (km ⟨e.kind,kZ,e.table,e.doc,e.kA,zV,e.hash,e.gone,0,0⟩ jK) 24 rfl jG rfl rfl (fun _ _ _ _ _ h=>h) rfl rfl rfl (aiV _ _ _ _ hh _) (.inr hS);apply jS 11;apply(jX);apply kH func155 (Ze lM hh);rintro w4 pA
   have qq:=pE.kj pA;refine WL.nil (WQ.dk (.inr (hS.below pA)) ?_);apply jS 25;apply(jX);apply jx func153 (uN (Gi (e:={ e with data:=zV }) rfl hh tZ um ⟨hk,zf,zn,AP,uP,HD⟩) (Gi (e:=⟨e.kind,kZ,e.table,e.doc,e.kA,zV,e.hash,e.gone,0,0⟩) rfl hh tZ hnt ⟨hk,zf,zn,AP,po,po⟩));rintro _ w5 ⟨⟨b,rfl,hb⟩,oM⟩;refine⟨_,rfl,?_⟩;apply(jZ)
   (apply ke 26 rfl _)
   apply jS 27;apply(jN);apply(jZ);apply(jD);apply G _;exact J (lk.of (qq.kj oM) (hb.trans (aj2 e)) (lL.trans ⟨fun h=>h.2.2.2.1,fun h=>⟨c1,c2,c3,h,tp⟩⟩))
 by_cases k3:e.kind=3
 ·have lL:lQ e ↔ (1<=e.table/\e.table<=64)/\(1<=e.doc/\e.doc<=65536)/\(1<=e.kA/\e.kA<=2147483648)/\oY { e with table:=0,doc:=0,kA:=0 }:=by unfold lQ;rw[aa k1,aa k2,ag k3]
  by_cases c1:1<=e.table/\e.table<=64
  rotate_left
  ·apply G _
   exact J (lk.no (fun h=>c1 (lL.1 h).1) nH)
  by_cases c2:1<=e.doc/\e.doc<=65536
  rotate_left
  ·apply G _
   exact J (lk.no (fun h=>c2 (lL.1 h).2.1) nH)
  apply G _;apply Y B1.kA;apply(jX);apply kH fC (r8 _ _ _ _);rintro w1 rfl
  by_cases c3:1<=e.kA/\e.kA<=2147483648
  rotate_left
  ·apply G _
   exact J (lk.no (fun h=>c3 (lL.1 h).2.2.1) nH)
  apply G _;apply jy (U.rangeAt B1.blk) B1.len;apply G _;apply Y B1.kind;apply G _;apply Y B1.table;apply G _;apply Y B1.doc;apply G _;apply Y B1.kA;apply(jX);apply jR (km ⟨e.kind,kZ,e.table,e.doc,e.kA,zV,Dig.nA,false,0,0⟩ jK) jG;apply(jX);apply jx func153 (uN (xM.below nH lO) (Gi (e:=⟨e.kind,kZ,e.table,e.doc,e.kA,zV,Dig.nA,false,0,0⟩) rfl Lf SD (by first|exact um|exact hnt) ⟨hk,by first|exact zf|exact po,by first|exact zn|exact po,by first|exact AP|exact po,by first|exact uP|exact po,by first|exact HD|exact po⟩));rintro _ w5 ⟨⟨b,rfl,hb⟩,oM⟩;refine⟨_,rfl,?_⟩;apply G _;exact J (lk.of (nH.kj oM) (hb.trans (aiy e)) (lL.trans ⟨fun h=>h.2.2.2,fun h=>⟨c1,c2,c3,h⟩⟩))
 by_cases k4:e.kind=4
 ·have lL:lQ e ↔ (0<=e.ab/\e.ab<=2147483648)/\(0<=e.ae/\e.ae<=2147483648)/\oY { e with ab:=0,ae:=0 }:=by unfold lQ;rw[aa k1,aa k2,aa k3,ag k4]
  apply G _;apply Y B1.ab;apply kH fC (r8 _ _ _ _);rintro w1 rfl
  by_cases c1:0<=e.ab/\e.ab<=2147483648
  rotate_left
  ·apply G _
   exact J (lk.no (fun h=>c1 (lL.1 h).1) nH)
  apply G _;apply Y B1.ae;apply(jX);apply kH fC (r8 _ _ _ _);rintro w1 rfl
  by_cases c2:0<=e.ae/\e.ae<=2147483648
  rotate_left
  ·apply G _
   exact J (lk.no (fun h=>c2 (lL.1 h).2.1) nH)
  apply G _;apply jy (U.rangeAt B1.blk) B1.len;apply G _;apply Y B1.kind;apply G _;apply jy B1.BA rfl;apply(jX);apply jR (km ⟨e.kind,kZ,0,0,0,zV,Dig.nA,false,e.ab,e.ae⟩ jK) jG;apply(jX);apply jx func153 (uN (xM.below nH lO) (Gi (e:=⟨e.kind,kZ,0,0,0,zV,Dig.nA,false,e.ab,e.ae⟩) rfl Lf SD (by first|exact um|exact hnt) ⟨hk,by first|exact zf|exact po,by first|exact zn|exact po,by first|exact AP|exact po,by first|exact uP|exact po,by first|exact HD|exact po⟩));rintro _ w5 ⟨⟨b,rfl,hb⟩,oM⟩;refine⟨_,rfl,?_⟩;apply G _;exact J (lk.of (nH.kj oM) (hb.trans (aiE e)) (lL.trans ⟨fun h=>h.2.2,fun h=>⟨c1,c2,h⟩⟩))
 by_cases SJ:e.kind=5\/e.kind=7
 ·have lL:lQ e ↔ (1<=e.table/\e.table<=64)/\1<=e.text.size/\e.text.size<=40/\oY { e with table:=0,text:=kZ }:=by unfold lQ;rw[aa k1,aa k2,aa k3,aa k4,ag SJ]
  rcases SJ with k5|k7
  all_goals
   by_cases c1:1<=e.table/\e.table<=64
   rotate_left
   ·apply G _
    exact J (lk.no (fun h=>c1 (lL.1 h).1) nH)
   by_cases c2:(1:Int)<=(e.text.size:Int)/\(e.text.size:Int)<=40
   rotate_left
   ·apply G _
    exact J (lk.no (fun h=>c2 (by have:=(lL.1 h).2;omega)) nH)
   apply G _;apply jy (U.rangeAt B1.blk) B1.len;apply G _;apply Y B1.kind;apply G _;apply Y B1.table;apply G _;apply Y B1.text;apply(jX);apply jR (km ⟨e.kind,e.text,e.table,0,0,zV,Dig.nA,false,0,0⟩ jK) jG;apply(jX);apply jx func153 (uN (xM.below nH lO) (Gi (e:=⟨e.kind,e.text,e.table,0,0,zV,Dig.nA,false,0,0⟩) rfl Lf SD (by first|exact um|exact hnt) ⟨hk,by first|exact zf|exact po,by first|exact zn|exact po,by first|exact AP|exact po,by first|exact uP|exact po,by first|exact HD|exact po⟩));rintro _ w5 ⟨⟨b,rfl,hb⟩,oM⟩;refine⟨_,rfl,?_⟩;apply G _;exact J (lk.of (nH.kj oM) (hb.trans (aki e)) (lL.trans ⟨fun h=>h.2.2.2,fun h=>⟨c1,I,I,h⟩⟩))
 by_cases k6:e.kind=6
 ·have lL:lQ e ↔ (1<=e.table/\e.table<=64)/\oY { e with table:=0 }:=by unfold lQ;rw[aa k1,aa k2,aa k3,aa k4,aa SJ,ag k6]
  by_cases c1:1<=e.table/\e.table<=64
  rotate_left
  ·apply G _
   exact J (lk.no (fun h=>c1 (lL.1 h).1) nH)
  apply G _;apply jy (U.rangeAt B1.blk) B1.len;apply G _;apply Y B1.kind;apply G _;apply Y B1.table;apply(jX);apply jR (km ⟨e.kind,kZ,e.table,0,0,zV,Dig.nA,false,0,0⟩ jK) jG;apply(jX);apply jx func153 (uN (xM.below nH lO) (Gi (e:=⟨e.kind,kZ,e.table,0,0,zV,Dig.nA,false,0,0⟩) rfl Lf SD (by first|exact um|exact hnt) ⟨hk,by first|exact zf|exact po,by first|exact zn|exact po,by first|exact AP|exact po,by first|exact uP|exact po,by first|exact HD|exact po⟩));rintro _ w5 ⟨⟨b,rfl,hb⟩,oM⟩;refine⟨_,rfl,?_⟩;apply G _;exact J (lk.of (nH.kj oM) (hb.trans (aiw e)) (lL.trans ⟨fun h=>h.2,fun h=>⟨c1,h⟩⟩))
 have lL:¬lQ e:=by unfold lQ;rw[aa k1,aa k2,aa k3,aa k4,aa SJ,aa k6];exact id
 apply G _;exact J (lk.no lL nH)
theorem oB (u:Nat)(hu:u<18446744073709551616)(w:World):
  Calls prog 137 #[.int .u64 u] w fun e w'=>∃b,e=.returned b/\Bu w' b (lK u)/\jP w w'/\∀g,b.ownBlock=some g->w.heap.size<=g:=by
 apply kq gq ntmps137;have h1:u<2*128 ^ 9:=I;have h2:lK u=[]++uvF (9+1) u:=by rw[aT];rfl
 apply G _;refine WC.loop (fun i:Nat×Nat×oK×Value=>[(0,.int .u64 i.2.1),(3,i.2.2.2)])
  (fun i w'=>i.2.1<2*128 ^ i.1/\i.1<=9/\lK u=i.2.2.1++uvF (i.1+1) i.2.1/\i.2.2.1.length<=9/\Bu w' i.2.2.2 i.2.2.1/\kX w (kP) w' i.2.2.2) (fun i=>i.1) (9,u,[],kP) kz ⟨h1,aj 9,h2,ay 9,Bu.nil w,kX.refl _ _⟩ ?_
 rintro⟨f,c,A,v⟩ wr ⟨hc,hf,hA,hl,hb,hg⟩;simp only at hc hf hA hl hb hg ⊢;have hle:(128:Nat) ^ f<=128 ^ 9:=du lZ hf
 by_cases h:c<128
 ·have hw:IntKind.u8.wrap (c:Int)=(c:Int):=by rw[bL];omega
  have pY:uvF (f+1) c=[(c:Int)]:=by rw[uvF,ag h]
  apply G _;refine WL.push rfl rfl rfl rfl rfl rfl rfl rfl rfl rfl rfl (fun _=>rfl) rfl hb (by simp only[ak,aL];omega) fun b2 w2 kK nK=>?_;apply G _;have oS:=hg.trans nK;refine J ⟨b2,rfl,?_,oS.old (aj _) (fun g h=>by cases h),oS.own (aj _) (fun g h=>by cases h)⟩;rw[hw]at kK;rw[hA,pY];exact kK
 ·obtain⟨f,rfl⟩:∃f',f=f'+1:=⟨f - 1,by
   cases f with
   | zero=>simp at hc;omega
   | succ f=>rfl⟩
  have ua:uvF (f+1+1) c=((c % 128+128:Nat):Int)::uvF (f+1) (c / 128):=Wi I;have hw:bits .or .u8 (IntKind.u8.wrap (bits .and .u64 (c:Int) 127)) 128=((c % 128+128:Nat):Int):=by
   have:=agd (c % 128) I;rw[aiC c I,show IntKind.u8.wrap ((c % 128:Nat):Int)=((c % 128:Nat):Int) by rw[bL];omega,this];omega
  apply G _;refine WL.push rfl rfl rfl rfl rfl rfl rfl rfl rfl rfl rfl (fun _=>rfl) rfl hb (by simp only[ak,aL];omega) fun b2 w2 kK nK=>?_;rw[hw]at kK;apply G _;refine WQ.again (f,c / 128,A++[((c % 128+128:Nat):Int)],b2) ⟨congrArg (fun z=>some (Value.int .u64 z)) (akM c),rfl,trivial⟩
   ⟨by rw[dx]at hc;show c / 128<2*128 ^ f;omega,by show f<=9;omega,by show lK u=A++[((c % 128+128:Nat):Int)]++uvF (f+1) (c / 128);rw[hA,ua];simp,?_,kK,hg.trans nK⟩ (by show f<f+1;omega)
  show(A++[((c % 128+128:Nat):Int)]).length<=9
  have:=congrArg List.length hA;rw[af,ua,ak]at this;have Cy:(lK u).length<=10:=sQ 10 u;have h1:1<=(uvF (f+1) (c / 128)).length:=by unfold uvF;split<;>simp
  rw[af];simp only[ak,aL];omega
theorem Qv (v:Int)(h:-9223372036854775808<=v/\v<=9223372036854775807)(w:World): Calls prog 161 #[Iq v] w fun e w'=>e=.returned (.int .u64 (xt v:Nat))/\w'=w:=by
 apply kq func161 ntmps161;apply G _
 by_cases hv:0<=v
 ·apply WC.sE rfl hv
  have e:IntKind.u64.wrap (2*IntKind.u64.wrap v)=(xt v:Nat):=by unfold xt;rw[ag hv,aS,aS];omega
  apply G _;exact J ⟨congrArg (fun z=>Ending.returned (Value.int .u64 z)) e,rfl⟩
 ·apply WC.q_ rfl hv
  have e:IntKind.u64.wrap (IntKind.u64.wrap (2*IntKind.u64.wrap (IntKind.i64.wrap (0 - (v+1))))+1)=(xt v:Nat):=by unfold xt;rw[aa hv];simp only[aS,dG];omega
  apply mA _;apply(jN);apply WL.zI (Iq (v+1)) rfl rfl rfl rfl (congrArg (Value.int .i64) (bN _ I));apply(jN);apply(jN);apply(jN);apply(jN);apply(jN);apply mA _;exact J ⟨congrArg (fun z=>Ending.returned (Value.int .u64 z)) e,rfl⟩
theorem Og {b:Value}{s:lD}(hb:Bu w b l)(hm:l.length+10+s.size<=70368744178000):
  Calls prog 162 #[b,.string s] w fun e w'=>∃b',e=.returned b'/\Bu w' b' (l++(lK s.size++yI s))/\kX w b w' b':=by
 apply kq func162 ntmps162;have e8:IntKind.u64.wrap (s.size:Int)=((s.size:Nat):Int):=by rw[aS];omega
 have SK:(lK s.size).length<=10:=sQ 10 _;apply G _;apply WL.call rfl rfl rfl rfl rfl gq rfl jG (by rw[e8];exact oB s.size I w);rintro _ w2 ⟨b2,rfl,kK,mW,-⟩;refine⟨_,rfl,?_⟩;refine kW (hb.below mW) kK.sl fun b3 w3 lC oS=>?_;apply G _;refine WL.TP rfl rfl rfl rfl rfl lC rfl (by rw[af];omega) fun b4 w4 nk qF=>?_;apply G _;exact J ⟨b4,rfl,by rw[<-av];exact nk,(((kX.refl w b).below mW).trans oS).trans qF⟩
end K
end Go.Proofs.YtlenklobbngopaaGreat
