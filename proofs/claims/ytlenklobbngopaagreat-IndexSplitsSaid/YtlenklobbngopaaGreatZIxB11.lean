/- Texts for IxB, part 11 of 11. -/
import Derived.Test.YtlenklobbngopaaGreatZIxB10
set_option maxHeartbeats 64000000
set_option maxRecDepth 100000
set_option linter.all false
namespace Go.Proofs.YtlenklobbngopaaGreat
open _root_.Go.Proofs.Tryz
open Go.ChangeShapes Go.WideShapes Go.ChangeAt Go.RowKit
variable {α:Type}{m fuel f f' i rb N b o B pb vb sb mb g:Nat}{O E E' M D S M' D':Nat -> Prop}{w w':World}{l:List α}{cs bc cu:List Value}{u:V}
namespace Vw
open K
theorem lA.P {z:α}{P P':α -> List Value -> Prop}{v:Value}(h:lA m z P O w v l) (hP:∀x cs,P x cs -> P' x cs): lA m z P' O w v l:=lA.mono h (fun _ h=>h) hP
theorem jE.more: ∀ {f f':Nat}{v:V}{cs:List Value},f <= f' -> jE O f w v cs -> jE O f' w v cs
 | 0,_,_,_,_,h=>h.elim
 | f+1,f',v,cs,hf,h=>by
  obtain⟨g,rfl⟩:∃g,f'=g+1:=⟨f' - 1,gZ⟩;obtain⟨sn,sk,h1,h2,h3,h4,h5,h6,h7⟩:=h;exact⟨sn,sk,h1,h2,h3,h4,h5,h6,lA.P h7 fun _ _ hp=>jE.more gZ hp⟩
section
variable {H:Type}{enc:TypeId × Value -> H}{W:World}{base:Nat}{held:Bool}
theorem BQ {t e:TypeId}{v:Value}{x:DataW H × List MemPlace}(m:Nat) (ZQ:0<m) (hu:prog.underlying t=some (.slice e)) (yD:prog.cellsOf e=m) (h:DataW.trod enc prog W base (fun _=>true) held fuel t [v]=some x) (hz:nW prog t x.1) (z:α) (P:Nat -> α -> List Value -> Prop) (key:∀n,n<fuel -> ∀ {cs:List Value}{y:DataW H × List MemPlace},cs.length=m -> DataW.trod enc prog W base (fun _=>true) held n e cs=some y -> nW prog e y.1 -> ∃a,P n a cs):
  ∃l n,n<fuel /\ lA m z (P n) (fun b=>b<W.heap.size) W v l /\ l.length*prog.bytesOf e <= reachBytes:=by
 obtain⟨sp,len,cap,rfl,hl,hc,n,elems,rest,hn,hx,hlen,kU⟩:=FH m ZQ hu yD h;have Wr:∀i,i<len -> ∃(y:α),∃b o cs,sp=some ⟨b,o,none⟩ /\ b<W.heap.size /\ cs.length=m /\ P n y cs /\ W.rangeAt b (o+i*m) cs:=by
  intro i hi;obtain⟨b,o,cs,y,pX,hb,mg,j6,hy,ht⟩:=kU i hi;have hw:nW prog e y.1:=by
   rcases hx with hx|⟨-,rfl⟩
   ·rw[hx] at hz
    exact(hz.slice hu).2 _ (bg.2 ⟨_,dh hy,rfl⟩)
   ·cases hy
  obtain⟨a,ha⟩:=key n hn mg ht hw;exact⟨a,b,o,cs,pX,hb,mg,ha,j6⟩
 have:Inhabited α:=⟨z⟩;obtain⟨g,hg⟩:=eP Wr;have qM:∀k,k<len -> ((List.range len).map g).getD k z=g k:=fun k hk=>by simp[hk]
 have vW:((List.range len).map g).length=len:=iz;refine⟨(List.range len).map g,n,hn,⟨sp,cap,by rw[vW],by rw[vW];exact hl,hc,fun h0=>?_,fun h0=>?_⟩,?_⟩
 ·subst h0
  rcases DataW.trod_slice hu h with⟨hcs,-⟩|⟨a,awd,oc,ar5,aur,n',-,hcs,-⟩
  ·injection hcs with hcs
   injection hcs
  ·injection hcs with hcs
   injection hcs with h1
   cases h1
 ·rw[vW] at h0
  obtain⟨b,o,-,pX,hb,-⟩:=hg 0 h0;refine⟨b,o,pX,hb,hb,fun j hj=>?_⟩;rw[vW] at hj;obtain⟨b2,o2,cs,G5,-,mg,hv,j6⟩:=hg j hj;rw[pX] at G5;cases G5
  rw[qM j hj];exact⟨cs,mg,hv,j6⟩
 ·rw[vW]
  rcases hx with hx|⟨-,rfl⟩
  ·rw[hx] at hz
   have:=(hz.slice hu).1;rw[av,hlen] at this;exact aU (cQ _ (Nat.le_add_right _ _)) this
  ·simp at hlen;subst hlen;simp
theorem adF {z:α}{P:α -> List Value -> Prop}{v:Value}(h:lA m z P O w v l): ∀x∈l,∃cs,P x cs:=by
 intro x hx;obtain⟨sp,cap,-,-,-,-,h4⟩:=h;obtain⟨j,hj,rfl⟩:=bn hx;obtain⟨b,o,-,-,-,hr⟩:=h4 gZ;obtain⟨cs,-,hp,-⟩:=hr j hj;exact⟨cs,by simpa[hj] using hp⟩
theorem PN {v:Value}{x:DataW H × List MemPlace}(h:DataW.trod enc prog W base (fun _=>true) held fuel 22 [v]=some x) (hz:nW prog 22 x.1):
  ∃l,lA 1 jz EM (fun b=>b<W.heap.size) W v l /\ l.length <= 140737488355328:=by
 obtain⟨l,n,-,h1,h2⟩:=BQ 1 gZ underlying22 Bz h hz jz (fun _ s cs=>EM s cs) fun n _ cs y mg ht hw=>by
  obtain⟨s,rfl,hs,-⟩:=DataW.trod_string underlying9 ht;rw[hs] at hw;have:=nW.string hw;rw[bI] at this;exact⟨s,rfl,o6 this⟩
 rw[Xs] at h2;exact⟨l,h1,o6 gZ⟩
theorem Jn: ∀(fuel:Nat) {cs:List Value}{x:DataW H × List MemPlace},DataW.trod enc prog W base (fun _=>true) held fuel 25 cs=some x -> nW prog 25 x.1 -> ∃v,jE (fun b=>b<W.heap.size) fuel W v cs /\ o_ fuel v:=by
 intro fuel
 induction fuel using Nat.strongRecOn with
 | _ fuel ih=>
  intro cs x h hz;obtain⟨xs,n,rfl,rfl,hl,Hf,hx⟩:=DataW.trod_struct underlying25 h;have Wv:xs.length=6:=Hf;rw[zx] at hl;have e:∀i,i<6 -> ∃y,xs[i]? = some y:=fun i hi=>⟨xs[i],ah gZ⟩;obtain⟨x0,e0⟩:=e 0 gZ;obtain⟨x1,e1⟩:=e 1 gZ;obtain⟨x2,e2⟩:=e 2 gZ;obtain⟨x3,e3⟩:=e 3 gZ;obtain⟨x4,e4⟩:=e 4 gZ;obtain⟨x5,e5⟩:=e 5 gZ;have h0:=hx 0 _ rfl;have h1:=hx 1 _ rfl;have h2:=hx 2 _ rfl;have h3:=hx 3 _ rfl;have h4:=hx 4 _ rfl;have h5:=hx 5 _ rfl;rw[e0] at h0;rw[e1] at h1;rw[e2] at h2;rw[e3] at h3;rw[e4] at h4;rw[e5] at h5;have z:∀ {i:Nat}{f:Field}{y:DataW H × List MemPlace},_ -> xs[i]? = some y -> nW prog f.type y.1:=fun {i f y} hf hy=>nW.agg underlying25 hz (i:=i) (f:=f) hf (by rw[cD,hy];rfl);have z3:nW prog 9 x3.1:=z (i:=3) rfl e3;have z4:nW prog 22 x4.1:=z (i:=4) rfl e4;have z5:nW prog 23 x5.1:=z (i:=5) rfl e5;obtain⟨a,ha,-,wa⟩:=DataW.trod_int underlying3 h0;obtain⟨b,hb,-,wb⟩:=DataW.trod_int underlying3 h1;obtain⟨c,hc,-,wc⟩:=DataW.trod_int underlying3 h2;obtain⟨s,hs,B7,-⟩:=DataW.trod_string underlying9 h3;have t0:cs[0]? = some (Iq a):=oF (by rw[<- oP];exact ha);have t1:cs[1]? = some (Iq b):=oF (by rw[<- oP];exact hb);have t2:cs[2]? = some (Iq c):=oF (by rw[<- oP];exact hc);have t3:cs[3]? = some (.string s):=oF (by rw[<- Bz];exact hs)
  match cs,hl with
  | [c0,c1,c2,c3,c4,c5],_=>
   simp at t0 t1 t2 t3
   subst t0;subst t1;subst t2;subst t3;have YQ:DataW.trod enc prog W base (fun _=>true) held n 22 [c4]=some x4:=h4;have NU:DataW.trod enc prog W base (fun _=>true) held n 23 [c5]=some x5:=h5;obtain⟨names,m4,Rr⟩:=PN YQ z4;obtain⟨kids,k,hk,wQ,tc⟩:=BQ 6 gZ underlying23 zx NU z5 lH (fun n v cs=>jE (fun b=>b<W.heap.size) n W v cs /\ o_ n v) fun q hq cs y _ h1 h2=>ih q gZ h1 h2;rw[B7] at z3;have j5:=z3.string;rw[bI] at j5;rw[WU] at tc;refine⟨.mk a b c s names kids,⟨c4,c5,rfl,wa,wb,wc,o6 j5,m4,lA.P wQ fun _ _ hp=>jE.more gZ hp.1⟩,Rr,(by show kids.length <= 140737488355328;exact o6 gZ),fun y hy=>?_⟩;obtain⟨cs,-,hp⟩:=adF wQ y hy;exact o_.mono gZ hp
end
end Vw
namespace Vw
open K
def zU:Ac:=⟨0,0,0,0,zV,jz,jo⟩
def Kf (E:Nat -> Prop) (f:Nat) (w:World) (x:Ac) (cs:List Value):Prop:=LZ E f w x cs /\ o_ f x.data /\ o_ f x.e.data
theorem LZ.more {x:Ac}(hf:f <= f') (h:LZ E f w x cs): LZ E f' w x cs:=by
 obtain⟨dc,ec,h1,h2,h3,h4⟩:=h;exact⟨dc,ec,h1,jE.more hf h2,nN.mono (fun _ _ h=>jE.more hf h) h3,h4⟩
theorem Kf.more {x:Ac}(hf:f <= f') (h:Kf E f w x cs): Kf E f' w x cs:=⟨h.1.more hf,o_.mono hf h.2.1,o_.mono hf h.2.2⟩
theorem LZ.ij {x:Ac}(h:LZ E f w x cs) {K:Nat -> Prop}(hk:ib K w w') (hK:∀b,E b -> b<w.heap.size -> K b) (hE:∀b,E b -> E' b): LZ E' f w' x cs:=by
 obtain⟨dc,ec,h1,h2,h3,h4⟩:=h;exact⟨dc,ec,h1,h2.ij hk hK hE,nN.mono (fun _ _ h=>h.ij hk hK hE) h3,h4⟩
theorem Kf.ij {x:Ac}(h:Kf E f w x cs) {K:Nat -> Prop}(hk:ib K w w') (hK:∀b,E b -> b<w.heap.size -> K b) (hE:∀b,E b -> E' b): Kf E' f w' x cs:=⟨h.1.ij hk hK hE,h.2⟩
def ou (E:Nat -> Prop) (f:Nat) (w:World) (v:Value) (L:List Ac):Prop:=lA 57 zU (Kf E f w) E w v L
theorem ou.more {v:Value}{L:List Ac}(hf:f <= f') (h:ou E f w v L): ou E f' w v L:=lA.P h fun _ _ hp=>hp.more hf
theorem ou.ij {v:Value}{L:List Ac}(h:ou E f w v L) {K:Nat -> Prop}(hk:ib K w w') (hK:∀b,E b -> b<w.heap.size -> K b) (hE:∀b,E b -> E' b): ou E' f w' v L:=Go.Proofs.YtlenklobbngopaaGreat.K.lA.ij h hk hK hE fun _ _ hp=>hp.ij hk hK hE
theorem ou.below {v:Value}{L:List Ac}(h:ou E f w v L) (hb:iB w w'): ou E f w' v L:=h.ij (ib.ic hb) (fun _ _ hl=>hl) fun _ h=>h
def ah3 (E:Nat -> Prop) (f:Nat) (w:World) (L:List Ac) (cs:List Value):Prop:=∃v,cs=[v] /\ ou E f w v L
def oW (E:Nat -> Prop) (f:Nat) (w:World) (v:Value) (LL:List (List Ac)):Prop:=lA 1 [] (ah3 E f w) E w v LL
theorem oW.more {v:Value}{LL:List (List Ac)}(hf:f <= f') (h:oW E f w v LL): oW E f' w v LL:=lA.P h fun _ _ ⟨u,hu,hp⟩=>⟨u,hu,hp.more hf⟩
theorem oW.ij {v:Value}{LL:List (List Ac)}(h:oW E f w v LL) {K:Nat -> Prop}(hk:ib K w w') (hK:∀b,E b -> b<w.heap.size -> K b) (hE:∀b,E b -> E' b): oW E' f w' v LL:=Go.Proofs.YtlenklobbngopaaGreat.K.lA.ij h hk hK hE fun _ _ ⟨u,hu,hp⟩=>⟨u,hu,hp.ij hk hK hE⟩
theorem oW.below {v:Value}{LL:List (List Ac)}(h:oW E f w v LL) (hb:iB w w'): oW E f w' v LL:=h.ij (ib.ic hb) (fun _ _ hl=>hl) fun _ h=>h
section
variable {H:Type}{enc:TypeId × Value -> H}{W:World}{base:Nat}{held:Bool}
theorem X_ {x:DataW H × List MemPlace}(h:DataW.trod enc prog W base (fun _=>true) held fuel 76 cs=some x) (hz:nW prog 76 x.1):
  ∃e,Ip (fun b=>b<W.heap.size) fuel W e cs /\ o_ fuel e.data:=by
 obtain⟨e,he,hs⟩:=aaI h hz;obtain⟨xs,n,rfl,rfl,hl,Hf,hx⟩:=DataW.trod_struct underlying76 h;have Wv:xs.length=9:=Hf;obtain⟨x5,e5⟩:∃y,xs[5]? = some y:=⟨xs[5],ah gZ⟩;have h5:=hx 5 _ rfl;rw[e5] at h5;have z5:nW prog 25 x5.1:=nW.agg underlying76 hz (i:=5) rfl (by rw[cD,e5];rfl);have NU:DataW.trod enc prog W base (fun _=>true) held n 25 ((cs.drop 5).take (prog.cellsOf 25))=some x5:=h5;rw[zx] at NU;obtain⟨v,hv,hvs⟩:=Jn n NU z5;obtain⟨dc,rfl,-,j7,h1,h2⟩:=he;have hd:((iU e dc).drop 5).take 6=dc:=by
  show(dc++_).take 6=dc
  rw[bP gZ,bC gZ]
 rw[hd] at hv;refine⟨{ e with data:=v },⟨dc,rfl,jE.more gZ hv,j7,h1,h2⟩,o_.mono gZ hvs⟩
theorem ami (cs:List α): cs=cs.take 4++((cs.drop 4).take 6++((cs.drop 10).take 1++(cs.drop 11))):=by
 have h1:cs.drop 11=(cs.drop 10).drop 1:=by rw[dR]
 have h2:cs.drop 10=(cs.drop 4).drop 6:=by rw[dR]
 rw[h1,aL,h2,aL,aL]
theorem aco {x:DataW H × List MemPlace}(h:DataW.trod enc prog W base (fun _=>true) held fuel HS cs=some x) (hz:nW prog HS x.1):
  ∃a,Kf (fun b=>b<W.heap.size) fuel W a cs:=by
 obtain⟨xs,n,rfl,rfl,hl,Hf,hx⟩:=DataW.trod_struct underlying114 h;have Wv:xs.length=7:=Hf;have mg:cs.length=57:=hl.trans (by kernel_rfl);have e:∀i,i<7 -> ∃y,xs[i]? = some y:=fun i hi=>⟨xs[i],ah gZ⟩;obtain⟨x0,e0⟩:=e 0 gZ;obtain⟨x1,e1⟩:=e 1 gZ;obtain⟨x2,e2⟩:=e 2 gZ;obtain⟨x3,e3⟩:=e 3 gZ;obtain⟨x4,e4⟩:=e 4 gZ;obtain⟨x5,e5⟩:=e 5 gZ;obtain⟨x6,e6⟩:=e 6 gZ;have h0:=hx 0 _ rfl;have h1:=hx 1 _ rfl;have h2:=hx 2 _ rfl;have h3:=hx 3 _ rfl;have h4:=hx 4 _ rfl;have h5:=hx 5 _ rfl;have h6:=hx 6 _ rfl;rw[e0] at h0;rw[e1] at h1;rw[e2] at h2;rw[e3] at h3;rw[e4] at h4;rw[e5] at h5;rw[e6] at h6;have z:∀ {i:Nat}{f:Field}{y:DataW H × List MemPlace},_ -> xs[i]? = some y -> nW prog f.type y.1:=fun {i f y} hf hy=>nW.agg underlying114 hz (i:=i) (f:=f) hf (by rw[cD,hy];rfl);have z4:nW prog 25 x4.1:=z (i:=4) rfl e4;have z5:nW prog 9 x5.1:=z (i:=5) rfl e5;have z6:nW prog 76 x6.1:=z (i:=6) rfl e6;obtain⟨a,ha,-,wa⟩:=DataW.trod_int underlying3 h0;obtain⟨b,hb,-,wb⟩:=DataW.trod_int underlying3 h1;obtain⟨c,hc,-,wc⟩:=DataW.trod_int underlying3 h2;obtain⟨d,hd,-,wd⟩:=DataW.trod_int underlying3 h3;have YQ:DataW.trod enc prog W base (fun _=>true) held n 25 ((cs.drop 4).take (prog.cellsOf 25))=some x4:=h4;rw[zx] at YQ;obtain⟨v,hv,hvs⟩:=Jn n YQ z4;obtain⟨s,hs,B7,-⟩:=DataW.trod_string underlying9 h5;have h6':DataW.trod enc prog W base (fun _=>true) held n 76 ((cs.drop 11).take (prog.cellsOf 76))=some x6:=h6;rw[agu,bC (by simp[mg])] at h6';obtain⟨en,Ya,arb⟩:=X_ h6' z6;have t0:cs[0]? = some (Iq a):=oF (by rw[<- oP];exact ha);have t1:cs[1]? = some (Iq b):=oF (by rw[<- oP];exact hb);have t2:cs[2]? = some (Iq c):=oF (by rw[<- oP];exact hc);have t3:cs[3]? = some (Iq d):=oF (by rw[<- oP];exact hd);have t10:(cs.drop 10).take 1=[.string s]:=by rw[<- Bz];exact hs
 rw[B7] at z5;have j5:=nW.string z5;rw[bI] at j5;have VF:cs.take 4=[Iq a,Iq b,Iq c,Iq d]:=by
  refine eU fun i=>?_
  match i with
  | 0=>simpa using t0
  | 1=>simpa using t1
  | 2=>simpa using t2
  | 3=>simpa using t3
  | i+4=>rw[aG (by simp;omega),aG iz]
 refine⟨⟨a,b,c,d,v,s,en⟩,⟨(cs.drop 4).take 6,cs.drop 11,?_,jE.more gZ hv,nN.mono (fun _ _ h=>jE.more gZ h) Ya,⟨oI wa,oI wb,oI wc,oI wd,o6 j5⟩⟩,o_.mono gZ hvs,o_.mono gZ arb⟩;have:=ami cs;rw[VF,t10] at this;exact this.trans rfl
theorem acw: prog.cellsOf HS=57:=by kernel_rfl
theorem ZD: prog.cellsOf 49=1:=by kernel_rfl
theorem Qq {b0:Nat}{r:Reach}{v:Value}{d:DataW H}{p:List MemPlace}(xd:Value.okWide prog W r b0 43 v) (h:DataW.Trod enc prog W base (fun _=>true) held 43 v d p):
  (∀n∈d.weights prog 43,n <= reachBytes) -> ∃f LL,oW (fun b=>b<W.heap.size) (f+1) W v LL /\ LL.length <= 140737488355328:=by
 intro hz;obtain⟨a,len,cap,rfl⟩:=okWide_slice underlying43 xd;obtain⟨fuel,hf⟩:=h;obtain⟨LL,n,-,h1,h2⟩:=BQ (v:=.slice a len cap) 1 gZ underlying43 ZD hf hz [] (fun n=>ah3 (fun b=>b<W.heap.size) (n+1) W) fun n _ cs y mg ht hw=>by
  obtain⟨u,rfl⟩:∃u,cs=[u]:=by
   match cs,mg with
   | [u],_=>exact⟨u,rfl⟩
  obtain⟨L,k,hk,hL,-⟩:=BQ 57 gZ underlying49 acw ht hw zU (fun n=>Kf (fun b=>b<W.heap.size) n W) fun n _ cs y _ ht hw=>aco ht hw;exact⟨L,u,rfl,lA.P hL fun _ _ hp=>hp.more gZ⟩
 rw[show prog.bytesOf 49=24 by kernel_rfl] at h2;exact⟨n,LL,h1,o6 gZ⟩
end
end Vw
open Go.Maps
namespace Vw
open K
structure wT (f:Nat) (x:Ac):Prop where
 sd:Sm 3000 f x.data
 se:Sm 3000 f x.e.data
 ld:chk 16 x.data=0 -> (encV 16 x.data).length <= 70368744177664
 le:chk 16 x.e.data=0 -> (encV 16 x.e.data).length <= 70368744177664
theorem KO (s:St) (x:Ac): (kZ s x).data=x.data \/ (kZ s x).data=zV \/ (kZ s x).data=x.e.data:=by
 unfold kZ
 repeat' split
 all_goals first|exact .inl rfl|exact .inr (.inl rfl)|exact .inr (.inr rfl)
theorem Rj (s:St) {x:Ac}(h:wT (f+1) x): Sm 3000 (f+1) (kZ s x).data:=by
 rcases KO s x with e|e|e<;>rw[e]
 ·exact h.sd
 ·exact DQ f
 ·exact h.se
theorem Ys (s:St) {x:Ac}(h:wT f x): chk 16 (kZ s x).data=0 -> (encV 16 (kZ s x).data).length <= 70368744177664:=by
 rcases KO s x with e|e|e<;>rw[e]
 ·exact h.ld
 ·intro _
  have:(encV 16 zV).length <= 65536:=by decide
  omega
 ·exact h.le
theorem Sz (n:Nat) {L:List Ac}(hi:i<L.length) (s:St): actsR n (L.drop i) i s=((kZ s (L.getD i zU)) :: (actsR n (L.drop (i+1)) (i+1) (entR s (kZ s (L.getD i zU)) n i (7*n)).2).1,(actsR n (L.drop (i+1)) (i+1) (entR s (kZ s (L.getD i zU)) n i (7*n)).2).2):=by
 rw[bp hi,ag,ah hi]
 rfl
theorem jk.self {e:TypeId}{z:α}{P:α -> List Value -> Prop}{v:Value}(h:jk e m z P O w v l): jk e m z P (fun b=>v.ownBlock=some b) w v l:=by
 obtain⟨lO,q1,q2,q3⟩:=h;exact⟨lO,q1,q2,q3.1,q3.2.1,fun g hg=>hg⟩
theorem acX (i t:Int): prog.built wK [(0,Iq i),(1,Iq t)]=some (oH ⟨i,t,0,Dig.lB,[]⟩ (.slice none 0 0)).toArray:=by kernel_rfl
theorem QN (b:Bk) (sp:Option Addr) (n c:Nat): kj (oH b (.slice sp n c)):=by
 intro u hu;unfold oH at hu;simp only[ar,aq,aR,dG] at hu;rcases hu with rfl|rfl|rfl|hu|rfl
 all_goals first|rfl|exact kj.int _ _ u hu
theorem L7 {s:St}(h0:p_ w rb M D (f+1) s N) (hcp:nT s.rows s.red=s.red) (hE:∀b,E b -> b<w.heap.size) {v:Value}{L:List Ac}(hv:ou E (f+1) w v L) (hL:∀x∈L,wT (f+1) x) (hN:N+L.length+1 <= 1000000):
  Calls prog 40 #[iF rb,v] w fun e w'=>iB w w' /\ ∃bc,e=.returned (.agg bc.toArray) /\ m6 (fun b=>E b \/ w.heap.size <= b) (f+1) w' (qQ s L) bc:=by
 obtain⟨rcp,rOc,rv,mb,rk,rr⟩:=id h0;obtain⟨Dt,Ao,rfl,tC,rO,Cg,ji⟩:=id hv;have d2:=rr.vb.cell 2 iz;simp only[ax,al] at d2;have qd:=rr.lt rb (.inl rr.tR);have A_:=rr.ok;refine iY (args:=[iF rb,.slice Dt L.length Ao]) func40 ntmps40 ?_;refine gY ?_;refine ix (z:=.agg (oH X5 (.slice none 0 0)).toArray) (fun _=>by kernel_rfl) fun g4 w1 f1=>?_;have v4:h_ wK w1 g4 (oH X5 (.slice none 0 0)):=f1.blk;have b1:=f1.below;have e4:=f1.eq;have z1:=b1.size;clear f1;refine gY ?_;refine WC.drawn 11 (iB w1) fun wa jh=>?_;have hS:iB w1 wa:=jh.below _;clear jh;have d21:=(b1.cell (p:=⟨rb,2,none⟩) qd).trans d2;have ai3:rb<w1.heap.size:=gZ;refine iq [0,1,2] hS ?_;refine ik 3 [9,11] (jZ ai3 d21) hS ?_;refine iq [4,5,6] hS ?_;refine ik 7 [8,9,11] (jZ ai3 d21) hS ?_;refine iq [8] hS ?_;refine Cr.uh (oH ⟨s.n,7*s.n,0,Dig.lB,[]⟩ (.slice none 0 0)) 9 rfl (by kernel_rfl) rfl rfl (fun _ _ _ _ _ h=>h) rfl rfl rfl (acX _ _) (.inr hS) ?_;refine iI 10 ?_;refine ix (z:=.agg (oH X5 (.slice none 0 0)).toArray) (fun _=>by kernel_rfl) fun g5 w2 f2=>?_;have ph:=hS.iR f2.below;have e5:=f2.eq;refine km ph ?_;refine iI 11 ?_;refine ir f2.blk (QN _ _ _ _) ?_;obtain⟨v5,b5,-,-⟩:=mh (oH ⟨s.n,7*s.n,0,Dig.lB,[]⟩ (.slice none 0 0)) hS f2;generalize w2.setRow g5 _=w5 at v5 b5 ⊢;have zS:=hS.size;clear f2 ph;refine iO ?_;refine im ?_;have c5:=b1.trans (b5.mono z1);have z5:=c5.size;have l5:=h_.lt v5;have l4:=h_.lt v4;have z15:=b5.size;refine gY ?_;refine il func41 (yT (h0.below c5)) ?_;rintro _ w6 ⟨xb,Mx,rfl,hx,b6,mx⟩;refine⟨_,rfl,?_⟩;rw[hcp] at hx;change p_ w6 xb Mx D (f+1) s N at hx;have c6:=c5.trans (b6.mono z5);have z6:=c6.size;refine gY ?_;refine WC.loop (fun i:Nat=>[(1,.slice Dt L.length Ao),(4,iF g4),(5,iF g5),(6,iF xb),(7,Iq i)])
  (fun i w'=>i <= L.length /\ iB w w' /\ w5.heap.size <= w'.heap.size /\ ∃(si:St) (Mi Di:Nat -> Prop) (se:Value) (es:List En),p_ w' xb Mi Di (f+1) si (N+i) /\ (∀x,Mi x -> w5.heap.size <= x) /\ (∀x,Di x -> D x \/ w5.heap.size <= x) /\
   lM wK g5 w' ⟨s.n,7*s.n,0,Dig.lB,es⟩ se /\ h_ wK w' g4 (oH X5 (.slice none 0 0)) /\ jk zr 46 jo (Ip E (f+1) w') (fun _=>True) w' se es /\ (∀g,se.ownBlock=some g -> w5.heap.size <= g /\ ¬Mi g /\ ¬Di g) /\ es.length=i /\
   actsR s.n L 0 s=(es++(actsR s.n (L.drop i) i si).1,(actsR s.n (L.drop i) i si).2)) (fun i=>L.length - i) 0 iW
  ⟨aw _,c6,b6.size,s,Mx,D,.slice none 0 0,[],hx,mx,fun x h=>.inl h,⟨h_.below v5 b6 l5,rfl⟩,h_.below (h_.below v4 b5 l4) b6 gZ,K.jk.nil _ _ _ _ _ _,(fun g h=>by cases h),rfl,rfl⟩ ?_
 clear hx mx b6;rintro i wl ⟨hi,bl,z5l,si,Mi,Di,se,es,Ic,mi,di,B,v4l,sI,iJ,kU,kz⟩;have zl:=bl.size
 by_cases je:i<L.length
 case pos=>
  obtain⟨b,o,rfl,hb,Qi,kA⟩:=ji gZ;obtain⟨ac,aia,⟨Ct,-⟩,j6⟩:=kA i je;have hlx:=hL (L.getD i zU) (by rw[ag,ah je];exact aN je);rw[Sz s.n je si] at kz;generalize L.getD i zU=x at Ct hlx kz;have ce:=B.iv;have lg5:=h_.lt B.blk;have Vu:=h_.lt v4l;refine iu ?_;refine WC.drawn 9 (iB wl) fun wa jh=>?_;have hS:iB wl wa:=jh.below _;clear jh;refine iq [0] hS ?_;refine ik 1 [9,10,11] (jZ lg5 ce) hS ?_;refine iq [2,3,4] hS ?_;refine jV 5 i (o+i*57) je (.inr hS) ?_;refine jG (hm:=aia) 6 [7,8,9,10,11] (fun wx hx=>fun u q hq=>((bl.trans (hx.mono zl)).cell (p:=⟨b,o+i*57+u,none⟩) hb).trans (j6 u q hq)) hS ?_;refine iI 7 ?_;refine il func69 (Rv (Ic.below hS) (Ct.ij (ib.ic (bl.trans (hS.mono zl))) (fun y _ h=>h) (fun _ h=>h)) hlx.ld) ?_;rintro _ wb ⟨bb,ec,rfl,u6⟩;refine⟨_,rfl,?_⟩;have tK:=hS.iR bb;refine km tK ?_;refine iI 8 ?_;refine jR (hcs:=u6.len) (hs:=⟨gZ,gZ⟩) fun g7 w7 uy=>?_;have q_:=tK.iR uy.below;refine km q_ ?_;have z7:=q_.size;have hE7:Ip E (f+1) w7 (kZ si x) ec:=nN.mono (fun v c hv=>hv.ij (ib.ic uy.below) (fun y _ hl=>hl) (fun _ h=>h)) u6;have Ah:jk zr 46 jo (Ip E (f+1) w7) (fun _=>True) w7 se es:=K.jk.ij sI (ib.ic q_) (fun g hg=>K.jk.lt sI hg) (fun _ h=>h) fun _ _ hp=>nN.mono (fun v c hv=>hv.ij (ib.ic q_) (fun y _ hl=>hl) (fun _ h=>h)) hp;have aut:∀g,se.ownBlock=some g -> g<wl.heap.size:=fun g hg=>K.jk.lt sI hg;refine iI 9 ?_;refine WL.snoc rfl rfl rfl rfl ajZ rfl Ah rfl uy.blk u6.one u6.len hE7 gZ gZ fun Dh w8 xC nP=>?_;refine iO ?_
  (refine js 10 rfl (q:=?_))
  refine iI 11 ?_;have z8:=nP.1.size;have B8:=(lM.below B q_).ij nP.1 ⟨gZ,fun e=>by have:=(iJ g5 e).1;omega⟩;have FE:=(h_.below v4l q_ Vu).ij nP.1 ⟨gZ,fun e=>by have:=(iJ g4 e).1;omega⟩;refine iD (hv:=xC.one) B8.iv (B8.blk.free 35) ?_;have B9:=B8.acn Dh (es++[kZ si x]);have k9:ib (fun y=>y≠g5) w8 (w8.setCell ⟨g5,35,none⟩ Dh):=(ib.refl _ _).setCell iz _;have v49:=FE.ij k9 (show g4≠g5 by omega);have hKa:ib (fun y=>y<wl.heap.size /\ se.ownBlock≠some y /\ y≠g5) wl (w8.setCell ⟨g5,35,none⟩ Dh):=((ib.ic q_).mono fun y hy=>hy.1).trans ((nP.1.mono fun y hy=>⟨gZ,hy.2.1⟩).trans (k9.mono fun y hy=>hy.2.2));have Ps:∀g,Dh.ownBlock=some g -> w5.heap.size <= g /\ ¬Mi g /\ ¬Di g /\ g<w8.heap.size:=fun g hg=>by
   have iS:=K.jk.lt xC hg;rcases nP.2 g hg with q|q
   ·obtain⟨q1,q2,q3⟩:=iJ g q
    exact⟨q1,q2,q3,iS⟩
   ·exact⟨gZ,fun h=>by have:=Ic.lt g (.inl h);omega,fun h=>by have:=Ic.lt g (.inr h);omega,iS⟩
  have rz:∀y,E y -> y<w8.heap.size /\ ¬se.ownBlock=some y /\ y≠g5:=fun y hy=>by
   have:=hE y hy;exact⟨gZ,fun e=>by have:=(iJ y e).1;omega,gZ⟩
  have XE:ib (fun y=>y<w7.heap.size /\ se.ownBlock≠some y /\ y≠g5) w7 (w8.setCell ⟨g5,35,none⟩ Dh):=(nP.1.mono fun y hy=>⟨hy.1,hy.2.1⟩).trans (k9.mono fun y hy=>hy.2.2);have DM:jk zr 46 jo (Ip E (f+1) (w8.setCell ⟨g5,35,none⟩ Dh)) (fun b=>Dh.ownBlock=some b) (w8.setCell ⟨g5,35,none⟩ Dh) Dh (es++[kZ si x]) :=
   K.jk.ij (jk.self xC) k9 (fun g hg e=>by have:=(Ps g hg).1;omega) (fun _ h=>h) fun _ _ hp=>nN.mono (fun v c hv=>hv.ij XE (fun y hy _=>by have q:=rz y hy;have:=hE y hy;exact⟨gZ,q.2.1,q.2.2⟩) (fun _ h=>h)) hp
  have z9:(w8.setCell ⟨g5,35,none⟩ Dh).heap.size=w8.heap.size:=iz;generalize w8.setCell ⟨g5,35,none⟩ Dh=w9 at B9 v49 hKa DM z9 ⊢;clear k9 XE xC Ah hE7 B8 FE uy hS tK bb;have hx9:=Ic.ij hKa fun y hy=>⟨Ic.lt y hy,fun e=>by
   obtain⟨q1,q2,q3⟩:=iJ y e;exact hy.elim q2 q3,fun e=>by
   rcases hy with hy|hy
   ·have:=mi y hy;omega
   ·rcases di y hy with q|q
    ·have:=h0.lt y (.inr q);omega
    ·omega⟩
  have c9:=((ib.ic bl).trans (hKa.mono fun y (hy:y<w.heap.size)=>⟨gZ,fun e=>by have:=(iJ y e).1;omega,gZ⟩)).below;refine iO ?_;refine im ?_;refine gY ?_;refine ig (h_.rangeAt B9.blk) B9.len ?_;refine gY ?_;have Ov:(es++[kZ si x]).length=i+1:=by rw[aa,kU];rfl
  have abw:(es++[kZ si x]).getD i jo=kZ si x:=by rw[ag,ay gZ,kU];simp
  have EO:m6 (fun y=>E y \/ Dh.ownBlock=some y) (f+1) w9 ⟨s.n,7*s.n,0,Dig.lB,es++[kZ si x]⟩ (oH ⟨s.n,7*s.n,0,Dig.lB,es++[kZ si x]⟩ Dh) :=
   ⟨Dh,rfl,(K.jk.jt DM).mono (fun y h=>.inr h) (fun _ _ hp=>nN.mono (fun v c hv=>hv.mono fun y h=>.inl h) hp),rfl,AP,⟨by show _ <= (s.n:Int);omega,by show(s.n:Int) <= _;omega⟩,⟨by show _ <= 7*(s.n:Int);omega,by show 7*(s.n:Int) <= _;omega⟩,by show jX 0;omega⟩
  have aoA:Sm 3000 (f+1) ((es++[kZ si x]).getD i jo).data:=by rw[abw];exact Rj si hlx
  refine il func70 (SM hx9 gZ (fun y hy hm=>hy.elim (fun h=>by have:=hE y h;have:=mi y hm;omega) fun h=>(Ps y h).2.1 hm) EO i (by show i<(es++[kZ si x]).length;omega) gZ aoA) ?_;rintro _ qZ ⟨M2,D2,rfl,aip,DN,m2,d2⟩;refine⟨_,rfl,?_⟩;have z10:=DN.size;simp only[abw] at aip;refine gY ?_;refine WQ.again (i+1) iW ⟨je,((ib.ic c9).trans (DN.mono fun y (hy:y<w.heap.size)=>⟨gZ,fun hm=>by have:=mi y hm;omega⟩)).below,gZ,_,M2,D2,Dh,es++[kZ si x],aip,
   fun y hy=>(m2 y hy).elim (mi y) (fun h=>by omega),fun y hy=>(d2 y hy).elim (di y) (fun h=>.inr gZ),?_,v49.ij DN ⟨gZ,fun hm=>by have:=mi g4 hm;omega⟩,?_,fun g hg=>?_,Ov,?_⟩ gZ
  ·exact lM.ij B9 DN ⟨gZ,fun hm=>by have:=mi g5 hm;omega⟩
  ·exact K.jk.ij DM DN (fun g hg=>⟨K.jk.lt DM hg,(Ps g hg).2.1⟩) (fun _ _=>trivial) fun _ _ hp=>nN.mono (fun v c hv=>hv.ij DN (fun y hy _=>⟨by have:=hE y hy;omega,fun hm=>by have:=hE y hy;have:=mi y hm;omega⟩) (fun _ h=>h)) hp
  ·obtain⟨q1,q2,q3,q4⟩:=Ps g hg
   exact⟨q1,fun hm=>(m2 g hm).elim q2 (fun h=>by omega),fun hm=>(d2 g hm).elim q3 (fun h=>by omega)⟩
  ·rw[kz]
   simp
 case neg=>
  obtain rfl:i=L.length:=gZ;rw[dt] at kz;have hm:qQ s L=⟨s.n,7*s.n,0,Dig.lB,es⟩:=by unfold qQ;rw[kz];simp[actsR]
  rw[hm];refine gY ?_;refine ig (h_.rangeAt B.blk) B.len ?_;obtain⟨spE,avQ,rfl,-⟩:=id (K.jk.jt sI);refine ir (hm:=B.len) v4l (QN _ _ _ _) ?_;have LC:∀a,ib (fun y=>y≠g4) wl (wl.setRow g4 a):=fun a=>ib.setRow (ib.refl _ wl) (fun hk=>hk rfl) a;refine gY ?_;refine WQ.tl rfl rfl rfl B.len (v4l.setRow _) ⟨((ib.ic bl).trans ((LC _).mono fun y (hy:y<w.heap.size)=>by omega)).below,_,rfl,_,rfl,?_,rfl,AP,⟨by show _ <= (s.n:Int);omega,by show(s.n:Int) <= _;omega⟩,⟨by show _ <= 7*(s.n:Int);omega,by show 7*(s.n:Int) <= _;omega⟩,by show jX 0;omega⟩;exact(K.jk.jt (jk.self sI)).ij (LC _) (fun y hy _=>by have:=(iJ y hy).1;omega) (fun y hy=>.inr (by have:=(iJ y hy).1;omega)) fun _ _ hp=>nN.mono (fun v c hv=>hv.ij (LC _) (fun y hy _=>by have:=hE y hy;omega) (fun y h=>.inl h)) hp
end Vw
namespace K
theorem vU:∀(f:Nat) {w0 w:World}{v:V}{cs:List Value}{pb n:Nat},kH f w0 v cs -> o_ f v -> iB w0 w -> w0.heap.size <= pb -> h_ 3 w pb [Iq n] -> n <= 140737488355328 ->
  Calls prog 7 #[.agg cs.toArray,iF pb] w fun e w'=>e=.returned (.bool (decide (2000<grt 2000 f v n))) /\ h_ 3 w' pb [Iq (grt 2000 f v n)] /\ ib (fun b=>b<w.heap.size /\ b≠pb) w w'
 | 0,_,_,_,_,_,_,h,_,_,_,_,_=>h.elim
 | f+1,w0,w,v,cs,pb,n,hv,hs,jP,uK,o5,hn=>by
  have ih:=@vU f;obtain⟨sn,sk,rfl,-,-,-,Vs,⟨np,nc,rfl,nl,Iu,-,-⟩,⟨sp,cap,rfl,uG,oG,ji⟩⟩:=hv;obtain⟨Ly,hsk,lX⟩:=hs;have lL:grt 2000 (f+1) v n=grtK 2000 (grt 2000 f) v.kids (n+1+v.t.size / 20+v.names.length):=rfl;rw[lL];refine iY (args:=[.agg (lW v (.slice np v.names.length nc) (.slice sp v.kids.length cap)).toArray,iF pb]) func7 ntmps7 ?_;refine gY ?_;refine iC fun g w1 hf=>?_;have jx:jl w g w1 25 (lW v (.slice np v.names.length nc) (.slice sp v.kids.length cap)):=hf;clear hf;have mE:=o5.lt;have kD:g≠pb:=by rw[jx.eq];omega
  have IU:=o5.below jx.below mE;have OU:ib (fun b=>b<w.heap.size /\ b≠pb) w w1:=(ib.ic jx.below).mono fun _ h=>h.1;refine gY ?_;refine WC.drawn 15 (fun wx=>h_ 3 wx pb [Iq n] /\ h_ 25 wx g (lW v (.slice np v.names.length nc) (.slice sp v.kids.length cap))) fun w2 qY=>?_;have hS:h_ 3 w2 pb [Iq n] /\ h_ 25 w2 g (lW v (.slice np v.names.length nc) (.slice sp v.kids.length cap)):=⟨IU.below (qY.below _) IU.lt,jx.blk.below (qY.below _) jx.blk.lt⟩;refine iq [0,1,2] hS ?_;refine ik 3 [4,9,13,15] (fun wx hx=>hx.1.cell 0 iz) hS ?_;refine iq [4,5] hS ?_;refine ik 6 [7,8,9,13,15] (fun wx hx=>hx.2.cell 3 iz) hS ?_;refine iq [7,8,9,10] hS ?_;refine ik 11 [12,13,15] (fun wx hx=>hx.2.cell 4 iz) hS ?_;refine iq [12,13,14] hS ?_;refine iI 15 ?_;have e:IntKind.i64.wrap ((v.t.size:Int).tdiv 20)=((v.t.size / 20:Nat):Int):=by rw[dU gZ,cV];omega
  have e2:IntKind.i64.wrap (IntKind.i64.wrap ((n:Int)+1+IntKind.i64.wrap ((v.t.size:Int).tdiv 20))+(v.names.length:Int))=((n+1+v.t.size / 20+v.names.length:Nat):Int):=by
   rw[e,show IntKind.i64.wrap ((n:Int)+1+((v.t.size / 20:Nat):Int))=(n:Int)+1+((v.t.size / 20:Nat):Int) from bG _ gZ,bG _ gZ];omega
  generalize n+1+v.t.size / 20+v.names.length=n1 at e2 ⊢;refine WL.store (v:=Iq n1) rfl rfl rfl rfl (congrArg (fun z=>some (Value.int .i64 z)) e2) rfl (by kernel_rfl) (hS.1.cell 0 iz) (hS.1.free 0) ?_;have jg:h_ 3 (w2.setCell ⟨pb,0,none⟩ (Iq n1)) pb [Iq n1]:=hS.1.set 0 (Iq n1);have lN:h_ 25 (w2.setCell ⟨pb,0,none⟩ (Iq n1)) g (lW v (.slice np v.names.length nc) (.slice sp v.kids.length cap)):=hS.2.other _ _ kD;have lk:ib (fun b=>b<w.heap.size /\ b≠pb) w (w2.setCell ⟨pb,0,none⟩ (Iq n1)):=(OU.trans ((ib.ic (qY.below w1.heap.size)).mono fun b hb=>ak hb.1 jx.below.size)).setCell (fun h=>h.2 rfl) _;generalize w2.setCell ⟨pb,0,none⟩ (Iq n1)=w3 at jg lN lk;refine iO ?_;refine im ?_;refine gY ?_;generalize hRR:grtK 2000 (grt 2000 f) v.kids n1=RR;have Lj:=lN.lt;refine WC.loop (fun i:Nat=>[(1,iF pb),(2,iF g),(5,Iq i)])
   (fun i w'=>i <= v.kids.length /\ ib (fun b=>b<w3.heap.size /\ b≠pb) w3 w' /\ ∃x:Nat,h_ 3 w' pb [Iq x] /\ grtK 2000 (grt 2000 f) (v.kids.drop i) x=RR) (fun i=>v.kids.length - i) 0
   iW ⟨aw _,ib.refl _ _,n1,jg,hRR⟩ ?_
  rintro i wr ⟨hi,rR,x,wD,hx⟩;have RI:=lN.ij rR ⟨Lj,kD⟩;have VR:=lk.trans (rR.mono fun b hb=>⟨ak hb.1 lk.size,hb.2⟩);have Ju:∀ {wz:World}{xz:Nat},h_ 3 wz pb [Iq xz] -> ib (fun b=>b<w.heap.size /\ b≠pb) w wz -> xz=RR -> (Ending.returned (.bool (decide ((2000:Int)<(xz:Int))))=.returned (.bool (decide (2000<RR))) /\ h_ 3 wz pb [Iq (RR)] /\ ib (fun b=>b<w.heap.size /\ b≠pb) w wz) :=
   fun h1 h2 h3=>⟨by rw[<- h3];congr 2;simp only[cq];omega,by rw[<- h3];exact h1,h2⟩
  refine gY ?_;refine ia (RI.cell 5 iz) ?_
  by_cases je:i<v.kids.length
  ·have jh:v.kids.drop i=v.kids.getD i lH :: v.kids.drop (i+1):=by
    rw[bp je];simp[je]
   rw[jh] at hx;refine gY ?_;refine ia (wD.cell 0 iz) ?_
   by_cases Cb:x <= 2000
   ·obtain⟨kb,ko,rfl,oN,kA⟩:=ji gZ
    obtain⟨c,mO,pj,mo⟩:=kA i je;have nJ:=(jP.trans ((VR.mono fun b hb=>⟨ak hb jP.size,Nat.ne_of_lt (ak hb uK)⟩:ib (fun b=>b<w0.heap.size) w wr).below));have sH:wr.rangeAt kb (ko+i*6) c:=fun j u hu=>by rw[nJ.cell (p:=⟨kb,ko+i*6+j,none⟩) oN];exact mo j u hu
    unfold grtK at hx;rw[if_pos Cb] at hx;refine gY ?_;refine ia (RI.cell 5 iz) ?_;refine gY ?_;refine iG i (ko+i*6) je ?_;refine ig sH mO ?_;refine gY ?_;refine il func7 (ih (n:=x) pj (lX _ (by rw[ag,ah je];exact aN je)) nJ uK wD gZ) ?_;rintro e w4 ⟨rfl,lD,m8⟩;refine⟨_,rfl,?_⟩;refine gY ?_;exact WQ.again (i+1) iW ⟨je,rR.trans (m8.mono fun b hb=>⟨ak hb.1 rR.size,hb.2⟩),_,lD,hx⟩ (by show v.kids.length - (i+1)<v.kids.length - i;omega)
   ·unfold grtK at hx
    rw[if_neg Cb] at hx;refine gY ?_;refine ia (wD.cell 0 iz) ?_;refine iA ?_;refine iA ?_;refine gY ?_;exact g_ ⟨congrArg (fun b=>Ending.returned (Value.bool b)) (decide_eq_true gZ).symm,(Ju wD VR hx).2⟩
  ·obtain rfl:i=v.kids.length:=gZ
   rw[dt] at hx;unfold grtK at hx;refine gY ?_;refine ia (wD.cell 0 iz) ?_;refine iA ?_;refine iA ?_;refine gY ?_;exact g_ (Ju wD VR hx)
end K
namespace Vw
open K
theorem oz {a m z:List Value}(h:w.rangeAt b o (a++(m++z))): w.rangeAt b (o+a.length) m:=fun j u hj=>by
 have hl:j<m.length:=by
  rcases aO j m.length with q|q
  ·exact q
  ·rw[aG q] at hj;cases hj
 have:=h (a.length+j) u (by rw[ay gZ,dp,aP hl];exact hj)
 rwa [<- ff] at this
section
variable {w:World}{b o:Nat}{x:Ac}{dc ec:List Value}
theorem acp (h:w.rangeAt b o (nu x dc ec)): w.rangeAt b (o+4) dc:=oz (a:=[Value.int .i64 x.kind,Iq x.table,Iq x.doc,Iq x.pick]) (m:=dc) (z:=Value.string x.field :: ec) h
theorem XB (h:w.rangeAt b o (nu x dc ec)) (hd:dc.length=6): w.cell? ⟨b,o+10,none⟩=some (.string x.field):=by
 have:=oz (a:=[Value.int .i64 x.kind,Iq x.table,Iq x.doc,Iq x.pick]++dc) (m:=[Value.string x.field]) (z:=ec) (w:=w) (b:=b) (o:=o) (by unfold nu at h;simpa using h);rw[show(([Value.int .i64 x.kind,Iq x.table,Iq x.doc,Iq x.pick]:List Value)++dc).length=10 by simp[hd]] at this;exact this 0 _ rfl
theorem ajc (h:w.rangeAt b o (nu x dc ec)) (hd:dc.length=6): w.rangeAt b (o+11) ec:=by
 have:=oz (a:=[Value.int .i64 x.kind,Iq x.table,Iq x.doc,Iq x.pick]++(dc++[Value.string x.field])) (m:=ec) (z:=[]) (w:=w) (b:=b) (o:=o) (by unfold nu at h;simpa using h)
 rwa [show(([Value.int .i64 x.kind,Iq x.table,Iq x.doc,Iq x.pick]:List Value)++(dc++[Value.string x.field])).length=11 by simp[hd]] at this
end
theorem aen {e:En}{dc:List Value}(h:w.rangeAt b o (iU e dc)): w.rangeAt b (o+5) dc:=oz (a:=[Value.int .i64 e.kind,.string e.text,Iq e.table,Iq e.doc,Iq e.iZ]) (m:=dc) (z:=jq e.hash++[.bool e.gone,Iq e.ab,Iq e.ae]) h
theorem Sm.up {B':Nat}(hB:B <= B'): ∀ {f:Nat}{v:V},Sm B f v -> Sm B' f v
 | 0,_,h=>h
 | _+1,_,⟨h1,h2,h3⟩=>⟨gZ,gZ,fun x hx=>Sm.up hB (h3 x hx)⟩
theorem Ma {v:V}{n:Nat}(hs:o_ f v) (h:¬2000<grt 2000 f v n): Sm 3000 f v /\ (chk 16 v=0 -> (encV 16 v).length <= 70368744177664) :=
 ⟨Sm.up gZ (H7 (B:=2000) f v n hs gZ).2,fun hc=>by have:=(KI (B:=2000) f 16 v n hs hc gZ).2;omega⟩
def HM (LL:List (List Ac)):Nat:=(LL.map List.length).sum
theorem BN (LL:List (List Ac)) (hi:i<LL.length): HM (LL.take (i+1))=HM (LL.take i)+(LL.getD i []).length:=by
 unfold HM;rw[aJ,ah hi,dx,aK,List.sum_append,ag,ah hi];simp
theorem Xw {n:Nat}(h:n <= 140737488355328): IntKind.i64.wrap ((n:Int).tdiv 10)=((n / 10:Nat):Int):=by rw[dU gZ,cV];omega
theorem Jj {v:Value}{LL:List (List Ac)}(h:oW E (f+1) w v LL):
  Calls prog 14 #[v] w fun r w'=>iB w w' /\ ∃b',r=.returned (.bool b') /\ (b'=false -> LL.length <= 60 /\ HM LL <= 2000 /\ ∀L∈LL,∀x∈L,wT (f+1) x):=by
 obtain⟨Dt,Ao,rfl,tC,rO,Cg,ji⟩:=id h;refine iY (args:=[.slice Dt LL.length Ao]) func14 ntmps14 ?_;refine gY ?_;refine ix (z:=Iq 0) (fun _=>by kernel_rfl) fun pb w2 f2=>?_;have P2:h_ 3 w2 pb [Iq 0]:=f2.blk;have epb:=f2.eq;have b2:=f2.below;clear f2;refine gY ?_;refine WL.store (v:=Iq 0) rfl rfl rfl rfl rfl rfl (by kernel_rfl) (P2.cell 0 iz) (h_.free P2 0) ?_;have P3:h_ 3 (w2.setCell ⟨pb,0,none⟩ (Iq 0)) pb [Iq 0]:=P2.set 0 (Iq 0);have b3:iB w (w2.setCell ⟨pb,0,none⟩ (Iq 0)):=((ib.ic b2).setCell (fun hk=>absurd hk (by show ¬pb<w.heap.size;omega)) _).below;generalize w2.setCell ⟨pb,0,none⟩ (Iq 0)=w3 at P3 b3 ⊢;clear P2 b2;have ahz:∀ {wx:World}{n n':Nat},h_ 3 wx pb [Iq n] -> iB w wx -> h_ 3 (wx.setCell ⟨pb,0,none⟩ (Iq n')) pb [Iq n'] /\ iB w (wx.setCell ⟨pb,0,none⟩ (Iq n')):=fun hp hb=>⟨hp.set 0 _,((ib.ic hb).setCell (fun hk=>absurd hk (by show ¬pb<w.heap.size;omega)) _).below⟩;refine gY ?_;refine WC.loop (fun i:Nat=>[(0,.slice Dt LL.length Ao),(3,iF pb),(4,Iq i)])
  (fun i wx=>i <= LL.length /\ iB w wx /\ (∃n:Nat,n <= 2000 /\ i+HM (LL.take i) <= n /\ h_ 3 wx pb [Iq n]) /\ ∀L∈LL.take i,∀x∈L,wT (f+1) x) (fun i=>LL.length - i) 0 iW
  ⟨aw _,b3,⟨0,gZ,by simp[HM],P3⟩,iz⟩ ?_
 clear P3 b3;rintro i wr ⟨hi,br,⟨n,hn,o8,P⟩,j8⟩
 by_cases je:i<LL.length
 case neg=>
  obtain rfl:i=LL.length:=gZ;refine gY ?_;rw[aI] at j8 o8;refine g_ ⟨br,_,rfl,fun hb=>?_⟩;have:=of_decide_eq_false hb;exact⟨gZ,gZ,j8⟩
 case pos=>
 obtain⟨b,o,rfl,hb,Qi,kA⟩:=ji gZ;obtain⟨cs,-,⟨u,rfl,hu⟩,j6⟩:=kA i je;have EW:=BN LL je;have wo:LL.take (i+1)=LL.take i++[LL.getD i []]:=by rw[aJ,ah je,ag,ah je];rfl
 generalize LL.getD i []=L at hu EW wo;obtain⟨spu,ai1,rfl,tO,qY,Is,akX⟩:=id hu;have NL:∀ {wx:World},iB w wx -> wx.cell? ⟨b,o+i*1,none⟩=some (.slice spu L.length ai1):=fun hx=>(hx.cell (p:=⟨b,o+i*1,none⟩) hb).trans (j6 0 _ rfl);have cp:=P.cell 0 iz;simp only[al] at cp;refine iu ?_;refine WL.store (v:=Iq ((n+1:Nat):Int)) rfl rfl rfl rfl rfl rfl (by kernel_rfl) cp (h_.free P 0) ?_;obtain⟨P4,b4⟩:=ahz (n':=n+1) P br;generalize wr.setCell ⟨pb,0,none⟩ (Iq ((n+1:Nat):Int))=w4 at P4 b4 ⊢;clear P br cp;refine gY ?_;refine WC.loop (fun k:Nat=>[(0,.slice (some ⟨b,o,none⟩) LL.length Ao),(3,iF pb),(4,Iq i),(5,Iq k)])
  (fun k wx=>k <= L.length /\ iB w wx /\ (∃m:Nat,m <= 2001 /\ i+1+HM (LL.take i)+k <= m /\ h_ 3 wx pb [Iq m]) /\ ∀x∈L.take k,wT (f+1) x) (fun k=>L.length - k) 0 iW
  ⟨aw _,b4,⟨n+1,gZ,gZ,P4⟩,iz⟩ ?_
 clear P4 b4 o8 hn;rintro k wl ⟨hk,bl,⟨m,hm,U0,P⟩,hx⟩;have cu:=NL bl;have cp:=P.cell 0 iz;simp only[al] at cp;refine iu ?_;refine iG i (o+i*1) je ?_
 by_cases tc:k<L.length
 case neg=>
  obtain rfl:k=L.length:=gZ;rw[aI] at hx
  by_cases u9:m <= 2000
  case neg=>
   refine iu ?_;exact g_ ⟨bl,true,rfl,fun h=>by cases h⟩
  case pos=>
   refine iu ?_;refine WQ.again (i+1) iW ⟨je,bl,⟨m,u9,gZ,P⟩,fun L' hL'=>?_⟩ gZ;rw[wo] at hL';rcases aq.1 hL' with q|q
   ·exact j8 L' q
   ·rw[aZ.1 q];exact hx
 case pos=>
 obtain⟨b2,o2,rfl,jg,awa,aev⟩:=akX gZ;obtain⟨ac,aia,⟨⟨dc,ec,rfl,Au,u6,kK⟩,Uf,qH⟩,aiF⟩:=aev k tc;have ai9:L.take (k+1)=L.take k++[L.getD k zU]:=by rw[aJ,ah tc,ag,ah tc];rfl
 generalize L.getD k zU=x at Au u6 kK Uf qH aiF ai9;have j7:=Au.len;obtain⟨dc2,rfl,hev,arV,-,-,-,rT,-⟩:=id u6;have Wi:∀ {wx:World},iB w wx -> wx.rangeAt b2 (o2+k*57) (nu x dc (iU x.e dc2)):=fun hx j q hj=>(hx.cell (p:=⟨b2,o2+k*57+j,none⟩) jg).trans (aiF j q hj);have cf:∀ {wx:World},iB w wx -> wx.cell? ⟨b2,o2+k*57+10,none⟩=some (.string x.field):=fun hx=>XB (Wi hx) j7;have ct:∀ {wx:World},iB w wx -> wx.cell? ⟨b2,o2+k*57+11+1,none⟩=some (.string x.e.text):=fun hx=>ajc (Wi hx) j7 1 _ rfl;have hfz:=kK.field;refine iu ?_;refine WC.drawn 25 (iB wl) fun wa jh=>?_;have hS:iB wl wa:=jh.below _;clear jh;have lpb:=h_.lt P;have zl:=bl.size;have bx:∀ {wx:World},iB wl wx -> iB w wx:=fun hx=>bl.trans (hx.mono zl);refine ik 0 [1,12,24,25] (jZ lpb cp) hS ?_;refine iq [1,2,3] hS ?_;refine jV 4 i (o+i*1) je (.inr hS) ?_;refine ik 5 [7,8,9,10,11,12,24,25] (fun wx hx=>NL (bx hx)) hS ?_;refine iq [6] hS ?_;refine jV 7 k (o2+k*57) tc (.inr hS) ?_;refine iq [8] hS ?_;refine ik 9 [10,11,12,24,25] (fun wx hx=>cf (bx hx)) hS ?_;refine iq [10] hS ?_;refine WD.EH 11 (Iq ((x.field.size / 10:Nat):Int)) rfl (by kernel_rfl) rfl rfl (fun _ _ _ _ _ h=>h) rfl rfl (congrArg (Value.int .i64) (Xw hfz)) (.inr hS) ?_;refine iq [12,13,14] hS ?_;refine jV 15 i (o+i*1) je (.inr hS) ?_;refine ik 16 [18,19,20,21,22,23,24,25] (fun wx hx=>NL (bx hx)) hS ?_;refine iq [17] hS ?_;refine jV 18 k (o2+k*57) tc (.inr hS) ?_;refine iq [19,20] hS ?_;refine ik 21 [22,23,24,25] (fun wx hx=>ct (bx hx)) hS ?_;refine iq [22] hS ?_;refine WD.EH 23 (Iq ((x.e.text.size / 10:Nat):Int)) rfl (by kernel_rfl) rfl rfl (fun _ _ _ _ _ h=>h) rfl rfl (congrArg (Value.int .i64) (Xw rT)) (.inr hS) ?_;refine iq [24] hS ?_;refine iI 25 ?_;have e2:(m:Int)+1+((x.field.size / 10:Nat):Int)+((x.e.text.size / 10:Nat):Int)=((m+1+x.field.size / 10+x.e.text.size / 10:Nat):Int):=gZ;have DO:m+1+x.field.size / 10+x.e.text.size / 10 <= 140737488355328:=gZ;have u9:i+1+HM (LL.take i)+(k+1) <= m+1+x.field.size / 10+x.e.text.size / 10:=gZ;generalize m+1+x.field.size / 10+x.e.text.size / 10=n1 at e2 DO u9;have Pa:=h_.below P hS lpb;refine WL.store (v:=Iq (n1:Int)) rfl rfl rfl rfl (congrArg (fun z=>some (Value.int .i64 z)) e2) rfl (by kernel_rfl) (Pa.cell 0 iz) (h_.free Pa 0) ?_;obtain⟨P5,b5⟩:=ahz (n':=n1) Pa (bx hS);generalize wa.setCell ⟨pb,0,none⟩ (Iq (n1:Int))=w5 at P5 b5 ⊢;clear hS Pa bx cp cu;refine iO ?_;refine im ?_;have cu5:=NL b5;refine gY ?_;refine iG i (o+i*1) je ?_;refine iu ?_;refine iG k (o2+k*57) tc ?_;refine gY ?_;refine ig (acp (Wi b5)) j7 ?_;refine i_ func7 (vU (f+1) Au.td Uf b5 gZ P5 DO) ?_;rintro w6 ⟨P6,k6⟩
 have b6:=((ib.ic b5).trans (k6.mono fun y (hy:y<w.heap.size)=>⟨by have:=b5.size;omega,gZ⟩)).below
 by_cases qD:2000<grt 2000 (f+1) x.data n1
 case pos=>
  rw[decide_eq_true qD];refine gY ?_;exact g_ ⟨b6,true,rfl,fun h=>by cases h⟩
 case neg=>
 obtain⟨l1,l2⟩:=Ma Uf qD;have Ou:=(H7 (B:=2000) (f+1) x.data n1 Uf gZ).1;rw[decide_eq_false qD];have cu6:=NL b6;generalize grt 2000 (f+1) x.data n1=n2 at P6 qD Ou;refine gY ?_;refine iG i (o+i*1) je ?_;refine iu ?_;refine iG k (o2+k*57) tc ?_;refine gY ?_;refine ig (aen (ajc (Wi b6) j7)) arV ?_;refine WL.on rfl rfl ?_;refine i_ func7 (vU (f+1) hev.td qH b6 gZ P6 gZ) ?_;rintro w7 ⟨P7,k7⟩
 have b7:=((ib.ic b6).trans (k7.mono fun y (hy:y<w.heap.size)=>⟨by have:=b6.size;omega,gZ⟩)).below
 by_cases lN:2000<grt 2000 (f+1) x.e.data n2
 case pos=>
  rw[decide_eq_true lN];refine gY ?_;exact g_ ⟨b7,true,rfl,fun h=>by cases h⟩
 case neg=>
 obtain⟨l3,l4⟩:=Ma qH lN;have apI:=(H7 (B:=2000) (f+1) x.e.data n2 qH gZ).1;rw[decide_eq_false lN];generalize grt 2000 (f+1) x.e.data n2=n3 at P7 lN apI;refine gY ?_;refine WQ.again (k+1) iW ⟨tc,b7,⟨n3,gZ,gZ,P7⟩,fun y hy=>?_⟩ gZ;rw[ai9] at hy;rcases aq.1 hy with q|q
 ·exact hx y q
 ·rw[aZ.1 q];exact⟨l1,l3,l2,l4⟩
end Vw
namespace Vw
open K (En Bk zV jS kB jo kY oL wU kL mR)
def Cm:Ac:=⟨4,0,0,0,zV,⟨#[116]⟩,jo⟩
def Dc:En:={ jo with kind:=5,table:=1,text:=⟨#[116]⟩}
def LH:St:={ r_ with cat:=[⟨⟨#[116]⟩,false,[]⟩]}
theorem ahR: kZ r_ Cm=Dc:=by
 unfold kZ;rw[if_neg j9,if_neg j9,if_neg j9,if_neg j9,if_pos (show Cm.kind=4 from rfl)]
 rfl
theorem ad8: entR r_ Dc 0 0 0=(0,LH):=by
 have hc:Cat.kt r_.cat Dc.kind Dc.text Dc.table=0:=by decide
 have hl:Cat.mW r_.cat Dc.kind Dc.text Dc.table=[⟨⟨#[116]⟩,false,[]⟩]:=by unfold Cat.mW;rw[if_pos hc];rfl
 unfold entR;rw[if_neg (by rw[hc];decide),if_neg j9,if_neg j9,hl]
 rfl
theorem R8: jS Dc:=by
 unfold jS;rw[if_neg j9,if_neg j9,if_neg j9,if_neg j9,if_pos (.inl rfl)];exact⟨by decide,by decide,by decide,by decide,rfl,rfl,rfl,rfl,rfl,rfl,rfl,rfl⟩
end Vw
namespace Vw
open K
theorem m6.there {b:Bk}(hb:m6 E f w b bc): m6 (fun x=>E x /\ x<w.heap.size) f w b bc:=by
 obtain⟨se,q1,q2,q3⟩:=hb;exact⟨se,q1,q2.there fun _ _ hp=>nN.mono (fun _ _ hv=>hv.there) hp,q3⟩
theorem Dv {P:En -> Prop}(n:Nat):∀(L:List Ac) (k:Nat) (s:St),(∀s x,x∈L -> P (kZ s x)) -> ∀e∈(actsR n L k s).1,P e
 | [],_,_,_,e,he=>by cases he
 | x :: r,k,s,h,e,he=>by
  unfold actsR at he;rcases ar.1 he with q|q
  ·rw[q];exact h s x (cj ..)
  ·exact Dv n r _ _ (fun s y hy=>h s y (az _ hy)) e q
theorem Nc {s:St}{L:List Ac}(h:∀x∈L,wT (f+1) x) (hl:L.length <= 2000): KJ (f+1) (qQ s L):=by
 have hlen:(qQ s L).iv.length=L.length:=yP _ _ _ _;refine⟨gZ,fun k hk=>?_,fun e he=>?_⟩
 ·rw[jW hk]
  exact Dv (P:=fun e=>Sm 3000 (f+1) e.data) s.n L 0 s (fun s x hx=>Rj s (h x hx)) _ (aN hk)
 ·exact Dv (P:=fun e=>chk 16 e.data=0 -> (encV 16 e.data).length <= 70368744177664) s.n L 0 s (fun s x hx=>Ys s (h x hx)) e he
section
variable {B:Nat}{w w':World}{vb rb:Nat}{M D M' D':Nat -> Prop}{f:Nat}{s1 s2:St}{N:Nat}
end
end Vw
namespace K
theorem Sk {w:World}:∀ {f:Nat}{v:V}{cs:List Value},kH f w v cs -> Ran f v
 | 0,_,_,h=>h
 | f+1,v,_,⟨_,_,_,_,hn,_,_,_,_,_,_,_,_,hk⟩=>by
  refine⟨?_,fun x hx=>?_⟩
  ·simp[Lit.wf,IntKind.min,IntKind.max,IntKind.bits,IntKind.signed] at hn;omega
  ·obtain⟨j,hj,rfl⟩:=bn hx
   obtain⟨_,_,_,_,hr⟩:=hk gZ;obtain⟨cs,_,h,_⟩:=hr j hj;have:=Sk h
   rwa [ag,ah hj] at this
end K
namespace Ix
open K
open Vw (pD p_ CL kV vu Xx sZ wX xJ yT L7 qQ Nc yP ou Ac wT Mf MV r_ Sw mh KJ)
abbrev paT:Nat:=61
abbrev wK:Nat:=34
structure EX (B:Nat) (w:World) (pb vb sb rb mb n:Nat) (S M D M' D':Nat -> Prop) (k:Nat) (s:Vw.St) (X:yA) (N:Nat):Prop where
 blk:h_ paT w pb [iF vb,iF sb,iF rb]
 p:pD w vb M D (k+2) s N
 r:p_ w rb M' D' (k+2) s N
 set:oA w sb mb n S X (gS s)
 has:∀x,(X x).isSome=Cat.has s.cat x.1 x.2
 inv:CL s
 Uo:sw s
 mm:∀x,M x -> B <= x /\ ¬M' x /\ ¬D' x
 rm:∀x,M' x -> B <= x /\ ¬D x
 sm:∀x,S x -> B <= x /\ ¬(M x \/ D x) /\ ¬(M' x \/ D' x)
 pm:B <= pb /\ ¬S pb /\ ¬M pb /\ ¬M' pb
section
variable {B:Nat}{w w':World}{pb vb sb rb mb n:Nat}{S M D M' D':Nat -> Prop}{k:Nat}{s:Vw.St}{X:yA}{N:Nat}
theorem EX.below (h:EX B w pb vb sb rb mb n S M D M' D' k s X N) (hb:iB w w'): EX B w' pb vb sb rb mb n S M D M' D' k s X N :=
 ⟨h_.below h.blk hb (h_.lt h.blk),h.p.below hb,h.r.below hb,h.set.below hb,h.has,h.inv,h.Uo,h.mm,h.rm,h.sm,h.pm⟩
theorem EX.mono (h:EX B w pb vb sb rb mb n S M D M' D' k s X N) {N':Nat}(h1:N <= N') (h2:N' <= 1000000): EX B w pb vb sb rb mb n S M D M' D' k s X N':={ h with p:=h.p.mono h1 h2,r:=h.r.mono h1 h2 }
end
theorem KS {k:Nat}: Calls prog 15 #[] w fun e w'=>∃pb vb sb rb mb n S M D M' D' X,e=.returned (.tuple #[.pointer (some ⟨pb,0,none⟩),.bool true]) /\ EX w.heap.size w' pb vb sb rb mb n S M D M' D' k r_ X 0 /\ n <= 1024 /\ Below w.heap.size w w':=by
 refine iY func15 ntmps15 ?_;refine gY ?_;refine il func38 (Mf (f:=k+2)) ?_;rintro _ w1 ⟨vb,M,rfl,hp,b1,m1⟩;refine⟨_,rfl,?_⟩;refine gY ?_;refine il func11 (SI hp Sw.1 N9) ?_;rintro _ w2 ⟨sb,mb,n,S,X,rfl,hs,hX,hn,hS,b2⟩;refine⟨_,rfl,?_⟩;have iS:=hp.lt;have hp2:=hp.below b2;have A4:=b1.trans (b2.mono b1.size);have z1:=b1.size;have z2:=b2.size;have aiE:=hs.nB.lt;refine gY ?_;refine il func39 (MV (f:=k+2)) ?_;rintro _ w3 ⟨rb,M',rfl,hr,b3,m3⟩;refine⟨_,rfl,?_⟩;have aqV:=hr.lt;have z3:=b3.size;refine gY ?_;refine WL.build [Value.pointer (some ⟨vb,0,none⟩),.pointer (some ⟨sb,0,none⟩),.pointer (some ⟨rb,0,none⟩)] rfl rfl rfl rfl rfl (by kernel_rfl) ?_;refine iC fun pb w4 f4=>?_;have v4:h_ paT w4 pb [.pointer (some ⟨vb,0,none⟩),.pointer (some ⟨sb,0,none⟩),.pointer (some ⟨rb,0,none⟩)]:=f4.blk;have e4:=f4.eq;have b4:=f4.below;clear f4;refine gY ?_;refine WL.qp rfl rfl rfl rfl rfl rfl (by kernel_rfl) ?_;refine gY ?_;refine WL.qp rfl rfl rfl rfl rfl rfl (by kernel_rfl) ?_;refine gY ?_;have b34:=b3.trans (b4.mono b3.size);refine WQ.nC rfl rfl rfl ⟨pb,vb,sb,rb,mb,n,S,M,(fun _=>False),M',(fun _=>False),X,rfl,⟨v4,hp2.below b34,hr.below b4,hs.below b34,hX,Sw,N9,fun x hx=>⟨m1 x hx,fun h=>?_,fun h=>h⟩,fun x hx=>⟨by have:=m3 x hx;omega,fun h=>h⟩,fun x hx=>⟨by have:=hS x hx;omega,fun h=>?_,fun h=>?_⟩,⟨by omega,fun h=>?_,fun h=>?_,fun h=>?_⟩⟩,hn,A4.trans (b34.mono A4.size)⟩
 ·have:=m3 x h;have:=iS x (.inl hx);omega
 ·rcases h with h|h
  ·have:=hS x hx;have:=iS x (.inl h);omega
  ·exact h
 ·rcases h with h|h
  ·have:=m3 x h;have:=aiE x hx;omega
  ·exact h
 ·have:=aiE pb h;omega
 ·have:=iS pb (.inl h);omega
 ·have:=aqV pb (.inl h);omega
noncomputable def OO (s:Vw.St) (L:List Ac):Vw.St:=if(kV s (qQ s L)).1=0 then(kV s (qQ s L)).2 else s
theorem EX.old {n:Nat}{k:Nat}{s:Vw.St}{X:yA}(h:EX B w pb vb sb rb mb n S M D M' D' k s X N) (hB:B <= w.heap.size) (hk:ib (fun x=>x<w.heap.size /\ ¬S x /\ ¬M x /\ ¬M' x) w w'): Below B w w' :=
 (hk.mono fun x (hx:x<B)=>⟨gZ,fun hs=>by have:=(h.sm x hs).1;omega,fun hm=>by have:=(h.mm x hm).1;omega,fun hm=>by have:=(h.rm x hm).1;omega⟩:ib (fun x=>x<B) w w').below
theorem M_ {n:Nat}{k:Nat}{s:Vw.St}{X:yA}(h:EX B w pb vb sb rb mb n S M D M' D' k s X N) (hB:B <= w.heap.size) (hn:n <= 1000000000) (hE:∀x,E x -> x<w.heap.size /\ ¬S x /\ ¬M x /\ ¬M' x) {v:Value}{L:List Ac}(hv:ou E (k+2) w v L) (hL:∀x∈L,wT (k+2) x) (hl:L.length <= 2000) (hN:N+4*L.length+4 <= 100000):
  Calls prog 16 #[iF pb,v] w fun e w'=>e=.returned (.bool true) /\ (∃n1 S1 M1 D1 M2 D2 X1,EX B w' pb vb sb rb mb n1 S1 M1 D1 M2 D2 k (OO s L) X1 (N+4*L.length+4) /\ n1 <= n+1024) /\ ib (fun x=>x<w.heap.size /\ ¬S x /\ ¬M x /\ ¬M' x) w w':=by
 obtain⟨Dt,Ao,rfl,-⟩:=id hv;refine iY (args:=[iF pb,.slice Dt L.length Ao]) func16 ntmps16 ?_;have c2:=h.blk.cell 2 iz;simp only[ax,al] at c2;refine iu ?_;refine il func40 (L7 h.r h.inv.1.copy (fun x hx=>(hE x hx).1) hv hL gZ) ?_;rintro _ w5 ⟨b5,bc,rfl,Ux⟩;refine⟨_,rfl,?_⟩;have lX:KJ (k+2) (qQ s L):=Nc hL gZ;have kU:(qQ s L).iv.length=L.length:=yP _ _ _ _;have wE:OO s L=if(kV s (qQ s L)).1=0 then(kV s (qQ s L)).2 else s:=rfl
 rw[wE];clear wE hv hL;have sh:=Ux.len;have X3:=h.p.lt;have OK:=h.r.lt;have ZR:=h.set.nB.lt;have h5:=h.below b5;have z5:=b5.size;have lpb:=h_.lt h.blk;refine ix (z:=.agg (oH X5 (.slice none 0 0)).toArray) (fun _=>by kernel_rfl) fun g8 w6 f6=>?_;refine ir (hm:=sh) f6.blk Ux.one ?_;obtain⟨v8,b8,-,e8⟩:=mh bc (Below.refl w5.heap.size w5) f6;generalize w6.setRow g8 _=w7 at v8 b8 ⊢;clear f6;have h7:=h5.below b8;have wF:=Vw.m6.there (Vw.m6.below Ux b8);have z8:=b8.size;have c7:ib (fun x=>x<w.heap.size /\ ¬S x /\ ¬M x /\ ¬M' x) w w7:=(ib.ic (b5.iR b8)).mono fun x hx=>hx.1;have l8:=h_.lt v8;have hEb:∀x,((E x \/ w.heap.size <= x) /\ x<w7.heap.size) -> ¬S x /\ ¬M x /\ ¬M' x:=fun x hx=>by
  rcases hx.1 with q|q
  ·exact(hE x q).2
  ·exact⟨fun hs=>by have:=ZR x hs;omega,fun hm=>by have:=X3 x (.inl hm);omega,fun hm=>by have:=OK x (.inl hm);omega⟩
 have nP:¬S g8 /\ ¬M g8 /\ ¬M' g8:=⟨fun hs=>by have:=ZR g8 hs;omega,fun hm=>by have:=X3 g8 (.inl hm);omega,fun hm=>by have:=OK g8 (.inl hm);omega⟩;clear Ux h5 b5 b8;generalize qQ s L=b at *;have d0:=h7.blk.cell 0 iz;have d1:=h7.blk.cell 1 iz;have d2:=h7.blk.cell 2 iz;simp only[ax,al] at d0 d1 d2;have lp7:=h_.lt h7.blk;refine gY ?_;refine WC.drawn 6 (iB w7) fun wa jh=>?_;have hS:iB w7 wa:=jh.below _;clear jh;refine iq [0,1,2] hS ?_;refine ik 3 [4,6,7] (jZ lp7 d2) hS ?_;refine jG (hm:=sh) 5 [6,7] (fun wx hx=>h_.rangeAt (h_.below v8 hx l8)) hS ?_;refine iI 4 ?_;refine il func41 (yT (h7.r.below hS)) ?_;rintro _ wb ⟨rb2,M3,rfl,Ca,bb,m3⟩;refine⟨_,rfl,?_⟩;rw[show({ s with red:=Vw.nT s.rows s.red }:Vw.St)=s from by rw[h.inv.1.copy]] at Ca;have ph:=hS.iR bb;have zS:=hS.size;refine km ph ?_;refine iI 6 ?_;refine il func42 (xJ Ca (fun x hx=>ak hx.2 ph.size) (Vw.m6.below wF ph) lX gZ h.inv.1.copy) ?_;rintro _ w9 ⟨M4,D4,rfl,-,k9,-,-⟩;refine⟨_,rfl,?_⟩;have zS2:=ph.size;have Qg:=((ib.ic ph).trans (k9.mono fun x (hx:x<w7.heap.size)=>⟨gZ,fun hm=>by have:=m3 x hm;omega⟩)).below;refine iO ?_;refine iI 7 ?_;refine iA ?_;refine iO ?_;refine im ?_;clear Ca m3 k9 bb hS ph zS zS2;have z9:=Qg.size;have h9:=h7.below Qg;have c9:=c7.trans ((ib.ic Qg).mono fun x hx=>by have:=hx.1;omega);have EO:=Vw.m6.below wF Qg;have v9:=h_.below v8 Qg l8;clear d0 d1 d2 wF v8
 by_cases kK:(kV s b).1=0
 case neg=>
  rw[if_neg kK];generalize (kV s b).1=ac at kK;refine gY ?_;refine WC.qg rfl kK ?_;refine gY ?_;exact g_ ⟨rfl,⟨n,S,M,D,M',D',X,h9.mono gZ gZ,gZ⟩,c9⟩
 case pos=>
 rw[if_pos kK];refine gY ?_;refine WC.pE rfl (fun q=>q kK) ?_;have IN:∀e∈b.iv,Rg e.data:=fun e he=>by
  obtain⟨se,-,mH,-⟩:=EO;obtain⟨sp,cap,-,-,-,-,hr⟩:=mH;obtain⟨i,hi,rfl⟩:=bn he;obtain⟨bE,oE,-,-,-,hr⟩:=hr gZ;obtain⟨ec,-,⟨dc,-,zq,-⟩,-⟩:=hr i hi;rw[Vw.jW hi] at zq;exact⟨_,Sk zq.td⟩
 have d0:=h9.blk.cell 0 iz;have d1:=h9.blk.cell 1 iz;simp only[ax,al] at d0 d1;have lp9:=h_.lt h9.blk;have l9:=h_.lt v9;refine gY ?_;refine WC.drawn 9 (iB w9) fun wb jh=>?_;have hS:iB w9 wb:=jh.below _;clear jh;refine iq [0,1,2] hS ?_;refine ik 3 [9] (jZ lp9 d1) hS ?_;refine iq [4,5,6] hS ?_;refine ik 7 [9] (jZ lp9 d0) hS ?_;refine jG (hm:=sh) 8 [9] (fun wx hx=>h_.rangeAt (h_.below v9 hx l9)) hS ?_;refine iI 9 ?_;have zS:=hS.size;have Ob:=h9.below hS;have Ji:=Vw.m6.below EO hS;have vb8:=h_.below v9 hS l9;have cb:=c9.trans ((ib.ic hS).mono fun x hx=>by have:=hx.1;omega);clear d0 d1 hS h9 EO v9 c9;refine i_ func8 (PE Ob.p h.inv h.Uo Ob.set h.has hn (fun x hx=>(h.sm x hx).2.1) (fun x hx=>by omega) Ji lX gZ kK IN) ?_;rintro wc ⟨n1,S1,X1,s1,hX1,Cd,hS1,kc⟩
 refine iO ?_;refine im ?_;have zc:=kc.size;have p10:=Ob.p.ij kc fun y hy=>⟨Ob.p.lt y hy,fun hs=>(h.sm y hs).2.1 hy⟩;have r10:=Ob.r.ij kc fun y hy=>⟨Ob.r.lt y hy,fun hs=>(h.sm y hs).2.2 hy⟩;have DN:=h_.ij Ob.blk kc ⟨h_.lt Ob.blk,h.pm.2.1⟩;have v10:=h_.ij vb8 kc ⟨h_.lt vb8,nP.1⟩;have MP:=Vw.m6.ij Ji kc fun x hx _=>⟨gZ,(hEb x hx).1⟩;have c10:=cb.trans (kc.mono fun x hx=>⟨by have:=hx.1;omega,hx.2.1⟩);have aap:∀x,S1 x -> ¬(M x \/ D x) /\ ¬(M' x \/ D' x) /\ B <= x /\ x<wc.heap.size:=fun x hx=>by
  have:=s1.nB.lt x hx;rcases hS1 x hx with q|q
  ·exact⟨(h.sm x q).2.1,(h.sm x q).2.2,(h.sm x q).1,this⟩
  ·exact⟨fun hm=>by have:=X3 x hm;omega,fun hm=>by have:=OK x hm;omega,gZ,this⟩
 have aob:¬S1 pb:=fun hs=>(hS1 pb hs).elim h.pm.2.1 fun q=>gZ;clear Ob Ji vb8 cb kc;refine gY ?_;refine WC.drawn 13 (fun wx=>h_ paT wx pb [iF vb,iF sb,iF rb] /\ h_ wK wx g8 bc) fun wd jh=>?_;have bd:iB wc wd:=jh.below _;clear jh;have hS:h_ paT wd pb [iF vb,iF sb,iF rb] /\ h_ wK wd g8 bc:=⟨h_.below DN bd (h_.lt DN),h_.below v10 bd (h_.lt v10)⟩;have zd:=bd.size;refine iq [0,1,2] hS ?_;refine ik 3 [5,6,7,8,9,10,11,12,13,14,15,16] (fun wx hx=>show wx.cell? ⟨pb,0,none⟩=some (iF vb) from h_.cell hx.1 0 iz) hS ?_;refine jG (hm:=sh) 4 [5,6,7,8,9,10,11,12,13,14,15,16] (fun wx hx=>h_.rangeAt hx.2) hS ?_;refine iI 5 ?_;have pd:=p10.below bd;have rd:=r10.below bd;have sd:=s1.below bd;have hbd:=Vw.m6.below MP bd;have cd:=c10.trans ((ib.ic bd).mono fun x hx=>by have:=hx.1;omega);refine il func22 (wX pd h.inv (fun x hx=>by omega) hbd lX gZ) ?_;rintro _ we ⟨M1,D1,rfl,pe,k1,N6,hD1⟩;refine⟨_,rfl,?_⟩;rw[kK];have ze:=k1.size;have QJ:h_ paT we pb [iF vb,iF sb,iF rb] /\ h_ wK we g8 bc:=⟨h_.ij hS.1 k1 ⟨h_.lt hS.1,h.pm.2.2.1⟩,h_.ij hS.2 k1 ⟨h_.lt hS.2,nP.2.1⟩⟩;have re:=rd.ij k1 fun y hy=>⟨rd.lt y hy,fun hm=>hy.elim (h.mm y hm).2.1 (h.mm y hm).2.2⟩;have se:=sd.ij k1 fun y hy=>⟨sd.nB.lt y hy,fun hm=>(aap y hy).1 (.inl hm)⟩;have hbe:=Vw.m6.ij hbd k1 fun x hx _=>⟨gZ,(hEb x hx).2.1⟩;have ce:=cd.trans (k1.mono fun x hx=>⟨by have:=hx.1;omega,hx.2.2.1⟩);refine km QJ ?_;clear hS pd rd sd hbd cd k1;have hS:=QJ;refine iq [6,7,8,9,10] hS ?_;refine ik 11 [13,14,15,16] (fun wx hx=>show wx.cell? ⟨pb,2,none⟩=some (iF rb) from h_.cell hx.1 2 iz) hS ?_;refine jG (hm:=sh) 12 [13,14,15,16] (fun wx hx=>h_.rangeAt hx.2) hS ?_;refine iI 13 ?_;refine WL.on rfl rfl ?_;refine il func42 (xJ re (fun x hx=>by omega) hbe lX gZ h.inv.1.copy) ?_;rintro _ wf ⟨M2,D2,rfl,rf,k2,N3,hD2⟩;refine⟨_,rfl,?_⟩;rw[kK];refine iO ?_
 (refine js 14 rfl (q:=?_);refine js 15 rfl (q:=?_);refine js 16 rfl (q:=?_))
 refine im ?_;have cf:=ce.trans (k2.mono fun x hx=>⟨by have:=hx.1;omega,hx.2.2.2⟩);have hmR:∀y,M1 y \/ D1 y -> ¬M' y:=fun y hy hm=>by
  have:=OK y (.inl hm);rcases hy with hy|hy
  ·rcases N6 y hy with q|q
   ·exact(h.mm y q).2.1 hm
   ·omega
  ·rcases hD1 y hy with q|q
   ·exact(h.rm y hm).2 q
   ·omega
 have pf:=pe.ij k2 fun y hy=>⟨pe.lt y hy,hmR y hy⟩;have sf:=se.ij k2 fun y hy=>⟨se.nB.lt y hy,fun hm=>(aap y hy).2.1 (.inl hm)⟩;have ltP:=pe.lt;refine gY ?_;refine g_ ⟨rfl,⟨n1,S1,M1,D1,M2,D2,X1,⟨h_.ij QJ.1 k2 ⟨h_.lt QJ.1,h.pm.2.2.2⟩,pf.mono gZ gZ,rf.mono gZ gZ,sf,hX1,vu h.inv b,FU h.Uo kK IN,fun x hx=>?_,fun x hx=>?_,fun x hx=>?_,?_⟩,gZ⟩,cf⟩
 ·have h1:=ltP x (.inl hx)
  refine⟨?_,fun hm=>?_,fun hm=>?_⟩
  ·rcases N6 x hx with q|q
   ·exact(h.mm x q).1
   ·omega
  ·rcases N3 x hm with q|q
   ·exact hmR x (.inl hx) q
   ·omega
  ·rcases hD2 x hm with q|q
   ·have:=OK x (.inr q)
    rcases N6 x hx with q2|q2
    ·exact(h.mm x q2).2.2 q
    ·omega
   ·omega
 ·rcases N3 x hx with q|q
  ·exact⟨(h.rm x q).1,fun hm=>hmR x (.inr hm) q⟩
  ·exact⟨gZ,fun hm=>by have:=ltP x (.inr hm);omega⟩
 ·obtain⟨q1,q2,q3,q4⟩:=aap x hx
  refine⟨q3,fun hm=>?_,fun hm=>?_⟩
  ·rcases hm with hm|hm
   ·rcases N6 x hm with q|q
    ·exact q1 (.inl q)
    ·omega
   ·rcases hD1 x hm with q|q
    ·exact q1 (.inr q)
    ·omega
  ·rcases hm with hm|hm
   ·rcases N3 x hm with q|q
    ·exact q2 (.inl q)
    ·omega
   ·rcases hD2 x hm with q|q
    ·exact q2 (.inr q)
    ·omega
 ·refine⟨h.pm.1,aob,fun hm=>?_,fun hm=>?_⟩
  ·rcases N6 pb hm with q|q
   ·exact h.pm.2.2.1 q
   ·omega
  ·rcases N3 pb hm with q|q
   ·exact h.pm.2.2.2 q
   ·omega
end Ix
namespace Ord
theorem above_any (s:ByteArray) (w:World) (hs:s.size <= 4611686018427387904):
  Calls prog 33 #[.string s] w fun e w'=>(∃t,e=.returned (.tuple #[.string t,.bool (!(strip s.toList).isEmpty)]) /\ t.toList=yr (strip s.toList)) /\ iB w w':=by
 go_enter func33,ntmps33
 go_wp2_with fail
 go_loopw [0] (fun x wr=>∃t:ByteArray,x=.string t /\ strip t.toList=strip s.toList /\ t.size <= s.size /\ wr=w) (fun x _=>(match x with|.string t=>t.size|_=>0))
 case atStart=>exact⟨s,rfl,rfl,af _,rfl⟩
 case round=>
  obtain⟨t,rfl,ht,EW,rfl⟩:=hrel
  by_cases h0:t.size=0
  ·have g0:(t.size:Int) <= 0:=gZ
   have ht0:=GJ h0;have Hst:=iH.mk (show strip s.toList=[] by rw[<- ht,ht0];rfl);have Sq:t.toList.isEmpty=true:=by rw[ht0];rfl
   clear ht ht0
   go_wp2_with fail
   go_ret2
   rw[Hst.out];exact⟨⟨ByteArray.mk #[],rfl,GJ rfl⟩,Below.refl _ _⟩
  ·have g0:(0:Int)<t.size:=gZ
   obtain⟨k,hk⟩:∃k,t.size=k+1:=⟨t.size - 1,gZ⟩;have tc:k<t.size:=gZ;have e1:(t.size:Int) - 1=(k:Nat):=gZ;have pX:=SV hk
   by_cases SB:(t[k]'tc)=255
   ·rw[SB] at pX
    have Hsp:=iH.mk pX;clear pX
    go_wp2_with fail
    refine⟨⟨_,rfl,?_,?_,trivial⟩,?_⟩
    ·rw[<- ht,Hsp.out,KG]
    ·have:(t.extract 0 k).size=k:=by simp;omega
     omega
    ·have:(t.extract 0 k).size=k:=by simp;omega
     show(t.extract 0 k).size<t.size
     omega
   ·have Hsp:=iH.mk pX
    have Sq:t.toList.isEmpty=false:=by rw[pX];simp
    have h2:¬(t[k]'tc).toNat=255:=fun e=>SB (cL e);have awl:(((t[k]'tc).toNat:Int) == 255)=false:=beq_eq_false_iff_ne.2 gZ;clear pX
    go_wp2_with fail
    have hwk:IntKind.i64.wrap (k:Int)=(k:Int):=bG _ gZ;have wH:(k:Int) <= (k:Int)+1:=gZ;have hwc:IntKind.u8.wrap (((t[k]'tc).toNat:Int)+1)=(((t[k]'tc)+1).toNat:Int):=by
     have h1:=(t[k]'tc).toNat_lt;rw[gq,bB];simp
    refine oo 11 (fun _=>True) (by kernel_rfl) ?_;have hS:=trivial;refine iM (i:=0) (.inr hS) ?_;refine iM (i:=1) (.inr hS) ?_;refine iM (i:=2) (.inr hS) ?_;refine iM (i:=3) (.inr hS) ?_;refine iM (i:=4) (.inr hS) ?_;refine iM (i:=5) (.inr hS) ?_;refine iM (i:=6) (.inr hS) ?_;refine iM (i:=7) (.inr hS) ?_;refine iM (i:=8) (.inr hS) ?_;refine iM (i:=9) (.inr hS) ?_;refine iM (i:=10) (.inr hS) ?_
    conv=>{ arg 9;simp[go_sem]}
    refine pW (i:=11) (by kernel_rfl) rfl ?_;intro K hK
    go_simp
    refine hK _ _ (.inl rfl) ?_;clear hK K;have hcv:=run_convert_bytes_arg (P:=prog) (wr.alloc (.cells #[.int .u8 (((t[k]'tc).toNat+1) % 256)] 5)).drew 158 5 underlying158 underlying5 wr.heap.size 0 1 1 [((t[k]'tc).toNat+1) % 256] rfl (fun i hi=>by
     obtain rfl:i=0:=gZ;exact((h_.mk wr [.int .u8 (((t[k]'tc).toNat+1) % 256)] 5).drewN 1).cell 0 iz) 9 underlying9
    have uH:iB wr (wr.alloc (.cells #[.int .u8 (((t[k]'tc).toNat+1) % 256)] 5)).drew:=((ib.ic ((Below.refl _ wr).alloc (af _) _)).drewN 1).below;have ah8:(strOfNums [(((t[k]'tc).toNat:Int)+1) % 256]).toList=[(t[k]'tc)+1]:=by
     rw[aD,gG];have h1:=(t[k]'tc).toNat_lt;have e:((((t[k]'tc).toNat:Int)+1) % 256).toNat=(t[k]'tc).toNat+1:=gZ;simp only[aM,cT,e]
     congr 1
    have j5:=strOfNums_size [(((t[k]'tc).toNat:Int)+1) % 256];have hu:(t.extract 0 k).size=k:=by simp;omega
    have Y6:=iH.mk uH;have ah1:=iH.mk ah8;clear uH ah8;generalize strOfNums [(((t[k]'tc).toNat:Int)+1) % 256]=x at hcv ah1 j5;generalize t.extract 0 k=u at Hsp hu ⊢;refine pW (i:=12) (by kernel_rfl) rfl ?_;intro K hK
    go_simp
    refine hK _ _ (.inl rfl) ?_;clear hK K;have hx1:x.size=1:=by simpa using j5
    have avz:¬9223372036854775807<k+1:=gZ;have aa6:¬(9223372036854775807:Int)<((u.size:Int)+(x.size:Int)):=gZ;have asj:((u.size:Int)+(x.size:Int)) <= (9223372036854775807:Int):=gZ;clear hcv
    conv=>{ arg 9;simp[go_sem]}
    refine iM (i:=13) (.inl rfl) ?_;refine iM (i:=14) (.inl rfl) ?_;refine iM (i:=15) (.inl rfl) ?_;refine tJ (by kernel_rfl) ?_ _;have Hst:=iH.mk (show strip s.toList=u.toList++[t[k]'tc] by rw[<- ht,Hsp.out,Ie _ SB])
    go_wp2_with fail
    go_ret2
    rw[Hst.out];refine⟨⟨u++x,iz,?_⟩,Y6.out⟩;rw[MD,aD,ByteArray.data_append,Array.toList_append,<- aD,<- aD,ah1.out]
end Ord
namespace Ix
open K Tre
open Vw (iT)
theorem Ow (v:V): K.keyOf [v]=um v:=by
 unfold K.keyOf um qi;have:firstBad ([v].map (chk 16))=chk 16 v:=by
  show(if chk 16 v=0 then 0 else chk 16 v)=_
  split
  ·rename_i h;rw[h]
  ·rfl
 rw[this]
theorem L5 (v:V): firstBad ([v].map (chk 16))=chk 16 v:=by
 show(if chk 16 v=0 then 0 else chk 16 v)=_
 split
 ·rename_i h;rw[h]
 ·rfl
theorem U6 {k:Nat}(hf:h_ 25 w g cu) (hu:kH k w u cu): Xq k w (.slice (some ⟨g,0,none⟩) 1 1) [u]:=by
 refine⟨_,_,rfl,af _,by decide,fun _=>⟨g,0,rfl,hf.lt,fun j hj=>?_⟩⟩;have hr:=h_.rangeAt hf;have h2:j<1:=hj
 match j,h2 with
 | 0,_=>exact⟨cu,hu.len,hu,fun i x hx=>hr i x hx⟩
def vi (w:World) (l:List Int) (b:Bool) (e:Ending) (w':World):Prop:=iB w w' /\ ∃v,e=.returned (.tuple #[v,.bool b]) /\ lA 1 0 Fl (fun x=>w.heap.size <= x) w' v l
def Pm (X:yA) (t:Int) (f:ByteArray) (v:V) (hi:ByteArray):List Int:=match X (t,f) with
 | some x=>if chk 16 v=0 then(oh (qi v) hi x.L).map Prod.snd else[]
 | none=>[]
theorem IK {v:Value}{l:List Int}(h:lA 1 0 Fl O w v l): Calls prog 35 #[v] w fun e w'=>w'=w /\ ∃v',e=.returned v' /\ lA 1 0 Fl O w v' l:=by
 obtain⟨sp,cap,rfl,h1,h2,h3,h4⟩:=h;have hs:0<l.length -> ∃b o,sp=some ⟨b,o,none⟩:=fun h=>by obtain⟨b,o,e,-⟩:=h4 h;exact⟨b,o,e⟩
 have hz:sp=none -> l.length=0:=fun e0=>by have:=h3 e0;omega
 refine iY (args:=[.slice sp l.length cap]) func35 ntmps35 ?_;refine gY ?_;refine WL.clip rfl rfl rfl rfl rfl rfl rfl rfl h1 hs ?_;refine gY ?_;exact g_ ⟨rfl,_,rfl,sp,l.length,rfl,af _,gZ,hz,h4⟩
section
variable {w:World}{sb mb n:Nat}{S:Nat -> Prop}{X:yA}{g:Int × ByteArray -> Gx}{k:Nat}
theorem GK (h:oA w sb mb n S X g) (hlen:∀x t,X x=some t -> t.L.length <= 1000000) {t:Int}{f:ByteArray}(hx:Cat.sM (t,f)) {v:V}(hv:kH (k+1) w v cs) (hk:chk 16 v=0 -> (me 16 [v]).length <= 70368744177664):
  Calls prog 9 #[iF sb,Iq t,.string f,.agg cs.toArray] w fun e w'=>
   ∃hi:ByteArray,hi.toList=Ord.yr (Ord.strip (qi v).toList) /\ vi w (Pm X t f v hi) (X (t,f)).isSome e w':=by
 obtain⟨sn,sk,rfl,ade⟩:=id hv;refine iY (args:=[iF sb,Iq t,.string f,.agg (lW v sn sk).toArray]) func9 ntmps9 ?_;have Es:∃hi:ByteArray,hi.toList=Ord.yr (Ord.strip (qi v).toList):=⟨⟨(Ord.yr (Ord.strip (qi v).toList)).toArray⟩,by rw[aD]⟩;refine gY ?_;refine iC fun g1 w1 nh=>?_;have B1:h_ 25 w1 g1 (lW v sn sk):=nh.blk;have b1:=nh.below;clear nh;refine gY ?_;refine WL.call rfl rfl rfl rfl rfl func31 rfl (by kernel_rfl) (FT (h.below b1) hx) ?_;rintro _ _ ⟨rfl,rfl⟩;refine⟨_,rfl,?_⟩;cases hX:X (t,f) with
 | none=>
  obtain⟨hi,qx⟩:=Es;refine gY ?_;refine jc ?_;refine gY ?_;refine WQ.nC rfl rfl rfl ⟨hi,qx,b1,_,rfl,?_⟩;unfold Pm;rw[hX];exact lA.nil _ _ _ _ _
 | some x=>
 refine gY ?_;refine jc ?_;refine gY ?_;refine ig (m:=6) (h_.rangeAt B1) rfl ?_;refine WL.J5 (lW v sn sk) rfl rfl rfl rfl rfl rfl (by kernel_rfl) fun g2 w2 hf=>?_;have b2:=b1.iR hf.below;refine WL.call rfl rfl rfl rfl rfl func32 rfl (by kernel_rfl) (EL (U6 hf.blk (hv.below b2)) (show(1:Nat) <= 9223372036854775807 by omega) fun hc=>by
  rw[L5] at hc;have:=hk hc;omega) ?_
 rintro _ w3 ⟨rfl,b3⟩;refine⟨_,rfl,?_⟩;rw[Ow,L5];have b4:=b2.iR b3;clear hf
 by_cases h0:chk 16 v=0
 ·have rM:um v=qi v:=if_pos h0
  rw[rM,h0];have j5:(qi v).size <= 70368744177664:=by
   have:=hk h0;have e:(qi v).size=(qi v).toList.length:=by rw[aD,bI];rfl
   rw[e];unfold qi;rw[tV,av];exact this
  refine gY ?_;refine WL.call rfl rfl rfl rfl rfl func33 rfl (by kernel_rfl) (Ord.above_any _ w3 gZ) ?_;rintro _ w4 ⟨⟨hi,rfl,qx⟩,b5⟩;refine⟨_,rfl,?_⟩;have Cf:=b4.iR b5;have hT:=((h.nB.is _ _ hX).1).below Cf;refine gY ?_;refine WL.call rfl rfl rfl rfl rfl func34 rfl (by kernel_rfl) (Dd hT (hlen _ _ hX) (qi v) hi) ?_;rintro _ w5 ⟨r,rfl,ho,b6⟩;refine⟨_,rfl,?_⟩;have KB:=Cf.iR b6;have z:=Cf.size;obtain⟨sr,cr,rfl,-⟩:=id ho.jt;have oe:vi w (Pm X t f v hi) true (.returned (.tuple #[.slice sr ((oh (qi v) hi x.L).map Prod.snd).length cr,.bool true])) w5:=⟨KB,_,rfl,by
   unfold Pm;rw[hX];simp only
   rw[if_pos h0];exact ho.jt.mono (fun b hb=>by omega) fun _ _ h=>h⟩
  clear ho;generalize ((oh (qi v) hi x.L).map Prod.snd).length=m at oe ⊢;refine gY ?_;exact WQ.nC rfl rfl rfl ⟨hi,qx,oe⟩
 ·obtain⟨hi,qx⟩:=Es
  have oe:vi w (Pm X t f v hi) true (.returned (.tuple #[.slice none 0 0,.bool true])) w3:=⟨b4,_,rfl,by
   unfold Pm;rw[hX];simp only
   rw[if_neg h0];exact lA.nil _ _ _ _ _⟩
  generalize chk 16 v=e at h0 ⊢;generalize um v=lo;refine gY ?_;exact WQ.nC rfl rfl rfl ⟨hi,qx,oe⟩
theorem MJ: Calls prog 36 #[.pointer none] w fun e w'=>e=.returned (Iq 0) /\ w'=w:=by
 refine iY func36 ntmps36 ?_;refine gY ?_;refine jc ?_;refine gY ?_;exact g_ ⟨rfl,rfl⟩
theorem MS (h:oA w sb mb n S X g) {t:Int}{f:ByteArray}(hx:Cat.sM (t,f)) :
  Calls prog 12 #[iF sb,Iq t,.string f] w fun e w'=>e=.returned (Iq ((match X (t,f) with|some x=>x.L.length|none=>0:Nat):Int)) /\ w'=w:=by
 refine iY func12 ntmps12 ?_;refine gY ?_;refine i_ func31 (FT h hx) ?_;rintro _ rfl
 cases hX:X (t,f) with
 | none=>
  refine i_ func36 MJ ?_;rintro _ rfl
  refine gY ?_;exact g_ ⟨rfl,rfl⟩
 | some x=>
  refine i_ func36 (Y3 (h.nB.is _ _ hX).1) ?_;rintro _ rfl
  refine gY ?_;exact g_ ⟨rfl,rfl⟩
end
def vX (X:yA) (t:Int) (f:ByteArray) (u v:V):List Int:=match X (t,f) with
 | some x=>(oh (um u) (um v) x.L).map Prod.snd
 | none=>[]
theorem RB {v:V}(hk:chk 16 v=0 -> (me 16 [v]).length <= 70368744177664): (um v).size <= 70368744177664:=by
 unfold um
 split
 ·rename_i h
  have e:(qi v).size=(qi v).toList.length:=by rw[aD,bI];rfl
  rw[e];unfold qi;rw[tV,av];exact hk h
 ·exact aw _
section
variable {w:World}{sb mb n:Nat}{S:Nat -> Prop}{X:yA}{g:Int × ByteArray -> Gx}{k:Nat}
theorem wW (h:oA w sb mb n S X g) (hlen:∀x t,X x=some t -> t.L.length <= 1000000) {t:Int}{f:ByteArray}(hx:Cat.sM (t,f)) {v:V}{cv:List Value}(hu:kH (k+1) w u cu) (hv:kH (k+1) w v cv) (hku:chk 16 u=0 -> (me 16 [u]).length <= 70368744177664) (hkv:chk 16 v=0 -> (me 16 [v]).length <= 70368744177664):
  Calls prog 10 #[iF sb,Iq t,.string f,.agg cu.toArray,.agg cv.toArray] w fun e w'=>
   vi w (vX X t f u v) (X (t,f)).isSome e w':=by
 obtain⟨un,uk,rfl,-⟩:=id hu;obtain⟨sn,sk,rfl,-⟩:=id hv;refine iY (args:=[iF sb,Iq t,.string f,.agg (lW u un uk).toArray,.agg (lW v sn sk).toArray]) func10 ntmps10 ?_;refine gY ?_;refine iC fun g1 w1 nh=>?_;have B1:h_ 25 w1 g1 (lW u un uk):=nh.blk;have b1:=nh.below;clear nh;refine iC fun g2 w2 lI=>?_;have B2:h_ 25 w2 g2 (lW v sn sk):=lI.blk;replace B1:=h_.below B1 lI.below (h_.lt B1);have b2:=b1.iR lI.below;clear lI;refine gY ?_;refine WL.call rfl rfl rfl rfl rfl func31 rfl (by kernel_rfl) (FT (h.below b2) hx) ?_;rintro _ _ ⟨rfl,rfl⟩;refine⟨_,rfl,?_⟩;cases hX:X (t,f) with
 | none=>
  refine gY ?_;refine jc ?_;refine gY ?_;refine WQ.nC rfl rfl rfl ⟨b2,_,rfl,?_⟩;unfold vX;rw[hX];exact lA.nil _ _ _ _ _
 | some x=>
 refine gY ?_;refine jc ?_;refine gY ?_;refine ig (m:=6) (h_.rangeAt B1) rfl ?_;refine WL.J5 (lW u un uk) rfl rfl rfl rfl rfl rfl (by kernel_rfl) fun g3 w3 hf=>?_;have b3:=b2.iR hf.below;replace B2:=h_.below B2 hf.below (h_.lt B2);refine WL.call rfl rfl rfl rfl rfl func32 rfl (by kernel_rfl) (EL (U6 hf.blk (hu.below b3)) (show(1:Nat) <= 9223372036854775807 by omega) fun hc=>by
  rw[L5] at hc;have:=hku hc;omega) ?_
 rintro _ w4 ⟨rfl,c4⟩;refine⟨_,rfl,?_⟩;rw[Ow,L5];have b4:=b3.iR c4;replace B2:=h_.below B2 c4 (h_.lt B2);clear hf B1;have pS:=RB hku;have B7:=RB hkv;generalize rM:um u=lo at pS;generalize chk 16 u=eu;refine gY ?_;refine ig (m:=6) (h_.rangeAt B2) rfl ?_;refine WL.J5 (lW v sn sk) rfl rfl rfl rfl rfl rfl (by kernel_rfl) fun g5 w5 hf=>?_;have b5:=b4.iR hf.below;refine WL.call rfl rfl rfl rfl rfl func32 rfl (by kernel_rfl) (EL (U6 hf.blk (hv.below b5)) (show(1:Nat) <= 9223372036854775807 by omega) fun hc=>by
  rw[L5] at hc;have:=hkv hc;omega) ?_
 rintro _ w6 ⟨rfl,c6⟩;refine⟨_,rfl,?_⟩;rw[Ow,L5];have b6:=b5.iR c6;clear hf B2;have hT:=((h.nB.is _ _ hX).1).below b6;have tn:chk 16 v=0 -> (Op.bytesLess (um v).toList lo.toList || (um v).toList == lo.toList)=true -> oh lo (um v) x.L=[]:=fun h0 hq=>by
  rw[ahQ,bZ] at hq;refine XO hq ?_ _;unfold um;rw[if_pos h0];exact OF h0
 have nw:vX X t f u v=(oh lo (um v) x.L).map Prod.snd:=by unfold vX;rw[hX];simp only;rw[rM]
 generalize um v=hi at tn nw B7
 by_cases h0:chk 16 v=0
 ·rw[h0]
  cases hq:(Op.bytesLess hi.toList lo.toList || hi.toList == lo.toList) with
  | true=>
   rw[tn h0 hq] at nw;refine gY ?_;refine WC.condTrue (congrArg (fun b=>some (Value.bool b)) hq) ?_;refine gY ?_;refine WQ.nC rfl rfl rfl ⟨b6,_,rfl,?_⟩;rw[nw];exact lA.nil _ _ _ _ _
  | false=>
   refine gY ?_;refine WC.condFalse (congrArg (fun b=>some (Value.bool b)) hq) ?_;refine gY ?_;refine WL.call rfl rfl rfl rfl rfl func34 rfl (by kernel_rfl) (Dd hT (hlen _ _ hX) lo hi) ?_;rintro _ w7 ⟨r,rfl,ho,b7⟩;refine⟨_,rfl,?_⟩;have b07:=b6.iR b7;have z:=b6.size;refine WL.call rfl rfl rfl rfl rfl func35 rfl (by kernel_rfl) (IK ho.jt) ?_;rintro _ w7 ⟨rfl,r2,rfl,wN⟩;refine⟨_,rfl,?_⟩;have oe:vi w (vX X t f u v) true (.returned (.tuple #[r2,.bool true])) w7:=⟨b07,_,rfl,by rw[nw];exact wN.mono (fun b hb=>by omega) fun _ _ h=>h⟩;obtain⟨sr,cr,rfl,-⟩:=id wN;clear ho wN nw tn;generalize ((oh lo hi x.L).map Prod.snd).length=m at oe ⊢;refine gY ?_;exact WQ.nC rfl rfl rfl oe
 ·generalize chk 16 v=e at h0
  refine gY ?_;refine WL.call rfl rfl rfl rfl rfl func34 rfl (by kernel_rfl) (Dd hT (hlen _ _ hX) lo hi) ?_;rintro _ w7 ⟨r,rfl,ho,b7⟩;refine⟨_,rfl,?_⟩;have b07:=b6.iR b7;have z:=b6.size;refine WL.call rfl rfl rfl rfl rfl func35 rfl (by kernel_rfl) (IK ho.jt) ?_;rintro _ w7 ⟨rfl,r2,rfl,wN⟩;refine⟨_,rfl,?_⟩;have oe:vi w (vX X t f u v) true (.returned (.tuple #[r2,.bool true])) w7:=⟨b07,_,rfl,by rw[nw];exact wN.mono (fun b hb=>by omega) fun _ _ h=>h⟩;obtain⟨sr,cr,rfl,-⟩:=id wN;clear ho wN nw tn;generalize ((oh lo hi x.L).map Prod.snd).length=m at oe ⊢;refine gY ?_;exact WQ.nC rfl rfl rfl oe
end
end Ix
namespace Ix
open K
theorem R7 {v:Value}{l:List Int}(h:lA 1 0 Fl O w v l) (hi:i<l.length): ∃b o cap,v=.slice (some ⟨b,o,none⟩) l.length cap /\ b<w.heap.size /\ w.cell? ⟨b,o+i*1,none⟩=some (Iq (l.getD i 0)):=by
 obtain⟨sp,cap,rfl,-,-,-,hr⟩:=h;obtain⟨b,o,rfl,hb,-,hr⟩:=hr gZ;obtain⟨cs,-,e,j6⟩:=hr i hi;unfold Fl at e;subst e;exact⟨b,o,cap,rfl,hb,j6 0 _ rfl⟩
theorem FA {O1 O2:Nat -> Prop}{v1 v2:Value}{l1 l2:List Int}(h1:lA 1 0 Fl O1 w v1 l1) (h2:lA 1 0 Fl O2 w v2 l2):
  Calls prog 19 #[v1,v2] w fun e w'=>e=.returned (.bool (decide (l1=l2))) /\ iB w w':=by
 obtain⟨wR,cp1,rfl,tC,rO,-⟩:=id h1;obtain⟨sj,LS,rfl,Cg,T_,-⟩:=id h2;refine iY (args:=[.slice wR l1.length cp1,.slice sj l2.length LS]) func19 ntmps19 ?_
 by_cases hlen:l1.length=l2.length
 case neg=>
  rw[decide_eq_false (fun e=>hlen (by rw[e]))];refine gY ?_;exact g_ ⟨rfl,Below.refl _ _⟩
 case pos=>
 refine gY ?_;refine WC.loop (fun i:Nat=>[(0,.slice wR l1.length cp1),(1,.slice sj l2.length LS),(5,Iq i)]) (fun i w'=>i <= l1.length /\ iB w w' /\ l1.take i=l2.take i) (fun i=>l1.length - i) 0 iW ⟨aw _,Below.refl _ _,rfl⟩ ?_;rintro i wl ⟨hi,bl,ht⟩
 by_cases iS:i<l1.length
 case neg=>
  obtain rfl:i=l1.length:=gZ;rw[aI,hlen,aI] at ht;rw[decide_eq_true ht];refine gY ?_;exact g_ ⟨rfl,bl⟩
 case pos=>
 have w_:i<l2.length:=gZ;obtain⟨b1,o1,ab8,es,lb1,R1⟩:=R7 h1 iS;obtain⟨rfl,rfl⟩:wR=some ⟨b1,o1,none⟩ /\ cp1=ab8:=by simpa using es
 clear es;obtain⟨b2,o2,Z6,es,lb2,R2⟩:=R7 h2 w_;obtain⟨rfl,rfl⟩:sj=some ⟨b2,o2,none⟩ /\ LS=Z6:=by simpa using es
 clear es;have Gs:l1.take (i+1)=l1.take i++[l1.getD i 0]:=by rw[aJ,ah iS,Vw.jW iS];rfl
 have Hu:l2.take (i+1)=l2.take i++[l2.getD i 0]:=by rw[aJ,ah w_,Vw.jW w_];rfl
 have kD:l1.getD i 0≠l2.getD i 0 -> l1≠l2:=fun h e=>h (by rw[e]);generalize l1.getD i 0=x at R1 Gs kD;generalize l2.getD i 0=y at R2 Hu kD;refine gY ?_;refine WC.drawn 8 (iB w) fun wa jh=>?_;have hS:=bl.trans (jh.below _);refine iq [0,1] hS ?_;refine jV 2 i (o1+i*1) iS (.inr hS) ?_;refine ik 3 [8] (jZ lb1 R1) hS ?_;refine iq [4,5] hS ?_;refine jV 6 i (o2+i*1) w_ (.inr hS) ?_;refine ik 7 [8] (jZ lb2 R2) hS ?_;refine iI 8 ?_;refine iA ?_;refine iO ?_;refine im ?_
 by_cases hxy:x=y
 ·refine gY ?_
  refine WC.pE rfl (fun q=>q hxy) ?_;refine gY ?_;exact WQ.again (i+1) iW ⟨iS,hS,by rw[Gs,Hu,ht,hxy]⟩ gZ
 ·rw[decide_eq_false (kD hxy)]
  refine gY ?_;refine WC.qg rfl hxy ?_;refine gY ?_;exact g_ ⟨rfl,hS⟩
end Ix
namespace Ix
open K (En Bk zV jS kB jo kY oL wU kL mR)
open Vw (St Rw Ac r_ rowOf kZ entR runR kV qQ actsR fits qv Dc LH Cm ahR ad8 R8)
def pz:V:=.mk 3 5 0 jz [] []
def EV:V:=.mk 4 55 1 jz [] []
def dA:V:=.mk 9 0 0 jz [⟨#[97]⟩] [pz]
def dB:V:=.mk 9 0 0 jz [⟨#[97]⟩] [EV]
def F7:Ac:=⟨6,1,0,0,zV,⟨#[97]⟩,jo⟩
def C_:Ac:=⟨0,1,0,0,dA,⟨#[]⟩,jo⟩
def LY:Ac:=⟨0,1,0,0,dB,⟨#[]⟩,jo⟩
def jL:List Ac:=[Cm,F7,C_,LY]
def DZ:En:={ jo with kind:=7,table:=1,text:=⟨#[97]⟩}
def xM:En:={ jo with kind:=2,table:=1,doc:=1,data:=dA,hash:=kB dA }
def yb:En:={ jo with kind:=2,table:=1,doc:=2,data:=dB,hash:=kB dB }
def jB:Bk:=⟨0,0,0,Dig.lB,[Dc,DZ,xM,yb]⟩
def FP:St:={ r_ with cat:=[⟨⟨#[116]⟩,false,[⟨#[97]⟩]⟩]}
def jR0:Rw:=rowOf xM 0 2 0
def jR1:Rw:=rowOf yb 0 3 0
def LA:St:={ FP with rows:=[jR0]}
def jS3:St:={ FP with rows:=[jR0,jR1]}
def Ad:St:={ jS3 with n:=1 }
theorem amT: kZ LH F7=DZ:=by
 unfold kZ;rw[if_neg j9,if_neg j9,if_neg j9,if_neg j9,if_neg j9,if_neg j9,if_pos (show F7.kind=6 from rfl)]
 rfl
theorem aiR: entR LH DZ 0 1 0=(0,FP):=by
 have hc:Cat.kt LH.cat DZ.kind DZ.text DZ.table=0:=by decide
 have hl:Cat.mW LH.cat DZ.kind DZ.text DZ.table=[⟨⟨#[116]⟩,false,[⟨#[97]⟩]⟩]:=by unfold Cat.mW;rw[if_pos hc];rfl
 unfold entR;rw[if_neg (by rw[hc];decide),if_neg j9,if_neg j9,hl]
 rfl
theorem aoW: kZ FP C_=xM:=by
 unfold kZ;rw[if_pos (show C_.kind=0 from rfl)]
 rfl
theorem ahG: entR FP xM 0 2 0=(0,LA):=by
 unfold entR;rw[if_neg (show ¬Cat.kt FP.cat xM.kind xM.text xM.table≠0 by decide),if_pos (show xM.kind=2 \/ xM.kind=3 from .inl rfl),if_neg (show ¬((Cat.ju FP.cat xM.table).2.2≠0 \/ (Cat.ju FP.cat xM.table).2.1.dropped=true \/ fits FP xM=false) by decide)]
 rfl
theorem arz: kZ LA LY=yb:=by
 unfold kZ;rw[if_pos (show LY.kind=0 from rfl)]
 rfl
theorem anr: entR LA yb 0 3 0=(0,jS3):=by
 unfold entR;rw[if_neg (show ¬Cat.kt LA.cat yb.kind yb.text yb.table≠0 by decide),if_pos (show yb.kind=2 \/ yb.kind=3 from .inl rfl),if_neg (show ¬((Cat.ju LA.cat yb.table).2.2≠0 \/ (Cat.ju LA.cat yb.table).2.1.dropped=true \/ fits LA yb=false) by decide)]
 rfl
theorem agd: qQ r_ jL=jB:=by
 unfold qQ
 show(⟨0,7*((0:Nat):Int),0,Dig.lB,(actsR 0 [Cm,F7,C_,LY] 0 r_).1⟩:Bk)=jB
 unfold actsR actsR actsR actsR actsR;simp only[ahR,Int.natCast_zero,gV,a_];have h1:(entR r_ Dc ((0:Nat):Int) ((0:Nat):Int) (7*((0:Nat):Int))).2=LH:=congrArg Prod.snd ad8;have h2:(entR LH DZ ((0:Nat):Int) ((1:Nat):Int) (7*((0:Nat):Int))).2=FP:=congrArg Prod.snd aiR;have h3:(entR FP xM ((0:Nat):Int) ((1+1:Nat):Int) (7*((0:Nat):Int))).2=LA:=congrArg Prod.snd ahG;simp only[Int.natCast_zero,gV] at h1 h2 h3;rw[h1,amT,h2,aoW,h3,arz]
 rfl
theorem aj7: runR jB jB.iv 0 r_=(0,jS3):=by
 show runR jB [Dc,DZ,xM,yb] 0 r_=_
 have h1:entR r_ Dc jB.index ((0:Nat):Int) jB.time=(0,LH):=ad8;have h2:entR LH DZ jB.index ((0+1:Nat):Int) jB.time=(0,FP):=aiR;have h3:entR FP xM jB.index ((0+1+1:Nat):Int) jB.time=(0,LA):=ahG;have h4:entR LA yb jB.index ((0+1+1+1:Nat):Int) jB.time=(0,jS3):=anr;unfold runR;rw[h1,if_pos rfl];unfold runR;rw[h2,if_pos rfl];unfold runR;rw[h3,if_pos rfl];unfold runR;rw[h4,if_pos rfl]
 rfl
theorem aa8: jS DZ:=by
 unfold jS;rw[if_neg j9,if_neg j9,if_neg j9,if_neg j9,if_pos (.inr rfl)];exact⟨by decide,by decide,by decide,by decide,rfl,rfl,rfl,rfl,rfl,rfl,rfl,rfl⟩
theorem aaL: jS xM:=by
 unfold jS;rw[if_neg j9,if_pos (show xM.kind=2 from rfl)];exact⟨by decide,by decide,by decide,⟨by decide,rfl,rfl,rfl,rfl,rfl,rfl,rfl,rfl⟩,fun h=>by cases h⟩
theorem Z0: jS yb:=by
 unfold jS;rw[if_neg j9,if_pos (show yb.kind=2 from rfl)];exact⟨by decide,by decide,by decide,⟨by decide,rfl,rfl,rfl,rfl,rfl,rfl,rfl,rfl⟩,fun h=>by cases h⟩
theorem ago: (kL dA).2=0:=by decide +kernel
theorem agJ: (kL dB).2=0:=by decide +kernel
theorem amG: oL jB=0:=by
 have h1:kY Dc=0:=by unfold kY;rw[if_pos R8,if_pos (.inl j9)]
 have h2:kY DZ=0:=by unfold kY;rw[if_pos aa8,if_pos (.inl j9)]
 have h3:kY xM=0:=by unfold kY;rw[if_pos aaL,if_neg j9,if_neg (show ¬(kL xM.data).2≠0 from fun h=>h ago),if_pos (show kB xM.data=xM.hash from rfl)]
 have h4:kY yb=0:=by unfold kY;rw[if_pos Z0,if_neg j9,if_neg (show ¬(kL yb.data).2≠0 from fun h=>h agJ),if_pos (show kB yb.data=yb.hash from rfl)]
 have hl:¬262144<(wU true jB).length:=by decide +kernel
 unfold oL;rw[if_pos j9,if_neg (by simp[jB,firstBad,h1,h2,h3,h4]),if_neg hl]
theorem JM: kV r_ jB=(0,Ad):=by
 unfold kV;rw[if_neg (show ¬jB.index≠(r_.n:Int) from fun h=>h rfl),if_neg (fun h=>h amG),aj7,if_pos rfl]
 rfl
theorem ahu: qv Ad 1=[jR0,jR1]:=by rfl
theorem OR: Cat.has Ad.cat 1 ⟨#[97]⟩=true:=by decide
theorem abZ: chk 16 pz=0:=by decide
theorem rg5: Rg pz:=⟨1,by show(5:Int).natAbs<10 ^ 20;decide,fun _ h=>by cases h⟩
theorem aml: K.ordV 16 pz EV<0:=by decide +kernel
theorem akf: ¬K.ordV 16 EV pz=0:=by decide +kernel
theorem Q3 (n:Int): kq Ad 1 n=if n=1 then some dA else if n=2 then some dB else none:=by
 have hi:Vw.Inv Ad:=by
  have:=(Vw.vu Vw.Sw jB).1
  rwa [JM] at this
 rw[<- Du hi,ahu];unfold xk
 by_cases h1:n=1
 ·subst h1;rfl
 ·by_cases h2:n=2
  ·subst h2;rfl
  ·rw[if_neg h1,if_neg h2]
   have e1:jR0.doc=1:=rfl;have e2:jR1.doc=2:=rfl;simp only[fu,List.find?_nil,e1,e2];rw[decide_eq_false (fun e=>h1 e.symm),decide_eq_false (fun e=>h2 e.symm)]
   rfl
theorem aay: Oy ⟨#[97]⟩ (kq Ad 1) [(1,pz),(2,EV)]:=⟨by
 refine bH.2 ⟨fun b hb=>?_,fX _ _⟩;obtain rfl:=aZ.1 hb;exact .inl aml,fun h=>by
 rw[Q3]
 constructor
 ·intro hm
  rcases ar.1 hm with rfl|hm
  ·exact⟨dA,rfl,rfl⟩
  ·obtain rfl:=aZ.1 hm
   exact⟨dB,rfl,rfl⟩
 ·rintro⟨d,q1,q2⟩
  obtain⟨n,v⟩:=h;simp only at q1 q2
  by_cases h1:n=1
  ·rw[if_pos h1] at q1
   cases q1
   have:fldR dA ⟨#[97]⟩=some pz:=rfl;rw[this] at q2;cases q2
   subst h1;simp
  ·rw[if_neg h1] at q1
   by_cases h2:n=2
   ·rw[if_pos h2] at q1
    cases q1
    have:fldR dB ⟨#[97]⟩=some EV:=rfl;rw[this] at q2;cases q2
    subst h2;simp
   ·rw[if_neg h2] at q1
    cases q1⟩
end Ix
namespace Ix
open K
open Vw (Ac wT ou LZ Kf nu HS zU Cm mh DQ aaz RN GX)
abbrev IL:Nat:=25
def stV (u:V):V:=.mk 9 0 0 jz [⟨#[97]⟩] [u]
theorem Rc (hu:jE O (f+1) w u cu) (hO:∀b,O b -> b<w.heap.size):
  Calls prog 37 #[.agg cu.toArray] w fun e w'=>∃cs,e=.returned (.agg cs.toArray) /\ jE (fun b=>O b \/ w.heap.size <= b) (f+2) w' (stV u) cs /\ iB w w':=by
 have OD:=hu.len;have huo:=hu.one;refine iY (args:=[.agg cu.toArray]) func37 ntmps37 ?_;refine ku ?_;refine iC fun g1 w1 f1=>?_;have v1:h_ IL w1 g1 cu:=f1.blk;have b1:=f1.below;clear f1;refine ix (z:=.agg iy.toArray) (fun _=>by kernel_rfl) fun g2 w2 f2=>?_;have v2:h_ IL w2 g2 iy:=f2.blk;have e2:=f2.eq;have s2:=f2.size;have v1b:=h_.below v1 f2.below (h_.lt v1);have b2:=b1.iR f2.below;have z1:=b1.size;clear f2 v1 b1;refine gY ?_;refine jR (hs:=j9) (cs:=[.string ⟨#[97]⟩]) fun g3 w3 f3=>?_;have v3:h_ 9 w3 g3 [.string ⟨#[97]⟩]:=f3.blk;have e3:=f3.eq;have s3:=f3.size;have v2b:=h_.below v2 f3.below (h_.lt v2);have v1c:=h_.below v1b f3.below (h_.lt v1b);have z2:=b2.size;have b3:=b2.trans (f3.below.mono z2);clear f3 v1b v2 b2;refine ig (m:=6) (h_.rangeAt v1c) OD ?_;refine jR (hcs:=OD) (hs:=j9) (cs:=cu) fun g4 w4 f4=>?_;have v4:h_ IL w4 g4 cu:=f4.blk;have e4:=f4.eq;have s4:=f4.size;have v2c:=h_.below v2b f4.below (h_.lt v2b);have v3b:=h_.below v3 f4.below (h_.lt v3);have z3:=b3.size;have b4:=b3.trans (f4.below.mono z3);clear f4 v1c v2b v3 b3;refine iE [Iq 9,Iq 0,Iq 0,.string ⟨#[]⟩,.slice (some ⟨g3,0,none⟩) 1 1,.slice (some ⟨g4,0,none⟩) 1 1] (by kernel_rfl) ?_;refine WL.nQ rfl rfl rfl rfl rfl rfl v2c rfl rfl (by intro q hq;simp at hq;rcases hq with rfl|rfl|rfl|rfl|rfl|rfl<;>rfl) ?_;have v5:=h_.setRow v2c [Iq 9,Iq 0,Iq 0,.string ⟨#[]⟩,.slice (some ⟨g3,0,none⟩) 1 1,.slice (some ⟨g4,0,none⟩) 1 1];have kk:ib (fun x=>x≠g2) w4 (w4.setRow g2 [Value.int .i64 9,Iq 0,Iq 0,.string ⟨#[]⟩,.slice (some ⟨g3,0,none⟩) 1 1,.slice (some ⟨g4,0,none⟩) 1 1].toArray):=Cr.kC (ib.refl _ _) (fun hh=>hh rfl) _;generalize w4.setRow g2 _=w5 at v5 kk ⊢;have z4:=b4.size;have b5:=((ib.ic b4).trans (kk.mono fun x (hx:x<w.heap.size)=>by show x≠g2;omega)).below;have v3c:=h_.ij v3b kk (by show g3≠g2;omega);have v4c:=h_.ij v4 kk (by show g4≠g2;omega);refine gY ?_;refine WQ.tl rfl rfl rfl rfl v5 ⟨_,rfl,⟨_,_,rfl,(show(Lit.int .i64 9).wf=true by decide),(show(Lit.int .i64 0).wf=true by decide),(show(Lit.int .i64 0).wf=true by decide),(show(jz:ByteArray).size <= 140737488355328 by decide),?_,?_⟩,b5⟩
 ·refine⟨some ⟨g3,0,none⟩,1,rfl,af _,gZ,(fun h=>by cases h),fun _=>⟨g3,0,rfl,h_.lt v3c,.inr gZ,fun j hj=>?_⟩⟩
  have U7:j=0:=by have:j<1:=hj;omega
  subst U7;exact⟨[.string ⟨#[97]⟩],rfl,⟨rfl,(show(⟨#[97]⟩:ByteArray).size <= 140737488355328 by decide)⟩,h_.rangeAt v3c⟩
 ·refine⟨some ⟨g4,0,none⟩,1,rfl,af _,gZ,(fun h=>by cases h),fun _=>⟨g4,0,rfl,h_.lt v4c,.inr gZ,fun j hj=>?_⟩⟩
  have U7:j=0:=by have:j<1:=hj;omega
  subst U7;exact⟨cu,OD,hu.ij (ib.ic b5) (fun x hx _=>hO x hx) (fun x hx=>.inl hx),h_.rangeAt v4c⟩
theorem EX.len {n:Nat}{k:Nat}{s:Vw.St}{X:yA}(h:EX B w pb vb sb rb mb n S M D M' D' k s X N): ∀x t,X x=some t -> t.L.length <= 1000000:=fun x t e=>by
 have hN:s.rows.length <= 1000000:=by obtain⟨_,_,_,_,_,_,_,_,hp⟩:=h.p;have:=hp.ok;omega
 exact PB (h.set.nB.is x t e).2 fun m d hm=>by have:=FY h.inv.1 hm;omega
def NF:List Value:=[Iq 3,Iq 5,Iq 0,.string ⟨#[]⟩,.slice none 0 0,.slice none 0 0]
def aal:List Value:=[Iq 4,Iq 55,Iq 1,.string ⟨#[]⟩,.slice none 0 0,.slice none 0 0]
theorem Ev (O:Nat -> Prop) (f:Nat) (w:World): jE O (f+1) w pz NF:=yN (k:=3) (n:=5) (s:=0) (t:=jz) gZ gZ gZ j9
theorem agc (O:Nat -> Prop) (f:Nat) (w:World): jE O (f+1) w EV aal:=yN (k:=4) (n:=55) (s:=1) (t:=jz) gZ gZ gZ j9
theorem Fh (O:Nat -> Prop) (f:Nat) (w:World): Ip O (f+1) w jo (iU jo iy):=RN rfl rfl GX ⟨by show jX 0;omega,by show jX 0;omega,by show jX 0;omega,by show jX 0;omega,by show jX 0;omega,by show jX 0;omega⟩
theorem Gr (f:Nat): o_ (f+1) zV:=⟨by show(0:Nat) <= _;omega,by show(0:Nat) <= _;omega,fun x hx=>by cases hx⟩
theorem abg (h:o_ (f+1) u): o_ (f+2) (stV u):=⟨by show(1:Nat) <= _;omega,by show(1:Nat) <= _;omega,fun x hx=>by rw[aZ.1 (show x∈[u] from hx)];exact h⟩
theorem ah5 (h:Sm 3000 (f+1) u): Sm 3000 (f+2) (stV u):=⟨by show(1:Nat) <= 3000;omega,by show(1:Nat) <= 3000;omega,fun x hx=>by rw[aZ.1 (show x∈[u] from hx)];exact h⟩
theorem aaF (f:Nat) (k n s:Int): o_ (f+1) (.mk k n s jz [] []):=⟨by show(0:Nat) <= _;omega,by show(0:Nat) <= _;omega,fun x hx=>by cases hx⟩
theorem aiq (f:Nat) (k n s:Int): Sm 3000 (f+1) (.mk k n s jz [] []):=⟨by show(0:Nat) <= 3000;omega,by show(0:Nat) <= 3000;omega,fun x hx=>by cases hx⟩
theorem ad5 {v:V}(h:(encV 16 v).length <= 65536): (encV 16 v).length <= 70368744177664:=gZ
theorem amx (f:Nat): ∀x∈jL,wT (f+2) x:=by
 intro x hx;have hz:(encV 16 zV).length <= 70368744177664:=ad5 j9;simp only[jL,ar,aR,dG] at hx;rcases hx with rfl|rfl|rfl|rfl
 ·exact⟨DQ (f+1),DQ (f+1),fun _=>hz,fun _=>hz⟩
 ·exact⟨DQ (f+1),DQ (f+1),fun _=>hz,fun _=>hz⟩
 ·exact⟨ah5 (aiq f 3 5 0),DQ (f+1),fun _=>ad5 (show(encV 16 dA).length <= 65536 by decide +kernel),fun _=>hz⟩
 ·exact⟨ah5 (aiq f 4 55 1),DQ (f+1),fun _=>ad5 (show(encV 16 dB).length <= 65536 by decide +kernel),fun _=>hz⟩
theorem afW: OO Vw.r_ jL=Ad:=by
 unfold OO;rw[agd,JM]
 rfl
theorem Xd: chk 16 pz=0 -> (me 16 [pz]).length <= 70368744177664:=fun _=>by
 have:(me 16 [pz]).length <= 2000000:=by decide +kernel
 omega
theorem ET: chk 16 zV=0 -> (me 16 [zV]).length <= 70368744177664:=fun h=>by exact absurd h j9
section
variable {w:World}{sb mb n:Nat}{S:Nat -> Prop}{X:yA}
theorem Wz (hX:∀x,(X x).isSome=Cat.has Ad.cat x.1 x.2): ∃t,X (1,⟨#[97]⟩)=some t:=by
 have:=hX (1,⟨#[97]⟩);rw[show Cat.has Ad.cat (1,(⟨#[97]⟩:ByteArray)).1 (1,(⟨#[97]⟩:ByteArray)).2=true from OR] at this;exact Option.isSome_iff_exists.1 this
theorem ah_: Gd (kq Ad 1):=by
 have hi:Vw.CL Ad:=by
  have:=Vw.vu Vw.Sw jB
  rwa [JM] at this
 have hd:sw Ad:=by
  have:=FU N9 (b:=jB) (by rw[JM]) fun e he=>by
   simp only[jB,ar,aR,dG] at he;rcases he with rfl|rfl|rfl|rfl
   ·exact OC
   ·exact OC
   ·exact⟨2,by show(0:Int).natAbs<10 ^ 20;decide,fun x hx=>by rw[aZ.1 (show x∈[pz] from hx)];exact⟨by show(5:Int).natAbs<10 ^ 20;decide,fun _ h=>by cases h⟩⟩
   ·exact⟨2,by show(0:Int).natAbs<10 ^ 20;decide,fun x hx=>by rw[aZ.1 (show x∈[EV] from hx)];exact⟨by show(55:Int).natAbs<10 ^ 20;decide,fun _ h=>by cases h⟩⟩
  rwa [JM] at this
 exact tz hi.1 hd j9 1
theorem amS (h:oA w sb mb n S X (gS Ad)) (hX:∀x,(X x).isSome=Cat.has Ad.cat x.1 x.2) {hi:ByteArray}(qx:hi.toList=Ord.yr (Ord.strip (qi pz).toList)): Pm X 1 ⟨#[97]⟩ pz hi=[1]:=by
 obtain⟨t,ht⟩:=Wz hX;unfold Pm;rw[ht];simp only
 rw[if_pos abZ];refine aay.equal ah_ (h.nB.is _ _ ht).2 abZ rg5 qx (fX _ _) fun n=>?_;rw[Q3,aZ]
 constructor
 ·rintro rfl
  exact⟨dA,pz,rfl,rfl,Yu abZ rg5⟩
 ·rintro⟨d,v,q1,q2,q3⟩
  by_cases h1:n=1
  ·exact h1
  ·rw[if_neg h1] at q1
   by_cases h2:n=2
   ·rw[if_pos h2] at q1
    cases q1
    have:fldR dB ⟨#[97]⟩=some EV:=rfl;rw[this] at q2;cases q2
    exact(akf q3).elim
   ·rw[if_neg h2] at q1
    cases q1
theorem aog (h:oA w sb mb n S X (gS Ad)) (hX:∀x,(X x).isSome=Cat.has Ad.cat x.1 x.2): vX X 1 ⟨#[97]⟩ pz zV=[1,2]:=by
 obtain⟨t,ht⟩:=Wz hX;unfold vX;rw[ht];simp only
 rw[aay.range ah_ (h.nB.is _ _ ht).2 rg5 OC];have b1:Zi pz zV pz=true:=by decide +kernel
 have b2:Zi pz zV EV=true:=by decide +kernel
 simp[b1,b2]
end
end Ix
namespace Ix
open K
open Vw (Ac wT ou LZ Kf nu HS zU Cm mh DQ aaz r_ oz)
theorem aew: prog.built IL [(0,Iq 3),(1,Iq 5)]=some NF.toArray:=by kernel_rfl
theorem abb: prog.built IL [(0,Iq 4),(1,Iq 55),(2,Iq 1)]=some aal.toArray:=by kernel_rfl
theorem Ai: prog.built IL []=some iy.toArray:=by kernel_rfl
theorem bA1: prog.built HS [(0,Iq 4),(5,.string ⟨#[116]⟩)]=some (nu Cm iy (iU jo iy)).toArray:=by kernel_rfl
theorem bA2: prog.built HS [(0,Iq 6),(1,Iq 1),(5,.string ⟨#[97]⟩)]=some (nu F7 iy (iU jo iy)).toArray:=by kernel_rfl
def wP (sn sk:Value):List Value:=[Iq 9,Iq 0,Iq 0,.string ⟨#[]⟩,sn,sk]
theorem bA3 (sn sk:Value): prog.built HS [(0,Iq 0),(1,Iq 1),(4,.agg (wP sn sk).toArray)]=some (nu C_ (wP sn sk) (iU jo iy)).toArray:=by kernel_rfl
def jCs (a b c d:Value):List Value:=nu Cm iy (iU jo iy)++(nu F7 iy (iU jo iy)++(nu C_ (wP a b) (iU jo iy)++nu LY (wP c d) (iU jo iy)))
theorem aqa (a b c d:Value): litCells prog HS 4 [(0,.agg (nu Cm iy (iU jo iy)).toArray),(1,.agg (nu F7 iy (iU jo iy)).toArray),(2,.agg (nu C_ (wP a b) (iU jo iy)).toArray),(3,.agg (nu C_ (wP c d) (iU jo iy)).toArray)]=some (jCs a b c d).toArray:=by kernel_rfl
theorem amg {a b c d:Value}(h:h_ HS w g (jCs a b c d)) (hg:E g) (hA:jE E (f+2) w dA (wP a b)) (hB:jE E (f+2) w dB (wP c d)): ou E (f+2) w (.slice (some ⟨g,0,none⟩) 4 4) jL:=by
 have hr:=h_.rangeAt h;have r1:w.rangeAt g (0+0) (nu Cm iy (iU jo iy)):=oz (a:=[]) (m:=nu Cm iy (iU jo iy)) (z:=nu F7 iy (iU jo iy)++(nu C_ (wP a b) (iU jo iy)++nu LY (wP c d) (iU jo iy))) hr;have r2:w.rangeAt g (0+57) (nu F7 iy (iU jo iy)):=oz (a:=nu Cm iy (iU jo iy)) (m:=nu F7 iy (iU jo iy)) (z:=nu C_ (wP a b) (iU jo iy)++nu LY (wP c d) (iU jo iy)) hr;have r3:w.rangeAt g (0+114) (nu C_ (wP a b) (iU jo iy)):=oz (a:=nu Cm iy (iU jo iy)++nu F7 iy (iU jo iy)) (m:=nu C_ (wP a b) (iU jo iy)) (z:=nu LY (wP c d) (iU jo iy)) (by rw[ao];exact hr);have r4:w.rangeAt g (0+171) (nu LY (wP c d) (iU jo iy)):=oz (a:=nu Cm iy (iU jo iy)++(nu F7 iy (iU jo iy)++nu C_ (wP a b) (iU jo iy))) (m:=nu LY (wP c d) (iU jo iy)) (z:=[]) (by rw[aS,ao,ao];exact hr);have hz:∀x:Int,x=0 \/ x=1 \/ x=4 \/ x=6 -> jX x:=fun x hx=>gZ;refine⟨some ⟨g,0,none⟩,4,rfl,by show 4 <= 4;omega,gZ,(fun h=>by cases h),fun _=>⟨g,0,rfl,h.lt,hg,fun j hj=>?_⟩⟩;have hj4:j<4:=hj
 match j,hj4 with
 | 0,_=>exact⟨_,rfl,⟨⟨iy,_,rfl,mD _ _ _,Fh _ _ _,⟨hz _ (.inr (.inr (.inl rfl))),hz _ (.inl rfl),hz _ (.inl rfl),hz _ (.inl rfl),by decide⟩⟩,Gr _,Gr _⟩,r1⟩
 | 1,_=>exact⟨_,rfl,⟨⟨iy,_,rfl,mD _ _ _,Fh _ _ _,⟨hz _ (.inr (.inr (.inr rfl))),hz _ (.inr (.inl rfl)),hz _ (.inl rfl),hz _ (.inl rfl),by decide⟩⟩,Gr _,Gr _⟩,r2⟩
 | 2,_=>exact⟨_,rfl,⟨⟨_,_,rfl,hA,Fh _ _ _,⟨hz _ (.inl rfl),hz _ (.inr (.inl rfl)),hz _ (.inl rfl),hz _ (.inl rfl),by decide⟩⟩,abg (aaF _ 3 5 0),Gr _⟩,r3⟩
 | 3,_=>exact⟨_,rfl,⟨⟨_,_,rfl,hB,Fh _ _ _,⟨hz _ (.inl rfl),hz _ (.inr (.inl rfl)),hz _ (.inl rfl),hz _ (.inl rfl),by decide⟩⟩,abg (aaF _ 4 55 1),Gr _⟩,r4⟩
theorem vD: Calls prog 13 #[] w fun r w'=>r=.returned (.bool true) /\ iB w w':=by
 refine iY func13 ntmps13 ?_;refine gY ?_;refine il func15 (KS (k:=0)) ?_;rintro _ w1 ⟨pb,vb,sb,rb,mb,n,S,M,D,M',D',X,rfl,h1,hn,c1⟩;refine⟨_,rfl,?_⟩;have z1:=c1.size;have ZR:=h1.set.nB.lt;have X3:=h1.p.lt;have OK:=h1.r.lt;refine gY ?_;refine iE NF aew ?_;refine ix (z:=.agg iy.toArray) (fun _=>by kernel_rfl) fun g4 w2 f2=>?_;refine ir f2.blk (Ev (fun _=>True) 0 w).one ?_;obtain⟨v4,b2,-,e4⟩:=mh NF (Below.refl w1.heap.size w1) f2;generalize w2.setRow g4 _=w3 at v4 b2 ⊢;clear f2;have z3:=b2.size;refine gY ?_;refine iE (nu Cm iy (iU jo iy)) bA1 ?_;refine iE (nu F7 iy (iU jo iy)) bA2 ?_;refine gY ?_;refine ig (m:=6) (h_.rangeAt v4) rfl ?_;refine WL.xx (cs:=[]) rfl rfl rfl rfl rfl rfl func37 rfl (by kernel_rfl) (Rc (Ev (fun _=>False) 0 w3) (fun _ h=>h.elim)) ?_;rintro _ w5 ⟨cs,rfl,hA,b5⟩;refine⟨_,rfl,?_⟩;obtain⟨a1,a2,rfl,-⟩:=id hA;refine iE (nu C_ (wP a1 a2) (iU jo iy)) (bA3 a1 a2) ?_;refine gY ?_;refine iE aal abb ?_;refine WL.xx (cs:=[]) rfl rfl rfl rfl rfl rfl func37 rfl (by kernel_rfl) (Rc (agc (fun _=>False) 0 w5) (fun _ h=>h.elim)) ?_;rintro _ w6 ⟨cs,rfl,hB,b6⟩;refine⟨_,rfl,?_⟩;obtain⟨a3,a4,rfl,-⟩:=id hB;refine iE (nu C_ (wP a3 a4) (iU jo iy)) (bA3 a3 a4) ?_;refine WL.J5 (jCs a1 a2 a3 a4) rfl rfl rfl rfl rfl rfl (aqa a1 a2 a3 a4) fun g7 w7 f7=>?_;have v7:h_ HS w7 g7 (jCs a1 a2 a3 a4):=f7.blk;have b7:=f7.below;have e7:=f7.eq;have s7:=f7.size;clear f7;have z5:=b5.size;have z6:=b6.size;have hA7:jE (fun x=>w1.heap.size <= x /\ x<w7.heap.size) (0+2) w7 dA (wP a1 a2):=(hA.there.ij (ib.ic b6) (fun x hx hl=>hl) (fun x hx=>hx)).ij (ib.ic b7) (fun x hx hl=>hl) fun x hx=>by
  rcases hx.1 with q|q
  ·exact q.elim
  ·have:=hx.2;omega
 have hB7:jE (fun x=>w1.heap.size <= x /\ x<w7.heap.size) (0+2) w7 dB (wP a3 a4):=hB.there.ij (ib.ic b7) (fun x hx hl=>hl) fun x hx=>by
  rcases hx.1 with q|q
  ·exact q.elim
  ·have:=hx.2;omega
 have afa:=amg v7 (E:=fun x=>w1.heap.size <= x /\ x<w7.heap.size) gZ hA7 hB7;have TO:=((b2.trans (b5.mono gZ)).trans (b6.mono gZ)).trans (b7.mono gZ);have v47:=h_.below (h_.below (h_.below v4 b5 (h_.lt v4)) b6 (by have:=h_.lt v4;omega)) b7 (by have:=h_.lt v4;omega);refine gY ?_;refine i_ func16 (M_ (h1.below TO) gZ gZ (E:=fun x=>w1.heap.size <= x /\ x<w7.heap.size) (fun x hx=>⟨hx.2,fun hs=>by have:=ZR x hs;omega,fun hm=>by have:=X3 x (.inl hm);omega,fun hm=>by have:=OK x (.inl hm);omega⟩) afa (amx 0) j9 j9) ?_;rintro w8 ⟨⟨n1,S1,M1,D1,M2,D2,X1,h8,Cd⟩,k8⟩
 rw[afW] at h8;have z8:=k8.size;have l47:=h_.lt v4;have FE:=h_.ij v47 k8 ⟨gZ,fun hs=>by have:=ZR g4 hs;omega,fun hm=>by have:=X3 g4 (.inl hm);omega,fun hm=>by have:=OK g4 (.inl hm);omega⟩;have c7:=c1.trans (TO.mono z1);have c8:=c7.trans ((h1.below TO).old gZ k8);have d1:=h8.blk.cell 1 iz;simp only[ax,al] at d1;have lp:=h_.lt h8.blk;have l48:=h_.lt FE;have kK:Cat.sM ((1:Int),(⟨#[97]⟩:ByteArray)):=⟨by decide,by decide⟩;have Rs:=OR;clear v4 v47 k8 TO afa hA7 hB7 hA hB v7 b2 b5 b6 b7 h1;refine gY ?_;refine WC.drawn 5 (iB w8) fun wa jh=>?_;have hS:iB w8 wa:=jh.below _;clear jh;refine iq [0,1,2] hS ?_;refine ik 3 [5,6,7,8,9,10] (jZ lp d1) hS ?_;refine jG 4 [5,6,7,8,9,10] (fun wx hx=>h_.rangeAt (h_.below FE hx l48)) hS ?_;refine iI 5 ?_;have hE:=h8.below hS;refine il func9 (GK hE.set hE.len kK (Ev (fun _=>True) 0 wa).td Xd) ?_;rintro _ wb ⟨hi,qx,bb,v5,rfl,el5⟩;refine⟨_,rfl,?_⟩;rw[amS hE.set hE.has qx] at el5;rw[hE.has,show Cat.has Ad.cat ((1:Int),(⟨#[97]⟩:ByteArray)).1 ((1:Int),(⟨#[97]⟩:ByteArray)).2=true from OR];have tK:=hS.iR bb;refine iO ?_
 (refine js 6 rfl (q:=?_);refine js 7 rfl (q:=?_);refine js 8 rfl (q:=?_);refine js 9 rfl (q:=?_);refine js 10 rfl (q:=?_))
 refine im ?_;clear hE qx;have h9:=h8.below tK;have d19:=(tK.cell (p:=⟨pb,1,none⟩) lp).trans d1;have v49:=h_.below FE tK l48;have lp9:=h_.lt h9.blk;have l49:=h_.lt v49;have c9:=c8.iR tK;clear h8 FE hS bb;refine gY ?_;refine WC.drawn 6 (iB wb) fun wc jh=>?_;have hS:iB wb wc:=jh.below _;clear jh;refine iq [0,1,2] hS ?_;refine ik 3 [6,7,8,9,10,11] (jZ lp9 d19) hS ?_;refine jG 4 [6,7,8,9,10,11] (fun wx hx=>h_.rangeAt (h_.below v49 hx l49)) hS ?_;refine WD.build iy 5 rfl (by kernel_rfl) rfl rfl (fun _ _ _ _ _ h=>h) rfl rfl rfl Ai (.inr hS) ?_;refine iI 6 ?_;have hE:=h9.below hS;refine il func10 (wW hE.set hE.len kK (Ev (fun _=>True) 0 wc).td (mD (fun _=>True) 0 wc).td Xd ET) ?_;rintro _ wd ⟨bd,v7,rfl,el7⟩;refine⟨_,rfl,?_⟩;rw[aog hE.set hE.has] at el7;rw[hE.has,show Cat.has Ad.cat ((1:Int),(⟨#[97]⟩:ByteArray)).1 ((1:Int),(⟨#[97]⟩:ByteArray)).2=true from OR];have hSd:=hS.iR bd;refine iO ?_
 (refine js 7 rfl (q:=?_);refine js 8 rfl (q:=?_);refine js 9 rfl (q:=?_);refine js 10 rfl (q:=?_);refine js 11 rfl (q:=?_))
 refine im ?_;have c10:=c9.iR hSd;replace el5:=el5.ij (ib.ic hSd) (fun _ _ hl=>hl) (fun _ h=>h) (fun _ _ h=>h);clear hE h9;refine gY ?_;refine jR (hs:=j9) (cs:=[Iq 1]) fun g1 we f1=>?_;have x1:h_ 3 we g1 [Iq 1]:=f1.blk;have e1:=f1.below;clear f1;refine gY ?_;refine il func19 (FA (el5.ij (ib.ic e1) (fun _ _ hl=>hl) (fun _ h=>h) (fun _ _ h=>h)) (l2:=[1]) (O2:=fun _=>True) ⟨_,_,rfl,af _,by show(1:Nat) <= _;omega,(fun h=>by cases h),fun _=>⟨g1,0,rfl,h_.lt x1,trivial,fun j hj=>?_⟩⟩) ?_
 ·have U7:j=0:=by have:j<1:=hj;omega
  subst U7;exact⟨[Iq 1],rfl,rfl,h_.rangeAt x1⟩
 rintro _ wf ⟨rfl,bf⟩;refine⟨_,rfl,?_⟩;have e1f:=e1.iR bf;refine gY ?_;refine WL.J5 [Iq 1,Iq 2] rfl rfl rfl rfl rfl rfl (by kernel_rfl) fun g2 wg f2=>?_;have x2:h_ 3 wg g2 [Iq 1,Iq 2]:=f2.blk;have e2:=f2.below;clear f2;have e1g:=e1f.iR e2;refine gY ?_;refine il func19 (FA (el7.ij (ib.ic e1g) (fun _ _ hl=>hl) (fun _ h=>h) (fun _ _ h=>h)) (l2:=[1,2]) (O2:=fun _=>True) ⟨_,_,rfl,af _,by show(2:Nat) <= _;omega,(fun h=>by cases h),fun _=>⟨g2,0,rfl,h_.lt x2,trivial,fun j hj=>?_⟩⟩) ?_
 ·have hr:=h_.rangeAt x2
  have th:j<2:=hj
  match j,th with
  | 0,_=>exact⟨[Iq 1],rfl,rfl,fun i u hu=>by
    have h0:i=0:=by have:i<1:=(cB.1 hu).1;omega
    subst h0;exact hr 0 u hu⟩
  | 1,_=>exact⟨[Iq 2],rfl,rfl,fun i u hu=>by
    have h0:i=0:=by have:i<1:=(cB.1 hu).1;omega
    subst h0;exact hr 1 u hu⟩
 rintro _ wh ⟨rfl,bh⟩;refine⟨_,rfl,?_⟩;refine gY ?_;exact g_ ⟨rfl,c10.trans ((e1g.iR bh).mono c10.size)⟩
end Ix
namespace Ix
open K
open Vw (r_)
theorem SS {v:V}(hs:o_ f v) {n:Nat}(h:¬2000<grt 2000 f v n): chk 16 v=0 -> (me 16 [v]).length <= 70368744177664:=fun hc=>by
 have h1:=(KI (B:=2000) f 16 v n hs hc gZ).2;have h2:=Ga 16 16 hc;rw[CV,aS];omega
theorem Zs {p:Option Addr}: Calls prog 8 #[.pointer none,.pointer p,.agg bc.toArray] w fun e w'=>e=.returned (.tuple #[]) /\ iB w w':=by
 refine iY (args:=[.pointer none,.pointer p,.agg bc.toArray]) func8 ntmps8 ?_;refine ku ?_;refine iC fun g1 w1 f1=>?_;have b1:=f1.below;refine gY ?_;refine jc ?_;refine gY ?_;exact WQ.Wp rfl ⟨rfl,b1⟩
theorem T3 {t:Int}{f:ByteArray}: Calls prog 31 #[.pointer none,Iq t,.string f] w fun e w'=>e=.returned (.pointer none) /\ w'=w:=by
 refine iY func31 ntmps31 ?_;refine gY ?_;refine jc ?_;refine gY ?_;exact g_ ⟨rfl,rfl⟩
theorem XJ {t:Int}{f:ByteArray}: Calls prog 9 #[.pointer none,Iq t,.string f,.agg cs.toArray] w fun e w'=>e=.returned (.tuple #[.slice none 0 0,.bool false]) /\ iB w w':=by
 refine iY (args:=[.pointer none,Iq t,.string f,.agg cs.toArray]) func9 ntmps9 ?_;refine ku ?_;refine iC fun g1 w1 f1=>?_;have b1:=f1.below;clear f1;refine gY ?_;refine i_ func31 T3 ?_;rintro _ rfl
 refine gY ?_;refine jc ?_;refine gY ?_;exact WQ.nC rfl rfl rfl ⟨rfl,b1⟩
theorem Y9 {t:Int}{f:ByteArray}{ds:List Value}: Calls prog 10 #[.pointer none,Iq t,.string f,.agg cs.toArray,.agg ds.toArray] w fun e w'=>e=.returned (.tuple #[.slice none 0 0,.bool false]) /\ iB w w':=by
 refine iY (args:=[.pointer none,Iq t,.string f,.agg cs.toArray,.agg ds.toArray]) func10 ntmps10 ?_;refine ku ?_;refine iC fun g1 w1 f1=>?_;have b1:=f1.below;clear f1;refine iC fun g2 w2 f2=>?_;have b2:=b1.iR f2.below;clear f2 b1;refine gY ?_;refine i_ func31 T3 ?_;rintro _ rfl
 refine gY ?_;refine jc ?_;refine gY ?_;exact WQ.nC rfl rfl rfl ⟨rfl,b2⟩
theorem ag5 {t:Int}{f:ByteArray}: Calls prog 12 #[.pointer none,Iq t,.string f] w fun e w'=>e=.returned (Iq 0) /\ w'=w:=by
 refine iY func12 ntmps12 ?_;refine gY ?_;refine i_ func31 T3 ?_;rintro _ rfl
 refine i_ func36 MJ ?_;rintro _ rfl
 refine gY ?_;exact g_ ⟨rfl,rfl⟩
theorem af9: Calls prog 28 #[.pointer none] w fun e w'=>e=.returned (.slice none 0 0) /\ w'=w:=by
 refine iY func28 ntmps28 ?_;refine gY ?_;refine jc ?_;refine gY ?_;exact g_ ⟨rfl,rfl⟩
theorem agf: Calls prog 24 #[.pointer none] w fun e w'=>e=.returned (.pointer none) /\ w'=w:=by
 refine iY func24 ntmps24 ?_;refine gY ?_;refine jc ?_;refine gY ?_;exact g_ ⟨rfl,rfl⟩
theorem ZK: Calls prog 11 #[.pointer none] w fun e w'=>∃sb mb S,e=.returned (iF sb) /\ oA w' sb mb 0 S (fun _=>none) (gS r_) /\ iB w w':=by
 refine iY func11 ntmps11 ?_;refine gY ?_;refine WL.mkMap rfl rfl rfl rfl ?_;have m1:MF prog Cj Cat.mk (w.alloc (.map #[] 0)) w.heap.size 0 (fun _=>none):=MF.made _ _ _ _;have b1:iB w (w.alloc (.map #[] 0)):=(Below.refl _ w).alloc (af _) _;generalize w.alloc (.map #[] 0)=w1 at m1 b1 ⊢;refine iE [Value.map (some w.heap.size)] (by kernel_rfl) ?_;refine iC fun sb w2 f2=>?_;have v2:h_ WN w2 sb [.map (some w.heap.size)]:=f2.blk;have m2:=m1.iP (f2.below.block _ m1.lt);have b2:=b1.iR f2.below;clear f2 m1 b1;have s2:oA w2 sb w.heap.size 0 (fun b=>b=sb \/ b=w.heap.size) (fun _=>none) (gS r_):=⟨v2,m2.congr fun _=>rfl,⟨fun _ _ e=>(by cases e),fun _ _ _ e=>(by cases e),fun _ _ _ _ _ e=>(by cases e),.inr rfl,fun _ _ e=>(by cases e),fun b hb=>by
  rcases hb with rfl|rfl
  ·exact h_.lt v2
  ·exact m2.lt⟩,.inl rfl,fun _ _ e=>(by cases e)⟩
 refine gY ?_;refine il func24 agf ?_;rintro _ wx ⟨rfl,e⟩;subst e;refine⟨_,rfl,?_⟩;refine il func28 af9 ?_;rintro _ wx ⟨rfl,e⟩;subst e;refine⟨_,rfl,?_⟩;refine gY ?_;refine WC.loop (fun _:Unit=>[(3,iF sb),(14,Iq 0),(15,Iq 0)]) (fun _ wz=>oA wz sb w.heap.size 0 (fun b=>b=sb \/ b=w.heap.size) (fun _=>none) (gS r_) /\ iB w wz) (fun _=>0) () iW ⟨s2,b2⟩ ?_;clear s2 b2;rintro⟨⟩ wz ⟨s2,b2⟩;refine gY ?_;exact g_ ⟨sb,_,_,rfl,s2,b2⟩
end Ix
end Go.Proofs.YtlenklobbngopaaGreat
