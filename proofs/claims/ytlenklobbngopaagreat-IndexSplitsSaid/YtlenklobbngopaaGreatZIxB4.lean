/- Texts for IxB, part 4 of 11. -/
import Derived.Test.YtlenklobbngopaaGreatZIxB3
set_option maxHeartbeats 64000000
set_option maxRecDepth 100000
set_option linter.all false
namespace Go.Proofs.YtlenklobbngopaaGreat
open _root_.Go.Proofs.Tryz
open Go.RowKit
variable {g T m b o rc c j i cap dr t2 f rb N:Nat}{cs:Array Value}{x y:Operand}{w w' w5:World}{oi:Oper}{a tbl:Int}{O O' D M:Nat -> Prop}{tv sO mv xv:Value}{cells xh dc A B C:List Value}{eF:TypeId}{txt:ByteArray}{α:Type}
namespace K
section
variable {fn:Func}{R:Ending -> World -> Prop}{l:Env}{w:World}
theorem WQ.vF {kn:Nat}{md:Option (Option Nat)}{p q:Nat}{y9:TypeId}{cs:List Value}{x:Value}(hr:fn.results=#[.cell p y9,.tmp q]) (hl:look l p=some (iF g)) (hq:look l q=some x) (ht:cellsN (tyOf ty y9)=some m) (hm:cs.length=m) (hb:h_ T w g cs) (h:R (.returned (.tuple #[.agg cs.toArray,x])) w): WQ ⟨kn,[],md⟩ (bodyPost prog fn R) .ret l w :=
 ⟨fun a ha=>⟨ha.defers,_,by
  obtain⟨_,hu,VT,j5⟩:=rK mV ht;have hp:=ha.getD hl;have hx:=ha.getD hq;simp only[bS] at hp hx;have:=eA (P:=prog) w g 0 y9 cs _ (h_.rangeAt hb) hu VT (by rw[j5,hm]);simp[results,hr,hp,hx,asAddr,this],h⟩⟩
end
theorem NC {a0 a1 a2 a3:Value}(h0:w.cell? ⟨b,o,none⟩=some a0) (h1:w.cell? ⟨b,o+1,none⟩=some a1) (h2:w.cell? ⟨b,o+2,none⟩=some a2) (h3:w.cell? ⟨b,o+3,none⟩=some a3): w.rangeAt b o [a0,a1,a2,a3]:=by
 intro j u hu
 match j,hu with
 | 0,hu=>cases hu;exact h0
 | 1,hu=>cases hu;exact h1
 | 2,hu=>cases hu;exact h2
 | 3,hu=>cases hu;exact h3
 | k+4,hu=>simp at hu
end K
namespace Cr
open K Cat
section
variable {n:NN}{Q:Exit -> Act -> World -> Prop}{l:Env}{w:World}{ops:Array Oper}{d:Nat}{S:World -> Prop}{m fuel:Nat}{iw:Array Bool}
theorem uh {t:Nat}{parts:List (Nat × Operand)}{ps:List (Nat × Value)}(cells:List Value) (i:Nat) (hi:ops[i]? = some oi) (hs:uw ops iw i m=true) (hd:oi.dst=some d) (hn:Nat.blt d n.n=true) (hQ:Passes Q) (hw:wants ops l oi=some true) (ho:oi.op=.build t parts.toArray) (hp:evlParts l parts=some ps) (hf:prog.built t ps=some cells.toArray) (hS:iw.getD m false=true \/ S w) (h:WD n ops Q S m fuel (iw.setIfInBounds i true) ((d,.agg cells.toArray) :: l) w): WD n ops Q S m (fuel+1) iw l w :=
 K.WD.first i hi hs hd hn hQ (fun a ha=>.inl ⟨m0 ha hw,fun w _=>by
  unfold execOp;rw[ho];have:=run_build (P:=prog) w t (parts.toArray.map fun(i,x)=>(i,a.eval x)) cells.toArray (by
   rw[show(parts.toArray.map fun(x:Nat × Operand)=>(x.1,a.eval x.2)).toList=ps by rw[dZ];exact rA ha hp];exact hf)
  simp only[bA,this,bm]
  rfl⟩) hS h
end
abbrev wC:Nat:=121
abbrev Yd:Nat:=52
abbrev xL:Nat:=9
theorem kC {K:Nat -> Prop}{a:World}(h:ib K a w) (hg:¬K g) (cs:Array Value): ib K a (w.setRow g cs) :=
 ⟨h.os,h.tape,h.output,by simpa using h.size,fun k hk=>(setRow_other w g k cs (fun e=>hg (e ▸ hk))).trans (h.block k hk)⟩
structure RC (w:World) (rc:Nat) (O:Nat -> Prop) (L:List Tb) (tv:Value) (cells:List Value):Prop where
 vb:h_ Yd w rc [tv]
 own:iK wC 4 w O tv L.length cells
 lj:∀i,i<L.length -> lT xL w O cells i (L.getD i iX)
 rc:O rc
 lt:∀b,O b -> b<w.heap.size
 nk:Cat.Good L
def pU (w:World) (rc:Nat) (O:Nat -> Prop) (L:List Tb):Prop:=∃tv cells,RC w rc O L tv cells
theorem RC.ij {L:List Tb}(h:RC w rc O L tv cells) {K:Nat -> Prop}(hk:ib K w w') (hK:∀b,O b -> K b): RC w' rc O L tv cells :=
 ⟨h.vb.ij hk (hK _ h.rc),h.own.ij hk fun g hg=>hK g (h.own.own hg),fun i hi=>(h.lj i hi).iP fun b hb _=>hk.block b (hK b hb),h.rc,fun b hb=>ak (h.lt b hb) hk.size,h.nk⟩
theorem RC.below {L:List Tb}(h:RC w rc O L tv cells) (hk:iB w w'): RC w' rc O L tv cells:=h.ij (ib.ic hk) h.lt
theorem pU.ij {L:List Tb}(h:pU w rc O L) {K:Nat -> Prop}(hk:ib K w w') (hK:∀b,O b -> K b): pU w' rc O L:=by obtain⟨tv,cells,h⟩:=h;exact⟨tv,cells,h.ij hk hK⟩
theorem pU.below {L:List Tb}(h:pU w rc O L) (hk:iB w w'): pU w' rc O L:=by obtain⟨tv,cells,h⟩:=h;exact⟨tv,cells,h.below hk⟩
theorem pU.lt {L:List Tb}(h:pU w rc O L): ∀b,O b -> b<w.heap.size:=by obtain⟨tv,cells,h⟩:=h;exact h.lt
theorem OA {L:List Tb}{id:Int}: (∃k:Nat,k<L.length /\ id=(k:Int)+1 /\ there L id = !(L.getD k iX).dropped) \/ ((id<1 \/ (L.length:Int)<id) /\ there L id=false):=by
 by_cases h1:1 <= id
 ·by_cases h2:id <= L.length
  ·refine .inl ⟨(id - 1).toNat,gZ,gZ,?_⟩
   unfold there;rw[decide_eq_true h1,decide_eq_true h2];simp
  ·refine .inr ⟨.inr gZ,?_⟩
   unfold there;rw[decide_eq_false h2];simp
 ·refine .inr ⟨.inl gZ,?_⟩
  unfold there;rw[decide_eq_false h1];simp
theorem Ap {L:List Tb}(h:RC w rc O L tv cells) (id:Int):
  Calls prog 43 #[iF rc,Iq id] w fun e w'=>w'=w /\
   ((there L id=false /\ e=.returned (.pointer none)) \/ ∃k g cap,k<L.length /\ id=(k:Int)+1 /\ there L id=true /\ (L.getD k iX).dropped=false /\ tv=.slice (some ⟨g,0,none⟩) L.length cap /\ e=.returned (.pointer (some ⟨g,k*4,none⟩))):=by
 have hlen:=h.nk.len;rcases OA (L:=L) (id:=id) with⟨k,hk,rfl,ht⟩|⟨ho,ht⟩
 ·obtain⟨g,cap,rfl,-,-,-,-,c0,c1,c2,sp,c,c3,-⟩:=mF h.own hk (h.lj k hk)
  have cv:=h.vb.cell 0 iz;simp only[al] at cv;generalize ht0:L.getD k iX=t at ht c0 c1 c2 c3;refine iY func43 ntmps43 ?_;cases hd:t.dropped with
  | true=>
   rw[hd] at c2 ht;refine iu ?_;refine iG (hz:=gZ) (hq:=gZ) k (k*4) hk ?_;refine iu ?_;exact g_ ⟨rfl,.inl ⟨ht,rfl⟩⟩
  | false=>
   rw[hd] at c2 ht;refine iu ?_;refine iG (hz:=gZ) (hq:=gZ) k (k*4) hk ?_;refine iu ?_;refine iG (hz:=gZ) (hq:=gZ) k (k*4) hk ?_;refine iu ?_;exact g_ ⟨rfl,.inr ⟨k,g,cap,hk,rfl,ht,by rw[ht0,hd],rfl,rfl⟩⟩
 ·obtain⟨sp,cap,rfl,-,-⟩:=h.own.slice
  have cv:=h.vb.cell 0 iz;simp only[al] at cv;refine iY func43 ntmps43 ?_;rcases ho with ho|ho
  ·refine iu ?_
   exact g_ ⟨rfl,.inl ⟨ht,rfl⟩⟩
  ·by_cases h1:id<1
   ·refine iu ?_
    exact g_ ⟨rfl,.inl ⟨ht,rfl⟩⟩
   ·refine iu ?_
    exact g_ ⟨rfl,.inl ⟨ht,rfl⟩⟩
theorem KQ (s:ByteArray) (w:World): Calls prog 139 #[.string s] w fun e w'=>w'=w /\ e=.returned (.bool (uo s)):=by
 refine iY func139 ntmps139 ?_;unfold uo
 by_cases h1:1 <= s.size
 ·by_cases h2:s.size <= 40
  ·refine gY ?_
   exact WQ.uT rfl rfl ⟨rfl,by simp[h1,h2]⟩
  ·refine gY ?_
   exact WQ.uT rfl rfl ⟨rfl,by simp[h2]⟩
 ·refine gY ?_
  exact WQ.uT rfl rfl ⟨rfl,by simp[h1]⟩
def Wq (w:World) (O:Nat -> Prop) (r:Int × Tb × Int) (e:Ending) (w':World):Prop :=
 ∃fv,e=.returned (.tuple #[.agg #[Iq r.1,.string r.2.1.name,.bool r.2.1.dropped,fv],Iq r.2.2]) /\ iK xL 1 w' O fv r.2.1.fs.length (r.2.1.fs.map Value.string) /\ iB w w'
def qP:List Value:=[Iq 0,.string ByteArray.empty,.bool false,.slice none 0 0]
theorem xa (w:World): (zeroValue wC).run prog w=.ok (.agg qP.toArray) w:=by kernel_rfl
theorem RK: prog.built wC []=some qP.toArray:=by kernel_rfl
theorem pw {b:ByteArray}{c:Bool}{v:Value}(hv:v.oneCell'=true): kj [Iq a,.string b,.bool c,v]:=fun u hu=>by
 simp at hu
 rcases hu with rfl|rfl|rfl|rfl<;>first|rfl|exact hv
theorem iK.one {e:TypeId}{v:Value}{n:Nat}{l:List Value}(h:iK e m w O v n l): v.oneCell'=true:=by obtain⟨_,_,rfl,-⟩:=h.slice;rfl
theorem Al {L:List Tb}(h:pU w rc O L) (id:Int): Calls prog 110 #[iF rc,Iq id] w (Wq w O (ju L id)):=by
 obtain⟨tv,cells,h⟩:=h;have hlen:=h.nk.len;obtain⟨OY,DT,rfl,-,-⟩:=h.own.slice;refine iY func110 ntmps110 ?_;refine ku ?_;refine ix (z:=.agg qP.toArray) xa fun g w1 f1=>?_;have h1:=h.below f1.below;have cv:=h1.vb.cell 0 iz;simp only[al] at cv;have bz:=f1.blk;have b1:=f1.below;have eg:=f1.eq
 by_cases o8:1 <= id /\ id <= L.length
 ·obtain⟨hi1,u_⟩:=o8
  obtain⟨k,rfl⟩:∃k:Nat,id=(k:Int)+1:=⟨(id - 1).toNat,gZ⟩;have hk:k<L.length:=gZ;have hr:ju L ((k:Int)+1)=((k:Int)+1,L.getD k iX,0):=by
   unfold ju;rw[if_pos ⟨gZ,gZ⟩,show((k:Int)+1 - 1).toNat=k by omega]
  rw[hr];obtain⟨g',cap,es,-,-,-,-,c0,c1,c2,sp,c,c3,iJ⟩:=mF h1.own hk (h1.lj k hk);obtain⟨rfl,rfl⟩:OY=some ⟨g',0,none⟩ /\ DT=cap:=by simpa using es
  clear es;generalize L.getD k iX=t at c0 c1 c2 c3 iJ ⊢;refine iu ?_;refine iG (hz:=gZ) (hq:=gZ) k (k*4) hk ?_;refine ig (NC c0 c1 c2 c3) rfl ?_;refine ir bz (pw rfl) ?_;have kD:ib (fun b=>b<w.heap.size) w (w1.setRow g [Value.int .i64 ((k+1:Nat):Int),.string t.name,.bool t.dropped,.slice sp t.fs.length c].toArray):=kC (ib.ic b1) (fun hk=>by omega) _;refine gY ?_;refine WQ.vF rfl rfl rfl rfl rfl (bz.setRow _) ⟨.slice sp t.fs.length c,rfl,iJ.iP fun b hb=>?_,kD.below⟩;have:=h.lt b (iJ.own hb);exact dC w1 g b _ gZ
 ·have hr:ju L id=(0,iX,7):=by unfold ju;rw[if_neg o8]
  rw[hr];have fin:∀(v:Value),v=.agg qP.toArray -> True:=fun _ _=>trivial;clear fin;have hx:id<1 \/ (¬id<1 /\ (L.length:Int)<id):=gZ;rcases hx with hx|⟨hx,hy⟩
  all_goals
   refine iu ?_;refine iE qP RK ?_;refine ir bz (pw rfl) ?_;have kD:ib (fun b=>b<w.heap.size) w (w1.setRow g qP.toArray):=kC (ib.ic b1) (fun hk=>by omega) _;refine gY ?_;exact WQ.vF rfl rfl rfl rfl rfl (bz.setRow _) ⟨.slice none 0 0,rfl,iK.nil _ _ _ _,kD.below⟩
open K Cat
theorem WX (a b:ByteArray): (a.toList == b.toList)=decide (a=b):=by
 by_cases h:a=b
 ·subst h;simp
 ·rw[decide_eq_false h]
  simpa using fun e=>h (Tre.JN e)
theorem UL {L:List Tb}(h:pU w rc O L) (s:ByteArray): Calls prog 140 #[iF rc,.string s] w (Wq w O (qR L s)):=by
 obtain⟨tv,cells,h⟩:=h;have hlen:=h.nk.len;obtain⟨OY,DT,rfl,-,-⟩:=h.own.slice;refine iY func140 ntmps140 ?_;refine ku ?_;refine ix (z:=.agg qP.toArray) xa fun g w1 f1=>?_;have h1:=h.below f1.below;have cv:=h1.vb.cell 0 iz;simp only[al] at cv;have bz:=f1.blk;have b1:=f1.below;have eg:=f1.eq;clear f1;refine gY ?_;refine WC.loop (fun i:Nat=>[(0,iF rc),(1,.string s),(4,iF g),(6,Iq i)]) (fun i w'=>w'=w1 /\ i <= L.length /\ ∀j,j<i -> rV L s j=false) (fun i=>L.length - i) 0 iW ⟨rfl,aw _,fun j hj=>absurd hj (cR j)⟩ ?_;rintro i w1 ⟨rfl,hi,mC⟩
 by_cases hk:i<L.length
 ·obtain⟨g',cap,es,-,-,-,-,c0,c1,c2,sp,c,c3,iJ⟩:=mF h1.own hk (h1.lj i hk)
  obtain⟨rfl,rfl⟩:OY=some ⟨g',0,none⟩ /\ DT=cap:=by simpa using es
  clear es;have hf:rV L s i=(decide ((L.getD i iX).name=s) && !(L.getD i iX).dropped):=rfl;have zP:rV L s i=true -> qR L s=((i:Int)+1,L.getD i iX,0):=fun hh=>Mh hk mC hh;have LV:rV L s i=false -> ∀j,j<i+1 -> rV L s j=false:=fun hh j hj=>by
   rcases aO j i with h'|h'
   ·exact mC j h'
   ·obtain rfl:j=i:=gZ
    exact hh
  generalize L.getD i iX=t at c0 c1 c2 c3 iJ hf zP ⊢;cases hd:t.dropped with
  | true=>
   rw[hd] at c2 hf;refine iu ?_;refine iG (hq:=gZ) i (i*4) hk ?_;refine iu ?_;exact WQ.again (i+1) iW ⟨rfl,hk,LV (by rw[hf];simp)⟩ gZ
  | false=>
   rw[hd] at c2 hf;refine iu ?_;refine iG (hq:=gZ) i (i*4) hk ?_;refine iu ?_;refine iG (hq:=gZ) i (i*4) hk ?_;refine iu ?_;cases hq:(t.name.toList == s.toList) with
   | true=>
    rw[WX] at hq;rw[zP (by rw[hf,hq];rfl)];refine iu ?_;refine iG (hq:=gZ) i (i*4) hk ?_;refine ig (NC c0 c1 c2 c3) rfl ?_;refine ir bz (pw rfl) ?_;have kD:ib (fun b=>b<w.heap.size) w (w1.setRow g [Value.int .i64 ((i+1:Nat):Int),.string t.name,.bool false,.slice sp t.fs.length c].toArray):=kC (ib.ic b1) (fun hk=>by omega) _;refine gY ?_;refine WQ.vF rfl rfl rfl rfl rfl (bz.setRow _) ⟨.slice sp t.fs.length c,by rw[<- hd];rfl,iJ.iP fun b hb=>?_,kD.below⟩;have:=h.lt b (iJ.own hb);exact dC w1 g b _ gZ
   | false=>
    rw[WX] at hq;refine iu ?_;exact WQ.again (i+1) iW ⟨rfl,hk,LV (by rw[hf,hq];rfl)⟩ gZ
 ·obtain rfl:i=L.length:=gZ
  rw[M9 mC];refine iu ?_;refine iE qP RK ?_;refine ir bz (pw rfl) ?_;have kD:ib (fun b=>b<w.heap.size) w (w1.setRow g qP.toArray):=kC (ib.ic b1) (fun hk=>by omega) _;refine gY ?_;exact WQ.vF rfl rfl rfl rfl rfl (bz.setRow _) ⟨.slice none 0 0,rfl,iK.nil _ _ _ _,kD.below⟩
theorem acI {e:TypeId}{v:Value}{l:List ByteArray}(h:iK e 1 w O v l.length (l.map Value.string)) (hj:j<l.length): ∃g cap,v=.slice (some ⟨g,0,none⟩) l.length cap /\ w.cell? ⟨g,j,none⟩=some (.string (l.getD j ByteArray.empty)):=by
 rcases h.form with⟨-,h0,-⟩|⟨g,cap,cur,rfl,-⟩
 ·omega
 ·refine⟨g,cap,rfl,?_⟩
  rw[h.at j (by simpa using hj)];simp[hj]
theorem Ni {L:List Tb}(h:pU w rc O L) (id:Int) (f:ByteArray): Calls prog 17 #[iF rc,Iq id,.string f] w fun e w'=>w'=w /\ e=.returned (.bool (has L id f)):=by
 obtain⟨tv,cells,h⟩:=h;have hlen:=h.nk.len;refine iY func17 ntmps17 ?_;refine gY ?_;refine il func43 (Ap h id) ?_;rintro _ w1 ⟨rfl,⟨ht,rfl⟩|⟨k,g,cap,hk,rfl,ht,zf,rfl,rfl⟩⟩
 ·refine⟨_,rfl,?_⟩
  rw[J_ h.nk id f ht];refine gY ?_;refine WC.loop (fun _:Unit=>[(7,.pointer none),(8,Iq 0)]) (fun _ w'=>w'=w1) (fun _=>0) () iW rfl ?_;rintro⟨⟩ w1 rfl;refine gY ?_;refine WL.qp rfl rfl rfl rfl rfl rfl (by kernel_rfl) ?_;refine gY ?_;exact g_ ⟨rfl,rfl⟩
 ·refine⟨_,rfl,?_⟩
  have hh:has L ((k:Int)+1) f=mem (L.getD k iX).fs f:=by
   unfold has;rw[decide_eq_true (by omega:1 <= (k:Int)+1),decide_eq_true (by omega:(k:Int)+1 <= L.length),show((k:Int)+1 - 1).toNat=k by omega]
   rfl
  rw[hh];have rN:=(h.nk.each k hk).2.1;obtain⟨g',oc,es,-,-,-,-,c0,c1,c2,sp,c,c3,iJ⟩:=mF h.own hk (h.lj k hk);obtain⟨rfl,rfl⟩:g=g' /\ cap=oc:=by simpa using es
  clear es;generalize L.getD k iX=t at c0 c1 c2 c3 iJ rN zf ⊢;refine gY ?_;refine WC.loop (fun i:Nat=>[(2,.string f),(7,.pointer (some ⟨g,k*4,none⟩)),(8,Iq i)]) (fun i w'=>w'=w1 /\ i <= t.fs.length /\ ∀j,j<i -> t.fs.getD j ByteArray.empty≠f) (fun i=>t.fs.length - i) 0 iW ⟨rfl,aw _,fun j hj=>absurd hj (cR j)⟩ ?_;rintro i w1 ⟨rfl,hi,mC⟩
  by_cases iS:i<t.fs.length
  ·obtain⟨g2,Z6,es,ci⟩:=acI iJ iS
   obtain⟨rfl,rfl⟩:sp=some ⟨g2,0,none⟩ /\ c=Z6:=by simpa using es
   clear es;have hq0:∀x,t.fs.getD i ByteArray.empty=x -> x=f -> mem t.fs f=true:=fun x hx hf=>by
    rw[mem_iff,<- hf,<- hx,ag,ah iS];exact aN iS
   have LV:t.fs.getD i ByteArray.empty≠f -> ∀j,j<i+1 -> t.fs.getD j ByteArray.empty≠f:=fun hh j hj=>by
    rcases aO j i with h'|h'
    ·exact mC j h'
    ·obtain rfl:j=i:=gZ
     exact hh
   generalize t.fs.getD i ByteArray.empty=x at ci hq0 LV;refine gY ?_;refine WL.qp rfl rfl rfl rfl rfl rfl (by kernel_rfl) ?_;refine iu ?_;refine iG (hq:=gZ) i (i*1) iS ?_;have ci':w1.cell? ⟨g2,i*1,none⟩=some (.string x):=by rw[cP];exact ci
   refine iu ?_;cases hq:(x.toList == f.toList) with
   | true=>
    rw[WX] at hq;rw[hq0 x rfl (of_decide_eq_true hq)];refine iu ?_;exact g_ ⟨rfl,rfl⟩
   | false=>
    rw[WX] at hq;refine iu ?_;exact WQ.again (i+1) iW ⟨rfl,iS,LV (of_decide_eq_false hq)⟩ gZ
  ·obtain rfl:i=t.fs.length:=gZ
   have hm:mem t.fs f=false:=by
    cases hq:mem t.fs f with
    | false=>rfl
    | true=>
     rw[mem_iff] at hq;obtain⟨j,hj,e⟩:=dT.1 hq;refine absurd ?_ (mC j hj);rw[ag,ah hj,eY];exact e
   rw[hm];refine gY ?_;refine WL.qp rfl rfl rfl rfl rfl rfl (by kernel_rfl) ?_;refine iu ?_;exact g_ ⟨rfl,rfl⟩
end Cr
open Go.Maps
namespace Cat
theorem lT.mono {t:Tb}(h:lT eF w O cells i t) (hO:∀b,O b -> O' b): lT eF w O' cells i t :=
 ⟨h.1,h.2.1,h.2.2.1,h.2.2.2.mono hO⟩
theorem lT.left {r:List Value}{t:Tb}(h:lT eF w O cells i t) (hi:i*4+4 <= cells.length): lT eF w O (cells++r) i t:=by
 obtain⟨i0,i1,i2,i3⟩:=h;refine⟨?_,?_,?_,?_⟩
 ·rw[lV _ _ _ _ gZ];exact i0
 ·rw[lV _ _ _ _ gZ];exact i1
 ·rw[lV _ _ _ _ gZ];exact i2
 ·rw[lV _ _ _ _ gZ];exact i3
theorem lT.last {k:Nat}{t:Tb}{v:Value}(hl:cells.length=k*4) (h:iK eF 1 w O v t.fs.length (t.fs.map Value.string)):
  lT eF w O (cells++[Iq (k+1:Nat),.string t.name,.bool t.dropped,v]) k t:=by
 unfold lT;rw[<- hl];exact⟨mq cells _ 0 _,mq cells _ 1 _,mq cells _ 2 _,by rw[mq cells _ 3 _];exact h⟩
def Wf (w:World) (L:List Tb) (i l:Value) (wr:World):Prop :=
 ∃(k:Nat) (sp:Option Addr) (cap:Nat) (cells:List Value),k <= L.length /\ i=Iq (k:Nat) /\ l=.slice sp k cap /\ iB w wr /\
  iK 98 4 wr (fun b=>w.heap.size <= b) (.slice sp k cap) k cells /\ ∀j,j<k -> lT 100 wr (fun b=>w.heap.size <= b) cells j (L.getD j iX)
theorem Zh {wr w2:World}{L:List Tb}{k:Nat}{t:Tb}{sp sj xy:Option Addr}{c2 c5:Nat}{row:List Value}(hk:k<L.length) (ht:t=L.getD k iX) (hb:iB w wr) (hT:iK 98 4 wr (fun b=>w.heap.size <= b) (.slice sp k cap) k cells) (hI:∀j,j<k -> lT 100 wr (fun b=>w.heap.size <= b) cells j (L.getD j iX)) (ji:row=[Iq (k+1:Nat),.string t.name,.bool t.dropped,.slice sj t.fs.length c2]) (jg:iB wr w2) (iJ:iK 100 1 w2 (fun b=>wr.heap.size <= b) (.slice sj t.fs.length c2) t.fs.length (t.fs.map Value.string)) (h5:iK 98 4 w5 (fun g=>w.heap.size <= g \/ g=(w2.alloc (.cells row.toArray 98)).heap.size) (.slice xy (k+1) c5) (k+1) (cells++row)) (hg:(w2.alloc (.cells row.toArray 98)).grownBy w5 (Value.slice sp k cap).ownBlock):
  Wf w L (Iq (k+1:Nat)) (.slice xy (k+1) c5) w5:=by
 subst ji;have hw:=hb.size;have lQ:=jg.size;have qS:∀b,b<w2.heap.size -> (Value.slice sp k cap).ownBlock≠some b -> w5.heap[b]? = w2.heap[b]?:=fun b h1 h2=>by
  rw[hg.block b (by simp;omega) (fun e=>h2 e.symm),Below.heap_alloc _ _ _ h1]
 have oY:iB w w5:=by
  refine(hb.trans ((jg.mono hw).alloc (aU hw lQ) _)).trans ((oC hg).mono fun b (Hp:b<w.heap.size)=>⟨by simp;omega,fun e=>?_⟩).below;have:=hT.own e;omega
 have zP:∀b (cur:Array Value),w2.heap[b]? = some (Obj.cells cur 100 (0,0)) -> w5.heap[b]? = w2.heap[b]?:=fun b cur kI=>by
  refine qS b (lt_of_block kI) fun e=>?_;obtain⟨apj,IP⟩:=hT.tag e;have h1:=lt_of_block IP;rw[<- jg.block b h1] at IP;exact kN IP kI j9 rfl
 have hlen:=hT.len;refine⟨k+1,xy,c5,_,gZ,rfl,rfl,oY,h5.mono (fun b hb=>?_),fun j hj=>?_⟩
 ·rcases hb with hb|rfl
  ·exact hb
  ·show w.heap.size <= _;simp;omega
 ·by_cases DR:j<k
  ·refine lT.left ((hI j DR).iP fun b Es ⟨cur,kI⟩=>?_) gZ
   have h1:=lt_of_block kI;have h2:=jg.block b h1;rw[zP b cur (by rw[h2];exact kI),h2]
  ·have e:j=k:=gZ
   subst e;rw[<- ht];refine lT.last hlen ?_;refine(iJ.iP fun g U2=>?_).mono (fun b (Hp:wr.heap.size <= b)=>aU hw Hp);obtain⟨cur,kI⟩:=iJ.tag U2;exact zP g cur kI
theorem ub {n:Nat}{L:List Tb}(h:ln w c O n L):
  Calls prog 28 #[iF c] w fun e w'=>∃sp cap,e=.returned (.slice sp L.length cap) /\ r6 98 100 w' (fun b=>w.heap.size <= b) (.slice sp L.length cap) L /\ iB w w':=by
 have hlen:=h.nk.len;have rN:=fun i hi=>(h.nk.each i hi).2.1;have H0:=iH.mk h;have HF:=iH.mk rN;obtain⟨tv,dr,mb,hc,-,-,-,⟨cells,hT,hI⟩,-,-,hG⟩:=h;obtain⟨sp,cap,rfl,uN,oG⟩:=hT.slice;have c0:=hc.cell 0 iz;simp only[al] at c0;have HT:=iH.mk hT;have HI:=iH.mk hI;clear hc hT hI hG rN
 go_enter func28,ntmps28
 go_wp2_with fail
 go_loopw [13,3] (fun i l wr=>Wf w L i l wr) (fun i _ _=>L.length - (intOf i).toNat)
 case atStart=>exact⟨0,none,0,[],gZ,rfl,rfl,Below.refl _ _,iK.nil _ _ _ _,fun j hj=>by omega⟩
 case round=>
  obtain⟨k,ly,awo,lc,hk,rfl,rfl,jC,hTl,hIl⟩:=hrel;have sJ:=HT.out.ij (ib.ic jC) (fun g hg=>HT.out.lt hg);have TM:=fun i hi=>(HI.out i hi).iP fun b hb _=>jC.block b (H0.out.lt b hb)
  by_cases tc:k<L.length
  ·have ah2:(k:Int)<L.length:=gZ
   obtain⟨t,ht⟩:∃t,t=L.getD k iX:=⟨_,rfl⟩;have vK:=TM k tc;have hf:=HF.out k tc;rw[<- ht] at vK hf;obtain⟨g,oc,lU,-,-,hg,-,x0,x1,x2,sL,cc,x3,iJ⟩:=mF sJ tc vK;obtain⟨rfl,rfl⟩:sp=some ⟨g,0,none⟩ /\ cap=oc:=by simpa using lU
   have CG:=iH.mk iJ;have Ht:=iH.mk ht;have XC:=iH.mk jC;have HTl:=iH.mk hTl;have HIl:=iH.mk hIl;clear sJ TM vK iJ lU ht jC hTl hIl
   go_wp2_with fail
   have PM:=CG.out.alloc (.cells #[Iq ((k:Int)+1),.string t.name,.bool t.dropped,.slice sL t.fs.length cc] 98);refine(Jl _ _ _ _ PM.DC gZ).mono ?_;rintro e w2 ⟨sj,c2,rfl,qV,jg⟩;have Hb2:=iH.mk (((Below.refl _ wr).alloc (af _) _).trans (jg.mono iz));have amh:=iH.mk (qV.mono (O':=fun b=>wr.heap.size <= b) (fun b (hb:_ <= b)=>aU iz hb));have anu:=iH.mk ((HTl.out.ij (ib.ic Hb2.out) (fun g hg=>HTl.out.lt hg)).alloc (.cells #[Iq (k+1:Nat),.string t.name,.bool t.dropped,.slice sj t.fs.length c2] 98));have Hsl:=iH.mk (n_.fresh w2 (fun _=>True) 98 (m:=4) (n:=1) (l:=[Iq (k+1:Nat),.string t.name,.bool t.dropped,.slice sj t.fs.length c2]) rfl (fun u hu=>by simp at hu;rcases hu with rfl|rfl|rfl|rfl<;>rfl) trivial (by unfold maxLen;omega));clear jg qV PM x0 x1 x2 x3 c0 hg
   go_wp2_with (refine uX rfl (.tmp 17) (.tmp 20) 94 rfl KF rfl anu.out rfl Hsl.out (n':=k+1) rfl (by unfold maxLen;omega) gZ ?_;intro xy c5 w5 xO vC j6)
   have Hst:=iH.mk (Zh tc Ht.out XC.out HTl.out HIl.out rfl Hb2.out amh.out xO vC);clear xO vC j6
   go_roundw
   case rel=>exact Hst.out
   case measure=>simp[intOf];omega
  ·have qY:decide ((k:Int)<L.length)=false:=decide_eq_false gZ
   obtain rfl:k=L.length:=gZ;have XC:=iH.mk jC;have HTl:=iH.mk hTl;have HIl:=iH.mk hIl;clear sJ TM jC hTl hIl c0
   go_wp2_with fail
   go_ret
   exact⟨_,_,rfl,⟨_,HTl.out,HIl.out⟩,XC.out⟩
theorem or_eq (dr k:Nat) (hd:dr<18446744073709551616) (hk:k<64): bits BinOp.or IntKind.u64 (dr:Int) (IntKind.u64.wrap (2 ^ min (IntKind.u64.wrap (IntKind.i64.wrap (k:Int))).toNat 64))=((dr ||| 2 ^ k:Nat):Int):=by
 have h1:IntKind.i64.wrap (k:Int)=k:=bG _ gZ;have h2:(IntKind.u64.wrap (k:Int)).toNat=k:=by rw[aW];omega
 have h3:min k 64=k:=gZ;have h4:(2:Nat) ^ k<2 ^ 64:=gE gZ hk;have h5:((2:Int) ^ k)=((2 ^ k:Nat):Int):=iz;rw[h1,h2,h3,h5];generalize 2 ^ k=p at h4 ⊢;have h6:IntKind.u64.wrap ((p:Nat):Int)=((p:Nat):Int):=by rw[aW];omega
 rw[h6];exact bits_or_u64_nat dr p hd gZ
theorem aju (dr k:Nat) (hd:dr<18446744073709551616) (hk:k<64): dr ||| 2 ^ k<18446744073709551616 :=
 Nat.or_lt_two_pow (n:=64) hd (gE gZ hk)
def Bj (L:List Tb) (k:Nat) (l:List ByteArray) (x:Int × ByteArray):Option Value:=if x.1=(k+1:Nat) /\ mem l x.2=true then none else uf L x
theorem XZ (L:List Tb) (k:Nat): Bj L k []=uf L:=by funext x;simp[Bj,AB]
theorem UJ (L:List Tb) (k:Nat) (l:List ByteArray) (f:ByteArray): xG (Bj L k l) (((k+1:Nat):Int),f)=Bj L k (l++[f]):=by
 funext x
 obtain⟨x1,x2⟩:=x;unfold xG Bj;simp only[Mw]
 by_cases h:x1=(k+1:Nat)
 ·by_cases h2:x2=f
  ·subst h;subst h2;simp
  ·have:¬((x1,x2)=(((k+1:Nat):Int),f)):=fun e=>h2 (by injection e)
   rw[if_neg this];have h3:decide (f=x2)=false:=decide_eq_false (fun e=>h2 e.symm);rw[h3,fT]
 ·have:¬((x1,x2)=(((k+1:Nat):Int),f)):=fun e=>h (by injection e)
  rw[if_neg this,if_neg (fun e=>h e.1),if_neg (fun e=>h e.1)]
theorem XU {L:List Tb}{k:Nat}(hk:k<L.length) (nm:ByteArray): Bj L k (L.getD k iX).fs=uf (L.set k ⟨nm,true,[]⟩):=by
 funext x
 obtain⟨x1,x2⟩:=x;unfold Bj uf has
 by_cases h:x1=(k+1:Nat)
 ·subst h
  have e:(((k+1:Nat):Int) - 1).toNat=k:=gZ;simp only[e,aC];have e2:(L.set k ⟨nm,true,[]⟩).getD k iX=⟨nm,true,[]⟩:=by simp[hk]
  rw[e2];cases h2:mem (L.getD k iX).fs x2<;>simp[AB]
 ·rw[if_neg (fun e=>h e.1)]
  by_cases h1:1 <= x1
  ·have e2:(L.set k ⟨nm,true,[]⟩).getD (x1 - 1).toNat iX=L.getD (x1 - 1).toNat iX:=by
    simp only[ag];rw[fj gZ]
   simp only[e2,aC]
  ·simp[h1]
theorem yK {kind:Int}(hE:E9 cs kind txt tbl): (w.alloc (.cells cs 76)).cell? ⟨w.heap.size,0,none⟩=some (Iq kind) /\
  (w.alloc (.cells cs 76)).cell? ⟨w.heap.size,1,none⟩=some (.string txt) /\ (w.alloc (.cells cs 76)).cell? ⟨w.heap.size,2,none⟩=some (Iq tbl):=by
 have ji:=heap_alloc_new w (.cells cs 76);exact⟨by rw[eE _ _ _ _ _ _ ji];exact hE.hk,by rw[eE _ _ _ _ _ _ ji];exact hE.rT,by rw[eE _ _ _ _ _ _ ji];exact hE.qT⟩
theorem lT.Uh {t:Tb}(h:lT eF w O cells i t) (hc:∀j,j<4 -> xh.getD (i*4+j) undef=cells.getD (i*4+j) undef) (hb:∀b,O b -> (∃cur,w.heap[b]? = some (.cells cur eF (0,0))) -> w'.heap[b]? = w.heap[b]?): lT eF w' O xh i t:=by
 obtain⟨i0,i1,i2,i3⟩:=h.iP hb;refine⟨(hc 0 gZ).trans i0,(hc 1 gZ).trans i1,(hc 2 gZ).trans i2,?_⟩;rw[hc 3 gZ];exact i3
theorem getD_set_ne (l:List α) (i j:Nat) (x d:α) (h:i≠j): (l.set i x).getD j d=l.getD j d:=by
 simp only[ag];rw[fj h]
theorem kX (l:List α) (i:Nat) (x d:α) (h:i<l.length): (l.set i x).getD i d=x:=by simp[h]
theorem Up {k:Nat}{L:List Tb}(h:IV dr L) (hk:k<L.length) (O3:L.length <= 64) (nm:ByteArray) (fs:List ByteArray): IV (dr ||| 2 ^ k) (L.set k ⟨nm,true,fs⟩):=by
 refine⟨aju dr k h.1 gZ,fun i=>?_⟩;rw[Nat.testBit_or,Nat.testBit_two_pow,h.2 i]
 by_cases e:k=i
 ·subst e;rw[kX _ _ _ _ hk];simp
 ·rw[getD_set_ne _ _ _ _ _ e];simp[e]
theorem BR {L:List Tb}(h:Good L) {k:Nat}{t:Tb}(h1:t.name.size <= 40) (h2:t.fs.length <= 16) (h3:∀f∈t.fs,f.size <= 40) (h4:t.dropped=true -> t.fs=[]): Good (L.set k t):=by
 refine⟨by rw[aC];exact h.len,fun i hi=>?_⟩;rw[aC] at hi
 by_cases e:k=i
 ·subst e;rw[kX _ _ _ _ hi];exact⟨h1,h2,h3,h4⟩
 ·rw[getD_set_ne _ _ _ _ _ e];exact h.each i hi
theorem Yn (k:Nat) (h:k<1000): (Lit.int .i64 ((k+1:Nat):Int)).wf=true:=by
 simp[Lit.wf,IntKind.min,IntKind.max,IntKind.bits,IntKind.signed];omega
theorem Tv {n:Nat}{L:List Tb}(h:ln w c O n L) (hE:E9 cs 6 txt tbl):
  Calls prog 88 #[iF c,.agg cs] w (wA w c n O L 6 txt tbl):=by
 have hz:=rH;have jP:iB w (w.alloc (.cells cs 76)):=(Below.refl _ w).alloc (af _) _;have h1:=h.below jP (af _);have HE:=iH.mk hE;obtain⟨e0,e1,e2⟩:=yK (w:=w) hE;have H:=iH.mk h;have HB:=iH.mk jP;have H1:=iH.mk h1;have HT:=iH.mk (rW h1 tbl);clear h jP h1 hE;cases ht:there L tbl with
 | false=>
  have hx:kt L 6 txt tbl=7:=by unfold kt;rw[if_neg gZ,if_pos rfl,ht];rfl
  have Hx:=iH.mk hx;have Ht:=iH.mk ht;clear hx ht
  go_enter gg,fK
  go_wp2_with (refine(HT.out).mono ?_;rw[Ht.out];rintro e w' ⟨rfl,rfl⟩)
  go_ret
  exact ov Hx.out gZ H.out HB.out
 | true=>
  obtain⟨k,rfl,hk⟩:∃k:Nat,tbl=(k+1:Nat) /\ k<L.length:=⟨(tbl - 1).toNat,by unfold there at ht;simp at ht;omega,by unfold there at ht;simp at ht;omega⟩;have hlen:=H.out.nk.len;obtain⟨t,Cu⟩:∃t,t=L.getD k iX:=⟨_,rfl⟩;obtain⟨tv,dr,mb,hc,wI,tP,Kx,⟨cells,hT,hI⟩,Bm,zG,hG⟩:=H1.out;have vK:=hI k hk;rw[<- Cu] at vK;obtain⟨g,cap,rfl,uN,oG,hg,Ho,x0,x1,x2,sp,cc,x3,iJ⟩:=mF hT hk vK;have c0:=hc.cell 0 iz;have c1:=hc.cell 1 iz;have c2:=hc.cell 2 iz;have f1:=hc.free 1;simp only[al,ax] at c0 c1 c2;have Ht:=iH.mk ht;have Hc:=iH.mk hc;have yH:=iH.mk Cu;have Ez:=iH.mk hT;have HI:=iH.mk hI;have Hm:=iH.mk zG;have CG:=iH.mk iJ;have HX:=iH.mk (And.intro tP (And.intro Kx (And.intro Bm hG)));have so:t.fs.length <= 16:=by rw[Cu];exact(hG.each k hk).2.1
  clear ht hc hT hI vK iJ zG hG Kx tP Cu
  go_enter gg,fK
  go_wp2_with (refine(HT.out).mono ?_;rw[Ht.out];rintro e w' ⟨rfl,rfl⟩)
  generalize World.alloc _ _ = w1 at e0 e1 e2 HB H1 HT c0 c1 c2 f1 x0 x1 x2 x3 hg Hc Ez HI Hm CG HX ⊢;refine oo 12 (fun w' => w'.cell? ⟨c,1,none⟩ = some (.int .u64 (dr : Nat)) /\ w'.cell? ⟨w.heap.size,2,none⟩ = some (Iq ((k + 1 : Nat) : Int))) (by kernel_rfl) ?_;have hS : w1.drew.cell? ⟨c,1,none⟩ = some (.int .u64 (dr : Nat)) /\ w1.drew.cell? ⟨w.heap.size,2,none⟩ = some (Iq ((k + 1 : Nat) : Int)):=⟨c1,e2⟩;refine iM (i:=0) (.inr hS) ?_  -- move (tmp 0)
  refine iM (i:=1) (.inr hS) ?_  -- nilCheck (tmp 71)
  refine iM (i:=2) (.inr hS) ?_  -- fieldAddr 69 (tmp 72) 1
  refine ny (i:=3) [12] rfl (by kernel_rfl) (by kernel_rfl) (by kernel_rfl) (by kernel_rfl) rfl (fun _ _ _ h => h) (by rfl) (fun w' Jz => by first | (go_simp;done) | (go_simp;with_reducible rfl)) hS ?_  -- load 67 (tmp 73)
  refine mI (i:=4) rfl (by kernel_rfl) (by kernel_rfl) (by kernel_rfl) rfl (fun _ _ _ h => h) (.inr hS) (by rfl) (fun _ => by first | (go_simp;done) | (go_simp;with_reducible rfl)) ?_  -- fieldAddr 37 (tmp 3) 2
  refine ny (i:=5) [12] rfl (by kernel_rfl) (by kernel_rfl) (by kernel_rfl) (by kernel_rfl) rfl (fun _ _ _ h => h) (by rfl) (fun w' Jz => by first | (go_simp;done) | (go_simp;with_reducible rfl)) hS ?_  -- load 3 (tmp 75)
  refine mI (i:=6) rfl (by kernel_rfl) (by kernel_rfl) (by kernel_rfl) rfl (fun _ _ _ h => h) (.inr hS) (by rfl) (fun _ => by first | (go_simp;done) | (go_simp;with_reducible rfl)) ?_  -- binOp Binsub 3 (tmp 76) (const (Value.int IntKind.
  refine iM (i:=7) (.inr hS) ?_  -- convert 3 72 (tmp 77)
  refine mI (i:=8) rfl (by kernel_rfl) (by kernel_rfl) (by kernel_rfl) rfl (fun _ _ _ h => h) (.inr hS) (by rfl) (fun _ => by first | (go_simp;done) | (go_simp;with_reducible rfl)) ?_  -- binOp Binshl 67 (const (Value.int IntKind.u64 1)) 
  refine iM (i:=9) (.inr hS) ?_  -- binOp Binor 67 (tmp 74) (tmp 79) 67
  refine iM (i:=10) (.inr hS) ?_  -- nilCheck (tmp 71)
  refine iM (i:=11) (.inr hS) ?_  -- fieldAddr 69 (tmp 81) 1
  refine pW (i:=12) (by kernel_rfl) rfl ?_;intro K hK  -- yR Op.store 67 (Operand.tmp 82) (Operand.tmp 80)
  go_simp
  have lJ:IntKind.i64.wrap (k:Int)=k:=bG _ gZ;have lQ:IntKind.u64.wrap (k:Int)=k:=by rw[aW];omega
  rw[or_eq dr k Bm.1 gZ,lJ,lQ,fM];clear lJ lQ;have rC:g≠c:=by
   obtain⟨cur,kI⟩:=Ez.out.tag rfl;exact kN kI Hc.out j9
  have kD:w.heap.size≠c:=fun e=>by have:=H.out.lt c wI;omega
  have Co:=MF.kN Hm.out Hc.out;have rO:h_ 144 (w1.setCell ⟨c,1,none⟩ (.int .u64 ((dr ||| 2 ^ k:Nat):Int))).drew c [.slice (some ⟨g,0,none⟩) L.length cap,.int .u64 ((dr ||| 2 ^ k:Nat):Int),.map (some mb)]:=Hc.out.set 1 (.int .u64 ((dr ||| 2 ^ k:Nat):Int));have lk:ib (fun b=>b≠c) w1 (w1.setCell ⟨c,1,none⟩ (.int .u64 ((dr ||| 2 ^ k:Nat):Int))).drew:=(ib.refl _ w1).setCell (fun h=>h rfl) _ |>.drewN 1;have u9:=Hm.out.ij lk Co;refine hK _ _ (.inl rfl) ?_;refine tJ (by kernel_rfl) ?_ _;clear hK K hS;generalize (World.setCell _ _ _).drew=w2 at rO lk u9 ⊢;have c0':=rO.cell 0 iz;have py:=rO.cell 2 iz;simp only[al,ax] at c0' py;have e2':w2.cell? ⟨w.heap.size,2,none⟩=some (Iq ((k+1:Nat):Int)):=by rw[lk.cell (p:=⟨w.heap.size,2,none⟩) kD];exact e2
  have x3':w2.cell? ⟨g,k*4+3,none⟩=some (.slice sp t.fs.length cc):=by rw[lk.cell (p:=⟨g,k*4+3,none⟩) rC];exact x3
  have hwk:IntKind.i64.wrap (k:Int)=k:=bG _ gZ;have tc:(k:Int)<L.length:=gZ;have K9:(0:Int) <= k:=gZ;have Hc2:=iH.mk rO;have Hk2:=iH.mk lk;have Hm2:=iH.mk u9;clear rO lk u9 e0 e1 e2 c0 c1 c2 f1 x0 x1 x2 x3
  go_wp2_with fail
  go_quiet (fail)
  clear hwk;generalize mG:World.drewN _ _=w3;have y0:w3.cell? ⟨c,0,none⟩=some (.slice (some ⟨g,0,none⟩) L.length cap):=by rw[<- mG];exact c0'
  have y2:w3.cell? ⟨c,2,none⟩=some (.map (some mb)):=by rw[<- mG];exact py
  have ye:w3.cell? ⟨w.heap.size,2,none⟩=some (Iq ((k+1:Nat):Int)):=by rw[<- mG];exact e2'
  have y3:w3.cell? ⟨g,k*4+3,none⟩=some (.slice sp t.fs.length cc):=by rw[<- mG];exact x3'
  have vM:=iH.mk (show ib (fun b=>b≠c) w1 w3 by rw[<- mG];exact Hk2.out.drewN _);have Hc3:=iH.mk (show h_ 144 w3 c [.slice (some ⟨g,0,none⟩) L.length cap,.int .u64 ((dr ||| 2 ^ k:Nat):Int),.map (some mb)] by rw[<- mG];exact Hc2.out);have Hm3:=iH.mk (show MF prog 146 mk w3 mb n (uf L) by rw[<- mG];exact Hm2.out);clear c0' py e2' x3' mG Hk2 Hc2 Hm2
  go_wp2_with fail
  go_loopw [96] (fun i wr=>∃j:Nat,j <= t.fs.length /\ i=Iq (j:Nat) /\ ib (fun b=>b<w3.heap.size /\ b≠mb) w3 wr /\ MF prog 146 mk wr mb n (Bj L k (t.fs.take j))) (fun i _=>t.fs.length - (intOf i).toNat)
  case atStart=>exact⟨0,gZ,rfl,ib.refl _ _,by rw[bR,XZ];exact Hm3.out⟩
  case round=>
   obtain⟨j,hj,rfl,rR,ZH⟩:=hrel;have y2r:wr.cell? ⟨c,2,none⟩=some (.map (some mb)):=by rw[rR.cell (p:=⟨c,2,none⟩) ⟨Hc3.out.lt,de Co⟩];exact y2
   have YB:w.heap.size<w3.heap.size:=bU w3 _ ye;have Sq:w.heap.size≠mb:=fun e=>by have:=HX.out.1;have:=H.out.lt mb this;omega
   have yer:wr.cell? ⟨w.heap.size,2,none⟩=some (Iq ((k+1:Nat):Int)):=by rw[rR.cell (p:=⟨w.heap.size,2,none⟩) ⟨YB,Sq⟩];exact ye
   have LN:=ZH.lt;have Og:=iH.mk rR;have Hmr:=iH.mk ZH;clear rR ZH
   by_cases Gg:j<t.fs.length
   ·have awc:(j:Int)<t.fs.length:=gZ
    have hj0:(0:Int) <= j:=gZ;obtain⟨f,hf⟩:∃f,f=t.fs[j]:=⟨_,rfl⟩;have hiv:iK 100 1 wr O (.slice sp t.fs.length cc) t.fs.length (t.fs.map Value.string):=by
     refine CG.out.iP fun b hb=>?_;obtain⟨cur,kI⟩:=CG.out.tag hb;have h1:=kN kI Hc.out j9;have h2:=de (MF.kN Hm.out kI);have h3:=ak (lt_of_block kI) vM.out.size;rw[Og.out.block b ⟨h3,h2⟩,vM.out.block b h1]
    rcases hiv.form with⟨-,h0,-⟩|⟨gi,cpi,cur,lU,-,-,-⟩
    ·omega
    ·obtain⟨rfl,rfl⟩:sp=some ⟨gi,0,none⟩ /\ cc=cpi:=by simpa using lU
     have z0:wr.cell? ⟨gi,j,none⟩=some (.string f):=by
      rw[hiv.at j (by simpa using Gg),hf];simp[Gg]
     have wo:t.fs.take (j+1)=t.fs.take j++[f]:=by rw[List.take_succ_eq_append_getElem Gg,hf]
     have Htk:=iH.mk wo;have rN:f.size <= maxLen:=by
      have:=(HX.out.2.2.2.each k hk).2.2.1 f (by rw[<- yH.out,hf];exact aN Gg);unfold maxLen;omega
     have Hfs:=iH.mk rN;clear hf hiv lU wo rN
     go_wp2_with fail
     have hS:(wr.alloc (.cells #[.string f] 100)).drew.cell? ⟨c,2,none⟩=some (.map (some mb)) /\ (wr.alloc (.cells #[.string f] 100)).drew.cell? ⟨w.heap.size,2,none⟩=some (Iq ((k+1:Nat):Int)) /\ (wr.alloc (.cells #[.string f] 100)).drew.cell? ⟨wr.heap.size,0,none⟩=some (.string f) :=
      ⟨by rw[<- y2r];exact bD (w:=wr) (Below.heap_alloc _ _ _ (bU wr _ y2r)),by rw[<- yer];exact bD (w:=wr) (Below.heap_alloc _ _ _ (bU wr _ yer)),(h_.mk wr [.string f] _).cell 0 iz⟩
     refine oo 9 (fun w' => w'.cell? ⟨c,2,none⟩ = some (.map (some mb)) /\ w'.cell? ⟨w.heap.size,2,none⟩ = some (Iq ((k + 1 : Nat) : Int)) /\ w'.cell? ⟨wr.heap.size,0,none⟩ = some (.string f)) (by kernel_rfl) ?_;refine iM (i:=0) (.inr hS) ?_  -- move (tmp 0)
     refine iM (i:=1) (.inr hS) ?_  -- nilCheck (tmp 100)
     refine iM (i:=2) (.inr hS) ?_  -- fieldAddr 69 (tmp 101) 2
     refine ny (i:=3) [9] rfl (by kernel_rfl) (by kernel_rfl) (by kernel_rfl) (by kernel_rfl) rfl (fun _ _ _ h => h) (by rfl) (fun w' Jz => by first | (go_simp;done) | (go_simp;with_reducible rfl)) hS ?_  -- load 66 (tmp 102)
     refine mI (i:=4) rfl (by kernel_rfl) (by kernel_rfl) (by kernel_rfl) rfl (fun _ _ _ h => h) (.inr hS) (by rfl) (fun _ => by first | (go_simp;done) | (go_simp;with_reducible rfl)) ?_  -- fieldAddr 37 (tmp 3) 2
     refine ny (i:=5) [8,9] rfl (by kernel_rfl) (by kernel_rfl) (by kernel_rfl) (by kernel_rfl) rfl (fun _ _ _ h => h) (by rfl) (fun w' Jz => by first | (go_simp;done) | (go_simp;with_reducible rfl)) hS ?_  -- load 3 (tmp 104)
     refine mI (i:=6) rfl (by kernel_rfl) (by kernel_rfl) (by kernel_rfl) rfl (fun _ _ _ h => h) (.inr hS) (by rfl) (fun _ => by first | (go_simp;done) | (go_simp;with_reducible rfl)) ?_  -- fieldAddr 62 (tmp 9) 0
     refine ny (i:=7) [8,9] rfl (by kernel_rfl) (by kernel_rfl) (by kernel_rfl) (by kernel_rfl) rfl (fun _ _ _ h => h) (by rfl) (fun w' Jz => by first | (go_simp;done) | (go_simp;with_reducible rfl)) hS ?_  -- load 9 (tmp 106)
     refine mI (i:=8) rfl (by kernel_rfl) (by kernel_rfl) (by kernel_rfl) rfl (fun _ _ _ h => h) (.inr hS) (by rfl) (fun _ => by first | (go_simp;done) | (go_simp;with_reducible rfl)) ?_  -- build 75 #[(0,tmp 105),(1,tmp 107)]
     refine pW (i:=9) (by kernel_rfl) rfl ?_;intro K hK  -- yR Op.call { callee:=Callee.builtin Builtin.delete,args:=#[Operand.tmp 103,Operand.tmp 108],argTypes:=#[66,75] }
     obtain⟨kl,wH⟩:=F5 (((k+1:Nat):Int),f) ⟨Yn k gZ,Hfs.out⟩;have hmA:MF prog 146 mk (wr.alloc (.cells #[.string f] 100)).drew mb n (Bj L k (t.fs.take j)):=(Hmr.out.alloc _).iP rfl;obtain⟨w5,kz,Fo,mz⟩:=hmA.del mk_inj keyed underlying142 wH 0;have em:mk (((k+1:Nat):Int),f)=.agg #[Iq ((k:Int)+1),.string f]:=by unfold mk;simp
     rw[em] at kz;have XR:MF prog 146 mk w5 mb n (Bj L k (t.fs.take (j+1))):=by rw[Htk.out,<- UJ];exact Fo
     have m5 :=
      Og.out.trans (((ib.ic (((Below.refl wr.heap.size wr).alloc (af _) (.cells #[.string f] 100)).drew)).mono (fun b (hb:b<w3.heap.size /\ b≠mb)=>ak hb.1 Og.out.size)).trans (mz.mono fun b hb=>hb.2))
     have Hm6:=iH.mk XR;have YM:=iH.mk m5;refine Za rfl (.tmp 103) (.tmp 108) 142 146 rfl (.map (some mb)) (.agg #[Iq ((k:Int)+1),.string f]) (by go_simp) (by go_simp) kz ?_;refine hK _ _ (.inl rfl) ?_;clear Fo mz XR m5 kz hmA hS hK K wH;refine tJ (by kernel_rfl) ?_ _
     go_wp2_with fail
     go_roundw
     case rel=>exact⟨j+1,gZ,by go_num,YM.out,Hm6.out⟩
     case measure=>simp[intOf];omega
   ·have qY:decide ((j:Int)<t.fs.length)=false:=decide_eq_false gZ
    have hjn:j=t.fs.length:=gZ;have sJ:iK 98 4 wr O (.slice (some ⟨g,0,none⟩) L.length cap) L.length cells:=by
     refine Ez.out.iP fun b hb=>?_;obtain⟨cur,kI⟩:=Ez.out.tag hb;have h1:=kN kI Hc.out j9;have h2:=de (MF.kN Hm.out kI);have h3:=ak (lt_of_block kI) vM.out.size;rw[Og.out.block b ⟨h3,h2⟩,vM.out.block b h1]
    have NB:=sJ.len;have q2:=sJ.at (k*4+2) gZ;have q3:=sJ.at (k*4+3) gZ;have f2:=sJ.free (k*4+2);have f3:=sJ.free (k*4+3);have HTr:=iH.mk sJ;have ap5:=iH.mk (show MF prog 146 mk wr mb n (Bj L k t.fs) by have:=Hmr.out;rw[hjn,aI] at this;exact this);clear sJ hjn y0 y2 y3 ye NB
    go_wp2_with fail
    go_ret
    have mP:wr.heap[g]? = w1.heap[g]?:=by
     obtain⟨cur,kI⟩:=Ez.out.tag rfl;rw[Og.out.block g ⟨ak (lt_of_block kI) vM.out.size,de (MF.kN Hm.out kI)⟩,vM.out.block g rC]
    have G9:mb≠g:=by obtain⟨cur,kI⟩:=Ez.out.tag rfl;exact MF.kN Hm.out kI
    have NB:=HTr.out.len;have T_:=Hc3.out.ij Og.out ⟨Hc3.out.lt,de Co⟩;have hOw:=(HTr.out.stored (k*4+2) (u:=.bool true) rfl).stored (k*4+3) (u:=.slice none 0 0) rfl;have Kq:ib (fun b=>b≠g) wr ((wr.setCell ⟨g,k*4+2,none⟩ (.bool true)).setCell ⟨g,k*4+3,none⟩ (.slice none 0 0)):=((ib.refl _ wr).setCell (fun h=>h rfl) _).setCell (fun h=>h rfl) _;obtain⟨tP,hO1,hBt,hG⟩:=HX.out;have hx:kt L 6 txt ((k+1:Nat):Int)=0:=by unfold kt;rw[if_neg gZ,if_pos rfl,Ht.out];rfl
    have e1:(((k+1:Nat):Int) - 1).toNat=k:=gZ;have hl:mW L 6 txt ((k+1:Nat):Int)=L.set k ⟨t.name,true,[]⟩:=by
     unfold mW;rw[if_pos hx,if_neg gZ,if_pos rfl,e1,<- yH.out]
    refine⟨O,by rw[hx];rfl,?_,?_,fun b hb=>.inl hb⟩
    ·rw[hl]
     refine ln.mono (n:=n) ⟨_,_,mb,T_.ij Kq (de rC),wI,tP,fun b hb=>ak (ak (ak (hO1 b hb) vM.out.size) Og.out.size) Kq.size,⟨_,by rw[aC];exact hOw,fun i hi=>?_⟩,Up hBt hk hlen _ _,?_,BR hG ?_ iz iz (fun _=>rfl)⟩ gZ
     ·rw[aC] at hi
      by_cases e:k=i
      ·subst e
       rw[kX _ _ _ _ hk];obtain⟨i0,i1,i2,i3⟩:=HI.out k hk;refine⟨?_,?_,?_,?_⟩
       ·rw[getD_set_ne _ _ _ _ _ gZ,getD_set_ne _ _ _ _ _ gZ];exact i0
       ·rw[getD_set_ne _ _ _ _ _ gZ,getD_set_ne _ _ _ _ _ gZ,yH.out];exact i1
       ·rw[getD_set_ne _ _ _ _ _ gZ,kX _ _ _ _ gZ]
       ·rw[kX _ _ _ _ (by simp;omega)];exact iK.nil _ _ _ _
      ·rw[getD_set_ne _ _ _ _ _ e]
       refine(HI.out i hi).Uh (fun j hj=>?_) (fun b hb kI=>?_)
       ·rw[getD_set_ne _ _ _ _ _ gZ,getD_set_ne _ _ _ _ _ gZ]
       ·obtain⟨cur,kI⟩:=kI
        obtain⟨arC,Vc⟩:=Ez.out.tag rfl;rw[Kq.block b (kN kI Vc j9),Og.out.block b ⟨ak (lt_of_block kI) vM.out.size,de (MF.kN Hm.out kI)⟩,vM.out.block b (kN kI Hc.out j9)]
     ·rw[<- XU hk,<- yH.out]
      exact ap5.out.ij Kq G9
     ·rw[yH.out];exact(hG.each k hk).1
    ·refine((ib.ic HB.out).mono fun b hb=>hb.1).trans ((vM.out.mono fun b hb e=>hb.2 (e ▸ wI)).trans ((Og.out.mono fun b (hb:b<w.heap.size /\ ¬O b)=>⟨ak (ak hb.1 HB.out.size) vM.out.size,fun e=>hb.2 (e ▸ tP)⟩).trans (Kq.mono fun b hb e=>hb.2 (e ▸ Ho))))
theorem abn {L:List Tb}{k:Nat}(hk:k<L.length) (txt nm:ByteArray) (d:Bool): nH (uf L) (((k+1:Nat):Int),txt) (.bool true)=uf (L.set k ⟨nm,d,(L.getD k iX).fs++[txt]⟩):=by
 funext x
 obtain⟨x1,x2⟩:=x;unfold nH uf has
 by_cases h:x1=(k+1:Nat)
 ·subst h
  have e:(((k+1:Nat):Int) - 1).toNat=k:=gZ;simp only[e,aC];have e2:(L.set k ⟨nm,d,(L.getD k iX).fs++[txt]⟩).getD k iX=⟨nm,d,(L.getD k iX).fs++[txt]⟩:=by simp[hk]
  have e3:decide ((1:Int) <= ((k+1:Nat):Int))=true:=decide_eq_true gZ;have e4:decide (((k+1:Nat):Int) <= L.length)=true:=decide_eq_true gZ;rw[e2,Mw,e3,e4]
  by_cases h2:x2=txt
  ·subst h2;simp
  ·have:¬(((((k+1:Nat):Int)),x2)=(((k+1:Nat):Int),txt)):=fun e=>h2 (by injection e)
   rw[if_neg this];have h3:decide (txt=x2)=false:=decide_eq_false (fun e=>h2 e.symm);rw[h3,fT]
 ·have:¬((x1,x2)=(((k+1:Nat):Int),txt)):=fun e=>h (by injection e)
  rw[if_neg this]
  by_cases h1:1 <= x1
  ·have e2:(L.set k ⟨nm,d,(L.getD k iX).fs++[txt]⟩).getD (x1 - 1).toNat iX=L.getD (x1 - 1).toNat iX:=by
    simp only[ag];rw[fj gZ]
   simp only[e2,aC]
  ·simp[h1]
theorem Vf {k:Nat}{L:List Tb}(h:IV dr L) (hk:k<L.length) (t:Tb) (ht:t.dropped=(L.getD k iX).dropped): IV dr (L.set k t):=by
 refine⟨h.1,fun i=>?_⟩;rw[h.2 i]
 by_cases e:k=i
 ·subst e;rw[kX _ _ _ _ hk,ht]
 ·rw[getD_set_ne _ _ _ _ _ e]
theorem G_ {n:Nat}{L:List Tb}(h:ln w c O n L) (hE:E9 cs 7 txt tbl) (hn:n<1000000000) (ht:there L tbl=true) (m4:uo txt=true) (hh:has L tbl txt=false) (Pq:(L.getD (tbl - 1).toNat iX).fs.length<16):
  Calls prog 88 #[iF c,.agg cs] w (wA w c n O L 7 txt tbl):=by
 have hz:=rH;have jP:iB w (w.alloc (.cells cs 76)):=(Below.refl _ w).alloc (af _) _;have h1:=h.below jP (af _);have HE:=iH.mk hE;obtain⟨e0,e1,e2⟩:=yK (w:=w) hE;have H:=iH.mk h;have HB:=iH.mk jP;have H1:=iH.mk h1;have HT:=iH.mk (rW h1 tbl);clear h jP h1 hE;obtain⟨k,rfl,hk⟩:∃k:Nat,tbl=(k+1:Nat) /\ k<L.length:=⟨(tbl - 1).toNat,by unfold there at ht;simp at ht;omega,by unfold there at ht;simp at ht;omega⟩;have hlen:=H.out.nk.len;obtain⟨t,Cu⟩:∃t,t=L.getD k iX:=⟨_,rfl⟩;have ek:(((k+1:Nat):Int) - 1).toNat=k:=gZ;obtain⟨tv,dr,mb,hc,wI,tP,Kx,⟨cells,hT,hI⟩,Bm,zG,hG⟩:=H1.out;have vK:=hI k hk;rw[<- Cu] at vK;obtain⟨g,cap,rfl,uN,oG,hg,Ho,x0,x1,x2,sp,cc,x3,iJ⟩:=mF hT hk vK;have c0:=hc.cell 0 iz;have c2:=hc.cell 2 iz;simp only[al,ax] at c0 c2;have u7:∀m,(Instr.lookup 142 (.map (some mb)) (.agg #[Iq ((k:Int)+1),.string txt]) false).run prog ((w.alloc (.cells cs 76)).drewN m)=.ok (.bool (has L ((k+1:Nat):Int) txt)) ((w.alloc (.cells cs 76)).drewN m) :=
  fun m=>FD (zG.drewN m) ((k+1:Nat):Int) txt ⟨HE.out.hwf,HE.out.Ym⟩
 obtain⟨kl,wH⟩:=F5 (((k+1:Nat):Int),txt) ⟨HE.out.hwf,HE.out.Ym⟩;have Hkk:=iH.mk wH;clear wH;have yH:=iH.mk Cu;have Ez:=iH.mk hT;have HI:=iH.mk hI;have Hm:=iH.mk zG;have CG:=iH.mk iJ;have HX:=iH.mk (And.intro tP (And.intro Kx (And.intro Bm hG)));have so:t.fs.length <= 16:=by rw[Cu];exact(hG.each k hk).2.1
 obtain⟨nf,LD⟩:∃nf,nf=t.fs.length:=⟨_,rfl⟩;rw[<- LD] at x3 so;have aoR:nf <= cc:=by obtain⟨sL,oc,e,hle,-⟩:=iJ.slice;injection e with _ _ e3;omega
 have Qj:=iH.mk LD;have Ht:=iH.mk ht;have CO:=iH.mk m4;have Hc:=iH.mk hc;clear ht hc hT hI vK iJ zG hG Kx tP Cu Bm m4 LD;have amI:=u7;rw[hh] at u7;clear amI;have hwk:IntKind.i64.wrap (k:Int)=k:=bG _ gZ;have tc:(k:Int)<L.length:=gZ;have K9:(0:Int) <= k:=gZ;have Hh:=iH.mk hh;have YL:=iH.mk ek;have Pq:nf<16:=by have:=Pq;rw[ek,<- yH.out,<- Qj.out] at this;exact this
 clear hh ek;have apY:(nf:Int)<16:=gZ;have qm:∀(w:World) r,(binOp .eql 142 (.map (some r)) (.map none)).run prog w=.ok (.bool false) w:=fun w r=>run_eql_map_nil w _ _ _ (some r) underlying142
 go_enter gg,fK
 go_wp2_with (first|(go_at_call 56;refine(HT.out).mono ?_;rw[Ht.out];rintro e w' ⟨rfl,rfl⟩)|(go_at_call 126;refine(qy _ _).mono ?_;rw[CO.out];rintro e w' ⟨rfl,rfl⟩))
 go_quiet (fail)
 clear u7
 go_wp2_with fail
 go_quiet (fail)
 go_wp2_with fail
 go_quiet (fail)
 clear hwk
 go_wp2_with fail
 generalize mG:World.drewN _ _=w3;have jh:w3.heap=(w.alloc (.cells cs 76)).heap /\ w3.os=(w.alloc (.cells cs 76)).os /\ w3.tape=(w.alloc (.cells cs 76)).tape /\ w3.output=(w.alloc (.cells cs 76)).output:=by rw[<- mG];exact⟨rfl,rfl,rfl,rfl⟩
 clear mG;obtain⟨d1,d2,d3,d4⟩:=jh;have db:∀b:Nat,w3.heap[b]? = (w.alloc (.cells cs 76)).heap[b]?:=fun b=>by rw[d1]
 have vM:=iH.mk (show ib (fun _=>True) (w.alloc (.cells cs 76)) w3 from⟨d2,d3,d4,by rw[d1];exact af _,fun b _=>db b⟩);have y2:w3.cell? ⟨c,2,none⟩=some (.map (some mb)):=by rw[vM.out.cell (p:=⟨c,2,none⟩) trivial];exact c2
 have y3:w3.cell? ⟨g,k*4+3,none⟩=some (.slice sp nf cc):=by rw[vM.out.cell (p:=⟨g,k*4+3,none⟩) trivial];exact x3
 have ye1:w3.cell? ⟨w.heap.size,1,none⟩=some (.string txt):=by rw[vM.out.cell (p:=⟨w.heap.size,1,none⟩) trivial];exact e1
 have ye2:w3.cell? ⟨w.heap.size,2,none⟩=some (Iq ((k+1:Nat):Int)):=by rw[vM.out.cell (p:=⟨w.heap.size,2,none⟩) trivial];exact e2
 clear d1 d2 d3 d4 db c0 c2 x0 x1 x2 x3 e0 e1 e2;have Ny:=H.out.lt g Ho;have hco:=H.out.lt c wI;have hs3 : w.heap.size < w3.heap.size:=bU w3 _ ye1;have hS : w3.drew.cell? ⟨g,k * 4 + 3,none⟩ = some (.slice sp nf cc) /\ w3.drew.cell? ⟨w.heap.size,1,none⟩ = some (.string txt):=⟨y3,ye1⟩;refine oo 20 (fun w' => w'.cell? ⟨g,k * 4 + 3,none⟩ = some (.slice sp nf cc) /\ w'.cell? ⟨w.heap.size,1,none⟩ = some (.string txt)) (by kernel_rfl) ?_;refine iM (i:=0) (.inr hS) ?_  -- move (tmp 10)
 refine iM (i:=1) (.inr hS) ?_  -- move (tmp 10)
 refine iM (i:=2) (.inr hS) ?_  -- nilCheck (tmp 162)
 refine iM (i:=3) (.inr hS) ?_  -- fieldAddr 45 (tmp 163) 3
 refine ny (i:=4) [15,20] rfl (by kernel_rfl) (by kernel_rfl) (by kernel_rfl) (by kernel_rfl) rfl (fun _ _ _ h => h) (by rfl) (fun w' Jz => by first | (go_simp;done) | (go_simp;with_reducible rfl)) hS ?_  -- load 43 (tmp 164)
 refine iM (i:=5) (.inr hS) ?_  -- move (tmp 10)
 refine mI (i:=6) rfl (by kernel_rfl) (by kernel_rfl) (by kernel_rfl) rfl (fun _ _ _ h => h) (.inr hS) (by rfl) (fun _ => by first | (go_simp;done) | (go_simp;with_reducible rfl)) ?_  -- nilCheck (tmp 166)
 refine iM (i:=7) (.inr hS) ?_  -- fieldAddr 45 (tmp 167) 3
 refine ny (i:=8) [9,15,20] rfl (by kernel_rfl) (by kernel_rfl) (by kernel_rfl) (by kernel_rfl) rfl (fun _ _ _ h => h) (by rfl) (fun w' Jz => by first | (go_simp;done) | (go_simp;with_reducible rfl)) hS ?_  -- load 43 (tmp 168)
 refine mI (i:=9) rfl (by kernel_rfl) (by kernel_rfl) (by kernel_rfl) rfl (fun _ _ _ h => h) (.inr hS) (by rfl) (fun _ => by first | (go_simp;done) | (go_simp;with_reducible rfl)) ?_  -- call { callee:=Callee.builtin Builtin.len,args 
 refine iM (i:=10) (.inr hS) ?_  -- move (tmp 10)
 refine iM (i:=11) (.inr hS) ?_  -- nilCheck (tmp 171)
 refine iM (i:=12) (.inr hS) ?_  -- fieldAddr 45 (tmp 172) 3
 refine ny (i:=13) [14,15,20] rfl (by kernel_rfl) (by kernel_rfl) (by kernel_rfl) (by kernel_rfl) rfl (fun _ _ _ h => h) (by rfl) (fun w' Jz => by first | (go_simp;done) | (go_simp;with_reducible rfl)) hS ?_  -- load 43 (tmp 173)
 refine mI (i:=14) rfl (by kernel_rfl) (by kernel_rfl) (by kernel_rfl) rfl (fun _ _ _ h => h) (.inr hS) (by rfl) (fun _ => by first | (go_simp;done) | (go_simp;with_reducible rfl)) ?_  -- call { callee:=Callee.builtin Builtin.len,args 
 refine iM (i:=15) (.inr hS) ?_  -- slice 43 (tmp 165) none (some (tmp 170)) (some (tm
 refine iM (i:=16) (.inr hS) ?_  -- fieldAddr 37 (tmp 3) 1
 refine ny (i:=17) [18,19,20] rfl (by kernel_rfl) (by kernel_rfl) (by kernel_rfl) (by kernel_rfl) rfl (fun _ _ _ h => h) (by rfl) (fun w' Jz => by first | (go_simp;done) | (go_simp;with_reducible rfl)) hS ?_  -- load 9 (tmp 177)
 refine mI (i:=18) rfl (by kernel_rfl) (by kernel_rfl) (by kernel_rfl) rfl (fun _ _ _ h => h) (.inr hS) (by rfl) (fun _ => by first | (go_simp;done) | (go_simp;with_reducible rfl)) ?_  -- build 62 #[(0,tmp 178)]
 refine pW (i:=19) (by kernel_rfl) rfl ?_;intro K hK  -- yR Op.buildSlice 43 1 #[(0,Operand.tmp 179)]
 go_simp
 have ph:(w3.alloc (.cells #[.string txt] 100)).drew.cell? ⟨g,k*4+3,none⟩=some (.slice sp nf cc) /\ (w3.alloc (.cells #[.string txt] 100)).drew.cell? ⟨w.heap.size,1,none⟩=some (.string txt) :=
  ⟨by rw[<- y3];exact bD (w:=w3) (Below.heap_alloc _ _ _ (by show g<w3.heap.size;omega)),by rw[<- ye1];exact bD (w:=w3) (Below.heap_alloc _ _ _ hs3)⟩
 refine hK _ _ (.inr ph) ?_;have lD:iB w3 (w3.alloc (.cells #[.string txt] 100)).drew:=((Below.refl _ _).alloc (af _) _).drew;have ho5:n_ (w3.alloc (.cells #[.string txt] 100)).drew O 1 (.slice sp nf cc) nf (t.fs.map Value.string):=by
  rw[Qj.out];exact(CG.out.DC.ij vM.out (fun _ _ _=>trivial)).below lD (af _)
 have hs5 : n_ (w3.alloc (.cells #[.string txt] 100)).drew (fun _ => True) 1 (.slice (some ⟨w3.heap.size,0,none⟩) 1 1) 1 [.string txt]:=n_.fresh w3 (fun _ => True) _ (m:=1) (n:=1) (l:=[.string txt]) rfl (fun u hu => by simp at hu;subst hu;rfl) trivial (by unfold maxLen;omega);clear hS ph hK K;refine pW (i:=20) (by kernel_rfl) rfl ?_;intro K hK  -- yR Op.call { callee:=Callee.builtin Builtin.append,args:=#[Operand.tmp 176,Operand.tmp 180],argTypes:=#[43,43] }
 refine GZ rfl (.tmp 176) (.tmp 180) 96 rfl KM rfl ho5 rfl hs5 gZ (n':=nf+1) rfl (by unfold maxLen;omega) gZ ?_;intro xy c5 w5 xO vC;have oY:=lD.trans (((oC vC).mono fun b (hb:b<w3.heap.size)=>⟨ak hb lD.size,fun e=>by cases e⟩).below);have Rt:=Ez.out.iP fun b hb=>by
  have:b=g:=(au hb).symm;rw[this,oY.block g gZ,vM.out.block g trivial]
 have NB:=Rt.len;have q3:=Rt.at (k * 4 + 3) gZ;have f3:=Rt.free (k * 4 + 3);have HT5:=iH.mk Rt;have Hb5:=iH.mk oY;have F9:=iH.mk xO;refine hK _ _ (.inl rfl) ?_;clear hK K ho5 hs5 lD oY xO vC Rt NB;refine iM (i:=21) (.inl rfl) ?_  -- nilCheck (tmp 161)
 refine iM (i:=22) (.inl rfl) ?_  -- fieldAddr 45 (tmp 182) 3
 refine pW (i:=23) (by kernel_rfl) rfl ?_;intro K hK  -- yR Op.store 43 (Operand.tmp 183) (Operand.tmp 181)
 go_simp
 refine hK _ _ (.inl rfl) ?_;refine tJ (by kernel_rfl) ?_ _;clear hK K y3;have Qh:g≠w.heap.size:=gZ;have Hd:g≠c:=by obtain⟨cur,kI⟩:=Ez.out.tag rfl;exact kN kI Hc.out j9
 have z2:(w5.setCell ⟨g,k*4+3,none⟩ (.slice xy (nf+1) c5)).cell? ⟨c,2,none⟩=some (.map (some mb)):=by
  rw[bD (w:=w5) (Below.heap_setCell _ _ _ _ (by show c≠g;omega)),Hb5.out.cell (p:=⟨c,2,none⟩) (by show c<w3.heap.size;omega)];exact y2
 have ze1:(w5.setCell ⟨g,k*4+3,none⟩ (.slice xy (nf+1) c5)).cell? ⟨w.heap.size,1,none⟩=some (.string txt):=by
  rw[bD (w:=w5) (Below.heap_setCell _ _ _ _ (by show w.heap.size≠g;omega)),Hb5.out.cell (p:=⟨w.heap.size,1,none⟩) (by show w.heap.size<w3.heap.size;omega)];exact ye1
 have ze2:(w5.setCell ⟨g,k*4+3,none⟩ (.slice xy (nf+1) c5)).cell? ⟨w.heap.size,2,none⟩=some (Iq ((k+1:Nat):Int)):=by
  rw[bD (w:=w5) (Below.heap_setCell _ _ _ _ (by show w.heap.size≠g;omega)),Hb5.out.cell (p:=⟨w.heap.size,2,none⟩) (by show w.heap.size<w3.heap.size;omega)];exact ye2
 have hmg:mb≠g:=by obtain⟨cur,kI⟩:=Ez.out.tag rfl;exact MF.kN Hm.out kI
 have XR:MF prog 146 mk (w5.setCell ⟨g,k*4+3,none⟩ (.slice xy (nf+1) c5)) mb n (uf L) :=
  (((Hm.out.ij vM.out trivial).below Hb5.out (ak Hm.out.lt vM.out.size)).other _ _ hmg)
 have hT6:=HT5.out.stored (k*4+3) (u:=.slice xy (nf+1) c5) rfl;have m5:ib (fun b=>b<w3.heap.size /\ b≠g) w3 (w5.setCell ⟨g,k*4+3,none⟩ (.slice xy (nf+1) c5)):=((ib.ic Hb5.out).mono fun b hb=>hb.1).setCell (fun h=>h.2 rfl) _;have h67:ib (fun b=>b≠g) w5 (w5.setCell ⟨g,k*4+3,none⟩ (.slice xy (nf+1) c5)):=(ib.refl _ w5).setCell (fun h=>h rfl) _;generalize World.setCell _ _ _=w6 at z2 ze1 ze2 XR hT6 m5 h67 ⊢;have aiv:MF prog 146 mk w6.drew mb n (uf L):=XR.iP rfl;have Rr:n<maxLen:=by unfold maxLen;omega
 obtain⟨w7,kz,hm7,tF⟩:=aiv.put mk_inj keyed underlying142 Rr (.bool true) Hkk.out;have em:mk (((k+1:Nat):Int),txt)=.agg #[Iq ((k:Int)+1),.string txt]:=by unfold mk;simp
 rw[em] at kz;have anY:=iH.mk kz;have Hm7:=iH.mk hm7;have Zb:=iH.mk (show ib (fun b=>b≠mb) w6 w7 from((ib.refl _ w6).drewN 1).trans tF);clear aiv Rr kz hm7 tF em;have HT6:=iH.mk hT6;have YM:=iH.mk m5;have H67:=iH.mk h67;clear XR hT6 m5 h67 q3 f3 y2 ye1 ye2 hz
 go_wp2_with fail
 have kz:=anY.out;refine fi 9 (by kernel_rfl) (by kernel_rfl) ?_;simp only[bY,bR,cJ,dM]
 repeat still_step
 try refine wpStill_nil ?_
 change wpList _ _ _ _ _ w6.drew
 go_wp2_with fail
 go_ret
 clear kz;obtain⟨tP,hO1,hBt,hG⟩:=HX.out;have hmo:=H.out.lt mb tP;have Co:=MF.kN Hm.out Hc.out;have hx:kt L 7 txt ((k+1:Nat):Int)=0:=by
  unfold kt;rw[if_neg gZ,if_neg gZ,if_pos rfl,if_neg (by rw[Ht.out];simp),if_neg (by rw[CO.out];simp),if_neg (by rw[Hh.out];simp),YL.out,if_neg (by rw[<- yH.out,<- Qj.out];omega)]
 have hl:mW L 7 txt ((k+1:Nat):Int)=L.set k ⟨t.name,t.dropped,t.fs++[txt]⟩:=by
  unfold mW;rw[if_pos hx,if_neg gZ,if_neg gZ,if_pos rfl,YL.out,<- yH.out]
 have aet:txt.size <= 40:=by
  have:=CO.out;unfold uo at this;simp at this
  exact this.2
 have avR:=YM.out.size;have av_:=Zb.out.size;have awu:=H67.out.size;have hsA:∀b,(w3.alloc (.cells #[.string txt] 100)).drew.heap.size <= b -> w3.heap.size<b:=fun b (hb:(w3.alloc _).heap.size <= b)=>by simp at hb;omega
 have hc7 :=
  ((Hc.out.ij vM.out trivial).ij YM.out ⟨gZ,de Hd⟩).ij Zb.out (de Co)
 have hT7:=HT6.out.ij Zb.out (fun b hb=>by have e:=au hb;subst e;exact de hmg);have hO5:=fun b hb=>hsA b (F9.out.own hb);have NB:=Ez.out.len;refine⟨fun b=>O b \/ (Value.slice xy (nf+1) c5).ownBlock=some b,by rw[hx];rfl,?_,?_,fun b hb=>hb.imp id fun h=>by have:=hO5 b h;omega⟩
 ·rw[hl]
  refine⟨_,dr,mb,hc7,.inl wI,.inl tP,fun b hb=>?_,⟨_,by rw[aC];exact hT7.mono (fun _ h=>.inl h),fun i hi=>?_⟩,Vf hBt hk _ (by rw[<- yH.out]),?_,BR hG ?_ ?_ ?_ ?_⟩
  ·rcases hb with hb|hb
   ·have:=H.out.lt b hb;omega
   ·have:=F9.out.lt hb;omega
  ·rw[aC] at hi
   by_cases e:k=i
   ·subst e
    rw[kX _ _ _ _ hk];obtain⟨i0,i1,i2,i3⟩:=HI.out k hk;refine⟨?_,?_,?_,?_⟩
    ·rw[getD_set_ne _ _ _ _ _ gZ];exact i0
    ·rw[getD_set_ne _ _ _ _ _ gZ,yH.out];exact i1
    ·rw[getD_set_ne _ _ _ _ _ gZ,yH.out];exact i2
    ·rw[kX _ _ _ _ gZ]
     have e1:(t.fs++[txt]).length=nf+1:=by rw[aa,<- Qj.out];rfl
     have e2:(t.fs++[txt]).map Value.string=t.fs.map Value.string++[.string txt]:=iz
     show iK _ 1 w7 _ _ (t.fs++[txt]).length ((t.fs++[txt]).map Value.string)
     rw[e1,e2];refine⟨(F9.out.iP (w':=w7) fun b hb=>?_).1,F9.out.2.1,fun b hb=>.inr hb⟩;have:=hO5 b hb;rw[Zb.out.block b (by show b≠mb;omega),H67.out.block b (by show b≠g;omega)]
   ·rw[getD_set_ne _ _ _ _ _ e]
    have wM:lT 100 w7 O (cells.set (k*4+3) (.slice xy (nf+1) c5)) i (L.getD i iX):=by
     refine(HI.out i hi).Uh (fun j hj=>?_) (fun b hb kI=>?_)
     ·rw[getD_set_ne _ _ _ _ _ gZ]
     ·obtain⟨cur,kI⟩:=kI
      obtain⟨arC,Vc⟩:=Ez.out.tag rfl;have uH:=H.out.lt b hb;rw[Zb.out.block b (de (MF.kN Hm.out kI)),YM.out.block b ⟨gZ,kN kI Vc j9⟩,vM.out.block b trivial]
    exact⟨wM.1,wM.2.1,wM.2.2.1,wM.2.2.2.mono (fun _ h=>.inl h)⟩
  ·have:=abn hk txt t.name t.dropped
   rw[<- yH.out] at this;rw[<- this];exact Hm7.out
  ·rw[yH.out];exact(hG.each k hk).1
  ·show(t.fs++[txt]).length <= 16
   rw[aa,<- Qj.out];show nf+1 <= 16;omega
  ·intro f hf
   rcases aq.1 hf with h|h
   ·have:=(hG.each k hk).2.2.1 f (by rw[<- yH.out];exact h);exact this
   ·rw[aZ.1 h];exact aet
  ·intro hd
   have h1:=Ht.out;unfold there at h1;rw[YL.out,<- yH.out] at h1;have HU:t.dropped=true:=hd;rw[HU] at h1;simp at h1
 ·refine((ib.ic HB.out).mono fun b hb=>hb.1).trans ((vM.out.mono fun _ _=>trivial).trans ((YM.out.mono fun b (hb:b<w.heap.size /\ ¬O b)=>⟨gZ,fun e=>hb.2 (e ▸ Ho)⟩).trans (Zb.out.mono fun b hb e=>hb.2 (e ▸ tP))))
theorem N2 {n:Nat}{L:List Tb}(h:ln w c O n L) (hE:E9 cs 7 txt tbl) (hn:n<1000000000):
  Calls prog 88 #[iF c,.agg cs] w (wA w c n O L 7 txt tbl):=by
 have hz:=rH;have jP:iB w (w.alloc (.cells cs 76)):=(Below.refl _ w).alloc (af _) _;have h1:=h.below jP (af _);have HE:=iH.mk hE;obtain⟨e0,e1,e2⟩:=yK (w:=w) hE;have H:=iH.mk h;have HB:=iH.mk jP;have H1:=iH.mk h1;have HT:=iH.mk (rW h1 tbl);clear h jP h1 hE;cases ht:there L tbl with
 | false=>
  have hx:kt L 7 txt tbl=7:=by unfold kt;rw[if_neg gZ,if_neg gZ,if_pos rfl,if_pos ht]
  have Hx:=iH.mk hx;have Ht:=iH.mk ht;clear hx ht
  go_enter gg,fK
  go_wp2_with (refine(HT.out).mono ?_;rw[Ht.out];rintro e w' ⟨rfl,rfl⟩)
  go_ret
  exact ov Hx.out gZ H.out HB.out
 | true=>
  cases m4:uo txt with
  | false=>
   have hx:kt L 7 txt tbl=3:=by unfold kt;rw[if_neg gZ,if_neg gZ,if_pos rfl,if_neg (by rw[ht];simp),if_pos m4]
   have Hx:=iH.mk hx;have Ht:=iH.mk ht;have CO:=iH.mk m4;clear hx ht m4
   go_enter gg,fK
   go_wp2_with (first|(go_at_call 56;refine(HT.out).mono ?_;rw[Ht.out];rintro e w' ⟨rfl,rfl⟩)|(go_at_call 126;refine(qy _ _).mono ?_;rw[CO.out];rintro e w' ⟨rfl,rfl⟩))
   go_ret
   exact ov Hx.out gZ H.out HB.out
  | true=>
   obtain⟨k,rfl,hk⟩:∃k:Nat,tbl=(k+1:Nat) /\ k<L.length:=⟨(tbl - 1).toNat,by unfold there at ht;simp at ht;omega,by unfold there at ht;simp at ht;omega⟩;have hlen:=H.out.nk.len;obtain⟨t,Cu⟩:∃t,t=L.getD k iX:=⟨_,rfl⟩;have ek:(((k+1:Nat):Int) - 1).toNat=k:=gZ;obtain⟨tv,dr,mb,hc,wI,tP,Kx,⟨cells,hT,hI⟩,Bm,zG,hG⟩:=H1.out;have vK:=hI k hk;rw[<- Cu] at vK;obtain⟨g,cap,rfl,uN,oG,hg,Ho,x0,x1,x2,sp,cc,x3,iJ⟩:=mF hT hk vK;have c0:=hc.cell 0 iz;have c2:=hc.cell 2 iz;simp only[al,ax] at c0 c2;have u7:∀m,(Instr.lookup 142 (.map (some mb)) (.agg #[Iq ((k:Int)+1),.string txt]) false).run prog ((w.alloc (.cells cs 76)).drewN m)=.ok (.bool (has L ((k+1:Nat):Int) txt)) ((w.alloc (.cells cs 76)).drewN m) :=
    fun m=>FD (zG.drewN m) ((k+1:Nat):Int) txt ⟨HE.out.hwf,HE.out.Ym⟩
   have yH:=iH.mk Cu;have Ez:=iH.mk hT;have HI:=iH.mk hI;have Hm:=iH.mk zG;have CG:=iH.mk iJ;have HX:=iH.mk (And.intro tP (And.intro Kx (And.intro Bm hG)));have so:t.fs.length <= 16:=by rw[Cu];exact(hG.each k hk).2.1
   obtain⟨nf,LD⟩:∃nf,nf=t.fs.length:=⟨_,rfl⟩;rw[<- LD] at x3 so;have aoR:nf <= cc:=by obtain⟨sL,oc,e,hle,-⟩:=iJ.slice;injection e with _ _ e3;omega
   have Qj:=iH.mk LD;have Ht:=iH.mk ht;have CO:=iH.mk m4;have Hc:=iH.mk hc;clear ht hc hT hI vK iJ zG hG Kx tP Cu Bm m4 LD;cases hh:has L ((k+1:Nat):Int) txt with
   | true=>
    have hx:kt L 7 txt ((k+1:Nat):Int)=8:=by unfold kt;rw[if_neg gZ,if_neg gZ,if_pos rfl,if_neg (by rw[Ht.out];simp),if_neg (by rw[CO.out];simp),if_pos hh]
    rw[hh] at u7;have Hx:=iH.mk hx;clear hx hh ek
    go_enter gg,fK
    go_wp2_with (first|(go_at_call 56;refine(HT.out).mono ?_;rw[Ht.out];rintro e w' ⟨rfl,rfl⟩)|(go_at_call 126;refine(qy _ _).mono ?_;rw[CO.out];rintro e w' ⟨rfl,rfl⟩))
    go_quiet (fail)
    clear u7
    go_wp2_with fail
    go_ret
    exact ov Hx.out gZ H.out (zF HB.out _)
   | false=>
    rw[hh] at u7;have hwk:IntKind.i64.wrap (k:Int)=k:=bG _ gZ;have tc:(k:Int)<L.length:=gZ;have K9:(0:Int) <= k:=gZ;have Hh:=iH.mk hh;have YL:=iH.mk ek;clear hh ek
    by_cases Pq:16 <= nf
    ·have hx:kt L 7 txt ((k+1:Nat):Int)=17:=by unfold kt;rw[if_neg gZ,if_neg gZ,if_pos rfl,if_neg (by rw[Ht.out];simp),if_neg (by rw[CO.out];simp),if_neg (by rw[Hh.out];simp),YL.out,if_pos (by rw[<- yH.out,<- Qj.out];exact Pq)]
     have Hx:=iH.mk hx;have apY:(16:Int) <= nf:=gZ;clear hx
     go_enter gg,fK
     go_wp2_with (first|(go_at_call 56;refine(HT.out).mono ?_;rw[Ht.out];rintro e w' ⟨rfl,rfl⟩)|(go_at_call 126;refine(qy _ _).mono ?_;rw[CO.out];rintro e w' ⟨rfl,rfl⟩))
     go_quiet (fail)
     clear u7
     go_wp2_with fail
     go_quiet (fail)
     go_wp2_with fail
     go_ret
     exact ov Hx.out gZ H.out (zF (zF HB.out _) _)
    ·exact G_ H.out HE.out hn Ht.out CO.out Hh.out (by rw[YL.out,<- yH.out,<- Qj.out];omega)
theorem NS {n:Nat}{L:List Tb}{kind:Int}(h:ln w c O n L) (hE:E9 cs kind txt tbl) (h5:kind≠5) (h6:kind≠6) (h7:kind≠7):
  Calls prog 88 #[iF c,.agg cs] w (wA w c n O L kind txt tbl):=by
 have jP:iB w (w.alloc (.cells cs 76)):=(Below.refl _ w).alloc (af _) _;obtain⟨e0,e1,e2⟩:=yK (w:=w) hE;have hx:kt L kind txt tbl=0:=by unfold kt;rw[if_neg h5,if_neg h6,if_neg h7]
 have hl:mW L kind txt tbl=L:=by unfold mW;rw[if_pos hx,if_neg h5,if_neg h6,if_neg h7]
 have Hx:=iH.mk hx;have Hl:=iH.mk hl;have HB:=iH.mk jP;have H:=iH.mk h;have g5:=beq_eq_false_iff_ne.2 h5;have g6:=beq_eq_false_iff_ne.2 h6;have g7:=beq_eq_false_iff_ne.2 h7;clear hx hl jP h hE h5 h6 h7 e1 e2
 go_enter gg,fK
 go_wp2_with fail
 go_ret
 exact⟨O,by rw[Hx.out];rfl,by rw[Hl.out];exact(H.out.below HB.out (af _)).mono gZ,(ib.ic HB.out).mono (fun b hb=>hb.1),fun b hb=>.inl hb⟩
theorem Vy {n:Nat}{L:List Tb}{kind:Int}(h:ln w c O n L) (hE:E9 cs kind txt tbl) (hn:n<1000000000):
  Calls prog 88 #[iF c,.agg cs] w (wA w c n O L kind txt tbl):=by
 by_cases h5:kind=5
 ·subst h5;exact Ol h hE
 ·by_cases h6:kind=6
  ·subst h6;exact Tv h hE
  ·by_cases h7:kind=7
   ·subst h7;exact N2 h hE hn
   ·exact NS h hE h5 h6 h7
theorem Zf: Good []:=⟨iz,fun i hi=>by simp at hi⟩
theorem aeo (w:World): Calls prog 68 #[] w fun e w'=>∃O,e=.returned (.pointer (some ⟨w.heap.size+1,0,none⟩)) /\ ln w' (w.heap.size+1) O 0 [] /\ iB w w' /\ ∀b,O b -> w.heap.size <= b:=by
 have hmm:=@run_makeMap prog
 go_enter func68,ntmps68
 go_wp2_with fail
 go_ret
 have hm:MF prog 146 mk (w.alloc (.map #[] 0)) w.heap.size 0 (fun _=>none):=MF.made _ _ _ w;have pS:(w.alloc (.map #[] 0)).heap.size=w.heap.size+1:=iz;have hv:=h_.mk (w.alloc (.map #[] 0)) [.slice none 0 0,.int .u64 0,.map (some w.heap.size)] 144;rw[pS] at hv;refine⟨fun b=>b=w.heap.size \/ b=w.heap.size+1,rfl,⟨.slice none 0 0,0,w.heap.size,hv,.inr rfl,.inl rfl,fun b hb=>?_,⟨[],iK.nil _ _ _ _,fun i hi=>by simp at hi⟩,⟨gZ,fun i=>by simp[iX]⟩,?_,Zf⟩,((Below.refl _ _).alloc (af _) _).alloc iz _,fun b hb=>by omega⟩
 ·simp;omega
 ·exact(hm.alloc _).congr fun x=>by unfold uf has;simp;omega
end Cat
namespace Cr
open K Cat
theorem yS: lK prog 50 wC 4 56:=lK.mk' (z:=.agg qP.toArray) underlying50 (by kernel_rfl) rfl gZ
theorem zk: lK prog 22 xL 1 16:=lK.mk' (z:=.string ByteArray.empty) underlying22 (by kernel_rfl) rfl gZ
theorem iK.fresh {e n:Nat}{cs:List Value}(h:jl w g w' e cs) (h1:kj cs) (hl:cs.length=n*m) (hn:n <= 1000000) (hO:O g): iK e m w' O (.slice (some ⟨g,0,none⟩) n n) n cs :=
 ⟨⟨hl,.inr ⟨g,n,cs.toArray,rfl,aw _,h.blk,af _,by unfold maxLen;omega,by simp[hl],by simp[<- hl]⟩⟩,h1,fun b hb=>by cases hb;exact hO⟩
def uP (w:World) (rc:Nat) (O:Nat -> Prop) (L:List Tb) (kind:Int) (txt:ByteArray) (tbl:Int) (e:Ending) (w':World):Prop :=
 ∃O',e=.returned (Iq (kt L kind txt tbl)) /\ pU w' rc O' (mW L kind txt tbl) /\ ib (fun b=>b<w.heap.size /\ ¬O b) w w' /\ ∀b,O' b -> O b \/ w.heap.size <= b
theorem uP.no {L:List Tb}{kind:Int}{x:Int}(hx:kt L kind txt tbl=x) (kD:x≠0) (h:pU w rc O L) (hb:iB w w'): uP w rc O L kind txt tbl (.returned (Iq x)) w' :=
 ⟨O,by rw[hx],by unfold mW;rw[if_neg (by rw[hx];exact kD)];exact h.below hb,ib.mono (ib.ic hb) (fun k hk=>hk.1),fun b hb=>.inl hb⟩
theorem H4 {kind:Int}(hE:E9 cs kind txt tbl) (h:h_ T w g cs.toList): w.cell? ⟨g,0,none⟩=some (Iq kind) /\ w.cell? ⟨g,1,none⟩=some (.string txt) /\ w.cell? ⟨g,2,none⟩=some (Iq tbl):=by
 have hl:cs.toList.length=46:=by simpa using hE.j5
 have e:∀j v,cs[j]? = some v -> cs.toList.getD j undef=v:=fun j v hv=>by rw[ag,Array.getElem?_toList,hv];rfl
 exact⟨by rw[h.cell 0 gZ,e _ _ hE.hk],by rw[h.cell 1 gZ,e _ _ hE.rT],by rw[h.cell 2 gZ,e _ _ hE.qT]⟩
theorem RC.push {w0:World}{O2:Nat -> Prop}{L:List Tb}(h:RC w rc O L tv cells) (hk:ib (fun b=>b<w0.heap.size) w w') (hs:w0.heap.size=w.heap.size) (O3:L.length<64) (m4:uo txt=true) (ho:iK wC 4 w' O2 sO (L.length+1) (cells++[Iq ((L.length:Int)+1),.string txt,.bool false,.slice none 0 0])) (hO2:∀g,sO.ownBlock=some g -> w.heap.size <= g):
  RC (w'.setCell ⟨rc,0,none⟩ sO) rc (fun b=>(O b \/ w.heap.size <= b) /\ b<w'.heap.size) (L++[⟨txt,false,[]⟩]) sO (cells++[Iq ((L.length:Int)+1),.string txt,.bool false,.slice none 0 0]) /\
   ib (fun b=>b<w.heap.size /\ ¬O b) w (w'.setCell ⟨rc,0,none⟩ sO):=by
 rw[hs] at hk;have hz:=hk.size;have Cl:=h.lt _ h.rc;have hl:=h.own.len;have Fy:=h.vb.ij hk Cl;have anp:1 <= txt.size /\ txt.size <= 40:=by unfold uo at m4;simpa using m4
 have j5:(w'.setCell ⟨rc,0,none⟩ sO).heap.size=w'.heap.size:=iz;refine⟨⟨Fy.set 0 sO,?_,fun i hi=>?_,⟨.inl h.rc,gZ⟩,fun b hb=>by rw[j5];exact hb.2,?_⟩,ib.setCell (hk.mono fun b hb=>hb.1) (fun hh=>hh.2 h.rc) _⟩
 ·rw[show(L++[(⟨txt,false,[]⟩:Tb)]).length=L.length+1 by simp]
  have ho':iK wC 4 w' (fun b=>(O b \/ w.heap.size <= b) /\ b<w'.heap.size) sO (L.length+1) (cells++[Iq ((L.length:Int)+1),.string txt,.bool false,.slice none 0 0]):=⟨ho.1,ho.2.1,fun g hg=>⟨.inr (hO2 g hg),ho.lt hg⟩⟩;refine ho'.iP fun g hg=>Below.heap_setCell w' _ _ g ?_;have:=hO2 g hg
  show g≠rc
  omega
 ·have hb:∀b,O b -> (∃cur,w.heap[b]? = some (.cells cur xL (0,0))) -> (w'.setCell ⟨rc,0,none⟩ sO).heap[b]? = w.heap[b]?:=fun b hb ⟨cur,hc⟩=>by
   rw[Below.heap_setCell w' _ _ b (fun e=>?_),hk.block b (h.lt b hb)];have e':b=rc:=e;have hv:w.heap[rc]? = some (.cells [tv].toArray Yd (0,0)):=h.vb;rw[e',hv] at hc
   injection hc with hc
   injection hc with _ hc _
   exact absurd hc j9
  by_cases iS:i<L.length
  ·rw[Cat.lV _ _ _ _ iS]
   exact((h.lj i iS).iP hb).left gZ |>.mono fun b hb=>⟨.inl hb,ak (h.lt b hb) hz⟩
  ·obtain rfl:i=L.length:=by simp at hi;omega
   have e:(L++[(⟨txt,false,[]⟩:Tb)]).getD L.length iX=⟨txt,false,[]⟩:=iz;rw[e];exact lT.last (t:=⟨txt,false,[]⟩) gZ (iK.nil _ _ _ _)
 ·refine⟨by simp;omega,fun i hi=>?_⟩
  by_cases iS:i<L.length
  ·rw[Cat.lV _ _ _ _ iS];exact h.nk.each i iS
  ·obtain rfl:i=L.length:=by simp at hi;omega
   have e:(L++[(⟨txt,false,[]⟩:Tb)]).getD L.length iX=⟨txt,false,[]⟩:=iz;rw[e];exact⟨anp.2,iz,iz,iz⟩
theorem RC.place {L:List Tb}{t:Tb}{k:Nat}(h:RC w rc O L (.slice (some ⟨g,0,none⟩) L.length cap) cells) (hk:k<L.length) (hb:∀b,b<w.heap.size -> b≠g -> w'.heap[b]? = w.heap[b]?) (ho:iK wC 4 w' O (.slice (some ⟨g,0,none⟩) L.length cap) L.length xh) (hO:∀b,O b -> O' b) (iS:∀b,O' b -> b<w'.heap.size) (hc:∀i,i≠k -> ∀j,j<4 -> xh.getD (i*4+j) undef=cells.getD (i*4+j) undef) (ht:lT xL w' O' xh k t) (hg:Cat.Good (L.set k t)): RC w' rc O' (L.set k t) (.slice (some ⟨g,0,none⟩) L.length cap) xh:=by
 have aik:w.heap[g]? = some (.cells ((w.heap[g]?).elim #[] fun|.cells c _ _=>c|_=>#[]) wC (0,0)):=by
  obtain⟨cur,kI⟩:=h.own.tag (g:=g) rfl;rw[kI];rfl
 have aoS:rc≠g:=fun e=>by
  have hv:w.heap[rc]? = some (.cells [Value.slice (some ⟨g,0,none⟩) L.length cap].toArray Yd (0,0)):=h.vb;rw[e,aik] at hv
  injection hv with hv
  injection hv with _ hv _
  exact absurd hv j9
 refine⟨(hb rc (h.lt _ h.rc) aoS).trans h.vb,?_,fun i hi=>?_,hO _ h.rc,iS,hg⟩
 ·rw[aC];exact ho.mono hO
 ·rw[aC] at hi
  by_cases e:i=k
  ·subst e
   rw[Cat.kX _ _ _ _ hi];exact ht
  ·rw[Cat.getD_set_ne _ _ _ _ _ (fun q=>e q.symm)]
   refine((h.lj i hi).Uh (hc i e) fun b Qi ⟨cur,kI⟩=>hb b (h.lt b Qi) fun q=>?_).mono hO;rw[q,aik] at kI
   injection kI with kI
   injection kI with _ kI _
   exact absurd kI j9
open K Cat
theorem Lf {L:List Tb}(h0:pU w rc O L) (hE:E9 cs 5 txt tbl):
  Calls prog 109 #[iF rc,.agg cs] w (uP w rc O L 5 txt tbl):=by
 obtain⟨tv,cells,h⟩:=id h0;obtain⟨OY,DT,rfl,-,-⟩:=h.own.slice;have hlen:=h.nk.len;refine iY func109 ntmps109 ?_;refine ku ?_;refine iC fun ge w1 f1=>?_;have b1:=f1.below;obtain⟨e0,e1,e2⟩:=H4 hE f1.blk;have eg:=f1.eq;have ez:=f1.size;clear f1;have h1:=h.below b1;have z1:=b1.size;have cv:=h1.vb.cell 0 iz;simp only[al] at cv
 by_cases g64:64 <= L.length
 ·refine iu ?_
  exact g_ (uP.no (by unfold kt;rw[if_pos rfl,if_pos g64]) gZ h0 b1)
 by_cases ht:tbl=(L.length:Int)+1
 ·subst ht
  refine iu ?_;refine WC.drawn 14 (iB w1) fun w2 hd=>?_;have hS:iB w1 w2:=hd.below _;have kc:∀ {wx:World},iB w1 wx -> wx.cell? ⟨rc,0,none⟩=some (.slice OY L.length DT):=fun hx=>(hx.cell (p:=⟨rc,0,none⟩) (show rc<w1.heap.size by have:=h.lt _ h.rc;omega)).trans cv;have k1:∀ {wx:World},iB w1 wx -> wx.cell? ⟨ge,1,none⟩=some (.string txt):=fun hx=>(hx.cell (p:=⟨ge,1,none⟩) (show ge<w1.heap.size by omega)).trans e1;have k2:∀ {wx:World},iB w1 wx -> wx.cell? ⟨ge,2,none⟩=some (Iq ((L.length:Int)+1)):=fun hx=>(hx.cell (p:=⟨ge,2,none⟩) (show ge<w1.heap.size by omega)).trans e2;refine iq [0,2,3,4] hS ?_;refine ik 1 [8,9,13,14] (fun wx hx=>k2 hx) hS ?_;refine ik 5 [6,7,8,9,13,14] (fun wx hx=>kc hx) hS ?_;refine iq [6,7,8,9,10] hS ?_;refine ik 11 [12,13,14] (fun wx hx=>k1 hx) hS ?_;refine iI 12 ?_;refine WL.on rfl rfl ?_;refine WL.call rfl rfl rfl rfl rfl func139 rfl (by kernel_rfl) (KQ txt w2) ?_;rintro _ w2 ⟨rfl,rfl⟩;refine⟨_,rfl,?_⟩;refine km hS ?_;refine iq [13] hS ?_;refine iI 14 ?_;cases m4:uo txt with
  | false=>
   refine gY ?_;refine WQ.dk (.inl rfl) ?_;refine im ?_;refine gY ?_;exact g_ (uP.no (by unfold kt;rw[if_pos rfl,if_neg g64,if_pos (.inr m4)]) gZ h0 (b1.trans (hS.mono z1)))
  | true=>
  refine gY ?_;refine WQ.dk (.inl rfl) ?_;refine im ?_;have h2:=(h1.below hS);have z2:=hS.size;have q1:=k1 hS;refine iu ?_;refine WL.call rfl rfl rfl rfl rfl func140 rfl (by kernel_rfl) (UL ⟨_,_,h2⟩ txt) ?_;intro e w4 hp;have hA:kt L 5 txt ((L.length:Int)+1)=if(y7 L txt).isSome=true then 8 else 0:=by
   unfold kt;rw[if_pos rfl,if_neg g64,if_neg (by rw[m4];simp)]
  cases E_:y7 L txt with
  | some k=>
   rw[show qR L txt=(((k+1:Nat):Int),L.getD k iX,0) by unfold qR;rw[E_]] at hp;obtain⟨fv,he,hfo,lD⟩:=hp;simp only at he;subst he;refine⟨_,rfl,?_⟩;refine gY ?_;refine ix (z:=.agg qP.toArray) xa fun gt w5 f5=>?_;refine ir f5.blk (pw (iK.one hfo)) ?_;refine gY ?_;have b4:=hS.trans (lD.mono z2);have b5:=b4.iR f5.below;exact WQ.uT rfl rfl (uP.no (by rw[hA,E_];rfl) gZ h0 ((b1.trans (b5.mono z1)).trans (kC (K:=fun b=>b<w.heap.size) (g:=gt) (ib.refl _ _) (fun hh=>by have:=f5.eq;have:=b4.size;omega) _).below))
  | none=>
   rw[show qR L txt=(0,iX,13) by unfold qR;rw[E_]] at hp;obtain⟨fv,he,hfo,lD⟩:=hp;simp only at he;subst he;refine⟨_,rfl,?_⟩;refine gY ?_;refine ix (z:=.agg qP.toArray) xa fun gt w5 f5=>?_;refine ir f5.blk (pw (iK.one hfo)) ?_;have b4:=hS.trans (lD.mono z2);have b5:=(b4.iR f5.below).trans (kC (K:=fun b=>b<w1.heap.size) (g:=gt) (ib.refl _ _) (fun hh=>by have:=f5.eq;have:=b4.size;omega) [Value.int .i64 0,.string ByteArray.empty,.bool false,fv].toArray).below;clear hfo lD b4 h2 z2 q1;have hc:kt L 5 txt ((L.length:Int)+1)=0:=by rw[hA,E_];rfl
   have hL:mW L 5 txt ((L.length:Int)+1)=L++[⟨txt,false,[]⟩]:=by unfold mW;rw[if_pos hc,if_pos rfl]
   refine iu ?_;refine WC.drawn 13 (iB w1) fun w3 Is=>?_;have c3:=b5.trans (Is.below _);clear Is b5 f5 hS;have hS:=c3;have src:∀ {wx:World},iB w1 wx -> n_ wx O 4 (.slice OY L.length DT) L.length cells:=fun hx=>(h1.below hx).own.DC;refine iq [0,2,3,4,7,9] hS ?_;refine ik 5 [6,13] (fun wx hx=>kc hx) c3 ?_;refine ik 8 [11,12,13] (fun wx hx=>k2 hx) c3 ?_;refine ik 10 [11,12,13] (fun wx hx=>k1 hx) c3 ?_;refine uh [Iq ((L.length:Int)+1),.string txt,.bool false,.slice none 0 0] 11 rfl (by kernel_rfl) rfl rfl (fun _ _ _ _ _ h=>h) rfl rfl rfl (by kernel_rfl) (.inr c3) ?_;refine WD.two 1 12 (by kernel_rfl) rfl rfl ?_ ?_
   ·skip
    refine WL.empty rfl rfl rfl rfl rfl fun ga wa fa=>?_;have ca:=c3.iR fa.below;have qN:iK wC 4 wa (fun b=>w1.heap.size <= b) (.slice (some ⟨ga,0,none⟩) 0 0) 0 []:=iK.fresh fa (fun u hu=>absurd hu aR) iz gZ (by have:=fa.eq;have:=c3.size;omega);refine km ca ?_;refine WD.two 6 12 (by kernel_rfl) rfl rfl ?_ ?_
    ·skip
     refine WL.qO rfl rfl rfl rfl yS rfl qN rfl (src ca) gZ gZ fun vb wb ob gb=>?_;have cb:=ca.trans (gb.old ca.size fun g hg=>qN.own hg);have ur:iK wC 4 wb (fun b=>w1.heap.size <= b) vb L.length cells:=by
      rw[a_,aH] at ob;exact ob.mono fun b hb=>hb.elim id fun e=>by have:=ca.size;omega
     refine km cb ?_;refine iI 12 ?_;refine jR (cs:=[Iq ((L.length:Int)+1),.string txt,.bool false,.slice none 0 0]) fun gl wl fl=>?_;have cl:=cb.iR fl.below;have Av:=n_.zu fl (T:=wC) (pw rfl);have TL:=fl.blk.lt;have Bo:=ur.ij (ib.ic fl.below) (fun g hg=>ur.lt hg)
     skip
     refine km cl ?_;refine iI 13 ?_;refine WL.qO rfl rfl rfl rfl yS rfl Bo rfl Av gZ gZ fun vd wd od gd=>?_;have cd:=cl.trans (gd.old cl.size fun g hg=>Bo.own hg);have nj:iK wC 4 wd (fun b=>w1.heap.size <= b) vd (L.length+1) (cells++[Iq ((L.length:Int)+1),.string txt,.bool false,.slice none 0 0]):=od.mono fun b hb=>hb.elim id fun e=>by have:=cl.size;omega
     refine iO ?_
     (refine js 14 rfl (q:=?_);refine js 15 rfl (q:=?_))
     refine iI 16 ?_;have iS:=h.lt _ h.rc;have bd:=b1.trans (cd.mono z1);have cvd:=(cd.cell (p:=⟨rc,0,none⟩) (show rc<w1.heap.size by omega)).trans cv;refine iD (hv:=(iK.one nj)) cvd (h_.free (h1.below cd |>.vb) 0) ?_;refine iO ?_;refine im ?_;refine gY ?_;obtain⟨r1,r2⟩:=h.push (w0:=w) (ib.ic bd) rfl gZ m4 nj (fun g hg=>by have:=nj.own hg;omega);exact g_ ⟨_,by rw[hc],by rw[hL];exact⟨_,_,r1⟩,r2,fun b (hb:(O b \/ w.heap.size <= b) /\ _)=>hb.1⟩
    ·skip
     refine jR (cs:=[Iq ((L.length:Int)+1),.string txt,.bool false,.slice none 0 0]) fun gl wl fl=>?_;have cl:=ca.iR fl.below;have Av:=n_.zu fl (T:=wC) (pw rfl);have TL:=fl.blk.lt;have Bo:=qN.ij (ib.ic fl.below) (fun g hg=>qN.lt hg);have VH:ga≠gl:=by have:=fl.eq;have:ga<wa.heap.size:=qN.lt rfl;omega
     refine km cl ?_;refine iI 6 ?_;refine WL.qO rfl rfl rfl rfl yS rfl Bo rfl (src cl) gZ gZ fun vb wb ob gb=>?_;have cb:=cl.trans (gb.old cl.size fun g hg=>Bo.own hg);have ur:iK wC 4 wb (fun b=>w1.heap.size <= b) vb L.length cells:=by
      rw[a_,aH] at ob;exact ob.mono fun b hb=>hb.elim id fun e=>by have:=cl.size;omega
     have Kc:=Av.ij gb.1 (fun b hb hl=>⟨hl,fun e=>VH ((au e).trans hb)⟩);refine km cb ?_;refine iI 13 ?_;refine WL.qO rfl rfl rfl rfl yS rfl ur rfl Kc gZ gZ fun vd wd od gd=>?_;have cd:=cb.trans (gd.old cb.size fun g hg=>ur.own hg);have nj:iK wC 4 wd (fun b=>w1.heap.size <= b) vd (L.length+1) (cells++[Iq ((L.length:Int)+1),.string txt,.bool false,.slice none 0 0]):=od.mono fun b hb=>hb.elim id fun e=>by have:=cb.size;omega
     refine iO ?_
     (refine js 14 rfl (q:=?_);refine js 15 rfl (q:=?_))
     refine iI 16 ?_;have iS:=h.lt _ h.rc;have bd:=b1.trans (cd.mono z1);have cvd:=(cd.cell (p:=⟨rc,0,none⟩) (show rc<w1.heap.size by omega)).trans cv;refine iD (hv:=(iK.one nj)) cvd (h_.free (h1.below cd |>.vb) 0) ?_;refine iO ?_;refine im ?_;refine gY ?_;obtain⟨r1,r2⟩:=h.push (w0:=w) (ib.ic bd) rfl gZ m4 nj (fun g hg=>by have:=nj.own hg;omega);exact g_ ⟨_,by rw[hc],by rw[hL];exact⟨_,_,r1⟩,r2,fun b (hb:(O b \/ w.heap.size <= b) /\ _)=>hb.1⟩
   ·skip
    refine jR (cs:=[Iq ((L.length:Int)+1),.string txt,.bool false,.slice none 0 0]) fun gl wl fl=>?_;have cl:=c3.iR fl.below;have Av:=n_.zu fl (T:=wC) (pw rfl);have TL:=fl.blk.lt;refine km cl ?_;refine iI 1 ?_;refine WL.empty rfl rfl rfl rfl rfl fun ga wa fa=>?_;have ca:=cl.iR fa.below;have qN:iK wC 4 wa (fun b=>w1.heap.size <= b) (.slice (some ⟨ga,0,none⟩) 0 0) 0 []:=iK.fresh fa (fun u hu=>absurd hu aR) iz gZ (by have:=fa.eq;have:=cl.size;omega);have acZ:=Av.ij (ib.ic fa.below) (fun b _ hb=>hb);have VH:ga≠gl:=by have:=fa.eq;omega
    have glE:=ak TL fa.below.size;refine km ca ?_;refine iI 6 ?_;refine WL.qO rfl rfl rfl rfl yS rfl qN rfl (src ca) gZ gZ fun vb wb ob gb=>?_;have cb:=ca.trans (gb.old ca.size fun g hg=>qN.own hg);have ur:iK wC 4 wb (fun b=>w1.heap.size <= b) vb L.length cells:=by
     rw[a_,aH] at ob;exact ob.mono fun b hb=>hb.elim id fun e=>by have:=ca.size;omega
    have Kc:=acZ.ij gb.1 (fun b hb hl=>⟨hl,fun e=>VH ((au e).trans hb)⟩);refine km cb ?_;refine iI 13 ?_;refine WL.qO rfl rfl rfl rfl yS rfl ur rfl Kc gZ gZ fun vd wd od gd=>?_;have cd:=cb.trans (gd.old cb.size fun g hg=>ur.own hg);have nj:iK wC 4 wd (fun b=>w1.heap.size <= b) vd (L.length+1) (cells++[Iq ((L.length:Int)+1),.string txt,.bool false,.slice none 0 0]):=od.mono fun b hb=>hb.elim id fun e=>by have:=cb.size;omega
    refine iO ?_
    (refine js 14 rfl (q:=?_);refine js 15 rfl (q:=?_))
    refine iI 16 ?_;have iS:=h.lt _ h.rc;have bd:=b1.trans (cd.mono z1);have cvd:=(cd.cell (p:=⟨rc,0,none⟩) (show rc<w1.heap.size by omega)).trans cv;refine iD (hv:=(iK.one nj)) cvd (h_.free (h1.below cd |>.vb) 0) ?_;refine iO ?_;refine im ?_;refine gY ?_;obtain⟨r1,r2⟩:=h.push (w0:=w) (ib.ic bd) rfl gZ m4 nj (fun g hg=>by have:=nj.own hg;omega);exact g_ ⟨_,by rw[hc],by rw[hL];exact⟨_,_,r1⟩,r2,fun b (hb:(O b \/ w.heap.size <= b) /\ _)=>hb.1⟩
 ·refine iu ?_
  refine WC.drawn 14 (iB w1) fun w2 hd=>?_;have hS:iB w1 w2:=hd.below _;have kc:∀ {wx:World},iB w1 wx -> wx.cell? ⟨rc,0,none⟩=some (.slice OY L.length DT):=fun hx=>(hx.cell (p:=⟨rc,0,none⟩) (show rc<w1.heap.size by have:=h.lt _ h.rc;omega)).trans cv;have k2:∀ {wx:World},iB w1 wx -> wx.cell? ⟨ge,2,none⟩=some (Iq tbl):=fun hx=>(hx.cell (p:=⟨ge,2,none⟩) (show ge<w1.heap.size by omega)).trans e2;refine iq [0,2,3,4] hS ?_;refine ik 1 [8,9,13,14] (fun wx hx=>k2 hx) hS ?_;refine ik 5 [6,7,8,9,13,14] (fun wx hx=>kc hx) hS ?_;refine iq [6,7,8,9,10,11,12,13] hS ?_;refine iI 14 ?_;refine gY ?_;refine WQ.dk (.inl rfl) ?_;refine im ?_;refine gY ?_;exact g_ (uP.no (by unfold kt;rw[if_pos rfl,if_neg g64,if_pos (.inl ht)]) gZ h0 (b1.trans (hS.mono z1)))
theorem O7 {L:List Tb}(h0:pU w rc O L) (hE:E9 cs 6 txt tbl):
  Calls prog 109 #[iF rc,.agg cs] w (uP w rc O L 6 txt tbl):=by
 obtain⟨tv,cells,h⟩:=id h0;have hlen:=h.nk.len;refine iY func109 ntmps109 ?_;refine ku ?_;refine iC fun ge w1 f1=>?_;have b1:=f1.below;obtain⟨e0,e1,e2⟩:=H4 hE f1.blk;have eg:=f1.eq;have ez:=f1.size;clear f1;have h1:=h.below b1;have z1:=b1.size;refine iu ?_;refine WL.call rfl rfl rfl rfl rfl func43 rfl (by kernel_rfl) (Ap h1 tbl) ?_;rintro _ w1' ⟨rfl,⟨ht,rfl⟩|⟨k,g,cap,hk,rfl,ht,zf,rfl,rfl⟩⟩
 ·refine⟨_,rfl,?_⟩
  refine gY ?_;refine jc ?_;refine gY ?_;exact g_ (uP.no (by unfold kt;rw[if_neg gZ,if_pos rfl,if_neg (by rw[ht];simp)]) gZ h0 b1)
 ·refine⟨_,rfl,?_⟩
  have hc:kt L 6 txt ((k:Int)+1)=0:=by unfold kt;rw[if_neg gZ,if_pos rfl,if_pos ht]
  have hL:mW L 6 txt ((k:Int)+1)=L.set k ⟨(L.getD k iX).name,true,[]⟩:=by unfold mW;rw[if_pos hc,if_neg gZ,if_pos rfl,show((k:Int)+1 - 1).toNat=k by omega]
  obtain⟨g',oc,es,-,-,qD,Ho,d0,d1,d2,sp,c,d3,iJ⟩:=mF h1.own hk (h1.lj k hk);obtain⟨rfl,rfl⟩:g=g' /\ cap=oc:=by simpa using es
  clear es;have hl:=h1.own.len;have xU:=h.nk.each k hk;have o1:=iK.stored h1.own (k*4+2) (u:=.bool true) rfl;have o2:=iK.stored o1 (k*4+3) (u:=.slice none 0 0) rfl;refine gY ?_;refine jc ?_;refine gY ?_;refine iD d2 (iK.free h1.own _) ?_;have d3':(w1'.setCell ⟨g,k*4+2,none⟩ (.bool true)).cell? ⟨g,k*4+3,none⟩=some (.slice sp (L.getD k iX).fs.length c):=by
   rw[iK.at o1 (k*4+3) (by rw[aC];omega)];rw[iK.at h1.own (k*4+3) gZ] at d3;rw[Cat.getD_set_ne _ _ _ _ _ gZ];exact d3
  refine gY ?_;refine iD d3' (iK.free o1 _) ?_;refine gY ?_;have hb:∀b,b<w1'.heap.size -> b≠g -> ((w1'.setCell ⟨g,k*4+2,none⟩ (.bool true)).setCell ⟨g,k*4+3,none⟩ (.slice none 0 0)).heap[b]? = w1'.heap[b]?:=fun b _ kD=>by
   rw[Below.heap_setCell _ _ _ b kD,Below.heap_setCell _ _ _ b kD]
  have R:=h1.place (O':=O) (t:=⟨(L.getD k iX).name,true,[]⟩) hk hb o2 (fun _ hh=>hh) (fun b hh=>by simp;exact h1.lt b hh) (fun i hi j hj=>by
   rw[Cat.getD_set_ne _ _ _ _ _ gZ,Cat.getD_set_ne _ _ _ _ _ gZ]) ?_ (Cat.BR h.nk xU.1 iz iz iz)
  ·refine g_ ⟨O,by rw[hc],by rw[hL];exact⟨_,_,R⟩,?_,fun b hh=>.inl hh⟩
   exact ib.setCell (ib.setCell ((ib.ic b1).mono fun b hh=>hh.1) (fun hh=>hh.2 Ho) _) (fun hh=>hh.2 Ho) _
  ·obtain⟨i0,i1,i2,i3⟩:=h1.lj k hk
   refine⟨?_,?_,?_,?_⟩
   ·rw[Cat.getD_set_ne _ _ _ _ _ gZ,Cat.getD_set_ne _ _ _ _ _ gZ];exact i0
   ·rw[Cat.getD_set_ne _ _ _ _ _ gZ,Cat.getD_set_ne _ _ _ _ _ gZ];exact i1
   ·rw[Cat.getD_set_ne _ _ _ _ _ gZ,Cat.kX _ _ _ _ gZ]
   ·rw[Cat.kX _ _ _ _ (by rw[aC];omega)];exact iK.nil _ _ _ _
theorem LF {L:List Tb}(h0:pU w rc O L) (hE:E9 cs 7 txt tbl):
  Calls prog 109 #[iF rc,.agg cs] w (uP w rc O L 7 txt tbl):=by
 obtain⟨tv,cells,h⟩:=id h0;have hlen:=h.nk.len;refine iY func109 ntmps109 ?_;refine ku ?_;refine iC fun ge w1 f1=>?_;have b1:=f1.below;obtain⟨e0,e1,e2⟩:=H4 hE f1.blk;have eg:=f1.eq;have ez:=f1.size;clear f1;have h1:=h.below b1;have z1:=b1.size;refine iu ?_;refine WL.call rfl rfl rfl rfl rfl func43 rfl (by kernel_rfl) (Ap h1 tbl) ?_;rintro _ w1 ⟨rfl,⟨ht,rfl⟩|⟨k,g,cap,hk,rfl,ht,zf,rfl,rfl⟩⟩
 ·refine⟨_,rfl,?_⟩
  refine gY ?_;refine jc ?_;refine gY ?_;exact g_ (uP.no (by unfold kt;rw[if_neg gZ,if_neg gZ,if_pos rfl,if_pos ht]) gZ h0 b1)
 refine⟨_,rfl,?_⟩;have htf:¬there L ((k:Int)+1)=false:=by rw[ht];simp
 refine gY ?_;refine jc ?_;refine iu ?_;refine WL.call rfl rfl rfl rfl rfl func139 rfl (by kernel_rfl) (KQ txt w1) ?_;rintro _ w1 ⟨rfl,rfl⟩;refine⟨_,rfl,?_⟩;cases m4:uo txt with
 | false=>
  refine gY ?_;exact g_ (uP.no (by unfold kt;rw[if_neg gZ,if_neg gZ,if_pos rfl,if_neg htf,if_pos m4]) gZ h0 b1)
 | true=>
 refine iu ?_;refine WL.call rfl rfl rfl rfl rfl func17 rfl (by kernel_rfl) (Ni ⟨_,_,h1⟩ ((k:Int)+1) txt) ?_;rintro _ w1 ⟨rfl,rfl⟩;refine⟨_,rfl,?_⟩;cases Lw:has L ((k:Int)+1) txt with
 | true=>
  refine gY ?_;exact g_ (uP.no (by unfold kt;rw[if_neg gZ,if_neg gZ,if_pos rfl,if_neg htf,if_neg (by rw[m4];simp),if_pos Lw]) gZ h0 b1)
 | false=>
 have wH:((k:Int)+1 - 1).toNat=k:=gZ;obtain⟨g',oc,es,-,-,qD,Ho,d0,d1,d2,sp,c,d3,iJ⟩:=mF h1.own hk (h1.lj k hk);obtain⟨rfl,rfl⟩:g=g' /\ cap=oc:=by simpa using es
 clear es;have xU:=h.nk.each k hk
 by_cases Pq:16 <= (L.getD k iX).fs.length
 ·refine iu ?_
  exact g_ (uP.no (by unfold kt;rw[if_neg gZ,if_neg gZ,if_pos rfl,if_neg htf,if_neg (by rw[m4];simp),if_neg (by rw[Lw];simp),if_pos (by rw[wH];exact Pq)]) gZ h0 b1)
 have hc:kt L 7 txt ((k:Int)+1)=0:=by unfold kt;rw[if_neg gZ,if_neg gZ,if_pos rfl,if_neg htf,if_neg (by rw[m4];simp),if_neg (by rw[Lw];simp),if_neg (by rw[wH];exact Pq)]
 have hL:mW L 7 txt ((k:Int)+1)=L.set k ⟨(L.getD k iX).name,(L.getD k iX).dropped,(L.getD k iX).fs++[txt]⟩:=by unfold mW;rw[if_pos hc,if_neg gZ,if_neg gZ,if_pos rfl,wH]
 have aaj:txt.size <= 40:=by unfold uo at m4;simp at m4;omega
 have qt:Cat.Good (L.set k ⟨(L.getD k iX).name,(L.getD k iX).dropped,(L.getD k iX).fs++[txt]⟩):=Cat.BR h.nk xU.1 (by show((L.getD k iX).fs++[txt]).length <= 16;rw[aa];show _+1 <= 16;omega) (fun f hf=>by
  rcases aq.1 hf with hf|hf
  ·exact xU.2.2.1 f hf
  ·obtain rfl:f=txt:=by simpa using hf
   exact aaj) (fun jh=>by rw[show(⟨(L.getD k iX).name,(L.getD k iX).dropped,(L.getD k iX).fs++[txt]⟩:Tb).dropped=(L.getD k iX).dropped from rfl,zf] at jh;cases jh)
 have adw:=h1.lj k hk;clear xU Lw htf zf;generalize L.getD k iX=t at *;refine iu ?_;refine WC.drawn 10 (iB w1) fun w3 Is=>?_;have c3:iB w1 w3:=Is.below _;have hS:=c3;clear Is;have src:∀ {wx:World},iB w1 wx -> n_ wx O 1 (.slice sp t.fs.length c) t.fs.length (t.fs.map Value.string):=fun hx=>iJ.DC.below hx (af _);refine iq [0,2,3,4,7] hS ?_;refine ik 5 [6,10] (jZ qD d3) c3 ?_;refine ik 8 [9,10] (fun wx hx=>(hx.cell (p:=⟨ge,1,none⟩) (show ge<w1.heap.size by omega)).trans e1) c3 ?_;refine WD.two 1 9 (by kernel_rfl) rfl rfl ?_ ?_
 ·skip
  refine WL.empty rfl rfl rfl rfl rfl fun ga wa fa=>?_;have ca:=c3.iR fa.below;have qN:iK xL 1 wa (fun b=>w1.heap.size <= b) (.slice (some ⟨ga,0,none⟩) 0 0) 0 []:=iK.fresh fa (fun u hu=>absurd hu aR) iz gZ (by have:=fa.eq;have:=c3.size;omega);refine km ca ?_;refine WD.two 6 9 (by kernel_rfl) rfl rfl ?_ ?_
  ·skip
   refine WL.qO rfl rfl rfl rfl zk rfl qN rfl (src ca) gZ gZ fun vb wb ob gb=>?_;have cb:=ca.trans (gb.old ca.size fun g hg=>qN.own hg);have ur:iK xL 1 wb (fun b=>w1.heap.size <= b) vb t.fs.length (t.fs.map Value.string):=by
    rw[a_,aH] at ob;exact ob.mono fun b hb=>hb.elim id fun e=>by have:=ca.size;omega
   refine km cb ?_;refine iI 9 ?_;refine jR (cs:=[.string txt]) fun gl wl fl=>?_;have cl:=cb.iR fl.below;have Av:=n_.zu fl (T:=xL) (fun u hu=>by simp at hu;subst hu;rfl);have TL:=fl.blk.lt;have Bo:=ur.ij (ib.ic fl.below) (fun g hg=>ur.lt hg)
   skip
   refine km cl ?_;refine iI 10 ?_;refine WL.qO rfl rfl rfl rfl zk rfl Bo rfl Av gZ gZ fun vd wd od gd=>?_;have cd:=cl.trans (gd.old cl.size fun g hg=>Bo.own hg);have nj:iK xL 1 wd (fun b=>w1.heap.size <= b) vd (t.fs.length+1) ((t.fs.map Value.string)++[.string txt]):=od.mono fun b hb=>hb.elim id fun e=>by have:=cl.size;omega
   refine iO ?_
   (refine js 11 rfl (q:=?_);refine js 12 rfl (q:=?_))
   refine iI 13 ?_;have bd:=b1.trans (cd.mono z1);have tO:=h1.below cd;have Z4:=(cd.cell (p:=⟨g,k*4+3,none⟩) qD).trans d3;refine iD (hv:=(iK.one nj)) Z4 (iK.free tO.own _) ?_;refine iO ?_;refine im ?_;refine gY ?_;have o1:=iK.stored tO.own (k*4+3) (u:=vd) (iK.one nj);have R:=tO.place (O':=fun b=>(O b \/ w.heap.size <= b) /\ b<wd.heap.size) (t:=⟨t.name,t.dropped,t.fs++[txt]⟩) hk (fun b _ kD=>Below.heap_setCell _ _ _ b kD) o1 (fun b hh=>⟨.inl hh,ak (h.lt b hh) bd.size⟩) (fun b hh=>by simp;exact hh.2) (fun i hi j hj=>by rw[Cat.getD_set_ne _ _ _ _ _ gZ]) ?_ qt
   ·refine g_ ⟨_,by rw[hc],by rw[hL];exact⟨_,_,R⟩,?_,fun b (hh:(O b \/ w.heap.size <= b) /\ _)=>hh.1⟩
    exact ib.setCell ((ib.ic bd).mono fun b hh=>hh.1) (fun hh=>hh.2 Ho) _
   ·have hl:=h1.own.len
    obtain⟨i0,i1,i2,-⟩:=adw;refine⟨?_,?_,?_,?_⟩
    ·rw[Cat.getD_set_ne _ _ _ _ _ gZ];exact i0
    ·rw[Cat.getD_set_ne _ _ _ _ _ gZ];exact i1
    ·rw[Cat.getD_set_ne _ _ _ _ _ gZ];exact i2
    ·rw[Cat.kX _ _ _ _ gZ]
     have e:(⟨t.name,t.dropped,t.fs++[txt]⟩:Tb).fs.length=t.fs.length+1:=iz;rw[e,show(⟨t.name,t.dropped,t.fs++[txt]⟩:Tb).fs.map Value.string=t.fs.map Value.string++[.string txt] by simp];refine(iK.iP (w:=wd) (w':=wd.setCell ⟨g,k*4+3,none⟩ vd) ⟨nj.1,nj.2.1,fun b hb=>⟨.inr (by have:=nj.own hb;omega),nj.lt hb⟩⟩ fun b hb=>Below.heap_setCell _ _ _ b ?_);have:=nj.own hb
     show b≠g
     omega
  ·skip
   refine jR (cs:=[.string txt]) fun gl wl fl=>?_;have cl:=ca.iR fl.below;have Av:=n_.zu fl (T:=xL) (fun u hu=>by simp at hu;subst hu;rfl);have TL:=fl.blk.lt;have Bo:=qN.ij (ib.ic fl.below) (fun g hg=>qN.lt hg);have VH:ga≠gl:=by have:=fl.eq;have:ga<wa.heap.size:=qN.lt rfl;omega
   refine km cl ?_;refine iI 6 ?_;refine WL.qO rfl rfl rfl rfl zk rfl Bo rfl (src cl) gZ gZ fun vb wb ob gb=>?_;have cb:=cl.trans (gb.old cl.size fun g hg=>Bo.own hg);have ur:iK xL 1 wb (fun b=>w1.heap.size <= b) vb t.fs.length (t.fs.map Value.string):=by
    rw[a_,aH] at ob;exact ob.mono fun b hb=>hb.elim id fun e=>by have:=cl.size;omega
   have Kc:=Av.ij gb.1 (fun b hb hl=>⟨hl,fun e=>VH ((au e).trans hb)⟩);refine km cb ?_;refine iI 10 ?_;refine WL.qO rfl rfl rfl rfl zk rfl ur rfl Kc gZ gZ fun vd wd od gd=>?_;have cd:=cb.trans (gd.old cb.size fun g hg=>ur.own hg);have nj:iK xL 1 wd (fun b=>w1.heap.size <= b) vd (t.fs.length+1) ((t.fs.map Value.string)++[.string txt]):=od.mono fun b hb=>hb.elim id fun e=>by have:=cb.size;omega
   refine iO ?_
   (refine js 11 rfl (q:=?_);refine js 12 rfl (q:=?_))
   refine iI 13 ?_;have bd:=b1.trans (cd.mono z1);have tO:=h1.below cd;have Z4:=(cd.cell (p:=⟨g,k*4+3,none⟩) qD).trans d3;refine iD (hv:=(iK.one nj)) Z4 (iK.free tO.own _) ?_;refine iO ?_;refine im ?_;refine gY ?_;have o1:=iK.stored tO.own (k*4+3) (u:=vd) (iK.one nj);have R:=tO.place (O':=fun b=>(O b \/ w.heap.size <= b) /\ b<wd.heap.size) (t:=⟨t.name,t.dropped,t.fs++[txt]⟩) hk (fun b _ kD=>Below.heap_setCell _ _ _ b kD) o1 (fun b hh=>⟨.inl hh,ak (h.lt b hh) bd.size⟩) (fun b hh=>by simp;exact hh.2) (fun i hi j hj=>by rw[Cat.getD_set_ne _ _ _ _ _ gZ]) ?_ qt
   ·refine g_ ⟨_,by rw[hc],by rw[hL];exact⟨_,_,R⟩,?_,fun b (hh:(O b \/ w.heap.size <= b) /\ _)=>hh.1⟩
    exact ib.setCell ((ib.ic bd).mono fun b hh=>hh.1) (fun hh=>hh.2 Ho) _
   ·have hl:=h1.own.len
    obtain⟨i0,i1,i2,-⟩:=adw;refine⟨?_,?_,?_,?_⟩
    ·rw[Cat.getD_set_ne _ _ _ _ _ gZ];exact i0
    ·rw[Cat.getD_set_ne _ _ _ _ _ gZ];exact i1
    ·rw[Cat.getD_set_ne _ _ _ _ _ gZ];exact i2
    ·rw[Cat.kX _ _ _ _ gZ]
     have e:(⟨t.name,t.dropped,t.fs++[txt]⟩:Tb).fs.length=t.fs.length+1:=iz;rw[e,show(⟨t.name,t.dropped,t.fs++[txt]⟩:Tb).fs.map Value.string=t.fs.map Value.string++[.string txt] by simp];refine(iK.iP (w:=wd) (w':=wd.setCell ⟨g,k*4+3,none⟩ vd) ⟨nj.1,nj.2.1,fun b hb=>⟨.inr (by have:=nj.own hb;omega),nj.lt hb⟩⟩ fun b hb=>Below.heap_setCell _ _ _ b ?_);have:=nj.own hb
     show b≠g
     omega
 ·skip
  refine jR (cs:=[.string txt]) fun gl wl fl=>?_;have cl:=c3.iR fl.below;have Av:=n_.zu fl (T:=xL) (fun u hu=>by simp at hu;subst hu;rfl);have TL:=fl.blk.lt;refine km cl ?_;refine iI 1 ?_;refine WL.empty rfl rfl rfl rfl rfl fun ga wa fa=>?_;have ca:=cl.iR fa.below;have qN:iK xL 1 wa (fun b=>w1.heap.size <= b) (.slice (some ⟨ga,0,none⟩) 0 0) 0 []:=iK.fresh fa (fun u hu=>absurd hu aR) iz gZ (by have:=fa.eq;have:=cl.size;omega);have acZ:=Av.ij (ib.ic fa.below) (fun b _ hb=>hb);have VH:ga≠gl:=by have:=fa.eq;omega
  have glE:=ak TL fa.below.size;refine km ca ?_;refine iI 6 ?_;refine WL.qO rfl rfl rfl rfl zk rfl qN rfl (src ca) gZ gZ fun vb wb ob gb=>?_;have cb:=ca.trans (gb.old ca.size fun g hg=>qN.own hg);have ur:iK xL 1 wb (fun b=>w1.heap.size <= b) vb t.fs.length (t.fs.map Value.string):=by
   rw[a_,aH] at ob;exact ob.mono fun b hb=>hb.elim id fun e=>by have:=ca.size;omega
  have Kc:=acZ.ij gb.1 (fun b hb hl=>⟨hl,fun e=>VH ((au e).trans hb)⟩);refine km cb ?_;refine iI 10 ?_;refine WL.qO rfl rfl rfl rfl zk rfl ur rfl Kc gZ gZ fun vd wd od gd=>?_;have cd:=cb.trans (gd.old cb.size fun g hg=>ur.own hg);have nj:iK xL 1 wd (fun b=>w1.heap.size <= b) vd (t.fs.length+1) ((t.fs.map Value.string)++[.string txt]):=od.mono fun b hb=>hb.elim id fun e=>by have:=cb.size;omega
  refine iO ?_
  (refine js 11 rfl (q:=?_);refine js 12 rfl (q:=?_))
  refine iI 13 ?_;have bd:=b1.trans (cd.mono z1);have tO:=h1.below cd;have Z4:=(cd.cell (p:=⟨g,k*4+3,none⟩) qD).trans d3;refine iD (hv:=(iK.one nj)) Z4 (iK.free tO.own _) ?_;refine iO ?_;refine im ?_;refine gY ?_;have o1:=iK.stored tO.own (k*4+3) (u:=vd) (iK.one nj);have R:=tO.place (O':=fun b=>(O b \/ w.heap.size <= b) /\ b<wd.heap.size) (t:=⟨t.name,t.dropped,t.fs++[txt]⟩) hk (fun b _ kD=>Below.heap_setCell _ _ _ b kD) o1 (fun b hh=>⟨.inl hh,ak (h.lt b hh) bd.size⟩) (fun b hh=>by simp;exact hh.2) (fun i hi j hj=>by rw[Cat.getD_set_ne _ _ _ _ _ gZ]) ?_ qt
  ·refine g_ ⟨_,by rw[hc],by rw[hL];exact⟨_,_,R⟩,?_,fun b (hh:(O b \/ w.heap.size <= b) /\ _)=>hh.1⟩
   exact ib.setCell ((ib.ic bd).mono fun b hh=>hh.1) (fun hh=>hh.2 Ho) _
  ·have hl:=h1.own.len
   obtain⟨i0,i1,i2,-⟩:=adw;refine⟨?_,?_,?_,?_⟩
   ·rw[Cat.getD_set_ne _ _ _ _ _ gZ];exact i0
   ·rw[Cat.getD_set_ne _ _ _ _ _ gZ];exact i1
   ·rw[Cat.getD_set_ne _ _ _ _ _ gZ];exact i2
   ·rw[Cat.kX _ _ _ _ gZ]
    have e:(⟨t.name,t.dropped,t.fs++[txt]⟩:Tb).fs.length=t.fs.length+1:=iz;rw[e,show(⟨t.name,t.dropped,t.fs++[txt]⟩:Tb).fs.map Value.string=t.fs.map Value.string++[.string txt] by simp];refine(iK.iP (w:=wd) (w':=wd.setCell ⟨g,k*4+3,none⟩ vd) ⟨nj.1,nj.2.1,fun b hb=>⟨.inr (by have:=nj.own hb;omega),nj.lt hb⟩⟩ fun b hb=>Below.heap_setCell _ _ _ b ?_);have:=nj.own hb
    show b≠g
    omega
theorem Lz {L:List Tb}{kind:Int}(h0:pU w rc O L) (hE:E9 cs kind txt tbl) (h5:kind≠5) (h6:kind≠6) (h7:kind≠7):
  Calls prog 109 #[iF rc,.agg cs] w (uP w rc O L kind txt tbl):=by
 obtain⟨tv,cells,h⟩:=id h0;refine iY func109 ntmps109 ?_;refine ku ?_;refine iC fun ge w1 f1=>?_;have b1:=f1.below;obtain⟨e0,e1,e2⟩:=H4 hE f1.blk;have eg:=f1.eq;have ez:=f1.size;clear f1;have h1:=h.below b1;have z1:=b1.size;refine iu ?_;have hc:kt L kind txt tbl=0:=by unfold kt;rw[if_neg h5,if_neg h6,if_neg h7]
 exact g_ ⟨O,by rw[hc],by unfold mW;rw[if_pos hc,if_neg h5,if_neg h6,if_neg h7];exact⟨_,_,h1⟩,(ib.ic b1).mono fun b hh=>hh.1,fun b hh=>.inl hh⟩
theorem TA {L:List Tb}{kind:Int}(h0:pU w rc O L) (hE:E9 cs kind txt tbl):
  Calls prog 109 #[iF rc,.agg cs] w (uP w rc O L kind txt tbl):=by
 by_cases h5:kind=5
 ·subst h5;exact Lf h0 hE
 by_cases h6:kind=6
 ·subst h6;exact O7 h0 hE
 by_cases h7:kind=7
 ·subst h7;exact LF h0 hE
 exact Lz h0 hE h5 h6 h7
open K Cat
theorem sU {a T':Nat}{cs:List Value}{yo:Array Value}(h:h_ T w a cs) (h':w.heap[b]? = some (.cells yo T' (0,0))) (kD:T'≠T): b≠a:=fun e=>by
 have hv:w.heap[a]? = some (.cells cs.toArray T (0,0)):=h;rw[e,hv] at h'
 injection h' with h'
 injection h' with _ h' _
 exact kD h'.symm
theorem RC.snoc {L:List Tb}{fv:Value}{t:Tb}(h:RC w rc O L tv cells) (hk:ib (fun b=>b<w.heap.size /\ tv.ownBlock≠some b) w w') (hO:∀b,O b -> O' b) (iS:∀b,O' b -> b<w'.heap.size) (ho:iK wC 4 w' O' sO (L.length+1) (cells++[Iq ((L.length+1:Nat):Int),.string t.name,.bool t.dropped,fv])) (hf:iK xL 1 w' O' fv t.fs.length (t.fs.map Value.string)) (hg:Cat.Good (L++[t])):
  RC (w'.setCell ⟨rc,0,none⟩ sO) rc O' (L++[t]) sO (cells++[Iq ((L.length+1:Nat):Int),.string t.name,.bool t.dropped,fv]):=by
 have hl:=h.own.len;have Cl:=h.lt _ h.rc;have hrn:tv.ownBlock≠some rc:=fun e=>by obtain⟨cur,hc⟩:=h.own.tag e;exact sU h.vb hc j9 rfl
 have Fy:=h.vb.ij hk ⟨Cl,hrn⟩;have iJ:∀ {e:Nat}{m:Nat}{v:Value}{n:Nat}{l:List Value},e≠Yd -> iK e m w' O' v n l -> iK e m (w'.setCell ⟨rc,0,none⟩ sO) O' v n l:=fun kD hh=>hh.iP fun b hb=>Below.heap_setCell w' _ _ b (by obtain⟨cur,hc⟩:=hh.tag hb;exact sU Fy hc kD);refine⟨Fy.set 0 sO,?_,fun i hi=>?_,hO _ h.rc,fun b hb=>by simp;exact iS b hb,hg⟩
 ·rw[show(L++[t]).length=L.length+1 by simp]
  exact iJ j9 ho
 ·by_cases iS:i<L.length
  ·rw[Cat.lV _ _ _ _ iS]
   refine(((h.lj i iS).iP fun b hb ⟨cur,hc⟩=>?_).left gZ).mono hO;have n1:=sU h.vb hc j9;rw[Below.heap_setCell w' _ _ b n1];refine hk.block b ⟨h.lt b hb,fun e=>?_⟩;obtain⟨avS,rO⟩:=h.own.tag e;rw[rO] at hc
   injection hc with hc
   injection hc with _ hc _
   exact absurd hc j9
  ·obtain rfl:i=L.length:=by simp at hi;omega
   have e:(L++[t]).getD L.length iX=t:=iz;rw[e];exact lT.last hl (iJ j9 hf)
theorem IH {L:List Tb}(hi:i<L.length): L.take (i+1)=L.take i++[L.getD i iX]:=by
 rw[aJ,ag,ah hi];rfl
theorem TZ {L:List Tb}(h:Cat.Good L) (i:Nat): Cat.Good (L.take i) :=
 ⟨by rw[aE];have:=h.len;omega,fun j hj=>by
  rw[aE] at hj;have e:(L.take i).getD j iX=L.getD j iX:=by rw[ag,ag,dj gZ]
  rw[e];exact h.each j gZ⟩
theorem Sg: prog.built Yd []=some [Value.slice none 0 0].toArray:=by kernel_rfl
theorem JT {L:List Tb}(h0:pU w rc O L): Calls prog 71 #[iF rc] w fun e w'=>∃rc' O',e=.returned (.pointer (some ⟨rc',0,none⟩)) /\ pU w' rc' O' L /\ iB w w' /\ ∀b,O' b -> w.heap.size <= b:=by
 obtain⟨tv,cells,h⟩:=id h0;have hlen:=h.nk.len;obtain⟨OY,DT,rfl,-,-⟩:=h.own.slice;refine iY func71 ntmps71 ?_;refine gY ?_;refine iE [Value.slice none 0 0] Sg ?_;refine iC fun ob w1 f1=>?_;have b1:=f1.below;have eo:=f1.eq;have R1:RC w1 ob (fun b=>b=ob) [] (.slice none 0 0) []:=⟨f1.blk,iK.nil _ _ _ _,fun i hi=>absurd hi (cR i),rfl,fun b hb=>by rw[hb];exact f1.blk.lt,⟨iz,fun i hi=>absurd hi (cR i)⟩⟩;clear f1;refine gY ?_;refine WC.loop (fun i:Nat=>[(0,iF rc),(3,iF ob),(4,Iq i)]) (fun i w'=>i <= L.length /\ iB w w' /\ ∃O' sO xh,RC w' ob O' (L.take i) sO xh /\ ∀b,O' b -> w.heap.size <= b) (fun i=>L.length - i) 0 iW
  ⟨aw _,b1,_,_,_,R1,fun b hb=>by rw[hb];omega⟩ ?_
 clear R1 b1 w1;rintro i w1 ⟨hi,b1,O1,tv1,ar2,h1,XP⟩;have hs:=h.below b1;have cv:=hs.vb.cell 0 iz;simp only[al] at cv;have z1:=b1.size
 by_cases hk:i<L.length
 ·obtain⟨g',cap,es,-,-,-,-,c0,c1,c2,sp,c,c3,iJ⟩:=mF hs.own hk (hs.lj i hk)
  obtain⟨rfl,rfl⟩:OY=some ⟨g',0,none⟩ /\ DT=cap:=by simpa using es
  clear es;have iS:(L.take i).length=i:=by rw[aE];omega
  have qt:=TZ h.nk (i+1);rw[IH hk] at qt;have ht:=IH hk;have rN:=(h.nk.each i hk).2.1;generalize L.getD i iX=t at c0 c1 c2 c3 iJ qt ht rN;refine iu ?_;refine iG (hq:=gZ) i (i*4) hk ?_;refine ig (NC c0 c1 c2 c3) rfl ?_;refine ix (z:=.agg qP.toArray) xa fun g5 w2 f5=>?_;refine ir f5.blk (pw rfl) ?_;obtain⟨row,ji⟩:∃row,row=[Value.int .i64 ((i+1:Nat):Int),.string t.name,.bool t.dropped,.slice sp t.fs.length c]:=⟨_,rfl⟩;rw[<- ji];have e5:=f5.eq;have v3:=f5.blk.setRow row;have k3:iB w1 (w2.setRow g5 row.toArray):=(kC (ib.ic f5.below) (fun hh=>by omega) _).below;have z3:=h_.lt v3;generalize w2.setRow g5 row.toArray=w3 at v3 k3 z3 ⊢;clear f5;have cf:w3.cell? ⟨g5,3,none⟩=some (.slice sp t.fs.length c):=by rw[v3.cell 3 (by rw[ji];simp),ji];rfl
  refine gY ?_;refine WL.empty rfl rfl rfl rfl rfl fun ga w4 fa=>?_;have cf4:=(fa.below.cell (p:=⟨g5,3,none⟩) z3).trans cf;have v4:=v3.below fa.below z3;have k4:=k3.iR fa.below;have qN:iK xL 1 w4 (fun b=>w1.heap.size <= b /\ b≠g5) (.slice (some ⟨ga,0,none⟩) 0 0) 0 []:=iK.fresh fa (fun u hu=>absurd hu aR) iz gZ (by have:=fa.eq;have:=k3.size;exact⟨gZ,gZ⟩);refine iu ?_;refine WL.qO rfl rfl rfl rfl zk rfl qN rfl (iJ.DC.below k4 (af _)) gZ gZ fun vb w5 ob5 gb=>?_;have k5:=k4.trans (gb.old k4.size fun g hg=>(qN.own hg).1);have v5:=v4.ij gb.1 ⟨v4.lt,fun e=>(qN.own e).2 rfl⟩;have Xc:iK xL 1 w5 (fun b=>w1.heap.size <= b /\ b≠g5) vb t.fs.length (t.fs.map Value.string):=by
   rw[a_,aH] at ob5;refine ob5.mono fun b hb=>hb.elim id fun e=>?_;have:=k4.size;have:=h_.lt v4;exact⟨gZ,gZ⟩
  have cf5:w5.cell? ⟨g5,3,none⟩=some (.slice sp t.fs.length c):=by rw[v5.cell 3 (by rw[ji];simp),ji];rfl
  clear fa cf4 ob5 gb v3 v4 k3 cf;refine gY ?_;refine iD (hv:=(iK.one Xc)) cf5 (h_.free v5 3) ?_;have v6:=v5.set 3 vb;have k6:iB w1 (w5.setCell ⟨g5,3,none⟩ vb):=(ib.setCell (ib.ic k5) (fun(hh:g5<w1.heap.size)=>by omega) _).below;have WY:iK xL 1 (w5.setCell ⟨g5,3,none⟩ vb) (fun b=>w1.heap.size <= b /\ b≠g5) vb t.fs.length (t.fs.map Value.string):=Xc.iP fun b hb=>Below.heap_setCell w5 _ _ b (Xc.own hb).2;rw[ji] at v6;generalize w5.setCell ⟨g5,3,none⟩ vb=w6 at v6 k6 WY ⊢;clear v5 cf5 Xc k5 qN;change h_ wC w6 g5 [Value.int .i64 ((i+1:Nat):Int),.string t.name,.bool t.dropped,vb] at v6;have h6:=h1.below k6;have z6:=k6.size;obtain⟨wR,ab8,rfl,-,-⟩:=h6.own.slice;rw[iS] at h6;have cv6:=h6.vb.cell 0 iz;simp only[al] at cv6;refine gY ?_;refine WC.drawn 7 (iB w6) fun w7 hd=>?_;have hS:iB w6 w7:=hd.below _;clear hd;have hob:=h6.lt _ h6.rc;have Fa:=h_.lt v6;refine iq [0,1,2,3] hS ?_;refine ik 4 [7] (jZ hob cv6) hS ?_;refine jG 5 [6,7] (fun wx hx=>h_.rangeAt (v6.below hx Fa)) hS ?_;refine iI 6 ?_;refine jR (cs:=[Value.int .i64 ((i+1:Nat):Int),.string t.name,.bool t.dropped,vb]) fun gl w8 f8=>?_;have k8:=hS.iR f8.below;refine km k8 ?_;have h8:=h6.below k8;have sl8:=n_.zu f8 (T:=wC) (pw (iK.one WY));have z8:=k8.size;refine iI 7 ?_;refine WL.qO rfl rfl rfl rfl yS rfl h8.own rfl sl8 gZ gZ fun v9 w9 o9 g9=>?_;refine iO ?_
  (refine js 8 rfl (q:=?_);refine js 9 rfl (q:=?_))
  refine iI 10 ?_;have kD:(Value.slice wR i ab8).ownBlock≠some ob:=fun e=>by obtain⟨cur,hc⟩:=h8.own.tag e;exact sU h8.vb hc j9 rfl
  have aiL:=h8.lt _ h8.rc;have cv9:=(g9.1.cell (p:=⟨ob,0,none⟩) ⟨aiL,kD⟩).trans ((k8.cell (p:=⟨ob,0,none⟩) hob).trans cv6);refine iD (hv:=(iK.one o9)) cv9 (h_.free (h8.vb.ij g9.1 ⟨aiL,kD⟩) 0) ?_;refine iO ?_;refine im ?_;have WG:=WY.ij (ib.ic k8) (fun g hg=>WY.lt hg);have an2:iK xL 1 w9 (fun b=>(O1 b \/ w1.heap.size <= b) /\ b<w9.heap.size) vb t.fs.length (t.fs.map Value.string):=by
   have:=WG.ij g9.1 (fun g hg=>⟨WG.lt hg,fun e=>by
    have q1:=h1.lt g (h8.own.own e);have q2:=(WG.own hg).1;omega⟩)
   exact⟨this.1,this.2.1,fun g hg=>⟨.inr (WG.own hg).1,this.lt hg⟩⟩
  have R:=h8.snoc (O':=fun b=>(O1 b \/ w1.heap.size <= b) /\ b<w9.heap.size) (t:=t) (fv:=vb) g9.1 (fun b hb=>⟨.inl hb,ak (h8.lt b hb) g9.1.size⟩) (fun b hb=>hb.2) (by
   rw[show((L.take i).length+1:Nat)=i+1 by omega];rw[iS] at o9;exact⟨o9.1,o9.2.1,fun g hg=>⟨(o9.own hg).elim .inl (fun e=>.inr gZ),o9.lt hg⟩⟩) an2 qt
  rw[<- ht] at R;have bf:iB w (w9.setCell ⟨ob,0,none⟩ v9):=by
   refine(ib.setCell (ib.ic ((b1.trans (k6.mono z1)).trans ((k8.mono gZ).trans (g9.old gZ fun g hg=>?_)))) (fun(hh:ob<w.heap.size)=>?_) _).below
   ·exact XP g (h8.own.own hg)
   ·have:=XP ob h1.rc;omega
  refine gY ?_;exact WQ.again (i+1) iW ⟨hk,bf,_,_,_,R,fun b hb=>hb.1.elim (XP b) (fun hh=>by omega)⟩ gZ
 ·obtain rfl:i=L.length:=gZ
  rw[aI] at h1;refine iu ?_;exact g_ ⟨ob,O1,rfl,⟨_,_,h1⟩,b1,XP⟩
end Cr
namespace K
theorem Pk {P:Program}(op:BinOp) (t:TypeId) (x y:Operand) (p q:Option Nat) (w:World): (eqGuard op t x y (.map p) (.map q)).run P w=.ok () w:=by
 cases op<;>simp[eqGuard]
section
variable {n:NN}{Q:Exit -> Act -> World -> Prop}{l:Env}{w w':World}{ops:Array Oper}{o:Oper}{rest:List Oper}{d:Nat}{S:World -> Prop}{m fuel:Nat}{iw:Array Bool}
theorem WL.aih {t k e:Nat}{p:Option Nat}(hu:prog.underlying t=some (.map k e)) (hg:o.guard=none) (hd:o.dst=some d) (hn:Nat.blt d n.n=true) (ho:o.op=.binOp .eql t x (.const (.map none)) t2) (hx:jw l x=some (.map p)) (h:WL n ops Q rest ((d,.bool p.isNone) :: l) w): WL n ops Q (o :: rest) l w :=
 WL.step hg hd hn (fun a ha=>by
  have hy:a.eval (.const (.map none))=.map none:=rfl;unfold execOp;rw[ho];simp[ha.eval hx,hy,Pk _ _ _ _ _ _ _,run_eql_map_nil_sl w t k e p hu]) h
theorem ME {a:Act}{t:Nat}{ok:Bool}{v:Value}(ha:Fr n a l) (ho:o.op=.lookup t x y ok) (hx:jw l x=some mv) (hy:jw l y=some xv) (hr:(Instr.lookup t mv xv ok).run prog w=.ok v w'): (execOp a.eval o).run prog w=.ok (.value v) w':=by
 unfold execOp;rw[ho];simp[ha.eval hx,ha.eval hy,hr,Result.andThen]
theorem WL.look {t:Nat}{ok:Bool}{v:Value}(hg:o.guard=none) (hd:o.dst=some d) (hn:Nat.blt d n.n=true) (ho:o.op=.lookup t x y ok) (hx:jw l x=some mv) (hy:jw l y=some xv) (hr:(Instr.lookup t mv xv ok).run prog w=.ok v w) (h:WL n ops Q rest ((d,v) :: l) w): WL n ops Q (o :: rest) l w :=
 WL.step hg hd hn (fun _ ha=>ME ha ho hx hy hr) h
theorem WD.look {t:Nat}{ok:Bool}{v:Value}(i:Nat) (us:List Nat) (hi:ops[i]? = some oi) (hs:Fs ops iw i m us=true) (hd:oi.dst=some d) (hn:Nat.blt d n.n=true) (hQ:Passes Q) (hw:wants ops l oi=some true) (ho:oi.op=.lookup t x y ok) (hx:jw l x=some mv) (hy:jw l y=some xv) (hr:∀w,S w -> (Instr.lookup t mv xv ok).run prog w=.ok v w) (hS:S w) (h:WD n ops Q S m fuel (iw.setIfInBounds i true) ((d,v) :: l) w): WD n ops Q S m (fuel+1) iw l w :=
 WD.read i us hi hs hd hn hQ hw (fun _ ha w hSw=>ME ha ho hx hy (hr w hSw)) hS h
theorem WL.kv {t:Nat}{z:Operand}{zv:Value}(hg:o.guard=none) (hd:o.dst=none) (ho:o.op=.mapUpdate t x y z) (hx:jw l x=some mv) (hy:jw l y=some xv) (hz:jw l z=some zv) (hr:(Instr.mapUpdate t mv xv zv).run prog w=.ok () w') (h:WL n ops Q rest l w'): WL n ops Q (o :: rest) l w :=
 WL.T6 hg hd (fun _ ha=>by
  unfold execOp;rw[ho];simp[ha.eval hx,ha.eval hy,ha.eval hz,hr,Result.andThen]) h
theorem WL.mkMap {t:Nat}(hg:o.guard=none) (hd:o.dst=some d) (hn:Nat.blt d n.n=true) (ho:o.op=.makeMap t none) (h:WL n ops Q rest ((d,.map (some w.heap.size)) :: l) (w.alloc (.map #[] 0))): WL n ops Q (o :: rest) l w :=
 WL.step hg hd hn (fun a ha=>by
  unfold execOp;rw[ho];simp[go_sem,Instr.makeMap,Result.andThen]) h
end
theorem MF.clone {κ:Type}{P:Program}{k:TypeId}{mk:κ -> Value}{n:Nat}{F:κ -> Option Value}(h:MF P k mk w b n F):
  ∃es clock,w.heap[b]? = some (.map es clock) /\ MF P k mk (w.alloc (.map es clock)) w.heap.size n F:=by
 obtain⟨D,⟨es,clock,h1,h2⟩,hF⟩:=h;exact⟨es,clock,h1,D,⟨es,clock,(MapKept.heap_alloc w _).1,h2⟩,hF⟩
end K
namespace Vw
open K
def jQ (r:Rw) (dc:List Value):List Value :=
 Iq r.lj :: Iq r.doc :: Iq r.iZ :: (dc++[.bool r.gone,.bool r.del,Iq r.blk,Iq r.ni,Iq r.pO])
structure zQ (r:Rw):Prop where
 lj:jX r.lj
 doc:jX r.doc
 iZ:jX r.iZ
 blk:jX r.blk
 ni:jX r.ni
 pO:jX r.pO
def lC (D:Nat -> Prop) (f:Nat) (w:World) (r:Rw) (cs:List Value):Prop:=∃dc,cs=jQ r dc /\ jE D f w r.data dc /\ zQ r /\ Sm 3000 f r.data
theorem lC.len {r:Rw}{cs:List Value}(h:lC D f w r cs): cs.length=14:=by
 obtain⟨dc,rfl,h1,-⟩:=h;simp[jQ,h1.len]
theorem lC.one {r:Rw}{cs:List Value}(h:lC D f w r cs): kj cs:=by
 obtain⟨dc,rfl,h1,-⟩:=h;intro u hu;unfold jQ at hu;simp only[ar,aq,aR,dG] at hu;rcases hu with rfl|rfl|rfl|hu|rfl|rfl|rfl|rfl|rfl
 all_goals first|rfl|exact h1.one u hu
theorem lC.ij {D':Nat -> Prop}{r:Rw}{cs:List Value}(h:lC D f w r cs) {K:Nat -> Prop}(hk:ib K w w') (hK:∀b,D b -> b<w.heap.size -> K b) (hD:∀b,D b -> D' b): lC D' f w' r cs:=by
 obtain⟨dc,h1,h2,h3⟩:=h;exact⟨dc,h1,h2.ij hk hK hD,h3⟩
structure p8 (w:World) (b o:Nat) (r:Rw) (dc:List Value):Prop where
 lj:w.cell? ⟨b,o,none⟩=some (Iq r.lj)
 doc:w.cell? ⟨b,o+1,none⟩=some (Iq r.doc)
 iZ:w.cell? ⟨b,o+2,none⟩=some (Iq r.iZ)
 data:w.rangeAt b (o+3) dc
 gone:w.cell? ⟨b,o+9,none⟩=some (.bool r.gone)
 del:w.cell? ⟨b,o+10,none⟩=some (.bool r.del)
 blk:w.cell? ⟨b,o+11,none⟩=some (Iq r.blk)
 ni:w.cell? ⟨b,o+12,none⟩=some (Iq r.ni)
 pO:w.cell? ⟨b,o+13,none⟩=some (Iq r.pO)
 all:w.rangeAt b o (jQ r dc)
theorem p8.of {r:Rw}(h:w.rangeAt b o (jQ r dc)) (hd:dc.length=6): p8 w b o r dc:=by
 have e:=fun i v hv=>h i v hv;have q:∀i,[Value.bool r.gone,.bool r.del,Iq r.blk,Iq r.ni,Iq r.pO][i]? = (jQ r dc)[i+9]?:=fun i=>by
  have:jQ r dc=([Iq r.lj,Iq r.doc,Iq r.iZ]++dc)++[Value.bool r.gone,.bool r.del,Iq r.blk,Iq r.ni,Iq r.pO]:=by simp[jQ]
  rw[this,ay (by simp[hd])];simp[hd]
 refine⟨e 0 _ rfl,e 1 _ rfl,e 2 _ rfl,fun j u hu=>?_,e 9 _ ((q 0).symm.trans rfl),e 10 _ ((q 1).symm.trans rfl),e 11 _ ((q 2).symm.trans rfl),e 12 _ ((q 3).symm.trans rfl),e 13 _ ((q 4).symm.trans rfl),h⟩;rw[show o+3+j=o+(j+3) by omega];refine e (j+3) u ?_
 show(dc++_)[j]? = some u
 rw[aP]
 ·exact hu
 ·rcases aO j dc.length with h|h
  ·exact h
  ·rw[aG h] at hu;cases hu
theorem p8.below {r:Rw}(h:p8 w b o r dc) {K:Nat -> Prop}(hk:ib K w w') (hb:K b): p8 w' b o r dc:=by
 have c:=fun i=>hk.cell (p:=⟨b,i,none⟩) hb;exact⟨by rw[c];exact h.lj,by rw[c];exact h.doc,by rw[c];exact h.iZ,fun j u hu=>by rw[c];exact h.data j u hu,by rw[c];exact h.gone,by rw[c];exact h.del,by rw[c];exact h.blk,by rw[c];exact h.ni,by rw[c];exact h.pO,fun j u hu=>by rw[c];exact h.all j u hu⟩
theorem mw {v:Value}{L:List Rw}(h:lA 14 jf (lC D f w) O w v L) (hi:i<L.length):
  ∃b o cap dc,v=.slice (some ⟨b,o,none⟩) L.length cap /\ b<w.heap.size /\ O b /\ p8 w b (o+i*14) (L.getD i jf) dc /\ jE D f w (L.getD i jf).data dc /\ zQ (L.getD i jf) /\ Sm 3000 f (L.getD i jf).data:=by
 obtain⟨sp,cap,rfl,h1,h2,h3,h4⟩:=h;obtain⟨b,o,rfl,hb,hO,hr⟩:=h4 gZ;obtain⟨cs,hl,⟨dc,rfl,hd,kK⟩,j6⟩:=hr i hi;exact⟨b,o,cap,dc,rfl,hb,hO,p8.of j6 hd.len,hd,kK⟩
def lR (x:Int × Int):Value:=.agg #[Iq x.1,Iq x.2]
theorem rE (x y:Int × Int) (h:lR x=lR y): x=y:=by
 unfold lR at h;simp at h
 exact dN h.1 h.2
theorem zW {x:Int}(h:jX x): (Lit.int .i64 x).wf=true:=by
 obtain⟨h1,h2⟩:=h;simp only[Lit.wf,IntKind.min,IntKind.max,IntKind.signed,IntKind.bits,aA,decide_eq_true_eq];exact⟨by simpa using h1,by simpa using h2⟩
theorem JO {P:Program} {k ti:TypeId} {f0 f1:Field} (hk:P.underlying k = some (.struct #[f0,f1])) (hi:P.underlying ti = some (.int .i64)) (t0:f0.type = ti) (o0:f0.offset = 0) (n0:(f0.name != "_") = true) (t1:f1.type = ti) (o1:f1.offset = 1) (n1:(f1.name != "_") = true) (ZA:P.keyType k = true) (hc:P.cellsOf k = 2) (ci:P.cellsOf ti = 1) {d:Nat} (hd:P.types.size + 1 = d + 1 + 1) (x:Int × Int) (h1:(Lit.int .i64 x.1).wf = true) (h2:(Lit.int .i64 x.2).wf = true): keyOf P k (lR x) = some (.string (keyBytes [.int .i64 x.1,.int .i64 x.2])):=by
 have e1:(lR x).formed P k=true:=by
  unfold Value.formed lR;simp only[hk,hc]
  rfl
 have e3:∀y:Int,(Lit.int .i64 y).wf=true -> P.keyLits (d+1) ti [.int .i64 y]=some [.int .i64 y]:=fun y hy=>by
  unfold Program.keyLits;rw[hi];exact if_pos ⟨rfl,hy⟩
 have e2:P.keyLits (d+1+1) k (lR x).cells.toList=some [.int .i64 x.1,.int .i64 x.2]:=by
  unfold Program.keyLits;rw[hk];simp only[lR,Value.cells,hc,t0,t1,o0,o1,n0,n1,ci,aj,aF,gy,gN,dM,cJ,bY,bR,e3 _ h1,e3 _ h2,gO,List.all_nil,fR,Array.all_toList.symm,and_self,if_true];simp
 unfold keyOf;simp only[hk,ZA,e1,fR,if_true,hd,e2,dD]
abbrev uY:Nat:=74
theorem amq: uY<prog.types.size:=of_decide_eq_true (by kernel_rfl)
theorem agP:(match prog.underlying uY with|some (.array _ _)|some (.struct _)=>true|_=>false)=true:=by rw[show prog.underlying uY=_ from underlying74]
theorem tY: Keyed prog uY:=fy (deep_law_laid Cat.laid (m:=2) gZ amq (by kernel_rfl) agP)
theorem T4: prog.keyType uY=true:=by kernel_rfl
theorem aeL: prog.cellsOf uY=2:=by kernel_rfl
theorem AE {x:Int × Int}(h1:jX x.1) (h2:jX x.2): keyOf prog uY (lR x)=some (.string (keyBytes [.int .i64 x.1,.int .i64 x.2])) :=
 JO underlying74 underlying3 rfl rfl j9 rfl rfl j9 T4 aeL Cat.qC Cat.po x (zW h1) (zW h2)
abbrev rvT:Nat:=57
abbrev QT:Nat:=168
def uR (f:Int × Int -> Bool) (x:Int × Int):Option Value:=if f x=true then some (Iq 1) else none
structure RV (w:World) (rb:Nat) (M D:Nat -> Prop) (f:Nat) (s:St) (cp:Nat) (Oc:Nat -> Prop) (rv:Value) (mb k N:Nat):Prop where
 vb:h_ rvT w rb [iF cp,rv,Iq s.n,.map (some mb)]
 cat:Cr.pU w cp Oc s.cat
 rows:jk QT 14 jf (lC D f w) M w rv s.rows
 red:MF prog uY lR w mb k (uR s.red)
 tR:M rb
 FL:M mb
 rn:∀b,Oc b -> M b
 SQ:¬Oc rb
 Sv:¬Oc mb
 Fq:∀g,rv.ownBlock=some g -> ¬Oc g
 lt:∀b,M b \/ D b -> b<w.heap.size
 sep:∀b,M b -> ¬D b
 wS:∀r∈s.rows,r.iZ <= s.rows.length
 ok:s.n <= N /\ s.rows.length <= N /\ k <= N /\ N <= 1000000
def p_ (w:World) (rb:Nat) (M D:Nat -> Prop) (f:Nat) (s:St) (N:Nat):Prop:=∃cp Oc rv mb k,RV w rb M D f s cp Oc rv mb k N
section
variable {w w':World}{rb:Nat}{M D:Nat -> Prop}{f:Nat}{s:St}{cp:Nat}{Oc:Nat -> Prop}{rv:Value}{mb k N:Nat}
theorem jk.wv {e:Nat}{v:Value}{L:List Rw}(h:jk e 14 jf (lC D f w) O w v L) {K:Nat -> Prop}(hk:ib K w w') (hK:∀g,v.ownBlock=some g -> K g) (hD:∀b,D b -> b<w.heap.size -> K b): jk e 14 jf (lC D f w') O w' v L :=
 Go.Proofs.YtlenklobbngopaaGreat.K.jk.ij h hk hK (fun _ h=>h) fun _ _ hp=>hp.ij hk hD fun _ h=>h
theorem RV.ij (h:RV w rb M D f s cp Oc rv mb k N) {K:Nat -> Prop}(hk:ib K w w') (hK:∀b,M b \/ D b -> K b): RV w' rb M D f s cp Oc rv mb k N :=
 ⟨h.vb.ij hk (hK _ (.inl h.tR)),h.cat.ij hk fun b hb=>hK b (.inl (h.rn b hb)),jk.wv h.rows hk (fun g hg=>hK g (.inl (h.rows.own hg))) (fun b hb _=>hK b (.inr hb)),h.red.ij hk (hK _ (.inl h.FL)),
  h.tR,h.FL,h.rn,h.SQ,h.Sv,h.Fq,fun b hb=>ak (h.lt b hb) hk.size,h.sep,h.wS,h.ok⟩
theorem RV.below (h:RV w rb M D f s cp Oc rv mb k N) (hb:iB w w'): RV w' rb M D f s cp Oc rv mb k N:=h.ij (ib.ic hb) h.lt
theorem p_.below (h:p_ w rb M D f s N) (hb:iB w w'): p_ w' rb M D f s N:=by obtain⟨_,_,_,_,_,h⟩:=h;exact⟨_,_,_,_,_,h.below hb⟩
theorem p_.ij (h:p_ w rb M D f s N) {K:Nat -> Prop}(hk:ib K w w') (hK:∀b,M b \/ D b -> K b): p_ w' rb M D f s N:=by obtain⟨_,_,_,_,_,h⟩:=h;exact⟨_,_,_,_,_,h.ij hk hK⟩
theorem p_.lt (h:p_ w rb M D f s N): ∀b,M b \/ D b -> b<w.heap.size:=by obtain⟨_,_,_,_,_,h⟩:=h;exact h.lt
end
theorem mh {w6 w7:World}{yo:List Value}(cs:List Value) (b6:iB w5 w6) (f:jl w6 g w7 T yo): h_ T (w7.setRow g cs.toArray) g cs /\ iB w5 (w7.setRow g cs.toArray) /\ iB w6 (w7.setRow g cs.toArray) /\ w6.heap.size <= g:=by
 have e:=f.eq;have z:=b6.size;exact⟨f.blk.setRow cs,(Cr.kC (ib.ic (b6.trans (f.below.mono z))) (fun hh=>by omega) _).below,(Cr.kC (ib.ic f.below) (fun hh=>by omega) _).below,gZ⟩
theorem RV.app {s:St}{cp:Nat}{Oc:Nat -> Prop}{rv:Value}{mb k:Nat}{L:List Cat.Tb}(h:RV w rb M D f s cp Oc rv mb k N) (hr:Cr.pU w' cp O' L) (hk:ib (fun b=>b<w.heap.size /\ ¬Oc b) w w') (ho:∀b,O' b -> Oc b \/ w.heap.size <= b):
  RV w' rb (fun b=>M b \/ (w.heap.size <= b /\ b<w'.heap.size)) D f { s with cat:=L } cp O' rv mb k N:=by
 have z:=hk.size;have l1:=h.lt;have hd:∀b,D b -> b<w.heap.size /\ ¬Oc b:=fun b hb=>⟨l1 b (.inr hb),fun hh=>h.sep b (h.rn b hh) hb⟩;refine⟨h.vb.ij hk ⟨l1 _ (.inl h.tR),h.SQ⟩,hr,?_,h.red.ij hk ⟨l1 _ (.inl h.FL),h.Sv⟩,.inl h.tR,.inl h.FL,fun b hb=>(ho b hb).elim (fun hh=>.inl (h.rn b hh)) (fun hh=>.inr ⟨hh,hr.lt b hb⟩),
  fun hh=>(ho _ hh).elim h.SQ (fun q=>by have:=l1 _ (.inl h.tR);omega),fun hh=>(ho _ hh).elim h.Sv (fun q=>by have:=l1 _ (.inl h.FL);omega),fun g hg hh=>(ho _ hh).elim (h.Fq g hg) (fun q=>by have:=l1 g (.inl (h.rows.own hg));omega),?_,?_,h.wS,h.ok⟩
 ·exact Go.Proofs.YtlenklobbngopaaGreat.K.jk.ij h.rows hk (fun g hg=>⟨l1 g (.inl (h.rows.own hg)),h.Fq g hg⟩) (fun _ hh=>.inl hh) fun _ _ hp=>hp.ij hk (fun b hb _=>hd b hb) fun _ hh=>hh
 ·rintro b ((hb|hb)|hb)
  ·have:=l1 b (.inl hb);omega
  ·exact hb.2
  ·have:=l1 b (.inr hb);omega
 ·rintro b (hb|hb) HU
  ·exact h.sep b hb HU
  ·have:=l1 b (.inr HU);omega
open K
def I8:Option Nat -> Int
 | some i=>i
 | none=>-1
theorem ox {e:Nat}{v:Value}{L:List Rw}(h:jk e 14 jf (lC D f w) O w v L): lA 14 jf (lC D f w) O w v L:=K.jk.jt h
theorem YZ {w:World}{rb:Nat}{M D:Nat -> Prop}{f:Nat}{s:St}{N:Nat}(h0:p_ w rb M D f s N) (t d:Int) :
  Calls prog 111 #[iF rb,Iq t,Iq d] w fun e w'=>w'=w /\ ∃o,e=.returned (Iq (I8 o)) /\
   (match o with|some i=>i<s.rows.length /\ (of s.rows (t,d)).getLast? = some (s.rows.getD i jf)|none=>of s.rows (t,d)=[]):=by
 obtain⟨cp,Oc,rv,mb,k,h⟩:=h0;have kU:=ox h.rows;obtain⟨sp,cap,rfl,-⟩:=id kU;have c1:=h.vb.cell 1 iz;simp only[ax,al] at c1;have kK:=h.ok;generalize s.rows=L at kU c1 kK ⊢;refine iY func111 ntmps111 ?_;refine iu ?_;refine WC.loop (fun n:Nat=>[(0,iF rb),(1,Iq t),(2,Iq d),(7,Iq ((n:Int) - 1))]) (fun n w'=>w'=w /\ n <= L.length /\ ∀j,n <= j -> j<L.length -> (L.getD j jf).key≠(t,d)) (fun n=>n) L.length iW ⟨rfl,af _,fun j h1 h2=>by omega⟩ ?_;rintro n w ⟨rfl,hn,mC⟩
 by_cases h0:n=0
 ·subst h0
  refine gY ?_;exact g_ ⟨rfl,none,rfl,aei fun j hj=>mC j (aw _) hj⟩
 ·obtain⟨m,rfl⟩:∃m,n=m+1:=⟨n - 1,gZ⟩
  have hm:m<L.length:=hn;obtain⟨b,o,oc,dc,es,-,-,hr,-,-⟩:=mw kU hm;obtain⟨rfl,rfl⟩:sp=some ⟨b,o,none⟩ /\ cap=oc:=by simpa using es
  clear es;have x0:=hr.lj;have x1:=hr.doc;have hl:=fun hk=>acq hm hk fun j h1 h2=>mC j h1 h2;have nx:(L.getD m jf).key≠(t,d) -> ∀j,m <= j -> j<L.length -> (L.getD j jf).key≠(t,d):=fun hk j h1 h2=>by
   by_cases e:j=m
   ·rw[e];exact hk
   ·exact mC j gZ h2
  generalize hR:L.getD m jf=r at x0 x1 hl nx
  by_cases e1:r.lj=t
  ·by_cases e2:r.doc=d
   ·refine iu ?_
    refine iG (hz:=gZ) m (o+m*14) hm ?_;refine iu ?_;refine iG (hz:=gZ) m (o+m*14) hm ?_;refine iu ?_;refine g_ ⟨rfl,some m,congrArg (fun z=>Ending.returned (Iq z)) (show((m+1:Nat):Int) - 1=(m:Int) by omega),hm,?_⟩;rw[hR];exact hl (by rw[<- e1,<- e2])
   ·refine iu ?_
    refine iG (hz:=gZ) m (o+m*14) hm ?_;refine iu ?_;refine iG (hz:=gZ) m (o+m*14) hm ?_;refine iu ?_;exact WQ.again m ⟨rfl,rfl,rfl,congrArg (fun z=>some (Value.int .i64 z)) (show((m+1:Nat):Int) - 1 - 1=(m:Int) - 1 by omega),trivial⟩ ⟨rfl,gZ,nx fun q=>e2 (congrArg Prod.snd q)⟩ gZ
  ·refine iu ?_
   refine iG (hz:=gZ) m (o+m*14) hm ?_;refine iu ?_;exact WQ.again m ⟨rfl,rfl,rfl,congrArg (fun z=>some (Value.int .i64 z)) (show((m+1:Nat):Int) - 1 - 1=(m:Int) - 1 by omega),trivial⟩ ⟨rfl,gZ,nx fun q=>e1 (congrArg Prod.fst q)⟩ gZ
theorem MI {s:St}(h0:p_ w rb M D f s N) (t:Int):
  Calls prog 105 #[iF rb,Iq t] w fun e w'=>e=.returned (Iq (next s t)) /\ iB w w':=by
 obtain⟨cp,Oc,rv,mb,k,h⟩:=h0;have c0:=h.vb.cell 0 iz;simp only[al] at c0;refine iY func105 ntmps105 ?_;refine iu ?_;refine il func110 (Cr.Al h.cat t) ?_;rintro _ w1 ⟨fv,rfl,ho,b1⟩;refine⟨_,rfl,?_⟩;refine gY ?_;refine ix (z:=.agg Cr.qP.toArray) Cr.xa fun g w2 f2=>?_;refine ir f2.blk (Cr.pw (Cr.iK.one ho)) ?_;have b2:iB w (w2.setRow g [Value.int .i64 (Cat.ju s.cat t).1,.string (Cat.ju s.cat t).2.1.name,.bool (Cat.ju s.cat t).2.1.dropped,fv].toArray) :=
  (Cr.kC (K:=fun b=>b<w.heap.size) (ib.ic (b1.iR f2.below)) (fun hh=>by have:=f2.eq;have:=b1.size;omega) _).below
 generalize w2.setRow g _=w3 at b2 ⊢;clear ho b1 f2 w1 w2;have h3:=h.below b2;have kU:=ox h3.rows;obtain⟨sp,cap,rfl,-⟩:=id kU;have c1:=h3.vb.cell 1 iz;simp only[ax,al] at c1;have kK:=h.ok;have wJ:next s t=if(Cat.ju s.cat t).2.2=0 then(iQ t s.rows:Int)+1 else 0:=rfl
 rw[wJ];have hc:=tX t s.rows;generalize (Cat.ju s.cat t).2.2=code;generalize s.rows=L at kU c1 kK hc ⊢
 by_cases DI:code=0
 ·rw[if_pos DI]
  refine gY ?_;refine WC.loop (fun i:Nat=>[(0,iF rb),(1,Iq t),(7,Iq ((iQ t (L.take i):Int)+1)),(8,Iq i)]) (fun i w'=>w'=w3 /\ i <= L.length) (fun i=>L.length - i) 0 iW ⟨rfl,aw _⟩ ?_;rintro i w3 ⟨rfl,hi⟩
  by_cases iS:i<L.length
  ·obtain⟨b,o,oc,dc,es,-,-,hr,-,-⟩:=mw kU iS
   obtain⟨rfl,rfl⟩:sp=some ⟨b,o,none⟩ /\ cap=oc:=by simpa using es
   clear es;have x0:=hr.lj;have x2:=hr.iZ;have Ab:=XI (t:=t) iS;have mg:=adN t L hi;generalize L.getD i jf=r at x0 x2 Ab
   by_cases e1:r.lj=t
   ·by_cases e2:r.iZ=0
    ·rw[if_pos ⟨e1,e2⟩] at Ab
     refine iu ?_;refine iG i (o+i*14) iS ?_;refine iu ?_;refine iG i (o+i*14) iS ?_;refine iu ?_;refine WQ.again (i+1) ⟨rfl,rfl,?_,rfl,trivial⟩ ⟨rfl,iS⟩ gZ;rw[Ab];rfl
    ·rw[if_neg (fun q=>e2 q.2)] at Ab
     refine iu ?_;refine iG i (o+i*14) iS ?_;refine iu ?_;refine iG i (o+i*14) iS ?_;refine iu ?_;refine WQ.again (i+1) ⟨rfl,rfl,?_,rfl,trivial⟩ ⟨rfl,iS⟩ gZ;rw[Ab];rfl
   ·rw[if_neg (fun q=>e1 q.1)] at Ab
    refine iu ?_;refine iG i (o+i*14) iS ?_;refine iu ?_;refine WQ.again (i+1) ⟨rfl,rfl,?_,rfl,trivial⟩ ⟨rfl,iS⟩ gZ;rw[Ab];rfl
  ·obtain rfl:i=L.length:=gZ
   rw[aI];refine iu ?_;exact g_ ⟨rfl,b2⟩
 ·rw[if_neg DI]
  refine gY ?_;exact g_ ⟨rfl,b2⟩
open K
theorem QL {m:List Value}{x off k:Nat}(hA:A.length=x) (hk:m.length=k) (hB:off+k <= B.length):
  (A++(B++C)).take (x+off)++m++(A++(B++C)).drop (x+off+k)=A++((B.take off++m++B.drop (off+k))++C):=by
 subst hA hk;rw[e_,dq,bC (by omega:A.length <= A.length+off),gp (by omega:A.length <= A.length+off+m.length),aH,
  show A.length+off - A.length=off by omega,show A.length+off+m.length - A.length=off+m.length by omega,bP gZ,du gZ]
 simp only[ao]
theorem QS {x off:Nat}(v:Value) (hA:A.length=x) (hB:off<B.length): (A++(B++C)).set (x+off) v=A++(B.set off v++C):=by
 subst hA;rw[cN _ _ gZ,show A.length+off - A.length=off by omega,List.set_append_left _ _ hB]
theorem qo {k:List (List Value)}(h:∀x∈k,x.length=m): k.flatten.length=k.length*m:=by
 induction k with
 | nil=>simp
 | cons a k ih=>
  rw[dK,aa,ih fun x hx=>h x (az _ hx),h a iz,aj,gj];omega
theorem Aq {k:List (List Value)}(hj:j<k.length): k.flatten=(k.take j).flatten++(k.getD j []++(k.drop (j+1)).flatten):=by
 have e:k=k.take j++(k.getD j [] :: k.drop (j+1)):=by
  rw[ag,ah hj,eY,<- bp hj,aL]
 rw[e];simp only[gK,dK];rw[<- e]
theorem MM {k:List (List Value)}(hj:j<k.length) (x:List Value): (k.set j x).flatten=(k.take j).flatten++(x++(k.drop (j+1)).flatten):=by
 rw[c_,if_pos hj];simp
theorem TE {e:Nat}{z:α}{P:α -> List Value -> Prop}{v:Value}{L:List α}(h:jk e m z P O w v L) (hj:j<L.length):
  ∃g cap,v=.slice (some ⟨g,0,none⟩) L.length cap /\ O g /\ g<w.heap.size /\ ∃A B C,h_ e w g (A++(B++C)) /\ A.length=j*m /\ B.length=m /\ P (L.getD j z) B /\
   ∀ {w':World}{P':α -> List Value -> Prop}(B':List Value) (y:α),h_ e w' g (A++(B'++C)) -> B'.length=m -> kj B' -> P' y B' -> (∀x cs,P x cs -> P' x cs) -> jk e m z P' O w' v (L.set j y):=by
 obtain⟨lO,hk,j6,iJ⟩:=h;have j8:=Ea (k:=lO) (m:=m) fun i hi=>(j6 i gZ).1;rcases iJ.form with⟨-,h0,-⟩|⟨g,cap,cur,rfl,hO,iS,hg,h1,h2,h3,h4⟩
 ·omega
 have DR:j<lO.length:=gZ;have so:=qo j8;have kI:cur.toList=lO.flatten++cur.toList.drop (L.length*m):=by rw[<- h4,aL]
 have hA:(lO.take j).flatten.length=j*m:=by
  rw[qo fun x hx=>j8 x (bN hx),aE,Nat.min_eq_left gZ]
 refine⟨g,cap,rfl,hO,iS,(lO.take j).flatten,lO.getD j [],(lO.drop (j+1)).flatten++cur.toList.drop (L.length*m),?_,hA,(j6 j hj).1,(j6 j hj).2,?_⟩
 ·have e:(lO.take j).flatten++(lO.getD j []++((lO.drop (j+1)).flatten++cur.toList.drop (L.length*m)))=cur.toList:=by
   conv=>rhs;rw[kI,Aq DR]
   simp only[ao]
  rw[e];exact hg
 ·intro w' P' B' y hb hl yY hp hP
  have V3:∀x∈lO.set j B',x.length=m:=fun x hx=>by
   rcases cM hx with hx|rfl
   ·exact j8 x hx
   ·exact hl
  refine⟨lO.set j B',by rw[aC,aC];exact hk,fun i hi=>?_,⟨?_,.inr ⟨g,cap,((lO.take j).flatten++(B'++((lO.drop (j+1)).flatten++cur.toList.drop (L.length*m)))).toArray,?_,aw _,hb,by rw[aC];exact h1,h2,?_,?_⟩⟩,?_,fun b hb=>by cases hb;exact hO⟩
  ·rw[aC] at hi
   by_cases e:i=j
   ·subst e
    rw[Cat.kX _ _ _ _ DR,Cat.kX _ _ _ _ hj];exact⟨hl,hp⟩
   ·rw[Cat.getD_set_ne _ _ _ _ _ (fun q=>e q.symm),Cat.getD_set_ne _ _ _ _ _ (fun q=>e q.symm)]
    exact⟨(j6 i hi).1,hP _ _ (j6 i hi).2⟩
  ·rw[qo V3,aC,aC,hk]
  ·rw[aC]
  ·have q1:(cur.toList).length=cap*m:=by rw[bI];exact h3
   have q2:=congrArg List.length kI;have q3:=congrArg List.length (Aq DR);simp only[aa] at q2 q3;have hBl:=(j6 j hj).1;simp only[b_,aa];omega
  ·have e:(lO.take j).flatten++(B'++((lO.drop (j+1)).flatten++cur.toList.drop (L.length*m)))=(lO.set j B').flatten++cur.toList.drop (L.length*m):=by
    rw[MM DR];simp only[ao]
   show((lO.take j).flatten++(B'++((lO.drop (j+1)).flatten++cur.toList.drop (L.length*m)))).take ((L.set j y).length*m)=_
   rw[e,bP (by rw[qo V3,aC,aC,hk];exact af _),bC (by rw[qo V3,aC,aC,hk];exact af _)]
  ·intro u hu
   rw[MM DR] at hu;have ho:=iJ.2.1;rw[Aq DR] at ho;rcases aq.1 hu with hu|hu
   ·exact ho u (aV _ hu)
   ·rcases aq.1 hu with hu|hu
    ·exact yY u hu
    ·exact ho u (aX _ (aX _ hu))
section
variable {w w':World}{rb:Nat}{M M' D D':Nat -> Prop}{f:Nat}{s:St}{cp:Nat}{Oc:Nat -> Prop}{rv VV:Value}{mb k N:Nat}
theorem RV.ne (h:RV w rb M D f s cp Oc rv mb k N): rv.ownBlock≠some rb /\ rv.ownBlock≠some mb:=by
 obtain⟨_,_,_,iJ⟩:=h.rows;refine⟨fun e=>?_,fun e=>?_⟩
 ·obtain⟨cur,hc⟩:=iJ.tag e;exact Cr.sU h.vb hc j9 rfl
 ·obtain⟨cur,hc⟩:=iJ.tag e;exact Cat.MF.kN h.red hc rfl
theorem RV.push (h:RV w rb M D f s cp Oc rv mb k N) (hN:N+1 <= 1000000) {r:Rw}(hk:ib (fun b=>b<w.heap.size /\ rv.ownBlock≠some b) w w') (iJ:jk QT 14 jf (lC D' f w') M' w' VV (s.rows++[r])) (hM:∀b,M b -> M' b) (_hD:∀b,D b -> D' b) (lt':∀b,M' b \/ D' b -> b<w'.heap.size) (ahC:∀b,M' b -> ¬D' b) (ho:∀g,VV.ownBlock=some g -> ¬Oc g) (Zu:r.iZ <= s.rows.length+1):
  RV (w'.setCell ⟨rb,1,none⟩ VV) rb M' D' f { s with rows:=s.rows++[r]} cp Oc VV mb k (N+1):=by
 obtain⟨n1,n2⟩:=h.ne;have l:=h.lt;have Fy:h_ rvT w' rb _:=h.vb.ij hk ⟨l _ (.inl h.tR),n1⟩;have v2:=Fy.set 1 VV;have j5:(w'.setCell ⟨rb,1,none⟩ VV).heap.size=w'.heap.size:=iz;have k2:ib (fun b=>b≠rb) w' (w'.setCell ⟨rb,1,none⟩ VV):=(ib.refl _ _).setCell iz _;have hd:∀b,D' b -> b≠rb:=fun b hb e=>ahC b (e ▸ hM _ h.tR) hb;refine⟨v2,(h.cat.ij hk fun b hb=>⟨l b (.inl (h.rn b hb)),fun e=>h.Fq b e hb⟩).ij k2 fun b hb e=>h.SQ (e ▸ hb),jk.wv iJ k2 (fun g hg=>?_) (fun b hb _=>hd b hb),(h.red.ij hk ⟨l _ (.inl h.FL),n2⟩).ij k2 fun e=>?_,
  hM _ h.tR,hM _ h.FL,fun b hb=>hM _ (h.rn b hb),h.SQ,h.Sv,ho,fun b hb=>by rw[j5];exact lt' b hb,ahC,fun x hx=>by
   rw[show(s.rows++[r]).length=s.rows.length+1 by simp];rcases aq.1 hx with hx|hx
   ·have:=h.wS x hx;omega
   ·obtain rfl:x=r:=by simpa using hx
    omega,by have:=h.ok;simp;omega⟩
 ·obtain⟨_,_,_,hw⟩:=iJ
  obtain⟨cur,hc⟩:=hw.tag hg;exact Cr.sU Fy hc j9
 ·exact Cat.MF.kN h.red (show w.heap[rb]? = _ from h.vb) e
theorem RV.ak8 (h:RV w rb M D f s cp Oc rv mb k N) (hN:N+1 <= 1000000) {a:Int × Int}(hk:ib (fun b=>b≠mb /\ rv.ownBlock≠some b) w w') (CI:MF prog uY lR w' mb (k+1) (uR (vH s.red a))) (iJ:jk QT 14 jf (lC D f w') M w' rv (s.rows.set i (shut (s.rows.getD i jf)))):
  RV w' rb M D f { s with rows:=s.rows.set i (shut (s.rows.getD i jf)),red:=vH s.red a } cp Oc rv mb (k+1) (N+1):=by
 obtain⟨n1,n2⟩:=h.ne;have n3:rb≠mb:=fun e=>Cat.MF.kN h.red (show w.heap[rb]? = _ from h.vb) e.symm;refine⟨h.vb.ij hk ⟨n3,n1⟩,h.cat.ij hk fun b hb=>⟨fun e=>h.Sv (e ▸ hb),fun e=>h.Fq b e hb⟩,iJ,CI,h.tR,h.FL,h.rn,h.SQ,h.Sv,h.Fq,fun b hb=>ak (h.lt b hb) hk.size,h.sep,fun x hx=>by
  rw[aC];rcases cM hx with hx|rfl
  ·exact h.wS x hx
  ·show(s.rows.getD i jf).iZ <= _
   by_cases hi:i<s.rows.length
   ·exact h.wS _ (by rw[jW hi];exact aN hi)
   ·rw[Cat.vE _ _ _ gZ];exact fB _,by have:=h.ok;simp;omega⟩
end
theorem RS (f:Int × Int -> Bool) (a:Int × Int): nH (uR f) a (Iq 1)=uR (vH f a):=by
 funext x
 unfold nH uR vH
 by_cases e:x=a
 ·rw[if_pos e,if_pos e,if_pos rfl]
 ·rw[if_neg e,if_neg e]
theorem Ff {L:List Rw}{p:Rw -> Bool}(hi:i<L.length) (mC:∀j,j<i -> p (L.getD j jf)=false) (hp:p (L.getD i jf)=true): L.findIdx? p=some i:=by
 rw[da];refine⟨hi,by rw[<- jW (d:=jf) hi];exact hp,fun j hj=>?_⟩;have:=mC j hj;rw[jW gZ] at this
 simpa using this
theorem Iv {L:List Rw}{p:Rw -> Bool}(mC:∀j,j<L.length -> p (L.getD j jf)=false): L.findIdx? p=none:=by
 rw[fI];intro r hr;obtain⟨j,hj,rfl⟩:=dT.1 hr;have:=mC j hj
 rwa [jW hj] at this
theorem Mu {r:Rw}{v1 v2 v3:Int}{t:ByteArray}{sn sk:Value}: ((jQ r [Iq v1,Iq v2,Iq v3,.string t,sn,sk]).set 9 (.bool true)).take 3++iy++((jQ r [Iq v1,Iq v2,Iq v3,.string t,sn,sk]).set 9 (.bool true)).drop (3+6)=jQ (shut r) iy:=rfl
end Vw
namespace K
section
variable {n:NN}{Q:Exit -> Act -> World -> Prop}{l:Env}{w w':World}{ops:Array Oper}{o:Oper}{rest:List Oper}{d:Nat}
end
section
variable {B rb:Nat}{w:World}{l:List Int}{e:Int}
end
section
variable {T b:Nat}{w w':World}{e:En}{dc:List Value}
theorem jT.R4 (h:jT T b w e dc) (s:ByteArray): jT T b (w.setCell ⟨b,1,none⟩ (.string s)) { e with text:=s } dc:=⟨h.blk.set 1 (.string s),h.dl,h.hl⟩
theorem jT.setTable (h:jT T b w e dc) (x:Int): jT T b (w.setCell ⟨b,2,none⟩ (Iq x)) { e with table:=x } dc:=⟨h.blk.set 2 (Iq x),h.dl,h.hl⟩
theorem jT.We (h:jT T b w e dc) (x:Int): jT T b (w.setCell ⟨b,3,none⟩ (Iq x)) { e with doc:=x } dc:=⟨h.blk.set 3 (Iq x),h.dl,h.hl⟩
theorem jT.W9 (h:jT T b w e dc) (x:Int): jT T b (w.setCell ⟨b,4,none⟩ (Iq x)) { e with iZ:=x } dc:=⟨h.blk.set 4 (Iq x),h.dl,h.hl⟩
theorem jT.ae0 (h:jT T b w e dc) (g:Bool): jT T b (w.setCell ⟨b,43,none⟩ (.bool g)) { e with gone:=g } dc:=by
 refine⟨?_,h.dl,h.hl⟩;have:=h.blk.set 43 (.bool g);have e1:(iU e dc).set 43 (.bool g)=iU { e with gone:=g } dc:=by
  have h1:iU e dc=(.int .i64 e.kind :: .string e.text :: .int .i64 e.table :: .int .i64 e.doc :: .int .i64 e.iZ :: (dc++jq e.hash))++[.bool e.gone,.int .i64 e.ab,.int .i64 e.ae]:=by simp[iU]
  have h2:(Value.int IntKind.i64 e.kind :: .string e.text :: .int .i64 e.table :: .int .i64 e.doc :: .int .i64 e.iZ :: (dc++jq e.hash)).length=43:=by simp[h.dl,h.hl]
  rw[h1,cN _ _ (by omega),h2];simp[iU]
 rwa [e1] at this
theorem jT.Py (h:jT T b w e dc) {m:List Value}{off:Nat}(v:V) (hm:m.length=6) (ho:off=5): jT T b (w.setRow b ((iU e dc).take off++m++(iU e dc).drop (off+6)).toArray) { e with data:=v } m:=by
 subst ho;refine⟨?_,hm,h.hl⟩;have:=h.blk.setRow ((iU e dc).take 5++m++(iU e dc).drop (5+6));have e1:(iU e dc).take 5++m++(iU e dc).drop (5+6)=iU { e with data:=v } m:=by
  have:(iU e dc).drop 11=jq e.hash++[.bool e.gone,Iq e.ab,Iq e.ae]:=by
   unfold iU;simp only[cJ];rw[dq,bX (by rw[h.dl];omega),h.dl];simp
  rw[this];simp[iU]
 rw[e1] at this ⊢;exact this
theorem jT.aaK (h:jT T b w e dc) {hh:List Int}{off:Nat}(hl:hh.length=32) (ho:off=11): jT T b (w.setRow b ((iU e dc).take off++jq hh++(iU e dc).drop (off+32)).toArray) { e with hash:=hh } dc:=by
 subst ho;refine⟨?_,h.dl,hl⟩;have:=h.blk.setRow ((iU e dc).take 11++jq hh++(iU e dc).drop (11+32));have e1:(iU e dc).take 11++jq hh++(iU e dc).drop (11+32)=iU { e with hash:=hh } dc:=by
  have h1:iU e dc=(.int .i64 e.kind :: .string e.text :: .int .i64 e.table :: .int .i64 e.doc :: .int .i64 e.iZ :: dc)++(jq e.hash++[.bool e.gone,.int .i64 e.ab,.int .i64 e.ae]):=by simp[iU]
  have h2:(Value.int IntKind.i64 e.kind :: .string e.text :: .int .i64 e.table :: .int .i64 e.doc :: .int .i64 e.iZ :: dc).length=11:=by simp[h.dl]
  have h3:(jq e.hash).length=32:=by simp[h.hl]
  rw[h1,bP (by omega),<- h2,aI,dq,bX (by omega)];rw[dp,<- h3,List.drop_left']
  ·simp[iU]
  ·rfl
 rw[e1] at this ⊢;exact this
theorem jT.setAt (h:jT T b w e dc) {off:Nat}(x y:Int) (ho:off=44): jT T b (w.setRow b ((iU e dc).take off++[Value.int .i64 x,Iq y]++(iU e dc).drop (off+2)).toArray) { e with ab:=x,ae:=y } dc:=by
 subst ho;refine⟨?_,h.dl,h.hl⟩;have:=h.blk.setRow ((iU e dc).take 44++[Value.int .i64 x,Iq y]++(iU e dc).drop (44+2));have e1:(iU e dc).take 44++[Value.int .i64 x,Iq y]++(iU e dc).drop (44+2)=iU { e with ab:=x,ae:=y } dc:=by
  have h1:iU e dc=(.int .i64 e.kind :: .string e.text :: .int .i64 e.table :: .int .i64 e.doc :: .int .i64 e.iZ :: (dc++(jq e.hash++[.bool e.gone])))++[.int .i64 e.ab,.int .i64 e.ae]:=by simp[iU]
  have h2:(Value.int IntKind.i64 e.kind :: .string e.text :: .int .i64 e.table :: .int .i64 e.doc :: .int .i64 e.iZ :: (dc++(jq e.hash++[.bool e.gone]))).length=44:=by simp[h.dl,h.hl]
  rw[h1,bP (by omega),<- h2,aI,bX (by simp;omega)];simp[iU]
 rw[e1] at this ⊢;exact this
end
theorem mu (n lo hi:Int) (w:World): Calls prog 79 #[Iq n,Iq lo,Iq hi] w fun e w'=>e=.returned (.bool (decide (lo <= n /\ n <= hi))) /\ w'=w:=by
 refine iY fb ntmps79 ?_
 by_cases h1:lo <= n
 ·by_cases h2:n <= hi
  ·refine gY ?_
   exact g_ ⟨by rw[decide_eq_true ⟨h1,h2⟩],rfl⟩
  ·refine gY ?_
   exact g_ ⟨by rw[decide_eq_false fun h=>h2 h.2],rfl⟩
 ·refine gY ?_
  exact g_ ⟨by rw[decide_eq_false fun h=>h1 h.1],rfl⟩
theorem afE {v:V}(h1:v.k=0) (h2:v.n=0) (h3:v.s=0) (h4:v.t.size=0) (h5:v.names.length=0) (h6:v.kids.length=0): v=zV :=
 V.ext' h1 h2 h3 (p6 h4) (bj h5) (bj h6)
theorem I_ (s:ByteArray): (s.toList == (ByteArray.mk #[]).toList)=decide (s.size=0):=by
 have h0:(ByteArray.mk #[]).toList=[]:=by decide +kernel
 have hl:s.toList.length=s.size:=by rw[aD];rfl
 rw[h0];cases h:s.toList with
 | nil=>rw[h] at hl;simp at hl;simp[<- hl]
 | cons a r=>rw[h] at hl;simp at hl;simp[<- hl]
theorem Dy {v:V}{cs:List Value}(h:kH f w v cs):
  Calls prog 145 #[.agg cs.toArray] w fun e w'=>(∃b,e=.returned (.bool b) /\ (b=true ↔ v=zV)) /\ iB w w':=by
 cases f with
 | zero=>exact h.elim
 | succ f=>
 obtain⟨sn,sk,rfl,-,-,-,-,⟨np,nc,rfl,-⟩,⟨kp,kc,rfl,-⟩⟩:=h;refine iY (args:=[.agg (lW v (.slice np v.names.length nc) (.slice kp v.kids.length kc)).toArray]) func145 ntmps145 ?_;refine gY ?_;refine iC fun g w1 hf=>?_;have jx:jl w g w1 25 (lW v (.slice np v.names.length nc) (.slice kp v.kids.length kc)):=hf;clear hf;have B:=jx.blk;have no:¬v=zV -> (∃b,Ending.returned (Value.bool false)=.returned (.bool b) /\ (b=true ↔ v=zV)) /\ iB w w1:=fun h=>⟨⟨false,rfl,by simp[h]⟩,jx.below⟩;refine gY ?_;refine ia (B.cell 0 iz) ?_
 by_cases e1:v.k=0
 rotate_left
 ·refine gY ?_
  exact g_ (no fun e=>e1 (by rw[e];rfl))
 refine gY ?_;refine ia (B.cell 1 iz) ?_
 by_cases e2:v.n=0
 rotate_left
 ·refine gY ?_
  exact g_ (no fun e=>e2 (by rw[e];rfl))
 refine gY ?_;refine ia (B.cell 2 iz) ?_
 by_cases e3:v.s=0
 rotate_left
 ·refine gY ?_
  exact g_ (no fun e=>e3 (by rw[e];rfl))
 refine gY ?_;refine ia (B.cell 3 iz) ?_;refine WL.on rfl rfl ?_;refine WL.xg (.bool (decide (v.t.size=0))) rfl rfl rfl rfl (congrArg Value.bool (I_ v.t)) ?_
 by_cases e4:v.t.size=0
 rotate_left
 ·refine gY ?_
  exact g_ (no fun e=>e4 (by rw[e];rfl))
 refine gY ?_;refine ia (B.cell 4 iz) ?_
 by_cases e5:v.names.length=0
 rotate_left
 ·refine gY ?_
  exact g_ (no fun e=>e5 (by rw[e];rfl))
 refine gY ?_;refine ia (B.cell 5 iz) ?_
 by_cases e6:v.kids.length=0
 rotate_left
 ·refine gY ?_
  exact g_ (no fun e=>e6 (by rw[e];rfl))
 refine gY ?_;exact g_ ⟨⟨true,rfl,⟨fun _=>afE e1 e2 e3 e4 e5 e6,fun _=>rfl⟩⟩,jx.below⟩
theorem or_zero {b:Int}(ha:jX a) (hb:jX b): bits .or .i64 a b=0 ↔ a=0 /\ b=0:=by
 have key:bits .or .i64 a b=IntKind.i64.wrap ((BitVec.ofInt 64 a ||| BitVec.ofInt 64 b).toNat:Int):=rfl;have wz:∀n:Nat,n<18446744073709551616 -> (IntKind.i64.wrap (n:Int)=0 ↔ n=0):=fun n hn=>by rw[cV];omega
 have z:∀x:Int,jX x -> (BitVec.ofInt 64 x=0#64 ↔ x=0):=fun x hx=>by
  constructor
  ·intro h
   have:=congrArg BitVec.toNat h;rw[BitVec.toNat_ofInt] at this;simp at this
   omega
  ·rintro rfl;rfl
 rw[key,wz _ (BitVec.isLt _),<- z a ha,<- z b hb,<- BitVec.or_eq_zero_iff]
 constructor
 ·intro h;exact BitVec.eq_of_toNat_eq (by rw[h];rfl)
 ·intro h;rw[h];rfl
theorem af4 (a b:Int): jX (bits .or .i64 a b):=by
 have key:bits .or .i64 a b=IntKind.i64.wrap ((BitVec.ofInt 64 a ||| BitVec.ofInt 64 b).toNat:Int):=rfl;rw[key,cV];omega
variable {n:NN}{Q:Exit -> Act -> World -> Prop}{l:Env}{w w':World}{ops:Array Oper}{o:Oper}{rest:List Oper}{d:Nat}
section
variable {T b:Nat}{w w':World}{e:En}{dc:List Value}
end
theorem ZL (a b c d:Int) (W:World): (binOp .eql 74 (.agg #[Iq a,Iq b]) (.agg #[Iq c,Iq d])).run prog W=.ok (.bool (decide (a=c /\ b=d))) W:=by
 have hq:(prog.info? 3).map (·.size)=some 1:=by kernel_rfl
 obtain ⟨ie, A0, j5⟩ := cH.1 hq; rw [gA, show (10000 : Nat) = (9998 + 1) + 1 from rfl, run_equalIn_agg W (9998 + 1) _ _ _ (by kernel_rfl) (by kernel_rfl)]; generalize hN : 9998 + 1 = N; have hf : ∃ f1 f2, (prog.fieldsOf 74).toList = [f1, f2] /\ (f1.name == "_") = false /\ f1.type = 3 /\ f1.offset = 0 /\ (f2.name == "_") = false /\ f2.type = 3 /\ f2.offset = 1 :=
  ⟨(prog.fieldsOf 74).toList[0]!,(prog.fieldsOf 74).toList[1]!,by kernel_rfl,by kernel_rfl,by kernel_rfl,by kernel_rfl,by kernel_rfl,by kernel_rfl,by kernel_rfl⟩
 obtain ⟨f1, f2, hl, n1, t1, o1, n2, t2, o2⟩ := hf; have hu := underlying3; rw [hl]; have xP : f1.name ≠ "_" := by simpa using n1
 have xD : f2.name ≠ "_" := by simpa using n2
 have hp:∀(xs:Array Value) (off:Nat) (v:Value),xs[off]? = some v -> (part 3 xs off).run prog W=.ok v W:=fun xs off v h=>by
  unfold part isAgg;simp[run_underlying hu,h]
 have e1:(Op.equalIn N 3 (Iq a) (Iq c)).run prog W=.ok (a == c) W:=by rw[<- hN];exact run_equalIn_int (P:=prog) W 9998 3 .i64 .i64 a c hu
 have e2:(Op.equalIn N 3 (Iq b) (Iq d)).run prog W=.ok (b == d) W:=by rw[<- hN];exact run_equalIn_int (P:=prog) W 9998 3 .i64 .i64 b d hu
 have p1:=hp #[Value.int .i64 a,Iq b] 0 _ rfl;have p2:=hp #[Value.int .i64 c,Iq d] 0 _ rfl;have p3:=hp #[Value.int .i64 a,Iq b] 1 _ rfl;have p4:=hp #[Value.int .i64 c,Iq d] 1 _ rfl;simp only[Op.eqFields,if_pos xP,if_pos xD,t1,t2,o1,o2,bA,Sem.run_ite,p1,p2,bm]
 erw[e1]
 by_cases h1:a=c
 ·subst h1
  simp only[bm,beq_self_eq_true,gQ,fD,fm]
  erw[p3]
  simp only[bm]
  erw[p4]
  simp only[bm]
  erw[e2]
  by_cases h2:b=d
  ·simp[h2]
  ·simp[h2]
 ·simp[h1]
theorem QE (x y:Operand) (a b:Array Value) (W:World): (eqGuard .eql 74 x y (.agg a) (.agg b)).run prog W=.ok () W:=by
 have h:prog.eqGuardType prog.depth 74=false:=by kernel_rfl
 simp[eqGuard,h]
section
variable {n:NN}{Q:Exit -> Act -> World -> Prop}{l:Env}{w w':World}{ops:Array Oper}{o:Oper}{rest:List Oper}{d:Nat}
theorem WL.aiz {b a2 b2:Int}(hg:o.guard=none) (hd:o.dst=some d) (hn:Nat.blt d n.n=true) (ho:o.op=.binOp .eql 74 x y t2) (hx:jw l x=some (.agg #[Iq a,Iq b])) (hy:jw l y=some (.agg #[Iq a2,Iq b2])) (h:WL n ops Q rest ((d,.bool (decide (a=a2 /\ b=b2))) :: l) w): WL n ops Q (o :: rest) l w :=
 WL.step hg hd hn (fun c hc=>by
  unfold execOp;rw[ho];simp only[hc.eval hx,hc.eval hy,bA,QE,bm,ZL a b a2 b2 w]
  rfl) h
end
theorem qE {e:En}(hv:kH f w e.data dc) (hh:e.hash.length=32) (hr:jX e.table /\ jX e.doc /\ jX e.iZ):
  Calls prog 144 #[.agg (iU e dc).toArray] w fun r w'=>(∃b,r=.returned (.bool b) /\ (b=true ↔ mR e)) /\ iB w w':=by
 have j7:=hv.len;refine iY (args:=[.agg (iU e dc).toArray]) func144 ntmps144 ?_;refine gY ?_;refine iC fun g w1 hf=>?_;have jx:jl w g w1 76 (iU e dc):=hf;clear hf;have B:jT _ g w1 e dc:=⟨jx.blk,j7,hh⟩;have lJ:=jx.below;clear jx;have no:∀ {wx:World},iB w wx -> ¬mR e -> (∃b,Ending.returned (Value.bool false)=.returned (.bool b) /\ (b=true ↔ mR e)) /\ iB w wx:=fun h1 h=>⟨⟨false,rfl,by simp[h]⟩,h1⟩;refine gY ?_;refine ia B.text ?_;refine WL.xg (.bool (decide (e.text.size=0))) rfl rfl rfl rfl (congrArg Value.bool (I_ e.text)) ?_
 by_cases e1:e.text.size=0
 rotate_left
 ·refine gY ?_
  exact g_ (no lJ fun h=>e1 h.1)
 refine gY ?_;refine ia B.table ?_;refine gY ?_;refine ia B.doc ?_;refine gY ?_;refine ia B.iZ ?_;have hor:bits .or .i64 (bits .or .i64 e.table e.doc) e.iZ=0 ↔ (e.table=0 /\ e.doc=0) /\ e.iZ=0:=by rw[or_zero (af4 _ _) hr.2.2,or_zero hr.1 hr.2.1]
 by_cases e2:bits .or .i64 (bits .or .i64 e.table e.doc) e.iZ=0
 rotate_left
 ·refine gY ?_
  exact g_ (no lJ fun h=>e2 (hor.2 ⟨⟨h.2.1,h.2.2.1⟩,h.2.2.2.1⟩))
 obtain⟨⟨e3,e4⟩,e5⟩:=hor.1 e2;refine gY ?_;refine ig B.data j7 ?_;refine WL.on rfl rfl ?_;refine il func145 (Dy (hv.below lJ)) ?_;rintro _ w2 ⟨⟨b,rfl,hb⟩,lk⟩;refine⟨_,rfl,?_⟩;have lQ:=lJ.iR lk;have B2:=B.below lk;cases b with
 | false=>
  refine gY ?_;exact g_ (no lQ fun h=>by have:=hb.2 h.2.2.2.2.1;cases this)
 | true=>
  have e6:=hb.1 rfl;refine gY ?_;refine WL.uj rfl rfl rfl rfl rfl rfl B2.hash (by rw[av];exact hh) ?_;refine WL.on rfl rfl ?_;refine iE (jq Dig.lB) (by kernel_rfl) ?_;refine WL.on rfl rfl ?_;refine WL.ahB rfl rfl rfl rfl rfl rfl hh rfl ?_
  by_cases e7:e.hash=Dig.lB
  rotate_left
  ·refine WL.as 26 (.bool false) rfl (congrArg Value.bool (decide_eq_false e7)) ?_
   refine gY ?_;exact g_ (no lQ fun h=>e7 h.2.2.2.2.2.1)
  refine WL.as 26 (.bool true) rfl (congrArg Value.bool (decide_eq_true e7)) ?_;refine gY ?_;refine ia B2.gone ?_;cases e8:e.gone with
  | true=>
   refine gY ?_;exact g_ (no lQ fun h=>by have:=h.2.2.2.2.2.2.1;rw[e8] at this;cases this)
  | false=>
   refine gY ?_;refine ig B2.yV rfl ?_;refine WL.on rfl rfl ?_;refine iE [Iq 0,Iq 0] (by kernel_rfl) ?_;refine WL.on rfl rfl ?_;refine WL.aiz rfl rfl rfl rfl rfl rfl ?_
   by_cases e9:e.ab=0 /\ e.ae=0
   ·refine WL.as 37 (.bool true) rfl (congrArg Value.bool (decide_eq_true e9)) ?_
    refine gY ?_;exact g_ ⟨⟨true,rfl,⟨fun _=>⟨e1,e3,e4,e5,e6,e7,e8,e9.1,e9.2⟩,fun _=>rfl⟩⟩,lQ⟩
   ·refine WL.as 37 (.bool false) rfl (congrArg Value.bool (decide_eq_false e9)) ?_
    refine gY ?_;exact g_ (no lQ fun h=>e9 ⟨h.2.2.2.2.2.2.2.1,h.2.2.2.2.2.2.2.2⟩)
end K
end Go.Proofs.YtlenklobbngopaaGreat
