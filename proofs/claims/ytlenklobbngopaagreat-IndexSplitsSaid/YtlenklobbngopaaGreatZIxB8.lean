/- Texts for IxB, part 8 of 11. -/
import Derived.Test.YtlenklobbngopaaGreatZIxB7
set_option maxHeartbeats 64000000
set_option maxRecDepth 100000
set_option linter.all false
namespace Go.Proofs.YtlenklobbngopaaGreat
open _root_.Go.Proofs.Tryz
open Go.RowKit
variable {j g i q b c tb size D d p A m N:Nat}{w w' w0 w2:World}{T:TypeId}{pb pc root nx:Option Nat}
namespace K
open Tre
def iL (g:Nat -> Value):List Value:=(List.range 28).map g
theorem nA (g:Nat -> Value): (iL g).length=28:=by simp[iL]
theorem VZ (g:Nat -> Value) (h:j<28): (iL g).getD j undef=g j:=by simp[iL,h]
theorem rowOf_get? (g:Nat -> Value) (h:j<28): (iL g)[j]? = some (g j):=by simp[iL,h]
theorem tE {g h:Nat -> Value}(e:∀j,j<28 -> g j=h j): iL g=iL h:=List.map_congr_left fun j hj=>e j (by simpa using hj)
theorem MH {l:List Value}{g:Nat -> Value}(hl:l.length=28) (h:∀j,j<28 -> l.getD j undef=g j): l=iL g:=by
 refine d_ (by rw[hl,nA]) fun j h1 h2=>?_;have:=h j gZ;rw[ag,ah h1] at this;simp only[eY] at this;rw[this];simp[iL]
theorem V1 (g:Nat -> Value) (j:Nat) (v:Value): (iL g).set j v=iL (fun i=>if i=j then v else g i):=by
 refine MH (by rw[aC,nA]) fun i hi=>?_;rw[ag,fP]
 by_cases e:j=i
 ·subst e;simp[nA,hi]
 ·rw[if_neg e,if_neg (fun h=>e h.symm),rowOf_get? g hi];rfl
theorem GG (g u:Nat -> Value) (off m:Nat) (h:off+m <= 28): (iL g).take off++(List.range m).map u++(iL g).drop (off+((List.range m).map u).length)=iL (fun j=>if off <= j /\ j<off+m then u (j - off) else g j):=by
 have hl:((List.range m).map u).length=m:=iz;rw[hl];refine MH (by simp only[aa,aE,aQ,nA,hl];omega) fun i hi=>?_;rw[ag];have ht:((iL g).take off).length=off:=by rw[aE,nA];omega
 by_cases h1:i<off
 ·rw[aP (by rw[aa,ht];omega),aP (by rw[ht];exact h1),dj h1,rowOf_get? g hi,if_neg gZ]
  rfl
 ·by_cases h2:i<off+m
  ·rw[aP (by rw[aa,ht,hl];omega),ay (by rw[ht];omega),ht,if_pos gZ]
   have:i - off<m:=gZ;simp[this]
  ·rw[ay (by rw[aa,ht,hl];omega),aa,ht,hl,eD,show off+m+(i - (off+m))=i by omega,rowOf_get? g hi,if_neg gZ]
   rfl
def lh:Option Nat -> Value
 | none=>.pointer none
 | some b=>iF b
def jD:Tre.En:=⟨ByteArray.empty,0,none⟩
def lS (nd:Nd) (pv:Option Nat) (j:Nat):Value :=
 if j=0 then .bool nd.leaf else if j=1 then Iq nd.es.length else if j<10 then .string (nd.es.getD (j - 2) jD).key else if j<18 then Iq (nd.es.getD (j - 10) jD).num else if j<26 then lh (nd.es.getD (j - 18) jD).m7 else if j=26 then lh nd.next else lh pv
theorem sV (nd:Nd) (pv:Option Nat): lS nd pv 1=Iq nd.es.length:=rfl
theorem t_ (nd:Nd) (pv:Option Nat) (h:i<8): lS nd pv (2+i)=.string (nd.es.getD i jD).key:=by
 unfold lS;rw[if_neg gZ,if_neg gZ,if_pos gZ,show 2+i - 2=i by omega]
theorem yh (nd:Nd) (pv:Option Nat) (h:i<8): lS nd pv (10+i)=Iq (nd.es.getD i jD).num:=by
 unfold lS;rw[if_neg gZ,if_neg gZ,if_neg gZ,if_pos gZ,show 10+i - 10=i by omega]
theorem ui (nd:Nd) (pv:Option Nat) (h:i<8): lS nd pv (18+i)=lh (nd.es.getD i jD).m7:=by
 unfold lS;rw[if_neg gZ,if_neg gZ,if_neg gZ,if_neg gZ,if_pos gZ,show 18+i - 18=i by omega]
def ins (es:List Tre.En) (i:Nat) (e:Tre.En):List Tre.En:=es.take i++e :: es.drop i
def era (es:List Tre.En) (i:Nat):List Tre.En:=es.take i++es.drop (i+1)
theorem TF (es:List Tre.En) (e:Tre.En) (h:i <= es.length) (q:Nat): (ins es i e).getD q jD=if q<i then es.getD q jD else if q=i then e else es.getD (q - 1) jD:=by
 unfold ins;have ht:(es.take i).length=i:=by rw[aE];omega
 simp only[ag]
 by_cases h1:q<i
 ·rw[aP gZ,dj h1,if_pos h1]
 ·rw[ay gZ,ht,if_neg h1]
  by_cases h2:q=i
  ·subst h2;simp
  ·rw[if_neg h2,show q - i=(q - i - 1)+1 by omega,cg,eD,show i+(q - i - 1)=q - 1 by omega]
theorem aep (es:List Tre.En) (e:Tre.En) (h:i <= es.length): (ins es i e).length=es.length+1:=by unfold ins;simp only[aa,aE,aj,aQ];omega
theorem ac6 (es:List Tre.En) (h:i<es.length) (q:Nat): (era es i).getD q jD=if q<i then es.getD q jD else es.getD (q+1) jD:=by
 unfold era;have ht:(es.take i).length=i:=by rw[aE];omega
 simp only[ag]
 by_cases h1:q<i
 ·rw[aP gZ,dj h1,if_pos h1]
 ·rw[ay gZ,ht,if_neg h1,eD,show i+1+(q - i)=q+1 by omega]
theorem aaq (es:List Tre.En) (h:i<es.length): (era es i).length+1=es.length:=by unfold era;simp only[aa,aE,aQ];omega
theorem xY (es:List Tre.En) (h:es.length <= q): es.getD q jD=jD:=by rw[ag,aG h];rfl
abbrev kJ:Nat:=192
def Mem (w:World) (st:St):Prop:=∀b nd,st b=some nd -> nd.es.length <= 8 /\ ∃pv,h_ kJ w b (iL (lS nd pv))
theorem Mem.ij {st:St}{K:Nat -> Prop}(h:Mem w st) (hk:ib K w w') (hK:∀b,st b≠none -> K b): Mem w' st:=fun b nd e=>by
 obtain⟨h1,pv,h2⟩:=h b nd e;exact⟨h1,pv,h2.ij hk (hK b (by rw[e];simp))⟩
theorem Mem.lt {st:St}(h:Mem w st) (hb:st b≠none): b<w.heap.size:=by
 cases e:st b with
 | none=>exact absurd e hb
 | some nd=>obtain⟨-,pv,h2⟩:=h b nd e;exact h2.lt
theorem Mem.below {st:St}(h:Mem w st) (hk:iB w w'): Mem w' st:=h.ij (ib.ic hk) fun _ hb=>h.lt hb
theorem Mem.kv {st:St}{nd:Nd}{pv:Option Nat}(h:Mem w st) (hk:ib (fun x=>x≠b) w w') (hn:nd.es.length <= 8) (hb:h_ kJ w' b (iL (lS nd pv))): Mem w' (Tre.kv st b nd):=fun x n e=>by
 by_cases hx:x=b
 ·subst hx
  rw[lz] at e;obtain rfl:=au e;exact⟨hn,pv,hb⟩
 ·rw[jb hx] at e
  obtain⟨h1,pv2,h2⟩:=h x n e;exact⟨h1,pv2,h2.ij hk hx⟩
open Tre
theorem jN {g:Nat -> Value}(h:h_ T w b (iL g)) (hj:j<28): w.cell? ⟨b,j,none⟩=some (g j):=by
 rw[h.cell j (by rw[nA];exact hj),VZ g hj]
theorem ud {g:Nat -> Value}(h:h_ T w b (iL g)) (j:Nat) (v:Value): h_ T (w.setCell ⟨b,j,none⟩ v) b (iL fun i=>if i=j then v else g i):=by
 have:=h.set j v
 rwa [V1] at this
theorem FX {g:Nat -> Value}(h:h_ T w b (iL g)) (off m:Nat) (hm:off+m <= 28): w.rangeAt b off ((List.range m).map fun j=>g (off+j)):=by
 intro j v hj;have iS:j<m:=by
  rcases aO j m with h|h
  ·exact h
  ·rw[aG (by simpa using h)] at hj;cases hj
 rw[jN h gZ];simp[iS] at hj
 rw[hj]
theorem ib.nE (h:Sy w w') (K:Nat -> Prop): ib K w w':=⟨(h.below 0).os,(h.below 0).tape,(h.below 0).output,(h.below 0).size,fun k _=>(h.below (k+1)).block k (Nat.lt_succ_self k)⟩
theorem rZ {K:Nat -> Prop}{a:World}(h:ib K a w) (hg:¬K g) (cs:Array Value): ib K a (w.setRow g cs) :=
 ⟨h.os,h.tape,h.output,by simpa using h.size,fun k hk=>(setRow_other w g k cs (fun e=>hg (e ▸ hk))).trans (h.block k hk)⟩
theorem wv {w1:World}(h:ib (fun x=>x≠b) w w1) (j:Nat) (v:Value): ib (fun x=>x≠b) w (w1.setCell ⟨b,j,none⟩ v):=h.setCell (fun hk=>hk rfl) _
theorem BW (x:Option Nat): (lh x).oneCell'=true:=by cases x<;>rfl
theorem TB (nd:Nd) (pv:Option Nat) (j:Nat): (lS nd pv j).oneCell'=true:=by
 unfold lS
 repeat' split
 all_goals first|rfl|exact BW _
theorem r8 {nd:Nd}{pv:Option Nat}{key:ByteArray}{n:Int}{m7:Option Nat}(hb:h_ kJ w b (iL (lS nd pv))) (hi:i <= nd.es.length) (hn:nd.es.length<8):
  Calls prog 91 #[iF b,Iq i,.string key,Iq n,lh m7] w fun e w'=>e=.returned (.tuple #[]) /\ ib (fun x=>x≠b) w w' /\ h_ kJ w' b (iL (lS { nd with es:=ins nd.es i ⟨key,n,m7⟩} pv)):=by
 refine iY gI ntmps91 ?_;obtain⟨g0,uF⟩:∃g0,lS nd pv=g0:=⟨_,rfl⟩;obtain⟨N,hN⟩:∃N,nd.es.length=N:=⟨_,rfl⟩;rw[uF] at hb;rw[hN] at hi hn;have J7:g0 1=Iq N:=by rw[<- uF,sV,hN]
 -- three rows make room
 have step:∀ {wx:World}{g:Nat -> Value}(off:Nat),2 <= off -> off+8 <= 26 -> h_ kJ wx b (iL g) -> ∃g',h_ kJ (wx.setRow b ((iL g).take (iN 8 (i+1) off 1)++(List.range (N - i)).map (fun j=>g (off+i+j))++(iL g).drop (iN 8 (i+1) off 1+((List.range (N - i)).map (fun j=>g (off+i+j))).length)).toArray) b (iL g') /\
   ∀j,j<28 -> g' j=if off+i+1 <= j /\ j<off+N+1 then g (j - 1) else g j:=by
  intro wx g off h1 h2 hv;have hc:iN 8 (i+1) off 1+(N - i) <= 28:=by unfold iN;split<;>omega
  rw[GG g _ _ _ hc];refine⟨_,hv.setRow _,fun j hj=>?_⟩
  by_cases e:8=i+1
  ·have:N - i=0:=gZ
   rw[this,if_neg gZ,if_neg gZ]
  ·rw[show iN 8 (i+1) off 1=off+i+1 by unfold iN;rw[if_neg e];omega]
   by_cases c:off+i+1 <= j /\ j<off+N+1
   ·rw[if_pos gZ,if_pos c]
    congr 1
    omega
   ·rw[if_neg gZ,if_neg c]
 have o0:∀j,j<28 -> (g0 j).oneCell'=true:=fun j _=>by rw[<- uF];exact TB _ _ _
 have Xo:∀vP m',vP+m' <= 28 -> kj ((List.range m').map fun j=>g0 (vP+j)):=fun vP m' hm u hu=>by
  obtain⟨j,hj,rfl⟩:=bg.1 hu;exact o0 _ (by have:=bO.1 hj;omega)
 have c0:=J7;have K0:=ib.refl (fun x=>x≠b) w;refine ku ?_;refine WC.drawn 20 (fun wx=>h_ kJ wx b (iL g0)) fun u0 hd=>?_;have hS:=hb.below (hd.below _) hb.lt;have K0':=K0.trans (ib.nE hd (fun x=>x≠b));clear hd hb K0;refine iq [0,1,2,3,4,5,6,7] hS ?_;refine ik 8 [9,10,20] (fun wx hx=>(jN hx (j:=1) gZ).trans (congrArg some c0)) hS ?_;refine iq [9] hS ?_;refine WD.Ed 10 (i+1) (N+1) rfl (by kernel_rfl) rfl rfl (fun _ _ _ _ _ h=>h) rfl rfl rfl rfl rfl rfl gZ gZ gZ gZ (.inr hS) ?_;refine iq [11,12,13,14,15,16,17] hS ?_;refine ik 18 [19,20] (fun wx hx=>(jN hx (j:=1) gZ).trans (congrArg some c0)) hS ?_;refine WD.Ed 19 i N rfl (by kernel_rfl) rfl rfl (fun _ _ _ _ _ h=>h) rfl rfl rfl rfl rfl rfl rfl rfl gZ gZ (.inr hS) ?_;refine iI 20 ?_;obtain⟨g1,v1,e1⟩:=step 2 gZ gZ hS;have K1:=rZ K0' (fun hk=>hk rfl) ((iL g0).take (iN 8 (i+1) 2 1)++(List.range (N - i)).map (fun j=>g0 (2+i+j))++(iL g0).drop (iN 8 (i+1) 2 1+((List.range (N - i)).map (fun j=>g0 (2+i+j))).length)).toArray;have ve:=FX hS (2+i) (N - i) gZ;rw[show 2+i=iN 8 i (0+2) 1 by unfold iN;split<;>omega] at ve;refine WL.copyV (vs:=(List.range (N - i)).map (fun j=>g0 (iN 8 i (0+2) 1+j))) rfl rfl rfl rfl rfl rfl rfl hS iz ve (by rw[nA];simp;unfold iN;split<;>omega) (Xo _ _ (by unfold iN;split<;>omega)) ?_;rw[show iN 8 i (0+2) 1=2+i by unfold iN;split<;>omega,a_];generalize u0.setRow b ((iL g0).take (iN 8 (i+1) 2 1)++(List.range (N - i)).map (fun j=>g0 (2+i+j))++(iL g0).drop (iN 8 (i+1) 2 1+((List.range (N - i)).map (fun j=>g0 (2+i+j))).length)).toArray=x0 at v1 K1 ⊢;clear hS K0';have c1:g1 1=Iq N:=by rw[e1 1 gZ,if_neg gZ];exact c0
 have o1:∀j,j<28 -> (g1 j).oneCell'=true:=fun j hj=>by rw[e1 j hj];split<;>exact o0 _ gZ
 have Xy:∀vP m',vP+m' <= 28 -> kj ((List.range m').map fun j=>g1 (vP+j)):=fun vP m' hm u hu=>by
  obtain⟨j,hj,rfl⟩:=bg.1 hu;exact o1 _ (by have:=bO.1 hj;omega)
 refine iO ?_;refine im ?_;refine ku ?_;refine WC.drawn 20 (fun wx=>h_ kJ wx b (iL g1)) fun u1 hd=>?_;have hS:=v1.below (hd.below _) v1.lt;have K1':=K1.trans (ib.nE hd (fun x=>x≠b));clear hd v1 K1;refine iq [0,1,2,3,4,5,6,7] hS ?_;refine ik 8 [9,10,20] (fun wx hx=>(jN hx (j:=1) gZ).trans (congrArg some c1)) hS ?_;refine iq [9] hS ?_;refine WD.Ed 10 (i+1) (N+1) rfl (by kernel_rfl) rfl rfl (fun _ _ _ _ _ h=>h) rfl rfl rfl rfl rfl rfl gZ gZ gZ gZ (.inr hS) ?_;refine iq [11,12,13,14,15,16,17] hS ?_;refine ik 18 [19,20] (fun wx hx=>(jN hx (j:=1) gZ).trans (congrArg some c1)) hS ?_;refine WD.Ed 19 i N rfl (by kernel_rfl) rfl rfl (fun _ _ _ _ _ h=>h) rfl rfl rfl rfl rfl rfl rfl rfl gZ gZ (.inr hS) ?_;refine iI 20 ?_;obtain⟨g2,v2,e2⟩:=step 10 gZ gZ hS;have K2:=rZ K1' (fun hk=>hk rfl) ((iL g1).take (iN 8 (i+1) 10 1)++(List.range (N - i)).map (fun j=>g1 (10+i+j))++(iL g1).drop (iN 8 (i+1) 10 1+((List.range (N - i)).map (fun j=>g1 (10+i+j))).length)).toArray;have Ba:=FX hS (10+i) (N - i) gZ;rw[show 10+i=iN 8 i (0+10) 1 by unfold iN;split<;>omega] at Ba;refine WL.copyV (vs:=(List.range (N - i)).map (fun j=>g1 (iN 8 i (0+10) 1+j))) rfl rfl rfl rfl rfl rfl rfl hS iz Ba (by rw[nA];simp;unfold iN;split<;>omega) (Xy _ _ (by unfold iN;split<;>omega)) ?_;rw[show iN 8 i (0+10) 1=10+i by unfold iN;split<;>omega,a_];generalize u1.setRow b ((iL g1).take (iN 8 (i+1) 10 1)++(List.range (N - i)).map (fun j=>g1 (10+i+j))++(iL g1).drop (iN 8 (i+1) 10 1+((List.range (N - i)).map (fun j=>g1 (10+i+j))).length)).toArray=x1 at v2 K2 ⊢;clear hS K1';have c2:g2 1=Iq N:=by rw[e2 1 gZ,if_neg gZ];exact c1
 have o2:∀j,j<28 -> (g2 j).oneCell'=true:=fun j hj=>by rw[e2 j hj];split<;>exact o1 _ gZ
 have Xu:∀vP m',vP+m' <= 28 -> kj ((List.range m').map fun j=>g2 (vP+j)):=fun vP m' hm u hu=>by
  obtain⟨j,hj,rfl⟩:=bg.1 hu;exact o2 _ (by have:=bO.1 hj;omega)
 refine iO ?_;refine im ?_;refine ku ?_;refine WC.drawn 20 (fun wx=>h_ kJ wx b (iL g2)) fun u2 hd=>?_;have hS:=v2.below (hd.below _) v2.lt;have K2':=K2.trans (ib.nE hd (fun x=>x≠b));clear hd v2 K2;refine iq [0,1,2,3,4,5,6,7] hS ?_;refine ik 8 [9,10,20] (fun wx hx=>(jN hx (j:=1) gZ).trans (congrArg some c2)) hS ?_;refine iq [9] hS ?_;refine WD.Ed 10 (i+1) (N+1) rfl (by kernel_rfl) rfl rfl (fun _ _ _ _ _ h=>h) rfl rfl rfl rfl rfl rfl gZ gZ gZ gZ (.inr hS) ?_;refine iq [11,12,13,14,15,16,17] hS ?_;refine ik 18 [19,20] (fun wx hx=>(jN hx (j:=1) gZ).trans (congrArg some c2)) hS ?_;refine WD.Ed 19 i N rfl (by kernel_rfl) rfl rfl (fun _ _ _ _ _ h=>h) rfl rfl rfl rfl rfl rfl rfl rfl gZ gZ (.inr hS) ?_;refine iI 20 ?_;obtain⟨g3,v3,e3⟩:=step 18 gZ gZ hS;have K3:=rZ K2' (fun hk=>hk rfl) ((iL g2).take (iN 8 (i+1) 18 1)++(List.range (N - i)).map (fun j=>g2 (18+i+j))++(iL g2).drop (iN 8 (i+1) 18 1+((List.range (N - i)).map (fun j=>g2 (18+i+j))).length)).toArray;have uW:=FX hS (18+i) (N - i) gZ;rw[show 18+i=iN 8 i (0+18) 1 by unfold iN;split<;>omega] at uW;refine WL.copyV (vs:=(List.range (N - i)).map (fun j=>g2 (iN 8 i (0+18) 1+j))) rfl rfl rfl rfl rfl rfl rfl hS iz uW (by rw[nA];simp;unfold iN;split<;>omega) (Xu _ _ (by unfold iN;split<;>omega)) ?_;rw[show iN 8 i (0+18) 1=18+i by unfold iN;split<;>omega,a_];generalize u2.setRow b ((iL g2).take (iN 8 (i+1) 18 1)++(List.range (N - i)).map (fun j=>g2 (18+i+j))++(iL g2).drop (iN 8 (i+1) 18 1+((List.range (N - i)).map (fun j=>g2 (18+i+j))).length)).toArray=x2 at v3 K3 ⊢;clear hS K2';have c3:g3 1=Iq N:=by rw[e3 1 gZ,if_neg gZ];exact c2
 have o3:∀j,j<28 -> (g3 j).oneCell'=true:=fun j hj=>by rw[e3 j hj];split<;>exact o2 _ gZ
 have awy:∀vP m',vP+m' <= 28 -> kj ((List.range m').map fun j=>g3 (vP+j)):=fun vP m' hm u hu=>by
  obtain⟨j,hj,rfl⟩:=bg.1 hu;exact o3 _ (by have:=bO.1 hj;omega)
 refine iO ?_;refine im ?_;refine ku ?_;refine WC.drawn 20 (fun _=>True) fun u3 hd=>?_;have Pt:=v3.below (hd.below _) v3.lt;have K3':=K3.trans (ib.nE hd (fun x=>x≠b));clear hd v3 K3;have hS:=trivial;refine iq [0,1,2,3,4,5,6,7,8,9,10] hS ?_;refine jr 11 i (2+i) (.inr hS) ?_;refine iq [13,14,17,18] hS ?_;refine iI 12 ?_;refine WL.store rfl rfl rfl rfl rfl rfl (by kernel_rfl) (jN Pt gZ) (Pt.free _) ?_;have v4:=ud Pt (2+i) (.string key);have K4:=wv K3' (2+i) (.string key);generalize u3.setCell ⟨b,2+i,none⟩ (.string key)=x4 at v4 K4 ⊢;clear Pt K3';refine km hS ?_;refine jr 15 i (10+i) (.inr hS) ?_;refine iI 16 ?_;refine WL.store rfl rfl rfl rfl rfl rfl (by kernel_rfl) (jN v4 gZ) (v4.free _) ?_;have v5:=ud v4 (10+i) (Iq n);have K5:=wv K4 (10+i) (Iq n);generalize x4.setCell ⟨b,10+i,none⟩ (Iq n)=x5 at v5 K5 ⊢;clear v4 K4;refine km hS ?_;refine jr 19 i (18+i) (.inr hS) ?_;refine iI 20 ?_;refine WL.store rfl rfl rfl rfl rfl (BW _) (by kernel_rfl) (jN v5 gZ) (v5.free _) ?_;have v6:=ud v5 (18+i) (lh m7);have K6:=wv K5 (18+i) (lh m7);generalize x5.setCell ⟨b,18+i,none⟩ (lh m7)=x6 at v6 K6 ⊢;clear v5 K5;refine iO ?_;refine im ?_;have mO:=jN v6 (j:=1) gZ;simp only[show ¬(1=18+i) by omega,show ¬(1=10+i) by omega,show ¬(1=2+i) by omega,fm] at mO;rw[c3] at mO;refine iu ?_;refine WL.store rfl rfl rfl rfl rfl rfl (by kernel_rfl) mO (v6.free _) ?_;have v7:=ud v6 1 (Iq (N+1));have K7:=wv K6 1 (Iq (N+1));generalize x6.setCell ⟨b,1,none⟩ (Iq (N+1))=x7 at v7 K7 ⊢;refine gY ?_;refine WQ.EE rfl ⟨rfl,K7,?_⟩;have ji:∀j,j<28 -> (fun LR=>if LR=1 then Value.int .i64 (N+1) else if LR=18+i then lh m7 else if LR=10+i then Iq n else if LR=2+i then .string key else g3 LR) j=lS { nd with es:=ins nd.es i ⟨key,n,m7⟩} pv j:=by
  have VC:∀(off:Nat) (f:Tre.En -> Value),(∀q,q<8 -> g0 (off+q)=f (nd.es.getD q jD)) -> (∀q,q<8 -> g3 (off+q)=if off+i+1 <= off+q /\ off+q<off+N+1 then g0 (off+q - 1) else g0 (off+q)) ->
    ∀q,q<8 -> q≠i -> g3 (off+q)=f ((ins nd.es i ⟨key,n,m7⟩).getD q jD):=by
   intro off f hf hg q hq hqi;rw[hg q hq,TF nd.es _ gZ]
   by_cases h1:q<i
   ·rw[if_neg gZ,if_pos h1,hf q hq]
   ·rw[if_neg h1,if_neg hqi]
    by_cases h2:q <= N
    ·rw[if_pos gZ,show off+q - 1=off+(q - 1) by omega,hf _ gZ]
    ·rw[if_neg gZ,hf q hq,xY nd.es gZ,xY nd.es gZ]
  have hk:∀q,q<8 -> g0 (2+q)=.string (nd.es.getD q jD).key:=fun q hq=>by rw[<- uF,t_ _ _ hq]
  have hm:∀q,q<8 -> g0 (10+q)=Iq (nd.es.getD q jD).num:=fun q hq=>by rw[<- uF,yh _ _ hq]
  have hc:∀q,q<8 -> g0 (18+q)=lh (nd.es.getD q jD).m7:=fun q hq=>by rw[<- uF,ui _ _ hq]
  have s1:=VC 2 (fun e=>.string e.key) hk fun q hq=>by rw[e3 _ gZ,if_neg gZ,e2 _ gZ,if_neg gZ,e1 _ gZ]
  have s2:=VC 10 (fun e=>Iq e.num) hm fun q hq=>by
   rw[e3 _ gZ,if_neg gZ,e2 _ gZ]
   split
   ·rw[e1 _ gZ,if_neg gZ]
   ·rw[e1 _ gZ,if_neg gZ]
  have s3:=VC 18 (fun e=>lh e.m7) hc fun q hq=>by
   rw[e3 _ gZ]
   split
   ·rw[e2 _ gZ,if_neg gZ,e1 _ gZ,if_neg gZ]
   ·rw[e2 _ gZ,if_neg gZ,e1 _ gZ,if_neg gZ]
  have g30:∀j,j<2 \/ 26 <= j -> j<28 -> g3 j=g0 j:=fun j h h2=>by rw[e3 _ h2,if_neg gZ,e2 _ h2,if_neg gZ,e1 _ h2,if_neg gZ]
  have DL:(ins nd.es i ⟨key,n,m7⟩).getD i jD=⟨key,n,m7⟩:=by rw[TF nd.es _ gZ,if_neg gZ,if_pos rfl]
  have B_:(ins nd.es i ⟨key,n,m7⟩).length=N+1:=by rw[aep nd.es _ gZ,hN]
  intro j hj
  show(if j=1 then Value.int IntKind.i64 (N+1) else if j=18+i then lh m7 else if j=10+i then Iq n else if j=2+i then .string key else g3 j)=_
  by_cases j0:j=0
  ·subst j0;rw[if_neg gZ,if_neg gZ,if_neg gZ,if_neg gZ,g30 0 gZ gZ,<- uF];rfl
  by_cases j1:j=1
  ·subst j1;rw[if_pos rfl,sV,B_];rfl
  by_cases j2:j<10
  ·obtain⟨q,rfl⟩:∃q,j=2+q:=⟨j - 2,gZ⟩
   rw[t_ _ _ gZ,if_neg j1,if_neg gZ,if_neg gZ]
   by_cases hq:q=i
   ·subst hq;rw[if_pos rfl,DL]
   ·rw[if_neg gZ];exact s1 q gZ hq
  by_cases j3:j<18
  ·obtain⟨q,rfl⟩:∃q,j=10+q:=⟨j - 10,gZ⟩
   rw[yh _ _ gZ,if_neg j1,if_neg gZ]
   by_cases hq:q=i
   ·subst hq;rw[if_pos rfl,DL]
   ·rw[if_neg gZ,if_neg gZ];exact s2 q gZ hq
  by_cases j4:j<26
  ·obtain⟨q,rfl⟩:∃q,j=18+q:=⟨j - 18,gZ⟩
   rw[ui _ _ gZ,if_neg j1]
   by_cases hq:q=i
   ·subst hq;rw[if_pos rfl,DL]
   ·rw[if_neg gZ,if_neg gZ,if_neg gZ];exact s3 q gZ hq
  ·rw[if_neg j1,if_neg gZ,if_neg gZ,if_neg gZ,g30 j gZ hj,<- uF]
   unfold lS;rw[if_neg j0,if_neg j1,if_neg j2,if_neg j3,if_neg j4,if_neg j0,if_neg j1,if_neg j2,if_neg j3,if_neg j4]
 rw[<- tE ji];exact v7
open Tre
theorem xZ {nd:Nd}{pv:Option Nat}(hb:h_ kJ w b (iL (lS nd pv))) (hi:i<nd.es.length) (hn:nd.es.length <= 8):
  Calls prog 128 #[iF b,Iq i] w fun e w'=>e=.returned (.tuple #[]) /\ ib (fun x=>x≠b) w w' /\ h_ kJ w' b (iL (lS { nd with es:=era nd.es i } pv)):=by
 refine iY func128 ntmps128 ?_;obtain⟨g0,uF⟩:∃g0,lS nd pv=g0:=⟨_,rfl⟩;obtain⟨N,hN⟩:∃N,nd.es.length=N:=⟨_,rfl⟩;rw[uF] at hb;rw[hN] at hi hn;have c0:g0 1=Iq N:=by rw[<- uF,sV,hN]
 have step:∀ {wx:World}{g:Nat -> Value}(off:Nat),2 <= off -> off+8 <= 26 -> h_ kJ wx b (iL g) -> ∃g',h_ kJ (wx.setRow b ((iL g).take (iN 8 i (0+off) 1)++(List.range (N - (i+1))).map (fun j=>g (iN 8 (i+1) (0+off) 1+j))++(iL g).drop (iN 8 i (0+off) 1+((List.range (N - (i+1))).map (fun j=>g (iN 8 (i+1) (0+off) 1+j))).length)).toArray) b (iL g') /\
   ∀j,j<28 -> g' j=if off+i <= j /\ j+1<off+N then g (j+1) else g j:=by
  intro wx g off h1 h2 hv;have e1:iN 8 i (0+off) 1=off+i:=by unfold iN;split<;>omega
  rw[GG g _ _ _ (by rw[e1];omega),e1];refine⟨_,hv.setRow _,fun j hj=>?_⟩
  by_cases e:8=i+1
  ·rw[if_neg gZ,if_neg gZ]
  ·rw[show iN 8 (i+1) (0+off) 1=off+i+1 by unfold iN;split<;>omega]
   by_cases c:off+i <= j /\ j+1<off+N
   ·rw[if_pos gZ,if_pos c]
    congr 1
    omega
   ·rw[if_neg gZ,if_neg c]
 have o0:∀j,j<28 -> (g0 j).oneCell'=true:=fun j _=>by rw[<- uF];exact TB _ _ _
 have K0:=ib.refl (fun x=>x≠b) w;refine ku ?_;refine WC.drawn 15 (fun wx=>h_ kJ wx b (iL g0)) fun u0 hd=>?_;have hS:=hb.below (hd.below _) hb.lt;have K0':=K0.trans (ib.nE hd (fun x=>x≠b));clear hd hb K0;refine iq [0,1,2,3] hS ?_;refine WD.abc 4 i rfl (by kernel_rfl) rfl rfl (fun _ _ _ _ _ h=>h) rfl rfl rfl rfl rfl rfl gZ (.inr hS) ?_;refine iq [5,6,7,8,9,10,11,12] hS ?_;refine ik 13 [14,15] (fun wx hx=>(jN hx (j:=1) gZ).trans (congrArg some c0)) hS ?_;refine WD.Ed 14 (i+1) N rfl (by kernel_rfl) rfl rfl (fun _ _ _ _ _ h=>h) rfl rfl rfl rfl rfl rfl gZ gZ gZ gZ (.inr hS) ?_;refine iI 15 ?_;obtain⟨g1,v1,e1⟩:=step 2 gZ gZ hS;have K1:=rZ K0' (fun hk=>hk rfl) ((iL g0).take (iN 8 i (0+2) 1)++(List.range (N - (i+1))).map (fun j=>g0 (iN 8 (i+1) (0+2) 1+j))++(iL g0).drop (iN 8 i (0+2) 1+((List.range (N - (i+1))).map (fun j=>g0 (iN 8 (i+1) (0+2) 1+j))).length)).toArray;have Xo:kj ((List.range (N - (i+1))).map fun j=>g0 (iN 8 (i+1) (0+2) 1+j)):=fun u hu=>by
  obtain⟨j,hj,rfl⟩:=bg.1 hu;exact o0 _ (by have:=bO.1 hj;unfold iN;split<;>omega)
 have ve:=FX hS (iN 8 (i+1) (0+2) 1) (N - (i+1)) (by unfold iN;split<;>omega);refine WL.copyV (vs:=(List.range (N - (i+1))).map (fun j=>g0 (iN 8 (i+1) (0+2) 1+j))) rfl rfl rfl rfl rfl rfl rfl hS (by simp;omega) ve (by rw[nA];simp;unfold iN;split<;>omega) Xo ?_;generalize u0.setRow b ((iL g0).take (iN 8 i (0+2) 1)++(List.range (N - (i+1))).map (fun j=>g0 (iN 8 (i+1) (0+2) 1+j))++(iL g0).drop (iN 8 i (0+2) 1+((List.range (N - (i+1))).map (fun j=>g0 (iN 8 (i+1) (0+2) 1+j))).length)).toArray=x0 at v1 K1 ⊢;clear hS K0' ve Xo;have c1:g1 1=Iq N:=by rw[e1 1 gZ,if_neg gZ];exact c0
 have o1:∀j,j<28 -> (g1 j).oneCell'=true:=fun j hj=>by rw[e1 j hj];split<;>exact o0 _ gZ
 refine iO ?_;refine im ?_;refine ku ?_;refine WC.drawn 15 (fun wx=>h_ kJ wx b (iL g1)) fun u1 hd=>?_;have hS:=v1.below (hd.below _) v1.lt;have K1':=K1.trans (ib.nE hd (fun x=>x≠b));clear hd v1 K1;refine iq [0,1,2,3] hS ?_;refine WD.abc 4 i rfl (by kernel_rfl) rfl rfl (fun _ _ _ _ _ h=>h) rfl rfl rfl rfl rfl rfl gZ (.inr hS) ?_;refine iq [5,6,7,8,9,10,11,12] hS ?_;refine ik 13 [14,15] (fun wx hx=>(jN hx (j:=1) gZ).trans (congrArg some c1)) hS ?_;refine WD.Ed 14 (i+1) N rfl (by kernel_rfl) rfl rfl (fun _ _ _ _ _ h=>h) rfl rfl rfl rfl rfl rfl gZ gZ gZ gZ (.inr hS) ?_;refine iI 15 ?_;obtain⟨g2,v2,e2⟩:=step 10 gZ gZ hS;have K2:=rZ K1' (fun hk=>hk rfl) ((iL g1).take (iN 8 i (0+10) 1)++(List.range (N - (i+1))).map (fun j=>g1 (iN 8 (i+1) (0+10) 1+j))++(iL g1).drop (iN 8 i (0+10) 1+((List.range (N - (i+1))).map (fun j=>g1 (iN 8 (i+1) (0+10) 1+j))).length)).toArray;have Xy:kj ((List.range (N - (i+1))).map fun j=>g1 (iN 8 (i+1) (0+10) 1+j)):=fun u hu=>by
  obtain⟨j,hj,rfl⟩:=bg.1 hu;exact o1 _ (by have:=bO.1 hj;unfold iN;split<;>omega)
 have Ba:=FX hS (iN 8 (i+1) (0+10) 1) (N - (i+1)) (by unfold iN;split<;>omega);refine WL.copyV (vs:=(List.range (N - (i+1))).map (fun j=>g1 (iN 8 (i+1) (0+10) 1+j))) rfl rfl rfl rfl rfl rfl rfl hS (by simp;omega) Ba (by rw[nA];simp;unfold iN;split<;>omega) Xy ?_;generalize u1.setRow b ((iL g1).take (iN 8 i (0+10) 1)++(List.range (N - (i+1))).map (fun j=>g1 (iN 8 (i+1) (0+10) 1+j))++(iL g1).drop (iN 8 i (0+10) 1+((List.range (N - (i+1))).map (fun j=>g1 (iN 8 (i+1) (0+10) 1+j))).length)).toArray=x1 at v2 K2 ⊢;clear hS K1' Ba Xy;have c2:g2 1=Iq N:=by rw[e2 1 gZ,if_neg gZ];exact c1
 have o2:∀j,j<28 -> (g2 j).oneCell'=true:=fun j hj=>by rw[e2 j hj];split<;>exact o1 _ gZ
 refine iO ?_;refine im ?_;refine ku ?_;refine WC.drawn 15 (fun wx=>h_ kJ wx b (iL g2)) fun u2 hd=>?_;have hS:=v2.below (hd.below _) v2.lt;have K2':=K2.trans (ib.nE hd (fun x=>x≠b));clear hd v2 K2;refine iq [0,1,2,3] hS ?_;refine WD.abc 4 i rfl (by kernel_rfl) rfl rfl (fun _ _ _ _ _ h=>h) rfl rfl rfl rfl rfl rfl gZ (.inr hS) ?_;refine iq [5,6,7,8,9,10,11,12] hS ?_;refine ik 13 [14,15] (fun wx hx=>(jN hx (j:=1) gZ).trans (congrArg some c2)) hS ?_;refine WD.Ed 14 (i+1) N rfl (by kernel_rfl) rfl rfl (fun _ _ _ _ _ h=>h) rfl rfl rfl rfl rfl rfl gZ gZ gZ gZ (.inr hS) ?_;refine iI 15 ?_;obtain⟨g3,v3,e3⟩:=step 18 gZ gZ hS;have K3:=rZ K2' (fun hk=>hk rfl) ((iL g2).take (iN 8 i (0+18) 1)++(List.range (N - (i+1))).map (fun j=>g2 (iN 8 (i+1) (0+18) 1+j))++(iL g2).drop (iN 8 i (0+18) 1+((List.range (N - (i+1))).map (fun j=>g2 (iN 8 (i+1) (0+18) 1+j))).length)).toArray;have Xu:kj ((List.range (N - (i+1))).map fun j=>g2 (iN 8 (i+1) (0+18) 1+j)):=fun u hu=>by
  obtain⟨j,hj,rfl⟩:=bg.1 hu;exact o2 _ (by have:=bO.1 hj;unfold iN;split<;>omega)
 have uW:=FX hS (iN 8 (i+1) (0+18) 1) (N - (i+1)) (by unfold iN;split<;>omega);refine WL.copyV (vs:=(List.range (N - (i+1))).map (fun j=>g2 (iN 8 (i+1) (0+18) 1+j))) rfl rfl rfl rfl rfl rfl rfl hS (by simp;omega) uW (by rw[nA];simp;unfold iN;split<;>omega) Xu ?_;generalize u2.setRow b ((iL g2).take (iN 8 i (0+18) 1)++(List.range (N - (i+1))).map (fun j=>g2 (iN 8 (i+1) (0+18) 1+j))++(iL g2).drop (iN 8 i (0+18) 1+((List.range (N - (i+1))).map (fun j=>g2 (iN 8 (i+1) (0+18) 1+j))).length)).toArray=x2 at v3 K3 ⊢;clear hS K2' uW Xu;have c3:g3 1=Iq N:=by rw[e3 1 gZ,if_neg gZ];exact c2
 have o3:∀j,j<28 -> (g3 j).oneCell'=true:=fun j hj=>by rw[e3 j hj];split<;>exact o2 _ gZ
 refine iO ?_;refine im ?_;refine ku ?_;have Cg:=jN v3 (j:=1) gZ;rw[c3] at Cg;refine iu ?_;refine iD Cg (v3.free _) ?_;have v4:=ud v3 1 (Iq ((N:Int) - 1));have K4:=wv K3 1 (Iq ((N:Int) - 1));generalize x2.setCell ⟨b,1,none⟩ (Iq ((N:Int) - 1))=x4 at v4 K4 ⊢;clear Cg v3 K3;obtain⟨M,rfl⟩:∃M,N=M+1:=⟨N - 1,gZ⟩;rw[show(((M+1:Nat):Int) - 1)=(M:Int) by omega] at v4;obtain⟨g4,ot⟩:∃g4:Nat -> Value,g4=fun i=>if i=1 then Iq M else g3 i:=⟨_,rfl⟩
 rw[<- ot] at v4;have c4:g4 1=Iq M:=by rw[ot];rfl
 refine ku ?_;refine WC.drawn 26 (fun wx=>wx.cell? ⟨b,1,none⟩=some (Iq M)) fun u4 hd=>?_;have v5:=v4.below (hd.below _) v4.lt;have K5:=K4.trans (ib.nE hd (fun x=>x≠b));have hS:=(jN v5 (j:=1) gZ).trans (congrArg some c4);clear hd v4 K4;refine iq [0,1,2,3] hS ?_;refine ik 4 [17,18,21,22,25,26] (fun wx hx=>hx) hS ?_;refine iq [5,6,7,8] hS ?_;refine ik 9 [17,18,21,22,25,26] (fun wx hx=>hx) hS ?_;refine iq [10,11,12,13] hS ?_;refine ik 14 [17,18,21,22,25,26] (fun wx hx=>hx) hS ?_;refine iq [15,16,19,20,23,24] hS ?_;refine jr 17 M (2+M) (.inr hS) ?_;refine iI 18 ?_;refine WL.store rfl rfl rfl rfl rfl rfl (by kernel_rfl) (jN v5 gZ) (v5.free _) ?_;have v6:=ud v5 (2+M) (.string ⟨#[]⟩);have K6:=wv K5 (2+M) (.string ⟨#[]⟩);generalize u4.setCell ⟨b,2+M,none⟩ (.string ⟨#[]⟩)=x6 at v6 K6 ⊢;replace hS:=(jN v6 (j:=1) gZ).trans (congrArg some ((if_neg gZ).trans c4));clear v5 K5;refine km hS ?_;refine jr 21 M (10+M) (.inr hS) ?_;refine iI 22 ?_;refine WL.store rfl rfl rfl rfl rfl rfl (by kernel_rfl) (jN v6 gZ) (v6.free _) ?_;have v7:=ud v6 (10+M) (Iq 0);have K7:=wv K6 (10+M) (Iq 0);generalize x6.setCell ⟨b,10+M,none⟩ (Iq 0)=x7 at v7 K7 ⊢;replace hS:=(jN v7 (j:=1) gZ).trans (congrArg some ((if_neg gZ).trans ((if_neg gZ).trans c4)));clear v6 K6;refine km hS ?_;refine jr 25 M (18+M) (.inr hS) ?_;refine iI 26 ?_;refine WL.store rfl rfl rfl rfl rfl rfl (by kernel_rfl) (jN v7 gZ) (v7.free _) ?_;have v8:=ud v7 (18+M) (.pointer none);have K8:=wv K7 (18+M) (.pointer none);generalize x7.setCell ⟨b,18+M,none⟩ (.pointer none)=x8 at v8 K8 ⊢;clear v7 K7;refine iO ?_;refine im ?_;refine gY ?_;refine WQ.EE rfl ⟨rfl,K8,?_⟩;have ji:∀j,j<28 -> (fun LR=>if LR=18+M then Value.pointer none else if LR=10+M then Iq 0 else if LR=2+M then .string ⟨#[]⟩ else g4 LR) j=lS { nd with es:=era nd.es i } pv j:=by
  have B_:(era nd.es i).length=M:=by have:=aaq nd.es (i:=i) gZ;omega
  have VC:∀(off:Nat) (f:Tre.En -> Value),(∀q,q<8 -> g0 (off+q)=f (nd.es.getD q jD)) -> (∀q,q<8 -> g3 (off+q)=if off+i <= off+q /\ off+q+1<off+(M+1) then g0 (off+q+1) else g0 (off+q)) ->
    ∀q,q<8 -> q≠M -> g3 (off+q)=f ((era nd.es i).getD q jD):=by
   intro off f hf hg q hq hqm;rw[hg q hq]
   by_cases h0:q<M
   ·rw[ac6 nd.es gZ]
    by_cases h1:q<i
    ·rw[if_neg gZ,if_pos h1,hf q hq]
    ·rw[if_pos gZ,if_neg h1,ff,hf _ gZ]
   ·rw[if_neg gZ,hf q hq,xY nd.es gZ,xY (era nd.es i) gZ]
  have hk:∀q,q<8 -> g0 (2+q)=.string (nd.es.getD q jD).key:=fun q hq=>by rw[<- uF,t_ _ _ hq]
  have hm:∀q,q<8 -> g0 (10+q)=Iq (nd.es.getD q jD).num:=fun q hq=>by rw[<- uF,yh _ _ hq]
  have hc:∀q,q<8 -> g0 (18+q)=lh (nd.es.getD q jD).m7:=fun q hq=>by rw[<- uF,ui _ _ hq]
  have s1:=VC 2 (fun e=>.string e.key) hk fun q hq=>by rw[e3 _ gZ,if_neg gZ,e2 _ gZ,if_neg gZ,e1 _ gZ]
  have s2:=VC 10 (fun e=>Iq e.num) hm fun q hq=>by
   rw[e3 _ gZ,if_neg gZ,e2 _ gZ]
   split
   ·rw[e1 _ gZ,if_neg gZ]
   ·rw[e1 _ gZ,if_neg gZ]
  have s3:=VC 18 (fun e=>lh e.m7) hc fun q hq=>by
   rw[e3 _ gZ]
   split
   ·rw[e2 _ gZ,if_neg gZ,e1 _ gZ,if_neg gZ]
   ·rw[e2 _ gZ,if_neg gZ,e1 _ gZ,if_neg gZ]
  have g30:∀j,j<2 \/ 26 <= j -> j<28 -> g3 j=g0 j:=fun j h h2=>by rw[e3 _ h2,if_neg gZ,e2 _ h2,if_neg gZ,e1 _ h2,if_neg gZ]
  have aaw:(era nd.es i).getD M jD=jD:=xY _ gZ;have g4n:∀j,j≠1 -> g4 j=g3 j:=fun j h=>by rw[ot];exact if_neg h
  intro j hj
  show(if j=18+M then Value.pointer none else if j=10+M then Iq 0 else if j=2+M then .string ⟨#[]⟩ else g4 j)=_
  by_cases j0:j=0
  ·subst j0;rw[if_neg gZ,if_neg gZ,if_neg gZ,g4n _ gZ,g30 0 gZ gZ,<- uF];rfl
  by_cases j1:j=1
  ·subst j1;rw[if_neg gZ,if_neg gZ,if_neg gZ,c4,sV,B_]
  by_cases j2:j<10
  ·obtain⟨q,rfl⟩:∃q,j=2+q:=⟨j - 2,gZ⟩
   rw[t_ _ _ gZ,if_neg gZ,if_neg gZ]
   by_cases hq:q=M
   ·subst hq;rw[if_pos rfl];simp only;rw[aaw];rfl
   ·rw[if_neg gZ,g4n _ j1];exact s1 q gZ hq
  by_cases j3:j<18
  ·obtain⟨q,rfl⟩:∃q,j=10+q:=⟨j - 10,gZ⟩
   rw[yh _ _ gZ,if_neg gZ]
   by_cases hq:q=M
   ·subst hq;rw[if_pos rfl];simp only;rw[aaw];rfl
   ·rw[if_neg gZ,if_neg gZ,g4n _ j1];exact s2 q gZ hq
  by_cases j4:j<26
  ·obtain⟨q,rfl⟩:∃q,j=18+q:=⟨j - 18,gZ⟩
   rw[ui _ _ gZ]
   by_cases hq:q=M
   ·subst hq;rw[if_pos rfl];simp only;rw[aaw];rfl
   ·rw[if_neg gZ,if_neg gZ,if_neg gZ,g4n _ j1];exact s3 q gZ hq
  ·rw[if_neg gZ,if_neg gZ,if_neg gZ,g4n _ j1,g30 j gZ hj,<- uF]
   unfold lS;rw[if_neg j0,if_neg j1,if_neg j2,if_neg j3,if_neg j4,if_neg j0,if_neg j1,if_neg j2,if_neg j3,if_neg j4]
 rw[<- tE ji];exact v8
open Tre
theorem zH (es:List Tre.En) (j:Nat): (es.map Tre.En.key).getD j ByteArray.empty=(es.getD j jD).key:=by
 simp only[ag,cD];cases es[j]?<;>rfl
theorem WQ.as {n:K.NN}{Q:Exit -> Act -> World -> Prop}{l:Env}{e:Exit}(k:Nat) (v':Value) {v:Value}(hk:look l k=some v) (h0:v=v') (h:WQ n Q e ((k,v') :: l) w): WQ n Q e l w :=
 ⟨fun a ha=>h.go a ⟨ha.size,ha.defers,fun j u hj=>by
  unfold look at hj;cases hb:Nat.beq k j with
  | true=>
   rw[hb] at hj;obtain rfl:k=j:=bM hb;obtain rfl:v'=u:=au hj;subst h0;exact ha.slot _ _ hk
  | false=>rw[hb] at hj;exact ha.slot _ _ hj⟩⟩
theorem IA {nd:Nd}{pv:Option Nat}{key:ByteArray}(hb:h_ kJ w b (iL (lS nd pv))) (hn:nd.es.length <= 8):
  Calls prog 94 #[iF b,.string key] w fun e w'=>e=.returned (Iq (plc key (nd.es.map Tre.En.key):Nat)) /\ w'=w:=by
 refine iY func94 ntmps94 ?_;obtain⟨N,hN⟩:∃N,nd.es.length=N:=⟨_,rfl⟩;have hc:=jN hb (j:=1) gZ;rw[sV,hN] at hc;have hk:∀i,i<8 -> w.cell? ⟨b,2+i,none⟩=some (.string (nd.es.getD i jD).key):=fun i hi=>by rw[jN hb gZ,t_ _ _ hi]
 rw[hN] at hn;refine gY ?_;refine WC.loop (fun i:Nat=>[(0,iF b),(1,.string key),(5,Iq i)]) (fun i w'=>w'=w /\ i <= N /\ ∀j,j<i -> kl (nd.es.getD j jD).key key=true) (fun i=>N - i) 0 iW ⟨rfl,aw _,fun j hj=>absurd hj gZ⟩ ?_;rintro i _ ⟨rfl,hi,iS⟩
 by_cases hiN:i<N
 ·refine iu ?_
  refine j_ i (2+i) ?_;refine WL.on rfl rfl ?_;refine ia (hk i gZ) ?_;refine gY ?_;cases hq:Op.bytesLess (nd.es.getD i jD).key.toList key.toList with
  | true=>
   refine gY ?_;exact WQ.again (i+1) iW ⟨rfl,hiN,fun j hj=>by
    rcases aO j i with h|h
    ·exact iS j h
    ·obtain rfl:j=i:=gZ
     exact hq⟩ (by show N - (i+1)<N - i;omega)
  | false=>
   refine gY ?_;refine g_ ⟨?_,rfl⟩;rw[Pj (i:=i) (by simp[hN];omega) (fun j hj=>by rw[zH];exact iS j hj) (fun _=>by rw[zH];exact hq)]
 ·obtain rfl:i=N:=gZ
  refine iu ?_;refine g_ ⟨?_,rfl⟩;rw[Pj (i:=i) (by simp[hN]) (fun j hj=>by rw[zH];exact iS j hj) (fun h=>by simp[hN] at h)]
theorem Fj {nd:Nd}{pv:Option Nat}{key:ByteArray}(hb:h_ kJ w b (iL (lS nd pv))) (hn:nd.es.length <= 8) (h1:1 <= nd.es.length):
  Calls prog 93 #[iF b,.string key] w fun e w'=>e=.returned (Iq (ym key (nd.es.map Tre.En.key) (nd.es.length - 1):Nat)) /\ w'=w:=by
 refine iY func93 ntmps93 ?_;obtain⟨N,hN⟩:∃N,nd.es.length=N+1:=⟨nd.es.length - 1,gZ⟩;have hc:=jN hb (j:=1) gZ;rw[sV,hN] at hc;have hk:∀i,i<8 -> w.cell? ⟨b,2+i,none⟩=some (.string (nd.es.getD i jD).key):=fun i hi=>by rw[jN hb gZ,t_ _ _ hi]
 rw[hN] at hn ⊢;rw[Nat.add_sub_cancel];obtain⟨R,hR⟩:∃R,ym key (nd.es.map Tre.En.key) N=R:=⟨_,rfl⟩;rw[hR];have hw0:((N+1:Nat):Int) - 1=N:=gZ;refine iu ?_;refine WC.as 5 (Iq N) rfl (congrArg (Value.int .i64) hw0) ?_;refine WC.loop (fun i:Nat=>[(0,iF b),(1,.string key),(5,Iq i)]) (fun i w'=>w'=w /\ i <= N /\ ym key (nd.es.map Tre.En.key) i=R) (fun i=>i) N iW ⟨rfl,af _,hR⟩ ?_;rintro i _ ⟨rfl,hi,hg⟩;cases i with
 | zero=>
  subst hg;refine gY ?_;exact g_ ⟨rfl,rfl⟩
 | succ i=>
  have lJ:((i+1:Nat):Int) - 1=i:=gZ;have hs:(if kl key ((nd.es.map Tre.En.key).getD (i+1) ByteArray.empty) then ym key (nd.es.map Tre.En.key) i else i+1)=R:=hg;rw[zH] at hs;unfold kl at hs;refine gY ?_;refine j_ (i+1) (2+(i+1)) ?_;refine WL.on rfl rfl ?_;refine ia (hk (i+1) gZ) ?_;refine gY ?_;cases hq:Op.bytesLess key.toList (nd.es.getD (i+1) jD).key.toList with
  | true=>
   rw[hq] at hs;refine gY ?_;refine WQ.as 5 (Iq i) rfl (congrArg (Value.int .i64) lJ) ?_;exact WQ.again i iW ⟨rfl,gZ,hs⟩ (by show i<i+1;omega)
  | false=>
   rw[hq] at hs;simp only[fD,fm] at hs;subst hs;refine gY ?_;exact g_ ⟨rfl,rfl⟩
theorem Se (es:List Tre.En) (e:Tre.En): ins es es.length e=es++[e]:=by unfold ins;rw[aI,dt]
theorem SY (es:List Tre.En) {n:Nat}(h:es.length=n+1): era es n=es.take n:=by unfold era;rw[bX gZ,aS]
theorem JG (es:List Tre.En) (h:i<es.length): (⟨(es.getD i jD).key,(es.getD i jD).num,(es.getD i jD).m7⟩:Tre.En)=es[i]:=by simp[h]
theorem JI {f:Nat}{nb nc:Nd}(hb:h_ kJ w b (iL (lS nb pb))) (hc:h_ kJ w c (iL (lS nc pc))) (Dp:b≠c) (hf:f <= nb.es.length) (h8:nb.es.length <= 8) (hr:nc.es.length+(nb.es.length - f) <= 8):
  Calls prog 127 #[iF b,Iq f,iF c] w fun e w'=>e=.returned (.tuple #[]) /\ ib (fun x=>x≠b /\ x≠c) w w' /\ h_ kJ w' b (iL (lS { nb with es:=nb.es.take f } pb)) /\ h_ kJ w' c (iL (lS { nc with es:=nc.es++nb.es.drop f } pc)):=by
 refine iY func127 ntmps127 ?_;obtain⟨N,hN⟩:∃N,nb.es.length=N:=⟨_,rfl⟩;rw[hN] at hf h8 hr;refine sY ?_;refine WC.block ?_;refine WC.loop (fun i:Nat=>[(0,iF b),(1,Iq f),(2,iF c),(6,Iq i)])
  (fun i w'=>f <= i /\ i <= N /\ ib (fun x=>x≠b /\ x≠c) w w' /\ h_ kJ w' b (iL (lS nb pb)) /\ h_ kJ w' c (iL (lS { nc with es:=nc.es++(nb.es.drop f).take (i - f)} pc))) (fun i=>N - i) f iW
  ⟨af _,hf,ib.refl _ _,hb,by simpa using hc⟩ ?_
 rintro i wr ⟨E_,hiN,hk,F8,Cv⟩;have J7:=jN F8 (j:=1) gZ;rw[sV,hN] at J7
 by_cases iS:i<N
 ·refine iu ?_
  obtain⟨Lp,De⟩:∃Lp,nc.es++(nb.es.drop f).take (i - f)=Lp:=⟨_,rfl⟩;have qB:Lp.length=nc.es.length+(i - f):=by rw[<- De];simp only[aa,aE,aQ];omega
  rw[De] at Cv;refine WC.drawn 23 (fun wx=>h_ kJ wx b (iL (lS nb pb)) /\ h_ kJ wx c (iL (lS { nc with es:=Lp } pc))) fun w2 hd=>?_;have hS:h_ kJ w2 b (iL (lS nb pb)) /\ h_ kJ w2 c (iL (lS { nc with es:=Lp } pc)):=⟨F8.below (hd.below _) F8.lt,Cv.below (hd.below _) Cv.lt⟩;have lk:=hk.trans (ib.nE hd _);refine iq [0,1,2,3] hS ?_;refine ik 4 [23] (fun wx hx=>jN hx.2 (j:=1) gZ) hS ?_;refine iq [5,6,7,8] hS ?_;refine jr 9 i (2+i) (.inr hS) ?_;refine Wl 10 [23] rfl rfl rfl rfl rfl rfl rfl (fun wx hx=>(jN hx.1 gZ).trans (congrArg some (t_ _ _ gZ))) hS ?_;refine iq [11,12,13,14] hS ?_;refine jr 15 i (10+i) (.inr hS) ?_;refine Wl 16 [23] rfl rfl rfl rfl rfl rfl rfl (fun wx hx=>(jN hx.1 gZ).trans (congrArg some (yh _ _ gZ))) hS ?_;refine iq [17,18,19,20] hS ?_;refine jr 21 i (18+i) (.inr hS) ?_;refine Wl 22 [23] rfl rfl rfl rfl rfl rfl rfl (fun wx hx=>(jN hx.1 gZ).trans (congrArg some (ui _ _ gZ))) hS ?_;refine iI 23 ?_;refine i_ gI (r8 (i:=Lp.length) hS.2 (af _) (by show Lp.length<8;omega)) ?_;rintro w3 ⟨mM,su⟩
  refine iO ?_;refine im ?_;refine gY ?_;refine WQ.again (i+1) iW ⟨gZ,iS,lk.trans (mM.mono fun x hx=>hx.2),hS.1.ij mM Dp,?_⟩ (by show N - (i+1)<N - i;omega);have e5:ins Lp Lp.length ⟨(nb.es.getD i jD).key,(nb.es.getD i jD).num,(nb.es.getD i jD).m7⟩=nc.es++(nb.es.drop f).take (i+1 - f):=by
   rw[Se,JG _ gZ,<- De,ao]
   congr 1
   rw[show i+1 - f=(i - f)+1 by omega,aJ,eD,show f+(i - f)=i by omega,ah gZ]
   rfl
  simp only at su;rw[e5] at su;exact su
 ·obtain rfl:i=N:=gZ
  rw[bC (by rw[aQ];omega)] at Cv;refine sY ?_;refine WC.block ?_;refine WC.loop (fun j:Nat=>[(0,iF b),(1,Iq f)])
   (fun j w'=>f <= j /\ j <= i /\ ib (fun x=>x≠b /\ x≠c) w w' /\ h_ kJ w' b (iL (lS { nb with es:=nb.es.take j } pb)) /\ h_ kJ w' c (iL (lS { nc with es:=nc.es++nb.es.drop f } pc))) (fun j=>j) i iW
   ⟨hf,af _,hk,by rw[bC gZ];exact F8,Cv⟩ ?_
  rintro j wq ⟨hfj,yW,Oz,aeW,ahV⟩;have ae8:=jN aeW (j:=1) gZ;have hlj:(nb.es.take j).length=j:=by rw[aE];omega
  rw[sV] at ae8;simp only[hlj] at ae8
  by_cases hjf:f<j
  ·obtain⟨j',rfl⟩:∃j',j=j'+1:=⟨j - 1,gZ⟩
   have lJ:((j'+1:Nat):Int) - 1=j':=gZ;refine iu ?_;refine WL.as 51 (Iq j') rfl (congrArg (Value.int .i64) lJ) ?_;refine i_ func128 (xZ (i:=j') aeW (by show j'<(nb.es.take (j'+1)).length;omega) (by show(nb.es.take (j'+1)).length <= 8;omega)) ?_;rintro w3 ⟨mM,su⟩
   refine gY ?_;refine WQ.again j' iW ⟨gZ,gZ,Oz.trans (mM.mono fun x hx=>hx.1),?_,ahV.ij mM Dp.symm⟩ (by show j'<j'+1;omega);simp only at su;rw[SY _ hlj,List.take_take,show min j' (j'+1)=j' by omega] at su;exact su
  ·obtain rfl:j=f:=gZ
   refine iu ?_;exact WQ.EE rfl ⟨rfl,Oz,aeW,ahV⟩
open Tre
abbrev kR:Nat:=165
theorem GL (lf:Bool): prog.built kJ [(0,.bool lf)]=some (iL (lS ⟨lf,[],none⟩ none)).toArray:=by cases lf<;>kernel_rfl
theorem Gc (nd:Nd) (pv x:Option Nat): iL (fun i=>if i=26 then lh x else lS nd pv i)=iL (lS { nd with next:=x } pv):=tE fun j hj=>by
 by_cases h:j=26
 ·subst h;rfl
 ·show(if j=26 then _ else _)=_
  rw[if_neg h];unfold lS;simp only[h,fm]
theorem L9 (nd:Nd) (pv x:Option Nat): iL (fun i=>if i=27 then lh x else lS nd pv i)=iL (lS nd x):=tE fun j hj=>by
 by_cases h:j=27
 ·subst h;rfl
 ·show(if j=27 then _ else _)=_
  rw[if_neg h];unfold lS
  by_cases h2:j=26
  ·subst h2;rfl
  ·simp only[h2,fm]
   repeat' split
   all_goals first|rfl|omega
theorem Mem.TG {st:St}(h:Mem w st) (hq:st q≠none) (x:Option Nat): Mem (w.setCell ⟨q,27,none⟩ (lh x)) st:=fun b nd e=>by
 obtain⟨h1,pv,h2⟩:=h b nd e
 by_cases hb:b=q
 ·subst hb
  refine⟨h1,x,?_⟩;have:=ud h2 27 (lh x)
  rwa [L9] at this
 ·exact⟨h1,pv,h2.ij ((ib.refl (fun y=>y≠q) w).setCell (fun hk=>hk rfl) _) hb⟩
theorem Mem.ah6 {st:St}{nb ng:Nd}{pg:Option Nat}(h:Mem w st) (hk:ib (fun x=>x<w.heap.size /\ x≠b) w w') (sh:nb.es.length <= 8) (Ou:ng.es.length <= 8) (hb:h_ kJ w' b (iL (lS nb pb))) (hg:h_ kJ w' g (iL (lS ng pg))):
  Mem w' (Tre.kv (Tre.kv st b nb) g ng):=fun x nd e=>by
 by_cases hx:x=g
 ·subst hx;rw[lz] at e;obtain rfl:=au e;exact⟨Ou,pg,hg⟩
 ·rw[jb hx] at e
  by_cases Cb:x=b
  ·subst Cb;rw[lz] at e;obtain rfl:=au e;exact⟨sh,pb,hb⟩
  ·rw[jb Cb] at e
   obtain⟨h1,pv,h2⟩:=h x nd e;exact⟨h1,pv,h2.ij hk ⟨h2.lt,Cb⟩⟩
def rY (st:St) (tb:Nat) (w:World):Nat -> Prop:=fun x=>x<w.heap.size /\ st x=none /\ x≠tb
def mL (root:Option Nat) (size nodes:Nat):List Value:=[lh root,Iq size,Iq nodes]
theorem Kt {st:St}{nd:Nd}{n:Nat}(hm:Mem w st) (hb:st b=some nd) (h8:nd.es.length=8) (wJ:∀q,nd.next=some q -> st q≠none) (LB:nd.leaf=false -> nd.next=none) (ht:h_ kR w tb (mL root size n)) (qT:st tb=none) (hn:n<4611686018427387904):
  Calls prog 92 #[iF tb,iF b] w fun e w'=>∃g,e=.returned (iF g) /\ w.heap.size <= g /\
   Mem w' (kv (kv st b ⟨nd.leaf,nd.es.take 4,if nd.leaf then some g else none⟩) g ⟨nd.leaf,nd.es.drop 4,nd.next⟩) /\ h_ kR w' tb (mL root size (n+1)) /\ ib (rY st tb w) w w':=by
 refine iY func92 ntmps92 ?_;have yj:b≠tb:=fun e=>by rw[e,qT] at hb;cases hb
 obtain⟨-,pb,vb⟩:=hm b nd hb;have BY:w.cell? ⟨b,0,none⟩=some (.bool nd.leaf):=jN vb gZ;refine iu ?_;refine iE (iL (lS ⟨nd.leaf,[],none⟩ none)) (GL _) ?_;refine iC fun g w1 I9=>?_;have hf:jl w g w1 kJ (iL (lS ⟨nd.leaf,[],none⟩ none)):=I9;clear I9 BY;have Qh:=hf.eq;have vb1:=vb.below hf.below vb.lt;have vt1:=ht.below hf.below ht.lt;have vg1:=hf.blk;have hbg:b≠g:=by have:=vb.lt;omega
 have YC:tb≠g:=by have:=ht.lt;omega
 have K1:ib (fun x=>x<w.heap.size /\ x≠b) w w1:=(ib.ic hf.below).mono fun x hx=>hx.1;have KT1:ib (fun x=>x<w.heap.size /\ st x=none) w w1:=(ib.ic hf.below).mono fun x hx=>hx.1;clear hf vb;refine gY ?_;refine i_ func127 (JI (f:=4) vb1 vg1 hbg gZ gZ (by show([]:List Tre.En).length+(nd.es.length - 4) <= 8;simp;omega)) ?_;rintro w2 ⟨lk,FQ,QR⟩
 simp only[aH] at QR;have vt2:=vt1.ij lk ⟨yj.symm,YC⟩;have K2:=K1.trans (lk.mono fun x hx=>⟨hx.2,gZ⟩);have KT2:ib (fun x=>x<w.heap.size /\ st x=none /\ x≠b) w w2:=(KT1.mono fun x hx=>⟨hx.1,hx.2.1⟩).trans (lk.mono fun x hx=>⟨hx.2.2,gZ⟩);clear lk vb1 vg1 vt1 K1 KT1;have qB:w2.cell? ⟨b,0,none⟩=some (.bool nd.leaf):=jN FQ gZ;have Cb:w2.cell? ⟨b,26,none⟩=some (lh nd.next):=jN FQ gZ
 -- the end: one more node
 have fin:∀ {wz:World},h_ kR wz tb (mL root size n) -> h_ kR (wz.setCell ⟨tb,2,none⟩ (Iq ((n:Int)+1))) tb (mL root size (n+1)):=fun h=>h.set 2 _;cases UR:nd.leaf with
 | false=>
  rw[UR] at qB FQ QR;have HP:=LB UR;have M2:Mem w2 (kv (kv st b ⟨false,nd.es.take 4,none⟩) g ⟨false,nd.es.drop 4,nd.next⟩):=by
   rw[HP] at FQ ⊢;exact hm.ah6 K2 (by simp;omega) (by simp;omega) FQ QR
  have rO:w2.cell? ⟨tb,2,none⟩=some (Iq n):=vt2.cell 2 (by simp[mL]);refine iu ?_;refine iD rO (vt2.free 2) ?_;have Yo:=fin vt2;have M3:Mem (w2.setCell ⟨tb,2,none⟩ (Iq ((n:Int)+1))) _:=M2.ij ((ib.refl (fun y=>y≠tb) w2).setCell (fun hk=>hk rfl) _) fun x hx e=>by
   subst e;rw[jb YC,jb yj.symm] at hx;exact hx qT
  have K3:ib (rY st tb w) w (w2.setCell ⟨tb,2,none⟩ (Iq ((n:Int)+1))):=(KT2.mono fun x hx=>⟨hx.1,hx.2.1,fun e=>by have:=hx.2.1;rw[e,hb] at this;cases this⟩).setCell (fun hk=>hk.2.2 rfl) _;generalize w2.setCell ⟨tb,2,none⟩ (Iq ((n:Int)+1))=w3 at Yo M3 K3 ⊢;refine gY ?_;refine g_ ⟨g,rfl,gZ,?_,Yo,K3⟩
  simpa using M3
 | true=>
  rw[UR] at qB FQ QR;refine iu ?_;refine iD (hv:=(BW _)) (jN QR gZ) (QR.free 26) ?_;have XT:=ud QR 26 (lh nd.next);rw[Gc] at XT;have s3:ib (fun y=>y≠g) w2 (w2.setCell ⟨g,26,none⟩ (lh nd.next)):=(ib.refl _ _).setCell (fun hk=>hk rfl) _;have vb3:=FQ.ij s3 hbg;have Yo:=vt2.ij s3 YC;have K3:=K2.trans (s3.mono fun x hx=>by omega);have KT3:=KT2.trans (s3.mono fun x hx=>by omega);generalize w2.setCell ⟨g,26,none⟩ (lh nd.next)=w3 at XT vb3 Yo K3 KT3 ⊢;clear s3 QR FQ vt2 K2 KT2 qB Cb;refine gY ?_;refine iD (v:=lh (some b)) (jN XT gZ) (XT.free 27) ?_;have vg4:=ud XT 27 (lh (some b));rw[L9] at vg4;have s4:ib (fun y=>y≠g) w3 (w3.setCell ⟨g,27,none⟩ (lh (some b))):=(ib.refl _ _).setCell (fun hk=>hk rfl) _;have Lm:=vb3.ij s4 hbg;have vt4:=Yo.ij s4 YC;have K4:=K3.trans (s4.mono fun x hx=>by omega);have KT4:=KT3.trans (s4.mono fun x hx=>by omega);generalize w3.setCell ⟨g,27,none⟩ (lh (some b))=w4 at vg4 Lm vt4 K4 KT4 ⊢;clear s4 XT vb3 Yo K3 KT3;refine gY ?_;refine iD (v:=lh (some g)) (jN Lm gZ) (Lm.free 26) ?_;have AJ:=ud Lm 26 (lh (some g));rw[Gc] at AJ;have s5:ib (fun y=>y≠b) w4 (w4.setCell ⟨b,26,none⟩ (lh (some g))):=(ib.refl _ _).setCell (fun hk=>hk rfl) _;have Ln:=vg4.ij s5 hbg.symm;have XD:=vt4.ij s5 yj.symm;have K5:=K4.trans (s5.mono fun x hx=>hx.2);have KT5:=KT4.trans (s5.mono fun x hx=>hx.2.2);generalize w4.setCell ⟨b,26,none⟩ (lh (some g))=w5 at Ln AJ XD K5 KT5 ⊢;clear s5 vg4 Lm vt4 K4 KT4;have M5:Mem w5 (kv (kv st b ⟨true,nd.es.take 4,some g⟩) g ⟨true,nd.es.drop 4,nd.next⟩):=hm.ah6 K5 (by simp;omega) (by simp;omega) AJ Ln;have Q1:w5.cell? ⟨g,26,none⟩=some (lh nd.next):=jN Ln gZ;have K5':ib (fun x=>x<w.heap.size /\ st x=none /\ x≠tb) w w5:=KT5.mono fun x hx=>⟨hx.1,hx.2.1,fun e=>by have:=hx.2.1;rw[e,hb] at this;cases this⟩;clear K5 KT5 AJ Ln;refine iu ?_;cases NY:nd.next with
  | none=>
   rw[NY] at M5;refine WL.as 37 (.pointer none) rfl rfl ?_;refine WL.qp rfl rfl rfl rfl rfl rfl (by kernel_rfl) ?_;have Sx:w5.cell? ⟨tb,2,none⟩=some (Iq n):=XD.cell 2 (by simp[mL]);refine iu ?_;refine iD Sx (XD.free 2) ?_;have Vt:=fin XD;have M6:Mem (w5.setCell ⟨tb,2,none⟩ (Iq ((n:Int)+1))) _:=M5.ij ((ib.refl (fun y=>y≠tb) w5).setCell (fun hk=>hk rfl) _) fun x hx e=>by
    subst e;rw[jb YC,jb yj.symm] at hx;exact hx qT
   have K6:ib (rY st tb w) w (w5.setCell ⟨tb,2,none⟩ (Iq ((n:Int)+1))):=K5'.setCell (fun hk=>hk.2.2 rfl) _;generalize w5.setCell ⟨tb,2,none⟩ (Iq ((n:Int)+1))=w6 at Vt M6 K6 ⊢;refine gY ?_;refine g_ ⟨g,rfl,gZ,?_,Vt,K6⟩
   simpa using M6
  | some q=>
   have hq:=wJ q NY;have hqt:q≠tb:=fun e=>hq (by rw[e];exact qT);have hq5:kv (kv st b ⟨true,nd.es.take 4,some g⟩) g ⟨true,nd.es.drop 4,nd.next⟩ q≠none:=by
    unfold kv;split
    ·simp
    ·split
     ·simp
     ·exact hq
   obtain⟨ndq,aeF⟩:=dP.1 hq5;obtain⟨-,pq,vq⟩:=M5 q ndq aeF;rw[NY] at Q1;refine WL.as 37 (iF q) rfl rfl ?_;refine WL.qp rfl rfl rfl rfl rfl rfl (by kernel_rfl) ?_;have av6:w5.cell? ⟨g,26,none⟩=some (iF q):=Q1;clear Q1;refine iu ?_;refine iD (v:=lh (some g)) (jN vq gZ) (vq.free 27) ?_;have M6:=M5.TG hq5 (some g);have s6:ib (fun y=>y≠q) w5 (w5.setCell ⟨q,27,none⟩ (lh (some g))):=(ib.refl _ _).setCell (fun hk=>hk rfl) _;have Vt:=XD.ij s6 hqt.symm;have K6:=K5'.trans (s6.mono fun x hx e=>hq (by rw[<- e];exact hx.2.1));generalize w5.setCell ⟨q,27,none⟩ (lh (some g))=w6 at M6 Vt K6 ⊢;clear s6 M5 XD K5' vq;have mO:w6.cell? ⟨tb,2,none⟩=some (Iq n):=Vt.cell 2 (by simp[mL]);refine iu ?_;refine iD mO (Vt.free 2) ?_;have vt7:=fin Vt;have M7:Mem (w6.setCell ⟨tb,2,none⟩ (Iq ((n:Int)+1))) _:=M6.ij ((ib.refl (fun y=>y≠tb) w6).setCell (fun hk=>hk rfl) _) fun x hx e=>by
    subst e;rw[jb YC,jb yj.symm] at hx;exact hx qT
   have K7:ib (rY st tb w) w (w6.setCell ⟨tb,2,none⟩ (Iq ((n:Int)+1))):=K6.setCell (fun hk=>hk.2.2 rfl) _;generalize w6.setCell ⟨tb,2,none⟩ (Iq ((n:Int)+1))=w7 at vt7 M7 K7 ⊢;refine gY ?_;refine g_ ⟨g,rfl,gZ,?_,vt7,K7⟩;rw[NY] at M7
   simpa using M7
open Tre
theorem Tm {st st':St}{T:Tr D}{l:List KV}(h:Tre.Good st D T l) (hc:∀b∈ja D T,st' b=st b): Tre.Good st' D T l :=
 ⟨h.rep.congr hc,h.sg.congr fun x hx=>hc _ (pQ D T x hx),h.nodup,h.el,h.uC,h.mn,h.root⟩
theorem WJ {st:St}{t:Tr d}(h:st (blk d t)=some ⟨d == 0,iv d t,nx⟩) (hg:g≠blk d t):
  Spl st (kv (kv st (blk d t) ⟨d == 0,(iv d t).take 4,if(d == 0)=true then some g else none⟩) g ⟨d == 0,(iv d t).drop 4,nx⟩) d t g:=by
 refine⟨⟨nx,h,?_,lz _ _ _⟩,fun x h1 h2=>by rw[jb h2,jb h1]⟩;rw[jb hg.symm,lz];cases d<;>rfl
theorem Gk {s:Tr d}(hc:iQ d s=8) (hm:Mn d s): jd d (ly d s g).1=jd d s:=by
 unfold jd fk;have h1:=sC (H_ d s g hc hm).1 (by rw[(yn d s g hc).1];omega);have h2:=Kl d s g;rw[(Kg d s g).1,<- h2,s_ h1]
theorem Zk {l r:List (Tr d)}{s:Tr d}(hc:iQ d s=8) (hm:Mn d s):
  ins ((l++s :: r).map (jd d)) (l.length+1) ⟨fk d (ly d s g).2,0,some g⟩=(l++(ly d s g).1 :: (ly d s g).2 :: r).map (jd d):=by
 unfold ins;simp only[aK,aM];rw[Gk hc hm];have e:jd d (ly d s g).2=⟨fk d (ly d s g).2,0,some g⟩:=by unfold jd;rw[(Kg d s g).2]
 rw[e];have hl:(l.map (jd d)).length=l.length:=av ..;rw[e_,dq];simp[hl,bC (show(l.map (jd d)).length <= l.length+1 by omega),bX (show(l.map (jd d)).length <= l.length+1 by omega)]
theorem Wr {s:Tr d}(hc:iQ d s=8) (hm:Mn d s): (((iv d s).drop 4).getD 0 jD).key=fk d (ly d s g).2:=by
 rw[<- (M8 d s g).2];exact yI (H_ d s g hc hm).2 (by rw[(yn d s g hc).2];omega) _
theorem Pw {k:Ky}{n:Int}{l:List KV}(h:qc l): (kT k n l).length=if(getL k l).isSome then l.length else l.length+1:=by
 have hp:=Ei k (l.map Prod.fst);rw[av] at hp;rw[NJ h,An h]
 by_cases c:(l.map Prod.fst)[plc k (l.map Prod.fst)]? = some k
 ·have iS:plc k (l.map Prod.fst)<l.length:=by
   rcases aO (plc k (l.map Prod.fst)) l.length with h|h
   ·exact h
   ·rw[aG (by simpa using h)] at c;cases c
  rw[if_pos c,if_pos c,ah iS];simp only[aa,aE,aj,aQ,dD,Option.isSome_some,if_true];omega
 ·rw[if_neg c,if_neg c]
  simp only[aa,aE,aj,aQ,Option.isSome_none,fD,fm];omega
theorem ad6 (nd:Nd) (pv:Option Nat) (hp:p<nd.es.length) (h8:nd.es.length <= 8) (n:Int):
  iL (fun j=>if j=10+p then Value.int .i64 n else lS nd pv j)=iL (lS { nd with es:=nd.es.set p ⟨(nd.es.getD p jD).key,n,(nd.es.getD p jD).m7⟩} pv):=tE fun j hj=>by
 have oy:∀q,(nd.es.set p ⟨(nd.es.getD p jD).key,n,(nd.es.getD p jD).m7⟩).getD q jD=if q=p then⟨(nd.es.getD p jD).key,n,(nd.es.getD p jD).m7⟩ else nd.es.getD q jD:=fun q=>by
  simp only[ag,fP]
  by_cases e:p=q
  ·subst e;simp[hp]
  ·rw[if_neg e,if_neg (fun h=>e h.symm)]
 show(if j=10+p then Value.int .i64 n else lS nd pv j)=_
 unfold lS;simp only[oy,aC]
 by_cases j0:j=0
 ·subst j0;rw[if_neg gZ];rfl
 by_cases j1:j=1
 ·subst j1;rw[if_neg gZ];rfl
 by_cases j2:j<10
 ·rw[if_neg gZ,if_neg j0,if_neg j1,if_pos j2,if_neg j0,if_neg j1,if_pos j2]
  split
  ·rename_i e;rw[e]
  ·rfl
 by_cases j3:j<18
 ·rw[if_neg j0,if_neg j1,if_neg j2,if_pos j3,if_neg j0,if_neg j1,if_neg j2,if_pos j3]
  by_cases e:j=10+p
  ·rw[if_pos e,if_pos gZ]
  ·rw[if_neg e,if_neg gZ]
 ·rw[if_neg gZ]
  rw[if_neg j0,if_neg j1,if_neg j2,if_neg j3,if_neg j0,if_neg j1,if_neg j2,if_neg j3]
  by_cases j4:j<26
  ·rw[if_pos j4,if_pos j4]
   split
   ·rename_i e;rw[e]
   ·rfl
  ·rw[if_neg j4,if_neg j4]
theorem JP (nd:Nd) (pv:Option Nat) (hp:p<nd.es.length) (h8:nd.es.length <= 8) (k:ByteArray):
  iL (fun j=>if j=2+p then Value.string k else lS nd pv j)=iL (lS { nd with es:=nd.es.set p ⟨k,(nd.es.getD p jD).num,(nd.es.getD p jD).m7⟩} pv):=tE fun j hj=>by
 have oy:∀q,(nd.es.set p ⟨k,(nd.es.getD p jD).num,(nd.es.getD p jD).m7⟩).getD q jD=if q=p then⟨k,(nd.es.getD p jD).num,(nd.es.getD p jD).m7⟩ else nd.es.getD q jD:=fun q=>by
  simp only[ag,fP]
  by_cases e:p=q
  ·subst e;simp[hp]
  ·rw[if_neg e,if_neg (fun h=>e h.symm)]
 show(if j=2+p then Value.string k else lS nd pv j)=_
 unfold lS;simp only[oy,aC]
 by_cases j0:j=0
 ·subst j0;rw[if_neg gZ];rfl
 by_cases j1:j=1
 ·subst j1;rw[if_neg gZ];rfl
 by_cases j2:j<10
 ·rw[if_neg j0,if_neg j1,if_pos j2,if_neg j0,if_neg j1,if_pos j2]
  by_cases e:j=2+p
  ·rw[if_pos e,if_pos gZ]
  ·rw[if_neg e,if_neg gZ]
 rw[if_neg gZ,if_neg j0,if_neg j1,if_neg j2,if_neg j0,if_neg j1,if_neg j2]
 by_cases j3:j<18
 ·rw[if_pos j3,if_pos j3]
  split
  ·rename_i e;rw[e]
  ·rfl
 ·rw[if_neg j3,if_neg j3]
  by_cases j4:j<26
  ·rw[if_pos j4,if_pos j4]
   split
   ·rename_i e;rw[e]
   ·rfl
  ·rw[if_neg j4,if_neg j4]
def RA (oK:St) (w0:World) (st':St):Prop:=∀x,st' x≠none -> oK x≠none \/ w0.heap.size <= x
structure PS (w0:World) (oK:St) (tb:Nat) (w':World) (st':St):Prop where
 mem:Mem w' st'
 no:st' tb=none
 ij:ib (rY oK tb w0) w0 w'
 new:RA oK w0 st'
theorem PS.out {oK st':St}(h:PS w0 oK tb w' st') {x:Nat}(hx:rY oK tb w0 x): rY st' tb w' x :=
 ⟨ak hx.1 h.ij.size,by
  cases e:st' x with
  | none=>rfl
  | some nd=>exact(h.new x (by rw[e];simp)).elim (fun h1=>absurd hx.2.1 h1) (fun h1=>absurd hx.1 gZ),hx.2.2⟩
theorem PS.start {st:St}(hm:Mem w st) (ht:st tb=none): PS w st tb w st:=⟨hm,ht,ib.refl _ _,fun _ h=>.inl h⟩
theorem PS.step {oK st' uZ:St}(h:PS w0 oK tb w' st') (hm:Mem w2 uZ) (ht:uZ tb=none) (hk:ib (rY st' tb w') w' w2) (hn:RA st' w' uZ): PS w0 oK tb w2 uZ :=
 ⟨hm,ht,h.ij.trans (hk.mono fun _ hx=>h.out hx),fun x hx=>(hn x hx).elim (h.new x) fun h1=>.inr (aU h.ij.size h1)⟩
theorem PS.node {oK st':St}{nd:Nd}{pv:Option Nat}(h:PS w0 oK tb w' st') (hb:st' b≠none) (hk:ib (fun x=>x≠b) w' w2) (hl:nd.es.length <= 8) (hv:h_ kJ w2 b (iL (lS nd pv))): PS w0 oK tb w2 (kv st' b nd):=by
 have kD:tb≠b:=fun e=>hb (by rw[<- e];exact h.no);refine h.step (h.mem.kv hk hl hv) (by rw[jb kD];exact h.no) (hk.mono fun x hx e=>hb (by rw[<- e];exact hx.2.1)) fun x hx=>?_
 by_cases e:x=b
 ·rw[e];exact .inl hb
 ·rw[jb e] at hx;exact .inl hx
theorem PS.jh {oK st':St}(h:PS w0 oK tb w' st') (j:Nat) (v:Value): PS w0 oK tb (w'.setCell ⟨tb,j,none⟩ v) st' :=
 h.step (h.mem.ij ((ib.refl (fun y=>y≠tb) w').setCell (fun hk=>hk rfl) _) fun x hx e=>hx (by rw[e];exact h.no)) h.no (ib.setCell (ib.refl _ _) (fun hk=>hk.2.2 rfl) _) fun x hx=>.inl hx
theorem PS.fresh {oK st':St}{nd:Nd}{pv:Option Nat}(h:PS w0 oK tb w' st') (qT:tb<w'.heap.size) (hf:jl w' g w2 kJ (iL (lS nd pv))) (hl:nd.es.length <= 8): PS w0 oK tb w2 (kv st' g nd) /\ st' g=none:=by
 have hg:=hf.eq;have Ck:st' g=none:=by
  cases e:st' g with
  | none=>rfl
  | some nd2=>have:=h.mem.lt (b:=g) (by rw[e];simp);omega
 refine⟨h.step (fun x n e=>?_) (by rw[jb gZ];exact h.no) ((ib.ic hf.below).mono fun x hx=>hx.1) fun x hx=>?_,Ck⟩
 ·by_cases hx:x=g
  ·subst hx;rw[lz] at e;obtain rfl:=au e;exact⟨hl,pv,hf.blk⟩
  ·rw[jb hx] at e;exact h.mem.below hf.below x n e
 ·by_cases e:x=g
  ·right;omega
  ·rw[jb e] at hx;exact .inl hx
def TOk (st:St) (root:Option Nat) (n:Nat) (l:List KV):Prop:=(root=none /\ l=[] /\ n=0) \/ ∃D T,root=some (blk D T) /\ Tre.Good st D T l /\ n=(ja D T).length /\ 1 <= iQ D T
structure uc (w:World) (st:St) (tb:Nat) (l:List KV):Prop where
 mem:Mem w st
 no:st tb=none
 ex:∃root n,h_ kR w tb (mL root l.length n) /\ TOk st root n l
theorem TOk.uC {st:St}{n:Nat}{l:List KV}(h:TOk st root n l): qc l:=by
 rcases h with⟨-,rfl,-⟩|⟨D,T,-,h,-⟩
 ·exact List.Pairwise.nil
 ·exact h.uC
theorem uc.ij {st:St}{l:List KV}(h:uc w st tb l) {K:Nat -> Prop}(hk:ib K w w') (hK:∀b,st b≠none -> K b) (ht:K tb): uc w' st tb l:=by
 obtain⟨root,n,h1,h2⟩:=h.ex;exact⟨h.mem.ij hk hK,h.no,root,n,h1.ij hk ht,h2⟩
theorem uc.below {st:St}{l:List KV}(h:uc w st tb l) (hk:iB w w'): uc w' st tb l:=by
 obtain⟨root,n,h1,-⟩:=h.ex;exact h.ij (ib.ic hk) (fun b hb=>h.mem.lt hb) h1.lt
open Tre
theorem Ti (d:Nat) (s:Tr d) (g:Nat): (ja d (ly d s g).1).length+(ja d (ly d s g).2).length=(ja d s).length+1:=by
 have:=(uu d s g).length_eq;simp only[aa,aj] at this;exact this
theorem CD (c:Ctx D d) (t:Tr d): (ja D (plug c t)).length=(cb c).length+(ja d t).length:=by
 rw[(om c t).length_eq,aa]
structure PX where
 D:Nat
 d:Nat
 c:Ctx D d
 t:Tr d
structure TX where
 D:Nat
 T:Tr D
structure KX (d:Nat) where
 l:List (Tr d)
 s:Tr d
 r:List (Tr d)
structure PW (w:World) (st:St) (tb:Nat) (k:Ky) (l:List KV) (w':World) (st':St) {D d:Nat}(c:Ctx D d) (t:Tr d):Prop where
 ps:PS w st tb w' st'
 put:oJ st' k c t l
 jh:h_ kR w' tb (mL (some (blk D (plug c t))) l.length (ja D (plug c t)).length)
theorem PW.YP {st:St}{k:Ky}{l:List KV}{st':St}{c:Ctx D d}{t:Tr d}(h:PW w st tb k l w' st' c t): (ja D (plug c t)).length <= l.length+1:=by
 have:=(Tre.YP h.put.mn h.put.root).1
 rwa [h.put.el] at this
theorem Qf: prog.built kJ []=some (iL (lS ⟨false,[],none⟩ none)).toArray:=by kernel_rfl
theorem vV {nd:Nd}{pv:Option Nat}(h:h_ kJ w b (iL (lS nd pv))) {n:Nat}(hn:nd.es.length=n): w.cell? ⟨b,1,none⟩=some (Iq n):=by rw[jN h gZ,sV,hn]
theorem Bl {nd:Nd}{pv:Option Nat}(h:h_ kJ w b (iL (lS nd pv))) (hi:i<8): w.cell? ⟨b,2+i,none⟩=some (.string (nd.es.getD i jD).key):=by rw[jN h gZ,t_ _ _ hi]
theorem Tg {nd:Nd}{pv:Option Nat}(h:h_ kJ w b (iL (lS nd pv))) (hi:i<8): w.cell? ⟨b,10+i,none⟩=some (Iq (nd.es.getD i jD).num):=by rw[jN h gZ,yh _ _ hi]
theorem Ex {nd:Nd}{pv:Option Nat}(h:h_ kJ w b (iL (lS nd pv))) (hi:i<8) (hq:(nd.es.getD i jD).m7=some q): w.cell? ⟨b,18+i,none⟩=some (iF q):=by rw[jN h gZ,ui _ _ hi,hq];rfl
theorem x_ {n:Nat}(h:h_ kR w tb (mL (some q) size n)): w.cell? ⟨tb,0,none⟩=some (iF q) /\ w.cell? ⟨tb,1,none⟩=some (Iq size) /\ w.cell? ⟨tb,2,none⟩=some (Iq n) :=
 ⟨h.cell 0 (by simp[mL]),h.cell 1 (by simp[mL]),h.cell 2 (by simp[mL])⟩
theorem XH {st:St}{l:List KV}(h:uc w st tb l) (k:Ky) (n:Int) (hl:l.length<1000000000):
  Calls prog 61 #[iF tb,.string k,Iq n] w fun e w'=>∃st',e=.returned (.tuple #[Iq ((getL k l).getD 0),.bool (getL k l).isSome]) /\ uc w' st' tb (kT k n l) /\ ib (rY st tb w) w w' /\ RA st w st':=by
 refine iY func61 ntmps61 ?_;obtain⟨hm,qT,root,nn,ht,kK⟩:=h;have lU:=kK.uC;have h0:w.cell? ⟨tb,0,none⟩=some (lh root):=ht.cell 0 (by simp[mL]);refine gY ?_;refine jc ?_;refine iu ?_;refine WL.as 20 (.pointer (root.map fun b=>⟨b,0,none⟩)) rfl (by cases root<;>rfl) ?_;refine jc ?_;refine WL.nil ?_;refine WQ.then rfl ?_
 -- there is a root
 refine WC.sa (fun x:TX=>[(0,iF tb),(1,.string k),(2,Iq n)]) (fun x w'=>∃st',PS w st tb w' st' /\ Tre.Good st' x.D x.T l /\ h_ kR w' tb (mL (some (blk x.D x.T)) l.length (ja x.D x.T).length)) rfl ?_ ?_
 ·have mY:=PS.start hm qT
  rcases kK with⟨rfl,rfl,rfl⟩|⟨D,T,rfl,hg,rfl,tC⟩
  ·refine gY ?_
   refine iE (iL (lS ⟨true,[],none⟩ none)) (GL true) ?_;refine iC fun g w1 I9=>?_;have hf:jl w g w1 kJ (iL (lS ⟨true,[],none⟩ none)):=I9;clear I9;obtain⟨RJ,-⟩:=mY.fresh ht.lt hf iz;have Gs:=ht.below hf.below ht.lt;clear hf;refine gY ?_;refine iD (Gs.cell 0 (by simp[mL])) (Gs.free 0) ?_;have Hu:h_ kR (w1.setCell ⟨tb,0,none⟩ (iF g)) tb (mL (some g) 0 0):=Gs.set 0 _;have zT:=RJ.jh 0 (iF g);generalize w1.setCell ⟨tb,0,none⟩ (iF g)=w2 at Hu zT ⊢;obtain⟨-,-,h22⟩:=x_ Hu;refine iu ?_;refine iD h22 (Hu.free 2) ?_;have ht3:h_ kR (w2.setCell ⟨tb,2,none⟩ (Iq ((0:Nat)+1))) tb (mL (some g) 0 1):=Hu.set 2 _;have uO:=zT.jh 2 (Iq ((0:Nat)+1));generalize w2.setCell ⟨tb,2,none⟩ (Iq ((0:Nat)+1))=w3 at ht3 uO ⊢;refine gY ?_;exact WQ.meet ⟨0,qF g []⟩ iW ⟨_,uO,⟨trivial,⟨lz _ _ _,trivial⟩,by simp[ja],rfl,List.Pairwise.nil,aw _,.inl rfl⟩,ht3⟩
  ·refine gY ?_
   exact WQ.meet ⟨D,T⟩ iW ⟨st,mY,hg,ht⟩
 clear h0 ht kK hm;rintro⟨D,T⟩ w1 ⟨xr,mY,hg,hh⟩;simp only at hg hh;obtain⟨yE,B0,h12⟩:=x_ hh;obtain⟨nxr,Ba,uW,Ca⟩:=hg.af6;obtain⟨Cn,pvr,vr⟩:=mY.mem _ _ Ba;obtain⟨C,hC⟩:∃C,iQ D T=C:=⟨_,rfl⟩;have mg:(iv D T).length=C:=by rw[vt,hC]
 have mo:=vV vr mg;have YF:C <= 8:=by rw[<- hC];exact hg.mn.le
 have MW:=(Tre.YP hg.mn hg.root).1;rw[hg.el] at MW;have yj:blk D T≠tb:=fun e=>by rw[e,mY.no] at Ba;cases Ba
 refine iu ?_
 -- the root has room
 refine WC.sa (fun x:TX=>[(0,iF tb),(1,.string k),(2,Iq n)]) (fun x w'=>∃st',PW w st tb k l w' st' (.top:Ctx x.D x.D) x.T /\ iQ x.D x.T<8) rfl ?_ ?_
 ·by_cases h8:C=8
  ·refine WC.qg rfl gZ ?_
   refine gY ?_;refine iE (iL (lS ⟨false,[],none⟩ none)) Qf ?_;refine iC fun gx w2 I9=>?_;have hf:jl w1 gx w2 kJ (iL (lS ⟨false,[],none⟩ none)):=I9;clear I9;obtain⟨zT,ao9⟩:=mY.fresh hh.lt hf iz;have JK:=hh.below hf.below hh.lt;have vr2:=vr.below hf.below vr.lt;have vx2:=hf.blk;have DU:blk D T≠gx:=by have:=vr.lt;have:=hf.eq;omega
   have rT:tb≠gx:=by have:=hh.lt;have:=hf.eq;omega
   clear hf yE B0 h12 mo vr;have K9:((iv D T).getD 0 jD).key=fk D T:=yI hg.mn gZ _;have acQ:=Bl vr2 (i:=0) gZ;simp only[K9] at acQ;have ZE:=(x_ JK).1;refine gY ?_;refine WC.drawn 13 (fun wx=>wx.heap=w2.heap) fun w3 hd=>?_;have hS:=hd.heap;have uO:=zT.step (zT.mem.below (hd.below _)) zT.no (ib.nE hd _) fun x hx=>.inl hx;have A5:=JK.below (hd.below _) JK.lt;have vx3:=vx2.below (hd.below _) vx2.lt;clear hd;refine iq [0,1,2,3] hS ?_;refine ik 4 [5,6,7,8,13] (fun wx hx=>(jJ hx _).trans ZE) hS ?_;refine iq [5,6] hS ?_;refine jr 7 0 2 (.inr hS) ?_;refine ik 8 [13] (fun wx hx=>(jJ hx _).trans acQ) hS ?_;refine iq [9,10,11] hS ?_;refine ik 12 [13] (fun wx hx=>(jJ hx _).trans ZE) hS ?_;refine iI 13 ?_;refine i_ gI (r8 (i:=0) (n:=0) (m7:=some (blk D T)) vx3 (aw _) iz) ?_;rintro w4 ⟨m8,vx4⟩
   have oS:=uO.node (b:=gx) (by rw[lz];simp) m8 (by simp[ins]) vx4;have yc:=A5.ij m8 rT;rw[S_] at oS;clear m8 zT uO vx2 vx3 JK A5 vr2 hS ZE acQ;refine iO ?_;refine im ?_
   -- the root is cut in two
   obtain⟨Ko,Mb⟩:∃Ko,kv xr gx ⟨false,ins [] 0 ⟨fk D T,0,some (blk D T)⟩,none⟩=Ko:=⟨_,rfl⟩;have Gh:PS w st tb w4 Ko:=by rw[<- Mb];exact oS
   have wD:gx ∉ ja D T:=fun hx=>hg.dom gx hx ao9;have ot:Tre.Good Ko D T l:=Tm hg fun x hx=>by rw[<- Mb];exact jb (fun e:x=gx=>wD (by rw[<- e];exact hx))
   have Pb:Ko (blk D T)=some ⟨D == 0,iv D T,nxr⟩:=by rw[<- Mb,jb DU];exact Ba
   have h40:=(x_ yc).1;refine iu ?_;refine il func92 (Kt Gh.mem Pb (by show(iv D T).length=8;omega) (fun q hq=>by
    have:=Ca q hq;rw[<- Mb];unfold kv
    split
    ·simp
    ·exact this) (fun LB=>uW (fun e=>by subst e;cases LB)) yc Gh.no gZ) ?_
   rintro _ w5 ⟨g,rfl,Lj,Fo,uq,mz⟩;refine⟨_,rfl,?_⟩;simp only at Fo;have Ck:Ko g=none:=by
    cases e:Ko g with
    | none=>rfl
    | some nd2=>have:=Gh.mem.lt (b:=g) (by rw[e];simp);omega
   have HN:g≠blk D T:=fun e=>by rw[e,Pb] at Ck;cases Ck
   have hgx:g≠gx:=fun e=>by rw[e,<- Mb,lz] at Ck;cases Ck
   have Y1:g≠tb:=by have:=yc.lt;omega
   have Qc:=WJ Pb HN;obtain⟨AO,tp⟩:∃AO,kv (kv Ko (blk D T) ⟨D == 0,(iv D T).take 4,if(D == 0)=true then some g else none⟩) g ⟨D == 0,(iv D T).drop 4,nxr⟩=AO:=⟨_,rfl⟩;rw[tp] at Fo Qc;have m9:=Gh.step Fo (by rw[<- tp,jb Y1.symm,jb yj.symm];exact Gh.no) mz fun x hx=>by
    rw[<- tp] at hx
    by_cases e:x=g
    ·right;omega
    ·rw[jb e] at hx
     by_cases e2:x=blk D T
     ·left;rw[e2,Pb];simp
     ·rw[jb e2] at hx;exact .inl hx
   have hx5:AO gx=some ⟨false,ins [] 0 ⟨fk D T,0,some (blk D T)⟩,none⟩:=by rw[<- tp,jb hgx.symm,jb DU.symm,<- Mb,lz]
   have Bg:AO g=some ⟨D == 0,(iv D T).drop 4,nxr⟩:=by rw[<- tp,lz]
   obtain⟨-,pv5,vx5⟩:=m9.mem _ _ hx5;obtain⟨-,pg5,Ln⟩:=m9.mem _ _ Bg;have MZ:=Bl Ln (i:=0) gZ;simp only[Wr (d:=D) (g:=g) (s:=T) gZ hg.mn] at MZ;clear mz Fo oS Gh yc vx4 h40;refine gY ?_;refine j_ 0 2 ?_;refine ia MZ ?_;refine gY ?_;refine i_ gI (r8 (i:=1) (n:=0) (m7:=some g) vx5 (by simp[ins]) (by simp[ins])) ?_;rintro w6 ⟨m5,vx6⟩
   have rq:=m9.node (b:=gx) (by rw[hx5];simp) m5 (by simp[ins]) vx6;have yi:=uq.ij m5 rT;clear m5 m9 uq vx5 Ln;refine gY ?_;refine iD (yi.cell 0 (by simp[mL])) (yi.free 0) ?_;have Ha:h_ kR (w6.setCell ⟨tb,0,none⟩ (iF gx)) tb (mL (some gx) l.length ((ja D T).length+1)):=yi.set 0 _;have CH:=rq.jh 0 (iF gx);generalize w6.setCell ⟨tb,0,none⟩ (iF gx)=w7 at Ha CH ⊢;obtain⟨-,-,h72⟩:=x_ Ha;refine iu ?_;refine iD h72 (Ha.free 2) ?_;have hh8:h_ kR (w7.setCell ⟨tb,2,none⟩ (Iq (((ja D T).length+1:Nat)+1))) tb (mL (some gx) l.length ((ja D T).length+1+1)):=Ha.set 2 _;have SJ:=CH.jh 2 (Iq (((ja D T).length+1:Nat)+1));generalize w7.setCell ⟨tb,2,none⟩ (Iq (((ja D T).length+1:Nat)+1))=w8 at hh8 SJ ⊢;refine gY ?_;have vC:oJ (kv AO gx { (⟨false,ins [] 0 ⟨fk D T,0,some (blk D T)⟩,none⟩:Nd) with es:=ins (ins [] 0 ⟨fk D T,0,some (blk D T)⟩) 1 ⟨fk D (ly D T g).2,0,some g⟩}) k .top (jY gx [(ly D T g).1,(ly D T g).2]) l:=by
    refine ot.grow (g:=g) gZ Ck wD hgx.symm Qc ?_ fun x hx=>jb hx;rw[lz];have e1:=Gk (g:=g) (by omega:iQ D T=8) hg.mn;have e2:jd D (ly D T g).2=⟨fk D (ly D T g).2,0,some g⟩:=by unfold jd;rw[(Kg D T g).2]
    rw[e1,e2]
    rfl
   have xU:(ja (D+1) (plug .top (jY gx [(ly D T g).1,(ly D T g).2]))).length=(ja D T).length+1+1:=by
    rw[nv,kF];have:=Ti D T g;simp only[an,cW,aS,aj,aa];omega
   refine WQ.meet ⟨D+1,jY gx [(ly D T g).1,(ly D T g).2]⟩ iW ⟨_,⟨SJ,vC,?_⟩,by show 2<8;omega⟩;simp only
   rw[xU,nv];exact hh8
  ·refine WC.pE rfl gZ ?_
   refine gY ?_;refine WQ.meet ⟨D,T⟩ iW ⟨xr,⟨mY,oJ.start hg,?_⟩,by show iQ D T<8;omega⟩;simp only[nv];exact hh
 clear mo yE B0 h12 vr Ba uW Ca yj mg MW YF hC mY hg hh Cn;rintro⟨D,T⟩ w2 ⟨uZ,mE,Dj⟩;simp only at mE Dj;have ZE:=(x_ mE.jh).1;rw[nv] at ZE;refine iu ?_;refine WC.loop (fun x:PX=>[(0,iF tb),(1,.string k),(2,Iq n),(10,.pointer (some ⟨blk x.d x.t,0,none⟩))]) (fun x w'=>∃st',PW w st tb k l w' st' x.c x.t /\ iQ x.d x.t<8) (fun x=>x.d) ⟨D,D,.top,T⟩ iW ⟨uZ,mE,Dj⟩ ?_;clear ZE mE Dj;rintro⟨D,d,c,t⟩ wr ⟨st',mE,Dj⟩;simp only at mE Dj;cases d with
 | zero=>
  obtain⟨b,es⟩:=t;have mE:PW w st tb k l wr st' c (qF b es):=mE;have Dj:es.length<8:=Dj;change WC _ _ _ [(0,iF tb),(1,.string k),(2,Iq n),(10,iF b)] wr;obtain⟨AF,wO⟩:=mE.put.aiy;have hb:st' b=some ⟨true,ke es,Tre.hd [] AF⟩:=wO.1;obtain⟨-,pb,vb⟩:=mE.ps.mem _ _ hb;have yj:tb≠b:=fun e=>by rw[<- e,mE.ps.no] at hb;cases hb
  have l0:wr.cell? ⟨b,0,none⟩=some (.bool true):=jN vb gZ;obtain⟨qM,YB⟩:=mE.put.get;have hlen:=Pw (n:=n) lU (k:=k);have mN:=Ei k (es.map Prod.fst);rw[av] at mN;have j6:=An (k:=k) YB;have U8:=NJ (n:=n) (k:=k) YB;refine iu ?_;refine i_ func94 (IA (key:=k) vb (by show(ke es).length <= 8;rw[lZ];omega)) ?_;rintro w3 rfl
  simp only[Jh];generalize plc k (es.map Prod.fst)=p at mN j6 U8 ⊢;have J7:=vV vb (lZ es)
  -- what is left to say
  have fin:∀ {wz:World}{stz:St}{sz:Nat},PS w st tb wz stz -> (∀nx,st' b=some ⟨true,ke es,nx⟩ -> stz b=some ⟨true,ke (kT k n es),nx⟩) -> (∀x,x≠b -> stz x=st' x) -> h_ kR wz tb (mL (some (blk D (plug c (qF b es)))) sz (ja D (plug c (qF b es))).length) -> sz=(kT k n l).length ->
    uc wz stz tb (kT k n l) /\ ib (rY st tb w) w wz /\ RA st w stz:=fun {wz stz sz} hp h1 h2 h3 h4=>by
   obtain⟨sT,sh,Lt⟩:=mE.put.fin (st':=stz) (n:=n) Dj h1 h2;refine⟨⟨hp.mem,hp.no,_,_,?_,.inr ⟨D,_,rfl,sT,sh.symm,Lt⟩⟩,hp.ij,hp.new⟩;rw[FV c (t:=qF b es) (t':=qF b (kT k n es)) rfl,<- h4];exact h3
  by_cases DA:p<es.length
  ·refine iu ?_
   refine j_ p (2+p) ?_;refine WL.on rfl rfl ?_;have hkp:=Bl vb (i:=p) gZ;rw[rU es DA] at hkp;refine ia hkp ?_
   by_cases hk:es[p].1=k
   ·-- it is there
    have tB:(es.map Prod.fst)[p]? = some k:=by simp[DA,hk]
    rw[if_pos tB,ah DA] at j6;rw[if_pos tB] at U8;have Et:=Tg vb (i:=p) gZ;rw[rU es DA] at Et;simp only at Et;refine gY ?_;refine WC.as 163 (.bool true) rfl (by rw[hk];exact congrArg Value.bool (beq_self_eq_true _)) ?_;refine gY ?_;refine j_ p (10+p) ?_;refine ia Et ?_;refine gY ?_;refine j_ p (10+p) ?_;refine iD Et (vb.free _) ?_;have hv:=ud vb (10+p) (Iq n);rw[ad6 _ _ (by show p<(ke es).length;rw[lZ];exact DA) (by show(ke es).length <= 8;rw[lZ];omega),rU es DA] at hv;have yX:ib (fun x=>x≠b) w3 (w3.setCell ⟨b,10+p,none⟩ (Iq n)):=(ib.refl _ _).setCell (fun hk=>hk rfl) _;have qH:(ke es).set p ⟨es[p].1,n,none⟩=ke (kT k n es):=by
     rw[U8];unfold ke;rw[aK,aM,cO,cU,c_,if_pos (by simpa using DA),hk]
    simp only[qH] at hv;have mY:=mE.ps.node (b:=b) (by rw[hb];simp) yX (by show(ke (kT k n es)).length <= 8;rw[lZ];have:=(vo (k:=k) (n:=n) es).1;omega) hv;have hh:=mE.jh.ij yX yj;generalize w3.setCell ⟨b,10+p,none⟩ (Iq n)=w4 at mY hh ⊢;refine gY ?_;have hf:=fin mY (fun nx hx=>by rw[hb] at hx;injection hx with hx;injection hx with _ _ e;subst e;exact lz _ _ _) (fun x hx=>jb hx) hh (by rw[hlen,qM,j6];rfl);refine WQ.nC rfl rfl rfl ⟨_,?_,hf⟩;rw[qM,j6];rfl
   ·-- it is not
    have tB:¬(es.map Prod.fst)[p]? = some k:=by simp[DA,hk]
    rw[if_neg tB] at j6 U8;refine gY ?_;refine WC.as 163 (.bool false) rfl (congrArg Value.bool (beq_eq_false_iff_ne.2 fun e=>hk (JN e))) ?_;refine gY ?_;refine i_ gI (r8 (i:=p) (n:=n) (key:=k) (m7:=none) vb (by show p <= (ke es).length;rw[lZ];omega) (by show(ke es).length<8;rw[lZ];exact Dj)) ?_;rintro w4 ⟨yX,hv⟩
    have qH:ins (ke es) p ⟨k,n,none⟩=ke (kT k n es):=by
     rw[U8];unfold ke ins;rw[aK,aM,cO,cU]
    simp only[qH] at hv;have mY:=mE.ps.node (b:=b) (by rw[hb];simp) yX (by show(ke (kT k n es)).length <= 8;rw[lZ];have:=(vo (k:=k) (n:=n) es).1;omega) hv;have hh:=mE.jh.ij yX yj;obtain⟨-,BZ,-⟩:=x_ hh;refine iu ?_;refine iD BZ (hh.free 1) ?_;have uq:h_ kR (w4.setCell ⟨tb,1,none⟩ (Iq ((l.length:Int)+1))) tb (mL _ (l.length+1) _):=hh.set 1 _;have m9:=mY.jh 1 (Iq ((l.length:Int)+1));generalize w4.setCell ⟨tb,1,none⟩ (Iq ((l.length:Int)+1))=w5 at m9 uq ⊢;refine gY ?_;have hf:=fin m9 (fun nx hx=>by rw[hb] at hx;injection hx with hx;injection hx with _ _ e;subst e;exact lz _ _ _) (fun x hx=>jb hx) uq (by rw[hlen,qM,j6];rfl);refine WQ.nC rfl rfl rfl ⟨_,?_,hf⟩;rw[qM,j6];rfl
  ·have tB:¬(es.map Prod.fst)[p]? = some k:=by rw[aG (by simp;omega)];simp
   rw[if_neg tB] at j6 U8;refine iu ?_;refine i_ gI (r8 (i:=p) (n:=n) (key:=k) (m7:=none) vb (by show p <= (ke es).length;rw[lZ];omega) (by show(ke es).length<8;rw[lZ];exact Dj)) ?_;rintro w4 ⟨yX,hv⟩
   have qH:ins (ke es) p ⟨k,n,none⟩=ke (kT k n es):=by
    rw[U8];unfold ke ins;rw[aK,aM,cO,cU]
   simp only[qH] at hv;have mY:=mE.ps.node (b:=b) (by rw[hb];simp) yX (by show(ke (kT k n es)).length <= 8;rw[lZ];have:=(vo (k:=k) (n:=n) es).1;omega) hv;have hh:=mE.jh.ij yX yj;obtain⟨-,BZ,-⟩:=x_ hh;refine iu ?_;refine iD BZ (hh.free 1) ?_;have uq:h_ kR (w4.setCell ⟨tb,1,none⟩ (Iq ((l.length:Int)+1))) tb (mL _ (l.length+1) _):=hh.set 1 _;have m9:=mY.jh 1 (Iq ((l.length:Int)+1));generalize w4.setCell ⟨tb,1,none⟩ (Iq ((l.length:Int)+1))=w5 at m9 uq ⊢;refine gY ?_;have hf:=fin m9 (fun nx hx=>by rw[hb] at hx;injection hx with hx;injection hx with _ _ e;subst e;exact lz _ _ _) (fun x hx=>jb hx) uq (by rw[hlen,qM,j6];rfl);refine WQ.nC rfl rfl rfl ⟨_,?_,hf⟩;rw[qM,j6];rfl
 | succ d=>
  obtain⟨b,ks⟩:=t;have mE:PW w st tb k l wr st' c (jY b ks):=mE;have xu:ks.length<8:=Dj;change WC _ _ _ [(0,iF tb),(1,.string k),(2,Iq n),(10,iF b)] wr;obtain⟨tk,-,ae7⟩:=mE.put.kids;have h2:2 <= ks.length:=mE.put.two;have hb:=(lY.1 mE.put.Nr).1;obtain⟨-,pb,vb⟩:=mE.ps.mem _ _ hb;have l0:wr.cell? ⟨b,0,none⟩=some (.bool false):=jN vb gZ;have pP:∀q:List (Tr d),(q.map (jd d)).length=q.length:=fun q=>av ..;refine iu ?_;refine i_ func93 (Fj (key:=k) vb (by show(ks.map (jd d)).length <= 8;rw[pP];omega) (by show 1 <= (ks.map (jd d)).length;rw[pP];omega)) ?_;rintro w3 rfl
  obtain⟨mA,s,kr,yX,Jk,rM,qx,Kq⟩:=Eb (k:=k) (fun x hx=>sC (tk x hx).2 (by have:=(tk x hx).1;omega)) ae7 (fun e=>by rw[e] at h2;simp at h2);simp only[BM,pP];rw[<- Jk];subst yX;clear Jk;have Z9:mA.length+kr.length+1<8:=by simp only[aa,aj] at xu;omega
  have lX:=tk s iz;obtain⟨nxs,pS,B7,hs3⟩:=mE.put.ak4;obtain⟨hs8,ps,vs⟩:=mE.ps.mem _ _ pS;obtain⟨C,hC⟩:∃C,iQ d s=C:=⟨_,rfl⟩;have mg:(iv d s).length=C:=by rw[vt,hC]
  have hcs:=vV vs mg;have wQ:w3.cell? ⟨b,18+mA.length,none⟩=some (.pointer (some ⟨blk d s,0,none⟩)):=by
   have:=vb;exact Ex this gZ (by show(((mA++s :: kr).map (jd d)).getD mA.length jD).m7=_;rw[vg];rfl)
  have YF:C <= 8:=by rw[<- hC];exact lX.2.le
  have MW:=mE.YP;have HA:b≠blk d s:=fun e=>by
   have:=(aY.1 (D7 ((bK.1 ((om c _).nodup_iff.1 mE.put.nodup)).2.1))).1;exact this (aV _ (e ▸ pI d s))
  have yj:tb≠b:=fun e=>by rw[<- e,mE.ps.no] at hb;cases hb
  refine gY ?_;refine j_ mA.length (18+mA.length) ?_;refine ia wQ ?_;refine iu ?_;refine WC.sa (fun x:KX d=>[(0,iF tb),(1,.string k),(2,Iq n),(10,iF b),(11,Iq x.l.length)])
   (fun x w'=>∃uZ,PW w st tb k l w' uZ c (jY b (x.l++x.s :: x.r)) /\ Lo (x.l.flatMap (jt d)) k /\ Hi (x.r.flatMap (jt d)) k /\ iQ d x.s<8) rfl ?_ ?_
  ·by_cases h8:C=8
   ·refine WC.qg rfl gZ ?_
    refine gY ?_;refine j_ mA.length (18+mA.length) ?_;refine ia wQ ?_;refine il func92 (Kt mE.ps.mem pS (by show(iv d s).length=8;omega) hs3 (fun LB=>B7 (fun e=>by subst e;cases LB)) mE.jh mE.ps.no gZ) ?_;rintro _ w5 ⟨g,rfl,Lj,Fo,uq,mz⟩;refine⟨_,rfl,?_⟩;simp only at Fo;have Ck:st' g=none:=by
     cases e:st' g with
     | none=>rfl
     | some nd2=>have:=mE.ps.mem.lt (b:=g) (by rw[e];simp);omega
    have HN:g≠blk d s:=fun e=>by rw[e,pS] at Ck;cases Ck
    have hgB:g≠b:=fun e=>by rw[e,hb] at Ck;cases Ck
    have Y1:tb≠g:=by have:=mE.jh.lt;omega
    have pG:tb≠blk d s:=fun e=>by rw[<- e,mE.ps.no] at pS;cases pS
    have Qc:=WJ pS HN;obtain⟨AO,tp⟩:∃AO,kv (kv st' (blk d s) ⟨d == 0,(iv d s).take 4,if(d == 0)=true then some g else none⟩) g ⟨d == 0,(iv d s).drop 4,nxs⟩=AO:=⟨_,rfl⟩;rw[tp] at Fo Qc;have m9:=mE.ps.step Fo (by rw[<- tp,jb Y1,jb pG];exact mE.ps.no) mz fun x hx=>by
     rw[<- tp] at hx
     by_cases e:x=g
     ·right;omega
     ·rw[jb e] at hx
      by_cases e2:x=blk d s
      ·left;rw[e2,pS];simp
      ·rw[jb e2] at hx;exact .inl hx
    have oY:AO b=some ⟨false,(mA++s :: kr).map (jd d),none⟩:=by rw[<- tp,jb hgB.symm,jb HA];exact hb
    have Bg:AO g=some ⟨d == 0,(iv d s).drop 4,nxs⟩:=by rw[<- tp,lz]
    obtain⟨-,pb5,AJ⟩:=m9.mem _ _ oY;obtain⟨-,pg5,Ln⟩:=m9.mem _ _ Bg;have MZ:=Bl Ln (i:=0) gZ;simp only[Wr (d:=d) (g:=g) (s:=s) gZ lX.2] at MZ;refine gY ?_;refine j_ 0 2 ?_;refine ia MZ ?_;refine gY ?_;refine WL.as 115 (Iq ((mA.length+1:Nat):Int)) rfl rfl ?_;refine i_ gI (r8 (i:=mA.length+1) (n:=0) (m7:=some g) AJ (by show mA.length+1 <= ((mA++s :: kr).map (jd d)).length;rw[pP];simp) (by show((mA++s :: kr).map (jd d)).length<8;rw[pP];exact xu)) ?_;rintro w6 ⟨m5,AW⟩
    simp only[Zk (d:=d) (g:=g) (s:=s) (l:=mA) (r:=kr) gZ lX.2] at AW;have Ov:(mA++(ly d s g).1 :: (ly d s g).2 :: kr).length <= 8:=by simp only[aa,aj];omega
    have rq:=m9.node (b:=b) (by rw[oY];simp) m5 (by show((mA++(ly d s g).1 :: (ly d s g).2 :: kr).map (jd d)).length <= 8;rw[pP];exact Ov) AW;have yi:=uq.ij m5 yj;have aci:=mE.put.split xu gZ Ck Qc;have xU:(ja D (plug c (jY b (mA++(ly d s g).1 :: (ly d s g).2 :: kr)))).length=(ja D (plug c (jY b (mA++s :: kr)))).length+1:=by
     rw[CD,CD,kF,kF];have:=Ti d s g;simp only[ai,an,aa,aj];omega
    have aiP:PW w st tb k l w6 _ c (jY b (mA++(ly d s g).1 :: (ly d s g).2 :: kr)):=⟨rq,aci,by rw[xU,FV c (t:=jY b (mA++s :: kr)) (t':=jY b (mA++(ly d s g).1 :: (ly d s g).2 :: kr)) rfl];exact yi⟩;clear rq aci yi m5 m9 uq AJ Ln MZ Fo mz;obtain⟨ai4,-,af7⟩:=aiP.put.kids;refine gY ?_;refine i_ func93 (Fj (key:=k) AW (by show((mA++(ly d s g).1 :: (ly d s g).2 :: kr).map (jd d)).length <= 8;rw[pP];exact Ov) (by show 1 <= ((mA++(ly d s g).1 :: (ly d s g).2 :: kr).map (jd d)).length;rw[pP];simp only[aa,aj];omega)) ?_;rintro w7 rfl
    have adz:=fun x hx=>sC (ai4 x hx).2 (by have:=(ai4 x hx).1;omega);obtain⟨kl1,s',kr1,aja,apP,apb,W4,aqS⟩:=Eb (k:=k) adz af7 iz;simp only[BM,pP];rw[<- apP];have hfk:fk d (ly d s g).1=fk d s:=congrArg Tre.En.key (Gk (g:=g) (by omega:iQ d s=8) lX.2);have Pu:=Uc aja (adz _ iz) (fun x hx=>adz x (by simp[hx])) (fun e=>by rw[hfk];exact Kq e) qx W4 aqS;obtain⟨tC,rO⟩:=yn d s g gZ;refine gY ?_;refine WQ.meet ⟨kl1,s',kr1⟩ iW ⟨_,by rw[<- aja];exact aiP,apb,W4,?_⟩;rcases Pu with e|e<;>(show iQ d s'<8;rw[e];omega)
   ·refine WC.pE rfl gZ ?_
    refine gY ?_;exact WQ.meet ⟨mA,s,kr⟩ iW ⟨st',mE,rM,qx,by show iQ d s<8;omega⟩
  clear vb l0 tk ae7 h2 hb rM qx Kq Z9 lX pS B7 hs3 hs8 vs mg hcs wQ YF hC MW HA mE xu Dj;rintro⟨mA,s,kr⟩ w6 ⟨Sf,mE,rM,qx,hc⟩;simp only at mE rM qx hc;obtain⟨tk,yq,-⟩:=mE.put.kids;have Z9:mA.length<8:=by simp only[aa,aj] at yq;omega
  have hb:=(lY.1 mE.put.Nr).1;obtain⟨-,pb,vb⟩:=mE.ps.mem _ _ hb;have xE:=Bl vb (i:=mA.length) gZ;simp only[vg] at xE;have ane:w6.cell? ⟨b,2+mA.length,none⟩=some (.string (fk d s)):=xE;refine ku ?_;refine WC.drawn 13 (fun wx=>wx.heap=w6.heap) fun w7 hd=>?_;have hS:=hd.heap;have Hr:=vb.below (hd.below _) vb.lt;have CH:=mE.ps.step (mE.ps.mem.below (hd.below _)) mE.ps.no (ib.nE hd _) fun x hx=>.inl hx;have Ha:=mE.jh.below (hd.below _) mE.jh.lt;clear hd;refine iq [0,1,2,3,4,5] hS ?_;refine jr 6 mA.length (2+mA.length) (.inr hS) ?_;refine ik 7 [9,12,13] (fun wx hx=>(jJ hx _).trans ane) hS ?_;refine iq [8,10,11] hS ?_;refine iI 9 ?_;refine WL.ao5 rfl rfl rfl rfl rfl rfl ?_;refine km hS ?_;refine jr 12 mA.length (2+mA.length) (.inr hS) ?_;refine iI 13 ?_;refine WL.store rfl rfl rfl rfl rfl rfl (by kernel_rfl) (jN Hr gZ) (Hr.free _) ?_;have v8:=ud Hr (2+mA.length) (.string (xm (fk d s) k));have pP:((mA++s :: kr).map (jd d)).length=(mA++s :: kr).length:=av ..;rw[JP _ _ (by show mA.length<((mA++s :: kr).map (jd d)).length;rw[pP];simp) (by show((mA++s :: kr).map (jd d)).length <= 8;rw[pP];exact yq)] at v8;simp only[vg,Qb] at v8;have k8:ib (fun x=>x≠b) w7 (w7.setCell ⟨b,2+mA.length,none⟩ (.string (xm (fk d s) k))):=(ib.refl _ _).setCell (fun hk=>hk rfl) _;have yj:tb≠b:=fun e=>by rw[<- e,mE.ps.no] at hb;cases hb
  have SJ:=CH.node (b:=b) (by rw[hb];simp) k8 (by show(mA.map (jd d)++_ :: kr.map (jd d)).length <= 8;simp only[aa,av,aj] at yq ⊢;exact yq) v8;have hh8:=Ha.ij k8 yj;generalize w7.setCell ⟨b,2+mA.length,none⟩ (.string (xm (fk d s) k))=w8 at v8 k8 SJ hh8 ⊢;refine iO ?_;refine im ?_;have wQ:w8.cell? ⟨b,18+mA.length,none⟩=some (.pointer (some ⟨blk d s,0,none⟩)):=by
   refine Ex v8 gZ ?_
   show((mA.map (jd d)++_ :: kr.map (jd d)).getD mA.length jD).m7=_
   rw[ag,ay iz];simp[jd]
  refine gY ?_;refine j_ mA.length (18+mA.length) ?_;refine ia wQ ?_;refine gY ?_;refine WQ.again ⟨D,d,.down c b mA kr,s⟩ iW ⟨_,⟨SJ,?_,?_⟩,hc⟩ (by show d<d+1;omega)
  ·exact mE.put.down rM qx
  ·simp only[nV];exact hh8
open Tre
theorem PS.node2 {oK st':St}{nb nc:Nd}(h:PS w0 oK tb w' st') (hb:st' b≠none) (hc:st' c≠none) (hk:ib (fun x=>x≠b /\ x≠c) w' w2) (hlb:nb.es.length <= 8) (Zv:nc.es.length <= 8) (F8:h_ kJ w2 b (iL (lS nb pb))) (Cv:h_ kJ w2 c (iL (lS nc pc))): PS w0 oK tb w2 (kv (kv st' b nb) c nc):=by
 have tj:tb≠b:=fun e=>hb (by rw[<- e];exact h.no);have rC:tb≠c:=fun e=>hc (by rw[<- e];exact h.no);refine h.step (fun x nd e=>?_) (by rw[jb rC,jb tj];exact h.no) (hk.mono fun x hx=>⟨fun e=>hb (by rw[<- e];exact hx.2.1),fun e=>hc (by rw[<- e];exact hx.2.1)⟩) fun x hx=>?_
 ·by_cases SD:x=c
  ·subst SD;rw[lz] at e;obtain rfl:=au e;exact⟨Zv,pc,Cv⟩
  ·rw[jb SD] at e
   by_cases DU:x=b
   ·subst DU;rw[lz] at e;obtain rfl:=au e;exact⟨hlb,pb,F8⟩
   ·rw[jb DU] at e
    obtain⟨h1,pv,h2⟩:=h.mem x nd e;exact⟨h1,pv,h2.ij hk ⟨DU,SD⟩⟩
 ·by_cases SD:x=c
  ·rw[SD];exact .inl hc
  ·rw[jb SD] at hx
   by_cases DU:x=b
   ·rw[DU];exact .inl hb
   ·rw[jb DU] at hx;exact .inl hx
theorem PS.prev {oK st':St}(h:PS w0 oK tb w' st') (hq:st' q≠none) (x:Option Nat): PS w0 oK tb (w'.setCell ⟨q,27,none⟩ (lh x)) st' :=
 h.step (h.mem.TG hq x) h.no (ib.setCell (ib.refl _ _) (fun hk=>hq hk.2.1) _) fun _ hx=>.inl hx
theorem Y0 (p q:List (Tr d)) (a c:Tr d) (z:Tr d) (hz:jd d z=jd d a): era ((p++a :: c :: q).map (jd d)) (p.length+1)=(p++z :: q).map (jd d):=by
 unfold era;have hl:(p.map (jd d)).length=p.length:=av ..;simp only[aK,aM];rw[e_,dq,hl,bC (by rw[hl];omega),bX (by rw[hl];omega),show p.length+1 - p.length=1 by omega,show p.length+1+1 - p.length=2 by omega,hz];simp
theorem YN (p q:List (Tr d)) (a c a' c':Tr d) (ha:jd d a'=jd d a) (x:Tre.En) (hx:x=jd d c'): ((p++a :: c :: q).map (jd d)).set (p.length+1) x=(p++a' :: c' :: q).map (jd d):=by
 have hl:(p.map (jd d)).length=p.length:=av ..;simp only[aK,aM];rw[cN _ _ (by rw[hl];omega),hl,show p.length+1 - p.length=1 by omega,ha,hx]
 rfl
theorem Jc (p q:List (Tr d)) (a c:Tr d) (z:Tre.En): ((p++a :: c :: q).map (jd d)).getD (p.length+1) z=jd d c:=by
 have hl:(p.map (jd d)).length=p.length:=av ..;simp only[aK,aM,ag];rw[ay (by rw[hl];omega),hl,show p.length+1 - p.length=1 by omega]
 rfl
theorem aa5 {a c:Tr d}(hm:Mn d a) (h1:1 <= iQ d a): jd d (jn d a c)=jd d a:=by
 unfold jd fk;rw[Pd,s_ (sC hm h1),agV]
theorem Z3 {a c:Tr d}(hm:Mn d a) (h1:1 <= iQ d a) (hm':Mn d (rd j d a c).1) (yY:1 <= iQ d (rd j d a c).1): jd d (rd j d a c).1=jd d a:=by
 unfold jd fk;have:=Xe j d a c;rw[<- s_ (sC hm' yY) (b:=jt d (rd j d a c).2),this,s_ (sC hm h1),(Xk j d a c).1]
theorem OI {st:St}{ks:List (Tr d)}(h:At st (d+1) (jY b ks) nx) {s:Tr d}(hs:s∈ks): ∃JJ,st (blk d s)=some ⟨d == 0,iv d s,JJ⟩ /\ (d≠0 -> JJ=none):=by
 obtain⟨nx2,h2⟩:=xT (l:=ks) h.sg s hs;exact nodeAt ((lY.1 h.rep).2 s hs) h2
theorem sh1 (x y:List Tre.En) (hx:x.length=A) (hy:1 <= y.length): (x++y).take (A+1)=x++[⟨(y.getD 0 jD).key,(y.getD 0 jD).num,(y.getD 0 jD).m7⟩] /\ (x++y).drop (A+1)=era y 0:=by
 cases y with
 | nil=>simp at hy
 | cons e y=>
  subst hx;refine⟨?_,?_⟩
  ·rw[e_,bC gZ,show x.length+1 - x.length=1 by omega];rfl
  ·rw[dq,bX gZ,show x.length+1 - x.length=1 by omega];rfl
theorem sh2 (x y:List Tre.En) (hx:x.length=A+1): (x++y).take A=era x A /\ (x++y).drop A=ins y 0 ⟨(x.getD A jD).key,(x.getD A jD).num,(x.getD A jD).m7⟩:=by
 refine⟨?_,?_⟩
 ·rw[SY _ hx,bP gZ]
 ·rw[du gZ,JG _ gZ,bp gZ,bX gZ];rfl
theorem V2 {st:St}{p q:List (Tr d)}{a c:Tr d}(hm:Mem w st) (mC:st tb=none) (j6:At st (d+1) (jY b (p++a :: c :: q)) nx) (xd:∀nd,st (blk d c)=some nd -> ∀q,nd.next=some q -> st q≠none) (Cs:Mn d a) (Co:Mn d c) (UP:3 <= iQ d a) (Cg:3 <= iQ d c) (h33:iQ d a=3 \/ iQ d c=3) (hlen:(p++a :: c :: q).length <= 8) (hh:h_ kR w tb (mL root size (m+1))) (hmm:m<4611686018427387904):
  Calls prog 129 #[iF tb,iF b,Iq p.length] w fun e w'=>e=.returned (.tuple #[]) /\ ∃st' t',pT st st' (d+1) (jY b (p++a :: c :: q)) t' nx /\ PS w st tb w' st' /\ (∀x,st' x≠none -> st x≠none) /\
   ((iQ d a+iQ d c <= 8 /\ t'=jY b (p++jn d a c :: q) /\ h_ kR w' tb (mL root size m)) \/ (8<iQ d a+iQ d c /\ ∃j,4 <= j /\ j <= 8 /\ j+4 <= iQ d a+iQ d c /\ iQ d a+iQ d c <= j+8 /\ t'=jY b (p++(rd j d a c).1 :: (rd j d a c).2 :: q) /\ h_ kR w' tb (mL root size (m+1)))):=by
 refine iY func129 ntmps129 ?_;have mY:=PS.start hm mC;obtain⟨uK,hpr⟩:=aY.1 (Nw j6.nodup);obtain⟨ahT,-,-⟩:=bK.1 hpr;obtain⟨-,-,ah9⟩:=bK.1 ahT;have Ct:blk d a≠blk d c:=ah9 _ (pI d a) _ (pI d c);have CU:b≠blk d a:=fun e=>uK (by simp only[aq];exact .inl (.inl (e ▸ pI d a)));have Dp:b≠blk d c:=fun e=>uK (by simp only[aq];exact .inl (.inr (e ▸ pI d c)));clear uK hpr ahT ah9;have hb:st b=some ⟨false,(p++a :: c :: q).map (jd d),none⟩:=(lY.1 j6.rep).1;obtain⟨Qr,Ph,hxa⟩:=OI j6 (s:=a) iz;obtain⟨tL,G8,SD⟩:=OI j6 (s:=c) iz;have qT:tb≠b:=fun e=>by rw[<- e,mC] at hb;cases hb
 have wG:tb≠blk d a:=fun e=>by rw[<- e,mC] at Ph;cases Ph
 have htc:tb≠blk d c:=fun e=>by rw[<- e,mC] at G8;cases G8
 obtain⟨-,pb,vb⟩:=hm _ _ hb;obtain⟨-,pa,va⟩:=hm _ _ Ph;obtain⟨-,pc,vc⟩:=hm _ _ G8;obtain⟨A,hA⟩:∃A,iQ d a=A:=⟨_,rfl⟩;obtain⟨C,hC⟩:∃C,iQ d c=C:=⟨_,rfl⟩;have hA8:A <= 8:=by rw[<- hA];exact Cs.le
 have YF:C <= 8:=by rw[<- hC];exact Co.le
 have qW:(iv d a).length=A:=by rw[vt,hA]
 have Zv:(iv d c).length=C:=by rw[vt,hC]
 rw[hA] at UP;rw[hC] at Cg;rw[hA,hC] at h33;have hp7:p.length+2 <= 8:=by simp only[aa,aj] at hlen;omega
 have pP:∀l:List (Tr d),(l.map (jd d)).length=l.length:=fun l=>av ..;have uz:=Ex vb (i:=p.length) (q:=blk d a) gZ (by show(((p++a :: c :: q).map (jd d)).getD p.length jD).m7=_;rw[vg];rfl);have TR:=Ex vb (i:=p.length+1) (q:=blk d c) gZ (by show(((p++a :: c :: q).map (jd d)).getD (p.length+1) jD).m7=_;rw[Jc];rfl);refine ku ?_;refine WC.drawn 14 (fun wx=>wx.heap=w.heap) fun w1 hd=>?_;have hS:w1.heap=w.heap:=hd.heap;have mY:=mY.step (mY.mem.below (hd.below _)) mY.no (ib.nE hd _) fun x hx=>.inl hx;replace vb:=vb.below (hd.below _) vb.lt;replace va:=va.below (hd.below _) va.lt;replace vc:=vc.below (hd.below _) vc.lt;replace hh:=hh.below (hd.below _) hh.lt;clear hd;refine iq [0,1,2,3] hS ?_;refine jr 4 p.length (18+p.length) (.inr hS) ?_;refine ik 5 [13,14] (fun wx hx=>(jJ hx _).trans uz) hS ?_;refine iq [6,7,8,9,10] hS ?_;refine jr 11 (p.length+1) (18+(p.length+1)) (.inr hS) ?_;refine ik 12 [14] (fun wx hx=>(jJ hx _).trans TR) hS ?_;refine iq [13] hS ?_;refine iI 14 ?_;refine iA ?_;refine iO ?_;refine im ?_;clear hS uz TR;have Lh:=vV va qW;have hcc:=vV vc Zv;refine ku ?_;refine WC.drawn 8 (fun wx=>wx.heap=w1.heap) fun w2 hd=>?_;have hS:w2.heap=w1.heap:=hd.heap;have mY:=mY.step (mY.mem.below (hd.below _)) mY.no (ib.nE hd _) fun x hx=>.inl hx;replace vb:=vb.below (hd.below _) vb.lt;replace va:=va.below (hd.below _) va.lt;replace vc:=vc.below (hd.below _) vc.lt;replace hh:=hh.below (hd.below _) hh.lt;clear hd;refine iq [0,1,2] hS ?_;refine ik 3 [8,9] (fun wx hx=>(jJ hx _).trans Lh) hS ?_;refine iq [4,5,6] hS ?_;refine ik 7 [8,9] (fun wx hx=>(jJ hx _).trans hcc) hS ?_;refine iI 8 ?_
 (refine WL.pure rfl rfl rfl rfl ?_;try (first|((with_reducible refine WL.Ee ?_ ?_);omega)|((with_reducible refine WL.Ec ?_ ?_);omega)|((with_reducible refine WL.zC ?_ ?_);omega)))
 refine iO ?_;clear hS Lh hcc
 -- what is left to say
 have fin:∀ {wz:World}{stz:St}{t':Tr (d+1)},PS w st tb wz stz -> pT st stz (d+1) (jY b (p++a :: c :: q)) t' nx -> (∀x,stz x≠none -> st x≠none) ->
   ((A+C <= 8 /\ t'=jY b (p++jn d a c :: q) /\ h_ kR wz tb (mL root size m)) \/ (8<A+C /\ ∃j,4 <= j /\ j <= 8 /\ j+4 <= A+C /\ A+C <= j+8 /\ t'=jY b (p++(rd j d a c).1 :: (rd j d a c).2 :: q) /\ h_ kR wz tb (mL root size (m+1)))) ->
   ∃st' t',pT st st' (d+1) (jY b (p++a :: c :: q)) t' nx /\ PS w st tb wz st' /\ (∀x,st' x≠none -> st x≠none) /\
   ((iQ d a+iQ d c <= 8 /\ t'=jY b (p++jn d a c :: q) /\ h_ kR wz tb (mL root size m)) \/ (8<iQ d a+iQ d c /\ ∃j,4 <= j /\ j <= 8 /\ j+4 <= iQ d a+iQ d c /\ iQ d a+iQ d c <= j+8 /\ t'=jY b (p++(rd j d a c).1 :: (rd j d a c).2 :: q) /\ h_ kR wz tb (mL root size (m+1)))):=fun h1 h2 h3 h4=>⟨_,_,h2,h1,h3,by rw[hA,hC];exact h4⟩
 by_cases aa6:A+C <= 8
 ·(refine js 9 rfl (q:=?_))
  refine im ?_;refine gY ?_;refine i_ func127 (JI (f:=0) vc va Ct.symm (aw _) (by show(iv d c).length <= 8;omega) (by show(iv d a).length+((iv d c).length - 0) <= 8;omega)) ?_;rintro w3 ⟨mM,vc3,Q6⟩
  simp only[bR,dM] at vc3 Q6;have uO:=mY.node2 (b:=blk d c) (c:=blk d a) (by rw[G8];simp) (by rw[Ph];simp) mM iz (by show(iv d a++iv d c).length <= 8;rw[aa];omega) vc3 Q6;have vb3:=vb.ij mM ⟨Dp,CU⟩;have A5:=hh.ij mM ⟨htc,wG⟩;clear mY vb va vc hh mM;have aiS:w3.cell? ⟨blk d a,0,none⟩=some (.bool (d == 0)):=jN Q6 gZ;have join:∀ {stz:St},(∀tL,st (blk d c)=some ⟨d == 0,iv d c,tL⟩ -> stz (blk d a)=some ⟨d == 0,iv d a++iv d c,tL⟩) -> stz b=some ⟨false,(p++jn d a c :: q).map (jd d),none⟩ -> (∀x,x≠b -> x≠blk d a -> x≠blk d c -> stz x=st x) -> pT st stz (d+1) (jY b (p++a :: c :: q)) (jY b (p++jn d a c :: q)) nx:=fun h1 h2 h3=>pT.join j6 h1 h2 h3;have aqD:=Y0 p q a c (jn d a c) (aa5 Cs gZ);refine iu ?_;refine WC.sa (fun _:Unit=>[(0,iF tb),(1,iF b),(2,Iq p.length)]) (fun _ w'=>∃stz,PS w st tb w' stz /\ (∀tL,st (blk d c)=some ⟨d == 0,iv d c,tL⟩ -> stz (blk d a)=some ⟨d == 0,iv d a++iv d c,tL⟩) /\ (∀x,x≠blk d a -> x≠blk d c -> stz x=st x) /\ (∀x,stz x≠none -> st x≠none) /\ h_ kR w' tb (mL root size (m+1))) rfl ?_ ?_
  ·have Is:∀(v:Option Nat) x,kv (kv st (blk d c) ⟨d == 0,[],tL⟩) (blk d a) ⟨d == 0,iv d a++iv d c,v⟩ x≠none -> st x≠none:=fun v x hx=>by
    by_cases e:x=blk d a
    ·rw[e,Ph];simp
    ·rw[jb e] at hx
     by_cases e2:x=blk d c
     ·rw[e2,G8];simp
     ·rw[jb e2] at hx;exact hx
   have Ca:∀(v:Option Nat) x,x≠blk d a -> x≠blk d c -> kv (kv st (blk d c) ⟨d == 0,[],tL⟩) (blk d a) ⟨d == 0,iv d a++iv d c,v⟩ x=st x:=fun v x h1 h2=>by rw[jb h1,jb h2]
   cases d with
   | succ d=>
    refine WC.condFalse rfl ?_;refine gY ?_;refine WQ.meet () iW ⟨_,uO,fun Kj hx=>?_,Ca _,Is _,A5⟩;rw[G8] at hx
    injection hx with hx;injection hx with _ _ hx
    rw[lz,<- hx,hxa gZ,SD gZ]
   | zero=>
    have Lt:w3.cell? ⟨blk 0 c,26,none⟩=some (lh tL):=jN vc3 gZ;refine WC.condTrue rfl ?_;refine iu ?_;refine iD (hv:=(BW _)) (jN Q6 gZ) (Q6.free 26) ?_;have Q_:=ud Q6 26 (lh tL);rw[Gc] at Q_;have k4:ib (fun x=>x≠blk 0 a) w3 (w3.setCell ⟨blk 0 a,26,none⟩ (lh tL)):=(ib.refl _ _).setCell (fun hk=>hk rfl) _;have oS:=uO.node (b:=blk 0 a) (by rw[lz];simp) k4 (by show(iv 0 a++iv 0 c).length <= 8;rw[aa];omega) Q_;rw[S_] at oS;have yc:=A5.ij k4 wG;generalize w3.setCell ⟨blk 0 a,26,none⟩ (lh tL)=w4 at Q_ k4 oS yc ⊢;clear Lt Q6 uO A5 aiS k4;have han:w4.cell? ⟨blk 0 a,26,none⟩=some (lh tL):=jN Q_ gZ;have kK:∀Kj,st (blk 0 c)=some ⟨(0:Nat) == 0,iv 0 c,Kj⟩ -> kv (kv st (blk 0 c) ⟨(0:Nat) == 0,[],tL⟩) (blk 0 a) ⟨(0:Nat) == 0,iv 0 a++iv 0 c,tL⟩ (blk 0 a)=some ⟨(0:Nat) == 0,iv 0 a++iv 0 c,Kj⟩:=fun Kj hx=>by
     rw[G8] at hx
     injection hx with hx;injection hx with _ _ hx
     rw[lz,hx]
    have hvq:=xd _ G8;simp only at hvq;refine iu ?_;cases tL with
    | none=>
     refine WL.as 49 (.pointer none) rfl rfl ?_;refine WL.qp rfl rfl rfl rfl rfl rfl (by kernel_rfl) ?_;refine gY ?_;exact WQ.meet () iW ⟨_,oS,kK,Ca _,Is _,yc⟩
    | some q0=>
     have hq:=hvq q0 rfl;have hq4:kv (kv st (blk 0 c) ⟨(0:Nat) == 0,[],some q0⟩) (blk 0 a) ⟨(0:Nat) == 0,iv 0 a++iv 0 c,some q0⟩ q0≠none:=by
      unfold kv
      split
      ·simp
      ·split
       ·simp
       ·exact hq
     obtain⟨ndq,aeF⟩:=dP.1 hq4;obtain⟨-,pq,vq⟩:=oS.mem q0 ndq aeF;have hqt:tb≠q0:=fun e=>hq (by rw[<- e];exact mC);have avW:w4.cell? ⟨blk 0 a,26,none⟩=some (iF q0):=han;clear han;refine WL.as 49 (iF q0) rfl rfl ?_;refine WL.qp rfl rfl rfl rfl rfl rfl (by kernel_rfl) ?_;refine iu ?_;refine iD (v:=lh (some (blk 0 a))) (jN vq gZ) (vq.free 27) ?_;have m9:=oS.prev hq4 (some (blk 0 a));have uq:=yc.ij (ib.setCell (ib.refl (fun x=>x≠q0) w4) (p:=⟨q0,27,none⟩) (fun hk=>hk rfl) (lh (some (blk 0 a)))) hqt;generalize w4.setCell ⟨q0,27,none⟩ (lh (some (blk 0 a)))=w5 at m9 uq ⊢;refine gY ?_;exact WQ.meet () iW ⟨_,m9,kK,Ca _,Is _,uq⟩
  clear uO vc3 Q6 vb3 A5 aiS;rintro⟨⟩ w5 ⟨stz,m9,h1,h2,h3,uq⟩;have O6:stz b=some ⟨false,(p++a :: c :: q).map (jd d),none⟩:=(h2 b CU Dp).trans hb;obtain⟨-,pb5,AJ⟩:=m9.mem _ _ O6;refine gY ?_;refine WL.as 60 (Iq ((p.length+1:Nat):Int)) rfl rfl ?_;refine i_ func128 (xZ (i:=p.length+1) AJ (by show p.length+1<((p++a :: c :: q).map (jd d)).length;rw[pP];simp) (by show((p++a :: c :: q).map (jd d)).length <= 8;rw[pP];exact hlen)) ?_;rintro w6 ⟨m5,AW⟩
  simp only[aqD] at AW;have rq:=m9.node (b:=b) (by rw[O6];simp) m5 (by show((p++jn d a c :: q).map (jd d)).length <= 8;rw[pP];simp only[aa,aj] at hlen ⊢;omega) AW;have yi:=uq.ij m5 qT;have mO:w6.cell? ⟨tb,2,none⟩=some (Iq ((m+1:Nat):Int)):=yi.cell 2 (by simp[mL]);have tn:=join (stz:=kv stz b ⟨false,(p++jn d a c :: q).map (jd d),none⟩) (fun Kj hx=>by rw[jb CU.symm];exact h1 Kj hx) (lz _ _ _) (fun x hx1 Cb hx3=>by rw[jb hx1];exact h2 x Cb hx3);refine iu ?_;refine iD mO (yi.free 2) ?_;have Ha:h_ kR (w6.setCell ⟨tb,2,none⟩ (Iq (((m+1:Nat):Int) - 1))) tb (mL root size m):=by
   have:=yi.set 2 (Iq (((m+1:Nat):Int) - 1));rw[show(((m+1:Nat):Int) - 1)=(m:Int) by omega] at this ⊢;exact this
  have CH:=rq.jh 2 (Iq (((m+1:Nat):Int) - 1));generalize w6.setCell ⟨tb,2,none⟩ (Iq (((m+1:Nat):Int) - 1))=w7 at CH Ha ⊢;refine gY ?_;refine WQ.Wp rfl ⟨rfl,fin CH tn (fun x hx=>?_) (.inl ⟨aa6,rfl,Ha⟩)⟩
  by_cases e:x=b
  ·rw[e,hb];simp
  ·rw[jb e] at hx;exact h3 x hx
 ·(refine js 9 rfl (q:=?_))
  refine im ?_;have Lh:=vV va qW;have hcc:=vV vc Zv;refine gY ?_;refine WC.drawn 8 (fun wx=>wx.heap=w2.heap) fun w3 hd=>?_;have hS:w3.heap=w2.heap:=hd.heap;have mY:=mY.step (mY.mem.below (hd.below _)) mY.no (ib.nE hd _) fun x hx=>.inl hx;replace vb:=vb.below (hd.below _) vb.lt;replace va:=va.below (hd.below _) va.lt;replace vc:=vc.below (hd.below _) vc.lt;replace hh:=hh.below (hd.below _) hh.lt;clear hd;refine iq [0,1,2] hS ?_;refine ik 3 [8] (fun wx hx=>(jJ hx _).trans Lh) hS ?_;refine iq [4,5,6] hS ?_;refine ik 7 [8] (fun wx hx=>(jJ hx _).trans hcc) hS ?_;refine iI 8 ?_;refine iA ?_;refine iO ?_;refine im ?_;clear hS Lh hcc;refine ku ?_;refine WC.sa (fun _:Unit=>[(0,iF tb),(1,iF b),(2,Iq p.length),(7,.pointer (some ⟨blk d c,0,none⟩))])
   (fun _ w'=>∃j,4 <= j /\ j <= 8 /\ j+4 <= A+C /\ A+C <= j+8 /\ PS w st tb w' (kv (kv st (blk d a) ⟨d == 0,(iv d a++iv d c).take j,Qr⟩) (blk d c) ⟨d == 0,(iv d a++iv d c).drop j,tL⟩) /\ h_ kR w' tb (mL root size (m+1))) rfl ?_ ?_
  ·by_cases iS:A<C
   ·refine WC.qg rfl gZ ?_
    obtain⟨e1,e2⟩:=sh1 (iv d a) (iv d c) qW gZ;have q0:=vV va qW;have q1:=Bl vc (i:=0) gZ;have q2:=Tg vc (i:=0) gZ;have q3:w3.cell? ⟨blk d c,18,none⟩=some (lh ((iv d c).getD 0 jD).m7):=by rw[jN vc (j:=18) gZ,ui _ _ (i:=0) gZ]
    refine gY ?_;refine WC.drawn 20 (fun wx=>wx.heap=w3.heap) fun w4 hd=>?_;have hS:w4.heap=w3.heap:=hd.heap;have mY:=mY.step (mY.mem.below (hd.below _)) mY.no (ib.nE hd _) fun x hx=>.inl hx;replace va:=va.below (hd.below _) va.lt;replace vc:=vc.below (hd.below _) vc.lt;replace hh:=hh.below (hd.below _) hh.lt;clear hd;refine iq [0,1,2,3] hS ?_;refine ik 4 [20] (fun wx hx=>(jJ hx _).trans q0) hS ?_;refine iq [5,6,7] hS ?_;refine jr 8 0 2 (.inr hS) ?_;refine ik 9 [20] (fun wx hx=>(jJ hx _).trans q1) hS ?_;refine iq [10,11,12] hS ?_;refine jr 13 0 10 (.inr hS) ?_;refine ik 14 [20] (fun wx hx=>(jJ hx _).trans q2) hS ?_;refine iq [15,16,17] hS ?_;refine jr 18 0 18 (.inr hS) ?_;refine ik 19 [20] (fun wx hx=>(jJ hx _).trans q3) hS ?_;refine iI 20 ?_;refine i_ gI (r8 (i:=A) (n:=((iv d c).getD 0 jD).num) (m7:=((iv d c).getD 0 jD).m7) va (by show A <= (iv d a).length;omega) (by show(iv d a).length<8;omega)) ?_;rintro w5 ⟨mz,va5⟩
    have o8:ins (iv d a) A ⟨((iv d c).getD 0 jD).key,((iv d c).getD 0 jD).num,((iv d c).getD 0 jD).m7⟩=(iv d a++iv d c).take (A+1):=by rw[e1,<- qW,Se]
    simp only at va5;rw[o8] at va5;have Kv:((iv d a++iv d c).take (A+1)).length <= 8:=by rw[aE,aa];omega
    have m9:=mY.node (b:=blk d a) (by rw[Ph];simp) mz Kv va5;have Un:=vc.ij mz Ct.symm;have uq:=hh.ij mz wG;refine iO ?_;refine im ?_;refine gY ?_;refine i_ func128 (xZ (i:=0) Un (by show 0<(iv d c).length;omega) (by show(iv d c).length <= 8;omega)) ?_;rintro w6 ⟨m5,vc6⟩
    simp only at vc6;rw[<- e2] at vc6;have rq:=m9.node (b:=blk d c) (by rw[jb Ct.symm,G8];simp) m5 (by show((iv d a++iv d c).drop (A+1)).length <= 8;rw[aQ,aa];omega) vc6;have yi:=uq.ij m5 htc;refine gY ?_;exact WQ.meet () iW ⟨A+1,gZ,gZ,gZ,gZ,rq,yi⟩
   ·refine WC.pE rfl gZ ?_
    obtain⟨A',rfl⟩:∃A',A=A'+1:=⟨A - 1,gZ⟩;obtain⟨e1,e2⟩:=sh2 (iv d a) (iv d c) qW;have lJ:((A'+1:Nat):Int) - 1=A':=gZ;have q0:=vV va qW;have q1:=Bl va (i:=A') gZ;have q2:=Tg va (i:=A') gZ;have q3:w3.cell? ⟨blk d a,18+A',none⟩=some (lh ((iv d a).getD A' jD).m7):=by rw[jN va (j:=18+A') gZ,ui _ _ (i:=A') gZ]
    refine iu ?_;refine WC.as 8 (Iq A') rfl (congrArg (Value.int .i64) lJ) ?_;refine WC.drawn 19 (fun wx=>wx.heap=w3.heap) fun w4 hd=>?_;have hS:w4.heap=w3.heap:=hd.heap;have mY:=mY.step (mY.mem.below (hd.below _)) mY.no (ib.nE hd _) fun x hx=>.inl hx;replace va:=va.below (hd.below _) va.lt;replace vc:=vc.below (hd.below _) vc.lt;replace hh:=hh.below (hd.below _) hh.lt;clear hd;refine iq [0,1,2,3,4] hS ?_;refine jr 5 A' (2+A') (.inr hS) ?_;refine ik 6 [19] (fun wx hx=>(jJ hx _).trans q1) hS ?_;refine iq [7,8,9,10] hS ?_;refine jr 11 A' (10+A') (.inr hS) ?_;refine ik 12 [19] (fun wx hx=>(jJ hx _).trans q2) hS ?_;refine iq [13,14,15,16] hS ?_;refine jr 17 A' (18+A') (.inr hS) ?_;refine ik 18 [19] (fun wx hx=>(jJ hx _).trans q3) hS ?_;refine iI 19 ?_;refine i_ gI (r8 (i:=0) (n:=((iv d a).getD A' jD).num) (m7:=((iv d a).getD A' jD).m7) vc (aw _) (by show(iv d c).length<8;omega)) ?_;rintro w5 ⟨mz,Un⟩
    simp only at Un;rw[<- e2] at Un;have Kv:((iv d a++iv d c).drop A').length <= 8:=by rw[aQ,aa];omega
    have m9:=mY.node (b:=blk d c) (by rw[G8];simp) mz Kv Un;have va5:=va.ij mz Ct;have uq:=hh.ij mz htc;refine iO ?_;refine im ?_;refine gY ?_;refine i_ func128 (xZ (i:=A') va5 (by show A'<(iv d a).length;omega) (by show(iv d a).length <= 8;omega)) ?_;rintro w6 ⟨m5,va6⟩
    simp only at va6;rw[<- e1] at va6;have rq:=m9.node (b:=blk d a) (by rw[jb Ct,Ph];simp) m5 (by show((iv d a++iv d c).take A').length <= 8;rw[aE,aa];omega) va6;have yi:=uq.ij m5 wG;have hsw:kv (kv st (blk d c) ⟨d == 0,(iv d a++iv d c).drop A',tL⟩) (blk d a) ⟨d == 0,(iv d a++iv d c).take A',Qr⟩=kv (kv st (blk d a) ⟨d == 0,(iv d a++iv d c).take A',Qr⟩) (blk d c) ⟨d == 0,(iv d a++iv d c).drop A',tL⟩:=by
     funext x
     unfold kv
     by_cases e:x=blk d a
     ·subst e;simp[Ct]
     ·simp[e]
    rw[hsw] at rq;refine gY ?_;exact WQ.meet () iW ⟨A',gZ,gZ,gZ,gZ,rq,yi⟩
  clear vb va vc hh mY;rintro⟨⟩ w5 ⟨j,U7,th,hj3,hj4,m9,uq⟩;obtain⟨AO,tp⟩:∃AO,kv (kv st (blk d a) ⟨d == 0,(iv d a++iv d c).take j,Qr⟩) (blk d c) ⟨d == 0,(iv d a++iv d c).drop j,tL⟩=AO:=⟨_,rfl⟩;rw[tp] at m9;have oY:AO b=some ⟨false,(p++a :: c :: q).map (jd d),none⟩:=by rw[<- tp,jb Dp,jb CU];exact hb
  have Sx:AO (blk d c)=some ⟨d == 0,(iv d a++iv d c).drop j,tL⟩:=by rw[<- tp,lz]
  have ha5:AO (blk d a)=some ⟨d == 0,(iv d a++iv d c).take j,Qr⟩:=by rw[<- tp,jb Ct,lz]
  obtain⟨-,pb5,AJ⟩:=m9.mem _ _ oY;obtain⟨-,pc5,Un⟩:=m9.mem _ _ Sx;obtain⟨re1,re2⟩:=JA j d a c;obtain⟨rc1,rc2⟩:=HY j d a c (by rw[hA,hC];omega);rw[hA,hC] at rc2;obtain⟨rm1,rm2⟩:=acA (j:=j) Cs Co th (by rw[hA,hC];omega) (by rw[hA,hC];omega);have K9:(((iv d a++iv d c).drop j).getD 0 jD).key=fk d (rd j d a c).2:=by rw[<- re2];exact yI rm2 gZ _
  have q1:=Bl Un (i:=0) gZ;simp only[K9] at q1;have CA:(⟨fk d (rd j d a c).2,(((p++a :: c :: q).map (jd d)).getD (p.length+1) jD).num,(((p++a :: c :: q).map (jd d)).getD (p.length+1) jD).m7⟩:Tre.En)=jd d (rd j d a c).2:=by
   rw[Jc];unfold jd;rw[(Xk j d a c).2]
  have oy:=YN p q a c (rd j d a c).1 (rd j d a c).2 (Z3 Cs gZ rm1 gZ) _ CA;refine ku ?_;refine WC.drawn 11 (fun wx=>wx.heap=w5.heap) fun w6 hd=>?_;have hS:w6.heap=w5.heap:=hd.heap;have rq:=m9.step (m9.mem.below (hd.below _)) m9.no (ib.nE hd _) fun x hx=>.inl hx;have AW:=AJ.below (hd.below _) AJ.lt;have yi:=uq.below (hd.below _) uq.lt;clear hd;refine iq [0,1,2,3,4,5] hS ?_;refine jr 6 0 2 (.inr hS) ?_;refine ik 7 [10,11] (fun wx hx=>(jJ hx _).trans q1) hS ?_;refine iq [8,9] hS ?_;refine jr 10 (p.length+1) (2+(p.length+1)) (.inr hS) ?_;refine iI 11 ?_;refine WL.store rfl rfl rfl rfl rfl rfl (by kernel_rfl) (jN AW gZ) (AW.free _) ?_;have Hr:=ud AW (2+(p.length+1)) (.string (fk d (rd j d a c).2));rw[JP _ _ (by show p.length+1<((p++a :: c :: q).map (jd d)).length;rw[pP];simp) (by show((p++a :: c :: q).map (jd d)).length <= 8;rw[pP];exact hlen)] at Hr;simp only[oy] at Hr;have k7:ib (fun x=>x≠b) w6 (w6.setCell ⟨b,2+(p.length+1),none⟩ (.string (fk d (rd j d a c).2))):=(ib.refl _ _).setCell (fun hk=>hk rfl) _;have CH:=rq.node (b:=b) (by rw[oY];simp) k7 (by show((p++(rd j d a c).1 :: (rd j d a c).2 :: q).map (jd d)).length <= 8;rw[pP];simp only[aa,aj] at hlen ⊢;exact hlen) Hr;have Ha:=yi.ij k7 qT;generalize w6.setCell ⟨b,2+(p.length+1),none⟩ (.string (fk d (rd j d a c).2))=w7 at Hr k7 CH Ha ⊢;refine iO ?_;refine im ?_;have tn:pT st (kv AO b ⟨false,(p++(rd j d a c).1 :: (rd j d a c).2 :: q).map (jd d),none⟩) (d+1) (jY b (p++a :: c :: q)) (jY b (p++(rd j d a c).1 :: (rd j d a c).2 :: q)) nx:=by
   refine pT.share (j:=j) j6 (fun awx hx=>?_) (fun Kj hx=>?_) (lz _ _ _) fun x h1 h2 h3=>?_
   ·rw[Ph] at hx
    injection hx with hx;injection hx with _ _ hx
    rw[jb CU.symm,ha5,hx]
   ·rw[G8] at hx
    injection hx with hx;injection hx with _ _ hx
    rw[jb Dp.symm,Sx,hx]
   ·rw[jb h1,<- tp,jb h3,jb h2]
  refine gY ?_;refine WQ.EE rfl ⟨rfl,fin CH tn (fun x hx=>?_) (.inr ⟨gZ,j,U7,th,hj3,hj4,rfl,Ha⟩)⟩
  by_cases e:x=b
  ·rw[e,hb];simp
  ·rw[jb e,<- tp] at hx
   by_cases e2:x=blk d c
   ·rw[e2,G8];simp
   ·rw[jb e2] at hx
    by_cases e3:x=blk d a
    ·rw[e3,Ph];simp
    ·rw[jb e3] at hx;exact hx
open Tre
theorem Gy {st:St}:∀ {l:List (Nat × List KV)}{nx:Option Nat},Lnk st l nx -> (∀q,nx=some q -> st q≠none) -> ∀x∈l,∀nd,st x.1=some nd -> ∀q,nd.next=some q -> st q≠none
 | [],_,_,_,_,h,_,_,_,_=>by cases h
 | a :: l,nx,h,wJ,x,hx,nd,zf,q,hq=>by
  rcases ar.1 hx with rfl|hx
  ·rw[h.1] at zf
   obtain rfl:=au zf;cases l with
   | nil=>exact wJ q hq
   | cons y l=>
    have:=(au hq).symm;subst this;rw[h.2.1];simp
  ·exact Gy h.2 wJ x hx nd zf q hq
theorem Yt {st:St}{ks:List (Tr d)}(h:At st (d+1) (jY b ks) nx) (wJ:∀q,nx=some q -> st q≠none) {s:Tr d}(hs:s∈ks): ∀nd,st (blk d s)=some nd -> ∀q,nd.next=some q -> st q≠none:=by
 intro nd zf q hq;cases d with
 | zero=>exact Gy h.sg wJ (s.1,s.2) (aB.2 ⟨s,hs,aZ.2 rfl⟩) nd zf q hq
 | succ d=>
  obtain⟨JJ,h1,h2⟩:=OI h hs;rw[h1] at zf;obtain rfl:=au zf;rw[h2 gZ] at hq;cases hq
theorem V9 {st:St}{t:Tr d}(h:At st d t nx): pT st st d t t nx:=⟨h,rfl,fun _=>rfl,fun _ hx=>hx,fun _ _=>rfl⟩
theorem Wg {st:St}{l r:List (Tr d)}{s:Tr d}(h:At st (d+1) (jY b (l++s :: r)) nx): At st d s (Tre.hd (r.flatMap (kE d)) nx):=by
 have hl:=h.sg;rw[mT,ai,an] at hl;obtain⟨-,h1⟩:=Lnk.app.1 hl;obtain⟨h1,-⟩:=Lnk.app.1 h1;exact⟨(lY.1 h.rep).2 s iz,h1,(bK.1 (aY.1 (D7 h.nodup)).2).1⟩
theorem ach {st:St}{l r:List (Tr d)}{s:Tr d}(h:At st (d+1) (jY b (l++s :: r)) nx) (wJ:∀q,nx=some q -> st q≠none /\ q ∉ ja (d+1) (jY b (l++s :: r))):
  ∀q,Tre.hd (r.flatMap (kE d)) nx=some q -> st q≠none /\ q ∉ ja d s:=by
 intro q hq;have hl:=h.sg;rw[mT,ai,an] at hl;obtain⟨-,h1⟩:=Lnk.app.1 hl;obtain⟨-,h1⟩:=Lnk.app.1 h1;cases hr:r.flatMap (kE d) with
 | nil=>
  rw[hr] at hq;obtain⟨h2,h3⟩:=wJ q hq;refine⟨h2,fun e=>h3 ?_⟩;rw[kF,ai,an];simp[e]
 | cons x y=>
  rw[hr] at hq h1;have:=(au hq).symm;subst this;refine⟨by rw[h1.1];simp,fun e=>?_⟩;have hd:=(bK.1 (aY.1 (D7 h.nodup)).2).2.2;have hm:x.1∈r.flatMap (ja d):=ml (by rw[hr];simp);exact hd _ e _ (aX _ hm) rfl
def Bh (w:World) (st:St) (tb:Nat) (root:Option Nat) (size N:Nat) (k:Ky) (d:Nat) (t:Tr d) (nx:Option Nat):Ending -> World -> Prop:=fun e w'=>
 e=.returned (.tuple #[Iq ((getL k (jt d t)).getD 0),.bool (getL k (jt d t)).isSome]) /\ ∃st' t',pT st st' d t t' nx /\ PS w st tb w' st' /\ (∀x,st' x≠none -> st x≠none) /\ jt d t'=lP k (jt d t) /\ Mn d t' /\ iQ d t <= iQ d t'+1 /\ h_ kR w' tb (mL root size (N+(ja d t').length)) /\ (ja d t').length <= (ja d t).length
theorem VO {st:St}{k:Ky}{es:List KV}(hm:Mem w st) (mC:st tb=none) (j6:At st 0 (qF b es) nx) (hs:qc es) (xF:es.length <= 8) (hh:h_ kR w tb (mL root size (N+1))):
  Calls prog 95 #[iF tb,iF b,.string k] w (Bh w st tb root size N k 0 (qF b es) nx):=by
 refine iY func95 ntmps95 ?_;have mY:=PS.start hm mC;have hb:st b=some ⟨true,ke es,nx⟩:=j6.sg.1;obtain⟨-,pb,vb⟩:=hm _ _ hb;have yj:tb≠b:=fun e=>by rw[<- e,mC] at hb;cases hb
 have l0:w.cell? ⟨b,0,none⟩=some (.bool true):=jN vb gZ;have mN:=Ei k (es.map Prod.fst);rw[av] at mN;have Jp:=An (k:=k) hs;have hda:=Pg (k:=k) hs;have stay:getL k es=none -> Bh w st tb root size N k 0 (qF b es) nx (.returned (.tuple #[Iq 0,.bool false])) w:=fun hg=>by
  refine⟨?_,st,qF b es,V9 j6,mY,fun _ h=>h,?_,xF,bJ _,hh,af _⟩
  ·show _=Ending.returned (.tuple #[Iq ((getL k es).getD 0),.bool (getL k es).isSome]);rw[hg];rfl
  ·show es=lP k es;rw[Vp hg]
 refine iu ?_;refine i_ func94 (IA (key:=k) vb (by show(ke es).length <= 8;rw[lZ];omega)) ?_;rintro w3 rfl
 simp only[Jh];generalize plc k (es.map Prod.fst)=p at mN Jp hda ⊢;have J7:=vV vb (lZ es)
 by_cases DA:p<es.length
 ·refine iu ?_
  refine j_ p (2+p) ?_;refine WL.on rfl rfl ?_;have hkp:=Bl vb (i:=p) gZ;rw[rU es DA] at hkp;refine ia hkp ?_
  by_cases hk:es[p].1=k
  ·have tB:(es.map Prod.fst)[p]? = some k:=by simp[DA,hk]
   rw[if_pos tB,ah DA] at Jp;rw[if_pos tB] at hda;have Et:=Tg vb (i:=p) gZ;rw[rU es DA] at Et;simp only at Et;refine gY ?_;refine WC.as 35 (.bool false) rfl (by rw[hk];simp) ?_;refine gY ?_;refine j_ p (10+p) ?_;refine ia Et ?_;refine gY ?_;refine i_ func128 (xZ (i:=p) vb (by show p<(ke es).length;rw[lZ];exact DA) (by show(ke es).length <= 8;rw[lZ];exact xF)) ?_;rintro w4 ⟨m8,v4⟩
   have qH:era (ke es) p=ke (lP k es):=by
    rw[hda];unfold ke era;rw[aK,cO,cU]
   simp only[qH] at v4;have j7:(lP k es).length+1=es.length:=by rw[hda];simp only[aa,aE,aQ];omega
   have oS:=mY.node (b:=b) (by rw[hb];simp) m8 (by show(ke (lP k es)).length <= 8;rw[lZ];omega) v4;have yc:=hh.ij m8 yj;refine gY ?_;refine WQ.nC rfl rfl rfl ⟨?_,kv st b ⟨true,ke (lP k es),nx⟩,qF b (lP k es),⟨⟨trivial,⟨lz _ _ _,trivial⟩,by simp[ja,qF]⟩,rfl,fun _=>rfl,fun _ h=>h,fun x hx=>jb fun e=>hx (by rw[e];simp[ja,qF])⟩,oS,fun x hx=>?_,rfl,?_,?_,yc,af _⟩
   ·show _=Ending.returned (.tuple #[Iq ((getL k es).getD 0),.bool (getL k es).isSome]);rw[Jp];rfl
   ·by_cases e:x=b
    ·rw[e,hb];simp
    ·rw[jb e] at hx;exact hx
   ·show(lP k es).length <= 8;omega
   ·show es.length <= (lP k es).length+1;omega
  ·have tB:¬(es.map Prod.fst)[p]? = some k:=by simp[DA,hk]
   rw[if_neg tB] at Jp;refine gY ?_;refine WC.as 35 (.bool true) rfl (by simp;exact fun e=>hk (JN e)) ?_;refine gY ?_;exact WQ.nC rfl rfl rfl (stay Jp)
 ·have tB:¬(es.map Prod.fst)[p]? = some k:=by rw[aG (by simp;omega)];simp
  rw[if_neg tB] at Jp;refine iu ?_;exact WQ.nC rfl rfl rfl (stay Jp)
open Tre
theorem UI {α:Type}(l:List α) (h:l≠[]): ∃p a,l=p++[a]:=⟨l.dropLast,l.getLast h,(List.dropLast_concat_getLast h).symm⟩
theorem Vd {ks:List (Tr d)}(h1:ks.length <= 8) (h2:∀s∈ks,4 <= iQ d s /\ Mn d s): Mn (d+1) (jY b ks):=wV.2 ⟨h1,h2⟩
theorem Zr {st uZ:St}{p q:List (Tr d)}{a c:Tr d}{t:Tr (d+1)}{k:Ky}(tn:pT st uZ (d+1) t (jY b (p++a :: c :: q)) nx) (zT:PS w st tb w' uZ) (qY:∀x,uZ x≠none -> st x≠none) (kU:jt (d+1) (jY b (p++a :: c :: q))=lP k (jt (d+1) t)) (Ab:iQ (d+1) t=(p++a :: c :: q).length) (mN:∀s∈p,4 <= iQ d s /\ Mn d s) (IS:∀s∈q,4 <= iQ d s /\ Mn d s) (Cs:Mn d a) (Co:Mn d c) (UP:3 <= iQ d a) (Cg:3 <= iQ d c) (sh:(ja (d+1) (jY b (p++a :: c :: q))).length <= (ja (d+1) t).length) (hlen:(p++a :: c :: q).length <= 8) (hm:m+1=N+(ja (d+1) (jY b (p++a :: c :: q))).length) (h:∃st' t',pT uZ st' (d+1) (jY b (p++a :: c :: q)) t' nx /\ PS w' uZ tb w2 st' /\ (∀x,st' x≠none -> uZ x≠none) /\
   ((iQ d a+iQ d c <= 8 /\ t'=jY b (p++jn d a c :: q) /\ h_ kR w2 tb (mL root size m)) \/ (8<iQ d a+iQ d c /\ ∃j,4 <= j /\ j <= 8 /\ j+4 <= iQ d a+iQ d c /\ iQ d a+iQ d c <= j+8 /\ t'=jY b (p++(rd j d a c).1 :: (rd j d a c).2 :: q) /\ h_ kR w2 tb (mL root size (m+1))))):
  ∃st' t',pT st st' (d+1) t t' nx /\ PS w st tb w2 st' /\ (∀x,st' x≠none -> st x≠none) /\ jt (d+1) t'=lP k (jt (d+1) t) /\ Mn (d+1) t' /\ iQ (d+1) t <= iQ (d+1) t'+1 /\ h_ kR w2 tb (mL root size (N+(ja (d+1) t').length)) /\ (ja (d+1) t').length <= (ja (d+1) t).length:=by
 obtain⟨st',t',h1,h2,h3,h4⟩:=h;have mY:=zT.step h2.mem h2.no h2.ij h2.new;refine⟨st',t',tn.trans h1,mY,fun x hx=>qY x (h3 x hx),?_⟩;have ahI:(ja (d+1) (jY b (p++a :: c :: q))).length=1+(p.flatMap (ja d)).length+(ja d a).length+(ja d c).length+(q.flatMap (ja d)).length:=by
  rw[kF];simp only[ai,an,aj,aa];omega
 rcases h4 with⟨hs,rfl,hh⟩|⟨hs,j,j1,j2,j3,j4,rfl,hh⟩
 ·have xU:(ja (d+1) (jY b (p++jn d a c :: q))).length+1=(ja (d+1) (jY b (p++a :: c :: q))).length:=by
   rw[ahI,kF];have:=afd d a c;simp only[ai,an,aj,aa];omega
  refine⟨?_,Vd ?_ ?_,?_,?_,gZ⟩
  ·rw[<- kU,nS,nS]
   simp only[ai,an,Pd,ao]
  ·simp only[aa,aj] at hlen ⊢;omega
  ·intro s lX
   simp only[aq,ar] at lX;rcases lX with lX|rfl|lX
   ·exact mN s lX
   ·exact⟨by rw[EP];omega,alh Cs Co hs⟩
   ·exact IS s lX
  ·rw[Ab,oU];simp only[aa,aj];omega
  ·rw[show N+(ja (d+1) (jY b (p++jn d a c :: q))).length=m by omega];exact hh
 ·have xU:(ja (d+1) (jY b (p++(rd j d a c).1 :: (rd j d a c).2 :: q))).length=(ja (d+1) (jY b (p++a :: c :: q))).length:=by
   rw[ahI,kF];have:=afH j d a c;simp only[ai,an,aj,aa];omega
  obtain⟨rc1,rc2⟩:=HY j d a c gZ;obtain⟨rm1,rm2⟩:=acA (j:=j) Cs Co j2 gZ gZ;refine⟨?_,Vd ?_ ?_,?_,?_,gZ⟩
  ·rw[<- kU,nS,nS]
   simp only[ai,an];rw[<- ao (jt d (rd j d a c).1),Xe,ao]
  ·simp only[aa,aj] at hlen ⊢;omega
  ·intro s lX
   simp only[aq,ar] at lX;rcases lX with lX|rfl|rfl|lX
   ·exact mN s lX
   ·exact⟨gZ,rm1⟩
   ·exact⟨gZ,rm2⟩
   ·exact IS s lX
  ·rw[Ab,oU];simp only[aa,aj];omega
  ·rw[xU,<- hm];exact hh
theorem MK:∀(d:Nat) {w:World}{st:St}{tb size N:Nat}{root:Option Nat}{k:Ky}{t:Tr d}{nx:Option Nat}(_:Mem w st) (_:st tb=none) (_:At st d t nx) (_:∀q,nx=some q -> st q≠none /\ q ∉ ja d t) (_:qc (jt d t)) (_:Mn d t) (_:d=0 \/ 2 <= iQ d t)
  (_:h_ kR w tb (mL root size (N+(ja d t).length))) (_:N+(ja d t).length<4611686018427387904),
  Calls prog 95 #[iF tb,.pointer (some ⟨blk d t,0,none⟩),.string k] w (Bh w st tb root size N k d t nx)
 | 0,w,st,tb,size,N,root,k,t,nx,hm,mC,j6,_,hs,xF,_,hh,_=>by
  obtain⟨b,es⟩:=t;exact VO hm mC j6 hs xF hh
 | d+1,w,st,tb,size,N,root,k,t,nx,hm,mC,j6,wJ,hs,xF,h2,hh,rz=>by
  obtain⟨b,ks⟩:=t;have j6:At st (d+1) (jY b ks) nx:=j6;have h2:2 <= ks.length:=by rcases h2 with e|e;cases e;exact e
  obtain⟨yq,tk⟩:ks.length <= 8 /\ ∀s∈ks,4 <= iQ d s /\ Mn d s:=wV.1 xF;have hs:qc (ks.flatMap (jt d)):=hs
  show Calls prog 95 #[iF tb,iF b,.string k] w (Bh w st tb root size N k (d+1) (jY b ks) nx)
  refine iY func95 ntmps95 ?_;have mY:=PS.start hm mC;have hb:=(lY.1 j6.rep).1;obtain⟨-,pb,vb⟩:=hm _ _ hb;have yj:tb≠b:=fun e=>by rw[<- e,mC] at hb;cases hb
  have pP:∀l:List (Tr d),(l.map (jd d)).length=l.length:=fun l=>av ..;have l0:w.cell? ⟨b,0,none⟩=some (.bool false):=jN vb gZ;refine iu ?_;refine i_ func93 (Fj (key:=k) vb (by show(ks.map (jd d)).length <= 8;rw[pP];omega) (by show 1 <= (ks.map (jd d)).length;rw[pP];omega)) ?_;rintro w3 rfl
  obtain⟨l,s,r,yX,Jk,rM,qx,-⟩:=Eb (k:=k) (fun x hx=>sC (tk x hx).2 (by have:=(tk x hx).1;omega)) hs (fun e=>by rw[e] at h2;simp at h2);simp only[BM,pP];rw[<- Jk];subst yX;clear Jk l0;have hl7:l.length<8:=by simp only[aa,aj] at yq;omega
  have wQ:=Ex vb (i:=l.length) (q:=blk d s) gZ (by show(((l++s :: r).map (jd d)).getD l.length jD).m7=_;rw[vg];rfl);have hss:qc (jt d s):=by
   rw[ai,an] at hs;exact(pJ.1 (pJ.1 hs).2.1).1
  have lX:=tk s iz;have xU:(ja (d+1) (jY b (l++s :: r))).length=1+(l.flatMap (ja d)).length+(ja d s).length+(r.flatMap (ja d)).length:=by
   rw[kF];simp only[ai,an,aj,aa];omega
  have HA:=D7 j6.nodup;obtain⟨N',hN'⟩:∃N',N+1+(l.flatMap (ja d)).length+(r.flatMap (ja d)).length=N':=⟨_,rfl⟩;have hh':h_ kR w3 tb (mL root size (N'+(ja d s).length)):=by
   have e:N+(ja (d+1) (jY b (l++s :: r))).length=N'+(ja d s).length:=gZ;have:=hh;rw[show N+(ja (d+1) (b,l++s :: r)).length=N'+(ja d s).length from e] at this;exact this
  have akG:N'+(ja d s).length<4611686018427387904:=by
   have:N+(ja (d+1) (jY b (l++s :: r))).length<4611686018427387904:=rz;omega
  refine gY ?_;refine j_ l.length (18+l.length) ?_;refine ia wQ ?_;refine gY ?_;refine i_ func95 (MK d (k:=k) hm mC (Wg j6) (ach j6 wJ) hss lX.2 gZ hh' akG) ?_;rintro w4 ⟨Ko,s',mo,oS,Lc,aqq,R3,as6,yc,aww⟩
  have qM:getL k (jt (d+1) (jY b (l++s :: r)))=getL k (jt d s):=by
   rw[nS,ai,an,JR rM,Ag qx]
  -- the kid's key anew
  have lD:Ko b=some ⟨false,(l++s :: r).map (jd d),none⟩:=by
   rw[mo.same b (fun e=>(aY.1 HA).1 (aV _ e))];exact hb
  obtain⟨-,pb4,Lm⟩:=oS.mem _ _ lD;have ad3:=Ex Lm (i:=l.length) (q:=blk d s) gZ (by show(((l++s :: r).map (jd d)).getD l.length jD).m7=_;rw[vg];rfl);obtain⟨nxs,hs4,-⟩:=nodeAt mo.here.rep mo.here.sg;rw[mo.blk] at hs4;obtain⟨-,ps4,vs4⟩:=oS.mem _ _ hs4;obtain⟨C,hC⟩:∃C,iQ d s'=C:=⟨_,rfl⟩;have hC3:3 <= C:=gZ;have YF:C <= 8:=by rw[<- hC];exact R3.le
  have mg:(iv d s').length=C:=by rw[vt,hC]
  have hcs:=vV vs4 mg;have q1:=Bl vs4 (i:=0) gZ;simp only[yI R3 (by omega:1 <= iQ d s')] at q1;refine gY ?_;refine j_ l.length (18+l.length) ?_;refine ia ad3 ?_;refine iu ?_;refine WC.drawn 15 (fun wx=>wx.heap=w4.heap) fun w5 hd=>?_;have hS:=hd.heap;have m9:=oS.step (oS.mem.below (hd.below _)) oS.no (ib.nE hd _) fun x hx=>.inl hx;have AJ:=Lm.below (hd.below _) Lm.lt;have uq:=yc.below (hd.below _) yc.lt;clear hd;refine iq [0,1,2,3,4,5] hS ?_;refine jr 6 l.length (18+l.length) (.inr hS) ?_;refine ik 7 [8,9,10,11,14,15] (fun wx hx=>(jJ hx _).trans ad3) hS ?_;refine iq [8,9] hS ?_;refine jr 10 0 2 (.inr hS) ?_;refine ik 11 [14,15] (fun wx hx=>(jJ hx _).trans q1) hS ?_;refine iq [12,13] hS ?_;refine jr 14 l.length (2+l.length) (.inr hS) ?_;refine iI 15 ?_;refine WL.store rfl rfl rfl rfl rfl rfl (by kernel_rfl) (jN AJ gZ) (AJ.free _) ?_;have AW:=ud AJ (2+l.length) (.string (fk d s'));rw[JP _ _ (by show l.length<((l++s :: r).map (jd d)).length;rw[pP];simp) (by show((l++s :: r).map (jd d)).length <= 8;rw[pP];exact yq)] at AW;have oy:((l++s :: r).map (jd d)).set l.length ⟨fk d s',(((l++s :: r).map (jd d)).getD l.length jD).num,(((l++s :: r).map (jd d)).getD l.length jD).m7⟩=(l++s' :: r).map (jd d):=by
   rw[Qb,vg];simp only[aK,aM,jd];rw[mo.blk]
  simp only[oy] at AW;have k6:ib (fun x=>x≠b) w5 (w5.setCell ⟨b,2+l.length,none⟩ (.string (fk d s'))):=(ib.refl _ _).setCell (fun hk=>hk rfl) _;have Ge:(l++s' :: r).length=(l++s :: r).length:=iz;have rq:=m9.node (b:=b) (by rw[lD];simp) k6 (by show((l++s' :: r).map (jd d)).length <= 8;rw[pP,Ge];exact yq) AW;have yi:=uq.ij k6 yj;generalize w5.setCell ⟨b,2+l.length,none⟩ (.string (fk d s'))=w6 at AW k6 rq yi ⊢;refine iO ?_;refine im ?_;have tn:=pT.m7 j6 mo;obtain⟨Sf,Wx⟩:∃Sf,kv Ko b ⟨false,(l++s' :: r).map (jd d),none⟩=Sf:=⟨_,rfl⟩;rw[Wx] at rq tn;have hd6:∀x,Sf x≠none -> st x≠none:=fun x hx=>by
   by_cases e:x=b
   ·rw[e,hb];simp
   ·rw[<- Wx,jb e] at hx;exact Lc x hx
  have JV:jt (d+1) (jY b (l++s' :: r))=lP k (jt (d+1) (jY b (l++s :: r))):=by
   rw[nS,nS,ai,ai,an,an,MQ,MQ,adi rM,Ks qx,aqq]
  have qA:Sf b=some ⟨false,(l++s' :: r).map (jd d),none⟩:=by rw[<- Wx,lz]
  have hs6:Sf (blk d s)=some ⟨d == 0,iv d s',nxs⟩:=by
   rw[<- Wx,jb (fun e=>(aY.1 HA).1 (by rw[<- e];exact aV _ (pI d s)))];exact hs4
  obtain⟨-,ps6,vs6⟩:=rq.mem _ _ hs6;have avZ:=vV vs6 mg;have aiM:=Ex AW (i:=l.length) (q:=blk d s) gZ (by show(((l++s' :: r).map (jd d)).getD l.length jD).m7=_;rw[vg];show some (blk d s')=_;rw[mo.blk]);have awz:=vV AW (n:=(l++s :: r).length) (by show((l++s' :: r).map (jd d)).length=_;rw[pP,Ge]);have Tt:(ja (d+1) (jY b (l++s' :: r))).length=1+(l.flatMap (ja d)).length+(ja d s').length+(r.flatMap (ja d)).length:=by
   rw[kF];simp only[ai,an,aj,aa];omega
  have Wn:h_ kR w6 tb (mL root size (N+(ja (d+1) (jY b (l++s' :: r))).length)):=by
   rw[Tt,show N+(1+(l.flatMap (ja d)).length+(ja d s').length+(r.flatMap (ja d)).length)=N'+(ja d s').length by omega];exact yi
  have fin:∀ {wz:World},(∃st' t',pT st st' (d+1) (jY b (l++s :: r)) t' nx /\ PS w3 st tb wz st' /\ (∀x,st' x≠none -> st x≠none) /\ jt (d+1) t'=lP k (jt (d+1) (jY b (l++s :: r))) /\ Mn (d+1) t' /\ iQ (d+1) (jY b (l++s :: r)) <= iQ (d+1) t'+1 /\ h_ kR wz tb (mL root size (N+(ja (d+1) t').length)) /\ (ja (d+1) t').length <= (ja (d+1) (jY b (l++s :: r))).length) ->
    Bh w3 st tb root size N k (d+1) (jY b (l++s :: r)) nx (.returned (.tuple #[Iq ((getL k (jt d s)).getD 0),.bool (getL k (jt d s)).isSome])) wz:=fun h=>⟨by rw[qM],h⟩
  clear hcs q1 wQ ad3 vs4 Lm AJ vb hh yc uq yi hh' oS m9
  by_cases hC4:4 <= C
  ·refine gY ?_
   refine j_ l.length (18+l.length) ?_;refine ia aiM ?_;refine iu ?_;refine WQ.nC rfl rfl rfl (fin ⟨Sf,jY b (l++s' :: r),tn,rq,hd6,JV,Vd (by rw[Ge];exact yq) fun x hx=>?_,by rw[oU,oU,Ge];exact bJ _,Wn,gZ⟩);simp only[aq,ar] at hx;rcases hx with hx|rfl|hx
   ·exact tk x (by simp[hx])
   ·exact⟨gZ,R3⟩
   ·exact tk x (by simp[hx])
  ·obtain rfl:C=3:=gZ
   have apy:∀q,nx=some q -> Sf q≠none:=fun q hq=>by
    obtain⟨h1,h2⟩:=wJ q hq;rw[tn.same q h2];exact h1
   refine gY ?_;refine j_ l.length (18+l.length) ?_;refine ia aiM ?_;refine iu ?_;obtain⟨p,a,c,q,hpq,mN,hp4,hq4,Cs,Co,UP,Cg,h33⟩:∃p a c q,l++s' :: r=p++a :: c :: q /\ p.length=l.length - 1 /\ (∀x∈p,4 <= iQ d x /\ Mn d x) /\ (∀x∈q,4 <= iQ d x /\ Mn d x) /\ Mn d a /\ Mn d c /\ 3 <= iQ d a /\ 3 <= iQ d c /\ (iQ d a=3 \/ iQ d c=3):=by
    by_cases hl:l=[]
    ·subst hl
     cases r with
     | nil=>simp at h2
     | cons c q=>
      have hc:=tk c iz;exact⟨[],s',c,q,rfl,rfl,fun x hx=>(by cases hx),fun x hx=>tk x (by simp[hx]),R3,hc.2,gZ,gZ,.inl hC⟩
    ·obtain⟨p,a,rfl⟩:=UI l hl
     have ha:=tk a iz;exact⟨p,a,s',r,iz,iz,fun x hx=>tk x (by simp[hx]),fun x hx=>tk x (by simp[hx]),ha.2,R3,gZ,gZ,.inr hC⟩
   have Ab:iQ (d+1) (jY b (l++s :: r))=(p++a :: c :: q).length:=by rw[<- hpq,oU,Ge]
   have Cn:(p++a :: c :: q).length <= 8:=by rw[<- hpq,Ge];exact yq
   rw[hpq] at tn JV Wn;obtain⟨m,hmm⟩:∃m,m+1=N+(ja (d+1) (jY b (p++a :: c :: q))).length:=⟨N+(ja (d+1) (jY b (p++a :: c :: q))).length - 1,by rw[kF,aj];omega⟩;rw[<- hmm] at Wn;have LI:m<4611686018427387904:=by
    have e:=Tt;rw[hpq] at e;omega
   refine WL.as 107 (Iq p.length) rfl (congrArg (Value.int .i64) (by rw[mN];show(if((l.length:Int) - 1)>0 then((l.length:Int) - 1) else 0)=_;split<;>omega)) ?_;refine i_ func129 (V2 (p:=p) (a:=a) (c:=c) (q:=q) rq.mem rq.no tn.here (Yt tn.here apy iz) Cs Co UP Cg h33 Cn Wn LI) ?_;rintro w7 h7
   refine gY ?_;exact WQ.nC rfl rfl rfl (fin (Zr tn rq hd6 JV Ab hp4 hq4 Cs Co UP Cg (by rw[<- hpq];omega) Cn hmm h7))
open Tre
theorem Er {k:Ky}{l:List KV}(h:qc l): (lP k l).length+(if(getL k l).isSome then 1 else 0)=l.length:=by
 have hp:=Ei k (l.map Prod.fst);rw[av] at hp;rw[Pg h,An h]
 by_cases c:(l.map Prod.fst)[plc k (l.map Prod.fst)]? = some k
 ·have iS:plc k (l.map Prod.fst)<l.length:=by
   rcases aO (plc k (l.map Prod.fst)) l.length with h|h
   ·exact h
   ·rw[aG (by simpa using h)] at c;cases c
  rw[if_pos c,if_pos c,ah iS];simp only[aa,aE,aQ,dD,Option.isSome_some,if_true];omega
 ·rw[if_neg c,if_neg c]
  simp
structure DX where
 D:Nat
 T:Tr D
structure DW (w:World) (st:St) (tb:Nat) (L:List KV) (w':World) (x:DX) (st':St):Prop where
 ps:PS w st tb w' st'
 here:At st' x.D x.T none
 el:jt x.D x.T=L
 mn:Mn x.D x.T
 one:x.D=0 \/ 1 <= iQ x.D x.T
 jh:h_ kR w' tb (mL (some (blk x.D x.T)) L.length (ja x.D x.T).length)
theorem YS {st:St}{l:List KV}(h:uc w st tb l) (k:Ky) (hl:l.length<1000000000):
  Calls prog 62 #[iF tb,.string k] w fun e w'=>∃st',e=.returned (.tuple #[Iq ((getL k l).getD 0),.bool (getL k l).isSome]) /\ uc w' st' tb (lP k l) /\ ib (rY st tb w) w w' /\ RA st w st':=by
 refine iY func62 ntmps62 ?_;obtain⟨hm,qT,root,nn,ht,kK⟩:=h;have lU:=kK.uC;have mY:=PS.start hm qT;have h0:w.cell? ⟨tb,0,none⟩=some (lh root):=ht.cell 0 (by simp[mL]);refine gY ?_;refine jc ?_;refine iu ?_;refine WL.as 14 (.pointer (root.map fun b=>⟨b,0,none⟩)) rfl (by cases root<;>rfl) ?_;refine jc ?_;rcases kK with⟨rfl,rfl,rfl⟩|⟨D,T,rfl,hg,rfl,tC⟩
 ·refine gY ?_
  exact WQ.nC rfl rfl rfl ⟨st,rfl,⟨hm,qT,none,0,ht,.inl ⟨rfl,rfl,rfl⟩⟩,mY.ij,mY.new⟩
 have MW:=(Tre.YP hg.mn hg.root).1;rw[hg.el] at MW;have BZ:=x_ ht;refine iu ?_;have hT:h_ kR w tb (mL (some (blk D T)) l.length (0+(ja D T).length)):=by rw[a_];exact ht
 clear h0;obtain⟨h0,h1,-⟩:=BZ;refine iu ?_;refine i_ func95 (MK D (k:=k) (nx:=none) hm qT ⟨hg.rep,hg.sg,hg.nodup⟩ (fun q hq=>by cases hq) (by rw[hg.el];exact lU) hg.mn hg.root hT gZ) ?_;rintro w1 ⟨xr,T1,mo,RJ,-,TJ,ad1,alN,BZ,-⟩
 rw[hg.el] at TJ;rw[hg.el];rw[a_] at BZ;have j7:=Er (k:=k) lU;have lx:D=0 \/ 1 <= iQ D T1:=hg.root.imp id fun h=>gZ;obtain⟨G,hG⟩:∃G,getL k l=G:=⟨_,rfl⟩;rw[hG] at j7 ⊢;refine iu ?_
 -- one text less
 refine WC.sa (fun _:Unit=>[(0,iF tb),(6,Iq (G.getD 0)),(7,.bool G.isSome)]) (fun _ w'=>DW w st tb (lP k l) w' ⟨D,T1⟩ xr) rfl ?_ ?_
 ·cases G with
  | none=>
   have Be:(lP k l).length=l.length:=by simpa using j7
   refine WC.condFalse rfl ?_;refine gY ?_;exact WQ.meet () iW ⟨RJ,mo.here,TJ,ad1,lx,by rw[Be,mo.blk];exact BZ⟩
  | some v=>
   have Be:(lP k l).length+1=l.length:=by simpa using j7
   refine WC.condTrue rfl ?_;obtain⟨-,B0,-⟩:=x_ BZ;refine iu ?_;refine iD B0 (BZ.free 1) ?_;have JK:h_ kR (w1.setCell ⟨tb,1,none⟩ (Iq ((l.length:Int) - 1))) tb (mL (some (blk D T)) (lP k l).length (ja D T1).length):=by
    have:=BZ.set 1 (Iq ((l.length:Int) - 1));rw[show((l.length:Int) - 1)=((lP k l).length:Int) by omega] at this ⊢;exact this
   have zT:=RJ.jh 1 (Iq ((l.length:Int) - 1));generalize w1.setCell ⟨tb,1,none⟩ (Iq ((l.length:Int) - 1))=w2 at JK zT ⊢;refine gY ?_;exact WQ.meet () iW ⟨zT,mo.here,TJ,ad1,lx,by rw[mo.blk];exact JK⟩
 clear BZ RJ mo TJ ad1 alN lx hT ht h0 h1 mY j7;rintro⟨⟩ w2 wB;have Uf:qc (lP k l):=Nt lU;obtain⟨L,hL⟩:∃L,lP k l=L:=⟨_,rfl⟩;rw[hL] at wB Uf ⊢;have OW:∀ {wz:World}{D':Nat}{T':Tr D'}{st':St},DW w st tb L wz ⟨D',T'⟩ st' -> (D'=0 \/ 2 <= iQ D' T') -> 1 <= iQ D' T' -> ∃st',(Ending.returned (.tuple #[Iq (G.getD 0),.bool G.isSome]))=.returned (.tuple #[Iq (G.getD 0),.bool G.isSome]) /\ uc wz st' tb L /\ ib (rY st tb w) w wz /\ RA st w st' :=
  fun {wz D' T' st'} hd h2 h1=>⟨st',rfl,⟨hd.ps.mem,hd.ps.no,_,_,hd.jh,.inr ⟨D',T',rfl,⟨hd.here.rep,hd.here.sg,hd.here.nodup,hd.el,Uf,hd.mn,h2⟩,rfl,h1⟩⟩,hd.ps.ij,hd.ps.new⟩
 refine sY ?_;refine WC.block ?_;refine WC.loop (fun x:DX=>[(0,iF tb),(6,Iq (G.getD 0)),(7,.bool G.isSome)]) (fun x w'=>∃st',DW w st tb L w' x st') (fun x=>x.D) ⟨D,T1⟩ iW ⟨xr,wB⟩ ?_;clear wB;rintro⟨D',T'⟩ wr ⟨st',wB⟩;obtain⟨h0,-,h2⟩:=x_ wB.jh;obtain⟨nx,pS,-⟩:=nodeAt wB.here.rep wB.here.sg;obtain⟨-,pv,vr⟩:=wB.ps.mem _ _ pS;have LB:wr.cell? ⟨blk D' T',0,none⟩=some (.bool (D' == 0)):=jN vr gZ;obtain⟨C,hC⟩:∃C,iQ D' T'=C:=⟨_,rfl⟩;have YF:C <= 8:=by rw[<- hC];exact wB.mn.le
 have mg:(iv D' T').length=C:=by rw[vt,hC]
 have mo:=vV vr mg;cases D' with
 | zero=>
  have aqx:wr.cell? ⟨blk 0 T',0,none⟩=some (.bool true):=LB;clear LB
  by_cases hz:C=0
  ·have YB:jt 0 T'=[]:=bV.1 (show List.length T'.2=0 by have:List.length T'.2=C:=hC;omega)
   have zn:L=[]:=by rw[<- wB.el];exact YB
   subst zn;refine iu ?_;refine iD h0 (wB.jh.free 0) ?_;have A5:h_ kR (wr.setCell ⟨tb,0,none⟩ (.pointer none)) tb (mL none 0 1):=wB.jh.set 0 _;have uO:=wB.ps.jh 0 (.pointer none);generalize wr.setCell ⟨tb,0,none⟩ (.pointer none)=w3 at A5 uO ⊢;refine gY ?_;refine iD (A5.cell 2 (by simp[mL])) (A5.free 2) ?_;have yc:h_ kR (w3.setCell ⟨tb,2,none⟩ (Iq 0)) tb (mL none 0 0):=A5.set 2 _;have oS:=uO.jh 2 (Iq 0);generalize w3.setCell ⟨tb,2,none⟩ (Iq 0)=w4 at yc oS ⊢;refine gY ?_;exact WQ.nC rfl rfl rfl ⟨st',rfl,⟨oS.mem,oS.no,none,0,yc,.inl ⟨rfl,rfl,rfl⟩⟩,oS.ij,oS.new⟩
  ·refine iu ?_
   exact WQ.nC rfl rfl rfl (OW wB (.inl rfl) (by rw[hC];omega))
 | succ D'=>
  have aqx:wr.cell? ⟨blk (D'+1) T',0,none⟩=some (.bool false):=LB;clear LB;have hC1:1 <= C:=by rcases wB.one with e|e;cases e;rw[hC] at e;exact e
  by_cases hz:C=1
  ·obtain⟨b,ks⟩:=T'
   obtain⟨s,rfl⟩:∃s,ks=[s]:=List.length_eq_one_iff.1 (show ks.length=1 by have:ks.length=C:=hC;omega);have hh:At st' (D'+1) (jY b ([]++s :: [])) none:=wB.here;have aoz:=Wg hh;have lX:=wB.mn.2 s (List.Mem.head _);have wQ:=Ex vr (i:=0) (q:=blk D' s) gZ rfl;have arp:wr.cell? ⟨blk (D'+1) (b,[s]),18,none⟩=some (.pointer (some ⟨blk D' s,0,none⟩)):=wQ;have xU:(ja (D'+1) (jY b [s])).length=(ja D' s).length+1:=by rw[kF];simp
   have Tt:(ja (D'+1) (b,[s])).length=(ja D' s).length+1:=xU;rw[Tt] at h2;refine iu ?_;refine j_ 0 18 ?_;refine ia arp ?_;refine gY ?_;refine iD h0 (wB.jh.free 0) ?_;have A5:h_ kR (wr.setCell ⟨tb,0,none⟩ (.pointer (some ⟨blk D' s,0,none⟩))) tb (mL (some (blk D' s)) L.length ((ja D' s).length+1)):=by
    have:=wB.jh.set 0 (.pointer (some ⟨blk D' s,0,none⟩));rw[Tt] at this;exact this
   have uO:=wB.ps.jh 0 (.pointer (some ⟨blk D' s,0,none⟩));generalize wr.setCell ⟨tb,0,none⟩ (.pointer (some ⟨blk D' s,0,none⟩))=w3 at A5 uO ⊢;clear h0 h2 mo;obtain⟨-,-,h2⟩:=x_ A5;have j5:(ja D' s).length <= L.length+1:=by
    have:=(Tre.YP lX.2 (.inr gZ)).1;have he:jt D' s=L:=by have:=wB.el;simpa[jt] using this
    rwa [he] at this
   have EA:L.length <= l.length:=by have:=Er (k:=k) lU;rw[hL] at this;omega
   refine iu ?_;refine iD h2 (A5.free 2) ?_;have yc:h_ kR (w3.setCell ⟨tb,2,none⟩ (Iq ((((ja D' s).length+1:Nat):Int) - 1))) tb (mL (some (blk D' s)) L.length (ja D' s).length):=by
    have:=A5.set 2 (Iq ((((ja D' s).length+1:Nat):Int) - 1));rw[show((((ja D' s).length+1:Nat):Int) - 1)=((ja D' s).length:Int) by omega] at this ⊢;exact this
   have oS:=uO.jh 2 (Iq ((((ja D' s).length+1:Nat):Int) - 1));generalize w3.setCell ⟨tb,2,none⟩ (Iq ((((ja D' s).length+1:Nat):Int) - 1))=w4 at yc oS ⊢;refine gY ?_;refine WQ.again ⟨D',s⟩ iW ⟨st',oS,aoz,?_,lX.2,.inr (by show 1 <= iQ D' s;omega),yc⟩ (by show D'<D'+1;omega);have:=wB.el
   simpa[jt] using this
  ·refine iu ?_
   exact WQ.nC rfl rfl rfl (OW wB (.inr (by rw[hC];omega)) (by rw[hC];omega))
open Tre
theorem Q4: prog.built kR []=some (mL none 0 0).toArray:=by kernel_rfl
def oK:St:=fun _=>none
theorem Yf: Calls prog 64 #[] w fun e w'=>∃tb,e=.returned (iF tb) /\ uc w' oK tb [] /\ iB w w' /\ w.heap.size <= tb:=by
 refine iY func64 ntmps64 ?_;refine gY ?_;refine iE (mL none 0 0) Q4 ?_;refine iC fun g w1 I9=>?_;have hf:jl w g w1 kR (mL none 0 0):=I9;clear I9;refine gY ?_;exact g_ ⟨g,rfl,⟨fun b nd h=>(by cases h),rfl,none,0,hf.blk,.inl ⟨rfl,rfl,rfl⟩⟩,hf.below,by rw[hf.eq];exact af _⟩
theorem Y3 {st:St}{l:List KV}(h:uc w st tb l): Calls prog 36 #[iF tb] w fun e w'=>e=.returned (Iq l.length) /\ w'=w:=by
 refine iY func36 ntmps36 ?_;obtain⟨-,-,root,nn,ht,-⟩:=h;have h1:w.cell? ⟨tb,1,none⟩=some (Iq l.length):=ht.cell 1 (by simp[mL]);refine gY ?_;refine jc ?_;refine iu ?_;exact g_ ⟨rfl,rfl⟩
open Tre
structure agz (st:St) (k:Ky) (l:List KV) (A:List (Nat × List KV)) (b:Nat) (es:List KV) (B:List (Nat × List KV)):Prop where
 sg:Lnk st (A++(b,es) :: B) none
 el:l=A.flatMap Prod.snd++(es++B.flatMap Prod.snd)
 lo:Lo (A.flatMap Prod.snd) k
 hi:Hi (B.flatMap Prod.snd) k
structure LX where
 A:List (Nat × List KV)
 d:Nat
 t:Tr d
 B:List (Nat × List KV)
theorem BF (l:List (Tr d)): (l.flatMap (kE d)).flatMap Prod.snd=l.flatMap (jt d):=by
 rw[List.flatMap_assoc];exact congrArg (fun f=>List.flatMap f l) (funext fun s=>(QA d s).symm)
theorem VL {st:St}{l:List KV}(h:uc w st tb l) (k:Ky): Calls prog 132 #[iF tb,.string k] w fun e w'=>iB w w' /\
  ((e=.returned (.pointer none) /\ l=[]) \/ ∃A b es B,e=.returned (iF b) /\ agz st k l A b es B):=by
 refine iY func132 ntmps132 ?_;obtain⟨hm,qT,root,nn,ht,kK⟩:=h;have lU:=kK.uC;have h0:w.cell? ⟨tb,0,none⟩=some (lh root):=ht.cell 0 (by simp[mL]);refine gY ?_;refine jc ?_;refine iu ?_;refine WL.as 12 (.pointer (root.map fun b=>⟨b,0,none⟩)) rfl (by cases root<;>rfl) ?_;refine jc ?_;rcases kK with⟨rfl,rfl,rfl⟩|⟨D,T,rfl,hg,rfl,tC⟩
 ·refine gY ?_
  exact g_ ⟨Below.refl _ _,.inl ⟨rfl,rfl⟩⟩
 clear h0;have h0:=(x_ ht).1;refine iu ?_;refine WC.loop (fun x:LX=>[(0,iF tb),(1,.string k),(5,.pointer (some ⟨blk x.d x.t,0,none⟩))])
  (fun x w'=>iB w w' /\ Lnk st (x.A++kE x.d x.t++x.B) none /\ l=x.A.flatMap Prod.snd++(jt x.d x.t++x.B.flatMap Prod.snd) /\ Lo (x.A.flatMap Prod.snd) k /\ Hi (x.B.flatMap Prod.snd) k /\ pN x.d st x.t /\ Mn x.d x.t /\ (x.d=0 \/ 2 <= iQ x.d x.t)) (fun x=>x.d) ⟨[],D,T,[]⟩ iW
  ⟨Below.refl _ _,by simpa using hg.sg,by simpa using hg.el.symm,Lo.nil,Hi.nil,hg.rep,hg.mn,hg.root⟩ ?_
 rintro⟨A,d,t,B⟩ wr ⟨hb,wO,kU,rM,qx,hr,xF,hc⟩;simp only at wO kU rM qx hr xF hc;have ZH:=hm.below hb;cases d with
 | zero=>
  obtain⟨b,es⟩:=t;change WC _ _ _ [(0,iF tb),(1,.string k),(5,iF b)] wr;have aio:Lnk st (A++(b,es) :: B) none:=by
   have:A++kE 0 (b,es)++B=A++(b,es) :: B:=by simp[kE]
   rw[this] at wO;exact wO
  have pS:st b=some ⟨true,ke es,Tre.hd B none⟩:=(Lnk.app.1 aio).2.1;obtain⟨-,pv,vb⟩:=ZH _ _ pS;have l0:wr.cell? ⟨b,0,none⟩=some (.bool true):=jN vb gZ;refine iu ?_;exact g_ ⟨hb,.inr ⟨A,b,es,B,rfl,⟨aio,kU,rM,qx⟩⟩⟩
 | succ d=>
  obtain⟨b,ks⟩:=t;change WC _ _ _ [(0,iF tb),(1,.string k),(5,iF b)] wr;have h2:2 <= ks.length:=by rcases hc with e|e;cases e;exact e
  obtain⟨yq,tk⟩:ks.length <= 8 /\ ∀s∈ks,4 <= iQ d s /\ Mn d s:=xF;have hss:qc (ks.flatMap (jt d)):=by
   rw[kU] at lU;exact(pJ.1 (pJ.1 lU).2.1).1
  have pS:st b=some ⟨false,ks.map (jd d),none⟩:=hr.1;obtain⟨-,pv,vb⟩:=ZH _ _ pS;have l0:wr.cell? ⟨b,0,none⟩=some (.bool false):=jN vb gZ;have pP:∀q:List (Tr d),(q.map (jd d)).length=q.length:=fun q=>av ..;obtain⟨mA,s,kr,yX,Jk,aqY,ary,-⟩:=Eb (k:=k) (fun x hx=>sC (tk x hx).2 (by have:=(tk x hx).1;omega)) hss (fun e=>by rw[e] at h2;simp at h2);have Cn:mA.length<8:=by rw[yX] at yq;simp only[aa,aj] at yq;omega
  have wQ:=Ex vb (i:=mA.length) (q:=blk d s) gZ (by show((ks.map (jd d)).getD mA.length jD).m7=_;rw[yX,vg];rfl);refine iu ?_;refine WC.drawn 8 (fun wx=>wx.heap=wr.heap) fun w2 hd=>?_;have hS:=hd.heap;have jg:=hb.trans (hd.below _);have FQ:=vb.below (hd.below _) vb.lt;clear hd;refine iq [0,1,2,4,5] hS ?_;refine iI 3 ?_;refine il func93 (Fj (key:=k) FQ (by show(ks.map (jd d)).length <= 8;rw[pP];omega) (by show 1 <= (ks.map (jd d)).length;rw[pP];omega)) ?_;rintro _ w3 ⟨rfl,mG⟩;subst mG;refine⟨_,rfl,?_⟩;simp only[BM,pP];rw[<- Jk];refine km hS ?_;refine jr 6 mA.length (18+mA.length) (.inr hS) ?_;refine ik 7 [8] (fun wx hx=>(jJ hx _).trans wQ) hS ?_;refine iI 8 ?_;refine iA ?_;refine iO ?_;refine im ?_;refine gY ?_;have lX:=tk s (by rw[yX];simp);refine WQ.again ⟨A++mA.flatMap (kE d),d,s,kr.flatMap (kE d)++B⟩ iW ⟨jg,?_,?_,?_,?_,hr.2 s (by show List.Mem s ks;rw[yX];exact(aq.2 (.inr (cj ..)):s∈mA++s :: kr)),lX.2,.inr (by show 2 <= iQ d s;omega)⟩ (by show d<d+1;omega)
  ·have e:A++kE (d+1) (b,ks)++B=A++mA.flatMap (kE d)++kE d s++(kr.flatMap (kE d)++B):=by
    show A++List.flatMap (kE d) ks++B=_
    rw[yX,ai,an];simp only[ao]
   rw[e] at wO;exact wO
  ·show l=(A++mA.flatMap (kE d)).flatMap Prod.snd++(jt d s++(kr.flatMap (kE d)++B).flatMap Prod.snd)
   have e:jt (d+1) (b,ks)=mA.flatMap (jt d)++(jt d s++kr.flatMap (jt d)):=by
    show List.flatMap (jt d) ks=_
    rw[yX,ai,an]
   rw[kU,e,ai,ai,BF,BF];simp only[ao]
  ·show Lo ((A++mA.flatMap (kE d)).flatMap Prod.snd) k
   rw[ai,BF];exact Lo.app.2 ⟨rM,aqY⟩
  ·show Hi ((kr.flatMap (kE d)++B).flatMap Prod.snd) k
   rw[ai,BF];exact Hi.app.2 ⟨ary,qx⟩
open Tre
abbrev sE:Nat:=207
def Cz:KV:=(ByteArray.empty,0)
def Pp (x:KV) (cs:List Value):Prop:=cs=[.string x.1,Iq x.2]
theorem ZC: lK prog 204 sE 2 24:=lK.mk' (z:=.agg #[.string ByteArray.empty,Iq 0]) underlying204 (by kernel_rfl) rfl gZ
def C9 (t:Ky):Bool:=t.toList == (⟨#[]⟩:ByteArray).toList
def zh (f t:Ky) (e:KV):Bool:=!kl e.1 f && (C9 t || kl e.1 t)
def oh (f t:Ky) (l:List KV):List KV:=l.filter (zh f t)
theorem aft {f t:Ky}{l:List KV}(h:Lo l f): oh f t l=[]:=by
 unfold oh;rw[cz];intro e he;unfold zh;rw[h e he];simp
theorem ZN {f t:Ky}{P R:List KV}{e:KV}(hs:qc (P++e :: R)) (ht:C9 t=false) (he:kl e.1 t=false): oh f t (P++e :: R)=oh f t P:=by
 unfold oh;rw[bW];have h2:=(pJ.1 hs).2.1;have:(e :: R).filter (zh f t)=[]:=by
  rw[cz];intro x hx;have VG:kl x.1 t=false:=by
   rcases ar.1 hx with rfl|hx
   ·exact he
   ·have:=(bH.1 h2).1 x hx
    exact YV he (vp this)
  unfold zh;rw[ht,VG];simp
 rw[this,aS]
theorem MG {f t:Ky}{P:List KV}{e:KV}: oh f t (P++[e])=if zh f t e then oh f t P++[e] else oh f t P:=by
 unfold oh;rw[bW];cases h:zh f t e<;>simp[h]
theorem Re (f t:Ky) (l:List KV): (oh f t l).length <= l.length:=cY ..
structure AX where
 pre:List KV
 rem:List (Nat × List KV)
 v:Value
theorem TD (s:ByteArray) (n:Int): prog.built sE [(0,.string s),(1,Iq n)]=some #[.string s,Iq n]:=by kernel_rfl
theorem Zo {st:St}{l:List KV}(h:uc w st tb l) (f t:Ky) (hl:l.length<1000000000): Calls prog 103 #[iF tb,.string f,.string t] w fun e w'=>iB w w' /\ ∃v,e=.returned v /\ jk sE 2 Cz Pp (fun b=>w.heap.size <= b) w' v (oh f t l):=by
 refine iY func103 ntmps103 ?_;have lU:qc l:=by obtain⟨-,-,_,_,-,hh⟩:=h;exact hh.uC
 refine gY ?_;refine il func132 (VL h f) ?_;rintro e1 w1 ⟨mj,hle⟩;obtain⟨Wm,Sj,he0,BY,ajf,aiw⟩:∃Wm Sj,e1=.returned (lh (Tre.hd Sj none)) /\ l=Wm++Sj.flatMap Prod.snd /\ Lnk st Sj none /\ Lo Wm f:=by
  rcases hle with⟨rfl,rfl⟩|⟨A,b,es,B,rfl,qW⟩
  ·exact⟨[],[],rfl,rfl,trivial,Lo.nil⟩
  ·exact⟨A.flatMap Prod.snd,(b,es) :: B,rfl,qW.el,(Lnk.app.1 qW.sg).2,qW.lo⟩
 subst he0;refine⟨_,rfl,?_⟩;have DO:=h.mem.below mj;refine gY ?_;refine WC.loop (fun x:AX=>[(0,iF tb),(1,.string f),(2,.string t),(7,x.v),(8,lh (Tre.hd x.rem none))])
  (fun x w'=>iB w w' /\ l=x.pre++x.rem.flatMap Prod.snd /\ Lnk st x.rem none /\ jk sE 2 Cz Pp (fun b=>w.heap.size <= b) w' x.v (oh f t x.pre)) (fun x=>x.rem.length) ⟨Wm,Sj,.slice none 0 0⟩ iW
  ⟨mj,BY,ajf,by rw[aft aiw];exact jk.nil _ _ _ _ _ _⟩ ?_
 rintro⟨pre,rem,v⟩ wr ⟨hb,kU,wO,iJ⟩;simp only at kU wO iJ;cases rem with
 | nil=>
  change WC _ _ _ [(0,iF tb),(1,.string f),(2,.string t),(7,v),(8,.pointer none)] wr;have PR:l=pre:=by simpa using kU
  refine gY ?_;refine WL.qp rfl rfl rfl rfl rfl rfl (by kernel_rfl) ?_;refine gY ?_;exact g_ ⟨hb,v,rfl,by rw[PR];exact iJ⟩
 | cons x rem=>
  obtain⟨b,es⟩:=x;change WC _ _ _ [(0,iF tb),(1,.string f),(2,.string t),(7,v),(8,iF b)] wr;have pS:st b=some ⟨true,ke es,Tre.hd rem none⟩:=wO.1;obtain⟨Cn,pv,vb⟩:=(h.mem.below hb) _ _ pS;simp only[lZ] at Cn;have J7:=vV vb (lZ es);have PR:l=pre++es++rem.flatMap Prod.snd:=by rw[kU,an,ao]
  have hlen:pre.length+es.length <= l.length:=by rw[PR];simp only[aa];omega
  refine gY ?_;refine WL.qp rfl rfl rfl rfl rfl rfl (by kernel_rfl) ?_;refine sY ?_;refine WC.block ?_;refine sY ?_;refine WC.block ?_;refine WC.loop (fun x:Nat × Value=>[(0,iF tb),(1,.string f),(2,.string t),(7,x.2),(8,iF b),(22,Iq es.length),(23,Iq x.1)])
   (fun x w'=>iB w w' /\ x.1 <= es.length /\ h_ kJ w' b (iL (lS ⟨true,ke es,Tre.hd rem none⟩ pv)) /\ jk sE 2 Cz Pp (fun b=>w.heap.size <= b) w' x.2 (oh f t (pre++es.take x.1))) (fun x=>es.length - x.1) (0,v) iW
   ⟨hb,aw _,vb,by simpa using iJ⟩ ?_
  clear hb vb J7 iJ mj hle BY ajf aiw DO;rintro⟨i,u⟩ wq ⟨hb,hi,vb,iJ⟩;simp only at hi iJ;have uH:=h.mem.lt (by rw[pS];simp)
  by_cases iS:i<es.length
  ·have xE:=Bl vb (i:=i) gZ
   rw[rU es iS] at xE;have m4:=Tg vb (i:=i) gZ;rw[rU es iS] at m4;simp only at xE m4;have wo:es.take (i+1)=es.take i++[es[i]]:=by rw[aJ,ah iS];rfl
   have H8:l=(pre++es.take i)++es[i] :: (es.drop (i+1)++rem.flatMap Prod.snd):=by
    rw[PR]
    conv=>lhs;rw[<- aL i es,bp iS]
    simp only[ao,aT]
   generalize es[i]=E at xE m4 wo H8;refine sY ?_;refine WC.block ?_;refine WC.seq ?_;refine WC.region ?_;refine iA ?_;refine iA ?_;refine WL.nil ?_;refine WQ.then rfl ?_;refine WC.seq ?_;refine WC.sa (fun _:Unit=>[(0,iF tb),(1,.string f),(2,.string t),(7,u),(8,iF b),(9,Iq i),(22,Iq es.length),(23,Iq i)])
    (fun _ w'=>w'=wq /\ (C9 t || kl E.1 t)=true) rfl ?_ ?_
   ·refine gY ?_
    cases Vs:(t.toList == (⟨#[]⟩:ByteArray).toList) with
    | true=>
     have o8:(C9 t || kl E.1 t)=true:=by unfold C9;rw[Vs];rfl
     refine gY ?_;exact WQ.meet () iW ⟨rfl,o8⟩
    | false=>
     refine gY ?_;refine j_ i (2+i) ?_;refine WL.on rfl rfl ?_;refine ia xE ?_;refine gY ?_;cases ZA:Op.bytesLess E.1.toList t.toList with
     | true=>
      have o8:(C9 t || kl E.1 t)=true:=by unfold kl;rw[ZA,Bool.or_true]
      refine gY ?_;exact WQ.meet () iW ⟨rfl,o8⟩
     | false=>
      refine gY ?_;refine g_ ⟨hb,u,rfl,?_⟩;have:oh f t l=oh f t (pre++es.take i):=by
       rw[H8];exact ZN (by rw[<- H8];exact lU) Vs ZA
      rw[this];exact iJ
   rintro⟨⟩ wz ⟨hwz,o8⟩;subst hwz;refine gY ?_;refine j_ i (2+i) ?_;refine ia xE ?_;refine gY ?_;cases Kq:Op.bytesLess E.1.toList f.toList with
   | true=>
    refine gY ?_;refine WQ.again (i+1,u) iW ⟨hb,iS,vb,?_⟩ (by show es.length - (i+1)<es.length - i;omega)
    show jk sE 2 Cz Pp (fun b=>w.heap.size <= b) wz u (oh f t (pre++es.take (i+1)))
    rw[wo,<- ao,MG,if_neg (by unfold zh kl;rw[Kq];simp)];exact iJ
   | false=>
    have av5:=Re f t (pre++es.take i);have mN:(pre++es.take i).length <= l.length:=by rw[H8];simp only[aa];omega
    refine gY ?_;refine WC.drawn 13 (fun wx=>wx.heap=wz.heap) fun w2 hd=>?_;have hS:=hd.heap;have jg:=hb.trans (hd.below _);have FQ:=vb.below (hd.below _) vb.lt;have abt:=iJ.ij (P':=Pp) (O':=fun b=>w.heap.size <= b) (ib.nE hd (fun _=>True)) (fun _ _=>trivial) (fun _ h=>h) fun _ _ h=>h;clear hd;refine iq [0,1,2,3,4] hS ?_;refine jr 5 i (2+i) (.inr hS) ?_;refine ik 6 [13,14,15,16] (fun wx hx=>(jJ hx _).trans xE) hS ?_;refine iq [7,8,9,10] hS ?_;refine jr 11 i (10+i) (.inr hS) ?_;refine ik 12 [13,14,15,16] (fun wx hx=>(jJ hx _).trans m4) hS ?_;refine iI 13 ?_;refine iE [.string E.1,Iq E.2] (TD _ _) ?_;refine iO ?_;refine iI 14 ?_;refine jR (hs:=⟨gZ,gZ⟩) (cs:=[.string E.1,Iq E.2]) fun g7 w7 uy=>?_;have wF:=jg.iR uy.below;have Hr:=FQ.below uy.below FQ.lt;have Xg:=abt.ij (P':=Pp) (O':=fun b=>w.heap.size <= b) (ib.ic uy.below) (fun g hg=>abt.lt hg) (fun _ h=>h) fun _ _ h=>h;refine iO ?_;refine iI 15 ?_;refine WL.snoc (y:=E) rfl rfl rfl rfl ZC rfl Xg rfl uy.blk (by intro q hq;simp at hq;rcases hq with rfl|rfl<;>rfl) rfl rfl gZ gZ fun v8 w8 xC nP=>?_;have VP:=wF.size;have uV:=wF.trans (nP.old VP fun g hg=>Xg.own hg);have vb8:=Hr.ij nP.1 ⟨Hr.lt,fun e=>by have:=Xg.own e;omega⟩;have apf:jk sE 2 Cz Pp (fun b=>w.heap.size <= b) w8 v8 (oh f t (pre++es.take i)++[E]):=xC.ij (ib.refl (fun _=>True) w8) (fun _ _=>trivial) (fun b hb=>hb.elim id fun e=>by omega) fun _ _ h=>h;clear uy xC nP Xg Hr wF abt iJ;refine iO ?_;refine iI 16 ?_;refine iA ?_;refine iO ?_;refine im ?_;refine gY ?_;refine WQ.again (i+1,v8) iW ⟨uV,iS,vb8,?_⟩ (by show es.length - (i+1)<es.length - i;omega)
    show jk sE 2 Cz Pp (fun b=>w.heap.size <= b) w8 v8 (oh f t (pre++es.take (i+1)))
    rw[wo,<- ao,MG,if_pos (by unfold zh;rw[o8];unfold kl;rw[Kq];rfl)];exact apf
  ·obtain rfl:i=es.length:=gZ
   rw[aI] at iJ;have wJ:wq.cell? ⟨b,26,none⟩=some (lh (Tre.hd rem none)):=jN vb gZ;refine iu ?_;refine WQ.again ⟨pre++es,rem,u⟩ iW ⟨hb,PR,wO.2,iJ⟩ (by show rem.length<rem.length+1;omega)
end K
end Go.Proofs.YtlenklobbngopaaGreat
