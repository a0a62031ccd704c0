/- Texts for IxB, part 9 of 11. -/
import Derived.Test.YtlenklobbngopaaGreatZIxB8
set_option maxHeartbeats 64000000
set_option maxRecDepth 100000
set_option linter.all false
namespace Go.Proofs.YtlenklobbngopaaGreat
open _root_.Go.Proofs.Tryz
variable {d y:V}{f:ByteArray}{l:List ByteArray}{α κ:Type}{x:Int × ByteArray}{h:Nat -> List Int}{a q:Int × Int}{b g j m B i tb r vb N kn T g1 g2 g3 gb nn:Nat}{w w' W W':World}{cs args:List Value}{L:List Lit}{bi pO:Int}{D O M:Nat -> Prop}{c:Code}{R:Ending -> World -> Prop}{ds:List Deferred}{p:Value}{F:κ -> Option Value}
namespace Ix
open K Tre
open Op (bytesLess)
def fldR (v:V) (f:ByteArray):Option V :=
 if v.k=9 then(match v.names.findIdx? (fun g=>decide (g=f)) with
  | some i=>if i<v.kids.length then some (v.kids.getD i lH) else none
  | none=>none) else none
theorem L6:∀ {m:Nat}{v:V},chk m v=0 -> chk (m+1) v=0
 | 0,_,h=>by cases h
 | m+1,v,h=>by
  have hs:=oQ h;unfold chk at h ⊢;rw[if_pos hs] at h ⊢;rw[oT] at h ⊢;intro e he;obtain⟨x,hx,rfl⟩:=bg.1 he;exact L6 (h _ (bg.2 ⟨x,hx,rfl⟩))
theorem DP {v:V}(h:fldR d f=some v): ∃i,i<d.kids.length /\ v=d.kids.getD i lH:=by
 unfold fldR at h
 split at h
 ·split at h
  ·split at h
   ·rename_i i _ hi
    exact⟨i,hi,by cases h;rfl⟩
   ·cases h
  ·cases h
 ·cases h
theorem yk {v:V}(hd:chk 16 d=0) (h:fldR d f=some v): chk 16 v=0:=by
 obtain⟨i,hi,rfl⟩:=DP h;exact L6 (rD hd hi)
theorem Fg {v:V}(hd:Rg d) (h:fldR d f=some v): Rg v:=by
 obtain⟨i,hi,rfl⟩:=DP h;obtain⟨k,hk⟩:=hd;cases k with
 | zero=>exact hk.elim
 | succ k=>exact⟨k,hk.2 _ (x9 hi)⟩
abbrev Gx:=Int -> Option V
def kv (g:Gx) (n:Int) (o:Option V):Gx:=fun x=>if x=n then o else g x
structure Gd (g:Gx):Prop where
 ok:∀n d,g n=some d -> R6 n /\ chk 16 d=0 /\ Rg d
structure sR (f:ByteArray) (g:Gx) (L:List KV):Prop where
 uC:qc L
 mem:∀p,p∈L ↔ ∃n d v,g n=some d /\ fldR d f=some v /\ p=(rB v n,n)
def sX (f:ByteArray) (n:Int) (d:V) (L:List KV):List KV:=match fldR d f with|some v=>kT (rB v n) n L|none=>L
def layOut (f:ByteArray) (n:Int) (d:V) (L:List KV):List KV:=match fldR d f with|some v=>lP (rB v n) L|none=>L
theorem P1 {k:Ky}{n:Int}:∀ {l:List KV},qc l -> ∀e,e∈kT k n l ↔ e=(k,n) \/ (e∈l /\ e.1≠k)
 | [],_,e=>by simp[kT]
 | (a,m) :: r,h,e=>by
  obtain⟨h1,h2⟩:=bH.1 h;unfold kT
  split
  ·rename_i hk
   rw[ar,P1 h2,ar]
   constructor
   ·rintro(rfl|rfl|⟨q1,q2⟩)
    ·exact .inr ⟨.inl rfl,zD hk⟩
    ·exact .inl rfl
    ·exact .inr ⟨.inr q1,q2⟩
   ·rintro(rfl|⟨rfl|q1,q2⟩)
    ·exact .inr (.inl rfl)
    ·exact .inl rfl
    ·exact .inr (.inr ⟨q1,q2⟩)
  ·rename_i hk
   split
   ·rename_i he
    subst he;rw[ar,ar]
    constructor
    ·rintro(rfl|q)
     ·exact .inl rfl
     ·exact .inr ⟨.inr q,fun e2=>zD (h1 e q) e2.symm⟩
    ·rintro(rfl|⟨rfl|q1,q2⟩)
     ·exact .inl rfl
     ·exact(q2 rfl).elim
     ·exact .inr q1
   ·rename_i kD
    have uz:kl k a=true:=by
     cases hq:kl k a with
     | true=>rfl
     | false=>exact absurd (BG (by simpa using hk) hq) kD
    rw[ar]
    constructor
    ·rintro(rfl|q)
     ·exact .inl rfl
     ·refine .inr ⟨q,fun e2=>?_⟩
      rcases ar.1 q with rfl|q
      ·exact kD e2
      ·have:=tH uz (h1 e q)
       rw[<- e2,zE] at this;cases this
    ·rintro(rfl|⟨q,-⟩)
     ·exact .inl rfl
     ·exact .inr q
theorem ab0 {k:Ky}{l:List KV}(e:KV): e∈lP k l ↔ e∈l /\ e.1≠k:=by
 unfold lP;rw[bQ,decide_eq_true_eq]
section
variable {f:ByteArray}{g:Gx}{L:List KV}{n:Int}{d:V}
theorem sR.nil: sR f (fun _=>none) []:=⟨List.Pairwise.nil,fun p=>⟨fun h=>(by cases h),fun⟨_,_,_,h,_⟩=>(by cases h)⟩⟩
theorem sR.congr (h:sR f g L) {g':Gx}(e:∀n,g' n=g n): sR f g' L:=⟨h.uC,fun p=>by
 rw[h.mem]
 constructor<;>rintro⟨n,d,v,q1,q2⟩
 ·exact⟨n,d,v,by rw[e];exact q1,q2⟩
 ·exact⟨n,d,v,by rw[<- e];exact q1,q2⟩⟩
theorem sR.put (h:sR f g L) (hg:Gd g) (hn:R6 n) (hd:chk 16 d=0) (hr:Rg d) (h0:g n=none): sR f (kv g n (some d)) (sX f n d L):=by
 unfold sX;cases hf:fldR d f with
 | none=>
  refine⟨h.uC,fun p=>?_⟩;rw[h.mem]
  constructor
  ·rintro⟨m,d',v,q1,q2,q3⟩
   exact⟨m,d',v,by unfold kv;rw[if_neg (fun e=>by rw[e,h0] at q1;cases q1)];exact q1,q2,q3⟩
  ·rintro⟨m,d',v,q1,q2,q3⟩
   unfold kv at q1
   split at q1
   ·cases q1
    rw[hf] at q2;cases q2
   ·exact⟨m,d',v,q1,q2,q3⟩
 | some v=>
  refine⟨Gf h.uC,fun p=>?_⟩;simp only
  rw[P1 h.uC,h.mem]
  constructor
  ·rintro(rfl|⟨⟨m,d',u,q1,q2,q3⟩,q4⟩)
   ·exact⟨n,d,v,by unfold kv;rw[if_pos rfl],hf,rfl⟩
   ·exact⟨m,d',u,by unfold kv;rw[if_neg (fun e=>by rw[e,h0] at q1;cases q1)];exact q1,q2,q3⟩
  ·rintro⟨m,d',u,q1,q2,rfl⟩
   unfold kv at q1
   split at q1
   ·rename_i e
    cases q1
    rw[hf] at q2;cases q2
    rw[e];exact .inl rfl
   ·rename_i e
    obtain⟨r1,r2,r3⟩:=hg.ok m d' q1;refine .inr ⟨⟨m,d',u,q1,q2,rfl⟩,fun e2=>e ?_⟩;exact(W6 (yk r2 q2) (yk hd hf) (Fg r3 q2) (Fg hr hf) r1 hn e2).2
theorem sR.del (h:sR f g L) (hg:Gd g) (h0:g n=some d): sR f (kv g n none) (layOut f n d L):=by
 obtain⟨hn,hd,hr⟩:=hg.ok n d h0;unfold layOut;cases hf:fldR d f with
 | none=>
  refine⟨h.uC,fun p=>?_⟩;rw[h.mem]
  constructor
  ·rintro⟨m,d',v,q1,q2,q3⟩
   refine⟨m,d',v,?_,q2,q3⟩;unfold kv;rw[if_neg (fun e=>?_)]
   ·exact q1
   ·rw[e,h0] at q1
    cases q1
    rw[hf] at q2;cases q2
  ·rintro⟨m,d',v,q1,q2,q3⟩
   unfold kv at q1
   split at q1
   ·cases q1
   ·exact⟨m,d',v,q1,q2,q3⟩
 | some v=>
  refine⟨Nt h.uC,fun p=>?_⟩;simp only
  rw[ab0,h.mem]
  constructor
  ·rintro⟨⟨m,d',u,q1,q2,rfl⟩,q4⟩
   refine⟨m,d',u,?_,q2,rfl⟩;unfold kv;rw[if_neg (fun e=>?_)]
   ·exact q1
   ·subst e
    rw[h0] at q1;cases q1
    rw[hf] at q2;cases q2
    exact q4 rfl
  ·rintro⟨m,d',u,q1,q2,rfl⟩
   unfold kv at q1
   split at q1
   ·cases q1
   ·rename_i e
    obtain⟨r1,r2,r3⟩:=hg.ok m d' q1;exact⟨⟨m,d',u,q1,q2,rfl⟩,fun e2=>e (W6 (yk r2 q2) (yk hd hf) (Fg r3 q2) (Fg hr hf) r1 hn e2).2⟩
theorem Gd.cut (hg:Gd g): Gd (Ix.kv g n none):=⟨fun m d' h=>by
 unfold Ix.kv at h
 split at h
 ·cases h
 ·exact hg.ok m d' h⟩
end
theorem J8 {α:Type}{lt:α -> α -> Prop}(irr:∀a,¬lt a a) (asm:∀a b,lt a b -> ¬lt b a):∀ {l l':List α},l.Pairwise lt -> l'.Pairwise lt -> (∀x,x∈l ↔ x∈l') -> l=l'
 | [],[],_,_,_=>rfl
 | [],b :: l',_,_,h=>by have:=(h b).2 iz;cases this
 | a :: l,[],_,_,h=>by have:=(h a).1 iz;cases this
 | a :: l,b :: l',h1,h2,h=>by
  obtain⟨a1,a2⟩:=bH.1 h1;obtain⟨b1,b2⟩:=bH.1 h2;have tf:a=b:=by
   rcases ar.1 ((h a).1 iz) with e|e
   ·exact e
   ·rcases ar.1 ((h b).2 iz) with e2|e2
    ·exact e2.symm
    ·exact(asm _ _ (b1 a e) (a1 b e2)).elim
  subst tf
  congr 1
  refine J8 irr asm a2 b2 fun x=>⟨fun hx=>?_,fun hx=>?_⟩
  ·rcases ar.1 ((h x).1 (az _ hx)) with e|e
   ·rw[e] at hx;exact(irr _ (a1 a hx)).elim
   ·exact e
  ·rcases ar.1 ((h x).2 (az _ hx)) with e|e
   ·rw[e] at hx;exact(irr _ (b1 a hx)).elim
   ·exact e
abbrev VE:=Int × V
def hl (a b:VE):Prop:=ordV 16 a.2 b.2<0 \/ (ordV 16 a.2 b.2=0 /\ a.1<b.1)
structure Oy (f:ByteArray) (g:Gx) (H:List VE):Prop where
 asc:H.Pairwise hl
 mem:∀h:VE,h∈H ↔ ∃d,g h.1=some d /\ fldR d f=some h.2
def kk (h:VE):KV:=(rB h.2 h.1,h.1)
section
variable {f:ByteArray}{g:Gx}{L:List KV}{H:List VE}
theorem Oy.nk (h:Oy f g H) (hg:Gd g): ∀x∈H,chk 16 x.2=0 /\ Rg x.2 /\ R6 x.1:=fun x hx=>by
 obtain⟨d,q1,q2⟩:=(h.mem x).1 hx;obtain⟨r1,r2,r3⟩:=hg.ok _ _ q1;exact⟨yk r2 q2,Fg r3 q2,r1⟩
theorem Oy.row (h:Oy f g H) (hg:Gd g) (hL:sR f g L): L=H.map kk:=by
 refine J8 (lt:=fun a b:KV=>kl a.1 b.1=true) (fun a h=>by rw[zE] at h;cases h) (fun a b h h2=>by rw[vp h] at h2;cases h2) hL.uC ?_ fun p=>?_
 ·rw[fQ]
  refine ew (fun {a b} ha hb tf=>?_) h.asc;obtain⟨a1,a2,a3⟩:=h.nk hg a ha;obtain⟨b1,b2,b3⟩:=h.nk hg b hb
  show kl (rB a.2 a.1) (rB b.2 b.1)=true
  rw[abM a1 b1 a2 b2 a3 b3];exact decide_eq_true tf
 ·rw[hL.mem,bg]
  constructor
  ·rintro⟨n,d,v,q1,q2,rfl⟩
   exact⟨(n,v),(h.mem (n,v)).2 ⟨d,q1,q2⟩,rfl⟩
  ·rintro⟨x,hx,rfl⟩
   obtain⟨d,q1,q2⟩:=(h.mem x).1 hx;exact⟨x.1,d,x.2,q1,q2,rfl⟩
def Zi (x y v:V):Bool:=(!decide (chk 16 x=0) || !decide (ordV 16 v x<0)) && (!decide (chk 16 y=0) || decide (ordV 16 v y<0))
def um (x:V):ByteArray:=if chk 16 x=0 then qi x else⟨#[]⟩
theorem F2: C9 ⟨#[]⟩=true:=beq_self_eq_true _
theorem OF (hy:chk 16 y=0): C9 (qi y)=false:=by
 unfold C9;rw[beq_eq_false_iff_ne];intro h;obtain⟨c,r,hk,-⟩:=zK hy;have h1:(qi y).toList.length=0:=by rw[h,aD];rfl
 unfold qi at h1;rw[tV,CV,hk] at h1;simp at h1
theorem KW (a:ByteArray): kl a ⟨#[]⟩=false:=by
 show bytesLess a.toList (⟨#[]⟩:ByteArray).toList=false
 have:(⟨#[]⟩:ByteArray).toList=[]:=by rw[aD]
 rw[this];cases a.toList<;>rfl
theorem aeE {x:V}{h:VE}(rx:Rg x) (ry:Rg y) (h1:chk 16 h.2=0) (h2:Rg h.2): zh (um x) (um y) (kk h)=Zi x y h.2:=by
 unfold zh Zi um kk;simp only
 congr 1
 ·by_cases hx:chk 16 x=0
  ·rw[if_pos hx,F1 h1 hx h2 rx,decide_eq_true hx];simp
  ·rw[if_neg hx,KW,decide_eq_false hx];rfl
 ·by_cases hy:chk 16 y=0
  ·rw[if_pos hy,OF hy,F1 h1 hy h2 ry,decide_eq_true hy];simp
  ·rw[if_neg hy,F2,decide_eq_false hy];rfl
theorem Oy.range (h:Oy f g H) (hg:Gd g) (hL:sR f g L) {x:V}(rx:Rg x) (ry:Rg y): (oh (um x) (um y) L).map Prod.snd=(H.filter fun e=>Zi x y e.2).map Prod.fst:=by
 rw[h.row hg hL];unfold oh;rw[List.filter_map,fz];have e:∀a∈H,(zh (um x) (um y) ∘ kk) a=Zi x y a.2:=fun a ha=>by
  obtain⟨a1,a2,a3⟩:=h.nk hg a ha;exact aeE rx ry a1 a2
 rw[List.filter_congr e]
 rfl
theorem XO {a b:Ky}(h:bytesLess a.toList b.toList=false) (hb:C9 b=false) (L:List KV): oh a b L=[]:=by
 unfold oh;rw[cz];intro e _ he;unfold zh at he;rw[hb] at he;simp only[gT,aA,bZ] at he;have:=Bt he.2 h;rw[he.1] at this;cases this
theorem Oy.equal (h:Oy f g H) (hg:Gd g) (hL:sR f g L) {x:V}(hx:chk 16 x=0) (rx:Rg x) {t:ByteArray}(ht:t.toList=Ord.yr (Ord.strip (qi x).toList)) {l:List Int}(ha:l.Pairwise (· < ·)) (hm:∀n,n∈l ↔ ∃d v,g n=some d /\ fldR d f=some v /\ ordV 16 v x=0): (oh (qi x) t L).map Prod.snd=l:=by
 have uU:Ord.strip (qi x).toList≠[]:=fun h=>by
  have SB:=Ord.Dz h;obtain⟨c,r,hk,-⟩:=zK hx;have mg:c <= 128:=by
   have h3:keyV 16 x=my x.k :: _:=rfl;rw[h3] at hk;have h2:=(qI (oQ hx)).1;have:=(List.cons.inj hk).1;unfold my at this
   split at this
   ·omega
   ·split at this<;>omega
  have vO:=nI (Um hx) c (by rw[CV,hk];simp);have:=SB (UInt8.ofNat c.toNat) (by unfold qi;rw[tV,CV,hk];simp);have h4:=congrArg UInt8.toNat this;simp at h4
  omega
 have o8:∀a∈H,(zh (qi x) t ∘ kk) a=decide (ordV 16 a.2 x=0):=fun a hH=>by
  obtain⟨a1,a2,a3⟩:=h.nk hg a hH;have Cu:C9 t=false:=by
   unfold C9;rw[beq_eq_false_iff_ne];intro e;have h1:=Ord.zM (s:=(qi x).toList) [] uU;rw[<- ht,e,aS] at h1;have:(⟨#[]⟩:ByteArray).toList=[]:=by rw[aD]
   rw[this] at h1;cases hq:(qi x).toList with
   | nil=>rw[hq] at h1;cases h1
   | cons b r=>rw[hq] at h1;cases h1
  show(!kl (rB a.2 a.1) (qi x) && (C9 t || kl (rB a.2 a.1) t))=_
  rw[Cu,gT];rw[fq];simp only[aA,bZ,decide_eq_true_eq];rw[<- WA (n:=a.1) a1 hx a2 rx]
  constructor
  ·rintro⟨q1,q2⟩
   have q2:bytesLess (rB a.2 a.1).toList t.toList=true:=q2;rw[ht] at q2;rcases Ord.QF _ uU q2 with q3|q3
   ·have q3:kl (rB a.2 a.1) (qi x)=true:=q3
    rw[q1] at q3;cases q3
   ·exact q3
  ·intro q
   refine⟨?_,?_⟩
   ·rw[F1 a1 hx a2 rx,decide_eq_false]
    rw[WA a1 hx a2 rx] at q;omega
   ·obtain⟨r,hr⟩:=q
    show bytesLess (rB a.2 a.1).toList t.toList=true
    rw[<- hr,ht];exact Ord.zM r uU
 rw[h.row hg hL];unfold oh;rw[List.filter_map,fz,List.filter_congr (fun a ha=>o8 a ha)];refine J8 (lt:=(· < ·)) (fun a=>Int.lt_irrefl a) (fun a b h=>by omega) ?_ ha fun n=>?_
 ·rw[fQ]
  have hp:=gC (fun a:VE=>decide (ordV 16 a.2 x=0)) h.asc;refine ew (fun {a b} qa qb tf=>?_) hp;obtain⟨a0,a1⟩:=bQ.1 qa;obtain⟨b0,b1⟩:=bQ.1 qb;have a1:=of_decide_eq_true a1;have b1:=of_decide_eq_true b1;obtain⟨c1,c2,c3⟩:=h.nk hg a a0;obtain⟨d1,d2,d3⟩:=h.nk hg b b0
  show a.1<b.1
  rcases tf with q|q
  ·exfalso
   have e:=(Ib c1 hx c2 rx a1).trans (Ib d1 hx d2 rx b1).symm;have h0:=sc c1 d1 c2 d2 [] [];rw[e,zm,if_neg gZ] at h0;omega
  ·exact q.2
 ·rw[hm,bg]
  constructor
  ·rintro⟨a,qa,rfl⟩
   obtain⟨a0,a1⟩:=bQ.1 qa;obtain⟨d,q1,q2⟩:=(h.mem a).1 a0;exact⟨d,a.2,q1,q2,of_decide_eq_true a1⟩
  ·rintro⟨d,v,q1,q2,q3⟩
   exact⟨(n,v),bQ.2 ⟨(h.mem (n,v)).2 ⟨d,q1,q2⟩,decide_eq_true q3⟩,rfl⟩
end
end Ix
namespace Ix
open K
theorem ab1 (u:Nat): 1 <= (jK u).length:=by
 show 1 <= (uvF (9+1) u).length
 unfold uvF
 split<;>simp
theorem Xt {g h:Nat -> List Int}:∀(n:Nat),(∀j,j<n -> (g j).length <= 24*(h j).length) -> ((List.range n).flatMap g).length <= 24*((List.range n).flatMap h).length
 | 0,_=>iz
 | n+1,hp=>by
  rw[kG,kG,aa,aa];have h1:=Xt n fun j hj=>hp j gZ;have h2:=hp n gZ;omega
theorem agG {n:Nat}(hj:j<n): (h j).length <= ((List.range n).flatMap h).length:=by
 have h1:=tW h (show j+1 <= n from hj);rw[kG,aa] at h1;omega
theorem Ga:∀(m m':Nat) {v:V},chk m v=0 -> (keyV m' v).length <= 24*(encV m v).length
 | 0,_,_,h=>by cases h
 | m+1,0,_,_=>by simp[keyV]
 | m+1,m'+1,v,h=>by
  have hk:∀j,j<v.kids.length -> (keyV m' (v.kids.getD j lH)).length <= 24*(encV m (v.kids.getD j lH)).length:=fun j hj=>Ga m m' (rD h hj);unfold keyV encV;rw[aj,aj]
  by_cases k2:v.k=2
  ·rw[if_pos k2,if_pos k2];simp
  by_cases vy:v.k=3 \/ v.k=4
  ·rw[if_neg k2,if_pos vy]
   have:=MT v.n v.s;omega
  by_cases k5:v.k=5
  ·rw[if_neg k2,if_neg vy,if_pos k5]
   have:(EZ v.n).length=8:=rfl;omega
  by_cases AN:v.k=6 \/ v.k=7
  ·rw[if_neg k2,if_neg vy,if_neg k5,if_pos AN,if_neg k2,if_neg (fun e=>vy (.inl e)),if_neg (fun e=>vy (.inr e)),if_neg k5,if_pos AN]
   have h1:=yz v.t.toList;have h2:(vA v.t).length=v.t.toList.length:=by unfold vA;rw[av]
   unfold oX;rw[aa,aa];simp only[aj,aF];omega
  by_cases KA:v.k=8 \/ v.k=9
  ·rw[if_neg k2,if_neg vy,if_neg k5,if_neg AN,if_pos KA,if_neg k2,if_neg (fun e=>vy (.inl e)),if_neg (fun e=>vy (.inr e)),if_neg k5,if_neg AN,if_pos KA]
   rw[aa,aa];have h1:=Xt (g:=mQ (keyV m') (decide (v.k=9)) v.names v.kids) (h:=kP (encV m) (decide (v.k=9)) v.names v.kids) v.kids.length fun j hj=>by
    have h2:=hk j hj;unfold mQ kP;cases hd:decide (v.k=9) with
    | false=>simpa using h2
    | true=>
     have h3:=ab1 (v.names.getD j jz).size;have h4:=yz (v.names.getD j jz).toList;have h5:(vA (v.names.getD j jz)).length=(v.names.getD j jz).toList.length:=by unfold vA;rw[av]
     simp only[if_true,aa,aj,oX,aF];omega
   simp only[aj,aF];omega
  ·rw[if_neg k2,if_neg vy,if_neg k5,if_neg AN,if_neg KA]
   simp
   omega
theorem aa4 {v:V}(h9:fldR d f=some v): (encV m v).length <= (encV (m+1) d).length:=by
 have hk:d.k=9:=by
  unfold fldR at h9
  split at h9
  ·assumption
  ·cases h9
 obtain⟨i,hi,rfl⟩:=DP h9
 conv=>rhs;unfold encV
 rw[if_neg gZ,if_neg gZ,if_neg gZ,if_neg gZ,if_neg gZ,if_pos (.inr hk)];have h1:=agG (h:=kP (encV m) (decide (d.k=9)) d.names d.kids) hi;have h2:(encV m (d.kids.getD i lH)).length <= (kP (encV m) (decide (d.k=9)) d.names d.kids i).length:=by
  unfold kP;rw[aa];omega
 rw[aj,aa];omega
theorem aam {v:V}(hd:chk 16 d=0) (he:(encV 16 d).length <= 65536) (h:fldR d f=some v) (n:Int): (me 16 [v,iV n]).length <= 2000000:=by
 obtain⟨i,hi,e⟩:=DP h;have hc:chk 15 v=0:=by rw[e];exact rD hd hi
 have h1:=Ga 15 16 hc;have h2:(encV 15 v).length <= (encV 16 d).length:=aa4 h;have h3:(keyV 16 (iV n)).length <= 23:=by
  have:=MT n 0
  show(my 3 :: xe n 0).length <= 23
  simp
  omega
 rw[F0];simp only[aa,aF];omega
end Ix
open Go.RowKit
namespace K
theorem Mt {B:Nat}(hB:B <= 1000000):∀(f:Nat) {w:World}{v:V}{cs:List Value},kH f w v cs -> Sm B f v ->
  Calls prog 90 #[.agg cs.toArray] w fun e w'=>iB w w' /\ ∃yo,e=.returned (.agg yo.toArray) /\ jE (fun b=>w.heap.size <= b) f w' v yo
 | 0,_,_,_,h,_=>h.elim
 | f+1,w,v,cs,h,hm=>by
  obtain⟨sn,sk,rfl,wk,wn,ws,wt,qJ,tM⟩:=h;obtain⟨xF,OT,LN⟩:=hm;obtain⟨sp,cap,rfl,uG,oG,ji⟩:=tM;refine iY (args:=[.agg (lW v sn (.slice sp v.kids.length cap)).toArray]) func90 ntmps90 ?_;refine gY ?_;refine iC fun g1 w1 nh=>?_;have mJ:jl w g1 w1 25 (lW v sn (.slice sp v.kids.length cap)):=nh;clear nh;refine ix (z:=.agg iy.toArray) (fun _=>by kernel_rfl) fun g2 w2 lI=>?_;have kM:jl w1 g2 w2 25 iy:=lI;clear lI;have zY:=mJ.size;have vJ:=kM.size;have ZS:=mJ.eq;have De:=kM.eq;have lQ:=mJ.below.trans (kM.below.mono mJ.below.size);have B1:=mJ.blk.below kM.below mJ.blk.lt;have B2:=kM.blk;clear mJ kM;refine gY ?_;refine ia (B1.cell 4 iz) ?_;refine il func124 (Gz (qJ.below lQ) gZ) ?_;rintro _ w3 ⟨jF,sx,rfl,hn3,hsx⟩;refine⟨_,rfl,?_⟩;have Lv:=B1.below jF B1.lt;have Aa:=B2.below jF B2.lt;have mG:=lQ.iR jF;refine gY ?_;refine iD (hv:=hsx) (Lv.cell 4 iz) (Lv.free 4) ?_;have C1:h_ 25 (w3.setCell ⟨g1,4,none⟩ sx) g1 (lW v sx (.slice sp v.kids.length cap)):=Lv.set 4 sx;have C2:h_ 25 (w3.setCell ⟨g1,4,none⟩ sx) g2 iy:=Aa.other _ _ (by show g2≠g1;omega);have nY:iB w (w3.setCell ⟨g1,4,none⟩ sx):=ib.below (ib.setCell (ib.ic mG) (fun hk=>by simp only at hk;omega) _);have I7:ib (fun b=>b≠g1) w3 (w3.setCell ⟨g1,4,none⟩ sx):=(ib.refl _ w3).setCell (fun hk=>hk rfl) _;have m4:lA 1 jz EM (fun b=>w.heap.size <= b /\ b≠g1 /\ b≠g2) (w3.setCell ⟨g1,4,none⟩ sx) sx v.names:=hn3.ij I7 (fun b hb _=>by omega) (fun b hb=>by omega) fun _ _ h=>h;generalize w3.setCell ⟨g1,4,none⟩ sx=w5 at C1 C2 nY m4 ⊢;clear I7;have hz5:=nY.size;have hgg:g1≠g2:=gZ;have SO:=C1.lt;have PC:=C2.lt;refine gY ?_;refine ia (C1.cell 5 iz) ?_;refine gY ?_;refine WC.loop (fun i:Nat × Value=>[(1,iF g1),(2,iF g2),(3,i.2),(11,.slice sp v.kids.length cap),(12,Iq v.kids.length),(13,Iq i.1)])
   (fun i wr=>i.1 <= v.kids.length /\ iB w5 wr /\ ∃q:Nat -> Prop,jk 25 6 lH (jE q f wr) (fun b=>w5.heap.size <= b) wr i.2 (v.kids.take i.1) /\ ∀b,q b -> w5.heap.size <= b /\ b<wr.heap.size /\ i.2.ownBlock≠some b) (fun i=>v.kids.length - i.1) (0,.slice none 0 0)
   iW ⟨aw _,Below.refl _ _,fun _=>False,jk.nil _ _ _ _ _ _,fun b h=>h.elim⟩ ?_
  rintro⟨i,vk⟩ wr ⟨hi,jC,q,sI,hq⟩;simp only at hi jC sI hq ⊢;have D1:=C1.below jC SO;have D2:=C2.below jC PC;have tQ:=nY.trans (jC.mono hz5);have hzr:=jC.size
  by_cases je:i<v.kids.length
  ·obtain⟨kb,ko,rfl,oN,kA⟩:=ji gZ
   obtain⟨c,mO,pj,mo⟩:=kA i je;refine gY ?_;refine iG i (ko+i*6) je ?_;refine ig (fun j u hu=>(tQ.cell (p:=⟨kb,ko+i*6+j,none⟩) oN).trans (mo j u hu)) mO ?_;refine ix (z:=.agg iy.toArray) (fun _=>by kernel_rfl) fun kc wa hfa=>?_;have A6:jl wr kc wa 25 iy:=hfa;clear hfa;refine gY ?_;refine ir (hm:=mO) (hold:=(by rfl)) A6.blk (kH.one pj) ?_;have uz:iB wr (wa.setRow kc c.toArray):=below_setRow A6.below (by rw[A6.eq];exact af _) _;have Ka:h_ 25 (wa.setRow kc c.toArray) kc c:=A6.blk.setRow _;generalize wa.setRow kc c.toArray=wb at uz Ka;clear A6;have OG:=uz.size;refine gY ?_;refine ig (h_.rangeAt Ka) mO ?_;refine il func90 (Mt hB f (pj.below (tQ.iR uz)) (LN _ (by simp[je]))) ?_;rintro _ w6 ⟨aax,c6,rfl,ab_⟩;refine⟨_,rfl,?_⟩;have qA:=uz.trans (aax.mono OG);have Ch:jE (fun b=>wr.heap.size <= b) f w6 (v.kids.getD i lH) c6:=jE.mono (fun b hb=>by omega) ab_;have Vg:=qA.size;refine jR (hcs:=Ch.len) (hs:=⟨gZ,gZ⟩) fun g7 w7 uy=>?_;have hz7:=uy.size;have tF:=qA.trans (uy.below.mono Vg);have Ah:jk 25 6 lH (jE (fun b=>q b \/ (wr.heap.size <= b /\ b<w7.heap.size)) f w7) (fun b=>w5.heap.size <= b) w7 vk (v.kids.take i) :=
    sI.ij (ib.ic tF) (fun g hg=>sI.lt hg) (fun _ h=>h) fun x cs hx=>hx.ij (ib.ic tF) (fun b hb _=>(hq b hb).2.1) fun b hb=>.inl hb
   have HJ:jE (fun b=>q b \/ (wr.heap.size <= b /\ b<w7.heap.size)) f w7 (v.kids.getD i lH) c6:=Ch.there.ij (ib.ic uy.below) (fun b _ h=>h) fun b hb=>.inr ⟨hb.1,gZ⟩;have iS:(v.kids.take i).length <= i:=by rw[aE];omega
   refine WL.snoc rfl rfl rfl rfl Pn rfl Ah rfl uy.blk Ch.one Ch.len HJ gZ gZ fun vk8 w8 xC nP=>?_;have Af:=(jC.trans (tF.mono hzr)).trans (nP.old gZ fun g hg=>Ah.own hg);have Px:∀b,(q b \/ (wr.heap.size <= b /\ b<w7.heap.size)) -> w5.heap.size <= b /\ b<w7.heap.size /\ vk.ownBlock≠some b:=fun b hb=>hb.elim (fun h=>by
     obtain⟨h1,h2,h3⟩:=hq b h;exact⟨h1,gZ,h3⟩) fun h=>⟨gZ,h.2,fun e=>by have:=sI.lt e;omega⟩
   have wo:v.kids.take (i+1)=v.kids.take i++[v.kids.getD i lH]:=by
    rw[aJ];simp[je]
   refine gY ?_;refine WQ.again (i+1,vk8) iW ⟨je,Af,(fun b=>q b \/ (wr.heap.size <= b /\ b<w7.heap.size)),?_,fun b hb=>?_⟩ (by show v.kids.length - (i+1)<v.kids.length - i;omega)
   ·show jk _ _ _ _ _ _ _ (v.kids.take (i+1))
    rw[wo];exact xC.ij (ib.refl (fun _=>True) w8) (fun _ _=>trivial) (fun b hb=>by omega) fun x cs hx=>hx.ij nP.1 (fun b hb _=>(Px b hb).2) fun b hb=>hb
   ·obtain⟨h1,h2,h3⟩:=Px b hb
    exact⟨h1,ak h2 nP.1.size,fun e=>(nP.2 b e).elim h3 fun h4=>by omega⟩
  ·obtain rfl:i=v.kids.length:=gZ
   rw[aI] at sI;have hvk:=sI.one;have oy:ib (fun b=>b≠g1) wr (wr.setCell ⟨g1,5,none⟩ vk):=(ib.refl _ wr).setCell (fun hk=>hk rfl) _;refine gY ?_;refine iD (hv:=hvk) (D1.cell 5 iz) (D1.free 5) ?_;have E1:=D1.set 5 vk;have E2:h_ 25 (wr.setCell ⟨g1,5,none⟩ vk) g2 iy:=D2.other _ _ (by show g2≠g1;omega);have PT:iB w (wr.setCell ⟨g1,5,none⟩ vk):=ib.below (ib.setCell (ib.ic tQ) (fun hk=>by simp only at hk;omega) _);have PD:=(m4.there (fun _ _ h=>h)).ij (O':=fun b=>(w.heap.size <= b /\ b≠g1 /\ b≠g2)) (ib.ic jC) (fun b hb iS=>iS) (fun b hb=>hb.1) fun _ _ h=>h;have GB:=PD.ij oy (fun b hb _=>hb.2.1) (fun b hb=>hb) fun _ _ h=>h;have GA:lA 6 lH (jE (fun b=>w5.heap.size <= b) f (wr.setCell ⟨g1,5,none⟩ vk)) (fun b=>w5.heap.size <= b) (wr.setCell ⟨g1,5,none⟩ vk) vk v.kids :=
    sI.jt.ij oy (fun b hb _=>by omega) (fun b hb=>hb) fun x cs hx=>hx.ij oy (fun b hb _=>by have:=(hq b hb).1;omega) fun b hb=>(hq b hb).1
   generalize wr.setCell ⟨g1,5,none⟩ vk=w9 at E1 E2 PT GB GA;simp only[dy,fC] at E1;refine gY ?_;refine ig (h_.rangeAt E1) rfl ?_;have lx:kj [Value.int .i64 v.k,Iq v.n,Iq v.s,.string v.t,sx,vk]:=by
    intro u hu;simp at hu
    rcases hu with rfl|rfl|rfl|rfl|rfl|rfl<;>first|rfl|assumption
   refine ir E2 lx ?_;refine gY ?_;have rS:∀a,ib (fun b=>b≠g2) w9 (w9.setRow g2 a):=fun a=>ib.setRow (ib.refl _ w9) (fun hk=>hk rfl) a;refine WQ.tl rfl rfl rfl rfl (E2.setRow _) ⟨ib.below (ib.setRow (ib.ic PT) (fun hk=>by omega) _),_,rfl,sx,vk,rfl,wk,wn,ws,wt,GB.ij (rS _) (fun b hb _=>hb.2.2) (fun b hb=>hb.1) fun _ _ h=>h,?_⟩;exact GA.ij (rS _) (fun b hb _=>by omega) (fun b hb=>by omega) fun x cs hx=>hx.ij (rS _) (fun b hb _=>by omega) fun b hb=>gZ
end K
namespace Ix
open K
def SK (l:List ByteArray) (f:ByteArray):Option Nat:=l.findIdx? fun g=>decide (g=f)
theorem X2 (h:∀j,j<l.length -> l.getD j jz≠f): SK l f=none:=by
 unfold SK;rw[fI];intro x hx;obtain⟨j,hj,rfl⟩:=bn hx;have:=h j hj;rw[ag,ah hj] at this
 simpa using this
theorem XW (hi:i<l.length) (he:l.getD i jz=f) (h:∀j,j<i -> l.getD j jz≠f): SK l f=some i:=by
 unfold SK;rw[da];refine⟨hi,?_,fun j hj=>?_⟩
 ·rw[ag,ah hi] at he
  simpa using he
 ·have:=h j hj
  rw[ag,ah gZ] at this
  simpa using this
theorem MX {a b:ByteArray}: (a.toList == b.toList)=decide (a=b):=by
 by_cases h:a=b
 ·rw[h,decide_eq_true rfl,beq_self_eq_true]
 ·rw[decide_eq_false h,beq_eq_false_iff_ne]
  exact fun e=>h (Tre.JN e)
theorem VQ {w:World}{v:Value}{l:List ByteArray}(f:ByteArray) (h:Bi w v l) (hl:l.length <= 1000000000) :
  Calls prog 89 #[v,.string f] w fun e w'=>e=.returned (Iq (match SK l f with|some i=>(i:Int)|none=>-1)) /\ w'=w:=by
 obtain⟨sp,cap,rfl,h1,h2,h3,h4⟩:=h;refine iY (args:=[.slice sp l.length cap,.string f]) func89 ntmps89 ?_;refine gY ?_;refine WC.loop (fun i:Nat=>[(0,.slice sp l.length cap),(1,.string f),(7,Iq l.length),(8,Iq i)]) (fun i w'=>(i <= l.length /\ ∀j,j<i -> l.getD j jz≠f) /\ w'=w) (fun i=>l.length - i) 0 iW ⟨⟨aw _,fun j hj=>by omega⟩,rfl⟩ ?_;rintro i _ ⟨⟨hi,hn⟩,rfl⟩
 by_cases je:i<l.length
 ·obtain⟨b,o,rfl,hb,hc⟩:=h4 gZ
  refine gY ?_;refine iG (hq:=(by rw[cP])) i (o+i) je ?_;refine ia (hc i je) ?_;refine iA ?_
  by_cases he:l.getD i jz=f
  ·refine WL.as 16 (.bool true) rfl (congrArg Value.bool (by rw[MX,decide_eq_true he.symm])) ?_
   refine gY ?_;refine g_ ⟨?_,rfl⟩;rw[XW je he hn]
  ·refine WL.as 16 (.bool false) rfl (congrArg Value.bool (by rw[MX,decide_eq_false (fun e=>he e.symm)])) ?_
   refine gY ?_;refine WQ.again (i+1) iW ⟨⟨je,fun j hj=>?_⟩,rfl⟩ (by show l.length - (i+1)<l.length - i;omega);rcases aO j i with q|q
   ·exact hn j q
   ·obtain rfl:j=i:=gZ
    exact he
 ·obtain rfl:i=l.length:=gZ
  refine gY ?_;refine g_ ⟨?_,rfl⟩;rw[X2 hn]
def RZ (w:World) (f:Nat) (o:Option V) (e:Ending) (w':World):Prop :=
 iB w w' /\ match o with
  | some u=>∃cs,e=.returned (.tuple #[.agg cs.toArray,.bool true]) /\ jE (fun b=>w.heap.size <= b) f w' u cs
  | none=>e=.returned (.tuple #[.agg iy.toArray,.bool false])
theorem aer {v:V}{f:ByteArray}(h9:v.k=9):fldR v f=(match SK v.names f with|some i=>if i<v.kids.length then some (v.kids.getD i lH) else none|none=>none):=by
 unfold fldR SK;rw[if_pos h9]
 all_goals(cases List.findIdx? (fun g=>decide (g=f)) v.names<;>rfl)
theorem RD (hB:B <= 1000000) {k:Nat}{v:V}(f:ByteArray) (h:kH (k+1) w v cs) (hs:Sm B (k+1) v):
  Calls prog 59 #[.agg cs.toArray,.string f] w (RZ w k (fldR v f)):=by
 obtain⟨sn,sk,rfl,wk,wn,ws,wt,qJ,tM⟩:=h;obtain⟨xF,OT,LN⟩:=hs;refine iY (args:=[.agg (lW v sn sk).toArray,.string f]) func59 ntmps59 ?_;refine gY ?_;refine iC fun g1 w1 nh=>?_;have B1:h_ 25 w1 g1 (lW v sn sk):=nh.blk;have b1:=nh.below;have e1:=nh.eq;have z1:=nh.size;clear nh;refine gY ?_;refine ix (z:=.agg iy.toArray) (fun _=>by kernel_rfl) fun g2 w2 lI=>?_;have B2:h_ 25 w2 g2 iy:=lI.blk;have b2:=lI.below;have e2:=lI.eq;have z2:=lI.size;clear lI;have A4:=b1.iR b2;replace B1:=B1.below b2 B1.lt;have uB:=qJ.below A4;obtain⟨sp,cap,rfl,uG,oG,ji⟩:=tM;have c0:w2.cell? ⟨g1,0,none⟩=some (Iq v.k):=B1.cell 0 iz;have c4:w2.cell? ⟨g1,4,none⟩=some sn:=B1.cell 4 iz;have c5:w2.cell? ⟨g1,5,none⟩=some (.slice sp v.kids.length cap):=B1.cell 5 iz
 -- there is none
 have nof:fldR v f=none -> ∀fn (l:Env),fn.results=#[.cell 4 25,.tmp 5] -> K.look l 4=some (iF g2) -> K.look l 5=some (.bool false) -> WQ ⟨31,[],.none⟩ (bodyPost prog fn (RZ w k (fldR v f))) .ret l (w2.setRow g2 iy.toArray):=fun hq fn l h1 h2 h3=>
  WQ.AH h1 h2 h3 rfl rfl (B2.setRow _) ⟨below_setRow A4 gZ _,by rw[hq]⟩
 by_cases h9:v.k=9
 ·refine gY ?_
  refine ia c0 ?_;refine gY ?_;refine ia c4 ?_;refine gY ?_;refine i_ func89 (VQ f uB gZ) ?_;rintro _ rfl
  have so:=aer (f:=f) h9;cases hi:SK v.names f with
  | none=>
   rw[hi] at so;simp only
   refine gY ?_;refine iE iy (by kernel_rfl) ?_;refine ir B2 (mD (fun _=>True) 0 w).one ?_;refine gY ?_;exact nof so _ _ rfl rfl rfl
  | some i=>
   rw[hi] at so;simp only at so ⊢
   by_cases je:i<v.kids.length
   ·rw[if_pos je] at so
    obtain⟨kb,ko,rfl,oN,kA⟩:=ji gZ;obtain⟨c,mO,pj,mo⟩:=kA i je;refine gY ?_;refine ia c5 ?_;refine gY ?_;refine ia c5 ?_;refine gY ?_;refine iG i (ko+i*6) je ?_;refine ig (fun j u hu=>(A4.cell (p:=⟨kb,ko+i*6+j,none⟩) oN).trans (mo j u hu)) mO ?_;refine il func90 (Mt hB k (pj.below A4) (LN _ (x9 je))) ?_;rintro _ w3 ⟨b3,c3,rfl,su⟩;refine⟨_,rfl,?_⟩;have Aa:=B2.below b3 B2.lt;have Lk:=A4.iR b3;refine gY ?_;refine ir (hm:=su.len) Aa su.one ?_;refine gY ?_;have oy:ib (fun b=>b≠g2) w3 (w3.setRow g2 c3.toArray):=ib.setRow (ib.refl _ w3) (fun hk=>hk rfl) _;refine WQ.AH rfl rfl rfl rfl su.len (Aa.setRow c3) ⟨below_setRow Lk gZ _,?_⟩;rw[so];exact⟨c3,rfl,su.ij oy (fun b hb _=>by show b≠g2;omega) fun b hb=>by have:=A4.size;omega⟩
   ·rw[if_neg je] at so
    refine gY ?_;refine ia c5 ?_;refine gY ?_;refine iE iy (by kernel_rfl) ?_;refine ir B2 (mD (fun _=>True) 0 w).one ?_;refine gY ?_;exact nof so _ _ rfl rfl rfl
 ·have so:fldR v f=.none:=by unfold fldR;rw[if_neg h9]
  refine gY ?_;refine ia c0 ?_;refine gY ?_;refine iE iy (by kernel_rfl) ?_;refine ir B2 (mD (fun _=>True) 0 w).one ?_;refine gY ?_;exact nof so _ _ rfl rfl rfl
end Ix
namespace K
def keyOf (l:List V):ByteArray:=if firstBad (l.map (chk 16))=0 then strOfNums (me 16 l) else⟨#[]⟩
theorem afv {l:List V}(h:i<l.length): l.take (i+1)=l.take i++[l.getD i lH]:=by
 rw[aJ];simp[h]
theorem FM {g:V -> List Int}(l:List V): ((l.take i).flatMap g).length <= (l.flatMap g).length:=by
 have:l.flatMap g=(l.take i).flatMap g++(l.drop i).flatMap g:=by rw[<- ai,aL]
 rw[this,aa];omega
theorem EL {f:Nat}{sl:Value}{l:List V}(h:Xq f w sl l) (hl:l.length <= 9223372036854775807) (hm:firstBad (l.map (chk 16))=0 -> (me 16 l).length <= 70368744177664):
  Calls prog 32 #[sl] w fun e w'=>e=.returned (.tuple #[.string (keyOf l),Iq (firstBad (l.map (chk 16)))]) /\ iB w w':=by
 obtain⟨sp,cap,rfl,uG,oG,ji⟩:=h;refine iY (args:=[.slice sp l.length cap]) func32 ntmps32 ?_;refine gY ?_;refine WC.loop (fun i:Nat=>[(0,.slice sp l.length cap),(10,.slice sp l.length cap),(11,Iq l.length),(12,Iq i)])
  (fun i w'=>i <= l.length /\ iB w w' /\ ∀j,j<i -> chk 16 (l.getD j lH)=0) (fun i=>l.length - i) 0 iW ⟨aw _,Below.refl _ _,fun j hj=>absurd hj gZ⟩ ?_
 rintro i wr ⟨hi,jP,j8⟩
 by_cases je:i<l.length
 ·obtain⟨kb,ko,rfl,oN,kA⟩:=ji gZ
  obtain⟨c,mO,pj,mo⟩:=kA i je;have sH:wr.rangeAt kb (ko+i*6) c:=fun j u hu=>by rw[jP.cell (p:=⟨kb,ko+i*6+j,none⟩) oN];exact mo j u hu
  refine gY ?_;refine iG i (ko+i*6) je ?_;refine ig sH mO ?_;refine ix (z:=.agg #[Iq 0,Iq 0,Iq 0,.string ByteArray.empty,.slice none 0 0,.slice none 0 0]) (fun _=>by kernel_rfl) fun g2 w2 lI=>?_;refine ir (hm:=mO) lI.blk (kH.one pj) ?_;have jF:iB wr (w2.setRow g2 c.toArray):=below_setRow lI.below (by rw[lI.eq];exact af _) _;have o5:h_ 25 (w2.setRow g2 c.toArray) g2 c:=lI.blk.setRow c;generalize w2.setRow g2 c.toArray=w3 at jF o5;have xw:=jP.iR jF;refine gY ?_;refine ig (h_.rangeAt o5) mO ?_;refine il func65 (Vl.KN (pj.below xw)) ?_;rintro e w4 ⟨rfl,lD⟩;refine⟨_,rfl,?_⟩;have uA:=xw.iR lD
  by_cases h0:chk 16 (l.getD i lH)=0
  ·refine gY ?_
   refine WQ.again (i+1) iW ⟨je,uA,fun j hj=>(cE.1 hj).elim (j8 j) (fun e=>by rw[e];exact h0)⟩ (by show l.length - (i+1)<l.length - i;omega)
  ·have sF:firstBad (l.map (chk 16))=chk 16 (l.getD i lH):=by
    rw[qn (i:=i) (by rw[av];exact je) (fun j hj=>by rw[pH 16 l j gZ];exact j8 j hj) (by rw[pH 16 l i je];exact h0),pH 16 l i je]
   refine gY ?_;refine WQ.nC rfl rfl rfl ⟨?_,uA⟩;unfold keyOf;rw[sF,if_neg h0]
 ·obtain rfl:i=l.length:=gZ
  have sF:=rj fun j hj=>by rw[av] at hj;rw[pH 16 l j hj];exact j8 j hj
  have hm':=hm sF;refine gY ?_;refine WC.loop (fun i:Nat × Value=>[(7,i.2),(22,.slice sp l.length cap),(23,Iq l.length),(24,Iq i.1)])
   (fun i w'=>i.1 <= l.length /\ Bu w' i.2 (me 16 (l.take i.1)) /\ na w w' i.2) (fun i=>l.length - i.1) (0,.slice none 0 0) iW
   ⟨aw _,Bu.nil _,jP,fun g hg=>by cases hg⟩ ?_
  rintro⟨i,bb⟩ wr2 ⟨u_,jC,ZB⟩;simp only at u_ jC ZB ⊢
  by_cases SH:i<l.length
  ·obtain⟨kb,ko,rfl,oN,kA⟩:=ji gZ
   obtain⟨c,mO,pj,mo⟩:=kA i SH;have sH:wr2.rangeAt kb (ko+i*6) c:=fun j u hu=>by rw[ZB.below.cell (p:=⟨kb,ko+i*6+j,none⟩) oN];exact mo j u hu
   have sD:me 16 (l.take (i+1))=me 16 (l.take i)++keyV 16 (l.getD i lH):=by unfold me;rw[afv SH,ai];simp
   have hle:(me 16 (l.take (i+1))).length <= 70368744177664:=aU (FM l) hm';rw[sD,aa] at hle;refine gY ?_;refine iG i (ko+i*6) SH ?_;refine ig sH mO ?_;refine ix (z:=.agg #[Iq 0,Iq 0,Iq 0,.string ByteArray.empty,.slice none 0 0,.slice none 0 0]) (fun _=>by kernel_rfl) fun g2 w2 lI=>?_;refine ir (hm:=mO) lI.blk (kH.one pj) ?_;have jF:iB wr2 (w2.setRow g2 c.toArray):=below_setRow lI.below (by rw[lI.eq];exact af _) _;have o5:h_ 25 (w2.setRow g2 c.toArray) g2 c:=lI.blk.setRow c;generalize w2.setRow g2 c.toArray=w3 at jF o5;have aiB:na w w3 bb:=⟨ZB.below.trans (jF.mono ZB.below.size),ZB.own⟩;refine gY ?_;refine ig (h_.rangeAt o5) mO ?_;refine il func66 (Qy 16 pj (j8 i SH) (jC.below jF) aiB hle) ?_;rintro e w4 ⟨b4,rfl,lD,ot⟩;refine⟨_,rfl,?_⟩;refine gY ?_;refine WQ.again (i+1,b4) iW ⟨SH,?_,aiB.grow ot⟩ (by show l.length - (i+1)<l.length - i;omega)
   show Bu w4 b4 (me 16 (l.take (i+1)))
   rw[sD];exact lD
  ·obtain rfl:i=l.length:=gZ
   refine gY ?_;refine WL.strOf rfl rfl rfl rfl rfl rfl rfl rfl jC.sl ?_;refine gY ?_;refine WQ.nC rfl rfl rfl ⟨?_,ZB.below⟩;unfold keyOf;rw[sF,if_pos rfl,aI]
end K
namespace Ix
open K Tre
theorem afw (v:V) (n:Int): K.keyOf [v,iV n]=if chk 16 v=0 then rB v n else⟨#[]⟩:=by
 unfold K.keyOf rB;have:firstBad ([v,iV n].map (chk 16))=if chk 16 v=0 then 0 else chk 16 v:=by
  show firstBad [chk 16 v,chk 16 (iV n)]=_
  rw[sW]
  by_cases h:chk 16 v=0
  ·rw[h];rfl
  ·rw[if_neg h]
   show(if chk 16 v=0 then _ else chk 16 v)=_
   rw[if_neg h]
 rw[this]
 by_cases h:chk 16 v=0
 ·rw[if_pos h,if_pos rfl,if_pos h]
 ·rw[if_neg h,if_neg h]
theorem aim (v:V) (n:Int): firstBad ([v,iV n].map (chk 16))=if chk 16 v=0 then 0 else chk 16 v:=by
 show firstBad [chk 16 v,chk 16 (iV n)]=_
 rw[sW]
 by_cases h:chk 16 v=0
 ·rw[h];rfl
 ·rw[if_neg h]
  show(if chk 16 v=0 then _ else chk 16 v)=_
  rw[if_neg h]
theorem al2 {k:Nat}{u v:V}{cu cv:List Value}(hf:h_ 25 w g (cu++cv)) (hu:kH k w u cu) (hv:kH k w v cv): Xq k w (.slice (some ⟨g,0,none⟩) 2 2) [u,v]:=by
 have lu:=hu.len;refine⟨_,_,rfl,af _,by decide,fun _=>⟨g,0,rfl,hf.lt,fun j hj=>?_⟩⟩;have hr:=h_.rangeAt hf;have h2:j<2:=hj
 match j,h2 with
 | 0,_=>exact⟨cu,lu,hu,fun i x hx=>hr i x (by rw[aP (by have:=(cB.1 hx).1;omega)];exact hx)⟩
 | 1,_=>exact⟨cv,hv.len,hv,fun i x hx=>by
   have:=hr (6+i) x (by rw[ay gZ,lu];rw[show 6+i - 6=i by omega];exact hx);rw[show 0+(6+i)=0+1*6+i by omega] at this;exact this⟩
theorem ajq (k:Nat) (w:World) {n:Int}(hn:R6 n): kH (k+1) w (iV n) [Iq 3,Iq n,Iq 0,.string ⟨#[]⟩,.slice none 0 0,.slice none 0 0]:=(yN (O:=fun _=>True) (k:=3) (n:=n) (s:=0) (t:=jz) gZ hn gZ j9).td
theorem aa7 {k:Nat}{v:V}(h:kH (k+1) w v cs) {n:Int}(hn:R6 n) (hk:chk 16 v=0 -> (me 16 [v,iV n]).length <= 2000000):
  Calls prog 60 #[.agg cs.toArray,Iq n] w fun e w'=>e=.returned (.tuple #[.string (if chk 16 v=0 then rB v n else⟨#[]⟩),.bool (decide (chk 16 v=0))]) /\ iB w w':=by
 obtain⟨sn,sk,rfl,ade⟩:=id h;refine iY (args:=[.agg (lW v sn sk).toArray,Iq n]) func60 ntmps60 ?_;refine gY ?_;refine iC fun g1 w1 nh=>?_;have B1:h_ 25 w1 g1 (lW v sn sk):=nh.blk;have b1:=nh.below;clear nh;refine gY ?_;refine ig (m:=6) (h_.rangeAt B1) rfl ?_;refine gY ?_;refine iE [Iq 3,Iq n,Iq 0,.string ⟨#[]⟩,.slice none 0 0,.slice none 0 0] (by kernel_rfl) ?_;refine WL.J5 (lW v sn sk++[Iq 3,Iq n,Iq 0,.string ⟨#[]⟩,.slice none 0 0,.slice none 0 0]) rfl rfl rfl rfl rfl rfl (by kernel_rfl) fun g w2 hf=>?_;have b2:=b1.iR hf.below;have ji:=al2 hf.blk (h.below b2) (ajq k w2 hn);refine il func32 (EL ji (show(2:Nat) <= 9223372036854775807 by omega) fun hc=>by
  rw[aim] at hc
  by_cases h0:chk 16 v=0
  ·have:=hk h0;omega
  ·rw[if_neg h0] at hc;exact(h0 hc).elim) ?_
 rintro _ w3 ⟨rfl,b3⟩;refine⟨_,rfl,?_⟩;rw[afw,aim];have b4:=b2.iR b3
 by_cases h0:chk 16 v=0
 ·rw[if_pos h0,if_pos h0,decide_eq_true h0]
  refine gY ?_;exact WQ.nC rfl rfl rfl ⟨rfl,b4⟩
 ·rw[if_neg h0,if_neg h0,decide_eq_false h0]
  generalize chk 16 v=e at h0 ⊢;refine gY ?_;exact WQ.nC rfl rfl rfl ⟨rfl,b4⟩
def OP (w:World) (tb:Nat) (st:Tre.St) (L':List KV) (w':World):Prop:=∃st',uc w' st' tb L' /\ ib (rY st tb w) w w' /\ RA st w st'
theorem Ui (f:ByteArray) (n:Int) (d:V) (L:List KV): (sX f n d L).length <= L.length+1:=by
 unfold sX;cases fldR d f with
 | none=>simp
 | some v=>exact(vo L).1
theorem Qn (f:ByteArray) (n:Int) (d:V) (L:List KV): (layOut f n d L).length <= L.length:=by
 unfold layOut;cases fldR d f with
 | none=>exact af _
 | some v=>exact cY _ _
theorem rY.sub {st:Tre.St}{w1:World}(hb:iB w w1): ∀b,rY st tb w b -> rY st tb w1 b:=fun _ jg=>⟨ak jg.1 hb.size,jg.2⟩
theorem AR (hB:B <= 1000000) {k:Nat}{st:Tre.St}{L:List KV}(hT:uc w st tb L) (hl:L.length<1000000000) (f:ByteArray) {n:Int}(hn:R6 n) (h:kH (k+2) w d cs) (hs:Sm B (k+2) d) (hd:chk 16 d=0) (he:(encV 16 d).length <= 65536) (there:Bool):
  Calls prog 27 #[iF tb,.string f,Iq n,.agg cs.toArray,.bool there] w fun e w'=>e=.returned (.tuple #[]) /\ OP w tb st (if there then sX f n d L else layOut f n d L) w':=by
 obtain⟨sn,sk,rfl,ade⟩:=id h;refine iY (args:=[iF tb,.string f,Iq n,.agg (lW d sn sk).toArray,.bool there]) func27 ntmps27 ?_;refine gY ?_;refine iC fun g1 w1 nh=>?_;have B1:h_ 25 w1 g1 (lW d sn sk):=nh.blk;have b1:=nh.below;clear nh;refine gY ?_;refine ig (m:=6) (h_.rangeAt B1) rfl ?_;refine gY ?_;refine il func59 (RD hB f (h.below b1) hs) ?_;rintro _ w2 ⟨b2,ho⟩;have zN:=b1.iR b2;cases so:fldR d f with
 | none=>
  rw[so] at ho;simp only at ho;subst ho;refine⟨_,rfl,?_⟩;have hL:(if there then sX f n d L else layOut f n d L)=L:=by unfold sX layOut;rw[so];cases there<;>rfl
  rw[hL];refine gY ?_;refine ix (z:=.agg iy.toArray) (fun _=>by kernel_rfl) fun g3 w3 tS=>?_;refine ir (show h_ 25 w3 g3 iy from tS.blk) (mD (fun _=>True) 0 w).one ?_;have b3:iB w (w3.setRow g3 iy.toArray):=below_setRow (zN.iR tS.below) (by rw[tS.eq];exact zN.size) _;refine gY ?_;exact WQ.Wp rfl ⟨rfl,st,hT.below b3,(ib.ic b3).mono fun b hb=>hb.1,fun x hx=>.inl hx⟩
 | some v=>
  rw[so] at ho;obtain⟨cv,rfl,hv⟩:=ho;refine⟨_,rfl,?_⟩;have hcv:=hv.len;have Cv:=yk hd so;refine gY ?_;refine ix (z:=.agg iy.toArray) (fun _=>by kernel_rfl) fun g3 w3 tS=>?_;refine ir (hm:=hcv) (show h_ 25 w3 g3 iy from tS.blk) hv.one ?_;have b3':iB w2 (w3.setRow g3 cv.toArray):=below_setRow tS.below (by rw[tS.eq];exact af _) _;have B3:=h_.setRow (show h_ 25 w3 g3 iy from tS.blk) cv;clear tS;generalize w3.setRow g3 cv.toArray=w4 at b3' B3 ⊢;have hv4:=hv.td.below b3';have Cf:=zN.iR b3';refine gY ?_;refine ig (m:=6) (h_.rangeAt B3) hcv ?_;refine gY ?_;refine i_ func60 (aa7 hv4 hn fun _=>aam hd he so n) ?_;rintro w5 b5
  rw[if_pos Cv,decide_eq_true Cv];have KB:=Cf.iR b5;have Rt:=hT.below KB;cases there with
  | true=>
   have hL:(if true then sX f n d L else layOut f n d L)=kT (rB v n) n L:=by unfold sX;rw[so];rfl
   rw[hL];refine gY ?_;refine il func61 (XH Rt (rB v n) n hl) ?_;rintro _ w6 ⟨st',rfl,h6,k6,n6⟩;refine⟨_,rfl,?_⟩;refine gY ?_;exact WQ.EE rfl ⟨rfl,st',h6,((ib.ic KB).mono fun b hb=>hb.1).trans (k6.mono (rY.sub KB)),fun x hx=>(n6 x hx).imp id fun h=>by have:=KB.size;omega⟩
  | false=>
   have hL:(if false then sX f n d L else layOut f n d L)=lP (rB v n) L:=by unfold layOut;rw[so];rfl
   rw[hL];refine gY ?_;refine il func62 (YS Rt (rB v n) hl) ?_;rintro _ w6 ⟨st',rfl,h6,k6,n6⟩;refine⟨_,rfl,?_⟩;refine gY ?_;exact WQ.EE rfl ⟨rfl,st',h6,((ib.ic KB).mono fun b hb=>hb.1).trans (k6.mono (rY.sub KB)),fun x hx=>(n6 x hx).imp id fun h=>by have:=KB.size;omega⟩
end Ix
namespace Vw
open K (En Bk zV jS tI)
open Cat (Tb kt mW ju)
theorem lV {A B:List Rw}(h:i<A.length): (A++B).getD i jf=A.getD i jf:=by
 rw[ag,ag,aP h]
theorem mq {A B:List Rw}(h:A.length <= i): (A++B).getD i jf=B.getD (i - A.length) jf:=by
 rw[ag,ag,ay h]
theorem x9 {A:List Rw}(h:i<A.length): A.getD i jf∈A:=by rw[jW h];exact aN h
end Vw
namespace Ix
open K (En Bk zV encV kL kY oL)
open Cat (Tb kt mW ju)
open Vw (St Rw r_ jf entR runR kV kQ qv Gn iQ Inv CL fits rowOf shut wM vH)
def kq (s:St) (t:Int):Gx:=fun n=>(kQ s (t,n)).map Rw.data
structure sw (s:St):Prop where
 ok:∀r∈s.rows,Rg r.data /\ (r.gone=false -> r.del=false -> chk 16 r.data=0 /\ (encV 16 r.data).length <= 65536)
theorem N9: sw r_:=⟨fun r h=>by cases h⟩
theorem OC: Rg zV:=⟨1,by show(0:Int).natAbs<10 ^ 20;decide,fun _ h=>by cases h⟩
theorem pV {s:St}{k:Int × Int}{r:Rw}(h:kQ s k=some r): r∈s.rows /\ r.key=k /\ r.gone=false /\ r.del=false /\ Gn s k.1=true:=by
 unfold kQ at h
 split at h
 ·rename_i ho
  split at h
  ·rename_i r' hl
   split at h
   ·rename_i hq
    cases h
    have hm:=fo hl;exact⟨(bQ.1 hm).1,of_decide_eq_true (bQ.1 hm).2,hq.2,hq.1,ho⟩
   ·cases h
  ·cases h
 ·cases h
theorem tz {s:St}(hi:Inv s) (hd:sw s) (hl:s.rows.length <= 1000000000) (t:Int): Gd (kq s t):=⟨fun n d h=>by
 unfold kq at h;cases hq:kQ s (t,n) with
 | none=>rw[hq] at h;cases h
 | some r=>
  rw[hq] at h;cases h
  obtain⟨h1,h2,h3,h4,-⟩:=pV hq;have h5:r.doc=n:=congrArg Prod.snd h2;have h6:=hi.doc r h1;have h7:=Vw.tX r.lj s.rows;obtain⟨a1,a2⟩:=hd.ok r h1;exact⟨gZ,(a2 h3 h4).1,a1⟩⟩
theorem DD {s:St}(hd:sw s) {t n:Int}(h:kq s t n=some d): chk 16 d=0 /\ (encV 16 d).length <= 65536:=by
 unfold kq at h;cases hq:kQ s (t,n) with
 | none=>rw[hq] at h;cases h
 | some r=>
  rw[hq] at h;cases h
  obtain⟨h1,-,h3,h4,-⟩:=pV hq;exact(hd.ok r h1).2 h3 h4
theorem Yj {s:St}(h:sw s) {e:En}{k:Int}(hc:kY e=0) (hr:Rg e.data): sw (entR s e bi k pO).2:=by
 unfold entR
 split
 ·exact h
 ·split
  ·split
   ·exact h
   ·refine⟨fun r uW=>?_⟩
    rcases aq.1 uW with q|q
    ·exact h.ok r q
    ·rcases ar.1 q with rfl|q
     ·refine⟨hr,fun g1 g2=>?_⟩
      rename_i hk _
      have lk:e.kind=2:=by
       rcases hk with hk|hk
       ·exact hk
       ·have:decide (e.kind=3)=false:=g2
        rw[decide_eq_true hk] at this;cases this
      unfold kY at hc
      split at hc
      ·rw[if_neg (by rintro(q|q);exact q lk;rw[show e.gone=false from g1] at q;cases q)] at hc
       split at hc
       ·rename_i kD
        exact(kD hc).elim
       ·rename_i kD
        have he:(kL e.data).2=0:=by simpa using kD
        unfold K.kL at he
        split at he
        ·rename_i q
         exact(q he).elim
        ·split at he
         ·cases he
         ·rename_i q1 q2
          exact⟨show chk 16 e.data=0 by simpa using q1,show(encV 16 e.data).length <= 65536 by omega⟩
      ·cases hc
     ·cases q
  ·split
   ·split
    ·rename_i i _
     refine⟨fun r uW=>?_⟩;rcases cM uW with q|q
     ·exact h.ok r q
     ·rw[q]
      exact⟨OC,fun g=>by cases g⟩
    ·exact h
   ·exact⟨h.ok⟩
theorem MC (b:Bk):∀(l:List En) (k:Nat) (s:St),sw s -> (∀e∈l,kY e=0 /\ Rg e.data) -> sw (runR b l k s).2
 | [],_,_,h,_=>h
 | e :: r,k,s,h,he=>by
  have h1:=Yj (bi:=b.index) (k:=k) (pO:=b.time) h (he e iz).1 (he e iz).2;unfold runR
  split
  ·exact MC b r _ _ h1 fun x hx=>he x (by simp[hx])
  ·exact h1
theorem UY {b:Bk}(h:oL b=0): ∀e∈b.iv,kY e=0:=by
 unfold K.oL at h
 split at h
 ·split at h
  ·rename_i q
   exact(q h).elim
  ·rename_i q
   have q:firstBad (b.iv.map kY)=0:=by simpa using q
   exact Vw.Fu q
 ·cases h
theorem QP {s:St}{b:Bk}(h:(kV s b).1=0): oL b=0 /\ (runR b b.iv 0 s).1=0 /\ (kV s b).2={ (runR b b.iv 0 s).2 with n:=s.n+1 }:=by
 unfold Vw.kV at h ⊢
 split at h
 ·cases h
 ·rename_i h1
  split at h
  ·rename_i q
   exact(q h).elim
  ·rename_i h2
   split at h
   ·rename_i h3
    rw[if_neg h1,if_neg h2,if_pos h3];exact⟨by simpa using h2,h3,rfl⟩
   ·rename_i q
    exact(q h).elim
theorem FU {s:St}(hd:sw s) {b:Bk}(h:(kV s b).1=0) (hr:∀e∈b.iv,Rg e.data): sw (kV s b).2:=by
 obtain⟨h1,-,h3⟩:=QP h;rw[h3];exact⟨(MC b b.iv 0 s hd fun e he=>⟨UY h1 e he,hr e he⟩).ok⟩
def atR (s:St) (a:Int × Int):Option (Int × Int):=(s.rows.find? fun r=>decide (r.lG=a)).map Rw.key
def Ar (s:St) (l:List En):List (Int × Int):=l.filterMap fun e=>if e.kind=2 \/ e.kind=3 then some (e.table,e.doc) else if e.kind=4 then atR s (e.ab,e.ae) else none
theorem IY {s:St}{e:En}{k:Int}: ∀x∈s.rows.map (fun r=>(r.lG,r.key)),x∈(entR s e bi k pO).2.rows.map fun r=>(r.lG,r.key):=by
 intro x hx;unfold entR
 split
 ·exact hx
 ·split
  ·split
   ·exact hx
   ·rw[aK]
    exact aq.2 (.inl hx)
  ·split
   ·split
    ·rename_i i hi
     obtain⟨h1,-⟩:=Vw.Gp hi;obtain⟨A,B,hA,-,oy⟩:=Vw.yZ h1;simp only[oy];rw[hA] at hx;rw[aK,aM] at hx ⊢;exact hx
    ·exact hx
   ·exact hx
theorem GR (b:Bk):∀(l:List En) (k:Nat) (s:St),∀x∈s.rows.map (fun r=>(r.lG,r.key)),x∈(runR b l k s).2.rows.map fun r=>(r.lG,r.key)
 | [],_,_,x,hx=>hx
 | e :: r,k,s,x,hx=>by
  unfold runR
  split
  ·exact GR b r _ _ x (IY x hx)
  ·exact IY x hx
theorem Nj {L:List Rw}(hn:(L.map Rw.lG).Nodup) {r:Rw}(hr:r∈L): L.find? (fun x=>decide (x.lG=r.lG))=some r:=by
 induction L with
 | nil=>cases hr
 | cons a l ih=>
  rw[aM,aY] at hn;rw[fu];rcases ar.1 hr with rfl|q
  ·simp
  ·have:a.lG≠r.lG:=fun e=>hn.1 (bg.2 ⟨r,q,e.symm⟩)
   rw[decide_eq_false this];exact ih hn.2 q
theorem YY {s:St}(hi:Inv s) {k:Int × Int}(h:(a,k)∈s.rows.map fun r=>(r.lG,r.key)): atR s a=some k:=by
 obtain⟨r,hr,e⟩:=bg.1 h;cases e
 unfold atR;rw[Nj hi.oV hr]
 rfl
theorem Yc {s:St}{e:En}{k:Int}(h2:e.kind=2 \/ e.kind=3 -> (e.table,e.doc)≠q) (h4:e.kind=4 -> ((e.ab,e.ae),q) ∉ s.rows.map fun r=>(r.lG,r.key)): Vw.of (entR s e bi k pO).2.rows q=Vw.of s.rows q:=by
 unfold entR
 split
 ·rfl
 ·split
  ·rename_i hk
   split
   ·rfl
   ·rw[Vw.EY,if_neg (show(rowOf e bi k pO).key≠q from h2 hk),aS]
  ·split
   ·rename_i hk
    split
    ·rename_i i hi
     obtain⟨h1,ha,-⟩:=Vw.Gp hi;obtain⟨A,B,hA,-,oy⟩:=Vw.yZ h1;have kD:(s.rows.getD i jf).key≠q:=fun e2=>h4 hk (bg.2 ⟨s.rows.getD i jf,by rw[Vw.jW h1];exact aN h1,by rw[ha,e2]⟩);simp only[oy];rw[Vw.vl]
     conv=>rhs;rw[hA,Vw.vl]
     rw[if_neg kD,if_neg (show(shut (s.rows.getD i jf)).key≠q from kD)]
    ·rfl
   ·rfl
theorem J6 (b:Bk) {q:Int × Int}{s':St}(hi:Inv s'):∀(l:List En) (k:Nat) (s:St),(runR b l k s).2.rows=s'.rows -> q ∉ Ar s' l -> Vw.of (runR b l k s).2.rows q=Vw.of s.rows q
 | [],_,_,_,_=>rfl
 | e :: r,k,s,hs,hq=>by
  have VM:q ∉ Ar s' r:=fun h=>hq (by
   unfold Ar at h ⊢;rw[fx]
   split
   ·exact h
   ·exact az _ h)
  have Ue:∀x,(if e.kind=2 \/ e.kind=3 then some (e.table,e.doc) else if e.kind=4 then atR s' (e.ab,e.ae) else none)=some x -> x≠q:=fun x hx e2=>hq (by
   unfold Ar;rw[fx,hx,e2];simp)
  have h1:Vw.of (entR s e b.index k b.time).2.rows q=Vw.of s.rows q:=by
   refine Yc (fun hk=>Ue _ (if_pos hk)) fun hk hm=>?_;have u9:=GR b (e :: r) k s _ hm;rw[hs] at u9;have:=YY hi u9;exact Ue q (by rw[if_neg gZ,if_pos hk,this]) rfl
  unfold runR at hs ⊢
  split at hs
  ·rename_i h0
   rw[if_pos h0,J6 b hi r _ _ hs VM,h1]
  ·rename_i h0
   rw[if_neg h0];exact h1
theorem Sr {s:St}{b:Bk}(h:(kV s b).1=0) (hi:Inv (kV s b).2) (hq:q ∉ Ar (kV s b).2 b.iv) (ho:Gn (kV s b).2 q.1=Gn s q.1): kQ (kV s b).2 q=kQ s q:=by
 obtain⟨-,-,h3⟩:=QP h;have:=J6 b hi b.iv 0 s (by rw[h3]) hq;unfold kQ;rw[ho];have e:Vw.of (kV s b).2.rows q=Vw.of s.rows q:=by rw[h3];exact this
 rw[e]
theorem Sn {s:St}(hg:Cat.Good s.cat) {t:Int}(h:Cat.has s.cat t f=true): Gn s t=true:=by
 unfold Cat.has at h;simp only[aA,decide_eq_true_eq] at h;obtain⟨⟨h1,h2⟩,h3⟩:=h;unfold Vw.Gn Cat.ju;rw[if_pos ⟨h1,h2⟩];simp only[decide_true,fS,bZ];cases hd:(s.cat.getD (t - 1).toNat Cat.iX).dropped with
 | false=>rfl
 | true=>
  have:=(hg.each (t - 1).toNat gZ).2.2.2 hd;rw[this] at h3;cases h3
theorem N5 {s:St}{b:Bk}(h:(kV s b).1=0) (hi:Inv (kV s b).2) {t n:Int}(hq:(t,n) ∉ Ar (kV s b).2 b.iv) (ho:Gn (kV s b).2 t=Gn s t): kq (kV s b).2 t n=kq s t n:=by
 unfold kq;rw[Sr h hi hq ho]
theorem FG {s:St}(hi:Inv s) {t:Int}{r:Rw}: r∈qv s t ↔ kQ s (t,r.doc)=some r:=by
 unfold Vw.qv;rw[List.mem_filterMap]
 constructor
 ·rintro⟨i,-,h⟩
  obtain⟨-,h2,-⟩:=pV h;have:r.doc=(i:Int)+1:=congrArg Prod.snd h2;rw[this];exact h
 ·intro h
  obtain⟨h1,h2,-⟩:=pV h;have h3:=hi.doc r h1;have h4:r.lj=t:=congrArg Prod.fst h2;rw[h4] at h3;refine⟨(r.doc - 1).toNat,bO.2 gZ,?_⟩;rw[show(((r.doc - 1).toNat:Nat):Int)+1=r.doc by omega];exact h
theorem Yy (s:St) (t:Int): (qv s t).Pairwise fun a b=>a.doc<b.doc:=by
 unfold Vw.qv;rw[List.pairwise_filterMap];refine List.Pairwise.imp (fun {a b} tf x hx y hy=>?_) (List.pairwise_lt_range (n:=iQ t s.rows));obtain⟨-,h2,-⟩:=pV hx;obtain⟨-,h3,-⟩:=pV hy;have e1:x.doc=(a:Int)+1:=congrArg Prod.snd h2;have e2:y.doc=(b:Int)+1:=congrArg Prod.snd h3;omega
def xk (l:List Rw):Gx:=fun n=>(l.find? fun r=>decide (r.doc=n)).map Rw.data
theorem TS {l:List Rw}{r:Rw}(h:∀x∈l,x.doc<r.doc): (∀n,xk (l++[r]) n=kv (xk l) r.doc (some r.data) n) /\ xk l r.doc=none:=by
 have h0:l.find? (fun x=>decide (x.doc=r.doc))=none:=by
  rw[cX];intro x hx;have:=h x hx;simp only[decide_eq_true_eq];omega
 refine⟨fun n=>?_,by unfold xk;rw[h0];rfl⟩;unfold xk kv;rw[eS]
 by_cases e:n=r.doc
 ·subst e
  rw[h0,if_pos rfl];simp
 ·rw[if_neg e]
  have:[r].find? (fun x=>decide (x.doc=n))=none:=by simp;omega
  rw[this];simp
theorem Du {s:St}(hi:Inv s) (t n:Int): xk (qv s t) n=kq s t n:=by
 unfold xk kq
 congr 1
 cases hq:(qv s t).find? fun r=>decide (r.doc=n) with
 | some r=>
  have h1:=ef hq;have h2:=List.find?_some hq;have h2:r.doc=n:=by simpa using h2
  rw[FG hi] at h1;rw[<- h2];exact h1.symm
 | none=>
  cases hl:kQ s (t,n) with
  | none=>rfl
  | some r=>
   obtain⟨-,h2,-⟩:=pV hl;have e:r.doc=n:=congrArg Prod.snd h2;have:=(FG hi (r:=r)).2 (by rw[e];exact hl);rw[cX] at hq;exact absurd (decide_eq_true e) (hq r this)
end Ix
namespace Ix
open K Tre
open Vw (Rw jf lC p8 mw jQ jO lF mh zQ)
theorem abL {st:Tre.St}(hk:ib (rY st tb w) w w') (hB:B <= w.heap.size) (ht:B <= tb) (pG:∀x,st x≠none -> B <= x): Below B w w' :=
 (hk.mono fun x (hx:x<B)=>⟨ak hx hB,by
  cases e:st x with
  | none=>rfl
  | some nd=>have:=pG x (by rw[e];simp);omega,gZ⟩:ib (fun x=>x<B) w w').below
theorem aez {st st':Tre.St}(h:RA st w st') (hB:B <= w.heap.size) (pG:∀x,st x≠none -> B <= x): ∀x,st' x≠none -> B <= x:=fun x hx=>(h x hx).elim (pG x) fun h=>aU hB h
structure Uy (l:List Rw):Prop where
 ok:∀r∈l,R6 r.doc /\ chk 16 r.data=0 /\ (encV 16 r.data).length <= 65536 /\ Rg r.data
 asc:l.Pairwise fun a b=>a.doc<b.doc
theorem ae6 {l:List Rw}(h:Uy l): Gd (xk l):=⟨fun n d e=>by
 unfold xk at e;cases hq:l.find? fun r=>decide (r.doc=n) with
 | none=>rw[hq] at e;cases e
 | some r=>
  rw[hq] at e;cases e
  have h1:=ef hq;have h2:=List.find?_some hq;have h2:r.doc=n:=by simpa using h2
  obtain⟨a1,a2,-,a4⟩:=h.ok r h1;exact⟨by rw[<- h2];exact a1,a2,a4⟩⟩
theorem Uy.take {l:List Rw}(h:Uy l) (i:Nat): Uy (l.take i):=⟨fun r hr=>h.ok r (bN hr),h.asc.sublist (List.take_sublist i l)⟩
theorem V5 {l:List Rw}(h:Uy l) (hi:i<l.length) {L:List KV}(hL:sR f (xk (l.take i)) L): sR f (xk (l.take (i+1))) (sX f (l.getD i jf).doc (l.getD i jf).data L):=by
 have ji:l.take (i+1)=l.take i++[l.getD i jf]:=by rw[aJ,ah hi,Vw.jW hi];rfl
 obtain⟨a1,a2,-,a4⟩:=h.ok (l.getD i jf) (by rw[Vw.jW hi];exact aN hi);have iS:∀x∈l.take i,x.doc<(l.getD i jf).doc:=fun x hx=>by
  have hp:=h.asc.sublist (List.take_sublist (i+1) l);rw[ji,gD] at hp;exact hp.2.2 x hx _ iz
 obtain⟨s1,s2⟩:=TS iS;rw[ji];exact(hL.put (ae6 (h.take i)) a1 a2 a4 s2).congr s1
abbrev BX:=Nat × Tre.St × List KV
theorem Jo {k:Nat}{v:Value}{l:List Rw}(h:lA 14 jf (lC D (k+2) w) O w v l) (hO:Uy l) (hl:l.length <= 1000000) (f:ByteArray):
  Calls prog 29 #[v,.string f] w fun e w'=>∃tb st L,e=.returned (iF tb) /\ uc w' st tb L /\ sR f (xk l) L /\ L.length <= l.length /\ iB w w' /\ w.heap.size <= tb /\ ∀x,st x≠none -> w.heap.size <= x:=by
 obtain⟨sp,cap,rfl,tC,rO,-⟩:=id h;refine iY (args:=[.slice sp l.length cap,.string f]) func29 ntmps29 ?_;refine gY ?_;refine il func64 Yf ?_;rintro _ w1 ⟨tb,rfl,Cw,b1,qT⟩;refine⟨_,rfl,?_⟩;refine gY ?_;refine WC.loop (fun x:BX=>[(0,.slice sp l.length cap),(1,.string f),(5,iF tb),(9,.slice sp l.length cap),(10,Iq (l.length:Nat)),(11,Iq x.1)])
  (fun x w'=>x.1 <= l.length /\ iB w w' /\ uc w' x.2.1 tb x.2.2 /\ sR f (xk (l.take x.1)) x.2.2 /\ x.2.2.length <= x.1 /\ ∀y,x.2.1 y≠none -> w.heap.size <= y) (fun x=>l.length - x.1) (0,oK,[]) iW
  ⟨aw _,b1,Cw,by rw[bR];exact sR.nil,af _,fun y hy=>absurd rfl hy⟩ ?_
 clear Cw b1;rintro⟨i,st,L⟩ w2 ⟨hi,b2,hT,hL,hn,pG⟩;simp only at hi hT hL hn pG
 by_cases r9:i<l.length
 case neg=>
  obtain rfl:i=l.length:=gZ;rw[aI] at hL;refine gY ?_;exact g_ ⟨tb,st,L,rfl,hT,hL,hn,b2,qT,pG⟩
 case pos=>
 obtain⟨b9,o9,pr,dc,es,qU,-,R9,p5,ok,sm⟩:=mw h r9;obtain⟨rfl,rfl⟩:sp=some ⟨b9,o9,none⟩ /\ cap=pr:=by simpa using es
 clear es;have sD:=V5 hO r9 hL;obtain⟨a1,a2,a3,a4⟩:=hO.ok (l.getD i jf) (by rw[Vw.jW r9];exact aN r9);have Db:=Ui f (l.getD i jf).doc (l.getD i jf).data L;generalize l.getD i jf=r at R9 p5 ok sm sD a1 a2 a3 a4 Db;have R2:=R9.below (ib.ic b2) qU;have j7:=p5.len;have x3:=R2.all;have z2:=b2.size;refine gY ?_;refine iG i (o9+i*14) r9 ?_;refine ig x3 (jO j7) ?_;refine ix (z:=.agg (jQ jf iy).toArray) (fun _=>by kernel_rfl) fun g8 wc f9=>?_;refine ir (hm:=(jO j7)) f9.blk (lF p5.one) ?_;obtain⟨v8,b3,-,-⟩:=mh (jQ r dc) (Below.refl w2.heap.size w2) f9;generalize wc.setRow g8 _=w3 at v8 b3 ⊢;clear f9;have bw:=b2.trans (b3.mono z2);have z3:=b3.size;have hT3:=hT.below b3;have hv:=p5.ij (ib.ic bw) (fun _ _ hl=>hl) (fun _ h=>h);have A8:=p8.of (h_.rangeAt v8) j7;have c8:=A8.doc;simp only[a_] at c8;refine iu ?_;refine ig (m:=6) A8.data j7 ?_;refine i_ func27 (AR (B:=3000) gZ hT3 gZ f a1 hv.td sm a2 a3 true) ?_;rintro w4 ⟨st',hT4,m8,hn4⟩
 have hm:w.heap.size <= w3.heap.size:=gZ;refine gY ?_;exact WQ.again (i+1,st',sX f r.doc r.data L) iW ⟨r9,bw.trans (abL m8 hm qT pG),hT4,sD,by show(sX f r.doc r.data L).length <= i+1;omega,aez hn4 hm pG⟩ (by show l.length - (i+1)<l.length - i;omega)
end Ix
namespace Ix
open K
open Cat (r6 lT ln Tb iX ju ub)
open Vw (St Rw jf lC p8 mw jQ jO lF mh zQ pD qq Inv iQ rX JY)
abbrev tbT:Nat:=98
abbrev ixT:Nat:=100
theorem It {tv:Value}{L:List Tb}{k:Nat}(h:r6 tbT ixT w O tv L) (hk:k<L.length):
  ∃g cap sp c,tv=.slice (some ⟨g,0,none⟩) L.length cap /\ g<w.heap.size /\ O g /\ w.rangeAt g (0+k*4) [Iq ((k:Int)+1),.string (L.getD k iX).name,.bool (L.getD k iX).dropped,.slice sp (L.getD k iX).fs.length c] /\
   iK ixT 1 w O (.slice sp (L.getD k iX).fs.length c) (L.getD k iX).fs.length ((L.getD k iX).fs.map Value.string):=by
 obtain⟨cells,h1,h2⟩:=h;obtain⟨g,cap,e,-,-,hg,hO,x0,x1,x2,sp,c,x3,x4⟩:=Cat.mF h1 hk (h2 k hk);refine⟨g,cap,sp,c,e,hg,hO,fun i v hv=>?_,x4⟩;have:i<4:=(cB.1 hv).1
 match i,this with
 | 0,_=>cases hv;rw[show 0+k*4+0=k*4 by omega];exact x0
 | 1,_=>cases hv;rw[show 0+k*4+1=k*4+1 by omega];exact x1
 | 2,_=>cases hv;rw[show 0+k*4+2=k*4+2 by omega];exact x2
 | 3,_=>cases hv;rw[show 0+k*4+3=k*4+3 by omega];exact x3
theorem YI {s:St}{t:Int}{r:Rw}(h:r∈qq s t): r∈s.rows /\ r.lj=t:=by
 unfold Vw.qq at h;obtain⟨i,-,h2⟩:=aB.1 h;have h3:=bQ.1 h2;exact⟨h3.1,congrArg Prod.fst (of_decide_eq_true h3.2)⟩
theorem Ns {s:St}(hi:Inv s) {r:Rw}(h:r∈s.rows): r∈qq s r.lj /\ 1 <= r.lj /\ r.lj <= s.cat.length:=by
 have h1:=hi.doc r h;have h2:=hi.lj r h;refine⟨?_,?_⟩
 ·unfold Vw.qq
  refine aB.2 ⟨(r.doc - 1).toNat,bO.2 gZ,bQ.2 ⟨h,decide_eq_true ?_⟩⟩;exact dN rfl (by show r.doc=_;omega)
 ·unfold Cat.ju at h2
  split at h2
  ·rename_i q;exact q
  ·cases h2
def OV (s:St) (a:Int × Int) (x:Nat):Prop:=∀t:Nat,t<x -> ∀r∈qq s ((t:Int)+1),r.lG≠a
theorem afk {s:St}(hi:Inv s) (h:OV s a s.cat.length): atR s a=none:=by
 unfold atR;have:s.rows.find? (fun r=>decide (r.lG=a))=none:=by
  rw[cX];intro r hr;obtain⟨h1,h2,h3⟩:=Ns hi hr;have:=h (r.lj - 1).toNat gZ r (by rw[show(((r.lj - 1).toNat:Nat):Int)+1=r.lj by omega];exact h1)
  simpa using this
 rw[this]
 rfl
theorem abS {s:St}(hi:Inv s) {tt:Int}{r:Rw}(h:r∈qq s tt) (ha:r.lG=a): atR s a=some r.key:=by
 unfold atR;rw[<- ha,Nj hi.oV (YI h).1]
 rfl
abbrev wL:Nat:=78
def atV:Option (Int × Int) -> Value
 | some k=>.tuple #[.agg #[Iq k.1,Iq k.2],.bool true]
 | none=>.tuple #[.agg #[Iq 0,Iq 0],.bool false]
theorem abY {f:Nat}{s:St}(h0:pD w vb M D f s N) (hN:N <= 100000) (hi:Inv s) (a:Int × Int):
  Calls prog 23 #[iF vb,.agg #[Iq a.1,Iq a.2]] w fun e w'=>e=.returned (atV (atR s a)) /\ iB w w':=by
 refine iY func23 ntmps23 ?_;refine gY ?_;refine iC fun g3 w1 f1=>?_;have v3:h_ 74 w1 g3 [Iq a.1,Iq a.2]:=f1.blk;have b1:=f1.below;have z1:=f1.size;clear f1;refine ix (z:=.agg #[Iq 0,Iq 0]) (fun _=>by kernel_rfl) fun g4 w2 f2=>?_;have v4:h_ wL w2 g4 [Iq 0,Iq 0]:=f2.blk;have b2:=b1.iR f2.below;replace v3:=h_.below v3 f2.below (h_.lt v3);have e4:=f2.eq;have ot:w.heap.size <= g4:=by have:=b1.size;omega
 clear f2 b1;refine gY ?_;have h2:=h0.below b2;obtain⟨cp,Oc,mr,md,mp,mn,k,F,hp⟩:=id h2;refine WL.call rfl rfl rfl rfl rfl func24 rfl (by kernel_rfl) (rX hp) ?_;rintro _ _ ⟨rfl,rfl⟩;refine⟨_,rfl,?_⟩;refine WL.call rfl rfl rfl rfl rfl func28 rfl (by kernel_rfl) (ub hp.cat) ?_;rintro _ w3 ⟨sp,cap,rfl,hT,b3⟩;refine⟨_,rfl,?_⟩;clear hp;have Pt:=h_.below v3 b3 (h_.lt v3);have v4':=h_.below v4 b3 (h_.lt v4);have Lk:=b2.iR b3;have h3:=h2.below b3;have hlen:s.cat.length <= 64:=by obtain⟨_,_,_,_,_,_,_,_,hp⟩:=h3;obtain⟨_,_,_,-,-,-,-,-,-,-,hg⟩:=hp.cat;exact hg.len
 clear h2 v3 v4 b2 b3;refine gY ?_;refine WC.loop (fun x:Nat=>[(0,iF vb),(3,iF g3),(4,iF g4),(5,.bool false),(12,.slice sp s.cat.length cap),(13,Iq (s.cat.length:Nat)),(14,Iq x)])
  (fun x w'=>x <= s.cat.length /\ iB w3 w' /\ OV s a x) (fun x=>s.cat.length - x) 0 iW
  ⟨aw _,Below.refl _ _,fun t ht=>by omega⟩ ?_
 rintro i w4 ⟨r9,b4,hny⟩;have v34:=h_.below Pt b4 (h_.lt Pt);have v44:=h_.below v4' b4 (h_.lt v4')
 by_cases u_:i<s.cat.length
 case neg=>
  obtain rfl:i=s.cat.length:=gZ;rw[afk hi hny];refine gY ?_;refine iE [Iq 0,Iq 0] (by kernel_rfl) ?_;refine WL.nQ rfl rfl rfl rfl rfl rfl v44 rfl rfl (by intro u hu;simp at hu;rw[hu];rfl) ?_;have b5:iB w (w4.setRow g4 [Value.int .i64 0,Iq 0].toArray):=below_setRow (Lk.iR b4) ot _;have v5:=h_.setRow v44 [Iq 0,Iq 0];generalize w4.setRow g4 _=w5 at b5 v5 ⊢;refine gY ?_;exact WQ.AH rfl rfl rfl rfl rfl v5 ⟨rfl,b5⟩
 case pos=>
 obtain⟨gt,LS,LM,cf,es,lg,-,j6,-⟩:=It hT u_;obtain⟨rfl,rfl⟩:sp=some ⟨gt,0,none⟩ /\ cap=LS:=by simpa using es
 clear es;replace j6:w4.rangeAt gt (0+i*4) _:=fun j v hv=>by rw[b4.cell (p:=⟨gt,0+i*4+j,none⟩) lg];exact j6 j v hv
 refine gY ?_;refine iG i (0+i*4) u_ ?_;refine ig j6 rfl ?_;refine ix (z:=.agg #[Iq 0,.string ByteArray.empty,.bool false,.slice none 0 0]) (fun _=>by kernel_rfl) fun g7 w5 f5=>?_;have b5:=f5.below;have z5:=f5.eq;have v7:h_ tbT w5 g7 [Iq 0,.string ByteArray.empty,.bool false,.slice none 0 0]:=f5.blk;clear f5;refine WL.nQ rfl rfl rfl rfl rfl rfl v7 rfl rfl (by intro u hu;simp at hu;rcases hu with rfl|rfl|rfl|rfl<;>rfl) ?_;have TN:=h_.setRow v7 [Iq ((i:Int)+1),.string (s.cat.getD i iX).name,.bool (s.cat.getD i iX).dropped,.slice LM (s.cat.getD i iX).fs.length cf];have zZ:iB w4 (w5.setRow g7 [Iq ((i:Int)+1),.string (s.cat.getD i iX).name,.bool (s.cat.getD i iX).dropped,.slice LM (s.cat.getD i iX).fs.length cf].toArray):=below_setRow b5 gZ _;generalize w5.setRow g7 _=w6 at TN zZ ⊢;clear v7 b5;have z4:=b4.size;have b6:=b4.trans (zZ.mono z4);have c7:=TN.cell 0 iz;simp only[al] at c7;refine iu ?_;refine WL.call rfl rfl rfl rfl rfl func55 rfl (by kernel_rfl) (JY (h3.below b6) hN (t:=(i:Int)+1) ⟨gZ,gZ⟩) ?_;rintro _ w7 ⟨b7,v,rfl,kU⟩;refine⟨_,rfl,?_⟩;have b37:=b6.iR b7;clear v34 v44 j6 TN c7 b6 zZ b4 b7;have hNx:∀j,j <= (qq s ((i:Int)+1)).length -> (∀r∈(qq s ((i:Int)+1)).take j,r.lG≠a) -> j=(qq s ((i:Int)+1)).length -> OV s a (i+1):=fun j _ h1 h2 t ht r hr=>by
  by_cases e:t=i
  ·subst e;subst h2;rw[aI] at h1;exact h1 r hr
  ·exact hny t gZ r hr
 have hye:∀r∈qq s ((i:Int)+1),r.lG=a -> atR s a=some r.key:=fun r hr ha=>abS hi hr ha;have hHl:(qq s ((i:Int)+1)).length <= 9223372036854775807:=by obtain⟨_,_,_,h1,h2,-⟩:=id kU;omega
 generalize qq s ((i:Int)+1)=H at kU hNx hye hHl;obtain⟨sph,cph,rfl,-,-,-⟩:=id kU;refine gY ?_;refine WC.loop (fun x:Nat=>[(0,iF vb),(3,iF g3),(4,iF g4),(5,.bool false),(12,.slice (some ⟨gt,0,none⟩) s.cat.length cap),(13,Iq (s.cat.length:Nat)),(14,Iq i),(21,.slice sph H.length cph),(22,Iq (H.length:Nat)),(23,Iq x)])
  (fun x w'=>x <= H.length /\ iB w7 w' /\ ∀r∈H.take x,r.lG≠a) (fun x=>H.length - x) 0 iW
  ⟨aw _,Below.refl _ _,fun r hr=>by simp at hr⟩ ?_
 rintro j w8 ⟨Gg,b8,hnj⟩;have b38:=b37.iR b8
 by_cases th:j<H.length
 case neg=>
  obtain rfl:j=H.length:=gZ;refine gY ?_;exact WQ.again (i+1) iW ⟨u_,b38,hNx _ Gg hnj rfl⟩ (by show s.cat.length - (i+1)<s.cat.length - i;omega)
 case pos=>
 obtain⟨b9,o9,pr,dc,es,qU,-,R9,p5,ok,sm⟩:=mw kU th;obtain⟨rfl,rfl⟩:sph=some ⟨b9,o9,none⟩ /\ cph=pr:=by simpa using es
 clear es;have ji:H.take (j+1)=H.take j++[H.getD j jf]:=by rw[aJ,ah th,Vw.jW th];rfl
 have aid:=hye (H.getD j jf) (by rw[Vw.jW th];exact aN th);generalize H.getD j jf=r at R9 p5 ok sm ji aid;have R2:=R9.below (ib.ic b8) qU;have j7:=p5.len;have x3:=R2.all;have v38:=h_.below Pt b38 (h_.lt Pt);have FE:=h_.below v4' b38 (h_.lt v4');refine gY ?_;refine iG j (o9+j*14) th ?_;refine ig x3 (jO j7) ?_;refine ix (z:=.agg (jQ jf iy).toArray) (fun _=>by kernel_rfl) fun g9 wc f9=>?_;refine ir (hm:=(jO j7)) f9.blk (lF p5.one) ?_;obtain⟨v9,bx,-,-⟩:=mh (jQ r dc) (Below.refl w8.heap.size w8) f9;generalize wc.setRow g9 _=w9 at v9 bx ⊢;clear f9;have A9:=p8.of (h_.rangeAt v9) j7;have x1:=A9.blk;have x2:=A9.ni;have x4:=A9.lj;have x5:=A9.doc;simp only[a_] at x1 x2 x4 x5;replace v38:=h_.below v38 bx (h_.lt v38);replace FE:=h_.below FE bx (h_.lt FE);have b39:=b38.iR bx;have Qg:=b8.iR bx;have y1:=v38.cell 0 iz;have y2:=v38.cell 1 iz;simp only[al,ax] at y1 y2
 by_cases q1:r.blk=a.1
 ·by_cases q2:r.ni=a.2
  ·rw[aid (dN q1 q2)]
   refine iu ?_;refine iE [Iq r.lj,Iq r.doc] (by kernel_rfl) ?_;refine WL.nQ rfl rfl rfl rfl rfl rfl FE rfl rfl (by intro u hu;simp at hu;rcases hu with rfl|rfl<;>rfl) ?_;have bf:iB w (w9.setRow g4 [Value.int .i64 r.lj,Iq r.doc].toArray):=below_setRow (Lk.iR b39) ot _;have vf:=h_.setRow FE [Iq r.lj,Iq r.doc];generalize w9.setRow g4 _=wz at bf vf ⊢;refine gY ?_;exact WQ.AH rfl rfl rfl rfl rfl vf ⟨rfl,bf⟩
  ·refine iu ?_
   refine WQ.again (j+1) iW ⟨th,Qg,fun r' Uz=>?_⟩ (by show H.length - (j+1)<H.length - j;omega);rw[ji] at Uz;rcases aq.1 Uz with h|h
   ·exact hnj r' h
   ·obtain rfl:=aZ.1 h
    exact fun e=>q2 (congrArg Prod.snd e)
 ·refine iu ?_
  refine WQ.again (j+1) iW ⟨th,Qg,fun r' Uz=>?_⟩ (by show H.length - (j+1)<H.length - j;omega);rw[ji] at Uz;rcases aq.1 Uz with h|h
  ·exact hnj r' h
  ·obtain rfl:=aZ.1 h
   exact fun e=>q1 (congrArg Prod.fst e)
end Ix
namespace K
variable {n:NN}{Q:Exit -> Act -> World -> Prop}{l:Env}{w w':World}{ops:Array Oper}{o:Oper}{rest:List Oper}{d:Nat}
theorem NM {r:Option Nat}{P:Program}{a:Act}(h:cw (some r) P c Q a w): c.wpIn (FF r) m P Q a w:=fun b k cs h1 h2 _=>h b k cs h1 h2 (fun d hd=>by cases hd)
theorem ac2 {f:FuncId}{fn:Func}{n:Nat}(hf:prog.funcs[f]? = some fn) (hb:fn.body=some c) (hn:fn.ntmps=n) (hs:Nat.ble args.length n=true) (h:WC ⟨n,[],some none⟩ c (bodyPost prog fn R) (argsEnv 0 args) w): CallsIn Fence.wide 1 prog f args.toArray w R:=by
 refine callsIn_of_wp hf hb trivial (NM (r:=none) (h.go _ ?_));subst hn;have Pu:args.length <= fn.ntmps:=eW hs;refine⟨by simp;omega,rfl,fun k v hk=>?_⟩;obtain⟨-,h2⟩:=y_ _ _ _ _ hk;rw[gh] at h2;have iS:k<args.length:=by
  rcases aO k args.length with h|h
  ·exact h
  ·rw[aG h] at h2;cases h2
 rw[dQ (by simpa using iS)]
 simpa using h2
theorem WL.yield {k:Nat}{lp:Nat}{x:Operand}{args:List Operand}{ts:Array TypeId}{vs:List Value}(hg:o.guard=none) (hd:o.dst=some d) (hn:Nat.blt d k=true) (ho:o.op=.call { callee:=.value x,args:=args.toArray,argTypes:=ts }) (hx:jw l x=some (.func (.yield lp) #[] #[])) (hv:evlAll l args=some vs) (hy:YieldAt Fence.wide 0 prog lp vs.toArray w R) (h:∀e w',R e w' -> ∃v,e=.returned v /\ WL ⟨k,ds,some none⟩ ops Q rest ((d,v) :: l) w'): WL ⟨k,ds,some none⟩ ops Q (o :: rest) l w :=
 ⟨fun a ha=>by
  refine Zy hg ?_ hy fun e w2 hh=>?_
  ·unfold execOp
   rw[ho];have e0:=ua ha hv;have e1:(args.toArray.map a.eval)=vs.toArray:=by rw[cn,e0]
   have e2:=ha.eval hx;simp[resolve,e1,e2,Deferred.ofValue,invoke]
  ·obtain⟨v,rfl,hwl⟩:=h e w2 hh
   exact⟨v,rfl,by rw[hd];exact hwl.go _ (ha.put hn v)⟩⟩
theorem yF {K:Nat -> Prop}{a:World}(h:ib K a w) (hg:¬K g) (cs:Array Value): ib K a (w.setRow g cs):=
 ⟨h.os,h.tape,h.output,by simpa using h.size,fun k hk=>(setRow_other w g k cs (fun e=>hg (e ▸ hk))).trans (h.block k hk)⟩
def mark (D:Nat):Deferred:={ target:=.collected D,args:=#[]}
def shut:List Nat -> World -> World
 | [],w=>w
 | D :: r,w=>shut r (w.putObj D (.deferred none))
theorem Dg:∀(Ds:List Nat) (w:World),ib (fun b=>b ∉ Ds) w (shut Ds w)
 | [],w=>ib.refl _ w
 | D :: r,w=>by
  have h1:ib (fun b=>b ∉ D :: r) w (w.putObj D (.deferred none)):=⟨rfl,rfl,rfl,iz,fun k hk=>eI (by intro e;subst e;exact hk iz)⟩;exact h1.trans ((Dg r _).mono fun b hb=>by intro h;exact hb (by simp[h]))
def DS (w:World) (Ds:List Nat):Prop:=Ds.Nodup /\ ∀D∈Ds,w.heap[D]? = some (.deferred (some []))
def acB (fn:Func) (R:Ending -> World -> Prop):Exit -> Act -> World -> Prop
 | .normal,a,w | .ret,a,w=>∃Ds:List Nat,a.defers=Ds.map mark /\ DS w Ds /\ ∃v,(results fn a.tmps).run prog (shut Ds w)=.ok v (shut Ds w) /\ R (.returned v) (shut Ds w)
 | _,_,_=>False
theorem xA {fn:Func}{tmps:Array Value}{R:Ending -> World -> Prop}:∀(Ds:List Nat) (w:World),DS w Ds -> (∃v,(results fn tmps).run prog (shut Ds w)=.ok v (shut Ds w) /\ R (.returned v) (shut Ds w)) ->
  LeavesInM Fence.wide 1 prog fn tmps R (Ds.map mark) .returning w
 | [],_,_,h=>h
 | D :: r,w,hm,h=>by
  refine⟨iz,.inl ⟨D,_,rfl,run_takeDeferred (hm.2 D iz),?_⟩⟩;refine xA r _ ⟨(aY.1 hm.1).2,fun E hE=>?_⟩ h;have kD:D≠E:=fun e=>(aY.1 hm.1).1 (e ▸ hE);exact(eI (fun e=>kD e.symm)).trans (hm.2 E (by simp[hE]))
theorem agS {f:FuncId}{fn:Func}{n:Nat}(hf:prog.funcs[f]? = some fn) (hb:fn.body=some c) (hn:fn.ntmps=n) (hs:Nat.ble args.length n=true) (h:WC ⟨n,[],none⟩ c (acB fn R) (argsEnv 0 args) w): Calls prog f args.toArray w R:=by
 refine(callsIn_wide (n:=1)).1 (callsIn_of_wp_marks hf hb trivial (wpIn_wide.2 (Code.wp_mono (fun e a w q=>?_) (h.go _ ?_))))
 ·cases e with
  | normal=>obtain⟨Ds,h1,h2,h3⟩:=q;show LeavesInM _ _ _ _ _ _ a.defers _ _;rw[h1];exact xA Ds _ h2 h3
  | ret=>obtain⟨Ds,h1,h2,h3⟩:=q;show LeavesInM _ _ _ _ _ _ a.defers _ _;rw[h1];exact xA Ds _ h2 h3
  | exit id=>exact q
  | goto l=>exact q
  | panic ch=>exact q.elim
  | outgrown=>exact q.elim
 subst hn;have Pu:args.length <= fn.ntmps:=eW hs;refine⟨by simp;omega,rfl,fun k v hk=>?_⟩;obtain⟨-,h2⟩:=y_ _ _ _ _ hk;rw[gh] at h2;have iS:k<args.length:=by
  rcases aO k args.length with h|h
  ·exact h
  ·rw[aG h] at h2;cases h2
 rw[dQ (by simpa using iS)]
 simpa using h2
section
variable {fn:Func}{R:Ending -> World -> Prop}{kn:Nat}{md:Option (Option Nat)}
theorem WQ.alG {t:Nat}{v:Value}(Ds:List Nat) (hr:fn.results=#[.tmp t]) (hl:look l t=some v) (hm:DS w Ds) (h:R (.returned v) (shut Ds w)): WQ ⟨kn,Ds.map mark,md⟩ (acB fn R) .ret l w :=
 ⟨fun a ha=>⟨Ds,ha.defers,hm,v,by have:=ha.getD hl;simp only[bS] at this;simp[results,hr,this],h⟩⟩
end
def Wh:List (Tmp × Value) -> Env -> Env
 | [],l=>l
 | (p,v) :: r,l=>Wh r ((p,v) :: l)
theorem Fr.zip {a:Act}{md UH:Option (Option Nat)}: ∀(pv:List (Tmp × Value)) (tmps:Array Value) (l:Env),(∀p∈pv,Nat.blt p.1 kn=true) -> Fr ⟨kn,ds,md⟩ { a with tmps:=tmps } l ->
  Fr ⟨kn,[],UH⟩ { tmps:=pv.foldl (fun t (p,v)=>t.setIfInBounds p v) tmps,defers:=[]} (Wh pv l)
 | [],tmps,l,_,h=>⟨h.size,rfl,h.slot⟩
 | (p,v) :: r,tmps,l,hp,h=>by
  have h1:=h.put (hp _ (cj ..)) v;exact Fr.zip (a:=a) r _ _ (fun q hq=>hp q (by simp[hq])) ⟨h1.size,h1.defers,h1.slot⟩
def yO (T:Nat) (W W':World):Prop:=∀(b:Nat) cur x,W.heap[b]? = some (.cells cur T x) -> W'.heap[b]? = W.heap[b]?
theorem yO.trans {A B C:World}(h:yO T A B) (k:yO T B C): yO T A C:=fun b cur x hb=>by
 have h1:=h b cur x hb;exact(k b cur x (h1.trans hb)).trans h1
theorem yO.refl (T:Nat) (W:World): yO T W W:=fun _ _ _ _=>rfl
theorem yO.put {l:Nat}{o:Obj}(o':Obj) (h:W.heap[l]? = some o) (ho:o.isCells=false): yO T W (W.putObj l o'):=fun b cur x hb=>
 eI (by intro e;subst e;rw[h] at hb;obtain rfl:=au hb;cases ho)
theorem yO.ij {K:Nat -> Prop}(hk:ib K W W') (hK:∀(b:Nat) cur x,W.heap[b]? = some (.cells cur T x) -> K b): yO T W W':=fun b cur x hb=>hk.block b (hK b cur x hb)
theorem TT {K:Nat -> Prop}(hk:ib K W W') (hK:∀b o,B <= b -> W.heap[b]? = some o -> o.isCells=false -> K b): KeepsFrom B W W' :=
 ⟨hk.size,fun k o hB hko ho=>(hk.block k (hK k o hB hko ho)).trans hko⟩
theorem AY {row:Option Nat}(h:W.grownBy W' row): ib (fun b=>b<W.heap.size /\ some b≠row) W W':=⟨h.os,h.tape,h.output,h.size,fun k hk=>h.block k hk.1 hk.2⟩
theorem zR (h:Below B W W') (hB:W.heap.size <= B) (row:Option Nat): W.grownBy W' row:=⟨h.os,h.tape,h.output,h.size,fun k hk _=>h.block k gZ⟩
theorem WC.afj {g:Operand}{ps:List Tmp}{assign body:Code}{gf:Nat}{lb:Array Value}{Ry:α -> List Value}{S Sp:List α -> Prop}(hg:jw l g=some (.func (.func gf) #[] lb)) (eg:∀args w,(callFunc gf args).run prog w=.ok (.enter gf args) w) (ari:SeqStopsK Fence.wide 1 prog gf lb (fun x=>(Ry x).toArray) (yO T) S Sp N w) (mY:∀x,(Ry x).length=ps.length) (hpn:ps.all (fun p=>Nat.blt p kn)=true) (I:List α -> World -> Prop) (Ix:Code -> List α -> World -> Prop) (hI:OwnFrom w.heap.size I) (hIx:∀c,OwnFrom w.heap.size (Ix c)) (h0:I [] w) (L1:α -> Env) (aat:∀(lp:Nat) (x:α) (W:World),WC ⟨kn,[],some (some lp)⟩ assign (Exit.then (Wo ⟨kn,[],some (some lp)⟩ (fun _:Unit=>L1 x) (fun _ W'=>W'=W)) (fun _ _ _=>False)) (Wh (ps.zip (Ry x)) l) W) (Vn:∀(lp:Nat) (pre:List α) (x:α) (W:World),w.heap.size <= lp -> (∃r,W.heap[lp]? = some (.loop r)) -> I pre W -> pre.length<N -> WC ⟨kn,[],some (some lp)⟩ body (ownPostG w.heap.size (yO T) I Ix (pre++[x]) W) (L1 x) W) (OW:∀(D:Nat) (xs:List α) (W:World),w.heap.size <= D -> S xs -> I xs W -> W.heap[D]? = some (.deferred (some [])) -> WQ ⟨kn,mark D :: ds,none⟩ Q .normal l W) (amt:∀(D:Nat) (c:Code) (pre:List α) (W:World),w.heap.size <= D -> Sp pre -> Ix c pre W -> W.heap[D]? = some (.deferred (some [])) -> WC ⟨kn,mark D :: ds,none⟩ c Q l W):
  WC ⟨kn,ds,none⟩ (.rangeFunc g ps.toArray assign body) Q l w:=by
 refine⟨fun a ha=>(wpIn_wide (n:=2)).1 ?_⟩;refine wpIn_rangeFunc_ownH (F:=Fence.wide) rfl gZ (ha.eval hg) trivial eg ari yO.trans (fun W l o o' _ hl hc _=>yO.put o' hl hc) (Below.refl _ _) (fun x=>by simp[mY x]) I Ix hI hIx h0
  (fun x a' _=>Fr ⟨kn,[],none⟩ a' (L1 x)) (fun _ _ _ _ _ _ h _ _=>h) ?_ ?_ ?_ ?_
 ·intro lp pre x W K hi hK
  have hz:Fr ⟨kn,[],some (some lp)⟩ { tmps:=(ps.toArray.zip (Ry x).toArray).foldl (fun t (p,v)=>t.setIfInBounds p v) a.tmps,defers:=[]} (Wh (ps.zip (Ry x)) l):=by
   rw[List.zip_toArray];simp only[List.foldl_toArray'];refine Fr.zip (a:=a) (md:=none) (ds:=ds) _ _ _ (fun p hp=>?_) ⟨ha.size,ha.defers,ha.slot⟩;have:=bT.1 hpn p.1 (List.of_mem_zip hp).1;exact this
  have h1:=NM (m:=0) ((aat lp x W).go _ hz);refine Go.wpIn_mono h1 fun e a' W' q=>?_;cases e with
  | normal=>
   obtain⟨_,hf,rfl⟩:=q;exact hK _ _ (KeepsFrom.refl _ _) (yO.refl _ _) hi ⟨hf.size,hf.defers,hf.slot⟩
  | exit id=>exact q
  | goto l=>exact q
  | ret=>exact q
  | panic ch=>exact q
  | outgrown=>exact q
 ·intro lp pre x a' W hlp hr hi hf hlen
  exact NM (m:=0) ((Vn lp pre x W hlp hr hi hlen).go _ ⟨hf.size,hf.defers,hf.slot⟩)
 ·intro D xs W hD hS hi hk
  exact(OW D xs W hD hS hi hk).go _ ⟨ha.size,by show mark D :: a.defers=_;rw[ha.defers],ha.slot⟩
 ·intro D c pre W hD hS hi hk
  exact wpIn_wide.2 ((amt D c pre W hD hS hi hk).go _ ⟨ha.size,by show mark D :: a.defers=_;rw[ha.defers],ha.slot⟩)
variable {n:NN}{kn:Nat}{ds:List Deferred}{Q:Exit -> Act -> World -> Prop}{l:Env}{w w':World}{ops:Array Oper}{o:Oper}{rest:List Oper}{d fuel:Nat}{iw:Array Bool}
variable {n:NN}{Q:Exit -> Act -> World -> Prop}{l:Env}{w w':World}{ops:Array Oper}{o:Oper}{rest:List Oper}{d:Nat}
def IsC (w:World) (b:Nat):Prop:=∃cur T x,w.heap[b]? = some (.cells cur T x)
theorem h_.Vh {T:TypeId}{l:List Value}(h:h_ T w b l): IsC w b:=⟨_,_,_,h⟩
theorem jk.Vh {e:TypeId}{z:α}{P:α -> List Value -> Prop}{v:Value}{l:List α}(h:jk e m z P O w v l) (hg:v.ownBlock=some g): ∃cur x,w.heap[g]? = some (.cells cur e x):=by
 obtain⟨lO,h1,h2,h3,h4,h5⟩:=h;rcases h3.2 with⟨rfl,-⟩|⟨g',cap,cur,rfl,hb,U2,hr⟩
 ·cases hg
 ·injection hg with hg
  subst hg;exact⟨cur,_,U2⟩
def adR (B:Nat) (w:World) (b:Nat):Prop:=(b<B /\ b<w.heap.size) \/ IsC w b
theorem U_ {β:Type}{I:β -> World -> Prop}(h:∀s W W',I s W -> ib (adR B W) W W' -> I s W'): OwnFrom B I:=fun s W W' row hs hg hr=>by
 refine h s W W' hs ((AY hg).mono fun b hb=>?_);rcases hb with⟨h1,h2⟩|⟨cur,T,x,h1⟩
 ·exact⟨h2,fun e=>by have:=(hr b e.symm).1;omega⟩
 ·refine⟨(dW.1 h1).1,fun e=>?_⟩
  obtain⟨-,ob,h2,h3⟩:=hr b e.symm;rw[h1] at h2;obtain rfl:=au h2;cases h3
theorem ZW {Ds:List Nat}(hm:DS w Ds) (h:IsC w b): b ∉ Ds:=fun hb=>by
 obtain⟨cur,T,x,h⟩:=h;have:=hm.2 b hb;rw[h] at this;cases this
end K
namespace K
open Tre
def alp (x:KV):List Value:=[.string x.1,Iq x.2]
structure QV (w:World) (p:Value) (f t:Ky) (g1 g2 g3:Nat):Prop where
 c1:w.cell? ⟨g1,0,none⟩=some p
 c2:w.cell? ⟨g2,0,none⟩=some (.string f)
 c3:w.cell? ⟨g3,0,none⟩=some (.string t)
theorem Ki {a:Addr}{v:Value}(h:w.cell? a=some v): a.block<w.heap.size:=bU w a h
theorem QV.below {f t:Ky}(h:QV w p f t g1 g2 g3) (hb:iB w w'): QV w' p f t g1 g2 g3 :=
 ⟨(hb.cell (Ki h.c1)).trans h.c1,(hb.cell (Ki h.c2)).trans h.c2,(hb.cell (Ki h.c3)).trans h.c3⟩
def abQ (g1 g2 g3:Nat):Array Value:=#[iF g1,iF g2,iF g3]
theorem QI (q:Option Addr) (f t:Ky): Calls prog 67 #[.pointer q,.string f,.string t] w fun e w'=>iB w w' /\ ∃g1 g2 g3,e=.returned (.func (.func 102) #[] (abQ g1 g2 g3)) /\ QV w' (.pointer q) f t g1 g2 g3:=by
 refine iY func67 ntmps67 ?_;refine ku ?_;refine iC fun g1 w1 f1=>?_;refine iC fun g2 w2 f2=>?_;refine iC fun g3 w3 f3=>?_;have zY:=f1.size;have vJ:=f2.size;have b1:=f1.blk.below f2.below f1.blk.lt;have b1':=b1.below f3.below b1.lt;have b2:=f2.blk.below f3.below f2.blk.lt;have hb:=(f1.below.trans (f2.below.mono gZ)).trans (f3.below.mono gZ);refine gY ?_;refine WL.fn rfl rfl rfl rfl rfl ?_;refine gY ?_;exact g_ ⟨hb,g1,g2,g3,rfl,b1'.cell 0 (by simp[Value.cells]),b2.cell 0 (by simp[Value.cells]),f3.blk.cell 0 (by simp[Value.cells])⟩
theorem jk.kp {e:TypeId}{z:α}{P:α -> List Value -> Prop}{v:Value}{l:List α}(h:jk e m z P O w v l) (hk:yO e w w'): jk e m z P O w' v l:=by
 obtain⟨lO,h1,h2,h3,h4,h5⟩:=h;refine⟨lO,h1,h2,⟨h3.1,?_⟩,h4,h5⟩;rcases h3.2 with h|⟨g,cap,cur,e1,hb,hg,hr⟩
 ·exact .inl h
 ·exact .inr ⟨g,cap,cur,e1,hb,(hk g cur _ hg).trans hg,hr⟩
theorem UE (w:World): (zeroValue sE).run prog w=.ok (.agg #[.string ByteArray.empty,Iq 0]) w:=by kernel_rfl
theorem S8 {L:List KV}{f t:Ky}(hc:QV w p f t g1 g2 g3) (hlen:L.length<1000000000) (j8:∀W,iB w W -> Calls prog 103 #[p,.string f,.string t] W fun e w'=>iB W w' /\ ∃v,e=.returned v /\ jk sE 2 Cz Pp (fun b=>W.heap.size <= b) w' v L):
  SeqStopsK Fence.wide 1 prog 102 (abQ g1 g2 g3) (fun x=>(alp x).toArray) (yO sE) (fun xs=>xs=L) (fun pre=>pre <+: L) L.length w:=by
 intro lp J Jx W hW hJ hJx hY h0;have IZ:=hc.below hW;refine ac2 (args:=[.func (.yield lp) #[] #[],iF g1,iF g2,iF g3]) func102 rfl ntmps102 rfl ?_;refine ku ?_;refine ia IZ.c1 ?_;refine ia IZ.c2 ?_;refine ia IZ.c3 ?_;refine il func103 (j8 W hW) ?_;rintro _ w1 ⟨hb,v,rfl,iJ⟩;refine⟨_,rfl,?_⟩;have hJ1:=hJ _ _ _ none h0 (zR hb (af _) none) (fun r e=>by cases e);obtain⟨sp,cap,rfl,-⟩:=iJ.jt;refine gY ?_;refine WC.loop (fun i:Nat=>[(0,.func (.yield lp) #[] #[]),(10,.slice sp L.length cap),(11,Iq L.length),(12,Iq i)])
  (fun i w'=>i <= L.length /\ J (L.take i) w' /\ jk sE 2 Cz Pp (fun b=>W.heap.size <= b) w' (.slice sp L.length cap) L) (fun i=>L.length - i) 0 iW
  ⟨aw _,hJ1,iJ⟩ ?_
 clear iJ hJ1;rintro i wr ⟨hi,hj,iJ⟩
 by_cases iS:i<L.length
 ·obtain⟨sL,oc,e,-,-,-,hr⟩:=iJ.jt
  obtain⟨rfl,-,rfl⟩:sp=sL /\ L.length=L.length /\ cap=oc:=by injection e with a b c;exact⟨a,b,c⟩
  obtain⟨b,o,rfl,O6,hbO,j6⟩:=hr gZ;obtain⟨cs,hcs,hP,hra⟩:=j6 i iS;have hx:L.take (i+1)=L.take i++[L.getD i Cz]:=by rw[aJ,ah iS];simp[ag,iS]
  generalize L.getD i Cz=x at hP hx;have hP':cs=[.string x.1,Iq x.2]:=hP;subst hP';refine sY ?_;refine WC.block ?_;refine gY ?_;refine iG i (o+i*2) iS ?_;refine ig hra rfl ?_;refine ix (z:=.agg #[.string ByteArray.empty,Iq 0]) UE fun g w2 f2=>?_;refine WL.nQ rfl rfl rfl rfl rfl rfl f2.blk rfl rfl (by intro v hv;simp at hv;rcases hv with rfl|rfl<;>rfl) ?_;have v3:h_ sE (w2.setRow g #[.string x.1,Iq x.2]) g [.string x.1,Iq x.2]:=f2.blk.setRow _;have k3:iB wr (w2.setRow g #[.string x.1,Iq x.2]):=by
   have h1:ib (fun k=>k<wr.heap.size) wr (w2.setRow g #[.string x.1,Iq x.2]):=yF (ib.ic f2.below) (by have:=f2.eq;omega) _;exact h1.below
  have lI:=f2.size;generalize w2.setRow g #[.string x.1,Iq x.2]=w3 at v3 k3 ⊢;have hJ3:=hJ _ _ _ none hj (zR k3 (af _) none) (fun r e=>by cases e);have J1:=iJ.ij (ib.ic k3) (fun q hq=>iJ.lt hq) (fun _ h=>h) (fun _ _ h=>h);refine gY ?_;refine ia (v3.cell 0 iz) ?_;refine gY ?_;refine ia (v3.cell 1 iz) ?_;have anv:(L.take i).length<L.length:=by rw[aE];omega
  refine WL.yield rfl rfl rfl rfl rfl rfl (hY (L.take i) x w3 hJ3 anv) ?_;rintro e w4 (⟨rfl,hJ4,m8⟩|⟨rfl,hJ4⟩)
  ·refine⟨_,rfl,?_⟩
   have alO:=J1.kp m8;refine gY ?_;refine WQ.again (i+1) iW ⟨iS,by rw[hx];exact hJ4,alO⟩ gZ
  ·refine⟨_,rfl,?_⟩
   refine gY ?_;refine WQ.Wp rfl ⟨⟨_,rfl⟩,.inr ⟨L.take i++[x],?_,hJ4⟩⟩;rw[<- hx];exact List.take_prefix _ _
 ·obtain rfl:i=L.length:=gZ
  refine gY ?_;refine WQ.EE rfl ⟨⟨_,rfl⟩,.inl ⟨L,rfl,?_⟩⟩;rw[aI] at hj;exact hj
end K
namespace Ix
open K Tre
open Vw (Tu iT)
abbrev slI:Nat:=35
def Fl (x:Int) (cs:List Value):Prop:=cs=[Iq x]
def Xl (O:Nat -> Prop) (W:World) (g:Nat) (l:List Int):Prop:=∃v,h_ slI W g [v] /\ jk iT 1 0 Fl O W v l
theorem Xl.stays {l:List Int}(h:Xl O W g l) (hk:ib (adR B W) W W'): Xl O W' g l:=by
 obtain⟨v,h1,h2⟩:=h;exact⟨v,h_.ij h1 hk (.inr (h_.Vh h1)),h2.ij hk (fun q hq=>.inr (by obtain⟨c,x,e⟩:=h2.Vh hq;exact⟨c,_,x,e⟩)) (fun _ h=>h) (fun _ _ h=>h)⟩
def JX (T gb:Nat) (w:World) (pre:List KV) (W:World):Prop:=ib (fun b=>b<T /\ b≠gb) w W /\ Xl (fun b=>T <= b) W gb (pre.map Prod.snd)
theorem JX.own (hT:T <= w.heap.size): OwnFrom w.heap.size (JX T gb w):=by
 refine U_ fun pre W W' h hk=>?_;obtain⟨h1,h3⟩:=h;have hz:=h1.size;exact⟨h1.trans (hk.mono fun b hb=>.inl ⟨gZ,gZ⟩),h3.stays hk⟩
theorem JX.step {W1 W2:World}{pre:List KV}{x:KV}{v v':Value}(h1:ib (fun b=>b<T /\ b≠gb) w W) (hv:h_ slI W gb [v]) (ho:jk iT 1 0 Fl (fun b=>T <= b) W v (pre.map Prod.snd)) (hT:T <= w.heap.size) (HN:gb<T) (hf:jl W g1 W1 iT [Iq x.2]) (wN:jk iT 1 0 Fl (fun b=>T <= b \/ b=W1.heap.size) W2 v' (pre.map Prod.snd++[x.2])) (hg:jv W1 v W2 v'):
  KeepsFrom B W (W2.setCell ⟨gb,0,none⟩ v') /\ yO sE W (W2.setCell ⟨gb,0,none⟩ v') /\ JX T gb w (pre++[x]) (W2.setCell ⟨gb,0,none⟩ v'):=by
 have hz:=h1.size;have zY:=hf.size;have apO:∀q,v.ownBlock=some q -> q≠gb:=fun q hq=>by have:=ho.own hq;omega
 have k2:ib (fun b=>b<W.heap.size /\ v.ownBlock≠some b) W W2:=((ib.ic hf.below).mono fun b h=>h.1).trans (hg.1.mono fun b h=>⟨gZ,h.2⟩);have k3:ib (fun b=>b<W.heap.size /\ v.ownBlock≠some b /\ b≠gb) W (W2.setCell ⟨gb,0,none⟩ v'):=(k2.mono fun b h=>⟨h.1,h.2.1⟩).setCell (p:=⟨gb,0,none⟩) iz _;have Wj:=h_.ij hv k2 ⟨h_.lt hv,fun e=>apO gb e rfl⟩;have hvn:=h_.set Wj 0 v';have OT:∀b o,W.heap[b]? = some o -> o.isCells=false -> b<W.heap.size /\ v.ownBlock≠some b /\ b≠gb:=fun b o hb hc=>by
  refine⟨(dW.1 hb).1,fun e=>?_,fun e=>?_⟩
  ·obtain⟨c,y,e2⟩:=ho.Vh e
   rw[hb] at e2;obtain rfl:=au e2;cases hc
  ·obtain⟨_,_,_,e2⟩:=h_.Vh hv
   rw[<- e,hb] at e2;obtain rfl:=au e2;cases hc
 have tj:∀q,v'.ownBlock=some q -> q≠gb:=fun q hq=>by
  rcases wN.own hq with h|h
  ·omega
  ·omega
 refine⟨TT k3 fun b o _ hb hc=>OT b o hb hc,yO.ij k3 fun b cur y hb=>⟨(dW.1 hb).1,fun e=>?_,fun e=>?_⟩,?_,v',hvn,?_⟩
 ·obtain⟨c,y',e2⟩:=ho.Vh e
  rw[hb] at e2
  injection e2 with e2
  injection e2 with _ e2 _
  exact absurd e2 j9
 ·have e2:W.heap[gb]? = some (.cells [v].toArray slI (0,0)):=hv
  rw[<- e,hb] at e2
  injection e2 with e2
  injection e2 with _ e2 _
  exact absurd e2 j9
 ·exact h1.trans (k3.mono fun b h=>⟨gZ,fun e=>by have:=ho.own e;omega,h.2⟩)
 ·rw[aK]
  refine wN.ij ((ib.refl (fun b=>b≠gb) W2).setCell (p:=⟨gb,0,none⟩) iz _) (fun q hq=>tj q hq) (fun b hb=>?_) (fun _ _ h=>h);rcases hb with h|h
  ·exact h
  ·omega
theorem Dd {st:Tre.St}{L:List KV}(hT:uc w st tb L) (hl:L.length <= 1000000) (a z:ByteArray):
  Calls prog 34 #[iF tb,.string a,.string z] w fun e w'=>∃v,e=.returned v /\ jk iT 1 0 Fl (fun b=>w.heap.size <= b) w' v ((oh a z L).map Prod.snd) /\ iB w w':=by
 refine agS (args:=[iF tb,.string a,.string z]) func34 rfl ntmps34 rfl ?_;have so:=aU (Re a z L) hl;refine gY ?_;refine ix (z:=.slice none 0 0) (fun _=>by kernel_rfl) fun ga w4 f4=>?_;have Q_:h_ slI w4 ga [.slice none 0 0]:=f4.blk;have e4:=f4.eq;have z4:=f4.size;have b4:=f4.below;clear f4;refine gY ?_;refine il func67 (QI (some ⟨tb,0,none⟩) a z) ?_;rintro _ w8 ⟨bw8,p1,p2,p3,rfl,Dj⟩;refine⟨_,rfl,?_⟩;have va8:=h_.below Q_ bw8 (h_.lt Q_);have zw8:=bw8.size;have b8:=b4.trans (bw8.mono gZ);clear Q_ bw8;have htr:=hT.below b8;have Ba:=S8 Dj (L:=oh a z L) gZ (fun W hW=>Zo (htr.below hW) a z gZ);clear htr Dj;refine sY ?_;refine WC.block ?_;refine WC.afj rfl (enters_of func102 (by kernel_rfl) rfl) Ba (fun _=>rfl) rfl (JX w8.heap.size ga w8) (fun _ _ _=>False) (JX.own (af _)) (fun _ _ _ _ _ h _ _=>h) ?_
  (fun x=>[(7,iF ga),(9,Iq x.2)]) ?_ ?_ ?_ (fun _ _ _ _ _ _ h _=>h.elim)
 ·exact⟨ib.refl _ _,_,va8,jk.nil _ _ _ _ _ _⟩
 ·intro lp x W
  refine gY ?_;exact WQ.meet () iW rfl
 ·rintro lp pre x W - - ⟨q1,v,q3,q4⟩ hlen
  have sh:(pre.map Prod.snd).length <= 1000000:=by simp only[av];omega
  refine gY ?_;refine ia (h_.cell q3 0 iz) ?_;refine WL.as 16 v rfl rfl ?_;refine gY ?_;refine jR (hs:=j9) fun g9 W1 f9=>?_;refine WL.snoc (y:=x.2) rfl rfl rfl rfl Tu rfl (q4.ij (ib.ic f9.below) (fun q hq=>q4.lt hq) (fun _ h=>h) (fun _ _ h=>h)) rfl f9.blk (by intro u hu;simp at hu;rw[hu];rfl) rfl rfl gZ gZ fun v2 W2 o2 gr2=>?_;have hkv:=JX.step (B:=w8.heap.size) q1 q3 q4 (af _) (h_.lt va8) f9 o2 gr2;have Wj:=h_.ij (h_.below q3 f9.below (h_.lt q3)) gr2.1 ⟨h_.lt (h_.below q3 f9.below (h_.lt q3)),fun e=>by have h1:=q4.own e;have h2:=h_.lt va8;omega⟩;refine iD (hv:=o2.one) (h_.cell Wj 0 iz) (h_.free Wj 0) ?_;refine gY ?_;exact⟨fun _ _=>hkv⟩
 clear Ba;rintro D1 _ W1 hD1 rfl ⟨k1,v,va1,xa1⟩ DO;have oe:=b8.trans (k1.mono fun k (hk:k<w.heap.size)=>⟨gZ,gZ⟩:ib (fun x=>x<w.heap.size) w8 W1).below;have iJ:jk iT 1 0 Fl (fun b=>w.heap.size <= b) W1 v ((oh a z L).map Prod.snd):=xa1.ij (ib.refl (fun _=>True) _) (fun _ _=>trivial) (fun b hb=>by omega) (fun _ _ h=>h);have m1:DS W1 [D1]:=⟨iz,fun D hD=>(by simpa using hD:D=D1) ▸ DO⟩;refine gY ?_;refine ia (h_.cell va1 0 iz) ?_;refine WL.as 20 v rfl rfl ?_;refine gY ?_;refine WQ.alG [D1] rfl rfl m1 ⟨v,rfl,?_,?_⟩
 ·exact iJ.ij (Dg _ W1) (fun q hq=>ZW m1 (by obtain⟨c,y,e⟩:=iJ.Vh hq;exact⟨c,_,y,e⟩)) (fun _ h=>h) (fun _ _ h=>h)
 ·refine((ib.ic oe).trans ((Dg _ W1).mono fun k (h:k<w.heap.size) hE=>?_)).below
  simp at hE
  omega
end Ix
open Go.Maps
namespace K
def MR {κ:Type}(P:Program) (k:TypeId) (mk:κ -> Value) (w:World) (b r n:Nat) (F:κ -> Option Value) (left:κ -> Bool) (iQ:Nat):Prop :=
 ∃D lf,w.ranges P k AS b r n D lf iQ /\ ∀x kl,Go.keyOf P k (mk x)=some kl -> (∀z,D.atKey kl z=orD (F x) z) /\ lf kl=left x
section
variable {κ:Type}{P:Program}{k:TypeId}{mk:κ -> Value}{w:World}{b r n iQ:Nat}{F:κ -> Option Value}{left:κ -> Bool}
theorem MR.mf (h:MR P k mk w b r n F left iQ): MF P k mk w b n F:=by
 obtain⟨D,lf,h1,h2⟩:=h;exact⟨D,h1.owns,fun x kl hk=>(h2 x kl hk).1⟩
theorem MR.lt (h:MR P k mk w b r n F left iQ): b<w.heap.size /\ r<w.heap.size /\ r≠b:=by
 obtain⟨D,lf,h1,-⟩:=h;exact⟨h1.owns.lt,h1.lt,h1.ne⟩
theorem MR.Jf (h:MR P k mk w b r n F left iQ) (hb:w'.heap[b]? = w.heap[b]?) (hr:w'.heap[r]? = w.heap[r]?): MR P k mk w' b r n F left iQ:=by
 obtain⟨D,lf,⟨es,clock,since,seen,c0,q1,q2,q3,q4,q5,q6⟩,h2⟩:=h;exact⟨D,lf,⟨es,clock,since,seen,c0,hb.trans q1,q2,q3,q4,hr.trans q5,q6⟩,h2⟩
theorem MR.ij {K:Nat -> Prop}(h:MR P k mk w b r n F left iQ) (hk:ib K w w') (hb:K b) (hr:K r): MR P k mk w' b r n F left iQ:=h.Jf (hk.block b hb) (hk.block r hr)
theorem MR.below (h:MR P k mk w b r n F left iQ) (hk:iB w w'): MR P k mk w' b r n F left iQ:=h.Jf (hk.block b h.lt.1) (hk.block r h.lt.2.1)
theorem oC {row:Option Nat}(h:w.grownBy w' row): ib (fun x=>x<w.heap.size /\ some x≠row) w w':=⟨h.os,h.tape,h.output,h.size,fun i hi=>h.block i hi.1 hi.2⟩
end
section
variable {n:NN}{Q:Exit -> Act -> World -> Prop}{l:Env}{w w':World}{ops:Array Oper}{o:Oper}{rest:List Oper}{d:Nat}
theorem WL.Xp {k e t:Nat}{mk:κ -> Value}{x:Operand}(T:prog.underlying t=some (.map k e)) (KK:Keyed prog k) (hg:o.guard=none) (hd:o.dst=some d) (hn:Nat.blt d n.n=true) (ho:o.op=.range t x) (hx:jw l x=some (.map (some b))) (hm:MF prog k mk w b nn F) (h:∀r w',(∃left iQ,MR prog k mk w' b r nn F left iQ /\ ∀x kl,Go.keyOf prog k (mk x)=some kl -> left x=(F x).isSome) -> r=w.heap.size -> iB w w' -> w'.heap.size=w.heap.size+1 -> WL n ops Q rest ((d,iF r) :: l) w'): WL n ops Q (o :: rest) l w:=by
 obtain⟨D,h1,h2⟩:=hm;obtain⟨w',kz,r1,r2,r3⟩:=h1.range KK T;refine WL.step hg hd hn (fun a ha=>?_) (h w.heap.size w' ⟨fun x=>(F x).isSome,Maps.size D,⟨D,Maps.has D,r1,fun x kl hk=>⟨h2 x kl hk,?_⟩⟩,fun _ _ _=>rfl⟩ rfl ⟨r2.os,r2.tape,r2.output,r2.size,fun i hi=>r2.block i hi iz⟩ r3)
 ·unfold execOp
  rw[ho];simp[ha.eval hx,kz,Result.andThen]
 ·have h3:=h2 x kl hk
  cases hq:F x with
  | none=>rw[hq] at h3;exact(fV (fun z=>h3 z)).trans (by simp only[hq];rfl)
  | some y=>rw[hq] at h3;exact(fZ (fun z=>h3 z)).trans (by simp only[hq];rfl)
theorem WL.aaB {k iQ:Nat}{mk:κ -> Value}{x:Operand}{left:κ -> Bool}(KK:Keyed prog k) (W3:∀x y,mk x=mk y -> x=y) (hinv:∀key kl,Go.keyOf prog k key=some kl -> ∃x,key=mk x) (hg:o.guard=none) (hd:o.dst=some d) (hn:Nat.blt d n.n=true) (ho:o.op=.next x false) (hx:jw l x=some (iF r)) (hm:MR prog k mk w b r nn F left iQ) (alv:(∀x kl,Go.keyOf prog k (mk x)=some kl -> left x=false) -> WL n ops Q rest ((d,.tuple #[.bool false]) :: l) w) (akW:∀(x:κ) (v:Value) (w':World) (EJ:Nat),left x=true -> F x=some v -> (∃kl,Go.keyOf prog k (mk x)=some kl) -> (∃vQ,MR prog k mk w' b r nn F vQ EJ /\ vQ x=false /\ ∀y,y≠x -> (∃kl,Go.keyOf prog k (mk y)=some kl) -> vQ y=left y) -> EJ<iQ -> ib (fun i=>i<w.heap.size /\ i≠r) w w' -> w'.heap.size=w.heap.size ->
   (Instr.entry (iF r)).run prog w'=.ok (.tuple #[mk x,v]) w' -> WL n ops Q rest ((d,.tuple #[.bool true,mk x,v]) :: l) w'): WL n ops Q (o :: rest) l w:=by
 obtain⟨D,lf,h1,h2⟩:=hm;rcases h1.next KK o.type with⟨h0,hl,kz⟩|⟨key,v,kl,y,w',EJ,jU,u7,hv,j6,kz,IN,iS,lL,j5,Ya⟩
 ·refine WL.step hg hd hn (fun a ha=>?_) (alv fun x kl hk=>(h2 x kl hk).2.symm.trans (hl kl))
  unfold execOp;rw[ho];simp[ha.eval hx,kz,Result.andThen]
 ·obtain⟨x0,rfl⟩:=hinv key kl jU
  refine WL.step hg hd hn (fun a ha=>?_) (akW x0 v w' EJ ((h2 x0 kl jU).2.symm.trans u7) ?_ ⟨kl,jU⟩ ⟨fun z=>left z && (match Go.keyOf prog k (mk z) with|some q=>!q.sameKey kl|none=>true),⟨D,_,IN,fun z q hz=>⟨(h2 z q hz).1,?_⟩⟩,?_,fun z hz hq=>?_⟩ iS ⟨lL.os,lL.tape,lL.output,lL.size,fun i hi=>lL.block i hi.1 (by simpa using hi.2)⟩ j5 Ya)
  ·unfold execOp
   rw[ho];simp[ha.eval hx,kz,Result.andThen]
  ·have h3:=(h2 x0 kl jU).1
   have h4:y.1=.held v:=by
    unfold AS at hv;cases hv
    rfl
   cases hq:F x0 with
   | none=>
    rw[hq] at h3;have a1:=(h3 (.held undef)).symm.trans (j6 _);have a2:=(h3 .nil).symm.trans (j6 _);simp only[orD] at a1 a2;rw[<- a1] at a2;cases a2
   | some u=>
    rw[hq] at h3;have a1:=(h3 .nil).symm.trans (j6 .nil);simp only[orD] at a1;rw[h4] at a1;cases a1
    rfl
  ·simp only[hz]
   rw[(h2 z q hz).2]
  ·simp only[jU]
   rw[WideAt.sameKey_self (KK.key jU)];simp
  ·obtain⟨q,hq⟩:=hq
   simp only[hq];have:q.sameKey kl=false:=Maps.sameKey_ne fun e=>hz (W3 _ _ (KK.inj (e ▸ hq) jU));rw[this];simp
theorem WL.Xb {x:Operand}{v:Value}(hg:o.guard=none) (hd:o.dst=some d) (hn:Nat.blt d n.n=true) (ho:o.op=.entry x) (hx:jw l x=some p) (hr:(Instr.entry p).run prog w=.ok v w) (h:WL n ops Q rest ((d,v) :: l) w): WL n ops Q (o :: rest) l w :=
 WL.step hg hd hn (fun a ha=>by
  unfold execOp;rw[ho];simp[ha.eval hx,hr,Result.andThen]) h
end
theorem MR.drop {k e t iQ:Nat}{mk:κ -> Value}{left:κ -> Bool}[DecidableEq κ] (T:prog.underlying t=some (.map k e)) (KK:Keyed prog k) (W3:∀x y,mk x=mk y -> x=y) (h:MR prog k mk w b r nn F left iQ) {key:κ}{kl:Lit}(jU:Go.keyOf prog k (mk key)=some kl) (hl:left key=false) (ty:TypeId):
  ∃w' EJ,(Builtin.delete_ #[t,k] ty #[.map (some b),mk key]).run prog w=.ok (.tuple #[]) w' /\ MR prog k mk w' b r nn (xG F key) left EJ /\ EJ <= iQ /\ ib (fun x=>x≠b) w w':=by
 obtain⟨D,lf,h1,h2⟩:=h;obtain⟨w',EJ,kz,r1,r2,r3⟩:=h1.drop KK T jU ty;refine⟨w',EJ,kz,⟨_,_,r1,fun x q hx=>⟨fun z=>?_,?_⟩⟩,r2,yU r3⟩
 ·by_cases e:x=key
  ·subst e
   rw[jU] at hx;cases hx;rw[G4,atKey_del_same];rfl
  ·rw[Eg _ e,atKey_del_other (fun e'=>e (W3 _ _ (KK.inj hx (by rw[jU,e']))))]
   exact(h2 x q hx).1 z
 ·by_cases e:x=key
  ·subst e
   rw[jU] at hx;cases hx;rw[WideAt.sameKey_self (KK.key jU),hl];simp
  ·have:q.sameKey kl=false:=Maps.sameKey_ne fun e'=>e (W3 _ _ (KK.inj (e' ▸ hx) jU))
   rw[this,(h2 x q hx).2];simp
end K
namespace Ix
open K Tre
abbrev Cj:Nat:=85
abbrev WN:Nat:=83
theorem ak0: Cj<prog.types.size:=of_decide_eq_true (by kernel_rfl)
theorem agm:(match prog.underlying Cj with|some (.array _ _)|some (.struct _)=>true|_=>false)=true:=by rw[show prog.underlying Cj=_ from underlying85]
theorem Bc: Keyed prog Cj:=fy (deep_law_laid Cat.laid (m:=2) gZ ak0 (by kernel_rfl) agm)
theorem ahl: prog.keyType Cj=true:=by kernel_rfl
theorem Jb: prog.cellsOf Cj=2:=by kernel_rfl
theorem UN (h:Cat.sM x): ∃kl,Go.keyOf prog Cj (Cat.mk x)=some kl :=
 ⟨_,Cat.keyOf_pair underlying85 underlying3 underlying9 rfl rfl j9 rfl rfl j9 ahl Jb Cat.qC Cat.strCells Cat.po x h.1 h.2⟩
structure Tx where
 tb:Nat
 st:Tre.St
 L:List KV
def Tx.own (t:Tx) (b:Nat):Prop:=b=t.tb \/ t.st b≠none
def Tx.ptr (t:Tx):Value:=.pointer (some ⟨t.tb,0,none⟩)
abbrev yA:=Int × ByteArray -> Option Tx
structure vI (w:World) (mb:Nat) (S:Nat -> Prop) (X:yA) (g:Int × ByteArray -> Gx):Prop where
 is:∀x t,X x=some t -> uc w t.st t.tb t.L /\ sR x.2 (g x) t.L
 own:∀x t b,X x=some t -> t.own b -> S b
 oV:∀x y t u b,X x=some t -> X y=some u -> x≠y -> t.own b -> ¬u.own b
 mS:S mb
 out:∀x t,X x=some t -> ¬t.own mb
 lt:∀b,S b -> b<w.heap.size
def xX (X:yA):Int × ByteArray -> Option Value:=fun x=>(X x).map Tx.ptr
structure oA (w:World) (sb mb n:Nat) (S:Nat -> Prop) (X:yA) (g:Int × ByteArray -> Gx):Prop where
 blk:h_ WN w sb [.map (some mb)]
 map:MF prog Cj Cat.mk w mb n (xX X)
 nB:vI w mb S X g
 sS:S sb
 out:∀x t,X x=some t -> ¬t.own sb
section
variable {w w':World}{sb mb n:Nat}{S:Nat -> Prop}{X:yA}{g:Int × ByteArray -> Gx}
theorem vI.ij (h:vI w mb S X g) {K:Nat -> Prop}(hk:ib K w w') (hK:∀b,S b -> K b): vI w' mb S X g :=
 ⟨fun x t e=>⟨(h.is x t e).1.ij hk (fun b hb=>hK b (h.own x t b e (.inr hb))) (hK _ (h.own x t _ e (.inl rfl))),(h.is x t e).2⟩,h.own,h.oV,h.mS,h.out,fun b hb=>ak (h.lt b hb) hk.size⟩
theorem oA.ij (h:oA w sb mb n S X g) {K:Nat -> Prop}(hk:ib K w w') (hK:∀b,S b -> K b): oA w' sb mb n S X g :=
 ⟨h.blk.ij hk (hK _ h.sS),h.map.ij hk (hK _ h.nB.mS),h.nB.ij hk hK,h.sS,h.out⟩
theorem oA.below (h:oA w sb mb n S X g) (hb:iB w w'): oA w' sb mb n S X g:=h.ij (ib.ic hb) h.nB.lt
theorem adj (w:World): (zeroValue 86).run prog w=.ok (.pointer none) w:=by kernel_rfl
theorem oA.look (h:oA w sb mb n S X g) (hx:Cat.sM x): (Instr.lookup 81 (.map (some mb)) (Cat.mk x) false).run prog w=.ok (.pointer ((X x).map fun t=>⟨t.tb,0,none⟩)) w:=by
 obtain⟨kl,hk⟩:=UN hx;rw[h.map.look Bc underlying81 (adj w) hk];unfold xX;cases X x<;>rfl
theorem FT (h:oA w sb mb n S X g) {t:Int}(hx:Cat.sM (t,f)):
  Calls prog 31 #[iF sb,Iq t,.string f] w fun e w'=>e=.returned (.pointer ((X (t,f)).map fun t=>⟨t.tb,0,none⟩)) /\ w'=w:=by
 refine iY func31 ntmps31 ?_;have c0:=h.blk.cell 0 iz;simp only[al] at c0;refine gY ?_;refine jc ?_;refine iu ?_;have hl:=h.look hx;unfold Cat.mk at hl;refine iE [Value.int .i64 t,.string f] (by kernel_rfl) ?_;refine WL.look rfl rfl rfl rfl rfl rfl hl ?_;refine gY ?_;exact g_ ⟨rfl,rfl⟩
end
end Ix
namespace Ix
open K
open Cat (r6 lT ln Tb iX ju ub)
open Vw (Rw jf lC p8 mw jQ jO lF mh zQ pD qv Inv iQ rX vY)
def gS (s:Vw.St):Int × ByteArray -> Gx:=fun x=>kq s x.1
theorem QZ {s:Vw.St}(hi:Inv s) (hd:sw s) (hl:s.rows.length <= 1000000000) (t:Int): Uy (qv s t):=⟨fun r hr=>by
 have h1:=(FG hi).1 hr;have h2:kq s t r.doc=some r.data:=by unfold kq;rw[h1];rfl
 obtain⟨a1,a2,a3⟩:=(tz hi hd hl t).ok _ _ h2;exact⟨a1,a2,(DD hd h2).2,a3⟩,Yy s t⟩
theorem Ng (s:Vw.St) (t:Int): (qv s t).length <= s.rows.length:=by
 unfold Vw.qv;have h1:=fU (fun(i:Nat)=>Vw.kQ s (t,(i:Int)+1)) (List.range (iQ t s.rows));rw[List.length_range] at h1;have h2:=Vw.tX t s.rows;omega
theorem L4:∀(n:Nat) (l:List Int),l.Nodup -> (∀x∈l,1 <= x /\ x <= n) -> l.length <= n
 | 0,[],_,_=>af _
 | 0,a :: _,_,h=>by have:=h a iz;omega
 | n+1,l,hn,h=>by
  have h1:=L4 n (l.filter fun x=>decide (x≠(n:Int)+1)) (hn.sublist List.filter_sublist) fun x hx=>by
   obtain⟨q1,q2⟩:=bQ.1 hx;have:=h x q1;have q2:=of_decide_eq_true q2;omega
  have h2:l.length <= (l.filter fun x=>decide (x≠(n:Int)+1)).length+1:=by
   clear h1 h
   induction l with
   | nil=>simp
   | cons a r ih=>
    rw[aY] at hn;have ih:=ih hn.2;rw[cA]
    by_cases e:a=(n:Int)+1
    ·have:r.filter (fun x=>decide (x≠(n:Int)+1))=r:=dm.2 fun x hx=>decide_eq_true fun e2=>hn.1 (by rw[e,<- e2];exact hx)
     rw[if_neg (by simpa using e),this,aj];exact af _
    ·rw[if_pos (decide_eq_true e),aj,aj]
     omega
  omega
theorem PB {g:Gx}{L:List Tre.KV}(h:sR f g L) {n:Nat}(hg:∀m d,g m=some d -> 1 <= m /\ m <= n): L.length <= n:=by
 have hn:(L.map Prod.snd).Nodup:=by
  rw[List.nodup_iff_pairwise_ne,fQ];refine ew (fun {a b} ha hb tf=>?_) h.uC;obtain⟨m,d,v,q1,q2,rfl⟩:=(h.mem a).1 ha;obtain⟨m2,d2,v2,p1,p2,rfl⟩:=(h.mem b).1 hb;intro e;have e:m=m2:=e;subst e;rw[q1] at p1;cases p1;rw[q2] at p2;cases p2;have tf:Tre.kl (rB v m) (rB v m)=true:=tf;rw[Tre.zE] at tf;cases tf
 have:=L4 n _ hn fun x hx=>by
  obtain⟨p,hp,rfl⟩:=bg.1 hx;obtain⟨m,d,v,q1,-,rfl⟩:=(h.mem p).1 hp;exact hg m d q1
 rwa [av] at this
theorem FY {s:Vw.St}(hi:Inv s) {t m:Int}(h:kq s t m=some d): 1 <= m /\ m <= (s.rows.length:Nat):=by
 unfold kq at h;cases hq:Vw.kQ s (t,m) with
 | none=>rw[hq] at h;cases h
 | some r=>
  obtain⟨h1,h2,-⟩:=pV hq;have h3:=hi.doc r h1;have h4:r.doc=m:=congrArg Prod.snd h2;have h5:=Vw.tX r.lj s.rows;omega
section
variable {w w':World}{sb mb n:Nat}{S:Nat -> Prop}{X:yA}{g:Int × ByteArray -> Gx}
theorem oA.add (h:oA w sb mb n S X g) (hx:Cat.sM x) (hn:n<maxLen) {t:Tx}(hT:uc w t.st t.tb t.L) (hL:sR x.2 (g x) t.L) (uL:∀b,t.own b -> ¬S b):
  ∃w',(Instr.mapUpdate 81 (.map (some mb)) (Cat.mk x) t.ptr).run prog w=.ok () w' /\ oA w' sb mb (n+1) (fun b=>S b \/ t.own b) (fun y=>if y=x then some t else X y) g /\ ib (fun b=>b≠mb) w w':=by
 obtain⟨kl,hk⟩:=UN hx;obtain⟨w',h1,h2,h3⟩:=h.map.put Cat.mk_inj Bc underlying81 hn t.ptr hk;have lX:sb≠mb:=fun e=>Cat.MF.kN h.map h.blk e.symm;have iS:∀b,t.own b -> b<w.heap.size:=fun b hb=>by
  rcases hb with rfl|hb
  ·exact(by obtain⟨_,_,hv,-⟩:=hT.ex;exact h_.lt hv)
  ·exact hT.mem.lt hb
 refine⟨w',h1,⟨h.blk.ij h3 lX,h2.congr fun y=>?_,⟨fun y u e=>?_,fun y u b e hb=>?_,fun y z u v b e1 e2 ZP hb jg=>?_,.inl h.nB.mS,fun y u e hb=>?_,fun b hb=>?_⟩,.inl h.sS,fun y u e hb=>?_⟩,h3⟩
 ·unfold xX nH
  simp only
  by_cases e:y=x
  ·rw[if_pos e,if_pos e];rfl
  ·rw[if_neg e,if_neg e]
 ·by_cases q:y=x
  ·rw[if_pos q] at e;cases e;subst q
   exact⟨hT.ij h3 (fun b hb e=>uL b (.inr hb) (by rw[e];exact h.nB.mS)) (fun e=>uL _ (.inl rfl) (by rw[e];exact h.nB.mS)),hL⟩
  ·rw[if_neg q] at e
   exact⟨(h.nB.is y u e).1.ij h3 (fun b hb e2=>h.nB.out y u e (by rw[<- e2];exact .inr hb)) (fun e2=>h.nB.out y u e (by rw[<- e2];exact .inl rfl)),(h.nB.is y u e).2⟩
 ·by_cases q:y=x
  ·rw[if_pos q] at e;cases e;exact .inr hb
  ·rw[if_neg q] at e;exact .inl (h.nB.own y u b e hb)
 ·by_cases q:y=x
  ·rw[if_pos q] at e1;cases e1
   rw[if_neg (fun q2=>ZP (q.trans q2.symm))] at e2;exact uL b hb (h.nB.own z v b e2 jg)
  ·rw[if_neg q] at e1
   by_cases q2:z=x
   ·rw[if_pos q2] at e2;cases e2;exact uL b jg (h.nB.own y u b e1 hb)
   ·rw[if_neg q2] at e2;exact h.nB.oV y z u v b e1 e2 ZP hb jg
 ·by_cases q:y=x
  ·rw[if_pos q] at e;cases e;exact uL _ hb h.nB.mS
  ·rw[if_neg q] at e;exact h.nB.out y u e hb
 ·have:=h3.size
  rcases hb with hb|hb
  ·have:=h.nB.lt b hb;omega
  ·have:=iS b hb;omega
 ·by_cases q:y=x
  ·rw[if_pos q] at e;cases e;exact uL _ hb h.sS
  ·rw[if_neg q] at e;exact h.out y u e hb
end
theorem ack {sp:Option Addr}{c:Nat}(h:iK ixT 1 w O (.slice sp l.length c) l.length (l.map Value.string)) (hj:j<l.length):
  ∃g,sp=some ⟨g,0,none⟩ /\ g<w.heap.size /\ O g /\ w.cell? ⟨g,j,none⟩=some (.string (l.getD j ⟨#[]⟩)):=by
 rcases h.form with⟨-,e,-⟩|⟨g,cap,cur,e,hO,iS,-⟩
 ·omega
 ·obtain⟨rfl,rfl⟩:sp=some ⟨g,0,none⟩ /\ c=cap:=by simpa using e
  refine⟨g,rfl,iS,hO,?_⟩;rw[df h.1 j gZ];simp[hj]
def AQ (L:List Tb) (i j:Nat) (x:Int × ByteArray):Prop:=Cat.has L x.1 x.2=true /\ (x.1 <= i \/ (x.1=(i:Int)+1 /\ x.2∈(L.getD i iX).fs.take j))
theorem AA {L:List Tb}{t:Int}: Cat.has L t f=true ↔ 1 <= t /\ t <= L.length /\ f∈(L.getD (t - 1).toNat iX).fs:=by
 unfold Cat.has Cat.mem;rw[aA,aA,decide_eq_true_eq,decide_eq_true_eq,List.any_eq_true]
 constructor
 ·rintro⟨⟨h1,h2⟩,g,h3,h4⟩
  have h4:=of_decide_eq_true h4;exact⟨h1,h2,h4 ▸ h3⟩
 ·rintro⟨h1,h2,h3⟩
  exact⟨⟨h1,h2⟩,f,h3,decide_eq_true rfl⟩
theorem JF {L:List Tb}(hi:i<L.length) (hj:j<(L.getD i iX).fs.length) (x:Int × ByteArray): AQ L i (j+1) x ↔ (AQ L i j x \/ x=((i:Int)+1,(L.getD i iX).fs.getD j ⟨#[]⟩)):=by
 have ht:(L.getD i iX).fs.take (j+1)=(L.getD i iX).fs.take j++[(L.getD i iX).fs.getD j ⟨#[]⟩]:=by generalize (L.getD i iX).fs=l at hj ⊢;rw[aJ,ag,ah hj];rfl
 unfold AQ;rw[ht]
 constructor
 ·rintro⟨h1,h2|⟨h2,h3⟩⟩
  ·exact .inl ⟨h1,.inl h2⟩
  ·rcases aq.1 h3 with h3|h3
   ·exact .inl ⟨h1,.inr ⟨h2,h3⟩⟩
   ·exact .inr (dN h2 (by simpa using h3))
 ·rintro(⟨h1,h2|⟨h2,h3⟩⟩|rfl)
  ·exact⟨h1,.inl h2⟩
  ·exact⟨h1,.inr ⟨h2,aV _ h3⟩⟩
  ·refine⟨AA.2 ⟨by simp;omega,by simp;omega,?_⟩,.inr ⟨rfl,iz⟩⟩
   simp only
   rw[show((i:Int)+1 - 1).toNat=i by omega];generalize (L.getD i iX).fs=l at hj ⊢;rw[ag,ah hj];exact aN hj
theorem ML {L:List Tb}(x:Int × ByteArray): AQ L i (L.getD i iX).fs.length x ↔ AQ L (i+1) 0 x:=by
 unfold AQ;rw[aI,bR]
 constructor
 ·rintro⟨h1,h2|⟨h2,-⟩⟩
  ·exact⟨h1,.inl gZ⟩
  ·exact⟨h1,.inl gZ⟩
 ·rintro⟨h1,h2|⟨-,h3⟩⟩
  ·refine⟨h1,?_⟩
   by_cases e:x.1=(i:Int)+1
   ·obtain⟨-,-,h5⟩:=AA.1 h1
    rw[show(x.1 - 1).toNat=i by omega] at h5;exact .inr ⟨e,h5⟩
   ·exact .inl gZ
  ·cases h3
theorem Jt {L:List Tb}(x:Int × ByteArray): ¬AQ L 0 0 x:=by
 rintro⟨h1,h2|⟨-,h3⟩⟩
 ·obtain⟨h4,-⟩:=AA.1 h1;omega
 ·cases h3
theorem MY {L:List Tb}(x:Int × ByteArray): AQ L L.length 0 x ↔ Cat.has L x.1 x.2=true:=⟨fun h=>h.1,fun h=>⟨h,.inl (by obtain⟨-,h2,-⟩:=AA.1 h;exact h2)⟩⟩
end Ix
namespace Ix
open K
open Cat (r6 lT ln Tb iX ju ub)
open Vw (Rw jf lC p8 mw jQ jO lF mh zQ pD qv Inv iQ rX vY)
theorem KP {L:List Tb}(hg:Cat.Good L) (hi:i<L.length) (hj:j<(L.getD i iX).fs.length): Cat.sM ((i:Int)+1,(L.getD i iX).fs.getD j ⟨#[]⟩):=by
 refine⟨Vw.zW ⟨by have:=hg.len;omega,by have:=hg.len;omega⟩,?_⟩;have:=(hg.each i hi).2.2.1 ((L.getD i iX).fs.getD j ⟨#[]⟩) (by generalize (L.getD i iX).fs=l at hj ⊢;rw[ag,ah hj];exact aN hj);unfold maxLen;simp only
 omega
structure aae (w:World) (s:Vw.St) (sb mb:Nat) (i j q:Nat) (w':World):Prop where
 ex:∃n S X,oA w' sb mb n S X (gS s) /\ (∀x,(X x).isSome=true ↔ AQ s.cat i j x) /\ n <= q /\ ∀b,S b -> w.heap.size <= b
theorem SI {k:Nat}{s:Vw.St}(h0:pD w vb M D (k+2) s N) (hi:Inv s) (hd:sw s):
  Calls prog 11 #[iF vb] w fun e w'=>∃sb mb n S X,e=.returned (iF sb) /\ oA w' sb mb n S X (gS s) /\ (∀x,(X x).isSome=Cat.has s.cat x.1 x.2) /\ n <= 1024 /\ (∀b,S b -> w.heap.size <= b) /\ iB w w':=by
 have kK:s.rows.length <= N /\ N <= 1000000:=by obtain⟨cp,Oc,mr,md,mp,mn,k,F,h⟩:=id h0;have:=h.ok;omega
 refine iY func11 ntmps11 ?_;refine gY ?_;refine WL.mkMap rfl rfl rfl rfl ?_;have m1:MF prog Cj Cat.mk (w.alloc (.map #[] 0)) w.heap.size 0 (fun _=>none):=MF.made _ _ _ _;have b1:iB w (w.alloc (.map #[] 0)):=(Below.refl _ w).alloc (af _) _;have z1:(w.alloc (.map #[] 0)).heap.size=w.heap.size+1:=iz;obtain⟨mb,LI⟩:∃mb,mb=w.heap.size:=⟨_,rfl⟩;rw[<- LI] at m1;rw[show w.heap.size=mb from LI.symm];generalize w.alloc (.map #[] 0)=w1 at m1 b1 z1 ⊢;refine iE [Value.map (some mb)] (by kernel_rfl) ?_;refine iC fun sb w2 f2=>?_;have v2:h_ WN w2 sb [.map (some mb)]:=f2.blk;have e2:=f2.eq;have z2:=f2.size;have m2:=m1.iP (f2.below.block mb (m1.lt));have b2:=b1.iR f2.below;clear f2 m1 b1;have s2:oA w2 sb mb 0 (fun b=>b=sb \/ b=mb) (fun _=>none) (gS s):=⟨v2,m2.congr fun _=>rfl,⟨fun _ _ e=>(by cases e),fun _ _ _ e=>(by cases e),fun _ _ _ _ _ e=>(by cases e),.inr rfl,fun _ _ e=>(by cases e),fun b hb=>by
  rcases hb with rfl|rfl
  ·exact h_.lt v2
  ·exact m2.lt⟩,.inl rfl,fun _ _ e=>(by cases e)⟩
 refine gY ?_;have h2:=h0.below b2;obtain⟨cp,Oc,mr,md,mp,mn,k',F,hp⟩:=id h2;refine i_ func24 (rX hp) ?_;rintro _ rfl
 refine il func28 (ub hp.cat) ?_;rintro _ w3 ⟨sp,cap,rfl,hT,b3⟩;refine⟨_,rfl,?_⟩;have hG:Cat.Good s.cat:=by obtain⟨_,_,_,-,-,-,-,-,-,-,hg⟩:=hp.cat;exact hg
 have hlen:=hG.len;clear hp;have Lk:=b2.iR b3;have h3:=h2.below b3;have s3:=s2.below b3;have z3:=b3.size;clear h2 v2 m2 s2 b2;refine gY ?_;refine WC.loop (fun x:Nat=>[(0,iF vb),(3,iF sb),(13,.slice sp s.cat.length cap),(14,Iq (s.cat.length:Nat)),(15,Iq x)])
  (fun x w'=>x <= s.cat.length /\ ib (fun b=>b<w3.heap.size /\ b≠mb) w3 w' /\ aae w s sb mb x 0 (16*x) w') (fun x=>s.cat.length - x) 0 iW
  ⟨aw _,ib.refl _ _,⟨0,_,_,s3,fun x=>⟨fun h=>(by cases h),fun h=>(Jt x h).elim⟩,aw _,fun b hb=>(by rcases hb with rfl|rfl<;>omega)⟩⟩ ?_
 clear s3;rintro i w4 ⟨r9,k4,hR⟩;have z4:=k4.size;have Cf:=Lk.trans (k4.mono fun b (hb:b<w.heap.size)=>⟨gZ,gZ⟩:ib (fun x=>x<w.heap.size) w3 w4).below
 by_cases u_:i<s.cat.length
 case neg=>
  obtain rfl:i=s.cat.length:=gZ;obtain⟨n,S,X,q1,q2,q3,q4⟩:=hR.ex;subst LI;refine gY ?_;refine g_ ⟨sb,_,n,S,X,rfl,q1,fun x=>?_,gZ,q4,Cf⟩;rw[fq,q2,MY]
 case pos=>
 obtain⟨gt,LS,LM,cf,es,lg,og,j6,rN⟩:=It hT u_;obtain⟨rfl,rfl⟩:sp=some ⟨gt,0,none⟩ /\ cap=LS:=by simpa using es
 clear es;have so:=(hG.each i u_).2.1;have jU:=fun j=>KP (j:=j) hG u_;replace j6:w4.rangeAt gt (0+i*4) _:=fun j v hv=>by rw[k4.cell (p:=⟨gt,0+i*4+j,none⟩) ⟨lg,by show gt≠mb;omega⟩];exact j6 j v hv
 replace rN:=rN.ij k4 (fun b hb=>by have h1:=rN.lt hb;have h2:=rN.own hb;exact⟨h1,gZ⟩);have sD:=fun j=>JF (L:=s.cat) (i:=i) (j:=j) u_;have ji:=ML (L:=s.cat) (i:=i);refine gY ?_;refine iG i (0+i*4) u_ ?_;refine ig j6 rfl ?_;refine ix (z:=.agg #[Iq 0,.string ByteArray.empty,.bool false,.slice none 0 0]) (fun _=>by kernel_rfl) fun g5 w5 f5=>?_;have b5:=f5.below;have z5:=f5.eq;have v5:h_ tbT w5 g5 [Iq 0,.string ByteArray.empty,.bool false,.slice none 0 0]:=f5.blk;clear f5;refine WL.nQ rfl rfl rfl rfl rfl rfl v5 rfl rfl (by intro u hu;simp at hu;rcases hu with rfl|rfl|rfl|rfl<;>rfl) ?_;have xq:=h_.setRow v5 [Iq ((i:Int)+1),.string (s.cat.getD i iX).name,.bool (s.cat.getD i iX).dropped,.slice LM (s.cat.getD i iX).fs.length cf];have zZ:iB w4 (w5.setRow g5 [Iq ((i:Int)+1),.string (s.cat.getD i iX).name,.bool (s.cat.getD i iX).dropped,.slice LM (s.cat.getD i iX).fs.length cf].toArray):=below_setRow b5 gZ _;generalize w5.setRow g5 _=w6 at xq zZ ⊢;clear v5 b5 j6;generalize (s.cat.getD i iX).fs=fs at *;have z6:=zZ.size;have k6:=k4.trans ((ib.ic zZ).mono fun b hb=>by omega);have b06:=Cf.iR zZ;have hR6:aae w s sb mb i 0 (16*i+0) w6:=by obtain⟨n,S,X,q1,q2⟩:=hR.ex;exact⟨n,S,X,q1.below zZ,q2⟩
 replace rN:=rN.ij (ib.ic zZ) (fun b hb=>rN.lt hb);have c5:=xq.cell 3 (by simp);simp only[al,ax] at c5;clear hR zZ k4 Cf;refine iu ?_;refine WC.loop (fun x:Nat=>[(0,iF vb),(3,iF sb),(13,.slice (some ⟨gt,0,none⟩) s.cat.length cap),(14,Iq (s.cat.length:Nat)),(15,Iq i),(5,iF g5),(20,.slice LM fs.length cf),(21,Iq (fs.length:Nat)),(22,Iq x)])
  (fun x w'=>x <= fs.length /\ ib (fun b=>b<w6.heap.size /\ b≠mb) w6 w' /\ aae w s sb mb i x (16*i+x) w') (fun x=>fs.length - x) 0 iW
  ⟨aw _,ib.refl _ _,hR6⟩ ?_
 clear hR6 c5;rintro j w7 ⟨Gg,k7,hR⟩;have z7:=k7.size;have k37:=k6.trans (k7.mono fun b hb=>⟨gZ,hb.2⟩);have b07:=b06.trans (k7.mono fun b (hb:b<w.heap.size)=>⟨gZ,gZ⟩:ib (fun x=>x<w.heap.size) w6 w7).below
 by_cases th:j<fs.length
 case neg=>
  obtain rfl:j=fs.length:=gZ;refine gY ?_;refine WQ.again (i+1) iW ⟨u_,k37,?_⟩ (by show s.cat.length - (i+1)<s.cat.length - i;omega);obtain⟨n,S,X,q1,q2,q3,q4⟩:=hR.ex;exact⟨n,S,X,q1,fun x=>(q2 x).trans (ji x),gZ,q4⟩
 case pos=>
 obtain⟨gf,rfl,lf,of,Jy⟩:=ack rN th;have Oz:=jU j th;have pG:=sD j th;replace Jy:=(k7.cell (p:=⟨gf,j,none⟩) ⟨lf,by show gf≠mb;omega⟩).trans Jy;generalize fs.getD j ⟨#[]⟩=f at Jy Oz pG;replace xq:=h_.ij xq k7 ⟨h_.lt xq,gZ⟩;have Ru:w7.rangeAt gf (0+j*1) [.string f]:=fun q v hv=>by
  have:q<1:=(cB.1 hv).1;obtain rfl:q=0:=gZ;cases hv
  rw[show 0+j*1+0=j by omega];exact Jy
 refine gY ?_;refine iG j (0+j*1) th ?_;refine ig Ru rfl ?_;refine ix (z:=.agg #[.string ByteArray.empty]) (fun _=>by kernel_rfl) fun g7 w8 f8=>?_;have v8:h_ ixT w8 g7 [.string ByteArray.empty]:=f8.blk;have e8:=f8.eq;have b8:=f8.below;clear f8;refine WL.nQ rfl rfl rfl rfl rfl rfl v8 rfl rfl (by intro u hu;simp at hu;rw[hu];rfl) ?_;have TN:=h_.setRow v8 [.string f];have b9:iB w7 (w8.setRow g7 [Value.string f].toArray):=below_setRow b8 gZ _;generalize w8.setRow g7 _=w9 at TN b9 ⊢;clear v8 b8 Ru Jy;replace xq:=h_.below xq b9 (h_.lt xq);obtain⟨n,S,X,q1,q2,q3,q4⟩:=hR.ex;replace q1:=q1.below b9;have b09:=b07.iR b9;have Ud:=k7.trans ((ib.ic b9).mono fun b hb=>by omega);have z9:=b9.size;have lsb:=h_.lt q1.blk;have Ce:=q1.blk.cell 0 iz;have l5:=h_.lt xq;have c5:=xq.cell 0 iz;have l7:=h_.lt TN;have c7:=TN.cell 0 iz;simp only[al] at Ce c5 c7;refine gY ?_;refine WC.drawn 16 (iB w9) fun wa jh=>?_;have hS:iB w9 wa:=jh.below _;clear jh;refine iq [0,1,2] hS ?_;refine ik 3 [16] (jZ lsb Ce) hS ?_;refine iq [4] hS ?_;refine ik 5 [8,16] (jZ l5 c5) hS ?_;refine iq [6] hS ?_;refine ik 7 [8,16] (jZ l7 c7) hS ?_;refine WD.build [Iq ((i:Int)+1),.string f] 8 rfl (by kernel_rfl) rfl rfl (fun _ _ _ _ _ h=>h) rfl rfl rfl (by kernel_rfl) (.inr hS) ?_;refine iq [9,10] hS ?_;refine ik 11 [12,15,16] (jZ l5 c5) hS ?_;refine iq [13] hS ?_;refine ik 14 [15,16] (jZ l7 c7) hS ?_;refine iI 12 ?_;refine il func30 (vY ((h0.below b09).below hS) (t:=(i:Int)+1) ⟨gZ,gZ⟩) ?_;rintro _ wb ⟨bb,vd,rfl,kU⟩;refine⟨_,rfl,?_⟩;have ph:=hS.iR bb;refine km ph ?_;refine iI 15 ?_;refine il func29 (Jo kU (QZ hi hd gZ _) (by have:=Ng s ((i:Int)+1);omega) f) ?_;rintro _ wc ⟨tb,st,L,rfl,hTn,Uq,-,bc,qT,Pz⟩;refine⟨_,rfl,?_⟩;have T0:=ph.iR bc;refine km T0 ?_;refine iI 16 ?_;have zb:=ph.size;obtain⟨wd,kz,uL,kd⟩:=(q1.below T0).add Oz (by unfold maxLen;have:=hG.len;omega) (t:=⟨tb,st,L⟩) hTn (Uq.congr fun m=>(Du hi _ m).symm) (fun b hb hs=>by
  have:=q1.nB.lt b hs;rcases hb with e|hb
  ·have e:b=tb:=e
   omega
  ·have:=Pz b hb
   omega)
 refine WL.kv rfl rfl rfl rfl rfl rfl kz ?_;refine iO ?_;refine im ?_;refine gY ?_;refine WQ.again (j+1) iW ⟨th,?_,⟨n+1,_,_,uL,fun x=>?_,gZ,fun b hb=>?_⟩⟩ (by show fs.length - (j+1)<fs.length - j;omega)
 ·exact(Ud.trans ((ib.ic T0).mono fun b hb=>by omega)).trans (kd.mono fun b hb=>hb.2)
 ·rw[pG]
  by_cases e:x=((i:Int)+1,f)
  ·simp[e]
  ·simp only[if_neg e,q2]
   exact⟨.inl,fun h=>h.resolve_right e⟩
 ·have z0:=b09.size
  rcases hb with hb|e|hb
  ·exact q4 b hb
  ·have e:b=tb:=e
   omega
  ·have:=Pz b hb;omega
end Ix
namespace Ix
open K
open Vw (lR rE zW)
theorem BC {P:Program}{ti:TypeId}(hi:P.underlying ti=some (.int .i64)) {d:Nat}{v:Value}(h:P.keyLits (d+1) ti [v]=some L): ∃n,v=Iq n /\ (Lit.int .i64 n).wf=true:=by
 unfold Program.keyLits at h;rw[hi] at h;cases v with
 | int k n=>
  simp only at h
  split at h
  ·rename_i q
   obtain⟨rfl,q2⟩:=q;exact⟨n,rfl,q2⟩
  ·cases h
 | _=>simp at h
theorem Mj {P:Program}{ts:TypeId}(hi:P.underlying ts=some .string) {d:Nat}{v:Value}(h:P.keyLits (d+1) ts [v]=some L): ∃s,v=.string s /\ s.size <= maxLen:=by
 unfold Program.keyLits at h;rw[hi] at h;cases v with
 | string s=>
  simp only at h
  split at h
  ·rename_i q
   exact⟨s,rfl,q⟩
  ·cases h
 | _=>simp at h
theorem Gi {P:Program}{k t0 t1:TypeId}{f0 f1:Field}(hk:P.underlying k=some (.struct #[f0,f1])) (e0:f0.type=t0) (o0:f0.offset=0) (e1:f1.type=t1) (o1:f1.offset=1) (hc:P.cellsOf k=2) (c0:P.cellsOf t0=1) (c1:P.cellsOf t1=1) {d:Nat}(hd:P.types.size+1=d+1+1) {key:Value}{kl:Lit}(h:Go.keyOf P k key=some kl): ∃a b La Lb,key=.agg #[a,b] /\ P.keyLits (d+1) t0 [a]=some La /\ P.keyLits (d+1) t1 [b]=some Lb:=by
 unfold Go.keyOf at h;rw[hk] at h;simp only at h
 split at h
 ·rename_i q
  rw[aA] at q;obtain⟨-,q⟩:=q;unfold Value.formed at q;rw[hk] at q;cases key with
  | agg cs=>
   simp only[hc,beq_iff_eq] at q;obtain⟨a,b,rfl⟩:∃a b,cs=#[a,b]:=by
    obtain⟨l⟩:=cs;have q:l.length=2:=q
    match l,q with
    | [a,b],_=>exact⟨a,b,rfl⟩
   rw[hd] at h;unfold Program.keyLits at h;rw[hk] at h;simp only[Value.cells,hc] at h
   split at h
   ·simp only[gy,gN] at h
    cases ha:P.keyLits (d+1) t0 [a] with
    | none=>simp[ha,e0,o0,c0] at h
    | some La=>
     cases hb:P.keyLits (d+1) t1 [b] with
     | none=>simp[ha,hb,e0,o0,c0,e1,o1,c1] at h
     | some Lb=>exact⟨a,b,La,Lb,rfl,ha,hb⟩
   ·cases h
  | _=>simp at q
 ·cases h
theorem ak5 (key:Value) (kl:Lit) (h:Go.keyOf prog Cj key=some kl): ∃x,key=Cat.mk x:=by
 obtain⟨a,b,La,Lb,rfl,ha,hb⟩:=Gi underlying85 (t0:=3) (t1:=9) rfl rfl rfl rfl Jb Cat.qC Cat.strCells Cat.po h;obtain⟨n,rfl,-⟩:=BC underlying3 ha;obtain⟨s,rfl,-⟩:=Mj underlying9 hb;exact⟨(n,s),rfl⟩
theorem apv {kl:Lit}(h:Go.keyOf prog Cj (Cat.mk x)=some kl): Cat.sM x:=by
 obtain⟨a,b,La,Lb,e,ha,hb⟩:=Gi underlying85 (t0:=3) (t1:=9) rfl rfl rfl rfl Jb Cat.qC Cat.strCells Cat.po h;obtain⟨n,rfl,h1⟩:=BC underlying3 ha;obtain⟨s,rfl,h2⟩:=Mj underlying9 hb;obtain⟨rfl,rfl⟩:x.1=n /\ x.2=s:=by unfold Cat.mk at e;simpa using e
 exact⟨h1,h2⟩
theorem alE: wL<prog.types.size:=of_decide_eq_true (by kernel_rfl)
theorem agw:(match prog.underlying wL with|some (.array _ _)|some (.struct _)=>true|_=>false)=true:=by rw[show prog.underlying wL=_ from underlying78]
theorem Kw: Keyed prog wL:=fy (deep_law_laid Cat.laid (m:=2) gZ alE (by kernel_rfl) agw)
theorem Uk: prog.keyType wL=true:=by kernel_rfl
theorem Q5: prog.cellsOf wL=2:=by kernel_rfl
theorem On {x:Int × Int}(h1:jX x.1) (h2:jX x.2): ∃kl,Go.keyOf prog wL (lR x)=some kl :=
 ⟨_,Vw.JO underlying78 underlying3 rfl rfl j9 rfl rfl j9 Uk Q5 Cat.qC Cat.po x (zW h1) (zW h2)⟩
theorem aki (key:Value) (kl:Lit) (h:Go.keyOf prog wL key=some kl): ∃x,key=lR x:=by
 obtain⟨a,b,La,Lb,rfl,ha,hb⟩:=Gi underlying78 (t0:=3) (t1:=3) rfl rfl rfl rfl Q5 Cat.qC Cat.qC Cat.po h;obtain⟨n,rfl,-⟩:=BC underlying3 ha;obtain⟨s,rfl,-⟩:=BC underlying3 hb;exact⟨(n,s),rfl⟩
end Ix
namespace Ix
open K
open Vw (Rw jf lC p8 mw zQ pD Inv kQ)
theorem OS {f:Nat}{s:Vw.St}(h:pD w vb M D f s N) {r:Rw}(hr:r∈s.rows): zQ r /\ Sm 3000 f r.data:=by
 obtain⟨cp,Oc,mr,md,mp,mn,k,F,h⟩:=h;have hm:r∈Vw.of s.rows r.key:=bQ.2 ⟨hr,decide_eq_true rfl⟩;obtain⟨i,hi,e⟩:=bn hm;obtain⟨-,-,-,-,-,-,-,-,-,ok,sm⟩:=mw (h.jt r.key) hi;rw[Vw.jW hi,e] at ok sm;exact⟨ok,sm⟩
def wZ (l:List (Int × Int)) (x:Int × Int):Option Value:=if x∈l then some (.bool true) else none
theorem Yg (l:List (Int × Int)) (a x:Int × Int): wZ (l++[a]) x=nH (wZ l) a (.bool true) x:=by
 unfold wZ nH
 by_cases e:x=a
 ·simp[e]
 ·simp[e]
def Ax (s:Vw.St) (e:En):Option (Int × Int):=if e.kind=2 \/ e.kind=3 then some (e.table,e.doc) else if e.kind=4 then atR s (e.ab,e.ae) else none
theorem YJ {s:Vw.St}{l:List En}(hi:i<l.length): Ar s (l.take (i+1))=Ar s (l.take i)++(Ax s (l.getD i jo)).toList:=by
 have ji:l.take (i+1)=l.take i++[l.getD i jo]:=by rw[aJ,ah hi,Vw.jW hi];rfl
 rw[ji];unfold Ar;rw[gv]
 show _++List.filterMap (Ax s) [l.getD i jo]=_
 rw[fx];cases Ax s (l.getD i jo)<;>rfl
def wu (T:List (Int × Int)) (left:Int × Int -> Bool) (g g':Gx) (t:Int):Gx:=fun n=>if(t,n)∈T /\ left (t,n)=false then g' n else g n
theorem Vj {T:List (Int × Int)}{left vQ:Int × Int -> Bool}{g g':Gx}{t:Int}{d:Int × Int}(hd:d∈T) (h1:vQ d=false) (h2:∀y∈T,y≠d -> vQ y=left y) (n:Int): wu T vQ g g' t n=if(t,n)=d then g' n else wu T left g g' t n:=by
 unfold wu
 by_cases e:(t,n)=d
 ·rw[if_pos e,e,if_pos ⟨hd,h1⟩]
 ·rw[if_neg e]
  by_cases hm:(t,n)∈T
  ·rw[h2 _ hm e]
  ·rw[if_neg (fun q=>hm q.1),if_neg (fun q=>hm q.1)]
def Tf (f:ByteArray) (n:Int) (o:Option V) (L:List Tre.KV):List Tre.KV:=match o with|some d=>layOut f n d L|none=>L
def inL (f:ByteArray) (n:Int) (o:Option V) (L:List Tre.KV):List Tre.KV:=match o with|some d=>sX f n d L|none=>L
theorem acm {g:Gx}{L:List Tre.KV}(h:sR f g L) (hg:Gd g) {n:Int}{o':Option V}(ho:∀d,o'=some d -> R6 n /\ chk 16 d=0 /\ Rg d): sR f (kv g n o') (inL f n o' (Tf f n (g n) L)):=by
 have h1:sR f (kv g n none) (Tf f n (g n) L):=by
  cases hq:g n with
  | some d=>exact h.del hg hq
  | none=>
   refine h.congr fun m=>?_
   ·unfold kv
    split
    ·rename_i e
     rw[e,hq]
    ·rfl
 cases o' with
 | none=>exact h1
 | some d=>
  obtain⟨a1,a2,a3⟩:=ho d rfl;exact(h1.put hg.cut a1 a2 a3 (by unfold kv;rw[if_pos rfl])).congr fun m=>by
   unfold kv
   by_cases e:m=n
   ·rw[if_pos e,if_pos e]
   ·rw[if_neg e,if_neg e,if_neg e]
section
variable {w w':World}{mb:Nat}{S:Nat -> Prop}{X:yA}{g g':Int × ByteArray -> Gx}
theorem vI.aqF (h:vI w mb S X g) {t:Tx}(hx:X x=some t) {K:Nat -> Prop}(hk:ib K w w') (hK:∀b,S b -> ¬t.own b -> K b) {u:Tx}(hT:uc w' u.st u.tb u.L) (hL:sR x.2 (g' x) u.L) (iJ:∀b,u.own b -> t.own b \/ ¬S b) (hg:∀y v,y≠x -> X y=some v -> g' y=g y): vI w' mb (fun b=>S b \/ u.own b) (fun y=>if y=x then some u else X y) g':=by
 have Cb:∀b,u.own b -> ∀y v,y≠x -> X y=some v -> ¬v.own b:=fun b hb y v hy hv jg=>by
  rcases iJ b hb with q|q
  ·exact h.oV x y t v b hx hv (de hy) q jg
  ·exact q (h.own y v b hv jg)
 refine⟨fun y v e=>?_,fun y v b e hb=>?_,fun y z u1 v b e1 e2 ZP hb jg=>?_,.inl h.mS,fun y v e hb=>?_,fun b hb=>?_⟩
 ·by_cases q:y=x
  ·rw[if_pos q] at e;cases e;subst q;exact⟨hT,hL⟩
  ·rw[if_neg q] at e
   rw[hg y v q e];exact⟨(h.is y v e).1.ij hk (fun b hb=>hK b (h.own y v b e (.inr hb)) fun jg=>h.oV x y t v b hx e (de q) jg (.inr hb)) (hK _ (h.own y v _ e (.inl rfl)) fun jg=>h.oV x y t v _ hx e (de q) jg (.inl rfl)),(h.is y v e).2⟩
 ·by_cases q:y=x
  ·rw[if_pos q] at e;cases e;exact .inr hb
  ·rw[if_neg q] at e;exact .inl (h.own y v b e hb)
 ·by_cases q:y=x
  ·rw[if_pos q] at e1;cases e1
   rw[if_neg (fun q2=>ZP (q.trans q2.symm))] at e2;exact Cb b hb z v (fun q2=>ZP (q.trans q2.symm)) e2 jg
  ·rw[if_neg q] at e1
   by_cases q2:z=x
   ·rw[if_pos q2] at e2;cases e2;exact Cb b jg y u1 q e1 hb
   ·rw[if_neg q2] at e2;exact h.oV y z u1 v b e1 e2 ZP hb jg
 ·by_cases q:y=x
  ·rw[if_pos q] at e;cases e
   rcases iJ mb hb with q2|q2
   ·exact h.out x t hx q2
   ·exact q2 h.mS
  ·rw[if_neg q] at e;exact h.out y v e hb
 ·rcases hb with hb|rfl|hb
  ·exact ak (h.lt b hb) hk.size
  ·obtain⟨_,_,hv,-⟩:=hT.ex;exact h_.lt hv
  ·exact hT.mem.lt hb
theorem Vq {t u:Tx}(hx:X x=some t) (qT:u.tb=t.tb): xX (fun y=>if y=x then some u else X y)=xX X:=by
 funext y
 unfold xX
 by_cases q:y=x
 ·simp only[if_pos q];rw[q,hx];unfold Tx.ptr;simp[qT]
 ·simp only[if_neg q]
theorem vI.drop (h:vI w mb S X g) (x:Int × ByteArray) {K:Nat -> Prop}(hk:ib K w w') (hK:∀b,S b -> b≠mb -> K b) (hg:∀y v,y≠x -> X y=some v -> g' y=g y): vI w' mb S (fun y=>if y=x then none else X y) g':=by
 have hx:∀ {y v},(if y=x then none else X y)=some v -> y≠x /\ X y=some v:=fun {y v} e=>by
  by_cases q:y=x
  ·rw[if_pos q] at e;cases e
  ·rw[if_neg q] at e;exact⟨q,e⟩
 refine⟨fun y v e=>?_,fun y v b e hb=>h.own y v b (hx e).2 hb,fun y z u v b e1 e2=>h.oV y z u v b (hx e1).2 (hx e2).2,h.mS,fun y v e=>h.out y v (hx e).2,fun b hb=>ak (h.lt b hb) hk.size⟩;obtain⟨q,e⟩:=hx e;rw[hg y v q e];exact⟨(h.is y v e).1.ij hk (fun b hb=>hK b (h.own y v b e (.inr hb)) fun e2=>h.out y v e (by rw[<- e2];exact .inr hb)) (hK _ (h.own y v _ e (.inl rfl)) fun e2=>h.out y v e (by rw[<- e2];exact .inl rfl)),(h.is y v e).2⟩
theorem VJ (x:Int × ByteArray): xX (fun y=>if y=x then none else X y)=xG (xX X) x:=by
 funext y
 unfold xX xG
 by_cases q:y=x
 ·simp only[if_pos q];rfl
 ·simp only[if_neg q]
end
theorem WL.an7 {n:NN}{Q:Exit -> Act -> World -> Prop}{l:Env}{ops:Array Oper}{o:Oper}{rest:List Oper}{t k:Nat}{x y:Operand}{mv xv:Value}(hg:o.guard=none) (hd:o.dst=none) (ho:o.op=.call { callee:=.builtin .delete,args:=#[x,y],argTypes:=#[t,k]}) (hx:jw l x=some mv) (hy:jw l y=some xv) (hr:(Builtin.delete_ #[t,k] o.type #[mv,xv]).run prog w=.ok (.tuple #[]) w') (h:WL n ops Q rest l w'): WL n ops Q (o :: rest) l w :=
 ⟨fun a ha=>Ml (w':=w') (v:=.tuple #[]) hg (by
  unfold execOp;rw[ho];simp[resolve,invoke,builtin,ha.eval hx,ha.eval hy,hr,Result.andThen]) (by rw[hd];exact h.go _ (ha.none _))⟩
end Ix
namespace Vw
open K
theorem Rq {f:Nat}{v:Value}{L:List Rw}(h:lA 14 jf (lC D f w) O w v L) (hl:L.length <= 1000000) {a b:Int}(ha:w.cell? ⟨g,44,none⟩=some (Iq a)) (hb:w.cell? ⟨g,45,none⟩=some (Iq b)) (iS:g<w.heap.size):
  Calls prog 86 #[v,.func (.func 87) #[] #[iF g]] w fun e w'=>iB w w' /\ e=.returned (Iq (I8 (L.findIdx? fun r=>decide (r.lG=(a,b))))):=by
 obtain⟨sp,cap,rfl,-⟩:=id h;refine iY (args:=[.slice sp L.length cap,.func (.func 87) #[] #[iF g]]) func86 ntmps86 ?_;refine gY ?_;refine WC.loop (fun i:Nat=>[(0,.slice sp L.length cap),(1,.func (.func 87) #[] #[iF g]),(7,Iq (L.length:Nat)),(8,Iq i)])
  (fun i w'=>i <= L.length /\ iB w w' /\ ∀j,j<i -> (L.getD j jf).lG≠(a,b)) (fun i=>L.length - i) 0 iW ⟨aw _,Below.refl _ _,fun j hj=>absurd hj (cR j)⟩ ?_
 rintro i w1 ⟨hi,b1,mC⟩
 by_cases w_:i<L.length
 case neg=>
  obtain rfl:i=L.length:=gZ;refine gY ?_;refine g_ ⟨b1,?_⟩;rw[Iv fun j hj=>decide_eq_false (mC j hj)]
  rfl
 case pos=>
 obtain⟨b9,o9,pr,CZ,es,qU,-,R9,p5,-,-⟩:=mw h w_;obtain⟨rfl,rfl⟩:sp=some ⟨b9,o9,none⟩ /\ cap=pr:=by simpa using es
 clear es;have R1:=R9.below (ib.ic b1) qU;have j7:=p5.len;have x3:=R1.all;have z1:=b1.size;refine gY ?_;refine iG i (o9+i*14) w_ ?_;refine ig x3 (jO j7) ?_;refine WL.xx rfl rfl rfl rfl rfl rfl func87 rfl (by kernel_rfl) (agZ j7 ((b1.cell (p:=⟨g,44,none⟩) iS).trans ha) ((b1.cell (p:=⟨g,45,none⟩) iS).trans hb) gZ) ?_;rintro _ w2 ⟨b2,rfl⟩;refine⟨_,rfl,?_⟩;have bw:=b1.trans (b2.mono z1)
 by_cases hq:(L.getD i jf).lG=(a,b)
 ·rw[decide_eq_true hq]
  refine gY ?_;refine g_ ⟨bw,?_⟩;rw[Ff w_ (fun j hj=>decide_eq_false (mC j hj)) (decide_eq_true hq)]
  rfl
 ·rw[decide_eq_false hq]
  refine gY ?_;refine WQ.again (i+1) iW ⟨w_,bw,fun j hj=>?_⟩ gZ
  by_cases e:j=i
  ·rw[e];exact hq
  ·exact mC j gZ
structure PG (w:World) (vb:Nat) (M D:Nat -> Prop) (f:Nat) (n:Nat) (cat:List Cat.Tb) (A:Int × Int -> List Rw) (dF:Int -> Option Value) (pF nF:Int × Int -> Option Value) (cp:Nat) (Oc:Nat -> Prop) (mr md mp mn k:Nat) (F:Int × Int -> Option Value):Prop where
 pM:h_ XS w vb [iF cp,.map (some mr),.map (some md),.map (some mp),.map (some mn),Iq n]
 cat:Cat.ln w cp Oc k cat
 rows:MF prog Fv lR w mr k F
 jt:∀x,lA 14 jf (lC D f w) D w ((F x).getD (.slice none 0 0)) (A x)
 uQ:MF prog iT LG w md k dF
 uS:MF prog uY lR w mp k pF
 uM:MF prog uY lR w mn k nF
 tG:M vb
 xK:M mr
 yy:M md
 yJ:M mp
 zA:M mn
 rn:∀b,Oc b -> M b
 out:¬Oc vb /\ ¬Oc mr /\ ¬Oc md /\ ¬Oc mp /\ ¬Oc mn
 oV:(mr≠md /\ mr≠mp /\ mr≠mn) /\ (md≠mp /\ md≠mn) /\ mp≠mn
 lt:∀b,M b \/ D b -> b<w.heap.size
 sep:∀b,M b -> ¬D b
section
variable {w w':World}{vb:Nat}{M D:Nat -> Prop}{f:Nat}{s:St}{n:Nat}{cat:List Cat.Tb}{A:Int × Int -> List Rw}{dF:Int -> Option Value}{pF nF:Int × Int -> Option Value}{cp:Nat}{Oc:Nat -> Prop}{mr md mp mn k N:Nat}{F:Int × Int -> Option Value}
theorem PV.pg (h:PV w vb M D f s cp Oc mr md mp mn k N F): PG w vb M D f s.n s.cat (Vw.of s.rows) (uv s.rows) (ql s.rows) (As s.red) cp Oc mr md mp mn k F :=
 ⟨h.pM,h.cat,h.rows,h.jt,h.uQ,h.uS,h.uM,h.tG,h.xK,h.yy,h.yJ,h.zA,h.rn,h.out,h.oV,h.lt,h.sep⟩
theorem PG.pv (h:PG w vb M D f n cat A dF pF nF cp Oc mr md mp mn k F) (hn:s.n=n) (hc:s.cat=cat) (hA:∀x,Vw.of s.rows x=A x) (hd:∀x,uv s.rows x=dF x) (hp:∀x,ql s.rows x=pF x) (m4:∀x,As s.red x=nF x) (kK:s.n <= N /\ s.rows.length <= N /\ k <= N /\ N <= 1000000): PV w vb M D f s cp Oc mr md mp mn k N F:=by
 subst hn hc;exact⟨h.pM,h.cat,h.rows,fun x=>by rw[hA];exact h.jt x,h.uQ.congr hd,h.uS.congr hp,h.uM.congr m4,h.tG,h.xK,h.yy,h.yJ,h.zA,h.rn,h.out,h.oV,h.lt,h.sep,kK⟩
theorem PG.ij (h:PG w vb M D f n cat A dF pF nF cp Oc mr md mp mn k F) {K:Nat -> Prop}(hk:ib K w w') (hK:∀b,M b \/ D b -> K b): PG w' vb M D f n cat A dF pF nF cp Oc mr md mp mn k F :=
 ⟨h.pM.ij hk (hK _ (.inl h.tG)),h.cat.ij hk fun b hb=>hK b (.inl (h.rn b hb)),h.rows.ij hk (hK _ (.inl h.xK)),fun x=>(h.jt x).ij hk (fun b hb _=>hK b (.inr hb)) (fun _ h=>h) fun _ _ hp=>hp.ij hk (fun b hb _=>hK b (.inr hb)) (fun _ h=>h),
  h.uQ.ij hk (hK _ (.inl h.yy)),h.uS.ij hk (hK _ (.inl h.yJ)),h.uM.ij hk (hK _ (.inl h.zA)),h.tG,h.xK,h.yy,h.yJ,h.zA,h.rn,h.out,h.oV,fun b hb=>ak (h.lt b hb) hk.size,h.sep⟩
theorem PG.below (h:PG w vb M D f n cat A dF pF nF cp Oc mr md mp mn k F) (hb:iB w w'): PG w' vb M D f n cat A dF pF nF cp Oc mr md mp mn k F:=h.ij (ib.ic hb) h.lt
theorem PG.abT (h:PG w vb M D f n cat A dF pF nF cp Oc mr md mp mn k F) {k':Nat}(hk:k <= k'): PG w vb M D f n cat A dF pF nF cp Oc mr md mp mn k' F :=
 { h with cat:=h.cat.mono hk,rows:=h.rows.mono hk,uQ:=h.uQ.mono hk,uS:=h.uS.mono hk,uM:=h.uM.mono hk }
theorem PG.more (h:PG w vb M D f n cat A dF pF nF cp Oc mr md mp mn k F) {D':Nat -> Prop}(hD:∀b,D b -> D' b) (hl:∀b,D' b -> b<w.heap.size) (hs:∀b,M b -> ¬D' b): PG w vb M D' f n cat A dF pF nF cp Oc mr md mp mn k F :=
 { h with
  jt:=fun x=>(h.jt x).mono hD fun _ _ hp=>hp.ij (ib.refl (fun _=>True) w) (fun _ _ _=>trivial) hD
  lt:=fun b hb=>hb.elim (fun q=>h.lt b (.inl q)) (hl b)
  sep:=hs }
theorem PG.sU (h:PG w vb M D f n cat A dF pF nF cp Oc mr md mp mn k F): mr≠vb /\ md≠vb /\ mp≠vb /\ mn≠vb :=
 ⟨Cat.MF.kN h.rows (show w.heap[vb]? = _ from h.pM),Cat.MF.kN h.uQ (show w.heap[vb]? = _ from h.pM),Cat.MF.kN h.uS (show w.heap[vb]? = _ from h.pM),Cat.MF.kN h.uM (show w.heap[vb]? = _ from h.pM)⟩
theorem PG.abx (h:PG w vb M D f n cat A dF pF nF cp Oc mr md mp mn k F) (hk:k <= 1000000) {x:Int × Int}(h1:jX x.1) (h2:jX x.2) {v:Value}{L:List Rw}(hv:lA 14 jf (lC D f w) D w v L):
  ∃w',(Instr.mapUpdate 127 (.map (some mr)) (lR x) v).run prog w=.ok () w' /\ ib (fun b=>b≠mr) w w' /\ PG w' vb M D f n cat (fun y=>if y=x then L else A y) dF pF nF cp Oc mr md mp mn (k+1) (nH F x v):=by
 obtain⟨w',h3,h4,h5⟩:=h.rows.put rE Ii underlying127 (by unfold maxLen;omega) v (VN h1 h2);have tD:=h.sU;have hD:∀b,D b -> b≠mr:=fun b hb e=>h.sep mr h.xK (e ▸ hb);refine⟨w',h3,h5,⟨h.pM.ij h5 tD.1.symm,(h.cat.ij h5 fun b hb e=>h.out.2.1 (e ▸ hb)).mono (bJ k),h4,fun y=>?_,(h.uQ.ij h5 h.oV.1.1.symm).mono (bJ k),(h.uS.ij h5 h.oV.1.2.1.symm).mono (bJ k),(h.uM.ij h5 h.oV.1.2.2.symm).mono (bJ k),
  h.tG,h.xK,h.yy,h.yJ,h.zA,h.rn,h.out,h.oV,fun b hb=>ak (h.lt b hb) h5.size,h.sep⟩⟩
 unfold nH
 by_cases e:y=x
 ·rw[if_pos e,if_pos e]
  exact hv.ij h5 (fun b hb _=>hD b hb) (fun _ h=>h) fun _ _ hp=>hp.ij h5 (fun b hb _=>hD b hb) (fun _ h=>h)
 ·rw[if_neg e,if_neg e]
  exact(h.jt y).ij h5 (fun b hb _=>hD b hb) (fun _ h=>h) fun _ _ hp=>hp.ij h5 (fun b hb _=>hD b hb) (fun _ h=>h)
theorem PG.aoZ (h:PG w vb M D f n cat A dF pF nF cp Oc mr md mp mn k F) (hk:k <= 1000000) {x:Int}(h1:jX x) (v:Value):
  ∃w',(Instr.mapUpdate 128 (.map (some md)) (Iq x) v).run prog w=.ok () w' /\ ib (fun b=>b≠md) w w' /\ PG w' vb M D f n cat A (nH dF x v) pF nF cp Oc mr md mp mn (k+1) F:=by
 obtain⟨w',h3,h4,h5⟩:=h.uQ.put ace P_ underlying128 (by unfold maxLen;omega) v (Z5 h1);have tD:=h.sU;have hD:∀b,D b -> b≠md:=fun b hb e=>h.sep md h.yy (e ▸ hb);exact⟨w',h3,h5,⟨h.pM.ij h5 tD.2.1.symm,(h.cat.ij h5 fun b hb e=>h.out.2.2.1 (e ▸ hb)).mono (bJ k),(h.rows.ij h5 h.oV.1.1).mono (bJ k),fun y=>(h.jt y).ij h5 (fun b hb _=>hD b hb) (fun _ h=>h) fun _ _ hp=>hp.ij h5 (fun b hb _=>hD b hb) (fun _ h=>h),h4,(h.uS.ij h5 h.oV.2.1.1.symm).mono (bJ k),(h.uM.ij h5 h.oV.2.1.2.symm).mono (bJ k),
  h.tG,h.xK,h.yy,h.yJ,h.zA,h.rn,h.out,h.oV,fun b hb=>ak (h.lt b hb) h5.size,h.sep⟩⟩
theorem PG.aqH (h:PG w vb M D f n cat A dF pF nF cp Oc mr md mp mn k F) (hk:k <= 1000000) {x:Int × Int}(h1:jX x.1) (h2:jX x.2) (v:Value):
  ∃w',(Instr.mapUpdate 129 (.map (some mp)) (lR x) v).run prog w=.ok () w' /\ ib (fun b=>b≠mp) w w' /\ PG w' vb M D f n cat A dF (nH pF x v) nF cp Oc mr md mp mn (k+1) F:=by
 obtain⟨w',h3,h4,h5⟩:=h.uS.put rE tY underlying129 (by unfold maxLen;omega) v (AE h1 h2);have tD:=h.sU;have hD:∀b,D b -> b≠mp:=fun b hb e=>h.sep mp h.yJ (e ▸ hb);exact⟨w',h3,h5,⟨h.pM.ij h5 tD.2.2.1.symm,(h.cat.ij h5 fun b hb e=>h.out.2.2.2.1 (e ▸ hb)).mono (bJ k),(h.rows.ij h5 h.oV.1.2.1).mono (bJ k),fun y=>(h.jt y).ij h5 (fun b hb _=>hD b hb) (fun _ h=>h) fun _ _ hp=>hp.ij h5 (fun b hb _=>hD b hb) (fun _ h=>h),(h.uQ.ij h5 h.oV.2.1.1).mono (bJ k),h4,(h.uM.ij h5 h.oV.2.2.symm).mono (bJ k),
  h.tG,h.xK,h.yy,h.yJ,h.zA,h.rn,h.out,h.oV,fun b hb=>ak (h.lt b hb) h5.size,h.sep⟩⟩
theorem PG.ao_ (h:PG w vb M D f n cat A dF pF nF cp Oc mr md mp mn k F) (hk:k <= 1000000) {x:Int × Int}(h1:jX x.1) (h2:jX x.2) (v:Value):
  ∃w',(Instr.mapUpdate 130 (.map (some mn)) (lR x) v).run prog w=.ok () w' /\ ib (fun b=>b≠mn) w w' /\ PG w' vb M D f n cat A dF pF (nH nF x v) cp Oc mr md mp mn (k+1) F:=by
 obtain⟨w',h3,h4,h5⟩:=h.uM.put rE tY underlying130 (by unfold maxLen;omega) v (AE h1 h2);have tD:=h.sU;have hD:∀b,D b -> b≠mn:=fun b hb e=>h.sep mn h.zA (e ▸ hb);exact⟨w',h3,h5,⟨h.pM.ij h5 tD.2.2.2.symm,(h.cat.ij h5 fun b hb e=>h.out.2.2.2.2 (e ▸ hb)).mono (bJ k),(h.rows.ij h5 h.oV.1.2.2).mono (bJ k),fun y=>(h.jt y).ij h5 (fun b hb _=>hD b hb) (fun _ h=>h) fun _ _ hp=>hp.ij h5 (fun b hb _=>hD b hb) (fun _ h=>h),(h.uQ.ij h5 h.oV.2.1.2).mono (bJ k),(h.uS.ij h5 h.oV.2.2).mono (bJ k),h4,
  h.tG,h.xK,h.yy,h.yJ,h.zA,h.rn,h.out,h.oV,fun b hb=>ak (h.lt b hb) h5.size,h.sep⟩⟩
theorem PG.app (h:PG w vb M D f n cat A dF pF nF cp Oc mr md mp mn k F) {ahZ:List Cat.Tb}{O':Nat -> Prop}(hc:Cat.ln w' cp O' (k+1) ahZ) (hk:ib (fun b=>b<w.heap.size /\ ¬Oc b) w w') (ho:∀b,O' b -> Oc b \/ w.heap.size <= b):
  PG w' vb (fun b=>M b \/ (w.heap.size <= b /\ b<w'.heap.size)) D f n ahZ A dF pF nF cp O' mr md mp mn (k+1) F:=by
 have l:=h.lt;have hz:=hk.size;have hn:∀b,M b -> ¬Oc b -> ¬O' b:=fun b hb mC q=>by
  rcases ho b q with q|q
  ·exact mC q
  ·have:=l b (.inl hb);omega
 have hD:∀b,D b -> b<w.heap.size /\ ¬Oc b:=fun b hb=>⟨l b (.inr hb),fun q=>h.sep b (h.rn b q) hb⟩;have hM:∀b,M b -> ¬Oc b -> b<w.heap.size /\ ¬Oc b:=fun b hb q=>⟨l b (.inl hb),q⟩;exact⟨h.pM.ij hk (hM _ h.tG h.out.1),hc,(h.rows.ij hk (hM _ h.xK h.out.2.1)).mono (bJ k),fun x=>(h.jt x).ij hk (fun b hb _=>hD b hb) (fun _ h=>h) fun _ _ hp=>hp.ij hk (fun b hb _=>hD b hb) (fun _ h=>h),
  (h.uQ.ij hk (hM _ h.yy h.out.2.2.1)).mono (bJ k),(h.uS.ij hk (hM _ h.yJ h.out.2.2.2.1)).mono (bJ k),(h.uM.ij hk (hM _ h.zA h.out.2.2.2.2)).mono (bJ k),.inl h.tG,.inl h.xK,.inl h.yy,.inl h.yJ,.inl h.zA,
  fun b hb=>(ho b hb).elim (fun q=>.inl (h.rn b q)) fun q=>.inr ⟨q,hc.lt b hb⟩,⟨hn _ h.tG h.out.1,hn _ h.xK h.out.2.1,hn _ h.yy h.out.2.2.1,hn _ h.yJ h.out.2.2.2.1,hn _ h.zA h.out.2.2.2.2⟩,h.oV,
  fun b hb=>by
   rcases hb with(q|q)|q
   ·have:=l b (.inl q);omega
   ·exact q.2
   ·have:=l b (.inr q);omega,fun b hb=>by
   rcases hb with q|q
   ·exact h.sep b q
   ·intro q2;have:=l b (.inr q2);omega⟩
end
structure ale (s:St) (a:Int × Int) (r:Rw) (i j:Nat):Prop where
 lt:i<s.rows.length
 here:s.rows.getD i jf=r
 idx:s.rows.findIdx? (wM s a)=some i
 jlt:j<(Vw.of s.rows r.key).length
 aas:(Vw.of s.rows r.key).getD j jf=r
 jdx:(Vw.of s.rows r.key).findIdx? (fun x=>decide (x.lG=a))=some j
 ofs:∀x,Vw.of (s.rows.set i (shut r)) x=if x=r.key then(Vw.of s.rows r.key).set j (shut r) else Vw.of s.rows x
 apN:∀t,iQ t (s.rows.set i (shut r))=iQ t s.rows
 plc:∀x,ql (s.rows.set i (shut r)) x=ql s.rows x
theorem QK {s:St}(hI:Inv s) {r:Rw}(hf:s.rows.find? (fun x=>decide (x.lG=a) && !x.del)=some r) (CI:s.red a=false): ∃i j,ale s a r i j:=by
 obtain⟨hp,i,hi,tw,mC⟩:=List.find?_eq_some_iff_getElem.1 hf;have hra:r.lG=a:=by simp only[aA,decide_eq_true_eq] at hp;exact hp.1
 have Ae:r.del=false:=by simp only[aA,bZ] at hp;exact hp.2
 have hg:s.rows.getD i jf=r:=by rw[jW hi];exact tw
 have G3:∀x:Rw,wM s a x=(decide (x.lG=a) && !x.del):=fun x=>by
  unfold wM;rw[CI,Bool.not_false,Bool.and_true]
  congr 1
  rw[<- Bool.decide_and];exact cq.2 ⟨fun q=>dN q.1 q.2,fun q=>⟨congrArg Prod.fst q,congrArg Prod.snd q⟩⟩
 obtain⟨A,B,e,XV,hs⟩:=yZ hi;rw[hg] at e;have hd:=hI.oV;rw[e,aK,aM,bK] at hd;have hA:∀x∈A,x.lG≠a:=fun x hx q=>hd.2.2 _ (fw hx) _ (cj ..) (by rw[q,hra]);have hof:Vw.of s.rows r.key=Vw.of A r.key++r :: Vw.of B r.key:=by rw[e,vl,if_pos rfl];rfl
 have Gg:(Vw.of A r.key).length<(Vw.of s.rows r.key).length:=by rw[hof,aa,aj];omega
 have hjr:(Vw.of s.rows r.key).getD (Vw.of A r.key).length jf=r:=by rw[hof];simp[ag]
 refine⟨i,(Vw.of A r.key).length,hi,hg,Ff hi (fun j hj=>?_) ?_,Gg,hjr,Ff Gg (fun j hj=>?_) ?_,fun x=>?_,fun t=>?_,fun x=>?_⟩
 ·rw[G3,jW gZ]
  have:=mC j hj
  simpa only[bZ] using this
 ·rw[G3,hg];exact hp
 ·refine decide_eq_false ?_
  rw[hof,ag,aP hj,ah hj];exact hA _ (bQ.1 (aN hj)).1
 ·rw[hjr];exact decide_eq_true hra
 ·rw[hs,vl]
  by_cases q:x=r.key
  ·subst q
   rw[if_pos rfl,if_pos (show(shut r).key=r.key from rfl),hof];simp
  ·rw[if_neg q,if_neg (show ¬(shut r).key=x from fun y=>q y.symm),e,vl,if_neg (fun y=>q y.symm)]
 ·rw[hs,e,JZ]
 ·unfold ql
  rw[hs,e,eS,eS,fu,fu];have mY:(decide ((shut r).lG=x) && !(shut r).del)=(decide (r.lG=x) && !r.del):=rfl;rw[mY];cases A.find? (fun y=>decide (y.lG=x) && !y.del) with
  | some y=>rfl
  | none=>
   rw[Option.none_or,Option.none_or];cases(decide (r.lG=x) && !r.del)<;>rfl
theorem GO {s:St}(hf:s.rows.find? (fun x=>decide (x.lG=a) && !x.del)=none \/ s.red a=true): s.rows.findIdx? (wM s a)=none:=by
 refine Iv fun j hj=>?_;unfold wM;rcases hf with hf|hf
 ·have:=cX.1 hf (s.rows.getD j jf) (by rw[jW hj];exact aN hj)
  cases hq:(decide ((s.rows.getD j jf).blk=a.1) && decide ((s.rows.getD j jf).ni=a.2)) with
  | false=>rw[Bool.false_and,Bool.false_and]
  | true=>
   simp only[aA,decide_eq_true_eq] at hq;have ha:(s.rows.getD j jf).lG=a:=dN hq.1 hq.2;rw[decide_eq_true ha,fS] at this;simp only[bZ,Bool.not_eq_false] at this;rw[this]
   rfl
 ·rw[hf,gQ,Bool.and_false]
end Vw
end Go.Proofs.YtlenklobbngopaaGreat
