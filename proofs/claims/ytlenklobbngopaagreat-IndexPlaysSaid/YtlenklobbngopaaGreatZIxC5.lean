import Derived.Test.YtlenklobbngopaaGreatZIxC4
set_option maxHeartbeats 64000000
set_option maxRecDepth 100000
set_option linter.all false
namespace Go.Proofs.YtlenklobbngopaaGreat
open _root_.Go.Proofs.Tryz
open Go.RowKit
variable {α:Type}{f m d i rb N B c T vb:Nat}{w0 w w':World}{cs bc dc:kL}{b tv:Value}{l:List lD}{x y bi sC:Int}{a q:Int×Int}{M D E O:Nat->Prop}{eT eF:TypeId}
namespace K
theorem Wt (m:Nat) (ih:∀ {f:Nat}{w0 w:World}{v:V}{cs:kL}{b:Value}{l:oK}, mj f w0 v cs->chk m v=0->Bu w b l->pB w0 w b->l.length+(encV m v).length<=70368744177664->
      Calls prog 151 #[b, .agg cs.toArray] w fun e w'=>∃b', e=.returned b'/\Bu w' b' (l++encV m v)/\kX w b w' b') {v:V}{l:oK}(hv:mj f w0 v cs) (hc:chk (m+1) v=0) (hb:Bu w b l) (ha:pB w0 w b) (hm:l.length+(encV (m+1) v).length<=70368744177664):
    Calls prog 151 #[b, .agg cs.toArray] w fun e w'=>∃b', e=.returned b'/\Bu w' b' (l++encV (m+1) v)/\kX w b w' b' := by
  obtain⟨hk, f2, f3, f4, f5, fk, ft, f9⟩ := rz (qe hc); cases f with
  | zero=>exact hv.elim
  | succ f=>
  obtain⟨sn, sk, rfl, wk, wn, ws, -, rV, uC⟩ := hv; have mh := Ei (m := m) (v := v); rw[mh]at hm; have hn:-9223372036854775808<=v.n/\v.n<=9223372036854775807 := by simp[Lit.wf, IntKind.min, IntKind.max, IntKind.bits, IntKind.signed]at wn; omega
  have Lf := aar hn; apply kq (args := [b, .agg (mR v sn sk).toArray]) func151 ntmps151; apply G _; refine jO fun g w1 hf=>?_; have lj:kJ w g w1 25 (mR v sn sk) := hf; clear hf; have oc := hb.below lj.below; have vL := (kX.refl w b).below lj.below; have J5 := ha.grow vL; have hR:∀ {wk vk}, kX w1 b wk vk->U 25 wk g (mR v sn sk) := fun h=>lj.Sy hb h; have fin:∀ {b' w' x}, Bu w' b' (l++v.k::x)->kX w1 b w' b'->(v.k::x=encV (m+1) v)->∃F_, Ending.returned b'=.returned F_/\Bu w' F_ (l++encV (m+1) v)/\kX w b w' F_ :=
    fun {b' w' x} h1 h2 h3=>⟨b', rfl, by rw[<-h3]; exact h1, vL.trans h2⟩
  have e8:IntKind.u8.wrap v.k=v.k := by rw[bL]; omega
  have uE:l.length+1<=70368744177664 := by simp at hm; omega
  have g0 := kX.refl w1 b; apply G _; apply Y ((hR g0).cell 0 jM); apply G _; refine WL.push rfl rfl rfl rfl rfl rfl rfl rfl rfl rfl rfl (fun _=>rfl) rfl oc (by simp; omega) fun b2 w2 kK g2=>?_; rw[e8]at kK; apply G _; apply Y ((hR g2).cell 0 jM); have sL:(l++[v.k]).length=l.length+1 := jM; have BP:∀x, l++v.k::x=(l++[v.k])++x := fun x=>jM; generalize hL:l++[v.k]=L at kK sL BP; have om:L.length+(encV (m+1) v).length<=70368744177664+1 := by rw[mh]; simp at hm ⊢; omega
  by_cases k1:v.k=1
  · apply G _
    refine J (fin (x := []) (by rw[BP, aP]; exact kK) g2 ?_); rw[mh]; simp[k1]
  by_cases k2:v.k=2
  · have hx := f2 k2
    have e8:IntKind.u8.wrap v.n=v.n := by rw[bL]; omega
    have nO:encV (m+1) v=v.k::[v.n] := by rw[mh, ag k2]
    rw[nO]at om; simp at om
    apply G _; apply Y ((hR g2).cell 1 jM); apply G _; refine WL.push rfl rfl rfl rfl rfl rfl rfl rfl rfl rfl rfl (fun _=>rfl) rfl kK (by simp; omega) fun b3 w5 lC g3=>?_; apply G _; refine J (fin (x := [v.n]) ?_ (g2.trans g3) nO.symm); rw[BP, <-e8]; exact lC
  by_cases yG:v.k=3\/v.k=4
  · have hu := sQ 10 (xt v.n)
    have hu:(lK (xt v.n)).length<=10 := hu; rcases yG with k3|k4
    · have nO:encV (m+1) v=v.k::lK (xt v.n) := by rw[mh, aa k2, ag k3]
      rw[nO]at om; simp at om
      apply G _; apply Y ((hR g2).cell 1 jM); apply G _; apply jx func161 (Qv v.n hn w2); rintro e w2 ⟨rfl, rfl⟩; refine⟨_, rfl, ?_⟩; apply jx gq (oB (xt v.n) Lf _); rintro _ w3 ⟨b3, rfl, lC, oN, -⟩; refine⟨_, rfl, ?_⟩; refine kW (kK.below oN) lC.sl fun b4 w4 nk qF=>?_; apply G _; exact J (fin (by rw[BP]; exact nk) ((g2.below oN).trans qF) nO.symm)
    · have hx := f4 k4
      have e8:IntKind.u8.wrap v.s=v.s := by rw[bL]; omega
      have k3:¬v.k=3 := I; have nO:encV (m+1) v=v.k::(lK (xt v.n)++[v.s]) := by rw[mh, aa k2, aa k3, ag k4]
      rw[nO]at om; simp at om
      apply G _; apply Y ((hR g2).cell 1 jM); apply G _; apply jx func161 (Qv v.n hn w2); rintro e w2 ⟨rfl, rfl⟩; refine⟨_, rfl, ?_⟩; apply jx gq (oB (xt v.n) Lf _); rintro _ w3 ⟨b3, rfl, lC, oN, -⟩; refine⟨_, rfl, ?_⟩; refine kW (kK.below oN) lC.sl fun b4 w4 nk qF=>?_; have g4 := (g2.below oN).trans qF; apply G _; apply Y ((hR g4).cell 2 jM); apply G _; refine WL.push rfl rfl rfl rfl rfl rfl rfl rfl rfl rfl rfl (fun _=>rfl) rfl nk (by simp; omega) fun b5 w7 qv g5=>?_; apply G _; refine J (fin (x := lK (xt v.n)++[v.s]) ?_ (g4.trans g5) nO.symm); rw[BP, <-av, <-e8]; exact qv
  have k3:¬v.k=3 := I; have k4:¬v.k=4 := I
  by_cases k5:v.k=5
  · have hx := f5 k5
    have e8:IntKind.u64.wrap v.n=(v.n.toNat:Int) := by rw[aS]; omega
    have nO:encV (m+1) v=v.k::lK v.n.toNat := by rw[mh, aa k2, aa k3, aa k4, ag k5]
    have hu:(lK v.n.toNat).length<=10 := sQ 10 _; rw[nO]at om; simp at om
    apply G _; apply Y ((hR g2).cell 1 jM); apply G _; apply WL.call rfl rfl rfl rfl rfl gq rfl jG (by rw[e8]; exact oB v.n.toNat I _); rintro _ w3 ⟨b3, rfl, lC, oN, -⟩; refine⟨_, rfl, ?_⟩; refine kW (kK.below oN) lC.sl fun b4 w4 nk qF=>?_; apply G _; exact J (fin (by rw[BP]; exact nk) ((g2.below oN).trans qF) nO.symm)
  by_cases DJ:v.k=6\/v.k=7
  · have nO:encV (m+1) v=v.k::(lK v.t.size++yI v.t) := by rw[mh, aa k2, aa k3, aa k4, aa k5, ag DJ]
    have uR := u_ v.t; rw[nO]at om; simp only[ak, af]at om; rcases DJ with k6|k7
    all_goals
      apply G _; apply Y ((hR g2).cell 3 jM); apply WL.call rfl rfl rfl rfl rfl func162 rfl jG (Og kK I); rintro _ w3 ⟨b3, rfl, lC, g3⟩; refine⟨_, rfl, ?_⟩; apply G _; exact J (fin (by rw[BP]; exact lC) (g2.trans g3) nO.symm)
  have Od:v.k=8\/v.k=9 := I; obtain⟨sp, cap, rfl, vg, qn, kF⟩ := uC; have nO:encV (m+1) v=v.k::(lK v.kids.length++(List.range v.kids.length).flatMap (mQ (encV m) (decide (v.k=9)) v.names v.kids)) := by rw[mh, aa k2, aa k3, aa k4, aa k5, aa DJ, ag Od]
  rw[nO]at om; simp only[ak, af]at om; have Fw:∀j, j<v.kids.length->chk m (v.kids.getD j mM)=0 := fun j hj=>qB hc hj; have round:∀i, i+1<=v.kids.length->((List.range i).flatMap (mQ (encV m) (decide (v.k=9)) v.names v.kids)).length+(mQ (encV m) (decide (v.k=9)) v.names v.kids i).length<=((List.range v.kids.length).flatMap (mQ (encV m) (decide (v.k=9)) v.names v.kids)).length := fun i hi=>by
    have := wX (mQ (encV m) (decide (v.k=9)) v.names v.kids) hi; rw[mF, af]at this; exact this
  have eK:IntKind.u64.wrap (v.kids.length:Int)=((v.kids.length:Nat):Int) := by rw[aS]; omega
  have huk:(lK v.kids.length).length<=10 := sQ 10 _; have R3:∀x, l++v.k::(lK v.kids.length++x)=(L++lK v.kids.length)++x := fun x=>by rw[BP, av]
  rcases Od with k8|k9
  · rw[show decide (v.k=9)=false from ar I]at nO om round
    apply G _; apply Y ((hR g2).cell 5 jM); apply G _; apply WL.call rfl rfl rfl rfl rfl gq rfl jG (by rw[eK]; exact oB v.kids.length I _); rintro _ w3 ⟨b3, rfl, lC, oN, -⟩; refine⟨_, rfl, ?_⟩; refine kW (kK.below oN) lC.sl fun b4 w4 nk qF=>?_; have g4 := (g2.below oN).trans qF; have HZ:(L++lK v.kids.length).length=L.length+(lK v.kids.length).length := af; generalize L++lK v.kids.length=M at nk R3 HZ; apply G _; refine WC.loop (fun i:Nat×Value=>[(0, i.2), (3, jV g), (5, Iq i.1)])
      (fun i w'=>i.1<=v.kids.length/\Bu w' i.2 (M++(List.range i.1).flatMap (mQ (encV m) false v.names v.kids))/\kX w1 b w' i.2) (fun i=>v.kids.length - i.1) (0, b4)
      kz ⟨ay _, by simpa using nk, g4⟩ ?_
    rintro⟨i, br⟩ wr ⟨hi, lx, nB⟩; simp only at hi lx nB ⊢; apply G _; apply Y ((hR nB).cell 5 jM)
    by_cases kt:i<v.kids.length
    · obtain⟨kb, ko, rfl, qp, lP⟩ := kF I
      obtain⟨c, oh, qw, nW⟩ := lP i kt; have DM := round i kt; apply G _; apply Y ((hR nB).cell 0 jM); have DU:mQ (encV m) false v.names v.kids i=encV m (v.kids.getD i mM) := rfl; rw[DU]at DM; apply G _; apply Y ((hR nB).cell 5 jM); apply G _; apply jQ i (ko+i*6) kt; have Th := J5.grow nB; apply jy (fun j u hu=>(Th.below.cell (p := Aq kb (ko+i*6+j)) qp).trans (nW j u hu)) oh; apply jx func151 (ih (w0 := w0) qw (Fw i kt) lx Th (by rw[af]; omega)); rintro _ w6 ⟨b6, rfl, tD, G2⟩; refine⟨_, rfl, ?_⟩; apply G _; refine WQ.again (i+1, b6) kz ⟨kt, ?_, nB.trans G2⟩ (by show v.kids.length - (i+1)<v.kids.length - i; omega)
      show Bu w6 b6 (M++(List.range (i+1)).flatMap _)
      rw[mF, DU]
      simpa[av] using tD
    · obtain rfl:i=v.kids.length := I
      apply G _; exact J (fin (by rw[R3]; exact lx) nB nO.symm)
  · rw[show decide (v.k=9)=true from aw k9]at nO om round
    obtain⟨np, nc, rfl, nl, LQ, Ag, nr⟩ := rV; have hnk := (f9 k9).1; apply G _; apply Y ((hR g2).cell 5 jM); apply G _; apply WL.call rfl rfl rfl rfl rfl gq rfl jG (by rw[eK]; exact oB v.kids.length I _); rintro _ w3 ⟨b3, rfl, lC, oN, -⟩; refine⟨_, rfl, ?_⟩; refine kW (kK.below oN) lC.sl fun b4 w4 nk qF=>?_; have g4 := (g2.below oN).trans qF; have HZ:(L++lK v.kids.length).length=L.length+(lK v.kids.length).length := af; generalize L++lK v.kids.length=M at nk R3 HZ; apply G _; refine WC.loop (fun i:Nat×Value=>[(0, i.2), (3, jV g), (5, Iq i.1)])
      (fun i w'=>i.1<=v.kids.length/\Bu w' i.2 (M++(List.range i.1).flatMap (mQ (encV m) true v.names v.kids))/\kX w1 b w' i.2) (fun i=>v.kids.length - i.1) (0, b4)
      kz ⟨ay _, by simpa using nk, g4⟩ ?_
    rintro⟨i, br⟩ wr ⟨hi, lx, nB⟩; simp only at hi lx nB ⊢; apply G _; apply Y ((hR nB).cell 5 jM)
    by_cases kt:i<v.kids.length
    · obtain⟨kb, ko, rfl, qp, lP⟩ := kF I
      obtain⟨c, oh, qw, nW⟩ := lP i kt; have DM := round i kt; apply G _; apply Y ((hR nB).cell 0 jM); obtain⟨nb, no, rfl, tX, I_⟩ := nr I; have sM := I_ i I; have DU:mQ (encV m) true v.names v.kids i=(lK (v.names.getD i kZ).size++yI (v.names.getD i kZ))++encV m (v.kids.getD i mM) := rfl; rw[DU]at DM; have uR := u_ (v.names.getD i kZ); have SK:(lK (v.names.getD i kZ).size).length<=10 := sQ 10 _; have Ou:(v.names.getD i kZ).size<=40 := (f9 k9).2 _ (by simp[show i<v.names.length by omega]); simp only[af]at DM; have uT := J5.grow nB; apply G _; apply Y ((hR nB).cell 4 jM); apply G _; apply WL.idx i (no+i) rfl rfl rfl rfl rfl rfl rfl rfl I I; apply Y ((uT.below.cell (p := Aq nb (no+i)) tX).trans sM); apply WL.call rfl rfl rfl rfl rfl func162 rfl jG (Og lx (by rw[af]; omega)); rintro _ w5 ⟨b5, rfl, qv, DO⟩; refine⟨_, rfl, ?_⟩; have g5 := nB.trans DO; apply G _; apply Y ((hR g5).cell 5 jM); apply G _; apply jQ i (ko+i*6) kt; have Th := J5.grow g5; apply jy (fun j u hu=>(Th.below.cell (p := Aq kb (ko+i*6+j)) qp).trans (nW j u hu)) oh; apply jx func151 (ih (w0 := w0) qw (Fw i kt) qv Th (by rw[af, af, af]; omega)); rintro _ w6 ⟨b6, rfl, tD, G2⟩; refine⟨_, rfl, ?_⟩; apply G _; refine WQ.again (i+1, b6) kz ⟨kt, ?_, g5.trans G2⟩ (by show v.kids.length - (i+1)<v.kids.length - i; omega)
      show Bu w6 b6 (M++(List.range (i+1)).flatMap _)
      rw[mF, DU]
      simpa[av] using tD
    · obtain rfl:i=v.kids.length := I
      apply G _; exact J (fin (by rw[R3]; exact lx) nB nO.symm)
theorem Jy:∀(m:Nat) {f:Nat}{w0 w:World}{v:V}{cs:kL}{b:Value}{l:oK}, mj f w0 v cs->chk m v=0->Bu w b l->pB w0 w b->l.length+(encV m v).length<=70368744177664->
      Calls prog 151 #[b, .agg cs.toArray] w fun e w'=>∃b', e=.returned b'/\Bu w' b' (l++encV m v)/\kX w b w' b'
  | 0, _, _, _, _, _, _, _, _, h, _, _, _=>by cases h
  | m+1, _, _, _, _, _, _, _, hv, hc, hb, ha, hm=>Wt m (Jy m) hv hc hb ha hm
theorem QE {v:Value}{l:List Int}(s:ByteArray)(h:Bu w v l)(hm:l.length+(2*s.size+2)<=140737488355328):
  Calls prog 101 #[v,.string s] w fun e w'=>∃v',e=.returned v'/\Bu w' v' (l++rp s.toList)/\kX w v w' v':=by
 have nG:s.toList.length=s.size:=by rw[aJ];rfl
 apply enter (args:=[v,.string s]) func101 rfl ntmps101 rfl;apply G _;refine WL.bytesOf rfl rfl rfl rfl rfl rfl rfl rfl I fun g c w1 sF oc vL=>?_;apply G _;refine WC.loop (fun i:Nat×Value=>[(0,i.2),(8,.slice (some ⟨g,0,none⟩) s.size c),(9,.int .i64 s.size),(10,.int .i64 i.1)]) (fun i wr=>i.1<=s.size/\Bu wr i.2 (l++textP (s.toList.take i.1))/\kX w1 v wr i.2) (fun i=>s.size - i.1) (0,v)
  ⟨rfl,rfl,rfl,rfl,trivial⟩ ⟨ay _,by simpa[textP] using h.below oc,kX.refl w1 v⟩ ?_
 rintro⟨k,vv⟩ wr ⟨hk,lx,nB⟩;simp only at hk lx nB ⊢;have XJ:=sF.jA nB.1 fun b o n c e hb=>⟨hb,fun e2=>by cases e;have:=h.lt _ e2;omega⟩
 by_cases vQ:k<s.size
 ·have oR:(textP (s.toList.take k)).length<=2*k:=aU (A5 _) (by rw[aC];omega)
  have xE:s.toList.take (k+1)=s.toList.take k++[s.toList.getD k 0]:=by
   rw[aK];simp[nG,vQ]
  have htp:=UY (s.toList.take k) (s.toList.getD k 0);rw[<-xE]at htp;have Kg:=JP s vQ;generalize s.toList.getD k 0=c at htp Kg;apply G _;refine WL.alR k rfl rfl rfl rfl rfl rfl XJ rfl rfl (by rw[s_];exact vQ) fun p hp=>?_;rw[Kg]at hp;apply Y hp;apply G _;refine WL.push rfl rfl rfl rfl rfl rfl rfl rfl rfl rfl rfl (fun _=>rfl) rfl lx (by simp;omega) fun v1 w2 kK nK=>?_;apply G _;refine WC.anl rfl (fun hc=>?_) (fun hc=>?_)
  ·have yK:c=0:=df (by simpa using Int.ofNat.inj hc)
   rw[ag yK]at htp;subst yK;apply G _;refine WL.push rfl rfl rfl rfl rfl rfl rfl rfl rfl rfl rfl (fun _=>rfl) rfl kK (by simp;omega) fun v2 w3 lC oS=>?_;apply G _;refine WQ.again (k+1,v2) ⟨rfl,rfl,rfl,rfl,trivial⟩ ⟨vQ,?_,(nB.trans nK).trans oS⟩ (by show s.size - (k+1)<s.size - k;omega);rw[htp]
   simpa using lC
  ·rw[aa (fun e=>hc (by rw[e];rfl))]at htp
   apply G _;refine WQ.again (k+1,v1) ⟨rfl,rfl,rfl,rfl,trivial⟩ ⟨vQ,?_,nB.trans nK⟩ (by show s.size - (k+1)<s.size - k;omega);rw[htp,<-av];exact kK
 ·obtain rfl:k=s.size:=I
  have oR:(textP (s.toList.take s.size)).length<=2*s.size:=aU (A5 _) (by rw[aC];omega);apply G _;refine WL.push rfl rfl rfl rfl rfl rfl rfl rfl rfl rfl rfl (fun _=>rfl) rfl lx (by simp;omega) fun v1 w2 kK nK=>?_;apply G _;refine J ⟨_,rfl,?_,?_⟩
  ·rw[<-nG,aN]at kK
   unfold rp;rw[<-av];exact kK
  ·exact((kX.refl w v).below oc).trans (nB.trans nK)
theorem Z1 (h:x=y): Ending.returned (.int .u8 x)=.returned (.int .u8 y):=by rw[h]
theorem Xx (k:Int)(w:World)(h1:1<=k)(h9:k<=9):
  Calls prog 98 #[Iq k] w fun e w'=>e=.returned (.int .u8 (oy k))/\w=w':=by
 apply kq func98 ntmps98;have W8:((2 ^ min 4 IntKind.i64.bits:Nat):Int)=16:=rfl
 by_cases h4:k<=4
 ·have he:k=1\/k=2\/k=3\/k=4:=I
  rcases he with rfl|rfl|rfl|rfl
  all_goals
   apply G _;exact WQ.so rfl rfl ⟨Z1 lZ,rfl⟩
 ·apply G _
  refine J ⟨Z1 ?_,rfl⟩;rw[W8,bN _ I,bL];unfold oy;rw[aa I,aa h4];omega
theorem Mk (v:Int)(w:World)(_h0:0<=v):
  Calls prog 131 #[.int .u32 v] w fun e w'=>∃b,e=.returned b/\Bu w' b (Ce v)/\jP w w'/\∀g,b.ownBlock=some g->w.heap.size<=g:=by
 apply kq func131 ntmps131;apply G _;refine WL.lit rfl rfl rfl rfl rfl rfl rfl fun b w' hb h1 h2=>?_;apply G _;refine J ⟨b,rfl,?_,h1,h2⟩;simp only[bL]at hb;exact hb
theorem aeA (v:Int)(w:World)(h0:0<=v)(hv:v<18446744073709551616):
  Calls prog 100 #[.int .u64 v] w fun e w'=>∃b,e=.returned b/\Bu w' b (GX v)/\jP w w'/\∀g,b.ownBlock=some g->w.heap.size<=g:=by
 apply kq func100 ntmps100;have e1:IntKind.u32.wrap (v / ((2 ^ min 32 IntKind.u64.bits:Nat):Int))=v / 4294967296:=by
  rw[show((2 ^ min 32 IntKind.u64.bits:Nat):Int)=4294967296 from rfl,IntKind.wrap_u32];omega
 have e2:=IntKind.wrap_u32 v;apply G _;apply WL.call rfl rfl rfl rfl rfl func131 rfl jG (by rw[e1];exact Mk _ w I);rintro e w1 ⟨b1,rfl,oc,k1,g1⟩;refine⟨b1,rfl,?_⟩;apply G _;apply WL.call rfl rfl rfl rfl rfl func131 rfl jG (by rw[e2];exact Mk _ w1 I);rintro e w2 ⟨b2,rfl,kK,k2,g2⟩;refine⟨b2,rfl,?_⟩;refine kW (hb:=(by simp[Ce])) (oc.below k2) kK.sl fun b w3 hb gr=>?_;apply G _;refine J ⟨b,rfl,hb,?_,?_⟩
 ·exact(k1.kj k2).trans (gr.old (aU k1.size k2.size) g1)
 ·exact gr.own (aU k1.size k2.size) g1
theorem adv (x:Int): IntKind.i8.wrap x=(x+128) % 256 - 128:=by simp[IntKind.wrap,IntKind.bits,IntKind.signed];omega
theorem agw (a:Int)(h0:0<=a)(h1:a<=255): bits .xor .u8 (if IntKind.u8.signed=true then -1 else IntKind.u8.max) a=255 - a:=by
 have h:∀x:Fin 256,bits .xor .u8 (if IntKind.u8.signed=true then -1 else IntKind.u8.max) (x.val:Int)=255 - (x.val:Int):=by decide +kernel
 have:=h ⟨a.toNat,I⟩
 simpa[Int.toNat_of_nonneg h0] using this
theorem UI (x s:Int)(w:World)(OG:-9223372036854775808<=x)(hx1:x<=9223372036854775807)(hs0:0<=s)(sF:s<=18):
  Calls prog 99 #[Iq x,Iq s] w fun e w'=>∃b,e=.returned b/\Bu w' b (zK x s)/\jP w w'/\∀g,b.ownBlock=some g->w.heap.size<=g:=by
 apply kq func99 ntmps99
 by_cases h0:x=0
 ·subst h0
  apply G _;refine WL.lit rfl rfl rfl rfl rfl rfl rfl fun b w' hb h1 h2=>?_;apply G _;exact J ⟨b,rfl,hb,h1,h2⟩
 ·have h0x:=h0
  have hu:x.natAbs<=9223372036854775808:=I;obtain⟨u,hue⟩:∃u,x.natAbs=u:=⟨_,rfl⟩;rw[hue]at hu;have hu0:¬u=0:=I;have e1:x<0->IntKind.u64.wrap (0 - IntKind.u64.wrap x)=(u:Int):=fun h=>by rw[aS,aS];omega
  have e2:¬x<0->IntKind.u64.wrap x=(u:Int):=fun h=>by rw[aS];omega
  apply G _;refine WC.tn (fun _:Unit=>[(0,Iq x),(1,Iq s),(5,.int .u64 u)]) (fun _ w'=>w=w') rfl ?_ ?_
  ·by_cases hn:x<0
   ·apply WC.sE rfl hn
    apply G _;exact WQ.meet () ⟨rfl,rfl,congrArg (fun z=>some (Value.int .u64 z)) (e1 hn),trivial⟩ rfl
   ·apply WC.q_ rfl hn
    apply G _;exact WQ.meet () ⟨rfl,rfl,congrArg (fun z=>some (Value.int .u64 z)) (e2 hn),trivial⟩ rfl
  clear e1 e2;rintro _ _ rfl;apply G _;refine WC.loop (fun i:Nat×Nat×List Nat×Value=>[(0,Iq x),(5,.int .u64 i.2.1),(6,Iq (i.2.2.1.length - s)),(7,i.2.2.2)])
   (fun i w'=>(mV u=i.2.2.1++digsF i.1 i.2.1/\i.1+i.2.2.1.length=20/\i.2.1<10 ^ i.1/\i.2.1<=u)/\Bu w' i.2.2.2 ((nzs i.2.2.1).map fun d:Nat=>(d:Int)+1)/\jP w w'/\∀g,i.2.2.2.ownBlock=some g->w.heap.size<=g)
   (fun i=>i.2.1) (20,u,[],kP) ⟨rfl,rfl,congrArg (fun z=>some (Iq z)) jM,rfl,trivial⟩ ⟨⟨rfl,rfl,by show u<10 ^ 20;omega,aj _⟩,Bu.nil w,Below.refl _ _,fun g hg=>by cases hg⟩ ?_
  rintro⟨f,c,A,b⟩ wr ⟨⟨hA,hf,hc,Ku⟩,hb,lG,jW⟩;simp only at hA hf hc Ku hb lG jW ⊢;have j6:=yp 20 u
  by_cases h0:c=0
  ·subst h0
   have hAu:A=mV u:=by rw[hA];cases f<;>simp[digsF]
   have lM:(mV u).length<=20:=uu 20 u;have WE:=Bi (mV u);subst hAu;clear hA hf hc Ku;have e14:IntKind.u8.wrap (IntKind.u8.wrap (IntKind.i8.wrap (((mV u).length:Int) - s))+192)=(((mV u).length:Int) - s+192) % 256:=by
    rw[bL,bL,adv];omega
   apply G _;refine WL.lit rfl rfl rfl rfl rfl rfl rfl fun b0 w1 Dm k0 g0=>?_;rw[e14]at Dm;have Bb:(List.map (fun d:Nat=>(d:Int)+1) (nzs (mV u))).length=(nzs (mV u)).length:=aB _;have at2:JG (mV u)=(List.map (fun d:Nat=>(d:Int)+1) (nzs (mV u))).reverse:=by unfold JG;rw[List.map_reverse]
   have hpos:zM (mV u) s=(((mV u).length:Int) - s+192) % 256::(List.map (fun d:Nat=>(d:Int)+1) (nzs (mV u))).reverse++[0]:=by unfold zM;rw[at2]
   have hpr:=DB u s;have oR:=Qy u s;generalize hR:List.map (fun d:Nat=>(d:Int)+1) (nzs (mV u))=R at hb Bb hpos;generalize hH:(((mV u).length:Int) - s+192) % 256=H at Dm hpos;obtain⟨sp,cc,rfl,-,-⟩:=hb.form;apply G _;refine WC.loop (fun i:Nat×Value=>[(0,Iq x),(7,.slice sp R.length cc),(9,i.2),(10,Iq ((i.1:Int) - 1))])
    (fun i w'=>i.1<=R.length/\Bu w' i.2 (H::(R.drop i.1).reverse)/\jP wr w'/\∀g,i.2.ownBlock=some g->wr.heap.size<=g)
    (fun i=>i.1) (R.length,b0) kz ⟨aj _,by simpa using Dm,k0,g0⟩ ?_
   rintro⟨k,vv⟩ wr2 ⟨hk,kK,yL,tS⟩;simp only at hk kK yL tS ⊢
   by_cases I5:k=0
   ·subst I5
    apply G _;refine WL.push rfl rfl rfl rfl rfl rfl rfl rfl rfl rfl rfl (fun _=>rfl) rfl kK (by simp;omega) fun v3 w3 lC oS=>?_;have aay:Bu w3 v3 (zM (mV u) s):=by rw[hpos];simpa using lC
    have AA:=(lG.kj yL).trans (oS.old (aU lG.size yL.size) fun g hg=>aU lG.size (tS g hg));have N8:=oS.own (aU lG.size yL.size) fun g hg=>aU lG.size (tS g hg);clear lC;apply G _
    by_cases hn:x<0
    ·apply WC.sE rfl hn
     generalize hF:zM (mV u) s=F at aay hpr oR;obtain⟨Xt,c3,rfl,-,-⟩:=aay.form;apply G _;refine WC.loop (fun k:Nat=>[(9,.slice Xt F.length c3),(69,.slice Xt F.length c3),(70,Iq F.length),(71,Iq k)])
      (fun k w'=>k<=F.length/\Bu w' (.slice Xt F.length c3) (rN (F.take k)++F.drop k)/\jP w w') (fun k=>F.length - k) 0 kz ⟨ay _,by simpa[rN] using aay,AA⟩ ?_
     rintro k wr3 ⟨hk,nk,xD⟩;have yt:(rN (F.take k)++F.drop k).length=F.length:=by simp[rN];omega
     by_cases Sb:k<F.length
     ·obtain⟨g,c',hv,hog,FC,ud,ql⟩:=nk.at (j:=k) (by rw[yt];exact Sb)
      obtain rfl:Xt=some (Aq g 0):=by injection hv
      have kv:F.drop k=nth F k::F.drop (k+1):=by
       rw[bI Sb];simp[nth,Sb]
      have oH:(rN (F.take k)).length=k:=by simp[rN];omega
      have hnk:nth (rN (F.take k)++F.drop k) k=nth F k:=by
       rw[kv];unfold nth;rw[ah,aE I,oH];simp
      have BV:=hpr (nth F k) (by unfold nth;rw[ah,ai Sb];exact aH Sb);have hfp:=agw (nth F k) BV.1 BV.2;rw[hnk]at FC;have uw:=ql (255 - nth F k);apply G _;apply jQ (hq:=I) k k Sb;apply Y FC;apply G _;apply jQ (hq:=I) k k Sb;refine WL.store (v:=.int .u8 (255 - nth F k)) rfl rfl rfl rfl (congrArg (fun z=>some (Value.int .u8 z)) hfp) rfl (by kernel_rfl) FC ud ?_;apply G _;refine WQ.again (k+1) kz ⟨Sb,?_,xD.trans (uw.2.old xD.size fun g2 nK=>N8 g2 nK)⟩ (by show F.length - (k+1)<F.length - k;omega);have he:(rN (F.take k)++F.drop k).set k (255 - nth F k)=rN (F.take (k+1))++F.drop (k+1):=by
       rw[kv,dj _ _ I,oH,gE,eI];have:F.take (k+1)=F.take k++[nth F k]:=by
        rw[aK];simp[nth,Sb]
       rw[this];simp[rN]
      rw[he]at uw;exact uw.1
     ·obtain rfl:k=F.length:=I
      apply G _;refine J ⟨_,rfl,?_,xD,N8⟩;unfold zK;rw[aa h0x,ag hn,hue,hF]
      simpa using nk
    ·apply WC.q_ rfl hn
     apply G _;refine J ⟨_,rfl,?_,AA,N8⟩;unfold zK;rw[aa h0x,aa hn,hue];exact aay
   ·obtain⟨k,rfl⟩:∃k',k=k'+1:=⟨k - 1,I⟩
    apply G _;refine WL.alR k rfl rfl rfl rfl rfl rfl (hb.sl.jw yL) rfl I I fun p hp=>?_;apply Y hp;refine WL.push rfl rfl rfl rfl rfl rfl rfl rfl rfl rfl rfl (fun _=>rfl) rfl kK (by simp;omega) fun v3 w3 lC oS=>?_;apply G _;refine WQ.again (k,v3) ⟨rfl,rfl,rfl,congrArg (fun z=>some (Iq z)) jM,trivial⟩ ⟨by show k<=R.length;omega,?_,yL.trans (oS.old yL.size tS),oS.own yL.size tS⟩ (by show k<k+1;omega);have kv:R.drop k=nth R k::R.drop (k+1):=by
     rw[bI I];simp[nth,show k<R.length by omega]
    show Bu w3 v3 (H::(R.drop k).reverse)
    rw[kv,ia];exact lC
  ·obtain⟨f,rfl⟩:∃f',f=f'+1:=⟨f - 1,by cases f with|zero=>simp at hc;omega|succ f=>rfl⟩
   have vP:digsF (f+1) c=c % 10::digsF f (c / 10):=by rw[digsF,aa h0]
   have hA2:mV u=(A++[c % 10])++digsF f (c / 10):=by rw[hA,vP];simp
   have rY:=aca A (c % 10);have WE:=Bi A;have arI:c / 10<10 ^ f:=by rw[dx]at hc;omega
   have hw:IntKind.u8.wrap ((c:Int).tmod 10)=((c % 10:Nat):Int):=by
    rw[bL,Int.tmod_eq_emod_of_nonneg I];omega
   have TV:IntKind.u8.wrap (IntKind.u8.wrap ((c:Int).tmod 10)+1)=((c % 10:Nat):Int)+1:=by rw[hw,bL];omega
   have hq:IntKind.u64.wrap ((c:Int).tdiv 10)=((c / 10:Nat):Int):=by
    rw[aS,fh I];omega
   have hlm:(List.map (fun d:Nat=>(d:Int)+1) (nzs A)).length=(nzs A).length:=aB _;obtain⟨sp,cc,rfl,-,-⟩:=hb.form;have fin:∀b w',Bu w' b ((nzs (A++[c % 10])).map fun d:Nat=>(d:Int)+1)->jP w w'->(∀g,b.ownBlock=some g->w.heap.size<=g)->(mV u=(A++[c % 10])++digsF f (c / 10)/\f+(A++[c % 10]).length=20/\c / 10<10 ^ f/\c / 10<=u)/\Bu w' b ((nzs (A++[c % 10])).map fun d:Nat=>(d:Int)+1)/\jP w w'/\∀g,b.ownBlock=some g->w.heap.size<=g :=
    fun b w' h1 h2 h3=>⟨⟨hA2,by simp;omega,arI,I⟩,h1,h2,h3⟩
   have e6:(A.length:Int) - s+1=((A++[c % 10]).length:Int) - s:=by simp;omega
   by_cases hd:c % 10=0
   ·by_cases hz:nzs A=[]
    ·have Xr:(nzs A).length=0:=by rw[hz];rfl
     rw[hz,ag rfl,ag hd]at rY;apply G _;refine WQ.again (f,c / 10,A++[c % 10],_) ⟨rfl,congrArg (fun z=>some (Value.int .u64 z)) hq,congrArg (fun z=>some (Iq z)) e6,rfl,trivial⟩ (fin _ _ ?_ lG jW) (by show c / 10<c;omega);rw[rY,<-hz];exact hb
    ·have Xr:0<(nzs A).length:=by cases hl:nzs A with|nil=>exact(hz hl).elim|cons a r=>simp
     rw[aa hz]at rY;apply G _;refine WL.push rfl rfl rfl rfl rfl rfl rfl rfl rfl rfl rfl (fun _=>rfl) rfl hb (by simp;omega) fun v3 w3 lC oS=>?_;apply G _;refine WQ.again (f,c / 10,A++[c % 10],v3) ⟨rfl,congrArg (fun z=>some (Value.int .u64 z)) hq,congrArg (fun z=>some (Iq z)) e6,rfl,trivial⟩ (fin _ _ ?_ (lG.trans (oS.old lG.size jW)) (oS.own lG.size jW)) (by show c / 10<c;omega);rw[rY,aV];rw[TV]at lC;exact lC
   ·have aru:nzs (A++[c % 10])=nzs A++[c % 10]:=by
     rw[rY]
     by_cases hz:nzs A=[]
     ·rw[ag hz,aa hd,hz];rfl
     ·rw[aa hz]
    apply G _;refine WL.push rfl rfl rfl rfl rfl rfl rfl rfl rfl rfl rfl (fun _=>rfl) rfl hb (by simp;omega) fun v3 w3 lC oS=>?_;apply G _;refine WQ.again (f,c / 10,A++[c % 10],v3) ⟨rfl,congrArg (fun z=>some (Value.int .u64 z)) hq,congrArg (fun z=>some (Iq z)) e6,rfl,trivial⟩ (fin _ _ ?_ (lG.trans (oS.old lG.size jW)) (oS.own lG.size jW)) (by show c / 10<c;omega);rw[aru,aV];rw[TV]at lC;exact lC
theorem ab9 {v:V}: keyV (m+1) v=oy v.k::
    (if v.k=2 then[v.n] else if v.k=3\/v.k=4 then zK v.n v.s else if v.k=5 then GX v.n else if v.k=6\/v.k=7 then rp v.t.toList
     else if v.k=8\/v.k=9 then(List.range v.kids.length).flatMap (oT (keyV m) (decide (v.k=9)) v.names v.kids)++[0] else[]) := rfl
theorem CY (m:Nat) (ih:∀ {f:Nat}{w0 w:World}{v:V}{cs:kL}{b:Value}{l:oK}, mj f w0 v cs->chk m v=0->Bu w b l->pB w0 w b->l.length+(keyV m v).length<=70368744177664->
      Calls prog 66 #[b, .agg cs.toArray] w fun e w'=>∃b', e=.returned b'/\Bu w' b' (l++keyV m v)/\kX w b w' b') {v:V}{l:oK}(hv:mj f w0 v cs) (hc:chk (m+1) v=0) (hb:Bu w b l) (ha:pB w0 w b) (hm:l.length+(keyV (m+1) v).length<=70368744177664):
    Calls prog 66 #[b, .agg cs.toArray] w fun e w'=>∃b', e=.returned b'/\Bu w' b' (l++keyV (m+1) v)/\kX w b w' b' := by
  obtain⟨hk, f2, f3, f4, f5, fk, ft, f9⟩ := rz (qe hc); cases f with
  | zero=>exact hv.elim
  | succ f=>
  obtain⟨sn, sk, rfl, wk, wn, ws, -, rV, uC⟩ := hv; have mh := ab9 (m := m) (v := v); rw[mh]at hm; have hn:-9223372036854775808<=v.n/\v.n<=9223372036854775807 := by simp[Lit.wf, IntKind.min, IntKind.max, IntKind.bits, IntKind.signed]at wn; omega
  apply kq (args := [b, .agg (mR v sn sk).toArray]) func66 ntmps66; apply G _; refine jO fun g w1 hf=>?_; have lj:kJ w g w1 25 (mR v sn sk) := hf; clear hf; have oc := hb.below lj.below; have vL := (kX.refl w b).below lj.below; have J5 := ha.grow vL; have hR:∀ {wk vk}, kX w1 b wk vk->U 25 wk g (mR v sn sk) := fun h=>lj.Sy hb h; have uE:l.length+1<=70368744177664 := by simp at hm; omega
  apply G _; apply Y ((hR (kX.refl _ _)).cell 0 jM); apply jx func98 (Xx v.k w1 hk.1 hk.2); rintro e _ ⟨rfl, rfl⟩; refine⟨_, rfl, ?_⟩; refine WL.push rfl rfl rfl rfl rfl rfl rfl rfl rfl rfl rfl (fun _=>rfl) rfl oc (by simp; omega) fun b2 w2 kK nK=>?_; apply G _; apply Y ((hR nK).cell 0 jM); have fin:∀ {b' w' x}, Bu w' b' ((l++[oy v.k])++x)->kX w1 b w' b'->(oy v.k::x=keyV (m+1) v)->∃F_, Ending.returned b'=.returned F_/\Bu w' F_ (l++keyV (m+1) v)/\kX w b w' F_ :=
    fun {b' w' x} h1 h2 h3=>⟨b', rfl, by rw[<-h3]; simpa using h1, vL.trans h2⟩
  have sL:(l++[oy v.k]).length=l.length+1 := jM; generalize hL:l++[oy v.k]=L at kK fin sL; have om:L.length+(keyV (m+1) v).length<=70368744177664+1 := by rw[mh]; simp at hm ⊢; omega
  by_cases k1:v.k=1
  · apply G _
    refine J (fin (x := []) (by simpa using kK) nK ?_); rw[mh]; simp[k1]
  by_cases k2:v.k=2
  · have hx := f2 k2
    have e8:IntKind.u8.wrap v.n=v.n := by rw[bL]; omega
    have nO:keyV (m+1) v=oy v.k::[v.n] := by rw[mh, ag k2]
    rw[nO]at om; simp at om
    apply G _; apply Y ((hR nK).cell 1 jM); apply G _; refine WL.push rfl rfl rfl rfl rfl rfl rfl rfl rfl rfl rfl (fun _=>rfl) rfl kK (by simp; omega) fun b3 w3 lC oS=>?_; apply G _; refine J (fin (x := [v.n]) ?_ (nK.trans oS) nO.symm); rw[<-e8]; exact lC
  by_cases yG:v.k=3\/v.k=4
  · have hs:0<=v.s/\v.s<=18 := by
      rcases yG with h|h
      · have := f3 h; omega
      · have := f4 h; omega
    have nO:keyV (m+1) v=oy v.k::zK v.n v.s := by rw[mh, aa k2, ag yG]
    rw[nO]at om; simp at om
    rcases yG with k3|k4
    all_goals
      apply G _; apply Y ((hR nK).cell 1 jM); apply G _; apply Y ((hR nK).cell 2 jM); apply jx func99 (UI v.n v.s w2 hn.1 hn.2 hs.1 hs.2); rintro e w3 ⟨b3, rfl, lC, k3, g3⟩; refine⟨_, rfl, ?_⟩; refine kW (kK.below k3) lC.sl fun b4 w4 nk qF=>?_; apply G _; exact J (fin nk (nK.trans (((kX.refl w2 b2).below k3).trans qF)) nO.symm)
  by_cases k5:v.k=5
  · have hx := f5 k5
    have e8:IntKind.u64.wrap v.n=v.n := by rw[aS]; omega
    have nO:keyV (m+1) v=oy v.k::GX v.n := by rw[mh, aa k2, aa yG, ag k5]
    rw[nO]at om; simp at om
    apply G _; apply Y ((hR nK).cell 1 jM); apply G _; apply WL.call rfl rfl rfl rfl rfl func100 rfl jG (by rw[e8]; exact aeA v.n w2 hx.1 I); rintro e w3 ⟨b3, rfl, lC, k3, g3⟩; refine⟨_, rfl, ?_⟩; refine kW (kK.below k3) lC.sl fun b4 w4 nk qF=>?_; apply G _; exact J (fin nk (nK.trans (((kX.refl w2 b2).below k3).trans qF)) nO.symm)
  by_cases DJ:v.k=6\/v.k=7
  · have nO:keyV (m+1) v=oy v.k::rp v.t.toList := by rw[mh, aa k2, aa yG, aa k5, ag DJ]
    have htl := A5 v.t.toList; have Y9:v.t.toList.length=v.t.size := by rw[aJ]; rfl
    rcases DJ with k6|k7
    all_goals
      apply G _; apply Y ((hR nK).cell 3 jM); apply jx func101 (QE v.t kK I); rintro e w3 ⟨b3, rfl, lC, oS⟩; refine⟨_, rfl, ?_⟩; apply G _; exact J (fin lC (nK.trans oS) nO.symm)
  have Od:v.k=8\/v.k=9 := I; obtain⟨sp, cap, rfl, vg, qn, kF⟩ := uC; have nO:keyV (m+1) v=oy v.k::((List.range v.kids.length).flatMap (oT (keyV m) (decide (v.k=9)) v.names v.kids)++[0]) := by rw[mh, aa k2, aa yG, aa k5, aa DJ, ag Od]
  rw[nO]at om; simp only[ak, af, aL]at om; have Fw:∀j, j<v.kids.length->chk m (v.kids.getD j mM)=0 := fun j hj=>qB hc hj; have round:∀i, i+1<=v.kids.length->((List.range i).flatMap (oT (keyV m) (decide (v.k=9)) v.names v.kids)).length+(oT (keyV m) (decide (v.k=9)) v.names v.kids i).length<=((List.range v.kids.length).flatMap (oT (keyV m) (decide (v.k=9)) v.names v.kids)).length := fun i hi=>by
    have := wX (oT (keyV m) (decide (v.k=9)) v.names v.kids) hi; rw[mF, af]at this; exact this
  by_cases k8:v.k=8
  · rw[show decide (v.k=9)=false from ar I]at nO om round
    generalize hT:((List.range v.kids.length).flatMap (oT (keyV m) false v.names v.kids)).length=T at om round; apply G _; apply Y ((hR nK).cell 5 jM); apply G _; refine WC.loop (fun i:Nat×Value=>[(0, i.2), (3, jV g), (52, .slice sp v.kids.length cap), (53, Iq v.kids.length), (54, Iq i.1)])
      (fun i w'=>i.1<=v.kids.length/\Bu w' i.2 (L++(List.range i.1).flatMap (oT (keyV m) false v.names v.kids))/\kX w1 b w' i.2) (fun i=>v.kids.length - i.1) (0, b2)
      kz ⟨ay _, by simpa using kK, nK⟩ ?_
    rintro⟨i, bb⟩ wr ⟨hi, lx, nB⟩; simp only at hi lx nB ⊢
    by_cases kt:i<v.kids.length
    · obtain⟨kb, ko, rfl, qp, lP⟩ := kF I
      obtain⟨c, oh, qw, nW⟩ := lP i kt; have uT := J5.grow nB; have t_:wr.rangeAt kb (ko+i*6) c := fun j u hu=>by rw[uT.below.cell (p := Aq kb (ko+i*6+j)) qp]; exact nW j u hu
      apply G _; apply jQ i (ko+i*6) kt; apply jy t_ oh; refine jJ (z := .agg #[Iq 0, Iq 0, Iq 0, .string ByteArray.empty, kP, kP]) (fun _=>jG) fun g2 w2 mK=>?_; apply G _; apply jE (hm := oh) mK.blk (mj.one qw); have lC:jP wr (w2.setRow g2 c.toArray) := below_setRow mK.below (by rw[mK.eq]; exact aj _) _; have rh:U 25 (w2.setRow g2 c.toArray) g2 c := mK.blk.setRow c; generalize w2.setRow g2 c.toArray=w3 at lC rh; have oS := nB.below lC; apply G _; apply Y ((hR oS).cell 0 jM); apply G _; apply jy (U.rangeAt rh) oh; have DU:oT (keyV m) false v.names v.kids i=keyV m (v.kids.getD i mM) := rfl; have DM := round i kt; rw[DU]at DM; apply jx func66 (ih (w0 := w0) qw (Fw i kt) (lx.below lC) (J5.grow oS) (by rw[af]; omega)); rintro e w4 ⟨b4, rfl, nk, qF⟩; refine⟨_, rfl, ?_⟩; apply G _; refine WQ.again (i+1, b4) kz ⟨kt, ?_, oS.trans qF⟩ (by show v.kids.length - (i+1)<v.kids.length - i; omega)
      show Bu w4 b4 (L++(List.range (i+1)).flatMap _)
      rw[mF, DU, <-av]; exact nk
    · obtain rfl:i=v.kids.length := I
      apply G _; refine WL.push rfl rfl rfl rfl rfl rfl rfl rfl rfl rfl rfl (fun _=>rfl) rfl lx (by rw[af]; simp only[ak, aL]; omega) fun b3 w3 lC oS=>?_; apply G _; refine J (fin ?_ (nB.trans oS) nO.symm); rw[<-av]; exact lC
  have k9:v.k=9 := I; obtain⟨np, nc, rfl, nl, LQ, Ag, nr⟩ := rV; have hnk := (f9 k9).1; rw[show decide (v.k=9)=true from aw k9]at nO om round; generalize hT:((List.range v.kids.length).flatMap (oT (keyV m) true v.names v.kids)).length=T at om round; apply G _; apply Y ((hR nK).cell 5 jM); apply G _; refine WC.loop (fun i:Nat×Value=>[(0, i.2), (3, jV g), (52, .slice sp v.kids.length cap), (53, Iq v.kids.length), (54, Iq i.1)])
    (fun i w'=>i.1<=v.kids.length/\Bu w' i.2 (L++(List.range i.1).flatMap (oT (keyV m) true v.names v.kids))/\kX w1 b w' i.2) (fun i=>v.kids.length - i.1) (0, b2)
    kz ⟨ay _, by simpa using kK, nK⟩ ?_
  rintro⟨i, bb⟩ wr ⟨hi, lx, nB⟩; simp only at hi lx nB ⊢
  by_cases kt:i<v.kids.length
  · obtain⟨kb, ko, rfl, qp, lP⟩ := kF I
    obtain⟨c, oh, qw, nW⟩ := lP i kt; obtain⟨nb, no, rfl, tX, I_⟩ := nr I; have sM := I_ i I; have hnz := Ag i I; have Ou:(v.names.getD i kZ).size<=40 := (f9 k9).2 _ (by simp[show i<v.names.length by omega]); have uT := J5.grow nB; have t_:wr.rangeAt kb (ko+i*6) c := fun j u hu=>by rw[uT.below.cell (p := Aq kb (ko+i*6+j)) qp]; exact nW j u hu
    have DM := round i kt; have DU:oT (keyV m) true v.names v.kids i=1::rp (v.names.getD i kZ).toList++keyV m (v.kids.getD i mM) := rfl; rw[DU]at DM; simp only[af, ak]at DM; apply G _; apply jQ i (ko+i*6) kt; apply jy t_ oh; refine jJ (z := .agg #[Iq 0, Iq 0, Iq 0, .string ByteArray.empty, kP, kP]) (fun _=>jG) fun g2 w2 mK=>?_; apply G _; apply jE (hm := oh) mK.blk (mj.one qw); have lC:jP wr (w2.setRow g2 c.toArray) := below_setRow mK.below (by rw[mK.eq]; exact aj _) _; have rh:U 25 (w2.setRow g2 c.toArray) g2 c := mK.blk.setRow c; have OM:∀q, bb.ownBlock=some q->q≠g2 := fun q hq e=>by have := lx.lt q hq; rw[e, mK.eq]at this; omega
    generalize w2.setRow g2 c.toArray=w3 at lC rh; have oS := nB.below lC; have art := lx.below lC; apply G _; apply Y ((hR oS).cell 0 jM); apply G _; refine WC.drawn 8 (fun wx=>jP w0 wx/\U 25 wx g (mR v (nj nb no v.names.length nc) (nj kb ko v.kids.length cap))) fun w4 Kt=>?_; have asj := J5.grow oS; have hS:jP w0 w4/\U 25 w4 g (mR v (nj nb no v.names.length nc) (nj kb ko v.kids.length cap)) := ⟨asj.below.trans (Kt.below _), (hR oS).below (Kt.below _) (hR oS).lt⟩; have nk:Bu w4 bb _ := art.below (Kt.below _); have qF := oS.below (Kt.below _); have xN := rh.below (Kt.below _) rh.lt; apply jC [0] hS _; apply jC [3] hS _; apply jz 4 [6, 7, 8] (fun wx hx=>hx.2.cell 4 jM) hS; apply jC [5] hS _; apply ss 6 i (no+i) rfl rfl rfl rfl rfl rfl rfl rfl rfl I I (.inr hS); apply jz 7 [8] (fun wx hx=>(hx.1.cell (p := Aq nb (no+i)) tX).trans sM) hS; apply jS 1; refine WL.lit rfl rfl rfl rfl rfl rfl rfl fun u5 w5 hu5 oM Wz=>?_; have Ss:jP w0 w5/\U 25 w5 g _ := ⟨hS.1.trans (oM.mono hS.1.size), hS.2.below oM hS.2.lt⟩; apply lI Ss; apply jS 2; refine kW (hb := (by rw[af]; simp only[ak, aL]; omega)) (nk.below oM) hu5.sl fun b6 w6 tD G2=>?_; have afB := (qF.below oM).trans G2; refine WL.nil (WQ.dk (.inr ⟨(J5.grow afB).below, hR afB⟩) ?_); apply jS 8; apply jx func101 (QE (v.names.getD i kZ) tD (by rw[af, af]; simp only[ak, aL]; omega)); rintro e w7 ⟨b7, rfl, y9, SP⟩; refine⟨_, rfl, ?_⟩; apply(jZ); apply jS 9; apply(jN); apply(jZ); apply(jD); have alO := afB.trans SP; have FP := ((xN.below oM xN.lt).jA (G2.trans SP).1 ⟨(xN.below oM xN.lt).lt, fun e=>OM _ e rfl⟩); have hl7:(L++(List.range i).flatMap (oT (keyV m) true v.names v.kids)++[1]++rp (v.names.getD i kZ).toList).length+(keyV m (v.kids.getD i mM)).length<=70368744177664 := by
      rw[af, af, af]; simp only[ak, aL]; omega
    apply G _; apply jy (U.rangeAt FP) oh; apply jx func66 (ih (w0 := w0) qw (Fw i kt) y9 (J5.grow alO) hl7); rintro e w8 ⟨b8, rfl, yj, p7⟩; refine⟨_, rfl, ?_⟩; apply G _; refine WQ.again (i+1, b8) kz ⟨kt, ?_, alO.trans p7⟩ (by show v.kids.length - (i+1)<v.kids.length - i; omega)
    show Bu w8 b8 (L++(List.range (i+1)).flatMap _)
    rw[mF, DU]
    simpa using yj
  · obtain rfl:i=v.kids.length := I
    apply G _; refine WL.push rfl rfl rfl rfl rfl rfl rfl rfl rfl rfl rfl (fun _=>rfl) rfl lx (by rw[af]; simp only[ak, aL]; omega) fun b3 w3 lC oS=>?_; apply G _; refine J (fin ?_ (nB.trans oS) nO.symm); rw[<-av]; exact lC
theorem Uf:∀(m:Nat) {f:Nat}{w0 w:World}{v:V}{cs:kL}{b:Value}{l:oK}, mj f w0 v cs->chk m v=0->Bu w b l->pB w0 w b->l.length+(keyV m v).length<=70368744177664->
      Calls prog 66 #[b, .agg cs.toArray] w fun e w'=>∃b', e=.returned b'/\Bu w' b' (l++keyV m v)/\kX w b w' b'
  | 0, _, _, _, _, _, _, _, _, h, _, _, _=>by cases h
  | m+1, _, _, _, _, _, _, _, hv, hc, hb, ha, hm=>CY m (Uf m) hv hc hb ha hm
open Vl (kO IG Iw DH)
theorem y7 {v:V}(h:sP v=x)(h0:¬x=0): chk (m+1) v=x:=by
 unfold chk;rw[aa (by rw[h];exact h0)];exact h
theorem Yv {v:V}(h:pS v=false): sP v=3:=by unfold sP;rw[ag h]
theorem afz (v:V): (!(v.t.toList == (ByteArray.mk #[]).toList)) = !mN v:=by
 have h0:(ByteArray.mk #[]).toList=[]:=by decide +kernel
 have hl:v.t.toList.length=v.t.size:=by rw[aJ];rfl
 rw[h0];unfold mN;cases h:v.t.toList with
 | nil=>rw[h]at hl;simp at hl;simp[<-hl]
 | cons a r=>rw[h]at hl;simp at hl;simp[<-hl]
theorem vh (h:x=y): Ending.returned (Iq x)=.returned (Iq y):=by rw[h]
theorem W9 {v:V}{d:Int}(ih:∀ {w:World}{v:V}{cs:kL}(d:Int),mj f w v cs->d=17 - (m:Int)->Calls prog 44 #[.agg cs.toArray,Iq d] w fun e w'=>e=.returned (Iq (chk m v))/\jP w w')(hd:d+1=17 - (m:Int))(hv:mj (f+1) w v cs)(_hd1:d<=16)(_hd0:0<=d):
  Calls prog 44 #[.agg cs.toArray,Iq d] w fun e w'=>e=.returned (Iq (chk (m+1) v))/\jP w w':=by
 obtain⟨sn,sk,rfl,-,TI,-,Y9,⟨np,nc,rfl,nl,LQ,Ag,nr⟩,⟨sp,cap,rfl,vg,qn,kF⟩⟩:=hv;have hn:-9223372036854775808<=v.n/\v.n<=9223372036854775807:=by simp[Lit.wf,IntKind.min,IntKind.max,IntKind.bits,IntKind.signed]at TI;omega
 clear TI;apply kq (args:=[.agg (mR v (.slice np v.names.length nc) (.slice sp v.kids.length cap)).toArray,Iq d]) func44 ntmps44;apply G _;refine jO fun g w1 hf=>?_;have hR:U 25 w1 g (mR v (.slice np v.names.length nc) (.slice sp v.kids.length cap)):=hf.blk;have lG:=hf.below;have c0:w1.cell? (Aq g 0)=some (Iq v.k):=hR.cell 0 jM;have c1:w1.cell? (Aq g 1)=some (Iq v.n):=hR.cell 1 jM;have c2:w1.cell? (Aq g 2)=some (Iq v.s):=hR.cell 2 jM;have c3:w1.cell? (Aq g 3)=some (.string v.t):=hR.cell 3 jM;have c4:w1.cell? (Aq g 4)=some (.slice np v.names.length nc):=hR.cell 4 jM;have c5:w1.cell? (Aq g 5)=some (.slice sp v.kids.length cap):=hR.cell 5 jM;clear hf;have k_:=IG v;have hB:rW v=(decide (v.n=0) && decide (v.s=0)):=rfl;have hP:m7 v=(decide (v.names.length=0) && decide (v.kids.length=0)):=rfl;have hE:=afz v;have oZ:pS v=false->Ending.returned (Iq 3)=.returned (Iq (chk (m+1) v))/\jP w w1:=fun h=>⟨vh (y7 (Yv h) lZ).symm,lG⟩;apply ur _;apply WL.as 5 (.bool (!mN v)) rfl (congrArg Value.bool hE);refine WL.tn (fun _:Unit=>[(1,Iq d),(2,jV g),(5,.bool (!mN v)),(6,.bool (!m7 v))]) (fun _ w'=>w1=w') rfl ?_ ?_
 ·by_cases hK:v.kids.length=0
  ·have hK0:¬(0:Int)<v.kids.length:=I
   apply WL.as 19 (.bool false) rfl (congrArg Value.bool (ar hK0))
   by_cases hN:v.names.length=0
   ·apply jF _
    exact WQ.meet () ⟨rfl,rfl,rfl,congrArg (fun b=>some (Value.bool b)) (by rw[hP];simp[hN,hK]),trivial⟩ rfl
   ·apply jF _
    exact WQ.meet () ⟨rfl,rfl,rfl,congrArg (fun b=>some (Value.bool b)) (by rw[hP];simp[hN]),trivial⟩ rfl
  ·have hK0:(0:Int)<v.kids.length:=I
   apply WL.as 19 (.bool true) rfl (congrArg Value.bool (aw hK0));apply jF _;exact WQ.meet () ⟨rfl,rfl,rfl,congrArg (fun b=>some (Value.bool b)) (by rw[hP];simp[hK]),trivial⟩ rfl
 rintro _ _ rfl;have Ts:pS v=true->(16384<v.t.size\/200<v.kids.length)->sP v=5:=fun h1 h2=>by unfold sP;rw[aa (by rw[h1];exact Bool.noConfusion),ag h2]
 have Fi:pS v=true->v.t.size<=16384->v.kids.length<=200->(v.k=9->n_ v=true)->sP v=0:=fun h1 h2 h3 h4=>by
  unfold sP;rw[aa (by rw[h1];exact Bool.noConfusion),aa I,aa (fun h=>by have:=h4 h.1;rw[this]at h;exact Bool.noConfusion h.2)]
 have Q3:mN v=true->v.t.size=0:=fun h=>aR h;have Up:m7 v=true->v.kids.length=0:=fun h=>by rw[hP]at h;rw[aF]at h;exact aR h.2
 clear hE hP;apply ur _;refine WC.tn (fun _:Unit=>[(1,Iq d),(2,jV g)]) (fun _ w'=>sP v=0/\jP w1 w') rfl ?_ ?_
 ·clear kF
  by_cases q:v.k=1
  ·clear nr Ag
   by_cases a1:v.n=0
   ·skip
    by_cases a2:v.s=0
    ·skip
     cases uo:mN v with
     | false=>
      rw[uo]at k_;apply jF _;exact J (oZ (by rw[k_];simp[kO, *]))
     | true=>
      rw[uo]at k_;cases wR:m7 v with
      | false=>
       rw[wR]at k_;apply jF _;exact J (oZ (by rw[k_];simp[kO, *]))
      | true=>
       rw[wR]at k_;have h0:=Fi (by rw[k_];simp[kO, *]) (by have:=Q3 uo;omega) (by have:=Up wR;omega) (fun h=>by omega);apply jF _;exact WQ.meet () kz ⟨h0,Below.refl _ _⟩
    ·skip
     apply jF _;exact J (oZ (by rw[k_];simp[kO, *]))
   ·skip
    apply jF _;exact J (oZ (by rw[k_];simp[kO, *]))
  by_cases q:v.k=2
  ·clear nr Ag
   by_cases a1:0<=v.n
   ·skip
    by_cases a2:v.n<=1
    ·skip
     have x2:v.n / 2=0:=I
     by_cases a4:v.s=0
     ·skip
      cases uo:mN v with
      | false=>
       rw[uo]at k_;apply jF _;exact J (oZ (by rw[k_];simp[kO, *]))
      | true=>
       rw[uo]at k_;cases wR:m7 v with
       | false=>
        rw[wR]at k_;apply jF _;exact J (oZ (by rw[k_];simp[kO, *]))
       | true=>
        rw[wR]at k_;have h0:=Fi (by rw[k_];simp[kO, *]) (by have:=Q3 uo;omega) (by have:=Up wR;omega) (fun h=>by omega);apply jF _;exact WQ.meet () kz ⟨h0,Below.refl _ _⟩
     ·skip
      apply jF _;exact J (oZ (by rw[k_];simp[kO, *]))
    ·skip
     have x2:¬v.n / 2=0:=I;apply jF _;exact J (oZ (by rw[k_];simp[kO, *]))
   ·skip
    have x2:¬v.n / 2=0:=I;apply jF _;exact J (oZ (by rw[k_];simp[kO, *]))
  by_cases q:v.k=3
  ·clear nr Ag
   by_cases a1:v.s=0
   ·skip
    cases uo:mN v with
    | false=>
     rw[uo]at k_;apply jF _;exact J (oZ (by rw[k_];simp[kO, *]))
    | true=>
     rw[uo]at k_;cases wR:m7 v with
     | false=>
      rw[wR]at k_;apply jF _;exact J (oZ (by rw[k_];simp[kO, *]))
     | true=>
      rw[wR]at k_;have h0:=Fi (by rw[k_];simp[kO, *]) (by have:=Q3 uo;omega) (by have:=Up wR;omega) (fun h=>by omega);apply jF _;exact WQ.meet () kz ⟨h0,Below.refl _ _⟩
   ·skip
    apply jF _;exact J (oZ (by rw[k_];simp[kO, *]))
  by_cases q:v.k=4
  ·clear nr Ag
   by_cases a1:1<=v.s
   ·skip
    by_cases a2:v.s<=18
    ·skip
     by_cases a3:¬v.n.tmod 10=0
     ·skip
      cases uo:mN v with
      | false=>
       rw[uo]at k_;apply jF _;exact J (oZ (by rw[k_];simp[kO, *]))
      | true=>
       rw[uo]at k_;cases wR:m7 v with
       | false=>
        rw[wR]at k_;apply jF _;exact J (oZ (by rw[k_];simp[kO, *]))
       | true=>
        rw[wR]at k_;have h0:=Fi (by rw[k_];simp[kO, *]) (by have:=Q3 uo;omega) (by have:=Up wR;omega) (fun h=>by omega);apply jF _;exact WQ.meet () kz ⟨h0,Below.refl _ _⟩
     ·skip
      apply jF _;exact J (oZ (by rw[k_];simp[kO, *]))
    ·skip
     apply jF _;exact J (oZ (by rw[k_];simp[kO, *]))
   ·skip
    apply jF _;exact J (oZ (by rw[k_];simp[kO, *]))
  by_cases q:v.k=5
  ·clear nr Ag
   by_cases a1:0<=v.n
   ·skip
    by_cases a2:v.n<=9007199254740992
    ·skip
     by_cases a3:v.s=0
     ·skip
      cases uo:mN v with
      | false=>
       rw[uo]at k_;apply jF _;exact J (oZ (by rw[k_];simp[kO, *]))
      | true=>
       rw[uo]at k_;cases wR:m7 v with
       | false=>
        rw[wR]at k_;apply jF _;exact J (oZ (by rw[k_];simp[kO, *]))
       | true=>
        rw[wR]at k_;have h0:=Fi (by rw[k_];simp[kO, *]) (by have:=Q3 uo;omega) (by have:=Up wR;omega) (fun h=>by omega);apply jF _;exact WQ.meet () kz ⟨h0,Below.refl _ _⟩
     ·skip
      apply jF _;exact J (oZ (by rw[k_];simp[kO, *]))
    ·skip
     apply jF _;exact J (oZ (by rw[k_];simp[kO, *]))
   ·skip
    apply jF _;exact J (oZ (by rw[k_];simp[kO, *]))
  by_cases q:v.k=6
  ·clear nr Ag
   by_cases a1:v.n=0
   ·skip
    by_cases a2:v.s=0
    ·skip
     cases wR:m7 v with
     | false=>
      rw[wR]at k_;apply jF _;exact J (oZ (by rw[k_];simp[kO, *]))
     | true=>
      rw[wR]at k_
      by_cases a3:16384<v.t.size
      ·apply jF _
       exact J ⟨vh (y7 (Ts (by rw[k_];simp[kO, *]) (.inl a3)) lZ).symm,lG⟩
      ·skip
       have h0:=Fi (by rw[k_];simp[kO, *]) I (by have:=Up wR;omega) (fun h=>by omega);apply jF _;exact WQ.meet () kz ⟨h0,Below.refl _ _⟩
    ·skip
     apply jF _;exact J (oZ (by rw[k_];simp[kO, *]))
   ·skip
    apply jF _;exact J (oZ (by rw[k_];simp[kO, *]))
  by_cases q:v.k=7
  ·clear nr Ag
   by_cases a1:v.n=0
   ·skip
    by_cases a2:v.s=0
    ·skip
     cases wR:m7 v with
     | false=>
      rw[wR]at k_;apply jF _;exact J (oZ (by rw[k_];simp[kO, *]))
     | true=>
      rw[wR]at k_
      by_cases a3:16384<v.t.size
      ·apply jF _
       exact J ⟨vh (y7 (Ts (by rw[k_];simp[kO, *]) (.inl a3)) lZ).symm,lG⟩
      ·skip
       have h0:=Fi (by rw[k_];simp[kO, *]) I (by have:=Up wR;omega) (fun h=>by omega);apply jF _;exact WQ.meet () kz ⟨h0,Below.refl _ _⟩
    ·skip
     apply jF _;exact J (oZ (by rw[k_];simp[kO, *]))
   ·skip
    apply jF _;exact J (oZ (by rw[k_];simp[kO, *]))
  by_cases q:v.k=8
  ·clear nr Ag
   by_cases a1:v.n=0
   ·skip
    by_cases a2:v.s=0
    ·skip
     cases uo:mN v with
     | false=>
      rw[uo]at k_;apply jF _;exact J (oZ (by rw[k_];simp[kO, *]))
     | true=>
      rw[uo]at k_
      by_cases a3:v.names.length=0
      ·skip
       by_cases a4:200<v.kids.length
       ·apply jF _
        exact J ⟨vh (y7 (Ts (by rw[k_];simp[kO, *]) (.inr a4)) lZ).symm,lG⟩
       have h0:=Fi (by rw[k_];simp[kO, *]) (by have:=Q3 uo;omega) I (fun h=>by omega);apply jF _;exact WQ.meet () kz ⟨h0,Below.refl _ _⟩
      ·skip
       apply jF _;exact J (oZ (by rw[k_];simp[kO, *]))
    ·skip
     apply jF _;exact J (oZ (by rw[k_];simp[kO, *]))
   ·skip
    apply jF _;exact J (oZ (by rw[k_];simp[kO, *]))
  by_cases q:v.k=9
  ·skip
   by_cases a1:v.n=0
   ·skip
    by_cases a2:v.s=0
    ·skip
     cases uo:mN v with
     | false=>
      rw[uo]at k_;apply jF _;exact J (oZ (by rw[k_];simp[kO, *]))
     | true=>
      rw[uo]at k_;have lL:pS v=true:=by rw[k_];simp[kO, *]
      by_cases a4:200<v.kids.length
      ·apply jF _
       exact J ⟨vh (y7 (Ts lL (.inr a4)) lZ).symm,lG⟩
      have Hy:=DH v;have alJ:n_ v=false->sP v=3:=fun h=>by
       unfold sP;rw[aa (by rw[lL];exact Bool.noConfusion),aa (by have:=Q3 uo;omega),ag ⟨q,h⟩]
      by_cases a5:v.names.length=v.kids.length
      ·apply jF _
       apply WC.loop (fun i:Nat=>[(1,Iq d),(2,jV g),(7,Iq i)]) (fun i w'=>i<=v.names.length/\jP w1 w'/\∀j,j<i->Iw v.names j=true) (fun i=>v.names.length - i) 0 kz ⟨ay _,Below.refl _ _,fun j hj=>absurd hj I⟩;rintro i wz ⟨hi,Sj,lO⟩;have Pc:=hR.lt;have hRz:=hR.below Sj Pc;have anJ:=lG.kj Sj;have z4:wz.cell? (Aq g 4)=some (.slice np v.names.length nc):=hRz.cell 4 jM
       by_cases pN:i<v.names.length
       ·obtain⟨nb,no,rfl,tX,I_⟩:=nr I
        have sM:=I_ i pN;have H6:=I_ (i - 1) I;have hnz:=Ag i pN;clear I_ nr Ag;have mq:Iw v.names i=(qk (v.names.getD i kZ) && (decide (i=0) || Op.bytesLess (v.names.getD (i - 1) kZ).toList (v.names.getD i kZ).toList)):=rfl;have AW:=Vl.N6 (v.names.getD i kZ).toList (v.names.getD (i - 1) kZ).toList;have oQ:qk (v.names.getD i kZ)=(decide (1<=(v.names.getD i kZ).size) && decide ((v.names.getD i kZ).size<=40)):=rfl;have ac8:Iw v.names i=false->Ending.returned (Iq 3)=.returned (Iq (chk (m+1) v)):=fun h=>vh (y7 (alJ (by
         cases hf:n_ v with
         | false=>rfl
         | true=>have:=(Hy.1 hf).1 i pN;rw[h]at this;cases this)) lZ).symm
        generalize v.names.getD i kZ=nm at sM hnz mq AW oQ;generalize v.names.getD (i - 1) kZ=pm at H6 mq AW;apply jF _;refine WC.drawn 33 (fun wx=>jP w wx/\U 25 wx g (mR v (nj nb no v.names.length nc) (.slice sp v.kids.length cap))) fun w2 tA=>?_;have hS:jP w w2/\U 25 w2 g (mR v (nj nb no v.names.length nc) (.slice sp v.kids.length cap)):=⟨anJ.trans (tA.below _),hRz.below (tA.below _) hRz.lt⟩;have kK:=Sj.trans (tA.below _)
        by_cases x1:nm.size<1
        ·skip
         apply jC [0] hS _;apply jz 1 (mw 3 33) (fun wx hx=>hx.2.cell 4 jM) hS;apply jC [2] hS _;apply kY (hq:=I) 3 i (no+i) I (.inr hS);apply jz 4 (mw 5 33) (fun wx hx=>(hx.1.cell (p:=Aq nb (no+i)) tX).trans sM) hS;apply jC [5,6,7,8] hS _;apply jC [9,10,11,12,13,14,15,16] hS _;apply jC [17,18,19,20] hS _;apply jC [21,22,23,24,25,26,27,28,29,30,31,32] hS _;apply jS 33;apply(jN);apply(jZ);apply(jD);apply G _;exact J ⟨ac8 (by rw[mq,oQ,ar I];rfl),hS.1⟩
        by_cases x2:40<nm.size
        ·skip
         apply jC [0] hS _;apply jz 1 (mw 3 33) (fun wx hx=>hx.2.cell 4 jM) hS;apply jC [2] hS _;apply kY (hq:=I) 3 i (no+i) I (.inr hS);apply jz 4 (mw 5 33) (fun wx hx=>(hx.1.cell (p:=Aq nb (no+i)) tX).trans sM) hS;apply jC [5,6,7,8] hS _;apply jz 9 (mw 11 33) (fun wx hx=>hx.2.cell 4 jM) hS;apply jC [10] hS _;apply kY (hq:=I) 11 i (no+i) I (.inr hS);apply jz 12 (mw 13 33) (fun wx hx=>(hx.1.cell (p:=Aq nb (no+i)) tX).trans sM) hS;apply jC [13,14,15,16] hS _;apply jC [17,18,19,20] hS _;apply jC [21,22,23,24,25,26,27,28,29,30,31,32] hS _;apply jS 33;apply(jN);apply(jZ);apply(jD);apply G _;exact J ⟨ac8 (by rw[mq,oQ,ar (I:¬nm.size<=40),Bool.and_false];rfl),hS.1⟩
        have adH:qk nm=true:=by rw[oQ,aw I,aw I];rfl
        by_cases x3:i=0
        ·skip
         apply jC [0] hS _;apply jz 1 (mw 3 33) (fun wx hx=>hx.2.cell 4 jM) hS;apply jC [2] hS _;apply kY (hq:=I) 3 i (no+i) I (.inr hS);apply jz 4 (mw 5 33) (fun wx hx=>(hx.1.cell (p:=Aq nb (no+i)) tX).trans sM) hS;apply jC [5,6,7,8] hS _;apply jz 9 (mw 11 33) (fun wx hx=>hx.2.cell 4 jM) hS;apply jC [10] hS _;apply kY (hq:=I) 11 i (no+i) I (.inr hS);apply jz 12 (mw 13 33) (fun wx hx=>(hx.1.cell (p:=Aq nb (no+i)) tX).trans sM) hS;apply jC [13,14,15,16] hS _;apply jC [17,18,19,20] hS _;apply jC [21,22,23,24,25,26,27,28,29,30,31,32] hS _;apply jS 33;apply(jN);apply(jZ);apply(jD);apply G _;refine WQ.again (i+1) kz ⟨pN,kK,fun j hj=>(cn.1 hj).elim (lO j) (fun e=>by rw[e];rw[mq,adH,x3];rfl)⟩ (by show v.names.length - (i+1)<v.names.length - i;omega)
        have hw:IntKind.i64.wrap ((i:Int) - 1)=((i - 1:Nat):Int):=by rw[bN _ I];omega
        cases j6:Op.bytesLess pm.toList nm.toList with
        | true=>
         rw[j6]at AW mq;apply jC [0] hS _;apply jz 1 (mw 3 33) (fun wx hx=>hx.2.cell 4 jM) hS;apply jC [2] hS _;apply kY (hq:=I) 3 i (no+i) I (.inr hS);apply jz 4 (mw 5 33) (fun wx hx=>(hx.1.cell (p:=Aq nb (no+i)) tX).trans sM) hS;apply jC [5,6,7,8] hS _;apply jz 9 (mw 11 33) (fun wx hx=>hx.2.cell 4 jM) hS;apply jC [10] hS _;apply kY (hq:=I) 11 i (no+i) I (.inr hS);apply jz 12 (mw 13 33) (fun wx hx=>(hx.1.cell (p:=Aq nb (no+i)) tX).trans sM) hS;apply jC [13,14,15,16] hS _;apply jC [17,18,19,20] hS _;apply jz 21 [23,24,31,32,33] (fun wx hx=>hx.2.cell 4 jM) hS;apply jC [22] hS _;apply kY (hq:=I) 23 i (no+i) I (.inr hS);apply jz 24 [31,32,33] (fun wx hx=>(hx.1.cell (p:=Aq nb (no+i)) tX).trans sM) hS;apply jC [25] hS _;apply jz 26 (mw 29 33) (fun wx hx=>hx.2.cell 4 jM) hS;apply jC [27,28] hS _;apply ss 29 (i - 1) (no+(i - 1)) rfl rfl rfl rfl rfl rfl rfl rfl I I I (.inr hS);apply jz 30 [31,32,33] (fun wx hx=>(hx.1.cell (p:=Aq nb (no+(i - 1))) tX).trans H6) hS;apply jC [31,32] hS _;apply jS 33;apply(jN);apply(jZ);apply(jD);apply mA _;apply WC.as 215 (.bool false) rfl (congrArg Value.bool AW);apply G _;refine WQ.again (i+1) kz ⟨pN,kK,fun j hj=>(cn.1 hj).elim (lO j) (fun e=>by rw[e];rw[mq,adH];simp)⟩ (by show v.names.length - (i+1)<v.names.length - i;omega)
        | false=>
         rw[j6]at AW mq;apply jC [0] hS _;apply jz 1 (mw 3 33) (fun wx hx=>hx.2.cell 4 jM) hS;apply jC [2] hS _;apply kY (hq:=I) 3 i (no+i) I (.inr hS);apply jz 4 (mw 5 33) (fun wx hx=>(hx.1.cell (p:=Aq nb (no+i)) tX).trans sM) hS;apply jC [5,6,7,8] hS _;apply jz 9 (mw 11 33) (fun wx hx=>hx.2.cell 4 jM) hS;apply jC [10] hS _;apply kY (hq:=I) 11 i (no+i) I (.inr hS);apply jz 12 (mw 13 33) (fun wx hx=>(hx.1.cell (p:=Aq nb (no+i)) tX).trans sM) hS;apply jC [13,14,15,16] hS _;apply jC [17,18,19,20] hS _;apply jz 21 [23,24,31,32,33] (fun wx hx=>hx.2.cell 4 jM) hS;apply jC [22] hS _;apply kY (hq:=I) 23 i (no+i) I (.inr hS);apply jz 24 [31,32,33] (fun wx hx=>(hx.1.cell (p:=Aq nb (no+i)) tX).trans sM) hS;apply jC [25] hS _;apply jz 26 (mw 29 33) (fun wx hx=>hx.2.cell 4 jM) hS;apply jC [27,28] hS _;apply ss 29 (i - 1) (no+(i - 1)) rfl rfl rfl rfl rfl rfl rfl rfl I I I (.inr hS);apply jz 30 [31,32,33] (fun wx hx=>(hx.1.cell (p:=Aq nb (no+(i - 1))) tX).trans H6) hS;apply jC [31,32] hS _;apply jS 33;apply(jN);apply(jZ);apply(jD);apply mA _;apply WC.as 215 (.bool true) rfl (congrArg Value.bool AW);apply G _;exact J ⟨ac8 (by rw[mq,adH,ar x3];rfl),hS.1⟩
       ·obtain rfl:i=v.names.length:=I
        have RU:=Hy.2 ⟨lO,a5⟩;have h0:=Fi lL (by have:=Q3 uo;omega) I (fun _=>RU);clear Hy lO nr Ag;apply jF _;exact WQ.meet () kz ⟨h0,Sj⟩
      ·have RU:n_ v=false:=by cases h:n_ v with|false=>rfl|true=>exact(a5 (Hy.1 h).2).elim
       apply jF _;exact J ⟨vh (y7 (alJ RU) lZ).symm,lG⟩
    ·skip
     apply jF _;exact J (oZ (by rw[k_];simp[kO, *]))
   ·skip
    apply jF _;exact J (oZ (by rw[k_];simp[kO, *]))
  clear nr Ag;have RU:pS v=false:=by
   rw[k_];unfold kO;rw[aa (I:¬v.k=1),aa (I:¬v.k=2),aa (I:¬v.k=3),aa (I:¬v.k=4),aa (I:¬v.k=5),aa (show ¬(v.k=6\/v.k=7) by omega),aa (I:¬v.k=8),aa (I:¬v.k=9)]
  apply jF _;exact J (oZ RU)
 ·rintro⟨⟩ w2 ⟨h0,oc⟩
  clear nr Ag k_ oZ Ts Fi Q3 Up;have Vv:chk (m+1) v=firstBad (v.kids.map (chk m)):=by
   conv=>lhs;unfold chk
   rw[ag h0]
  apply jF _;apply WC.loop (fun i:Nat=>[(1,Iq d),(2,jV g),(8,Iq i)]) (fun i w'=>i<=v.kids.length/\jP w1 w'/\∀j,j<i->chk m (v.kids.getD j mM)=0) (fun i=>v.kids.length - i) 0 kz ⟨ay _,oc,fun j hj=>absurd hj I⟩;clear oc c0 c1 c2 c3 c4 c5;rintro i wr ⟨hi,lx,lO⟩;have Pc:=hR.lt;have c5:wr.cell? (Aq g 5)=some (.slice sp v.kids.length cap):=(hR.below lx Pc).cell 5 jM;have pV:=lG.kj lx
  by_cases kt:i<v.kids.length
  ·obtain⟨kb,ko,rfl,qp,lP⟩:=kF I
   obtain⟨c,oh,qw,nW⟩:=lP i kt;clear kF lP;have t_:wr.rangeAt kb (ko+i*6) c:=fun j u hu=>by rw[pV.cell (p:=Aq kb (ko+i*6+j)) qp];exact nW j u hu
   apply jF _;apply jQ i (ko+i*6) kt;apply jy t_ oh;apply G _;apply jx func44 (ih (d+1) (qw.below pV) hd);rintro e w4 ⟨rfl,nk⟩;refine⟨_,rfl,?_⟩;have SO:=lx.kj nk
   by_cases h0:chk m (v.kids.getD i mM)=0
   ·apply G _
    refine WQ.again (i+1) kz ⟨kt,SO,fun j hj=>(cn.1 hj).elim (lO j) (fun e=>by rw[e];exact h0)⟩ (by show v.kids.length - (i+1)<v.kids.length - i;omega)
   ·have vB:chk (m+1) v=chk m (v.kids.getD i mM):=by
     rw[Vv,rC (i:=i) (by rw[aB];exact kt) (fun j hj=>by rw[r_ m v.kids j I];exact lO j hj) (by rw[r_ m v.kids i kt];exact h0),r_ m v.kids i kt]
    apply G _;exact J ⟨vh vB.symm,lG.kj SO⟩
  ·obtain rfl:i=v.kids.length:=I
   apply jF _;refine J ⟨vh ?_,pV⟩;rw[Vv];exact(uc fun j hj=>by rw[aB]at hj;rw[r_ m v.kids j hj];exact lO j hj).symm
theorem JY:∀ {f:Nat}{w:World}{v:V}{cs:kL}(m:Nat) (d:Int),mj f w v cs->m<=16->d=17 - (m:Int)->
  Calls prog 44 #[.agg cs.toArray,Iq d] w fun e w'=>e=.returned (Iq (chk m v))/\jP w w'
 | 0,_,_,_,_,_,h,_,_=>h.elim
 | f+1,w,v,cs,0,d,hv,_,hd=>by
  apply kq (args:=[.agg cs.toArray,Iq d]) func44 ntmps44;have vP:16<d:=I;apply G _;refine jO fun g w1 hf=>?_;apply G _;exact J ⟨rfl,hf.below⟩
 | f+1,w,v,cs,m+1,d,hv,hm,hd=>by
  have ih:=fun {w:World}{v:V}{cs:kL}(d:Int) (h1:mj f w v cs) (h2:d=17 - (m:Int))=>@JY f w v cs m d h1 I h2;have vP:d<=16:=I;have MD:0<=d:=I;exact W9 ih I hv vP MD
theorem z_ {v:V}(h:mj f w v cs):
  Calls prog 18 #[.agg cs.toArray] w fun e w'=>e=.returned (Iq (chk 16 v))/\jP w w':=by
 apply kq (args:=[.agg cs.toArray]) func18 ntmps18;apply G _;refine jO fun g w1 hf=>?_;have lj:kJ w g w1 25 cs:=hf;apply G _;apply jy (U.rangeAt lj.blk) h.len;apply jx func44 (JY 16 1 (h.below lj.below) I I);rintro e w2 ⟨rfl,kK⟩;refine⟨_,rfl,?_⟩;apply G _;exact J ⟨rfl,lj.below.trans (kK.mono lj.below.size)⟩
end K
namespace K
def prtK (g:V->Nat->Nat):List V->Nat->Nat
 | [],n=>n
 | k::r,n=>if n<=65536 then prtK g r (g k n) else n
def prt:Nat->V->Nat->Nat
 | 0,_,n=>n
 | f+1,v,n=>prtK (prt f) v.kids (n+1+v.t.size)
theorem PR {f m:Nat}(ih:∀(v:V) (n:Nat),chk m v=0->prt f v n<=n+(encV m v).length):∀(l:List V) (n:Nat),(∀x∈l,chk m x=0)->prtK (prt f) l n<=n+(l.flatMap (encV m)).length
 | [],n,_=>by simp[prtK]
 | k::r,n,h=>by
  unfold prtK;rw[aq,af]
  split
  ·have h1:=ih k n (h k jM)
   have h2:=PR ih r (prt f k n) fun x hx=>h x (aD _ hx);omega
  ·omega
theorem N_ (ky:V->oK)(st:Bool)(names:List lD)(kids:List V): (kids.flatMap ky).length<=((List.range kids.length).flatMap (mQ ky st names kids)).length:=by
 have key:∀i,i<=kids.length->((kids.take i).flatMap ky).length<=((List.range i).flatMap (mQ ky st names kids)).length:=by
  intro i
  induction i with
  | zero=>intro _;simp
  | succ i ih=>
   intro hi;have h1:=ih I;have ht:kids.take (i+1)=kids.take i++[kids.getD i mM]:=by
    rw[aK];simp[show i<kids.length by omega]
   rw[mF,af,ht,an,af];have h2:([kids.getD i mM].flatMap ky).length<=(mQ ky st names kids i).length:=by
    unfold mQ;rw[af];generalize kids.getD i mM=kd;simp
   omega
 have:=key kids.length (aj _)
 rwa [aN]at this
theorem T8:∀(f m:Nat) (v:V) (n:Nat),chk m v=0->prt f v n<=n+(encV m v).length
 | 0,_,_,n,_=>by unfold prt;omega
 | _+1,0,_,_,h=>by cases h
 | f+1,m+1,v,n,hc=>by
  unfold prt;have h1:=PR (T8 f m) v.kids (n+1+v.t.size) fun x hx=>V9 hc hx;have X5:1+v.t.size+(v.kids.flatMap (encV m)).length<=(encV (m+1) v).length:=by
   rcases acr (qe hc) with⟨h,e⟩|⟨h,e,_⟩|⟨h,e⟩|⟨h,e,_⟩|⟨h,e,_⟩|⟨h,e,_⟩|⟨h,e,_⟩|⟨h,e,_⟩
   all_goals rw[Ei,ak]
   ·rw[e];simp[V.t,V.kids,kZ]
   ·rw[e];simp[V.t,V.kids,kZ]
   ·rw[e];simp[V.t,V.kids,kZ]
   ·rw[e];simp[V.t,V.kids,kZ]
   ·rw[e];simp[V.t,V.kids,kZ]
   ·rw[aa I,aa I,aa I,aa I,ag h,af,u_]
    have:v.kids=[]:=by rw[e];rfl
    rw[this];simp;omega
   ·rw[aa I,aa I,aa I,aa I,aa I,ag (.inl h),af]
    have ht:v.t.size=0:=by rw[e];rfl
    have:=N_ (encV m) (decide (v.k=9)) v.names v.kids;omega
   ·rw[aa I,aa I,aa I,aa I,aa I,ag (.inr h),af]
    have ht:v.t.size=0:=by rw[e];rfl
    have:=N_ (encV m) (decide (v.k=9)) v.names v.kids;omega
  omega
theorem KZ:∀(f:Nat) {w0 w:World}{v:V}{cs:kL}{pb n:Nat},mj f w0 v cs->jP w0 w->w0.heap.size<=pb->U 3 w pb [Iq n]->n<=140737488355328->
  Calls prog 150 #[.agg cs.toArray,jV pb] w fun e w'=>e=.returned (.bool (decide (65536<prt f v n)))/\U 3 w' pb [Iq (prt f v n)]/\Z (fun b=>b<w.heap.size/\b≠pb) w w'
 | 0,_,_,_,_,_,_,h,_,_,_,_=>h.elim
 | f+1,w0,w,v,cs,pb,n,hv,lG,xK,rh,hn=>by
  have ih:=@KZ f;obtain⟨sn,sk,rfl,-,-,-,Y9,-,⟨sp,cap,rfl,vg,qn,kF⟩⟩:=hv;have nB:prt (f+1) v n=prtK (prt f) v.kids (n+1+v.t.size):=rfl;rw[nB];apply kq (args:=[.agg (mR v sn (.slice sp v.kids.length cap)).toArray,jV pb]) func150 ntmps150;apply G _;refine jO fun g w1 hf=>?_;have lj:kJ w g w1 25 (mR v sn (.slice sp v.kids.length cap)):=hf;clear hf;have oC:=rh.lt;have mE:g≠pb:=by rw[lj.eq];omega
  have Lt:=rh.below lj.below oC;have QI:Z (fun b=>b<w.heap.size/\b≠pb) w w1:=(Z.jw lj.below).mono fun _ h=>h.1;apply G _;refine WC.drawn 10 (fun wx=>U 3 wx pb [Iq n]/\U 25 wx g (mR v sn (.slice sp v.kids.length cap))) fun w2 tA=>?_;have hS:U 3 w2 pb [Iq n]/\U 25 w2 g (mR v sn (.slice sp v.kids.length cap)):=⟨Lt.below (tA.below _) Lt.lt,lj.blk.below (tA.below _) lj.blk.lt⟩;apply jC [0,1,2] hS _;apply jz 3 [4,8,9,10] (fun wx hx=>hx.1.cell 0 jM) hS;apply jC [4,5] hS _;apply jz 6 [7,8,9,10] (fun wx hx=>hx.2.cell 3 jM) hS;apply jC [7,8,9] hS _;apply jS 10;have e2:(n:Int)+1+(v.t.size:Int)=((n+1+v.t.size:Nat):Int):=I;generalize n+1+v.t.size=n1 at e2 ⊢;refine WL.store (v:=.int .i64 n1) rfl rfl rfl rfl (congrArg (fun z=>some (Value.int .i64 z)) e2) rfl (by kernel_rfl) (hS.1.cell 0 (by simp)) (hS.1.free 0) ?_;have kK:U 3 (w2.setCell (Aq pb 0) (Iq n1)) pb [Iq n1]:=hS.1.set 0 (Iq n1);have nK:U 25 (w2.setCell (Aq pb 0) (Iq n1)) g (mR v sn (.slice sp v.kids.length cap)):=hS.2.other _ _ mE;have mW:Z (fun b=>b<w.heap.size/\b≠pb) w (w2.setCell (Aq pb 0) (Iq n1)):=(QI.trans ((Z.jw (tA.below w1.heap.size)).mono fun b hb=>ao hb.1 lj.below.size)).setCell (fun h=>h.2 rfl) _;generalize w2.setCell (Aq pb 0) (Iq n1)=w3 at kK nK mW;apply(jZ);apply(jD);apply G _;generalize hRR:prtK (prt f) v.kids n1=RR;have Pc:=nK.lt;refine WC.loop (fun i:Nat=>[(1,jV pb),(2,jV g),(5,Iq i)])
   (fun i w'=>i<=v.kids.length/\Z (fun b=>b<w3.heap.size/\b≠pb) w3 w'/\∃x:Nat,U 3 w' pb [Iq x]/\prtK (prt f) (v.kids.drop i) x=RR) (fun i=>v.kids.length - i) 0
   kz ⟨ay _,Z.refl _ _,n1,kK,hRR⟩ ?_
  rintro i wr ⟨hi,uy,x,y_,hx⟩;have Ut:=nK.jA uy ⟨Pc,mE⟩;have Y3:=mW.trans (uy.mono fun b hb=>⟨ao hb.1 mW.size,hb.2⟩);have Mo:∀ {wz:World}{xz:Nat},U 3 wz pb [Iq xz]->Z (fun b=>b<w.heap.size/\b≠pb) w wz->xz=RR->(Ending.returned (.bool (decide ((65536:Int)<(xz:Int))))=.returned (.bool (decide (65536<RR)))/\U 3 wz pb [Iq (RR)]/\Z (fun b=>b<w.heap.size/\b≠pb) w wz) :=
   fun h1 h2 h3=>⟨by rw[<-h3];congr 2;simp only[cN];omega,by rw[<-h3];exact h1,h2⟩
  apply G _;apply Y (Ut.cell 5 jM)
  by_cases kt:i<v.kids.length
  ·have kv:v.kids.drop i=v.kids.getD i mM::v.kids.drop (i+1):=by
    rw[bI kt];simp[kt]
   rw[kv]at hx;apply G _;apply Y (y_.cell 0 jM)
   by_cases EP:x<=65536
   ·obtain⟨kb,ko,rfl,qp,lP⟩:=kF I
    obtain⟨c,oh,qw,nW⟩:=lP i kt;have pV:=(lG.trans ((Y3.mono fun b hb=>⟨ao hb lG.size,Nat.ne_of_lt (ao hb xK)⟩:Z (fun b=>b<w0.heap.size) w wr).below));have t_:wr.rangeAt kb (ko+i*6) c:=fun j u hu=>by rw[pV.cell (p:=Aq kb (ko+i*6+j)) qp];exact nW j u hu
    unfold prtK at hx;rw[ag EP]at hx;apply G _;apply Y (Ut.cell 5 jM);apply G _;apply jQ i (ko+i*6) kt;apply jy t_ oh;apply G _;apply jx func150 (ih (n:=x) qw pV xK y_ I);rintro e w4 ⟨rfl,nk,pA⟩;refine⟨_,rfl,?_⟩;apply G _;exact WQ.again (i+1) kz ⟨kt,uy.trans (pA.mono fun b hb=>⟨ao hb.1 uy.size,hb.2⟩),_,nk,hx⟩ (by show v.kids.length - (i+1)<v.kids.length - i;omega)
   ·unfold prtK at hx
    rw[aa EP]at hx;apply G _;apply Y (y_.cell 0 jM);apply(jN);apply(jN);apply G _;exact J ⟨congrArg (fun b=>Ending.returned (Value.bool b)) (aw I).symm,(Mo y_ Y3 hx).2⟩
  ·obtain rfl:i=v.kids.length:=I
   rw[ey]at hx;unfold prtK at hx;apply G _;apply Y (y_.cell 0 jM);apply(jN);apply(jN);apply G _;exact J (Mo y_ Y3 hx)
theorem G6 {v:V}(h:mj f w v cs)(hlen:chk 16 v=0->(encV 16 v).length<=70368744177664):
  Calls prog 133 #[.agg cs.toArray] w (Uz w v):=by
 have hcs:=h.len;apply kq (args:=[.agg cs.toArray]) func133 ntmps133;apply G _;refine jO fun g w1 hf=>?_;have lj:kJ w g w1 25 cs:=hf;clear hf;have CN:=lj.size;have h1:=h.below lj.below;apply G _;apply jy (U.rangeAt lj.blk) hcs;apply kH func18 (z_ h1);rintro w2 kK
 have nQ:=lj.below.trans (kK.mono I);have YE:=lj.blk.below kK lj.blk.lt
 by_cases hc:chk 16 v=0
 ·apply G _
  refine jJ (z:=Iq 0) (fun _=>jG) fun pb w3 Ed=>?_;have te:kJ w2 pb w3 3 [Iq 0]:=Ed;clear Ed;have lC:=te.blk;have xK:=te.eq;have NP:=YE.below te.below YE.lt;have Zh:g≠pb:=by have:=YE.lt;omega
  apply G _;apply jT (v:=Iq 0) (lC.cell 0 jM) (lC.free 0);have nk:=lC.set 0 (Iq 0);have xN:U 25 (w3.setCell (Aq pb 0) (Iq 0)) g cs:=NP.other _ _ Zh;have pA:jP w2 (w3.setCell (Aq pb 0) (Iq 0)):=Z.below ((Z.jw te.below).setCell (fun hk=>by simp only at hk;omega) _);generalize w3.setCell (Aq pb 0) (Iq 0)=w4 at nk xN pA;simp only[eI]at nk;have qq:=nQ.kj pA;have oC:w.heap.size<=pb:=by have:=nQ.size;omega
  clear te;apply G _;apply jy (U.rangeAt xN) hcs;apply kH func150 (KZ (n:=0) f h qq oC nk I);rintro w5 ⟨qv,oM⟩
  have pK:=qq.trans (Z.below (Z.mono oM fun b (hb:b<w.heap.size)=>⟨ao hb qq.size,I⟩));have FR:=xN.jA oM ⟨xN.lt,Zh⟩;have hpe:=T8 f 16 v 0 hc
  by_cases hp:65536<prt f v 0
  ·have hr:mJ v=([],5):=by unfold mJ;rw[aa (by simpa using hc),ag I]
   apply G _;exact WQ.oU rfl rfl rfl ⟨_,by rw[hr],by rw[hr];exact Bu.nil _,pK,fun g hg=>by cases hg⟩
  apply G _;apply jy (U.rangeAt FR) hcs;apply jx func151 (Jy 16 (h.below pK) hc (Bu.nil w5) ⟨Below.refl _ _,fun g hg=>by cases hg⟩ (by have:=hlen hc;simp only[aL];omega));rintro _ w6 ⟨b,rfl,hb,hg⟩;refine⟨_,rfl,?_⟩;rw[aT]at hb;obtain⟨sp,cap,rfl,uE,sL⟩:=hb.form;have E8:=pK.trans (hg.old (B:=w.heap.size) (pK.size) fun g h=>by cases h)
  by_cases ua:65536<(encV 16 v).length
  ·have hr:mJ v=([],5):=by unfold mJ;rw[aa (by simpa using hc),ag ua]
   apply G _;exact WQ.oU rfl rfl rfl ⟨_,by rw[hr],by rw[hr];exact Bu.nil _,E8,fun g hg=>by cases hg⟩
  ·have hr:mJ v=(encV 16 v,0):=by unfold mJ;rw[aa (by simpa using hc),aa ua]
   apply G _;exact WQ.oU rfl rfl rfl ⟨_,by rw[hr],by rw[hr];exact hb,E8,fun g h=>(hg.2 g h).elim (fun h2=>by cases h2) fun h2=>by have:=pK.size;omega⟩
 ·have hr:mJ v=([],chk 16 v):=by unfold mJ;rw[ag hc]
  apply G _;exact WQ.oU rfl rfl rfl ⟨_,by rw[hr],by rw[hr];exact Bu.nil _,nQ,fun g hg=>by cases hg⟩
theorem YP {v:Value}{l:oK}(hv:Sl .u8 w v l)(hn:l.length<=17592186044416):
  Calls prog 134 #[v] w fun e w'=>e=.returned (.agg (kT (Dig.sJ (0::l))).toArray)/\jP w w':=by
 apply kq func134 ntmps134;apply G _;refine jJ (z:=.agg (kT Dig.nA).toArray) (Dig.yf) fun g w1 hf=>?_;have lj:kJ w g w1 31 (kT Dig.nA):=hf;clear hf;have hz:=lj.size;have he:=lj.eq;apply G _;refine WL.lit rfl rfl rfl rfl rfl rfl rfl fun b2 w2 kK mW nK=>?_;have nQ:=lj.below.trans (mW.mono I);apply G _;refine kW (hb:=(by simp only[ak,aL];omega)) kK (hv.jw nQ) fun b3 w3 lC oS=>?_;have oN:=mW.trans (oS.old mW.size nK);apply kH func152 (Dig.abn b3 _ w3 lC.sl (by rw[af];simp only[ak,aL];omega));rintro w4 pA
 have Tq:=oN.kj pA;have B4:=lj.blk.below Tq lj.blk.lt;have hlen:(kT (Dig.sJ (0::l))).length=32:=by rw[aB];exact Dig.qC _
 apply jE (hm:=hlen) (hold:=(by rfl)) B4 (lY.int _ _);apply G _;exact WQ.vJ rfl rfl rfl hlen (B4.setRow _) ⟨rfl,below_setRow (lj.below.trans (Tq.mono I)) I _⟩
theorem LN {v:V}(h:mj f w v cs)(hlen:chk 16 v=0->(encV 16 v).length<=70368744177664):
  Calls prog 104 #[.agg cs.toArray] w (Pz w v):=by
 have hcs:=h.len;apply kq (args:=[.agg cs.toArray]) func104 ntmps104;apply G _;refine jO fun g w1 hf=>?_;have lj:kJ w g w1 25 cs:=hf;clear hf;refine jJ (z:=.agg (kT Dig.nA).toArray) (Dig.yf) fun g2 w2 mK=>?_;have mI:kJ w1 g2 w2 31 (kT Dig.nA):=mK;clear mK;have CN:=lj.size;have yD:=mI.size;have he1:=lj.eq;have FW:=mI.eq;have nQ:=lj.below.trans (mI.below.mono I);have B1:=lj.blk.below mI.below lj.blk.lt;apply G _;apply jy (U.rangeAt B1) hcs;apply jx func133 (G6 (h.below nQ) hlen);rintro _ w3 ⟨b,rfl,hb,oN,-⟩;refine⟨_,rfl,?_⟩;have pE:=nQ.trans (oN.mono I);have Ak:=mI.blk.below oN mI.blk.lt;have SH:=oN.size
 by_cases he:(mJ v).2=0
 ·have hR:mz v=Dig.sJ (0::(mJ v).1):=by unfold mz;rw[aa (by simpa using he)]
  have Mt:=(yY he).2.1;rw[<-(yY he).2.2]at Mt;apply G _;apply kH func134 (YP hb.sl I);rintro w4 pA
  have Ar:(kT (Dig.sJ (0::(mJ v).1))).length=32:=by rw[aB];exact Dig.qC _
  have B24:=Ak.below pA Ak.lt;apply jE (hm:=Ar) (hold:=(by rfl)) B24 (lY.int _ _);apply G _;exact WQ.xG rfl rfl rfl rfl Ar (B24.setRow _) ⟨by rw[hR,he],below_setRow (pE.trans (pA.mono I)) I _⟩
 ·have hR:mz v=Dig.nA:=by unfold mz;rw[ag he]
  apply G _;apply jR (kT Dig.nA) jG;apply G _;apply jE (hm:=(by rfl)) (hold:=(by rfl)) Ak (lY.int _ _);apply G _;exact WQ.xG rfl rfl rfl rfl (by rfl) (Ak.setRow _) ⟨by rw[hR];rfl,below_setRow pE I _⟩
theorem Eh (u:Nat)(hu:u<18446744073709551616)(w:World):
  Calls prog 156 #[.int .u64 u] w fun e w'=>∃b,e=.returned b/\Bu w' b (lK u)/\jP w w'/\∀g,b.ownBlock=some g->w.heap.size<=g:=by
 apply kq func156 ntmps156;apply G _;apply jx gq (oB u hu w);rintro _ w2 ⟨b,rfl,h1,h2,h3⟩;refine⟨_,rfl,?_⟩;apply G _;exact J ⟨b,rfl,h1,h2,h3⟩
theorem u64_in (h:0<=x)(h2:x<=9223372036854775807): IntKind.u64.wrap x=((x.toNat:Nat):Int):=by rw[aS];omega
theorem L4 {x:Nat}(h2:x<=9223372036854775807): IntKind.u64.wrap (x:Int)=((x:Nat):Int):=by rw[aS];omega
theorem UD {e:En}(h:xM f w e cs)(hf:lQ e): Calls prog 138 #[.agg cs.toArray] w (LG w (qN e)):=by
 obtain⟨dc,rfl,hv,lM,m9,hh,tZ,-,-⟩:=h;obtain⟨hk,zf,zn,AP,um,uP,HD,-,-⟩:=wH hf;apply kq (args:=[.agg (km e dc).toArray]) func138 ntmps138;apply G _;refine jO fun g wz ou=>?_;have oJ:kJ w g wz 76 (km e dc):=ou;clear ou;have A1:lT 76 g wz e dc:=⟨oJ.blk,lM,hh⟩;have hwz:=oJ.below;clear oJ;have e8:IntKind.u8.wrap e.kind=e.kind:=by rw[bL];omega
 apply G _;apply Y A1.kind;apply G _;refine WL.lit rfl rfl rfl rfl rfl rfl rfl fun b0 w0 Dm I5 ho0=>?_;rw[e8]at Dm;have a0:pB wz w0 b0:=⟨I5,ho0⟩;have n0:[e.kind].length<=1:=aj _;apply G _;apply Y (A1.below a0.below).table;apply G _;apply WL.call rfl rfl rfl rfl rfl func156 rfl jG (by rw[u64_in (x:=e.table) I I];exact Eh e.table.toNat I w0);rintro _ x1 ⟨v1,rfl,Sc,DZ,-⟩;refine⟨_,rfl,?_⟩;have l1:=lF (e.table.toNat);refine kW (Dm.below DZ) Sc.sl fun b1 w1 oc vL=>?_;have a1:=a0.grow (((kX.refl w0 b0).below DZ).trans vL);have n1:([e.kind]++lK e.table.toNat).length<=11:=by rw[af];omega
 apply G _;apply Y (A1.below a1.below).doc;apply G _;apply WL.call rfl rfl rfl rfl rfl func156 rfl jG (by rw[u64_in (x:=e.doc) I I];exact Eh e.doc.toNat I w1);rintro _ x2 ⟨v2,rfl,wP,mW,-⟩;refine⟨_,rfl,?_⟩;have l2:=lF (e.doc.toNat);refine kW (oc.below mW) wP.sl fun b2 w2 kK nK=>?_;have a2:=a1.grow (((kX.refl w1 b1).below mW).trans nK);have n2:([e.kind]++lK e.table.toNat++lK e.doc.toNat).length<=21:=by rw[af];omega
 apply G _;apply Y (A1.below a2.below).kA;apply G _;apply WL.call rfl rfl rfl rfl rfl func156 rfl jG (by rw[u64_in (x:=e.kA) I I];exact Eh e.kA.toNat I w2);rintro _ x3 ⟨v3,rfl,rI,oN,-⟩;refine⟨_,rfl,?_⟩;have l3:=lF (e.kA.toNat);refine kW (kK.below oN) rI.sl fun b3 w3 lC oS=>?_;have a3:=a2.grow (((kX.refl w2 b2).below oN).trans oS);have n3:([e.kind]++lK e.table.toNat++lK e.doc.toNat++lK e.kA.toNat).length<=31:=by rw[af];omega
 apply G _;apply Y (A1.below a3.below).text;apply G _;apply WL.call rfl rfl rfl rfl rfl func156 rfl jG (by rw[L4 (x:=e.text.size) I];exact Eh e.text.size I w3);rintro _ x4 ⟨v4,rfl,hv4,pA,-⟩;refine⟨_,rfl,?_⟩;have l4:=lF (e.text.size);refine kW (lC.below pA) hv4.sl fun b4 w4 nk qF=>?_;have a4:=a3.grow (((kX.refl w3 b3).below pA).trans qF);have n4:([e.kind]++lK e.table.toNat++lK e.doc.toNat++lK e.kA.toNat++lK e.text.size).length<=41:=by rw[af];omega
 apply G _;apply Y (A1.below a4.below).text;refine WL.TP rfl rfl rfl rfl rfl nk rfl I fun b5 w5 qv DO=>?_;have a5:=a4.grow DO;have n5:([e.kind]++lK e.table.toNat++lK e.doc.toNat++lK e.kA.toNat++lK e.text.size++qA e.text).length<=5000:=by rw[af,s_];omega
 apply G _;apply Y (A1.below a5.below).ab;apply G _;apply WL.call rfl rfl rfl rfl rfl func156 rfl jG (by rw[u64_in (x:=e.ab) I I];exact Eh e.ab.toNat I w5);rintro _ x6 ⟨v6,rfl,ER,o_,-⟩;refine⟨_,rfl,?_⟩;have l6:=lF (e.ab.toNat);refine kW (qv.below o_) ER.sl fun b6 w6 tD G2=>?_;have a6:=a5.grow (((kX.refl w5 b5).below o_).trans G2);have n6:([e.kind]++lK e.table.toNat++lK e.doc.toNat++lK e.kA.toNat++lK e.text.size++qA e.text++lK e.ab.toNat).length<=5010:=by rw[af];omega
 apply G _;apply Y (A1.below a6.below).ae;apply G _;apply WL.call rfl rfl rfl rfl rfl func156 rfl jG (by rw[u64_in (x:=e.ae) I I];exact Eh e.ae.toNat I w6);rintro _ x7 ⟨v7,rfl,Kp,wS,-⟩;refine⟨_,rfl,?_⟩;have l7:=lF (e.ae.toNat);refine kW (tD.below wS) Kp.sl fun b7 w7 y9 SP=>?_;have a7:=a6.grow (((kX.refl w6 b6).below wS).trans SP);have n7:([e.kind]++lK e.table.toNat++lK e.doc.toNat++lK e.kA.toNat++lK e.text.size++qA e.text++lK e.ab.toNat++lK e.ae.toNat).length<=5020:=by rw[af];omega
 have aat:Bu w7 b7 (e.kind::(lK e.table.toNat++(lK e.doc.toNat++(lK e.kA.toNat++(lK e.text.size++(yI e.text++(lK e.ab.toNat++lK e.ae.toNat))))))):=by simpa[av,qA,yI] using y9
 have A7:=A1.below a7.below;have own:∀ {wx:World}{bx:Value},pB wz wx bx->jP w wx/\∀g,bx.ownBlock=some g->w.heap.size<=g:=fun h=>⟨hwz.kj h.below,fun g hg=>aU hwz.size (h.own g hg)⟩;apply G _;apply Y A7.kind
 by_cases k2:e.kind=2
 ·apply G _
  apply WL.all rfl rfl rfl rfl rfl rfl;refine kW y9 (Ib A7.hash hh A7.blk.lt) fun b8 w8 yj p7=>?_;apply G _;refine J ⟨b8,rfl,?_,own (a7.grow p7)⟩;unfold qN;rw[ag k2]
  simpa[av,qA,yI] using yj
 ·apply G _
  refine J ⟨b7,rfl,?_,own a7⟩;unfold qN;rw[aa k2,aP];exact aat
theorem X3 {b:Bk}(h:FE f w b cs): Calls prog 136 #[.agg cs.toArray] w (LG w (uz b)):=by
 obtain⟨se,rfl,oG,oR,xK,hi,ht,hx⟩:=h;apply kq (args:=[.agg (qT b se).toArray]) func136 ntmps136;apply G _;refine jO fun g w1 hf=>?_;have lj:kJ w g w1 34 (qT b se):=hf;clear hf;have nH:=lj.below;have B1:nM 34 g w1 b se:=⟨lj.blk,oR⟩;clear lj;apply G _;apply Y B1.index;apply G _;apply Y B1.time;apply G _;apply Y B1.tM;refine WL.Ni [Iq b.index,Iq b.time,Iq b.tM] rfl rfl rfl rfl rfl rfl jG fun lg w2 mK=>?_;have mI:kJ w1 lg w2 3 [Iq b.index,Iq b.time,Iq b.tM]:=mK;clear mK;have nQ:=mI.below;have H2:=mI.blk;clear mI;have B2:=B1.below nQ;have hN:∃N:oK,N=[b.index,b.time,b.tM]:=⟨_,rfl⟩;obtain⟨N,hN⟩:=hN;have hNg:∀i,i<3->[Iq b.index,Iq b.time,Iq b.tM][i]? = some (Iq (N.getD i 0))/\lV (N.getD i 0):=fun i hi=>by
  rw[hN]
  match i,hi with
  | 0,_=>exact⟨rfl,by assumption⟩
  | 1,_=>exact⟨rfl,ht⟩
  | 2,_=>exact⟨rfl,hx⟩
 have au7:∀i,i<=3->((N.take i).flatMap fun n=>lK n.toNat).length<=10*i:=fun i hi=>by
  have h1:=lF b.index.toNat;have h2:=lF b.time.toNat;have h3:=lF b.tM.toNat;rw[hN]
  match i,hi with
  | 0,_=>simp
  | 1,_=>simp;omega
  | 2,_=>simp;omega
  | 3,_=>simp only[cE,cj,aq,dD,af,aL];omega
 apply G _;refine WC.loop (fun i:Nat×Value=>[(1,jV g),(3,i.2),(4,nj lg 0 3 3),(5,Iq i.1)])
  (fun i wx=>i.1<=3/\Bu wx i.2 ((N.take i.1).flatMap fun n=>lK n.toNat)/\pB w2 wx i.2) (fun i=>3 - i.1) (0,kP) kz ⟨ay _,by simpa using Bu.nil w2,⟨Below.refl _ _,fun g hg=>by cases hg⟩⟩ ?_
 rintro⟨i,br⟩ wr ⟨Oa,lx,uT⟩;simp only at Oa lx uT ⊢;have hpi:=au7 i Oa
 by_cases kt:i<3
 ·obtain⟨yu,uA⟩:=hNg i kt
  have FC:=U.rangeAt (H2.below uT.below H2.lt) i _ yu;apply G _;apply jQ (hq:=I) i (0+i) kt;apply Y FC;have e:=alT (N.getD i 0) uA;have SK:=lF (N.getD i 0).toNat;have KF:(N.getD i 0).toNat<18446744073709551616:=I;have hNl:N.length=3:=by rw[hN];rfl
  have xE:N.take (i+1)=N.take i++[N.getD i 0]:=by rw[aK];simp[show i<N.length by omega]
  generalize N.getD i 0=x at e SK KF xE;apply G _;apply WL.call rfl rfl rfl rfl rfl gq rfl jG (by rw[show(bif false then(if(0:Int)>x then x else 0) else(if x>0 then x else 0))=(if x>0 then x else 0) from rfl,e];exact oB x.toNat KF wr);rintro _ w3 ⟨b3,rfl,lC,oN,-⟩;refine⟨_,rfl,?_⟩;refine kW (lx.below oN) lC.sl fun b4 w4 nk qF=>?_;apply G _;refine WQ.again (i+1,b4) kz ⟨kt,?_,uT.grow (((kX.refl wr br).below oN).trans qF)⟩ (by show 3 - (i+1)<3 - i;omega)
  show Bu w4 b4 ((N.take (i+1)).flatMap _)
  rw[xE,an]
  simpa using nk
 ·obtain rfl:i=3:=I
  have B3:=B2.below uT.below;apply G _;apply WL.all rfl rfl rfl rfl rfl rfl;refine kW lx (Ib B3.prev oR B3.blk.lt) fun b4 w4 nk qF=>?_;have a4:=uT.grow qF;have Uk:=nH.kj nQ;apply G _;refine J ⟨b4,rfl,?_,Uk.kj a4.below,fun g hg=>aU Uk.size (a4.own g hg)⟩;rw[hN]at nk;unfold uz
  simpa[av] using nk
theorem Oy {b:Bk}(data:Bool)(h:FE f w b cs)(Kg:∀e∈b.jH,m4 e=0)(hle:b.jH.length<=200): Calls prog 108 #[.agg cs.toArray,.bool data] w (LG w (zW data b)):=by
 have lO:=h;have OA:=RW.Zv h;have nL:=h.len;obtain⟨se,rfl,oG,oR,xK,hr⟩:=h;obtain⟨sp,cap,rfl⟩:=oG.slice;apply kq (args:=[.agg (qT b (.slice sp b.jH.length cap)).toArray,.bool data]) func108 ntmps108;apply G _;refine jO fun g w1 hf=>?_;have lj:kJ w g w1 34 (qT b (.slice sp b.jH.length cap)):=hf;clear hf;have nH:=lj.below;have B1:nM 34 g w1 b (.slice sp b.jH.length cap):=⟨lj.blk,oR⟩;clear lj;have vO:(uz b).length<=70:=by
  have h1:=lF b.index.toNat;have h2:=lF b.time.toNat;have h3:=lF b.tM.toNat;unfold uz;simp only[af];omega
 have KF:=lF b.jH.length;have eK:IntKind.u64.wrap (b.jH.length:Int)=((b.jH.length:Nat):Int):=L4 I;apply G _;refine WC.drawn 6 (fun wx=>nM 34 g wx b (.slice sp b.jH.length cap)) fun w2 tA=>?_;have hS:=B1.below (tA.below _);have ahX:jP w1 w2:=tA.below _;have nQ:=nH.kj ahX;apply kG 0 [1,6,7,8] (fun wx hx=>U.rangeAt hx.blk) nL hS;apply jC [2] hS _;apply jz 3 (mw 4 8) (fun wx hx=>hx.jH) hS;apply jC [4,5] hS _;apply jS 1;apply jx func136 (X3 (FE.below nQ lO));rintro _ w3 ⟨b3,rfl,lC,oN,SX⟩;refine⟨_,rfl,?_⟩;refine WL.nil (WQ.dk (.inr (hS.below oN)) ?_);apply jS 6;apply WL.call rfl rfl rfl rfl rfl gq rfl jG (by rw[eK];exact oB b.jH.length I w3);rintro _ w4 ⟨b4,rfl,nk,pA,-⟩;refine⟨_,rfl,?_⟩;apply(jZ);apply jS 7;refine kW (lC.below pA) nk.sl fun b5 w5 qv DO=>?_;apply(jZ);apply jS 8;apply(jN);apply(jZ);apply(jD);have a3:pB w1 w3 b3:=⟨ahX.kj oN,fun g hg=>aU ahX.size (SX g hg)⟩;have a5:=a3.grow (((kX.refl w3 b3).below pA).trans DO);have hM:(uz b++lK b.jH.length).length<=80:=by rw[af];omega
 have RP:zW data b=(uz b++lK b.jH.length)++b.jH.flatMap fun e=>qN e++qG data e:=by unfold zW;rw[av]
 generalize uz b++lK b.jH.length=M at qv hM RP;apply G _;refine WC.loop (fun i:Nat×Value=>[(1,.bool data),(2,jV g),(5,i.2),(6,Iq i.1)])
  (fun i w'=>i.1<=b.jH.length/\Bu w' i.2 (M++(b.jH.take i.1).flatMap fun e=>qN e++qG data e)/\pB w1 w' i.2) (fun i=>b.jH.length - i.1) (0,b5) kz ⟨ay _,by simpa using qv,a5⟩ ?_
 rintro⟨i,br⟩ wr ⟨hi,lx,uT⟩;simp only at hi lx uT ⊢;have Br:=B1.below uT.below;have uX:=nH.kj uT.below;apply G _;apply Y Br.jH
 by_cases kt:i<b.jH.length
 ·have hlen:(M++(b.jH.take i).flatMap fun e=>qN e++qG data e).length<=80+80000*200:=by
   have:=F5 (data:=data) (b.jH.take i) fun e he=>⟨Kg e (bP he),(OA e (bP he)).1⟩;rw[aC]at this;rw[af];have h2:min i b.jH.length<=200:=I;have:=jf 80000 h2;omega
  have EZ:=Nf b.jH kQ kt;obtain⟨kb,ko,oa,cs,tC,qp,AY,CF,nW⟩:=oG.at kt
  injection tC with N9 _ N7
  subst N9;subst N7;have zJ:b.jH.getD i kQ∈b.jH:=by simp[kt]
  have T4:=Kg _ zJ;have UC:=(OA _ zJ).1;obtain⟨lL,TE⟩:=NQ T4;obtain⟨zu,-,-,-,um,-⟩:=wH lL;generalize b.jH.getD i kQ=e at CF T4 UC lL TE zu um EZ;generalize Kk:(M++(b.jH.take i).flatMap fun e=>qN e++qG data e)=L at lx hlen;have hle:=Jk e UC;have again:∀ {wx:World}{bx:Value},Bu wx bx (L++(qN e++qG data e))->pB w1 wx bx->Bu wx bx (M++(b.jH.take (i+1)).flatMap fun e=>qN e++qG data e)/\pB w1 wx bx:=fun {wx bx} h1 h2=>by
   rw[EZ,an,<-av,Kk];exact⟨by simpa using h1,h2⟩
  have m9:=CF.one;have aez:=CF;obtain⟨dc,rfl,hv,lM,-,hh,-⟩:=CF;apply G _;apply Y Br.jH;apply G _;apply jQ i (ko+i*46) kt;apply jy (fun j u hu=>(uX.cell (p:=Aq kb (ko+i*46+j)) qp).trans (nW j u hu)) AY;refine jJ (z:=.agg (km kQ jK).toArray) (fun _=>jG) fun c w5 VC=>?_;have vz:kJ wr c w5 76 (km kQ jK):=VC;clear VC;apply G _;apply jE (hm:=AY) (hold:=(by rfl)) vz.blk m9;have o_:jP wr (w5.setRow c (km e dc).toArray):=below_setRow vz.below (by rw[vz.eq];exact aj _) _;have C6:lT 76 c (w5.setRow c (km e dc).toArray) e dc:=⟨vz.blk.setRow _,lM,hh⟩;have as_:=vz.eq;generalize w5.setRow c (km e dc).toArray=w6 at o_ C6;clear vz;have E8:=uX.kj o_;have tD:=lx.below o_;have a6:=uT.grow ((kX.refl wr br).below o_);apply G _;apply jy (U.rangeAt C6.blk) AY;apply jx func138 (UD (xM.below E8 aez) lL);rintro _ w7 ⟨b7,rfl,y9,wS,ho7⟩;refine⟨_,rfl,?_⟩;have C7:=C6.below wS;have aue:=C7.blk.lt;refine kW (tD.below wS) y9.sl fun b8 w8 yj p7=>?_;have a8:=a6.grow (((kX.refl w6 br).below wS).trans p7);have RQ:br.ownBlock≠some c:=fun e=>by have:=lx.lt _ e;omega
  have C8:=C7.jA p7.1 ⟨aue,RQ⟩;have n8:(L++qN e).length<=16100000:=by rw[af];omega
  have XK:=nH.kj a8.below;apply G _;apply Y C8.kind
  by_cases k2:e.kind=2
  rotate_left
  ·have hX:qG data e=[]:=by unfold qG;rw[aa k2]
   apply G _;exact WQ.again (i+1,b8) kz ⟨kt,again (by rw[hX,aP];exact yj) a8⟩ (by show b.jH.length - (i+1)<b.jH.length - i;omega)
  apply G _;apply Y C8.gone
  by_cases tp:e.gone=true\/data=false
  ·have hX:qG data e=[0]:=by unfold qG;rw[ag k2,ag tp]
   have Xk:e.gone=true\/(e.gone=false/\data=false):=by
    cases hq:e.gone with
    | true=>exact .inl rfl
    | false=>exact .inr ⟨rfl,tp.resolve_left (by rw[hq];simp)⟩
   rcases Xk with hq|⟨hq,hdf⟩
   ·rw[hq]
    apply G _;refine WL.push rfl rfl rfl rfl rfl rfl rfl rfl rfl rfl rfl (fun _=>rfl) rfl yj (by simp only[ak,aL];omega) fun b9 w9 G7 g9=>?_;apply G _;exact WQ.again (i+1,b9) kz ⟨kt,again (by rw[hX,<-av];exact G7) (a8.grow g9)⟩ (by show b.jH.length - (i+1)<b.jH.length - i;omega)
   ·rw[hq]
    subst hdf;apply G _;refine WL.push rfl rfl rfl rfl rfl rfl rfl rfl rfl rfl rfl (fun _=>rfl) rfl yj (by simp only[ak,aL];omega) fun b9 w9 G7 g9=>?_;apply G _;exact WQ.again (i+1,b9) kz ⟨kt,again (by rw[hX,<-av];exact G7) (a8.grow g9)⟩ (by show b.jH.length - (i+1)<b.jH.length - i;omega)
  ·have XZ:e.gone=false:=by cases hq:e.gone with
    | true=>exact absurd (.inl hq) tp
    | false=>rfl
   obtain rfl:data=true:=by cases data with
    | true=>rfl
    | false=>exact absurd (.inr rfl) tp
   have hX:qG true e=1::(lK (mJ e.data).1.length++(mJ e.data).1):=by unfold qG;rw[ag k2,aa tp]
   obtain⟨he,-⟩:=TE k2 XZ;obtain⟨hc,Mt,hx⟩:=yY he;have KF:=lF (mJ e.data).1.length;rw[<-hx]at Mt;rw[XZ];apply G _;apply jy C8.data lM;apply jx func133 (G6 (hv.below XK) fun _=>by rw[<-hx];omega);rintro _ w9 ⟨b9,rfl,G7,IE,DN⟩;refine⟨_,rfl,?_⟩;obtain⟨sp9,qu,rfl,-⟩:=G7.form;have asA:=yj.below IE;have a9:=a8.grow ((kX.refl w8 b8).below IE);apply G _;refine WL.push rfl rfl rfl rfl rfl rfl rfl rfl rfl rfl rfl (fun _=>rfl) rfl asA (by simp only[ak,aL];omega) fun Li tF QC Gt=>?_;have n10:((L++qN e)++[1]).length<=16100001:=by rw[af];simp only[ak,aL];omega
   apply G _;apply WL.call rfl rfl rfl rfl rfl gq rfl jG (by rw[L4 (x:=(mJ e.data).1.length) I];exact oB (mJ e.data).1.length I tF);rintro _ QZ ⟨Yt,rfl,Qm,alk,-⟩;refine⟨_,rfl,?_⟩;refine kW (QC.below alk) Qm.sl fun uV Yq as7 I0=>?_;have g11:=(kX.refl tF Li).below alk;have ada:=Gt.trans (g11.trans I0);have atG:=G7.sl.jA ada.1 fun b o n c hb j6=>⟨j6,fun e1=>by
    injection hb with oc _ _
    have h1:=DN b (by rw[oc];rfl);have h2:=yj.lt _ e1;omega⟩
   have n12:(((L++qN e)++[1])++lK (mJ e.data).1.length).length<=16100011:=by rw[af];omega
   apply G _;refine kW as7 atG fun uB GD Nl g13=>?_;apply G _;exact WQ.again (i+1,uB) kz ⟨kt,again (by rw[hX];simpa[av] using Nl) (a9.grow (ada.trans g13))⟩ (by show b.jH.length - (i+1)<b.jH.length - i;omega)
 ·obtain rfl:i=b.jH.length:=I
  rw[aN]at lx;apply G _;refine J ⟨br,rfl,?_,uX,fun g hg=>aU nH.size (uT.own g hg)⟩;rw[RP];exact lx
theorem acf {e:En}(h:xM f w e cs)(hlen:chk 16 e.data=0->(encV 16 e.data).length<=70368744177664):
  Calls prog 107 #[.agg cs.toArray] w fun r w'=>r=.returned (Iq (m4 e))/\jP w w':=by
 obtain⟨dc,rfl,hv,lM,m9,hh,tZ,um,hr⟩:=h;have lO:p_ (mj f w) e (km e dc):=⟨dc,rfl,hv,lM,m9,hh,tZ,um,hr⟩;apply kq (args:=[.agg (km e dc).toArray]) func107 ntmps107;apply G _;refine jO fun g w1 hf=>?_;have lj:kJ w g w1 76 (km e dc):=hf;clear hf;have B1:lT _ g w1 e dc:=⟨lj.blk,lM,hh⟩;have nH:=lj.below;clear lj;apply G _;apply jy (U.rangeAt B1.blk) B1.len;apply jx func135 (Zb (xM.below nH lO));rintro _ w2 ⟨⟨b,rfl,hb⟩,mW⟩;refine⟨_,rfl,?_⟩;have nQ:=nH.kj mW;have B2:=B1.below mW;cases b with
 | false=>
  have hf:¬lQ e:=fun h=>by have:=hb.2 h;cases this
  apply G _;exact J ⟨by unfold m4;rw[aa hf],nQ⟩
 | true=>
  have hf:=hb.1 rfl;apply G _;apply Y B2.kind
  by_cases k2:e.kind=2
  rotate_left
  ·apply G _
   exact J ⟨by unfold m4;rw[ag hf,ag (.inl k2)],nQ⟩
  apply G _;apply Y B2.gone;cases hg:e.gone with
  | true=>
   apply G _;exact J ⟨by unfold m4;rw[ag hf,ag (.inr hg)],nQ⟩
  | false=>
   have yK:m4 e=if(mJ e.data).2≠0 then(mJ e.data).2 else if mz e.data=e.hash then 0 else 18:=by unfold m4;rw[ag hf,aa (by simp[k2,hg])]
   apply G _;apply jy B2.data lM;apply kH func104 (LN (hv.below nQ) hlen);rintro w3 oN
   have pE:=nQ.kj oN;have B3:=B2.below oN;have vO:(kT (mz e.data)).length=32:=by rw[aB];exact rT _
   apply G _;refine jJ (z:=.agg (kT Dig.nA).toArray) (Dig.yf) fun c w4 Nv=>?_;have D9:kJ w3 c w4 31 (kT Dig.nA):=Nv;clear Nv;apply jE (hm:=vO) (hold:=(by rfl)) D9.blk (lY.int _ _);have oM:jP w3 (w4.setRow c (kT (mz e.data)).toArray):=below_setRow D9.below (by rw[D9.eq];exact aj _) _;have H5:U 31 (w4.setRow c (kT (mz e.data)).toArray) c (kT (mz e.data)):=D9.blk.setRow _;generalize w4.setRow c (kT (mz e.data)).toArray=w5 at oM H5;have pK:=pE.kj oM;have B5:=B3.below oM;clear D9
   by_cases he:(mJ e.data).2=0
   rotate_left
   ·apply G _
    exact WQ.so rfl rfl ⟨by rw[yK,ag he];rfl,pK⟩
   rw[aa (by simpa using he)]at yK;apply G _;apply jy (U.rangeAt H5) vO;apply G _;apply WL.qX rfl rfl rfl rfl rfl rfl B5.hash (by rw[aB];exact hh);apply WL.amf rfl rfl rfl rfl rfl rfl (rT _) hh
   by_cases hq:mz e.data=e.hash
   ·apply WL.as 27 (.bool false) rfl (congrArg Value.bool (by simp[hq]))
    apply G _;exact J ⟨by rw[yK,ag hq],pK⟩
   ·apply WL.as 27 (.bool true) rfl (congrArg Value.bool (by simp[hq]))
    apply G _;exact J ⟨by rw[yK,aa hq],pK⟩
theorem O8 {b:Bk}(h:FE f w b cs)(hlen:∀e∈b.jH,chk 16 e.data=0->(encV 16 e.data).length<=70368744177664): Calls prog 72 #[.agg cs.toArray] w fun r w'=>r=.returned (Iq (qL b))/\jP w w':=by
 have lO:=h;have nL:=h.len;obtain⟨se,rfl,oG,oR,xK,hi,ht,hx⟩:=h;obtain⟨sp,cap,rfl⟩:=oG.slice;apply kq (args:=[.agg (qT b (.slice sp b.jH.length cap)).toArray]) func72 ntmps72;apply G _;refine jO fun g w1 hf=>?_;have lj:kJ w g w1 34 (qT b (.slice sp b.jH.length cap)):=hf;clear hf;have nH:=lj.below;have B1:nM 34 g w1 b (.slice sp b.jH.length cap):=⟨lj.blk,oR⟩;clear lj;have bad:¬((0<=b.index/\b.index<=2147483648)/\(0<=b.time/\b.time<=9007199254740992)/\(0<=b.tM/\b.tM<=9007199254740992)/\(1<=b.jH.length/\b.jH.length<=200))->Ending.returned (Iq 1)=.returned (Iq (qL b)):=fun h=>by unfold qL;rw[aa h]
 apply G _;apply Y B1.index;apply kH fC (r8 _ _ _ _);rintro w1 rfl
 by_cases c1:0<=b.index/\b.index<=2147483648
 rotate_left
 ·apply WL.as 7 (.bool false) rfl (congrArg Value.bool (ar c1))
  apply G _;exact J ⟨bad fun h=>c1 h.1,nH⟩
 apply WL.as 7 (.bool true) rfl (congrArg Value.bool (aw c1));apply G _;apply Y B1.time;apply(jX);apply kH fC (r8 _ _ _ _);rintro w1 rfl
 by_cases c2:0<=b.time/\b.time<=9007199254740992
 rotate_left
 ·apply WL.as 12 (.bool false) rfl (congrArg Value.bool (ar c2))
  apply G _;exact J ⟨bad fun h=>c2 h.2.1,nH⟩
 apply WL.as 12 (.bool true) rfl (congrArg Value.bool (aw c2));apply G _;apply Y B1.tM;apply(jX);apply kH fC (r8 _ _ _ _);rintro w1 rfl
 by_cases c3:0<=b.tM/\b.tM<=9007199254740992
 rotate_left
 ·apply WL.as 18 (.bool false) rfl (congrArg Value.bool (ar c3))
  apply G _;exact J ⟨bad fun h=>c3 h.2.2.1,nH⟩
 apply WL.as 18 (.bool true) rfl (congrArg Value.bool (aw c3));apply G _;apply Y B1.jH;apply G _;apply kH fC (r8 _ _ _ _);rintro w1 rfl
 by_cases c4:(1:Int)<=(b.jH.length:Int)/\(b.jH.length:Int)<=200
 rotate_left
 ·apply WL.as 25 (.bool false) rfl (congrArg Value.bool (ar c4))
  apply G _;exact J ⟨bad fun h=>c4 I,nH⟩
 apply WL.as 25 (.bool true) rfl (congrArg Value.bool (aw c4));have sR:qL b=if firstBad (b.jH.map m4)≠0 then firstBad (b.jH.map m4) else if 262144<(zW true b).length then 5 else 0:=by unfold qL;rw[ag ⟨c1,c2,c3,I⟩]
 have Ml:∀j,j<b.jH.length->(b.jH.map m4).getD j 0=m4 (b.jH.getD j kQ):=fun j hj=>by simp[hj]
 apply G _;refine WC.loop (fun i:Nat=>[(1,jV g),(3,Iq i)])
  (fun i w'=>i<=b.jH.length/\jP w1 w'/\∀j,j<i->m4 (b.jH.getD j kQ)=0) (fun i=>b.jH.length - i) 0 kz ⟨ay _,Below.refl _ _,fun j hj=>by omega⟩ ?_
 rintro i wr ⟨hi,lx,hz⟩;have uX:=nH.kj lx;have Br:=B1.below lx;apply G _;apply Y Br.jH
 by_cases kt:i<b.jH.length
 ·obtain⟨kb,ko,oa,cs,tC,qp,AY,CF,nW⟩:=oG.at kt
  injection tC with N9 _ N7
  subst N9;subst N7;have zJ:b.jH.getD i kQ∈b.jH:=by simp[kt]
  have hl:=hlen _ zJ;have hmi:=Ml i kt;apply G _;apply Y Br.jH;apply G _;apply jQ i (ko+i*46) kt;apply jy (fun j u hu=>(uX.cell (p:=Aq kb (ko+i*46+j)) qp).trans (nW j u hu)) AY;apply kH func107 (acf (xM.below uX CF) hl);rintro w7 wS
  have hw7:=uX.kj wS
  by_cases hc:m4 (b.jH.getD i kQ)=0
  ·apply G _
   refine WQ.again (i+1) kz ⟨kt,lx.kj wS,fun j hj=>?_⟩ (by show b.jH.length - (i+1)<b.jH.length - i;omega);rcases aW j i with h|h
   ·exact hz j h
   ·obtain rfl:j=i:=I
    exact hc
  ·have vB:firstBad (b.jH.map m4)=m4 (b.jH.getD i kQ):=by
    rw[<-hmi];exact rC (by simpa using kt) (fun j hj=>by rw[Ml j I];exact hz j hj) (by rw[hmi];exact hc)
   apply G _;exact J ⟨by rw[sR,vB,ag hc],hw7⟩
 ·obtain rfl:i=b.jH.length:=I
  have vB:=uc fun j hj=>by
   rw[aB]at hj;rw[Ml j hj];exact hz j hj
  have Kg:∀e∈b.jH,m4 e=0:=fun e he=>qi.1 vB _ (gB he);rw[aa (by simpa using vB)]at sR;apply G _;apply jy (U.rangeAt Br.blk) nL;apply jx func108 (Oy true (FE.below uX lO) Kg I);rintro _ w8 ⟨b8,rfl,yj,Bf,-⟩;refine⟨_,rfl,?_⟩;obtain⟨sp8,alv,rfl,-⟩:=yj.form;have XK:=uX.kj Bf
  by_cases ua:262144<(zW true b).length
  ·apply G _
   exact J ⟨by rw[sR,ag ua],XK⟩
  ·apply G _
   exact J ⟨by rw[sR,aa ua],XK⟩
end K
open Go.Maps
namespace Vw
open K
def qg (L:List Rw)(f:Int×Int->Bool):Int×Int->Bool:=fun a=>f a && L.any fun r=>decide (r.nD=a)
theorem RY (f:Int×Int->Bool): qg [] f=fun _=>false:=by funext a;simp[qg]
theorem OU {L:List Rw}{f:Int×Int->Bool}(hi:i<L.length): qg (L.take (i+1)) f=if f (L.getD i kE).nD=true then yE (qg (L.take i) f) (L.getD i kE).nD else qg (L.take i) f:=by
 funext a
 unfold qg yE;rw[aK,ai hi,lR hi,List.any_append];simp only[dm,List.any_cons,List.any_nil,ix]
 by_cases e:a=L[i].nD
 ·subst e
  cases hf:f L[i].nD with
  | true=>rw[ag rfl,ag rfl];simp
  | false=>rw[aa jM];simp[hf]
 ·have e':¬L[i].nD=a:=fun q=>e q.symm
  rw[ar e',ix]
  by_cases hf:f L[i].nD=true
  ·rw[ag hf,aa e]
  ·rw[aa hf]
theorem LA: xW (fun _=>false)=fun _=>none:=by funext a;rfl
theorem Ly (a b:Int): prog.built xZ [(0,Iq a),(1,Iq b)]=some [Iq a,Iq b].toArray:=jG
theorem U4 (p:Addr)(sp:Option Addr)(n c mb:Nat)(x:Int): prog.built rvT [(0,.pointer (some p)),(1,.slice sp n c),(2,Iq x),(3,.map (some mb))]=some [Value.pointer (some p),.slice sp n c,Iq x,.map (some mb)].toArray:=jG
theorem Vo (p:Addr)(mb:Nat): prog.built rvT [(0,.pointer (some p)),(3,.map (some mb))]=some [Value.pointer (some p),kP,Iq 0,.map (some mb)].toArray:=jG
theorem ahK {a b:Int}: lY [Iq a,Iq b]:=fun u hu=>by simp at hu;rcases hu with rfl|rfl<;>rfl
theorem Qg: Calls prog 39 #[] w fun e w'=>∃rb M,e=.returned (.pointer (some ⟨rb,0,none⟩))/\qx w' rb M (fun _=>False) f uO 0/\Below w.heap.size w w'/\∀b,M b->w.heap.size<=b:=by
 apply kq func39 ntmps39;apply G _;apply jR [Value.slice none 0 0] Cr.SR;refine jO fun cp w1 f1=>?_;have b1:=f1.below;apply WL.mkMap rfl rfl rfl rfl;have hm:=MF.made prog xZ nR w1;have b2:Below w1.heap.size w1 (w1.alloc (.map #[] 0)):=(Below.refl _ w1).alloc (aj _) _;have z2:(w1.alloc (.map #[] 0)).heap.size=w1.heap.size+1:=by show(w1.heap.push _).size=_;simp
 obtain⟨mb,Pd⟩:∃mb,mb=w1.heap.size:=⟨_,rfl⟩;rw[<-Pd]at hm ⊢;generalize w1.alloc (.map #[] 0)=w2 at hm b2 z2 ⊢;apply jR [Value.pointer (some ⟨cp,0,none⟩),.slice none 0 0,.int .i64 0,.map (some mb)] (Vo _ _);refine jO fun rb w3 f3=>?_;apply G _;have e1:=f1.eq;have s1:=f1.size;have e3:=f3.eq;have s3:=f3.size;have v1:U Cr.rcT w3 cp [Value.slice none 0 0]:=U.below (U.below f1.blk b2 f1.blk.lt) f3.below (by omega);have hc:Cr.rH w3 cp (fun b=>b=cp) []:=⟨.slice none 0 0,[],v1,jY.nil _ _ _ _,fun i hi=>absurd hi (dg i),rfl,fun b hb=>by omega,⟨by simp,fun i hi=>absurd hi (dg i)⟩⟩;refine WQ.so rfl rfl ⟨rb,fun b=>b=cp\/b=mb\/b=rb,rfl,⟨cp,fun b=>b=cp,.slice none 0 0,mb,0,f3.blk,hc,K.kC.nil _ _ _ _ _ _,?_,.inr (.inr rfl),.inr (.inl rfl),fun b hb=>.inl hb,(I:¬rb=cp),(I:¬mb=cp),(fun g hg=>by cases hg),?_,(fun _ _ h=>h),(fun r hr=>by cases hr),⟨aj _,aj _,aj _,by omega⟩⟩,(b1.trans (b2.mono b1.size)).trans (f3.below.mono (by omega)),fun b hb=>by omega⟩
 ·show MF prog xZ nR w3 mb 0 (xW fun _=>false)
  rw[LA];exact hm.below f3.below (by omega)
 ·rintro b ((hb|hb|hb)|hb)
  ·omega
  ·omega
  ·omega
  ·exact hb.elim
theorem BB {s:St}(h0:qx w rb M D f s N):
  Calls prog 41 #[.pointer (some ⟨rb,0,none⟩)] w fun e w'=>∃rb' M',e=.returned (.pointer (some ⟨rb',0,none⟩))/\qx w' rb' M' D f { s with red:=qg s.rows s.red } N/\Below w.heap.size w w'/\∀b,M' b->w.heap.size<=b:=by
 obtain⟨cp,Oc,rv,mb,kc,h⟩:=h0;have mL:=rq h.rows;obtain⟨sp,cap,rfl,-⟩:=id mL;have sG:=h.lt rb (.inl h.vK);have c0:=h.vb.cell 0 (by simp);have c1:=h.vb.cell 1 (by simp);have c2:=h.vb.cell 2 (by simp);have c3:=h.vb.cell 3 (by simp);simp only[aA,al]at c0 c1 c2 c3;have mq:=h.ok;apply kq func41 ntmps41;apply G _;apply WL.mkMap rfl rfl rfl rfl;have hm:=MF.made prog xZ nR w;have b1:Below w.heap.size w (w.alloc (.map #[] 0)):=(Below.refl _ w).alloc (aj _) _;have z1:(w.alloc (.map #[] 0)).heap.size=w.heap.size+1:=by show(w.heap.push _).size=_;simp
 obtain⟨mn,zm⟩:∃mn,mn=w.heap.size:=⟨_,rfl⟩;rw[<-zm]at hm ⊢;generalize w.alloc (.map #[] 0)=w1 at hm b1 z1 ⊢;apply G _;refine WC.loop (fun i:Nat=>[(0,.pointer (some ⟨rb,0,none⟩)),(3,.map (some mn)),(4,.int .i64 i)]) (fun i w'=>i<=s.rows.length/\Below w.heap.size w w'/\mn<w'.heap.size/\MF prog xZ nR w' mn i (xW (qg (s.rows.take i) s.red))) (fun i=>s.rows.length - i) 0 ⟨rfl,rfl,rfl,trivial⟩
  ⟨ay _,b1,by omega,by rw[cj,RY,LA];exact hm⟩ ?_
 clear hm b1 z1 w1;rintro i wl ⟨hi,bl,hlm,sj⟩;have c1l:=(bl.cell (p:=Aq rb 1) sG).trans c1
 by_cases j6:i<s.rows.length
 case neg=>
  obtain rfl:i=s.rows.length:=by omega
  rw[aN]at sj;apply jF _;refine WC.drawn 16 (fun wx=>Below w.heap.size w wx) fun wa hd=>?_;have hS:jP w wa:=bl.trans (hd.below _);have EI:=sj.below (hd.below wl.heap.size) hlm;have ui:mn<wa.heap.size:=by rw[hd.heap];exact hlm
  clear hd sj;obtain⟨mZ,q1,q2,ah8⟩:=h.rows;apply jC [0,1,2] hS _;apply jz 3 [4,10,16,17,18] (lX sG c0) hS;apply jC [6,7,8] hS _;apply jz 9 [10,16,17,18] (lX sG c1) hS;apply jC [11,12,13] hS _;apply jz 14 [16,17,18] (lX sG c2) hS;apply jC [15] hS _;refine WD.two 4 5 jG rfl rfl ?_ ?_
  ·skip
   apply jx func71 (Cr.N3 (h.below hS).cat);rintro _ wb ⟨QK,CO,rfl,PO,rA,oc'⟩;refine⟨_,rfl,?_⟩;have cb:=hS.trans (rA.mono hS.size);have zb:=rA.size;apply lI cb;apply jS 5;refine WL.empty rfl rfl rfl rfl rfl fun ge wc fe=>?_;have cc:=cb.trans (fe.below.mono cb.size);have zc:=fe.size;have ee:=fe.eq;apply lI cc;have ZN:=PO.below fe.below;have ajx:=(EI.below rA ui).below fe.below (by omega);have KJ:∀b,CO b->b≠ge:=fun b hb=>by have:=PO.lt b hb;omega
   have Kq:ge≠mn:=by omega
   have ah2:∀b,CO b->w.heap.size<=b:=fun b hb=>by have:=oc' b hb;have:=hS.size;omega
   have agQ:¬CO mn:=fun hh=>by have:=oc' mn hh;omega
   have LO:jY EY 14 wc (fun b=>w.heap.size<=b/\¬CO b/\b≠mn) (.slice (some ⟨ge,0,none⟩) 0 0) 0 []:=Cr.jY.fresh fe (fun u hu=>absurd hu a_) (by simp) (by omega) ⟨by have:=cb.size;omega,fun hh=>KJ ge hh rfl,Kq⟩;have G8:=ZN.lt
   skip
   have NY:∀ {v':Value}{w9:World},kX wc (nj ge 0 0 0) w9 v'->Cr.rH w9 QK CO s.cat:=fun g9=>ZN.jA g9.1 fun b hb=>⟨G8 b hb,fun e=>KJ b hb (az e).symm⟩;have Xa:∀ {v':Value}{w9:World},kX wc (.slice (some ⟨ge,0,none⟩) 0 0) w9 v'->MF prog xZ nR w9 mn s.rows.length (xW (qg s.rows s.red)):=fun g9=>ajx.jA g9.1 ⟨by omega,fun e=>Kq (az e)⟩;apply jS 10;refine l_ KU LO (ah8.EM.below cc (aj _)) fun v9 w9 o9 g9=>?_;refine WL.nil (WQ.dk (.inr ?_) ?_)
   ·exact cc.trans (g9.old cc.size fun g hg=>(LO.own hg).1)
   have b9:jP w w9:=cc.trans (g9.old cc.size fun g hg=>(LO.own hg).1);rw[bA,aT]at o9;obtain⟨sp9,qu,rfl,-,-⟩:=o9.slice;apply jS 16;apply jR [Value.pointer (some (Aq QK 0)),.slice sp9 s.rows.length qu,Iq s.n,.map (some mn)] (U4 _ _ _ _ _ _);apply(jZ);apply jS 17;refine jO fun rb' tF f10=>?_;apply(jZ)
   (apply ke 18 rfl _)
   apply(jD);apply G _;have e10:=f10.eq;have z9:=g9.1.size;have za:=ui;have zw:=hS.size;have HY:Cr.rH tF QK CO s.cat:=(NY g9).below f10.below;have W5:∀g,(Value.slice sp9 s.rows.length qu).ownBlock=some g->w.heap.size<=g/\g<w9.heap.size/\¬CO g/\g≠mn:=fun g hg=>by
     have q:=o9.lt hg;rcases o9.own hg with q1|q1
     ·exact⟨q1.1,q,q1.2⟩
     ·exact⟨by omega,q,fun hh=>by have:=G8 g hh;omega,by omega⟩
   refine WQ.so rfl rfl ⟨rb',fun b=>w.heap.size<=b/\b<tF.heap.size,rfl,⟨QK,CO,_,mn,s.rows.length,f10.blk,HY,?_,(Xa g9).below f10.below (by omega),⟨by omega,by have:=f10.size;omega⟩,⟨by omega,by have:=f10.size;omega⟩,fun b hb=>⟨ah2 b hb,HY.lt b hb⟩,fun hh=>by have:=(NY g9).lt _ hh;omega,fun hh=>agQ hh,fun g hg=>(W5 g hg).2.2.1,?_,fun b hb hd=>by have:=h.lt b (.inr hd);omega,h.zF,⟨mq.1,mq.2.1,mq.2.1,mq.2.2.2⟩⟩,by rw[zm];exact b9.trans (f10.below.mono b9.size),fun b hb=>by rw[zm];exact hb.1⟩
   ·refine⟨mZ,q1,fun j hj=>⟨(q2 j hj).1,(q2 j hj).2.jA (Z.jw (b9.trans (f10.below.mono b9.size))) (fun x hx _=>h.lt x (.inr hx)) (fun _ h=>h)⟩,?_⟩
    have:=o9.jA (Z.jw f10.below) (fun g hg=>o9.lt hg);exact⟨this.1,this.2.1,fun g hg=>⟨(W5 g hg).1,by have:=(W5 g hg).2.1;have:=f10.size;omega⟩⟩
   ·rintro b (hb|hb)
    ·exact hb.2
    ·have:=h.lt b (.inr hb);have:=f10.size;omega
  ·skip
   refine WL.empty rfl rfl rfl rfl rfl fun ge wc0 fe=>?_;have cc:=hS.trans (fe.below.mono hS.size);have zc:=fe.size;have ee:=fe.eq;apply lI cc;apply jS 4;apply jx func71 (Cr.N3 (h.below cc).cat);rintro _ wb ⟨QK,CO,rfl,PO,rA,oc'⟩;refine⟨_,rfl,?_⟩;have cb:=cc.trans (rA.mono cc.size);have zb:=rA.size;apply lI cb;have aag:=PO;have akE:=(EI.below fe.below ui).below rA (by omega);have KJ:∀b,CO b->b≠ge:=fun b hb=>by have:=oc' b hb;omega
   have Kq:ge≠mn:=by omega
   have ah2:∀b,CO b->w.heap.size<=b:=fun b hb=>by have:=oc' b hb;have:=cc.size;omega
   have agQ:¬CO mn:=fun hh=>by have:=oc' mn hh;omega
   have LO:jY EY 14 wb (fun b=>w.heap.size<=b/\¬CO b/\b≠mn) (nj ge 0 0 0) 0 []:=(Cr.jY.fresh fe (fun u hu=>absurd hu a_) jM I ⟨by have:=hS.size;omega,fun hh=>KJ ge hh rfl,Kq⟩:jY EY 14 wc0 (fun b=>w.heap.size<=b/\¬CO b/\b≠mn) (nj ge 0 0 0) 0 []).jA (Z.jw rA) (fun g hg=>by cases hg;exact fe.blk.lt);have G8:=aag.lt
   skip
   have NY:∀ {v':Value}{w9:World},kX wb (nj ge 0 0 0) w9 v'->Cr.rH w9 QK CO s.cat:=fun g9=>aag.jA g9.1 fun b hb=>⟨G8 b hb,fun e=>KJ b hb (az e).symm⟩;have Xa:∀ {v':Value}{w9:World},kX wb (.slice (some ⟨ge,0,none⟩) 0 0) w9 v'->MF prog xZ nR w9 mn s.rows.length (xW (qg s.rows s.red)):=fun g9=>akE.jA g9.1 ⟨by omega,fun e=>Kq (az e)⟩;apply jS 10;refine l_ KU LO (ah8.EM.below cb (aj _)) fun v9 w9 o9 g9=>?_;refine WL.nil (WQ.dk (.inr ?_) ?_)
   ·exact cb.trans (g9.old cb.size fun g hg=>(LO.own hg).1)
   have b9:jP w w9:=cb.trans (g9.old cb.size fun g hg=>(LO.own hg).1);rw[bA,aT]at o9;obtain⟨sp9,qu,rfl,-,-⟩:=o9.slice;apply jS 16;apply jR [Value.pointer (some (Aq QK 0)),.slice sp9 s.rows.length qu,Iq s.n,.map (some mn)] (U4 _ _ _ _ _ _);apply(jZ);apply jS 17;refine jO fun rb' tF f10=>?_;apply(jZ)
   (apply ke 18 rfl _)
   apply(jD);apply G _;have e10:=f10.eq;have z9:=g9.1.size;have za:=ui;have zw:=hS.size;have HY:Cr.rH tF QK CO s.cat:=(NY g9).below f10.below;have W5:∀g,(Value.slice sp9 s.rows.length qu).ownBlock=some g->w.heap.size<=g/\g<w9.heap.size/\¬CO g/\g≠mn:=fun g hg=>by
     have q:=o9.lt hg;rcases o9.own hg with q1|q1
     ·exact⟨q1.1,q,q1.2⟩
     ·exact⟨by omega,q,fun hh=>by have:=G8 g hh;omega,by omega⟩
   refine WQ.so rfl rfl ⟨rb',fun b=>w.heap.size<=b/\b<tF.heap.size,rfl,⟨QK,CO,_,mn,s.rows.length,f10.blk,HY,?_,(Xa g9).below f10.below (by omega),⟨by omega,by have:=f10.size;omega⟩,⟨by omega,by have:=f10.size;omega⟩,fun b hb=>⟨ah2 b hb,HY.lt b hb⟩,fun hh=>by have:=(NY g9).lt _ hh;omega,fun hh=>agQ hh,fun g hg=>(W5 g hg).2.2.1,?_,fun b hb hd=>by have:=h.lt b (.inr hd);omega,h.zF,⟨mq.1,mq.2.1,mq.2.1,mq.2.2.2⟩⟩,by rw[zm];exact b9.trans (f10.below.mono b9.size),fun b hb=>by rw[zm];exact hb.1⟩
   ·refine⟨mZ,q1,fun j hj=>⟨(q2 j hj).1,(q2 j hj).2.jA (Z.jw (b9.trans (f10.below.mono b9.size))) (fun x hx _=>h.lt x (.inr hx)) (fun _ h=>h)⟩,?_⟩
    have:=o9.jA (Z.jw f10.below) (fun g hg=>o9.lt hg);exact⟨this.1,this.2.1,fun g hg=>⟨(W5 g hg).1,by have:=(W5 g hg).2.1;have:=f10.size;omega⟩⟩
   ·rintro b (hb|hb)
    ·exact hb.2
    ·have:=h.lt b (.inr hb);have:=f10.size;omega
 case pos=>
  obtain⟨b9,o9,qu,DQ,es,sw,-,R9,-,AN,-⟩:=nw mL j6;obtain⟨rfl,rfl⟩:sp=some (Aq b9 o9)/\cap=qu:=by simpa using es
  clear es;have CK:=OU (f:=s.red) j6;generalize s.rows.getD i kE=r at R9 AN CK;apply jF _;refine WC.drawn 18 (fun wx=>Below w.heap.size w wx) fun wa hd=>?_;have hS:jP w wa:=bl.trans (hd.below _);have EI:=sj.below (hd.below wl.heap.size) hlm;have ui:mn<wa.heap.size:=by rw[hd.heap];exact hlm
  clear hd sj;apply jC [0,1,2] hS _;apply jz 3 [5,6,7,16,18] (lX sG c1) hS;apply jC [4] hS _;apply kY 5 i (o9+i*14) j6 (.inr hS);apply jC [6] hS _;apply jz 7 [16,18] (fun wx hx=>(hx.cell (p:=Aq b9 (o9+i*14+11)) sw).trans R9.blk) hS;apply jC [8,9,10] hS _;apply jz 11 [13,14,15,16,18] (lX sG c1) hS;apply jC [12] hS _;apply kY 13 i (o9+i*14) j6 (.inr hS);apply jC [14] hS _;apply jz 15 [16,18] (fun wx hx=>(hx.cell (p:=Aq b9 (o9+i*14+12)) sw).trans R9.pH) hS;refine Cr.xy [.int .i64 r.blk,.int .i64 r.pH] 16 rfl (by kernel_rfl) rfl rfl (fun _ _ _ _ _ h=>h) rfl rfl rfl (Ly _ _) (.inr hS) ?_;apply jS 17;refine jJ (z:=.agg [Iq 0,Iq 0].toArray) (fun _=>jG) fun g5 wb f5=>?_;have c5:=hS.trans (f5.below.mono hS.size);apply lI c5;apply jS 18;apply jE f5.blk ahK;apply(jZ);apply(jD);obtain⟨v5,b5,d5,q5⟩:=nv [.int .i64 r.blk,.int .i64 r.pH] (Below.refl wa.heap.size wa) f5;have Pd:=EI.below b5 ui;have cb:=hS.trans (b5.mono hS.size);have zb:=b5.size;generalize wb.setRow g5 _=wc at v5 b5 Pd cb zb ⊢;clear f5 d5 EI hS;have l5:=U.lt v5;apply G _;refine WC.drawn 6 (fun wx=>Below wc.heap.size wc wx) fun wd hd=>?_;have hS:Below wc.heap.size wc wd:=hd.below _;have hmd:=Pd.below hS (by omega);have yt:∀ {wx:World},Below wc.heap.size wc wx->(Instr.lookup 55 (.map (some mb)) (nR (r.blk,r.pH)) false).run prog wx=.ok ((xW s.red (r.blk,r.pH)).getD (.int .i64 0)) wx:=fun hx=>
   (h.below (cb.trans (hx.mono cb.size))).red.look xj gG (z:=.int .i64 0) (by kernel_rfl) (DT (x:=(r.blk,r.pH)) AN.blk AN.pH)
  have xV:i+1<=1000000:=by omega
  cases F6:s.red (r.blk,r.pH) with
  | false=>
   have ahj:∀ {wx:World},Below wc.heap.size wc wx->(Instr.lookup 55 (.map (some mb)) (nR (r.blk,r.pH)) false).run prog wx=.ok (.int .i64 0) wx:=fun hx=>by rw[yt hx];unfold xW;rw[F6];rfl
   apply jC [0,1,2] hS _;apply jz 3 [5,6] (fun wx hx=>((cb.kj hx).cell (p:=Aq rb 3) sG).trans c3) hS;apply kG 4 [5,6] (fun wx hx=>U.rangeAt (U.below v5 hx l5)) rfl hS;apply nJ 5 [6] (fun wx hx=>ahj hx) hS;apply jS 6;apply(jN);apply(jZ);apply(jD);rw[aa (by rw[show r.nD=(r.blk,r.pH) from rfl,F6];simp)]at CK;apply G _;exact WQ.again (i+1) ⟨rfl,rfl,rfl,trivial⟩ ⟨j6,cb.trans (hS.mono cb.size),by have:=hS.size;omega,by rw[CK];exact hmd.mono (by omega)⟩ (by omega)
  | true=>
   have ahj:∀ {wx:World},Below wc.heap.size wc wx->(Instr.lookup 55 (.map (some mb)) (nR (r.blk,r.pH)) false).run prog wx=.ok (.int .i64 1) wx:=fun hx=>by rw[yt hx];unfold xW;rw[F6];rfl
   apply jC [0,1,2] hS _;apply jz 3 [5,6] (fun wx hx=>((cb.kj hx).cell (p:=Aq rb 3) sG).trans c3) hS;apply kG 4 [5,6] (fun wx hx=>U.rangeAt (U.below v5 hx l5)) rfl hS;apply nJ 5 [6] (fun wx hx=>ahj hx) hS;apply jS 6;apply(jN);apply(jZ);apply(jD);rw[ag (by rw[show r.nD=(r.blk,r.pH) from rfl,F6])]at CK;obtain⟨we,my,hmf,XX⟩:=MF.put tV hmd xj gG (by unfold maxLen;omega) (key:=(r.blk,r.pH)) (.int .i64 1) (DT (x:=(r.blk,r.pH)) AN.blk AN.pH);rw[Wf]at hmf;apply G _;apply jy (U.rangeAt (U.below v5 hS l5)) rfl;apply WL.ml rfl rfl rfl rfl rfl rfl my;apply G _;exact WQ.again (i+1) ⟨rfl,rfl,rfl,trivial⟩ ⟨j6,((Z.jw (cb.trans (hS.mono cb.size))).trans (XX.mono fun x (hx:x<w.heap.size) e=>by omega)).below,by have:=hS.size;have:=XX.size;omega,by rw[CK];exact hmf⟩ (by omega)
theorem VN {s:St}(h0:qx w rb M D f s N)(hN:N+1<=1000000)(RH:∀x,E x->¬M x){b:Bk}(hb:pr E f w b bc)(k:Nat)(hk:k<b.jH.length)(o_:k<=1000000)(nE:Sm 3000 f (b.jH.getD k kQ).data):
  Calls prog 70 #[jV rb,.agg bc.toArray,Iq k] w (vF w rb M D f (entR s (b.jH.getD k kQ) b.index k b.time).1 (entR s (b.jH.getD k kQ) b.index k b.time).2 (N+1)):=by
 have uR:=hb.len;apply kq (args:=[jV rb,.agg bc.toArray,Iq k]) func70 ntmps70;apply mA _;refine jO fun g4 w1 f1=>?_;have f1':kJ w g4 w1 zq bc:=f1;clear f1;apply G _;apply jy (U.rangeAt f1'.blk) uR;have oc:pr E f w1 b bc:=by
  obtain⟨se,q1,q2,q3⟩:=hb;exact⟨se,q1,q2.jA (Z.jw f1'.below) (fun _ _ h=>h) (fun _ h=>h) fun _ _ hp=>p_.mono (fun _ _ hv=>hv.jA (Z.jw f1'.below) (fun _ _ h=>h) (fun _ h=>h)) hp,q3⟩
 apply G _;apply jx func73 (J0 (h0.below f1'.below) hN RH oc k hk o_ nE);rintro _ w2 ⟨M',D',rfl,h2,k2,m2,d2⟩;refine⟨_,rfl,?_⟩;have z1:=f1'.below.size;apply G _;exact J ⟨M',D',rfl,h2,(Z.jw f1'.below).mono (fun x hx=>hx.1) |>.trans (k2.mono fun x hx=>⟨I,hx.2⟩),fun x hx=>(m2 x hx).imp id fun h=>by omega,fun x hx=>(d2 x hx).imp id fun h=>by omega⟩
theorem pr.below {b:Bk}(hb:pr E f w b bc)(hk:jP w w'): pr E f w' b bc:=by
 obtain⟨se,q1,q2,q3⟩:=hb;exact⟨se,q1,q2.jA (Z.jw hk) (fun _ _ h=>h) (fun _ h=>h) fun _ _ hp=>p_.mono (fun _ _ hv=>hv.jA (Z.jw hk) (fun _ _ h=>h) (fun _ h=>h)) hp,q3⟩
theorem pr.jA {b:Bk}(hb:pr E f w b bc){K:Nat->Prop}(hk:Z K w w')(hK:∀x,E x->x<w.heap.size->K x): pr E f w' b bc:=by
 obtain⟨se,q1,q2,q3⟩:=hb;exact⟨se,q1,q2.jA hk hK nN fun _ _ hp=>p_.mono (fun _ _ hv=>hv.jA hk hK nN) hp,q3⟩
theorem pr.isB {b:Bk}(hb:pr E f w b bc): FE f w b bc:=by
 obtain⟨se,q1,q2,q3⟩:=hb;exact⟨se,q1,q2.mono (fun _ _=>trivial) (fun _ _ hp=>p_.mono (fun _ _ hv=>hv.sN) hp),q3⟩
structure MU (f:Nat) (b:Bk):Prop where
 jH:b.jH.length<=3000
 sm:∀k,k<b.jH.length->Sm 3000 f (b.jH.getD k kQ).data
 len:∀e∈b.jH,chk 16 e.data=0->(encV 16 e.data).length<=70368744177664
theorem L8 {b:Bk}(hi:i<b.jH.length)(s:St): runR b (b.jH.drop i) i s=if(entR s (b.jH.getD i kQ) b.index i b.time).1=0 then runR b (b.jH.drop (i+1)) (i+1) (entR s (b.jH.getD i kQ) b.index i b.time).2 else((entR s (b.jH.getD i kQ) b.index i b.time).1,(entR s (b.jH.getD i kQ) b.index i b.time).2):=by
 rw[bI hi,<-lR (d:=kQ) hi]
 rfl
theorem Ap {s:St}(h0:qx w rb M D f s N)(RH:∀x,E x->x<w.heap.size){b:Bk}(hb:pr E f w b bc)(nE:MU f b)(hN:N+b.jH.length+1<=1000000)(Fg:qg s.rows s.red=s.red):
  Calls prog 42 #[jV rb,.agg bc.toArray] w (vF w rb M D f (mX s b).1 (mX s b).2 (N+b.jH.length+1)):=by
 obtain⟨cp,Oc,rv,mb,kc,h⟩:=id h0;have j6:=h.lt;have uR:=hb.len;have bq:=hb;obtain⟨se,rfl,oG,oR,xK,Yn,rti,-⟩:=bq;obtain⟨sp,cap,rfl,vN,rE,De,-⟩:=oG;apply kq (args:=[jV rb,.agg (qT b (.slice sp b.jH.length cap)).toArray]) func42 ntmps42;apply mA _;refine jO fun g3 w1 f1=>?_;have B1:nM zq g3 w1 b (.slice sp b.jH.length cap):=⟨f1.blk,oR⟩;have b1:=f1.below;have e3:=f1.eq;clear f1;have RG:=U.lt B1.blk;have h1:=h.below b1;have c2:=h1.vb.cell 2 jM;simp only[aA,al]at c2;have sG:=h1.lt rb (.inl h1.vK);have ei:=B1.index;have ee:=B1.jH;have z1:=b1.size;have bad:∀ {wx:World}{c:Int},jP w1 wx->(mX s b)=(c,s)->vF w rb M D f (mX s b).1 (mX s b).2 (N+b.jH.length+1) (.returned (Iq c)) wx:=fun hx hc=>by
  rw[hc];exact vF.of (qx.mono ⟨_,_,_,_,_,h1.below hx⟩ I hN) ((Z.jw (b1.trans (hx.mono z1))).mono fun x hx=>hx.1) (fun _ h=>.inl h) rfl rfl
 apply G _;refine WC.drawn 6 (jP w1) fun wa hd=>?_;have hS:jP w1 wa:=hd.below _;apply jC [0] hS _;apply jz 1 [6] (lX RG ei) hS;apply jC [2,3,4] hS _;apply jz 5 [6] (lX sG c2) hS;apply jS 6;apply(jN);apply(jZ);apply(jD)
 by_cases Iv:b.index=s.n
 case neg=>
  apply G _;apply WC.sE rfl Iv;apply G _;exact J (bad hS (by unfold mX;rw[ag Iv]))
 case pos=>
 apply G _;apply WC.q_ rfl (fun q=>q Iv);apply G _;apply jy (U.rangeAt (U.below B1.blk hS RG)) uR;have F4:=pr.below hb (b1.trans (hS.mono z1));apply kH func72 (O8 (pr.isB F4) nE.len);rintro wb bb
 have rQ:=hS.kj bb
 by_cases Cm:qL b=0
 case neg=>
  have hr:mX s b=(qL b,s):=by unfold mX;rw[aa (fun q=>q Iv),ag Cm]
  generalize qL b=cb at Cm hr;apply G _;exact J (bad rQ hr)
 case pos=>
 rw[Cm];apply G _;apply jx func41 (BB ⟨_,_,_,_,_,h1.below rQ⟩);rintro _ wc ⟨xb,Mx,rfl,hx,bc2,mx⟩;refine⟨_,rfl,?_⟩;rw[Fg]at hx;change qx wc xb Mx D f s N at hx;have AG:=rQ.kj bc2;have zc:=AG.size;have zb:=rQ.size;have Ux:mX s b=if(runR b b.jH 0 s).1=0 then(0,{ (runR b b.jH 0 s).2 with n:=s.n+1 }) else((runR b b.jH 0 s).1,s):=by
  unfold mX;rw[aa (fun q=>q Iv),aa (fun q=>q Cm)]
 apply G _;refine WC.loop (fun i:Nat=>[(0,jV rb),(3,jV g3),(6,jV xb),(7,Iq i)])
  (fun i w'=>i<=b.jH.length/\jP w1 w'/\∃si Mi Di,qx w' xb Mi Di f si (N+i)/\runR b b.jH 0 s=runR b (b.jH.drop i) i si/\(∀x,Mi x->w1.heap.size<=x)/\∀x,Di x->D x\/w1.heap.size<=x) (fun i=>b.jH.length - i) 0 kz
  ⟨ay _,AG,s,Mx,D,hx,rfl,fun x h=>by have:=mx x h;omega,fun x h=>.inl h⟩ ?_
 clear hx mx bc2 AG rQ bb F4 hS zc zb;rintro i wl ⟨hi,bl,si,Mi,Di,MB,my,mi,di⟩;have eel:=(bl.cell (p:=Aq g3 35) RG).trans ee;have zl:=bl.size
 by_cases uU:i<b.jH.length
 case pos=>
  have hbi:=pr.below hb (b1.trans (bl.mono z1));rw[L8 uU]at my;apply jF _;apply jy (U.rangeAt (U.below B1.blk bl RG)) uR;apply G _;apply jx func73 (J0 MB I (fun x hx hm=>by have:=RH x hx;have:=mi x hm;omega) hbi i uU (by have:=nE.jH;omega) (nE.sm i uU));rintro _ w2 ⟨M2,D2,rfl,h2,k2,m2,d2⟩;refine⟨_,rfl,?_⟩;have FG:jP w1 w2:=((Z.jw bl).trans (k2.mono fun x (hx:x<w1.heap.size)=>⟨I,fun hm=>by have:=mi x hm;omega⟩)).below;generalize entR si (b.jH.getD i kQ) b.index i b.time=er at my h2;obtain⟨ec,es⟩:=er;simp only at my h2
  by_cases F9:ec=0
  case pos=>
   rw[ag F9]at my;apply G _;exact WQ.again (i+1) kz ⟨uU,FG,es,M2,D2,h2,my,fun x hx=>(m2 x hx).elim (mi x) (fun h=>by omega),fun x hx=>(d2 x hx).elim (di x) (fun h=>.inr I)⟩ I
  case neg=>
   rw[aa F9]at my;apply G _;exact J (bad FG (by rw[Ux,my,aa F9]))
 case neg=>
  obtain rfl:i=b.jH.length:=I;rw[ey]at my;have yi:runR b b.jH 0 s=(0,si):=my;rw[Ux,yi,ag rfl];obtain⟨NU,Ox,rvx,S_,kx,hX⟩:=MB;have cx2:=hX.vb.cell 2 jM;simp only[aA,al]at cx2;have hnN:=hX.ok;have Ou:si.n=s.n:=Z0 yi;rw[Ou]at cx2 hnN;apply jF _;apply jT cx2 (U.free hX.vb 2);have vx:=hX.vb.set 2 (Iq ((s.n:Int)+1));have X_:Z (fun x=>x≠xb) wl (wl.setCell (Aq xb 2) (Iq ((s.n:Int)+1))):=(Z.refl _ _).setCell jM _;generalize wl.setCell (Aq xb 2) (Iq ((s.n:Int)+1))=wm at vx X_ ⊢;change U rvT wm xb [jV NU,rvx,Iq ((s.n:Int)+1),.map (some S_)]at vx;apply G _;apply jy (U.rangeAt vx) rfl;have GU:=mi xb hX.vK;have vrb:U rvT wm rb [jV cp,rv,Iq s.n,.map (some mb)]:=(U.below h1.vb bl sG).jA X_ (fun e=>by omega);have m9:lY [Value.pointer (some ⟨NU,0,none⟩),rvx,.int .i64 ((s.n:Int)+1),.map (some S_)]:=fun u hu=>by
   simp at hu
   rcases hu with rfl|rfl|rfl|rfl<;>first|rfl|exact K.kC.one hX.rows
  apply G _;apply jE vrb m9;have vf:=vrb.setRow [Value.pointer (some ⟨NU,0,none⟩),rvx,.int .i64 ((s.n:Int)+1),.map (some S_)];have kf:Z (fun x=>x≠xb/\x≠rb) wl (wm.setRow rb [Value.pointer (some ⟨NU,0,none⟩),rvx,.int .i64 ((s.n:Int)+1),.map (some S_)].toArray):=Cr.mo (X_.mono fun x hx=>hx.1) (fun hh=>hh.2 rfl) _;generalize wm.setRow rb _=wf at vf kf ⊢;apply G _;have hl:=hX.lt;obtain⟨n1,n2⟩:=hX.ne;have nrb:∀x,w1.heap.size<=x->x≠rb:=fun x hx e=>I;have nmx:S_≠xb:=fun e=>Cat.MF.mP hX.red (show wl.heap[xb]? = _ from hX.vb) e;have hDk:∀x,Di x->x<wl.heap.size->x≠xb/\x≠rb:=fun x hx _=>⟨fun e=>hX.sep xb hX.vK (e ▸ hx),fun e=>(di x hx).elim (fun hd=>h.sep rb h.vK (e ▸ hd)) (fun hd=>nrb x hd e)⟩;have hV:RV wf rb (fun x=>x=rb\/Mi x) Di f { si with n:=s.n+1 } NU Ox rvx S_ kx (N+b.jH.length+1) :=
   ⟨by rw[show(((s.n+1:Nat)):Int)=(s.n:Int)+1 by omega];exact vf,hX.cat.jA kf fun x hx=>⟨fun e=>hX.UG (e ▸ hx),nrb x (mi x (hX.tU x hx))⟩,
    Go.Proofs.YtlenklobbngopaaGreat.K.kC.jA hX.rows kf (fun g hg=>⟨fun e=>n1 (e ▸ hg),nrb g (mi g (hX.rows.own hg))⟩) (fun _ hm=>.inr hm) fun _ _ hp=>hp.jA kf hDk nN,
    hX.red.jA kf ⟨nmx,nrb S_ (mi S_ hX.IS)⟩,.inl rfl,.inr hX.IS,fun x hx=>.inr (hX.tU x hx),fun hh=>nrb rb (mi rb (hX.tU rb hh)) rfl,hX.TY,hX.GY,
    fun x hx=>ao (by rcases hx with(hx|hx)|hx<;>(first|omega|exact hl x (.inl hx)|exact hl x (.inr hx))) kf.size,
    fun x hx hd=>by
     rcases hx with hx|hx
     ·exact(hDk x hd (hl x (.inr hd))).2 hx
     ·exact hX.sep x hx hd,hX.zF,⟨by show s.n+1<=_;omega,by have:=hnN.2.1;show si.rows.length<=_;omega,I,I⟩⟩
  exact J ⟨_,Di,rfl,⟨_,_,_,_,_,hV⟩,((Z.jw (b1.trans (bl.mono z1))).mono fun x hx=>hx.1).trans (kf.mono fun x hx=>⟨fun e=>by omega,fun e=>hx.2 (e ▸ h.vK)⟩),fun x hx=>hx.elim (fun e=>.inl (e ▸ h.vK)) (fun hm=>.inr (by have:=mi x hm;omega)),fun x hx=>(di x hx).imp id fun hh=>by omega⟩
end Vw
namespace Vw
open K (En Bk zV lQ wH)
open Cat (Tb mu oV kM)
structure Inv (s:St):Prop where
 m5:∀r∈s.rows,(kM s.cat r.m5).2.2=0
 doc:∀r∈s.rows,1<=r.doc/\r.doc<=j9 r.m5 s.rows
 kA:∀k,(Vw.of s.rows k).map Rw.kA=(List.range (Vw.of s.rows k).length).map fun i:Nat=>(i:Int)
 rF:(s.rows.map Rw.nD).Nodup
 red:∀a,s.red a=true->∃r∈s.rows,r.nD=a
def Hr (s:St)(bi k:Int):Prop:=∀r∈s.rows,r.blk<bi\/(r.blk=bi/\r.pH<k)
theorem G1 (L:List Rw)(r:Rw)(k:Int×Int): Vw.of (L++[r]) k=Vw.of L k++if r.key=k then[r] else[]:=by
 unfold Vw.of;rw[cm,cM]
 by_cases h:r.key=k
 ·rw[ag h,ag (by simpa using h)];rfl
 ·rw[aa h,aa (by simpa using h)];rfl
theorem Bo (t:Int)(L:List Rw)(r:Rw): j9 t (L++[r])=j9 t L+if r.m5=t/\r.kA=0 then 1 else 0:=by
 unfold j9;rw[cm,cM,af]
 by_cases h:r.m5=t/\r.kA=0
 ·rw[ag h,ag (by simpa using h)];rfl
 ·rw[aa h,aa (by simpa using h)];rfl
theorem Inv.last {s:St}(h:Inv s){k:Int×Int}{r:Rw}(hl:(Vw.of s.rows k).getLast? = some r): r.kA+1=(Vw.of s.rows k).length:=by
 have hv:=h.kA k;have h1:((Vw.of s.rows k).map Rw.kA).getLast? = some r.kA:=by rw[List.getLast?_map,hl];rfl
 rw[hv]at h1;obtain⟨n,hn⟩:∃n,n=(Vw.of s.rows k).length:=⟨_,rfl⟩;rw[<-hn]at h1 ⊢;cases n with
 | zero=>simp at h1
 | succ n=>
  rw[eL,aV]at h1;simp at h1
  omega
theorem Inv.none {s:St}(h:Inv s){t d:Int}(hd:d<1\/(j9 t s.rows:Int)<d): Vw.of s.rows (t,d)=[]:=by
 unfold Vw.of;rw[cZ];intro r hr hk;have Ea:r.key=(t,d):=by simpa using hk
 have h1:r.m5=t:=congrArg Prod.fst Ea;have h2:r.doc=d:=congrArg Prod.snd Ea;have:=h.doc r hr;rw[h1,h2]at this;omega
def Lw (s:St)(e:En):Bool :=
 if e.kind=2/\e.kA=0 then decide (e.doc=next s e.table)
 else match(Vw.of s.rows (e.table,e.doc)).getLast? with
  | some r=>!r.del && decide (e.kA=(Vw.of s.rows (e.table,e.doc)).length)
  | none=>false
theorem I8 {e:En}(h:lQ e)(hk:e.kind=2\/e.kind=3): (1<=e.table/\e.table<=64)/\(1<=e.doc/\e.doc<=65536)/\(0<=e.kA/\e.kA<=2147483648)/\(e.kind=3->1<=e.kA):=by
 unfold lQ at h;rcases hk with hk|hk
 ·rw[aa I,ag hk]at h
  exact⟨h.1,h.2.1,h.2.2.1,fun q=>by omega⟩
 ·rw[aa I,aa I,ag hk]at h
  exact⟨h.1,h.2.1,⟨I,h.2.2.1.2⟩,fun _=>h.2.2.1.1⟩
theorem Inv.fit {s:St}(h:Inv s){e:En}(hf:lQ e)(hk:e.kind=2\/e.kind=3): fits s e=Lw s e:=by
 obtain⟨-,-,hv,h3⟩:=I8 hf hk;unfold fits Lw
 by_cases h0:e.kA=0
 ·have:e.kind=2:=hk.elim id fun q=>(by have:=h3 q;omega)
  rw[ag h0,ag ⟨this,h0⟩]
 ·rw[aa h0,aa (fun q=>h0 q.2)]
  cases hl:(Vw.of s.rows (e.table,e.doc)).getLast? with
  | none=>rfl
  | some r=>
   have:=h.last hl;simp only
   congr 1
   exact cN.2 ⟨fun q=>by omega,fun q=>by omega⟩
theorem BF {L:List Rw}(hi:i<L.length): ∃A B,L=A++L.getD i kE::B/\A.length=i/\∀x,L.set i x=A++x::B:=by
 have e:L=L.take i++(L.getD i kE::L.drop (i+1)):=by
  rw[lR hi,<-bI hi,aO]
 have hl:(L.take i).length=i:=by rw[aC];omega
 refine⟨_,_,e,hl,fun x=>?_⟩;rw[dP,ag hi]
theorem yo (A B:List Rw)(r:Rw)(k:Int×Int): Vw.of (A++r::B) k=Vw.of A k++((if r.key=k then[r] else[])++Vw.of B k):=by
 unfold Vw.of;rw[cm,cM]
 by_cases h:r.key=k
 ·rw[ag h,ag (by simpa using h)];rfl
 ·rw[aa h,aa (by simpa using h)];rfl
theorem M_ (A B:List Rw)(r:Rw)(t:Int): j9 t (A++shut r::B)=j9 t (A++r::B):=by
 unfold j9;rw[cm,cm,cM,cM,af,af]
 by_cases h:r.m5=t/\r.kA=0
 ·rw[ag (by simpa using(show(shut r).m5=t/\(shut r).kA=0 from h)),ag (by simpa using h)];rfl
 ·rw[aa (by simpa using(show ¬((shut r).m5=t/\(shut r).kA=0) from h)),aa (by simpa using h)]
theorem ab6 (L:List Tb)(kind:Int)(txt:lD)(tbl:Int): L.length<=(oV L kind txt tbl).length:=by
 unfold oV
 split
 ·split
  ·simp
  ·split
   ·simp
   ·split
    ·simp
    ·exact aj _
 ·exact aj _
theorem ai2 {L L':List Tb}(h:L.length<=L'.length){t:Int}(h0:(kM L t).2.2=0): (kM L' t).2.2=0:=by
 unfold kM at h0 ⊢
 by_cases hc:1<=t/\t<=L.length
 ·rw[ag I]
 ·rw[aa hc]at h0
  exact absurd h0 lZ
theorem Inv.snoc {s:St}(h:Inv s){e:En}{k:Int}(hu:Hr s bi k)(hf:lQ e)(hk:e.kind=2\/e.kind=3)(ht:(kM s.cat e.table).2.2=0)(hfit:fits s e=true):
  Inv { s with rows:=s.rows++[rowOf e bi k sC]}/\Hr { s with rows:=s.rows++[rowOf e bi k sC]} bi (k+1):=by
 obtain⟨-,hd,hv,h3⟩:=I8 hf hk;have vY:∀r∈s.rows,r.nD≠(bi,k):=fun r hr q=>by
  have q1:r.blk=bi:=congrArg Prod.fst q;have q2:r.pH=k:=congrArg Prod.snd q;have:=hu r hr;omega
 have HS:∀x,j9 x s.rows<=j9 x (s.rows++[rowOf e bi k sC]):=fun x=>by rw[Bo];omega
 refine⟨⟨fun r hr=>?_,fun r hr=>?_,fun x=>?_,?_,fun a ha=>?_⟩,fun r hr=>?_⟩
 ·rcases au.1 hr with hr|hr
  ·exact h.m5 r hr
  ·rw[bn.1 hr];exact ht
 ·rcases au.1 hr with hr|hr
  ·have:=h.doc r hr;have:=HS r.m5;exact⟨I,by show r.doc<=(j9 r.m5 (s.rows++[rowOf e bi k sC]):Nat);omega⟩
  ·rw[bn.1 hr]
   show 1<=e.doc/\e.doc<=(j9 e.table (s.rows++[rowOf e bi k sC]):Nat)
   refine⟨hd.1,?_⟩;rw[Bo];unfold fits at hfit
   by_cases h0:e.kA=0
   ·rw[ag h0]at hfit
    have KI:e.doc=next s e.table:=by simpa using hfit
    have:next s e.table=(j9 e.table s.rows:Int)+1:=by unfold next;rw[ag ht]
    rw[ag ⟨rfl,h0⟩];omega
   ·rw[aa h0]at hfit
    have:Vw.of s.rows (e.table,e.doc)≠[]:=fun q=>by rw[q]at hfit;simp at hfit
    by_cases pN:(j9 e.table s.rows:Int)<e.doc
    ·exact absurd (h.none (.inr pN)) this
    ·split<;>omega
 ·show(Vw.of (s.rows++[rowOf e bi k sC]) x).map Rw.kA=(List.range (Vw.of (s.rows++[rowOf e bi k sC]) x).length).map fun i:Nat=>(i:Int)
  rw[G1]
  by_cases hx:(rowOf e bi k sC).key=x
  ·rw[ag hx,aV,af,eQ,eL,aV,h.kA x]
   congr 1
   simp only[aY,dy,List.cons.injEq,and_true]
   show e.kA=_
   have YB:(e.table,e.doc)=x:=hx;subst YB;unfold fits at hfit
   by_cases h0:e.kA=0
   ·rw[ag h0]at hfit
    have KI:e.doc=next s e.table:=by simpa using hfit
    have hn:next s e.table=(j9 e.table s.rows:Int)+1:=by unfold next;rw[ag ht]
    rw[h.none (.inr I)];exact h0
   ·rw[aa h0]at hfit
    cases hl:(Vw.of s.rows (e.table,e.doc)).getLast? with
    | none=>rw[hl]at hfit;simp at hfit
    | some r=>
     rw[hl]at hfit;have:=h.last hl;simp at hfit
     omega
  ·rw[aa hx,aP]
   exact h.kA x
 ·show((s.rows++[rowOf e bi k sC]).map Rw.nD).Nodup
  rw[aV,bS];refine⟨h.rF,jM,fun a ha b hb q=>?_⟩;obtain⟨r,hr,rfl⟩:=bD.1 ha;simp only[aY,dy,bn]at hb;exact vY r hr (q.trans hb)
 ·obtain⟨r,hr,e1⟩:=h.red a ha
  exact⟨r,bm _ hr,e1⟩
 ·rcases au.1 hr with hr|hr
  ·have:=hu r hr;omega
  ·rw[bn.1 hr]
   exact .inr ⟨rfl,by show k<k+1;omega⟩
theorem Inv.shut {s:St}(h:Inv s){i:Nat}(hi:i<s.rows.length):Inv { s with rows:=s.rows.set i (shut (s.rows.getD i kE)),red:=yE s.red (s.rows.getD i kE).nD }:=by
 obtain⟨A,B,e,-,hs⟩:=BF hi;generalize s.rows.getD i kE=r at e hs;rw[hs];have h1:=h.m5;have h2:=h.doc;have h3:=h.kA;have h4:=h.rF;have h5:=h.red;rw[e]at h1 h2 h3 h4 h5;have mem:∀x,x∈A++Vw.shut r::B->∃y∈A++r::B,x.m5=y.m5/\x.doc=y.doc:=fun x hx=>by
  rcases au.1 hx with q|q
  ·exact⟨x,bm _ q,rfl,rfl⟩
  ·rcases ax.1 q with q|q
   ·subst q;exact⟨r,bp _ (cL ..),rfl,rfl⟩
   ·exact⟨x,bp _ (aD _ q),rfl,rfl⟩
 refine⟨fun x hx=>?_,fun x hx=>?_,fun k=>?_,?_,fun a ha=>?_⟩
 ·obtain⟨y,hy,e1,-⟩:=mem x hx
  have:=h1 y hy
  show(kM s.cat x.m5).2.2=0
  rw[e1];exact this
 ·obtain⟨y,hy,e1,e2⟩:=mem x hx
  have:=h2 y hy
  show 1<=x.doc/\x.doc<=(j9 x.m5 (A++Vw.shut r::B):Nat)
  rw[e1,e2,M_];exact this
 ·have:=h3 k
  show(Vw.of (A++Vw.shut r::B) k).map Rw.kA=(List.range (Vw.of (A++Vw.shut r::B) k).length).map fun i:Nat=>(i:Int)
  rw[yo]at this ⊢
  by_cases q:r.key=k
  ·rw[ag q]at this
   rw[ag (show(Vw.shut r).key=k from q)]
   simpa[Vw.shut] using this
  ·rw[aa q]at this
   rw[aa (show ¬(Vw.shut r).key=k from q)]
   simpa using this
 ·show((A++Vw.shut r::B).map Rw.nD).Nodup
  have e1:(A++Vw.shut r::B).map Rw.nD=(A++r::B).map Rw.nD:=by simp[Vw.shut]
  rw[e1];exact h4
 ·show ∃x∈A++Vw.shut r::B,x.nD=a
  have key:∀a,(∃x∈A++r::B,x.nD=a)->∃x∈A++Vw.shut r::B,x.nD=a:=fun a ⟨x,hx,ex⟩=>by
   rcases au.1 hx with q|q
   ·exact⟨x,bm _ q,ex⟩
   ·rcases ax.1 q with q|q
    ·subst q;exact⟨Vw.shut x,bp _ (cL ..),ex⟩
    ·exact⟨x,bp _ (aD _ q),ex⟩
  apply key a;change yE s.red r.nD a=true at ha;unfold yE at ha
  by_cases q:a=r.nD
  ·exact⟨r,jM,q.symm⟩
  ·rw[aa q]at ha;exact h5 a ha
theorem Hr.set {s:St}{k:Int}(h:Hr s bi k)(hi:i<s.rows.length)(f:Int×Int->Bool): Hr { s with rows:=s.rows.set i (shut (s.rows.getD i kE)),red:=f } bi (k+1):=by
 intro x hx;rcases dh hx with q|q
 ·have:=h x q;omega
 ·subst q
  have:=h (s.rows.getD i kE) (by rw[lR hi];exact aH hi)
  show(s.rows.getD i kE).blk<bi\/((s.rows.getD i kE).blk=bi/\(s.rows.getD i kE).pH<k+1)
  omega
theorem Im {s:St}(h:s.rows.findIdx? (zD s a)=some i): i<s.rows.length/\(s.rows.getD i kE).nD=a/\(s.rows.getD i kE).del=false/\s.red a=false:=by
 obtain⟨hi,h1,-⟩:=cU.1 h;rw[lR hi];unfold zD at h1;simp only[aF,aX,cG]at h1;exact⟨hi,eO h1.1.1.1 h1.1.1.2,h1.1.2,h1.2⟩
theorem P1 {s:St}(h:Inv s){e:En}{k:Int}(hu:Hr s bi k)(hf:lQ e)(h0:(entR s e bi k sC).1=0): Inv (entR s e bi k sC).2/\Hr (entR s e bi k sC).2 bi (k+1):=by
 have hup:Hr s bi (k+1):=fun r hr=>by have:=hu r hr;omega
 revert h0
 unfold entR
 split
 ·intro _;exact⟨h,hup⟩
 ·split
  ·rename_i hk
   split
   ·intro q;exact absurd q (show ¬(3:Int)=0 by decide)
   ·rename_i hc
    intro _;have Lm:(kM s.cat e.table).2.2=0/\fits s e=true:=by
     refine⟨fp fun q=>hc (.inl q),?_⟩;cases hq:fits s e with
     | true=>rfl
     | false=>exact absurd (.inr (.inr hq)) hc
    exact h.snoc hu hf hk Lm.1 Lm.2
  ·split
   ·split
    ·rename_i i hi
     intro _;obtain⟨hl,ha,-,-⟩:=Im hi;rw[<-ha];exact⟨h.shut hl,hu.set hl _⟩
    ·intro q;exact absurd q (show ¬(3:Int)=0 by decide)
   ·intro _
    exact⟨⟨fun r hr=>ai2 (ab6 ..) (h.m5 r hr),h.doc,h.kA,h.rF,h.red⟩,hup⟩
theorem Pl (b:Bk):∀(l:List En) (k:Nat) (s:St),Inv s->Hr s b.index k->(∀e∈l,lQ e)->(runR b l k s).1=0->Inv (runR b l k s).2/\Hr (runR b l k s).2 b.index ((k+l.length:Nat):Int)
 | [],k,s,h,hu,_,_=>⟨h,hu⟩
 | e::r,k,s,h,hu,hf,h0=>by
  unfold runR at h0 ⊢
  by_cases hc:(entR s e b.index k b.time).1=0
  ·rw[ag hc]at h0 ⊢
   obtain⟨h1,h2⟩:=P1 h hu (hf e (cL ..)) hc;have:=Pl b r (k+1) _ h1 h2 (fun x hx=>hf x (aD _ hx)) h0;rw[ak]
   rwa [show k+(r.length+1)=k+1+r.length by omega]
  ·rw[aa hc]at h0
   exact absurd h0 hc
def Fv (s:St):Prop:=Inv s/\∀r∈s.rows,r.blk<s.n
theorem Tn: Fv uO:=⟨⟨(fun _ h=>by cases h),(fun _ h=>by cases h),fun _=>rfl,List.nodup_nil,(fun _ h=>by cases h)⟩,(fun _ h=>by cases h)⟩
theorem IJ {α:Type}:∀ {l:List α}{f:α->Int},firstBad (l.map f)=0->∀x∈l,f x=0
 | [],_,_,x,hx=>by cases hx
 | a::r,f,h,x,hx=>by
  rw[aY]at h;unfold firstBad at h
  by_cases q:f a=0
  ·rw[ag q]at h
   rcases ax.1 hx with e|e
   ·rw[e];exact q
   ·exact IJ h x e
  ·rw[aa q]at h;exact absurd h q
theorem Ph {b:Bk}(h:K.qL b=0): (∀e∈b.jH,lQ e)/\0<=b.index/\1<=b.jH.length/\b.jH.length<=200:=by
 unfold K.qL at h
 split at h
 ·rename_i hc
  refine⟨fun e he=>?_,hc.1.1,hc.2.2.2⟩
  split at h
  ·rename_i hq;exact absurd h hq
  ·rename_i hq
   have h1:=IJ (fp hq) e he;unfold K.m4 at h1
   split at h1
   ·assumption
   ·exact absurd h1 lZ
 ·exact absurd h lZ
theorem yl {s:St}(h:Fv s)(b:Bk): Fv (mX s b).2:=by
 classical
 unfold mX
 split
 ·exact h
 ·rename_i hi
  split
  ·exact h
  ·rename_i hc
   obtain⟨hf,-,-,-⟩:=Ph (fp hc)
   split
   ·rename_i h0
    have hu:Hr s b.index 0:=fun r hr=>.inl (by have:=h.2 r hr;omega);obtain⟨h1,h2⟩:=Pl b b.jH 0 s h.1 hu hf h0;have hn:=LB b b.jH 0 s;refine⟨⟨h1.m5,h1.doc,h1.kA,h1.rF,h1.red⟩,fun r hr=>?_⟩;have:=h2 r hr
    show r.blk<(((s.n+1:Nat)):Int)
    omega
   ·exact h
theorem Inv.copy {s:St}(h:Inv s): qg s.rows s.red=s.red:=by
 funext a
 unfold qg;cases q:s.red a with
 | false=>rfl
 | true=>
  obtain⟨r,hr,e⟩:=h.red a q;rw[iw,List.any_eq_true];exact⟨r,hr,by simpa using e⟩
open K (En Bk zV lQ wH)
open Cat (Tb mu oV kM)
theorem nU {A B:List Rw}(h:i<A.length): (A++B).getD i kE=A.getD i kE:=by
 rw[ah,ah,aZ h]
theorem ot {A B:List Rw}(h:A.length<=i): (A++B).getD i kE=B.getD (i - A.length) kE:=by
 rw[ah,ah,aE h]
theorem yq {A:List Rw}(h:i<A.length): A.getD i kE∈A:=by rw[lR h];exact aH h
end Vw
namespace Ix
open K (En Bk zV encV mJ m4 qL)
open Cat (Tb mu oV kM)
open Vw (St Rw uO kE entR runR mX lU nT AS j9 Inv Fv fits rowOf shut zD yE)
def lS (s:St)(t:Int):Gx:=fun n=>(lU s (t,n)).map Rw.data
structure sH (s:St):Prop where
 ok:∀r∈s.rows,Rg r.data/\(r.gone=false->r.del=false->chk 16 r.data=0/\(encV 16 r.data).length<=65536)
theorem R7: sH uO:=⟨fun r h=>by cases h⟩
theorem Rs: Rg zV:=⟨1,by show(0:Int).natAbs<10 ^ 20;decide,fun _ h=>by cases h⟩
theorem qV {s:St}{k:Int×Int}{r:Rw}(h:lU s k=some r): r∈s.rows/\r.key=k/\r.gone=false/\r.del=false/\AS s k.1=true:=by
 unfold lU at h
 split at h
 ·rename_i ho
  split at h
  ·rename_i r' hl
   split at h
   ·rename_i hq
    cases h
    have hm:=gw hl;exact⟨(cg.1 hm).1,aR (cg.1 hm).2,hq.2,hq.1,ho⟩
   ·cases h
  ·cases h
 ·cases h
theorem sA {s:St}(hi:Inv s)(hd:sH s)(hl:s.rows.length<=1000000000)(t:Int): Gd (lS s t):=⟨fun n d h=>by
 unfold lS at h;cases hq:lU s (t,n) with
 | none=>rw[hq]at h;cases h
 | some r=>
  rw[hq]at h;cases h
  obtain⟨h1,h2,h3,h4,-⟩:=qV hq;have h5:r.doc=n:=congrArg Prod.snd h2;have h6:=hi.doc r h1;have h7:=Vw.uZ r.m5 s.rows;obtain⟨a1,a2⟩:=hd.ok r h1;exact⟨I,(a2 h3 h4).1,a1⟩⟩
theorem FO {s:St}(hd:sH s){t n:Int}{d:V}(h:lS s t n=some d): chk 16 d=0/\(encV 16 d).length<=65536:=by
 unfold lS at h;cases hq:lU s (t,n) with
 | none=>rw[hq]at h;cases h
 | some r=>
  rw[hq]at h;cases h
  obtain⟨h1,-,h3,h4,-⟩:=qV hq;exact(hd.ok r h1).2 h3 h4
theorem acS {s:St}(h:sH s){e:En}{k:Int}(hc:m4 e=0)(hr:Rg e.data): sH (entR s e bi k sC).2:=by
 unfold entR
 split
 ·exact h
 ·split
  ·split
   ·exact h
   ·refine⟨fun r yb=>?_⟩
    rcases au.1 yb with q|q
    ·exact h.ok r q
    ·rcases ax.1 q with rfl|q
     ·refine⟨hr,fun g1 g2=>?_⟩
      rename_i hk _
      have mW:e.kind=2:=by
       rcases hk with hk|hk
       ·exact hk
       ·have:decide (e.kind=3)=false:=g2
        rw[aw hk]at this;cases this
      unfold m4 at hc
      split at hc
      ·rw[aa (by rintro(q|q);exact q mW;rw[show e.gone=false from g1]at q;cases q)]at hc
       split at hc
       ·rename_i mE
        exact(mE hc).elim
       ·rename_i mE
        have he:(mJ e.data).2=0:=by simpa using mE
        unfold K.mJ at he
        split at he
        ·rename_i q
         exact(q he).elim
        ·split at he
         ·cases he
         ·rename_i q1 q2
          exact⟨show chk 16 e.data=0 by simpa using q1,show(encV 16 e.data).length<=65536 by omega⟩
      ·cases hc
     ·cases q
  ·split
   ·split
    ·rename_i i _
     refine⟨fun r yb=>?_⟩;rcases dh yb with q|q
     ·exact h.ok r q
     ·rw[q]
      exact⟨Rs,fun g=>by cases g⟩
    ·exact h
   ·exact⟨h.ok⟩
theorem PA (b:Bk):∀(l:List En) (k:Nat) (s:St),sH s->(∀e∈l,m4 e=0/\Rg e.data)->sH (runR b l k s).2
 | [],_,_,h,_=>h
 | e::r,k,s,h,he=>by
  have h1:=acS (bi:=b.index) (k:=k) (sC:=b.time) h (he e jM).1 (he e jM).2;unfold runR
  split
  ·exact PA b r _ _ h1 fun x hx=>he x (by simp[hx])
  ·exact h1
theorem Zf {b:Bk}(h:qL b=0): ∀e∈b.jH,m4 e=0:=by
 unfold K.qL at h
 split at h
 ·split at h
  ·rename_i q
   exact(q h).elim
  ·rename_i q
   have q:firstBad (b.jH.map m4)=0:=by simpa using q
   exact Vw.IJ q
 ·cases h
theorem V5 {s:St}{b:Bk}(h:(mX s b).1=0): qL b=0/\(runR b b.jH 0 s).1=0/\(mX s b).2={ (runR b b.jH 0 s).2 with n:=s.n+1 }:=by
 unfold Vw.mX at h ⊢
 split at h
 ·cases h
 ·rename_i h1
  split at h
  ·rename_i q
   exact(q h).elim
  ·rename_i h2
   split at h
   ·rename_i h3
    rw[aa h1,aa h2,ag h3];exact⟨by simpa using h2,h3,rfl⟩
   ·rename_i q
    exact(q h).elim
theorem IY {s:St}(hd:sH s){b:Bk}(h:(mX s b).1=0)(hr:∀e∈b.jH,Rg e.data): sH (mX s b).2:=by
 obtain⟨h1,-,h3⟩:=V5 h;rw[h3];exact⟨(PA b b.jH 0 s hd fun e he=>⟨Zf h1 e he,hr e he⟩).ok⟩
def atR (s:St)(a:Int×Int):Option (Int×Int):=(s.rows.find? fun r=>decide (r.nD=a)).map Rw.key
def Dj (s:St)(l:List En):List (Int×Int):=l.filterMap fun e=>if e.kind=2\/e.kind=3 then some (e.table,e.doc) else if e.kind=4 then atR s (e.ab,e.ae) else none
theorem Ma {s:St}{e:En}{k:Int}: ∀x∈s.rows.map (fun r=>(r.nD,r.key)),x∈(entR s e bi k sC).2.rows.map fun r=>(r.nD,r.key):=by
 intro x hx;unfold entR
 split
 ·exact hx
 ·split
  ·split
   ·exact hx
   ·rw[aV]
    exact au.2 (.inl hx)
  ·split
   ·split
    ·rename_i i hi
     obtain⟨h1,-⟩:=Vw.Im hi;obtain⟨A,B,hA,-,ql⟩:=Vw.BF h1;simp only[ql];rw[hA]at hx;rw[aV,aY]at hx ⊢;exact hx
    ·exact hx
   ·exact hx
theorem Jm (b:Bk):∀(l:List En) (k:Nat) (s:St),∀x∈s.rows.map (fun r=>(r.nD,r.key)),x∈(runR b l k s).2.rows.map fun r=>(r.nD,r.key)
 | [],_,_,x,hx=>hx
 | e::r,k,s,x,hx=>by
  unfold runR
  split
  ·exact Jm b r _ _ x (Ma x hx)
  ·exact Ma x hx
theorem Qr {L:List Rw}(hn:(L.map Rw.nD).Nodup){r:Rw}(hr:r∈L): L.find? (fun x=>decide (x.nD=r.nD))=some r:=by
 induction L with
 | nil=>cases hr
 | cons a l ih=>
  rw[aY,bB]at hn;rw[gA];rcases ax.1 hr with rfl|q
  ·simp
  ·have:a.nD≠r.nD:=fun e=>hn.1 (bD.2 ⟨r,q,e.symm⟩)
   rw[ar this];exact ih hn.2 q
theorem aaL {s:St}(hi:Inv s){k:Int×Int}(h:(a,k)∈s.rows.map fun r=>(r.nD,r.key)): atR s a=some k:=by
 obtain⟨r,hr,e⟩:=bD.1 h;cases e
 unfold atR;rw[Qr hi.rF hr]
 rfl
theorem aba {s:St}{e:En}{k:Int}(h2:e.kind=2\/e.kind=3->(e.table,e.doc)≠q)(h4:e.kind=4->((e.ab,e.ae),q) ∉ s.rows.map fun r=>(r.nD,r.key)): Vw.of (entR s e bi k sC).2.rows q=Vw.of s.rows q:=by
 unfold entR
 split
 ·rfl
 ·split
  ·rename_i hk
   split
   ·rfl
   ·rw[Vw.G1,aa (show(rowOf e bi k sC).key≠q from h2 hk),aP]
  ·split
   ·rename_i hk
    split
    ·rename_i i hi
     obtain⟨h1,ha,-⟩:=Vw.Im hi;obtain⟨A,B,hA,-,ql⟩:=Vw.BF h1;have mE:(s.rows.getD i kE).key≠q:=fun e2=>h4 hk (bD.2 ⟨s.rows.getD i kE,by rw[Vw.lR h1];exact aH h1,by rw[ha,e2]⟩);simp only[ql];rw[Vw.yo]
     conv=>rhs;rw[hA,Vw.yo]
     rw[aa mE,aa (show(shut (s.rows.getD i kE)).key≠q from mE)]
    ·rfl
   ·rfl
theorem Np (b:Bk){q:Int×Int}{s':St}(hi:Inv s'):∀(l:List En) (k:Nat) (s:St),(runR b l k s).2.rows=s'.rows->q ∉ Dj s' l->Vw.of (runR b l k s).2.rows q=Vw.of s.rows q
 | [],_,_,_,_=>rfl
 | e::r,k,s,hs,hq=>by
  have E0:q ∉ Dj s' r:=fun h=>hq (by
   unfold Dj at h ⊢;rw[gC]
   split
   ·exact h
   ·exact aD _ h)
  have OY:∀x,(if e.kind=2\/e.kind=3 then some (e.table,e.doc) else if e.kind=4 then atR s' (e.ab,e.ae) else none)=some x->x≠q:=fun x hx e2=>hq (by
   unfold Dj;rw[gC,hx,e2];simp)
  have h1:Vw.of (entR s e b.index k b.time).2.rows q=Vw.of s.rows q:=by
   refine aba (fun hk=>OY _ (ag hk)) fun hk hm=>?_;have yd:=Jm b (e::r) k s _ hm;rw[hs]at yd;have:=aaL hi yd;exact OY q (by rw[aa I,ag hk,this]) rfl
  unfold runR at hs ⊢
  split at hs
  ·rename_i h0
   rw[ag h0,Np b hi r _ _ hs E0,h1]
  ·rename_i h0
   rw[aa h0];exact h1
theorem Vn {s:St}{b:Bk}(h:(mX s b).1=0)(hi:Inv (mX s b).2)(hq:q ∉ Dj (mX s b).2 b.jH)(ho:AS (mX s b).2 q.1=AS s q.1): lU (mX s b).2 q=lU s q:=by
 obtain⟨-,-,h3⟩:=V5 h;have:=Np b hi b.jH 0 s (by rw[h3]) hq;unfold lU;rw[ho];have e:Vw.of (mX s b).2.rows q=Vw.of s.rows q:=by rw[h3];exact this
 rw[e]
theorem To {s:St}(hg:Cat.Good s.cat){t:Int}{f:lD}(h:Cat.has s.cat t f=true): AS s t=true:=by
 unfold Cat.has at h;simp only[aF,aX]at h;obtain⟨⟨h1,h2⟩,h3⟩:=h;unfold Vw.AS Cat.kM;rw[ag ⟨h1,h2⟩];simp only[decide_true,iw,cG];cases hd:(s.cat.getD (t - 1).toNat Cat.ku).dropped with
 | false=>rfl
 | true=>
  have:=(hg.each (t - 1).toNat I).2.2.2 hd;rw[this]at h3;cases h3
theorem Sv {s:St}{b:Bk}(h:(mX s b).1=0)(hi:Inv (mX s b).2){t n:Int}(hq:(t,n) ∉ Dj (mX s b).2 b.jH)(ho:AS (mX s b).2 t=AS s t): lS (mX s b).2 t n=lS s t n:=by
 unfold lS;rw[Vn h hi hq ho]
theorem AL {s:St}(hi:Inv s){t:Int}{r:Rw}: r∈nT s t ↔ lU s (t,r.doc)=some r:=by
 unfold Vw.nT;rw[gU]
 constructor
 ·rintro⟨i,-,h⟩
  obtain⟨-,h2,-⟩:=qV h;have:r.doc=(i:Int)+1:=congrArg Prod.snd h2;rw[this];exact h
 ·intro h
  obtain⟨h1,h2,-⟩:=qV h;have h3:=hi.doc r h1;have h4:r.m5=t:=congrArg Prod.fst h2;rw[h4]at h3;refine⟨(r.doc - 1).toNat,bX.2 I,?_⟩;rw[show(((r.doc - 1).toNat:Nat):Int)+1=r.doc by omega];exact h
theorem Qz (s:St)(t:Int): (nT s t).Pairwise fun a b=>a.doc<b.doc:=by
 unfold Vw.nT;rw[iC];refine List.Pairwise.imp (fun {a b} uP x hx y hy=>?_) (List.pairwise_lt_range (n:=j9 t s.rows));obtain⟨-,h2,-⟩:=qV hx;obtain⟨-,h3,-⟩:=qV hy;have e1:x.doc=(a:Int)+1:=congrArg Prod.snd h2;have e2:y.doc=(b:Int)+1:=congrArg Prod.snd h3;omega
def vW (l:List Rw):Gx:=fun n=>(l.find? fun r=>decide (r.doc=n)).map Rw.data
theorem Mm {l:List Rw}{r:Rw}(h:∀x∈l,x.doc<r.doc): (∀n,vW (l++[r]) n=ml (vW l) r.doc (some r.data) n)/\vW l r.doc=none:=by
 have h0:l.find? (fun x=>decide (x.doc=r.doc))=none:=by
  rw[dL];intro x hx;have:=h x hx;simp only[aX];omega
 refine⟨fun n=>?_,by unfold vW;rw[h0];rfl⟩;unfold vW ml;rw[fP]
 by_cases e:n=r.doc
 ·subst e
  rw[h0,ag rfl];simp
 ·rw[aa e]
  have:[r].find? (fun x=>decide (x.doc=n))=none:=by simp;omega
  rw[this];simp
theorem BD {s:St}(hi:Inv s)(t n:Int): vW (nT s t) n=lS s t n:=by
 unfold vW lS
 congr 1
 cases hq:(nT s t).find? fun r=>decide (r.doc=n) with
 | some r=>
  have h1:=dQ hq;have h2:=iO hq;have h2:r.doc=n:=by simpa using h2
  rw[AL hi]at h1;rw[<-h2];exact h1.symm
 | none=>
  cases hl:lU s (t,n) with
  | none=>rfl
  | some r=>
   obtain⟨-,h2,-⟩:=qV hl;have e:r.doc=n:=congrArg Prod.snd h2;have:=(AL hi (r:=r)).2 (by rw[e];exact hl);rw[dL]at hq;exact absurd (aw e) (hq r this)
end Ix
namespace Ix
open K Tre
theorem LU:∀a b:oK,cmpL b a = - cmpL a b
 | [],[]=>rfl
 | [],_::_=>rfl
 | _::_,[]=>rfl
 | a::r,b::s=>by
  unfold cmpL
  by_cases h1:a<b
  ·have h3:¬b<a:=I
   simp only[h1,h3,fI,eY];rfl
  ·by_cases h2:b<a
   ·simp only[h1,h2,fI,eY]
   ·simp only[h1,h2,eY];exact LU r s
theorem acQ {v u:V}(hv:chk 16 v=0)(hu:chk 16 u=0)(rv:Rg v)(ru:Rg u): ordV 16 u v = - ordV 16 v u:=by
 rw[<-(sc hu hv ru rv).zero,<-(sc hv hu rv ru).zero,LU]
abbrev AZ:Au:=(0,mM)
def Hg (x:Au):Prop:=chk 16 x.2=0/\Rg x.2/\R6 x.1
theorem Yc {a b:Au}(ga:Hg a)(gb:Hg b): kl (tE a.2 a.1) (tE b.2 b.1)=true ↔ hl a b:=by
 rw[WI ga.1 gb.1 ga.2.1 gb.2.1 ga.2.2 gb.2.2,aX];rfl
theorem acx {a b c:Au}(ga:Hg a)(gb:Hg b)(gc:Hg c)(h1:hl a b)(h2:hl b c): hl a c :=
 (Yc ga gc).1 (wE ((Yc ga gb).2 h1) ((Yc gb gc).2 h2))
theorem NH {l:List α}{k:Nat}{x y:α}: y∈l.take k++x::l.drop k ↔ y=x\/y∈l:=by
 rw[au,ax]
 conv=>rhs;rw[<-aO k l,au]
 constructor
 ·rintro(h|h|h)
  ·exact .inr (.inl h)
  ·exact .inl h
  ·exact .inr (.inr h)
 ·rintro(h|h|h)
  ·exact .inr (.inl h)
  ·exact .inl h
  ·exact .inr (.inr h)
theorem afv {H:List Au}{x:Au}{k:Nat}(ha:H.Pairwise hl)(hg:∀y∈H,Hg y)(hx:Hg x)(hn:∀y∈H,y.1<x.1)(hk:k<=H.length)(h1:∀j,k<=j->j<H.length->0<ordV 16 (H.getD j AZ).2 x.2)(h2:k=0\/ordV 16 (H.getD (k - 1) AZ).2 x.2<=0): (H.take k++x::H.drop k).Pairwise hl:=by
 have hm:=eZ.1 ((aO k H).symm ▸ ha);have avo:∀y∈H.take k,hl y x:=fun y hy=>by
  have I5:k≠0:=fun e=>by rw[e]at hy;cases hy
  have h2:=h2.resolve_left I5;have j6:k - 1<H.length:=I;have uE:H.getD (k - 1) AZ∈H:=by rw[ah,ai j6];exact aH j6
  have g1:=hg _ uE;have q:hl (H.getD (k - 1) AZ) x:=by
   rcases Int.lt_or_eq_of_le h2 with q|q
   ·exact .inl q
   ·exact .inr ⟨q,hn _ uE⟩
  obtain⟨i,hi,rfl⟩:=cT.1 hy;rw[aC]at hi;rw[List.getElem_take]
  by_cases e:i=k - 1
  ·subst e
   rw[ah,ai j6]at q;exact q
  ·refine acx (hg _ (aH _)) g1 hx ?_ q
   rw[ah,ai j6];exact gZ.1 ha i (k - 1) I j6 I
 have aoM:∀y∈H.drop k,hl x y:=fun y hy=>by
  obtain⟨i,hi,rfl⟩:=cT.1 hy;rw[aQ]at hi;rw[ib];have j6:k+i<H.length:=I;have h3:=h1 (k+i) I j6;rw[ah,ai j6]at h3;have g:=hg _ (aH j6);have:=acQ g.1 hx.1 g.2.1 hx.2.1;refine .inl ?_;have h3:0<ordV 16 (H[k+i]).2 x.2:=h3;omega
 rw[eZ,bT];refine⟨hm.1,⟨aoM,hm.2.1⟩,fun a ha b hb=>?_⟩;rcases ax.1 hb with rfl|hb
 ·exact avo a ha
 ·exact hm.2.2 a ha b hb
section
variable {f:lD}{g:Gx}{H:List Au}{n:Int}{d v:V}
theorem u7.nil: u7 f (fun _=>none) []:=⟨List.Pairwise.nil,fun h=>⟨fun q=>(by cases q),fun⟨_,q,_⟩=>(by cases q)⟩⟩
theorem u7.congr (h:u7 f g H){g':Gx}(e:∀n,g' n=g n): u7 f g' H:=⟨h.OR,fun x=>by rw[h.mem,e]⟩
theorem u7.skip (h:u7 f g H)(h0:g n=none)(hf:fldR d f=none): u7 f (ml g n (some d)) H:=⟨h.OR,fun x=>by
 rw[h.mem];unfold ml
 by_cases e:x.1=n
 ·rw[ag e,e,h0]
  constructor
  ·rintro⟨_,q,_⟩;cases q
  ·rintro⟨_,q,r⟩;cases q;rw[hf]at r;cases r
 ·rw[aa e]⟩
theorem u7.lay (h:u7 f g H)(hg:Gd g)(h0:g n=none)(hf:fldR d f=some v)(hn:R6 n)(hd:chk 16 d=0)(hr:Rg d)(j6:∀y∈H,y.1<n){k:Nat}(hk:k<=H.length)(h1:∀j,k<=j->j<H.length->0<ordV 16 (H.getD j AZ).2 v)(h2:k=0\/ordV 16 (H.getD (k - 1) AZ).2 v<=0): u7 f (ml g n (some d)) (H.take k++(n,v)::H.drop k) :=
 ⟨afv h.OR (fun y hy=>h.oP hg y hy) ⟨u6 hd hf,El hr hf,hn⟩ j6 hk h1 h2,fun x=>by
 rw[NH,h.mem];unfold ml
 by_cases e:x.1=n
 ·rw[ag e,e,h0]
  constructor
  ·rintro(q|⟨_,q,_⟩)
   ·exact⟨d,rfl,by rw[q];exact hf⟩
   ·cases q
  ·rintro⟨_,q,r⟩
   cases q
   rw[hf]at r;exact .inl (eO e (az r).symm)
 ·rw[aa e]
  constructor
  ·rintro(q|q)
   ·exact absurd (congrArg Prod.fst q) e
   ·exact q
  ·exact .inr⟩
theorem u7.below {l:List Vw.Rw}(h:u7 f (vW l) H){m:Int}(hl:∀r∈l,r.doc<m): ∀y∈H,y.1<m:=fun y hy=>by
 obtain⟨d,q,-⟩:=(h.mem y).1 hy;unfold vW at q;cases hq:l.find? fun r=>decide (r.doc=y.1) with
 | none=>rw[hq]at q;cases q
 | some r=>
  have h2:=iO hq;have h2:r.doc=y.1:=by simpa using h2
  have:=hl r (dQ hq);omega
theorem u7.len (h:u7 f g H)(hg:Gd g){L:List KV}(hL:sV f g L): H.length=L.length:=by rw[h.row hg hL,aB]
end
end Ix
namespace K
section
variable {n:NN}{Q:Exit->Act->World->Prop}{l:Env}{w w':World}{ops:Array Oper}{o:Oper}{rest:List Oper}{d:Nat}
theorem WL.alD {x y:Operand}{t t2 e sz:Nat}{sp:Option Addr}(hg:o.guard=none)(hd:o.dst=some d)(hn:Nat.blt d n.n=true)(ho:o.op=.binOp .eql t x y t2)(ht:tyOf ty t=some (.slice e sz))(hx:kS l x=some (.slice sp m c))(hy:kS l y=some (kP))(h:WL n ops Q rest ((d,.bool sp.isNone)::l) w): WL n ops Q (o::rest) l w :=
 WL.step hg hd hn (fun a ha=>by
  unfold execOp;rw[ho];obtain⟨hu,-⟩:=oO.of oz ht;have:=Lib.run_eql_slice_nil w t e sp m c 0 0 hu;have hq:(eqGuard .eql t x y (.slice sp m c) (kP)).run prog w=.ok () w:=by simp[eqGuard]
  simp only[ha.eval hx,ha.eval hy,bK,hq,bG,this]
  rfl) h
end
theorem Jv {v:Value}(h:AI w v l)(hl:l.length<=1000000):
  Calls prog 124 #[v] w fun r w'=>jP w w'/\∃v',r=.returned v'/\m6 1 kZ Gw (fun b=>w.heap.size<=b) w' v' l/\v'.oneCell'=true:=by
 have h0:=h;obtain⟨sp,cap,rfl,h1,h2,h3,h4⟩:=h;apply kq (args:=[.slice sp l.length cap]) func124 ntmps124;apply G _;apply WL.alD rfl rfl rfl rfl rfl rfl rfl;cases sp with
 | none=>
  have EJ:l.length=0:=by
   rcases gN l.length with h|h
   ·exact h
   ·obtain⟨_,_,hc,-⟩:=h4 h;cases hc
  obtain rfl:=bF EJ
  show WL _ _ _ _ ((_,.bool true)::_) _
  apply G _;exact J ⟨Below.refl _ _,_,rfl,m6.nil _ _ _ _ _,rfl⟩
 | some ad=>
  show WL _ _ _ _ ((_,.bool false)::_) _
  apply G _;refine WL.empty rfl rfl rfl rfl rfl fun g w1 hf=>?_;have lj:kJ w g w1 9 []:=hf;clear hf;have hg:=lj.eq;have hz:=lj.size;have oc:=lj.below;apply G _
  by_cases G_:l.length=0
  ·obtain rfl:=bF G_
   apply WL.alL rfl rfl rfl rfl rfl rfl (aj 0) rfl;apply G _;exact WQ.so rfl rfl ⟨oc,_,rfl,⟨_,0,rfl,jM,I,(fun h=>by cases h),fun h=>by simp at h⟩,rfl⟩
  ·have jW:jY 9 1 w1 (fun x=>x=g) (nj g 0 0 0) 0 []:=⟨⟨jM,.inr ⟨g,0,#[],rfl,ay _,lj.blk,aj _,by unfold maxLen;omega,jM,jM⟩⟩,fun _ h=>(a_ h).elim,fun g h=>by cases h;rfl⟩
   have nG:=PC (AI.below h0 oc) I;refine l_ ZB jW nG fun v2 w2 xI nK=>?_;have m9:v2.oneCell'=true:=by obtain⟨_,_,rfl,-⟩:=xI.slice;rfl
   have kK:=oc.trans (nK.old (B:=w.heap.size) I (fun x hx=>by have:g=x:=az hx;omega));apply G _;simp only[bA,aT]at xI;refine J ⟨kK,v2,rfl,Pw (O:=fun b=>w.heap.size<=b) (xI.mono fun b hb=>by omega) fun s hs=>?_,m9⟩;obtain⟨j,hj,rfl⟩:=bH hs
   simpa[hj] using h3 j hj
theorem Qb {B:Nat}(hB:B<=1000000):∀(f:Nat) {w:World}{v:V}{cs:kL},mj f w v cs->Sm B f v->
  Calls prog 90 #[.agg cs.toArray] w fun e w'=>jP w w'/\∃rU,e=.returned (.agg rU.toArray)/\lz (fun b=>w.heap.size<=b) f w' v rU
 | 0,_,_,_,h,_=>h.elim
 | f+1,w,v,cs,h,hm=>by
  obtain⟨sn,sk,rfl,wk,wn,ws,wt,rV,uC⟩:=h;obtain⟨zm,O0,Ki⟩:=hm;obtain⟨sp,cap,rfl,vg,qn,kF⟩:=uC;apply kq (args:=[.agg (mR v sn (.slice sp v.kids.length cap)).toArray]) func90 ntmps90;apply G _;refine jO fun g1 w1 ou=>?_;have oJ:kJ w g1 w1 25 (mR v sn (.slice sp v.kids.length cap)):=ou;clear ou;refine jJ (z:=.agg jK.toArray) (fun _=>jG) fun g2 w2 mK=>?_;have mI:kJ w1 g2 w2 25 jK:=mK;clear mK;have CN:=oJ.size;have yD:=mI.size;have he1:=oJ.eq;have FW:=mI.eq;have nQ:jP w w2:=oJ.below.trans (mI.below.mono oJ.below.size);have B1:=oJ.blk.below mI.below oJ.blk.lt;have B2:=mI.blk;clear oJ mI;apply G _;apply Y (B1.cell 4 jM);apply jx func124 (Jv (rV.below nQ) I);rintro _ w3 ⟨lC,sx,rfl,hn3,hsx⟩;refine⟨_,rfl,?_⟩;have O6:=B1.below lC B1.lt;have Ak:=B2.below lC B2.lt;have pE:jP w w3:=nQ.kj lC;apply G _;apply jT (hv:=hsx) (O6.cell 4 jM) (O6.free 4);have C1:U 25 (w3.setCell (Aq g1 4) sx) g1 (mR v sx (.slice sp v.kids.length cap)):=O6.set 4 sx;have C2:U 25 (w3.setCell (Aq g1 4) sx) g2 jK:=Ak.other _ _ (by show g2≠g1;omega);have pK:jP w (w3.setCell (Aq g1 4) sx):=Z.below (Z.setCell (Z.jw pE) (fun hk=>by simp only at hk;omega) _);have KY:Z (fun b=>b≠g1) w3 (w3.setCell (Aq g1 4) sx):=(Z.refl _ w3).setCell (fun hk=>hk rfl) _;have oQ:m6 1 kZ Gw (fun b=>w.heap.size<=b/\b≠g1/\b≠g2) (w3.setCell (Aq g1 4) sx) sx v.names:=hn3.jA KY (fun b hb _=>by omega) (fun b hb=>by omega) fun _ _ h=>h;generalize w3.setCell (Aq g1 4) sx=w5 at C1 C2 pK oQ ⊢;clear KY;have hz5:=pK.size;have hgg:g1≠g2:=I;have T9:=C1.lt;have VS:=C2.lt;apply G _;apply Y (C1.cell 5 jM);apply G _;refine WC.loop (fun i:Nat×Value=>[(1,jV g1),(2,jV g2),(3,i.2),(11,.slice sp v.kids.length cap),(12,Iq v.kids.length),(13,Iq i.1)])
   (fun i wr=>i.1<=v.kids.length/\jP w5 wr/\∃q:Nat->Prop,kC 25 6 mM (lz q f wr) (fun b=>w5.heap.size<=b) wr i.2 (v.kids.take i.1)/\∀b,q b->w5.heap.size<=b/\b<wr.heap.size/\i.2.ownBlock≠some b) (fun i=>v.kids.length - i.1) (0,kP)
   kz ⟨ay _,Below.refl _ _,fun _=>False,kC.nil _ _ _ _ _ _,fun b h=>h.elim⟩ ?_
  rintro⟨i,vk⟩ wr ⟨hi,lx,q,vC,hq⟩;simp only at hi lx vC hq ⊢;have D1:=C1.below lx T9;have D2:=C2.below lx VS;have uX:jP w wr:=pK.trans (lx.mono hz5);have hzr:=lx.size
  by_cases kt:i<v.kids.length
  ·obtain⟨kb,ko,rfl,qp,lP⟩:=kF I
   obtain⟨c,oh,qw,nW⟩:=lP i kt;apply G _;apply jQ i (ko+i*6) kt;apply jy (fun j u hu=>(uX.cell (p:=Aq kb (ko+i*6+j)) qp).trans (nW j u hu)) oh;refine jJ (z:=.agg jK.toArray) (fun _=>jG) fun kc wa hfa=>?_;have Eb:kJ wr kc wa 25 jK:=hfa;clear hfa;apply G _;apply jE (hm:=oh) (hold:=(by rfl)) Eb.blk (mj.one qw);have xL:jP wr (wa.setRow kc c.toArray):=below_setRow Eb.below (by rw[Eb.eq];exact aj _) _;have Ka:U 25 (wa.setRow kc c.toArray) kc c:=Eb.blk.setRow _;generalize wa.setRow kc c.toArray=wb at xL Ka;clear Eb;have SD:=xL.size;apply G _;apply jy (U.rangeAt Ka) oh;apply jx func90 (Qb hB f (qw.below (uX.kj xL)) (Ki _ (by simp[kt])));rintro _ w6 ⟨agH,c6,rfl,afI⟩;refine⟨_,rfl,?_⟩;have tD:jP wr w6:=xL.trans (agH.mono SD);have ER:lz (fun b=>wr.heap.size<=b) f w6 (v.kids.getD i mM) c6:=lz.mono (fun b hb=>by omega) afI;have Yx:=tD.size;refine lh (hcs:=ER.len) (hs:=⟨I,I⟩) fun g7 w7 xF=>?_;have hz7:=xF.size;have wS:jP wr w7:=tD.trans (xF.below.mono Yx);have Dx:kC 25 6 mM (lz (fun b=>q b\/(wr.heap.size<=b/\b<w7.heap.size)) f w7) (fun b=>w5.heap.size<=b) w7 vk (v.kids.take i) :=
    vC.jA (Z.jw wS) (fun g hg=>vC.lt hg) nN fun x cs hx=>hx.jA (Z.jw wS) (fun b hb _=>(hq b hb).2.1) fun b hb=>.inl hb
   have Kp:lz (fun b=>q b\/(wr.heap.size<=b/\b<w7.heap.size)) f w7 (v.kids.getD i mM) c6:=ER.there.jA (Z.jw xF.below) (fun b _ h=>h) fun b hb=>.inr ⟨hb.1,I⟩;have j6:(v.kids.take i).length<=i:=by rw[aC];omega
   refine WL.snoc rfl rfl rfl rfl RD rfl Dx rfl xF.blk ER.one ER.len Kp I I fun vk8 w8 Aw p7=>?_;have DP:jP w5 w8:=(lx.trans (wS.mono hzr)).trans (p7.old I fun g hg=>Dx.own hg);have TW:∀b,(q b\/(wr.heap.size<=b/\b<w7.heap.size))->w5.heap.size<=b/\b<w7.heap.size/\vk.ownBlock≠some b:=fun b hb=>hb.elim (fun h=>by
     obtain⟨h1,h2,h3⟩:=hq b h;exact⟨h1,I,h3⟩) fun h=>⟨I,h.2,fun e=>by have:=vC.lt e;omega⟩
   have xE:v.kids.take (i+1)=v.kids.take i++[v.kids.getD i mM]:=by
    rw[aK];simp[kt]
   apply G _;refine WQ.again (i+1,vk8) kz ⟨kt,DP,(fun b=>q b\/(wr.heap.size<=b/\b<w7.heap.size)),?_,fun b hb=>?_⟩ (by show v.kids.length - (i+1)<v.kids.length - i;omega)
   ·show kC _ _ _ _ _ _ _ (v.kids.take (i+1))
    rw[xE];exact Aw.jA (Z.refl (fun _=>True) w8) (fun _ _=>trivial) (fun b hb=>by omega) fun x cs hx=>hx.jA p7.1 (fun b hb _=>(TW b hb).2) fun b hb=>hb
   ·obtain⟨h1,h2,h3⟩:=TW b hb
    exact⟨h1,ao h2 p7.1.size,fun e=>(p7.2 b e).elim h3 fun h4=>by omega⟩
  ·obtain rfl:i=v.kids.length:=I
   rw[aN]at vC;have hvk:=vC.one;have ql:Z (fun b=>b≠g1) wr (wr.setCell (Aq g1 5) vk):=(Z.refl _ wr).setCell (fun hk=>hk rfl) _;apply G _;apply jT (hv:=hvk) (D1.cell 5 jM) (D1.free 5);have E1:=D1.set 5 vk;have E2:U 25 (wr.setCell (Aq g1 5) vk) g2 jK:=D2.other _ _ (by show g2≠g1;omega);have U2:jP w (wr.setCell (Aq g1 5) vk):=Z.below (Z.setCell (Z.jw uX) (fun hk=>by simp only at hk;omega) _);have Ti:=(oQ.there Db).jA (O':=fun b=>(w.heap.size<=b/\b≠g1/\b≠g2)) (Z.jw lx) (fun b hb j6=>j6) (fun b hb=>hb.1) fun _ _ h=>h;have JI:=Ti.jA ql (fun b hb _=>hb.2.1) (fun b hb=>hb) fun _ _ h=>h;have Jo:m6 6 mM (lz (fun b=>w5.heap.size<=b) f (wr.setCell (Aq g1 5) vk)) (fun b=>w5.heap.size<=b) (wr.setCell (Aq g1 5) vk) vk v.kids :=
    vC.kN.jA ql (fun b hb _=>by omega) (fun b hb=>hb) fun x cs hx=>hx.jA ql (fun b hb _=>by have:=(hq b hb).1;omega) fun b hb=>(hq b hb).1
   generalize wr.setCell (Aq g1 5) vk=w9 at E1 E2 U2 JI Jo;simp only[eI,gT]at E1;apply G _;apply jy (U.rangeAt E1) rfl;have m9:lY [Iq v.k,Iq v.n,Iq v.s,.string v.t,sx,vk]:=by
    intro u hu;simp at hu
    rcases hu with rfl|rfl|rfl|rfl|rfl|rfl<;>first|rfl|assumption
   apply jE E2 m9;apply G _;have uw:∀a,Z (fun b=>b≠g2) w9 (w9.setRow g2 a):=fun a=>Z.setRow (Z.refl _ w9) (fun hk=>hk rfl) a;refine WQ.vJ rfl rfl rfl rfl (E2.setRow _) ⟨Z.below (Z.setRow (Z.jw U2) (fun hk=>by omega) _),_,rfl,sx,vk,rfl,wk,wn,ws,wt,JI.jA (uw _) (fun b hb _=>hb.2.2) (fun b hb=>hb.1) fun _ _ h=>h,?_⟩;exact Jo.jA (uw _) (fun b hb _=>by omega) (fun b hb=>by omega) fun x cs hx=>hx.jA (uw _) (fun b hb _=>by omega) fun b hb=>I
end K
namespace Ix
open K
def OT (l:List lD)(f:lD):Option Nat:=l.findIdx? fun g=>decide (g=f)
theorem P_ {f:lD}(h:∀j,j<l.length->l.getD j kZ≠f): OT l f=none:=by
 unfold OT;rw[gY];intro x hx;obtain⟨j,hj,rfl⟩:=bH hx;have:=h j hj;rw[ah,ai hj]at this
 simpa using this
theorem Py {f:lD}(hi:i<l.length)(he:l.getD i kZ=f)(h:∀j,j<i->l.getD j kZ≠f): OT l f=some i:=by
 unfold OT;rw[cU];refine⟨hi,?_,fun j hj=>?_⟩
 ·rw[ah,ai hi]at he
  simpa using he
 ·have:=h j hj
  rw[ah,ai I]at this
  simpa using this
theorem Ex {a b:lD}: (a.toList == b.toList)=decide (a=b):=by
 by_cases h:a=b
 ·rw[h,aw rfl,fZ]
 ·rw[ar h,b_]
  exact fun e=>h (Tre.LF e)
theorem Xp {w:World}{v:Value}{l:List lD}(f:lD)(h:AI w v l)(hl:l.length<=1000000000):
  Calls prog 89 #[v,.string f] w fun e w'=>e=.returned (Iq (match OT l f with|some i=>(i:Int)|none=>-1))/\w'=w:=by
 obtain⟨sp,cap,rfl,h1,h2,h3,h4⟩:=h;apply kq (args:=[.slice sp l.length cap,.string f]) func89 ntmps89;apply G _;apply WC.loop (fun i:Nat=>[(0,.slice sp l.length cap),(1,.string f),(7,Iq l.length),(8,Iq i)]) (fun i w'=>(i<=l.length/\∀j,j<i->l.getD j kZ≠f)/\w'=w) (fun i=>l.length - i) 0 kz ⟨⟨ay _,fun j hj=>by omega⟩,rfl⟩;rintro i _ ⟨⟨hi,hn⟩,rfl⟩
 by_cases kt:i<l.length
 ·obtain⟨b,o,rfl,hb,hc⟩:=h4 I
  apply G _;apply jQ (hq:=(by rw[cJ])) i (o+i) kt;apply Y (hc i kt);apply(jN)
  by_cases he:l.getD i kZ=f
  ·apply WL.as 16 (.bool true) rfl (congrArg Value.bool (by rw[Ex,aw he.symm]))
   apply G _;refine J ⟨?_,rfl⟩;rw[Py kt he hn]
  ·apply WL.as 16 (.bool false) rfl (congrArg Value.bool (by rw[Ex,ar (fun e=>he e.symm)]))
   apply G _;refine WQ.again (i+1) kz ⟨⟨kt,fun j hj=>?_⟩,rfl⟩ (by show l.length - (i+1)<l.length - i;omega);rcases aW j i with q|q
   ·exact hn j q
   ·obtain rfl:j=i:=I
    exact he
 ·obtain rfl:i=l.length:=I
  apply G _;refine J ⟨?_,rfl⟩;rw[P_ hn]
def ND (w:World)(f:Nat)(o:Option V)(e:Ending)(w':World):Prop :=
 jP w w'/\match o with
  | some u=>∃cs,e=.returned (.tuple #[.agg cs.toArray,.bool true])/\lz (fun b=>w.heap.size<=b) f w' u cs
  | none=>e=.returned (.tuple #[.agg jK.toArray,.bool false])
theorem TO {v:V}{f:lD}(h9:v.k=9):fldR v f=(match OT v.names f with|some i=>if i<v.kids.length then some (v.kids.getD i mM) else none|none=>none):=by
 unfold fldR OT;rw[ag h9]
 all_goals(cases List.findIdx? (fun g=>decide (g=f)) v.names<;>rfl)
theorem WH (hB:B<=1000000){k:Nat}{v:V}(f:lD)(h:mj (k+1) w v cs)(hs:Sm B (k+1) v):
  Calls prog 59 #[.agg cs.toArray,.string f] w (ND w k (fldR v f)):=by
 obtain⟨sn,sk,rfl,wk,wn,ws,wt,rV,uC⟩:=h;obtain⟨zm,O0,Ki⟩:=hs;apply kq (args:=[.agg (mR v sn sk).toArray,.string f]) func59 ntmps59;apply G _;refine jO fun g1 w1 ou=>?_;have B1:U 25 w1 g1 (mR v sn sk):=ou.blk;have b1:=ou.below;have e1:=ou.eq;have z1:=ou.size;clear ou;apply G _;refine jJ (z:=.agg jK.toArray) (fun _=>jG) fun g2 w2 mK=>?_;have B2:U 25 w2 g2 jK:=mK.blk;have b2:=mK.below;have e2:=mK.eq;have z2:=mK.size;clear mK;have xo:jP w w2:=b1.kj b2;replace B1:=B1.below b2 B1.lt;have uA:=rV.below xo;obtain⟨sp,cap,rfl,vg,qn,kF⟩:=uC;have c0:w2.cell? (Aq g1 0)=some (Iq v.k):=B1.cell 0 jM;have c4:w2.cell? (Aq g1 4)=some sn:=B1.cell 4 jM;have c5:w2.cell? (Aq g1 5)=some (.slice sp v.kids.length cap):=B1.cell 5 jM
 -- there is none
 have nof:fldR v f=none->∀fn (l:Env),fn.results=#[.cell 4 25,.tmp 5]->K.look l 4=some (jV g2)->K.look l 5=some (.bool false)->WQ ⟨31,[],.none⟩ (bodyPost prog fn (ND w k (fldR v f))) .ret l (w2.setRow g2 jK.toArray):=fun hq fn l h1 h2 h3=>
  WQ.xG h1 h2 h3 rfl rfl (B2.setRow _) ⟨below_setRow xo I _,by rw[hq]⟩
 by_cases h9:v.k=9
 ·apply G _
  apply Y c0;apply G _;apply Y c4;apply G _;apply kH func89 (Xp f uA I);rintro _ rfl
  have oH:=TO (f:=f) h9;cases hi:OT v.names f with
  | none=>
   rw[hi]at oH;simp only
   apply G _;apply jR jK jG;apply jE B2 (oe (fun _=>True) 0 w).one;apply G _;exact nof oH _ _ rfl rfl rfl
  | some i=>
   rw[hi]at oH;simp only at oH ⊢
   by_cases kt:i<v.kids.length
   ·rw[ag kt]at oH
    obtain⟨kb,ko,rfl,qp,lP⟩:=kF I;obtain⟨c,oh,qw,nW⟩:=lP i kt;apply G _;apply Y c5;apply G _;apply Y c5;apply G _;apply jQ i (ko+i*6) kt;apply jy (fun j u hu=>(xo.cell (p:=Aq kb (ko+i*6+j)) qp).trans (nW j u hu)) oh;apply jx func90 (Qb hB k (qw.below xo) (Ki _ (yq kt)));rintro _ w3 ⟨b3,c3,rfl,rI⟩;refine⟨_,rfl,?_⟩;have Ak:=B2.below b3 B2.lt;have Io:jP w w3:=xo.kj b3;apply G _;apply jE (hm:=rI.len) Ak rI.one;apply G _;have ql:Z (fun b=>b≠g2) w3 (w3.setRow g2 c3.toArray):=Z.setRow (Z.refl _ w3) (fun hk=>hk rfl) _;refine WQ.xG rfl rfl rfl rfl rI.len (Ak.setRow c3) ⟨below_setRow Io I _,?_⟩;rw[oH];exact⟨c3,rfl,rI.jA ql (fun b hb _=>by show b≠g2;omega) fun b hb=>by have:=xo.size;omega⟩
   ·rw[aa kt]at oH
    apply G _;apply Y c5;apply G _;apply jR jK jG;apply jE B2 (oe (fun _=>True) 0 w).one;apply G _;exact nof oH _ _ rfl rfl rfl
 ·have oH:fldR v f=.none:=by unfold fldR;rw[aa h9]
  apply G _;apply Y c0;apply G _;apply jR jK jG;apply jE B2 (oe (fun _=>True) 0 w).one;apply G _;exact nof oH _ _ rfl rfl rfl
theorem JT (hB:B<=1000000){k:Nat}{v:V}(f:lD)(h:mj (k+1) w v cs)(hs:Sm B (k+1) v):
  Calls prog 75 #[.agg cs.toArray,.string f] w (ND w k (fldR v f)):=by
 obtain⟨sn,sk,rfl,wk,wn,ws,wt,rV,uC⟩:=h;obtain⟨zm,O0,Ki⟩:=hs;apply kq (args:=[.agg (mR v sn sk).toArray,.string f]) func75 ntmps75;apply G _;refine jO fun g1 w1 ou=>?_;have B1:U 25 w1 g1 (mR v sn sk):=ou.blk;have b1:=ou.below;have e1:=ou.eq;have z1:=ou.size;clear ou;apply G _;refine jJ (z:=.agg jK.toArray) (fun _=>jG) fun g2 w2 mK=>?_;have B2:U 25 w2 g2 jK:=mK.blk;have b2:=mK.below;have e2:=mK.eq;have z2:=mK.size;clear mK;have xo:jP w w2:=b1.kj b2;replace B1:=B1.below b2 B1.lt;obtain⟨sp,cap,rfl,vg,qn,kF⟩:=uC;obtain⟨np,nc,rfl,n1,n2,n3,n4⟩:=rV;have c0:w2.cell? (Aq g1 0)=some (Iq v.k):=B1.cell 0 jM;have c4:w2.cell? (Aq g1 4)=some (.slice np v.names.length nc):=B1.cell 4 jM;have c5:w2.cell? (Aq g1 5)=some (.slice sp v.kids.length cap):=B1.cell 5 jM
 by_cases h9:v.k=9
 ·have oH:=TO (f:=f) h9
  apply G _;apply Y c0;apply G _;apply WC.loop (fun i:Nat=>[(1,.string f),(2,jV g1),(4,jV g2),(5,.bool false),(6,Iq i)]) (fun i w'=>(i<=v.names.length/\∀j,j<i->v.names.getD j kZ≠f)/\w2=w') (fun i=>v.names.length - i) 0 kz ⟨⟨ay _,fun j hj=>by omega⟩,rfl⟩;rintro i wr ⟨⟨hi,hn⟩,uX⟩;subst uX
  by_cases pN:i<v.names.length
  ·by_cases kt:i<v.kids.length
   ·obtain⟨nb,no,rfl,tX,sM⟩:=n4 I
    obtain⟨kb,ko,rfl,qp,lP⟩:=kF I;obtain⟨c,oh,qw,nW⟩:=lP i kt;have oQ:w2.cell? (Aq nb (no+i))=some (.string (v.names.getD i kZ)):=(xo.cell (p:=Aq nb (no+i)) tX).trans (sM i pN);apply jF _;apply jQ (hq:=(by rw[cJ])) i (no+i) pN;apply Y oQ;apply(jN);apply(jN)
    by_cases he:v.names.getD i kZ=f
    ·apply WL.as 31 (.bool true) rfl (congrArg Value.bool (by rw[Ex,aw he]))
     rw[Py pN he hn]at oH;simp only at oH;rw[ag kt]at oH;apply jF _;apply jQ i (ko+i*6) kt;apply jy (fun j u hu=>(xo.cell (p:=Aq kb (ko+i*6+j)) qp).trans (nW j u hu)) oh;apply jx func112 (wF hB k (qw.below xo) (Ki _ (yq kt)));rintro _ w3 ⟨b3,c3,rfl,rI⟩;refine⟨_,rfl,?_⟩;have Ak:=B2.below b3 B2.lt;have Io:jP w w3:=xo.kj b3;apply G _;apply jE (hm:=rI.len) Ak rI.one;apply G _;have ql:Z (fun b=>b≠g2) w3 (w3.setRow g2 c3.toArray):=Z.setRow (Z.refl _ w3) (fun hk=>hk rfl) _;refine WQ.xG rfl rfl rfl rfl rI.len (Ak.setRow c3) ⟨below_setRow Io I _,?_⟩;rw[oH];exact⟨c3,rfl,rI.jA ql (fun b hb _=>by show b≠g2;omega) fun b hb=>by have:=xo.size;omega⟩
    ·apply WL.as 31 (.bool false) rfl (congrArg Value.bool (by rw[Ex,ar he]))
     apply G _;refine WQ.again (i+1) kz ⟨⟨pN,fun j hj=>?_⟩,rfl⟩ (by show v.names.length - (i+1)<v.names.length - i;omega);rcases aW j i with q|q
     ·exact hn j q
     ·obtain rfl:j=i:=I
      exact he
   ·-- behind the kids nothing is found
    have adV:fldR v f=.none:=by
     rw[oH];cases hq:OT v.names f with
     | none=>rfl
     | some j=>
      simp only
      rw[aa];intro hj;unfold OT at hq;rw[cU]at hq;obtain⟨h1,h2,-⟩:=hq;apply hn j I;rw[ah,ai h1]
      simpa using h2
    apply jF _;apply jR jK jG;apply jE B2 (oe (fun _=>True) 0 w).one;apply G _;exact WQ.xG rfl rfl rfl rfl rfl (B2.setRow _) ⟨below_setRow xo I _,by rw[adV]⟩
  ·obtain rfl:i=v.names.length:=I
   have adV:fldR v f=.none:=by rw[oH,P_ hn]
   apply jF _;apply jR jK jG;apply jE B2 (oe (fun _=>True) 0 w).one;apply G _;exact WQ.xG rfl rfl rfl rfl rfl (B2.setRow _) ⟨below_setRow xo I _,by rw[adV]⟩
 ·have oH:fldR v f=.none:=by unfold fldR;rw[aa h9]
  apply G _;apply Y c0;apply G _;apply jR jK jG;apply jE B2 (oe (fun _=>True) 0 w).one;apply G _;exact WQ.xG rfl rfl rfl rfl rfl (B2.setRow _) ⟨below_setRow xo I _,by rw[oH]⟩
end Ix
namespace K
section
variable {fn:Func}{R:Ending->World->Prop}{l:Env}{w:World}
end
section
variable {n:NN}{Q:Exit->Act->World->Prop}{l:Env}{w:World}{ops:Array Oper}{o:Oper}{rest:List Oper}{d:Nat}
theorem aaW (u:Value)(n:Nat): (madeCells #[u] n).toList=List.replicate n u:=by
 apply ew
 ·simp[madeCells]
 ·intro i h1 h2
  simp[madeCells]
  have:i % 1=0:=I;simp[this]
theorem WL.make {t e bytes:Nat}{x:Operand}{k:IntKind}{z:Value}(m:Nat)(u:Value)(hu:z.cells=#[u])(hi:(prog.info? e).map (fun i=>(i.zero,i.size,i.bytes))=some (some z,1,bytes))(hg:o.guard=none)(hd:o.dst=some d)(hn:Nat.blt d n.n=true)(ho:o.op=.makeSlice t x x)(ht:tyOf ty t=some (.slice e 1))(hx:kS l x=some (.int k (m:Int)))(hb:bytes*m<=140737488355328)(hm:m<=140737488355328)(h:∀g w',kJ w g w' e (List.replicate m u)->WL n ops Q rest ((d,nj g 0 m m)::l) w'): WL n ops Q (o::rest) l w:=by
 have hu2:=(oO.of oz ht).1;obtain⟨i,i1,i2,i3,i4⟩:=jo hi;have Gy:(i.bytes:Int)*(m:Int)<=281474976710656:=by
  have:((i.bytes*m:Nat):Int)<=281474976710656:=by rw[i4];omega
  rwa [Int.natCast_mul]at this
 have hr:=run_make (P:=prog) w t e i z hu2 i1 i2 k k (m:Int) (m:Int) I (Int.le_refl _) Gy I;simp only[dZ,i3,cJ,hu]at hr;refine WL.step hg hd hn (w':=w.alloc (.cells (madeCells #[u] m) e)) (fun a ha=>?_) (h w.heap.size _ ?_)
 ·unfold execOp
  rw[ho];simp[ha.eval hx,hr,Result.andThen]
 ·have:madeCells #[u] m=(List.replicate m u).toArray:=by rw[<-aaW]
  rw[this];exact kJ.mk' w e _
end
end K
namespace Vw
open K
theorem Ev {r:Rw}{m:kL}(hd:dc.length=6): (lA r dc).take 3++m++(lA r dc).drop (3+6)=lA r m:=by
 unfold lA;simp only[cE,cj,de,bC,aT];rw[eC I,iK I,aT]
theorem ln {r:Rw}(hd:dc.length=6): (lA r dc).length=14:=by simp[lA,hd]
theorem nu {r:Rw}(h1:lY dc): lY (lA r dc):=by
 intro u hu;unfold lA at hu;simp only[ax,au,a_,eJ]at hu;rcases hu with rfl|rfl|rfl|hu|rfl|rfl|rfl|rfl|rfl
 all_goals first|rfl|exact h1 u hu
theorem aaI {r:Rw}(hv:mj f w r.data dc)(nE:Sm 3000 f r.data):
  Calls prog 113 #[.agg (lA r dc).toArray] w fun e w'=>jP w w'/\∃tW,e=.returned (.agg (lA r tW).toArray)/\lz (fun b=>w.heap.size<=b) f w' r.data tW:=by
 have lM:=hv.len;have m9:=mj.one hv;apply kq (args:=[.agg (lA r dc).toArray]) func113 ntmps113;apply mA _;refine jO fun g1 w1 f1=>?_;have v1:U EY w1 g1 (lA r dc):=f1.blk;have b1:=f1.below;have e1:=f1.eq;have s1:=f1.size;clear f1;refine jJ (z:=.agg (lA kE jK).toArray) (fun _=>jG) fun g2 w2 f2=>?_;have v2:U EY w2 g2 (lA kE jK):=f2.blk;have b2:=b1.kj f2.below;have e2:=f2.eq;replace v1:=U.below v1 f2.below (U.lt v1);have z1:=b1.size;clear f2;apply G _;apply jy (rD.of (U.rangeAt v1) lM).data lM;apply jx func112 (wF (B:=3000) I f (hv.below b2) nE);rintro _ w3 ⟨b3,tW,rfl,rI⟩;refine⟨_,rfl,?_⟩;have xU:=rI.len;have l1:=U.lt v1;have l2:=U.lt v2;replace v1:=U.below v1 b3 l1;replace v2:=U.below v2 b3 l2;have bb:=b2.kj b3;apply G _;apply WL.uM rfl rfl rfl rfl rfl rfl v1 xU (by rw[ln lM];omega) rI.one;have v4:=U.setRow v1 ((lA r dc).take 3++tW++(lA r dc).drop (3+6));have k4:Z (fun x=>x≠g1) w3 (w3.setRow g1 ((lA r dc).take 3++tW++(lA r dc).drop (3+6)).toArray):=Cr.mo (Z.refl _ _) jM _;rw[Ev lM]at v4 k4;change WL _ _ _ _ _ (w3.setRow g1 ((lA r dc).take 3++tW++(lA r dc).drop (3+6)).toArray);rw[Ev lM];generalize w3.setRow g1 _=w4 at v4 k4 ⊢;apply G _;apply jy (U.rangeAt v4) (ln xU);have v24:=v2.jA k4 I;apply jE (hm:=(ln xU)) v24 (nu rI.one);have v5:=U.setRow v24 (lA r tW);have k5:Z (fun x=>x≠g1/\x≠g2) w3 (w4.setRow g2 (lA r tW).toArray):=Cr.mo (k4.mono fun x hx=>hx.1) jM _;generalize w4.setRow g2 _=w5 at v5 k5 ⊢;apply G _;exact WQ.vJ rfl rfl rfl (ln xU) v5 ⟨((Z.jw bb).trans (k5.mono fun x (hx:x<w.heap.size)=>⟨I,I⟩)).below,tW,rfl,rI.jA k5 (fun x hx _=>⟨I,I⟩) fun x hx=>by have:=b2.size;omega⟩
open K
def pz (T B f:Nat)(w:World)(v:Value)(L:List Rw):Prop :=
 ∃D:Nat->Prop,(∀x,D x->B<=x/\x<w.heap.size)/\(∀g,v.ownBlock=some g->¬D g)/\kC T 14 kE (ni D f w) (fun x=>B<=x) w v L
theorem pz.nil (T B f:Nat)(w:World): pz T B f w (kP) []:=⟨fun _=>False,fun _ h=>h.elim,(fun g h=>by cases h),K.kC.nil _ _ _ _ _ _⟩
theorem pz.below {v:Value}{L:List Rw}(h:pz T B f w v L)(hb:jP w w'): pz T B f w' v L:=by
 obtain⟨D,h1,h2,h3⟩:=h;exact⟨D,fun x hx=>⟨(h1 x hx).1,ao (h1 x hx).2 hb.size⟩,h2,K.kC.jA h3 (Z.jw hb) (fun g hg=>K.kC.lt h3 hg) (fun _ h=>h) fun _ _ hp=>hp.jA (Z.jw hb) (fun _ _ h=>h) (fun _ h=>h)⟩
theorem pz.kN {v:Value}{L:List Rw}(h:pz T B f w v L): m6 14 kE (ni (fun x=>B<=x) f w) (fun x=>B<=x) w v L:=by
 obtain⟨D,h1,-,h3⟩:=h;exact(rq h3).mono nN fun _ _ hp=>hp.jA (K:=fun _=>True) ⟨rfl,rfl,rfl,aj _,fun _ _=>rfl⟩ (fun _ _ _=>trivial) (fun x hx=>(h1 x hx).1)
theorem pz.own {v:Value}{L:List Rw}(h:pz T B f w v L): ∀g,v.ownBlock=some g->B<=g:=by obtain⟨D,_,_,h3⟩:=h;exact fun g hg=>K.kC.own h3 hg
theorem pz.snoc {wb wc wd:World}{v:Value}{L:List Rw}{r:Rw}{dc:List Value}(h:pz T B f wb v L)(hB:B<=wb.heap.size)(bc:Below wb.heap.size wb wc)(hv:lz (fun x=>wb.heap.size<=x) f wc r.data dc)(bd:Below wc.heap.size wc wd)(ok:zU r)(sm:Sm 3000 f r.data):
  ∃D,kC T 14 kE (ni D f wd) (fun x=>B<=x) wd v L/\ni D f wd r (lA r dc)/\∀ {v':Value}{we:World},kC T 14 kE (ni D f wd) (fun b=>B<=b\/b=wd.heap.size) we v' (L++[r])->kX wd v we v'->pz T B f we v' (L++[r]):=by
 obtain⟨D,h1,h2,h3⟩:=h;have z1:=bc.size;have z2:=bd.size;have bbd:=bc.trans (bd.mono z1);refine⟨fun x=>D x\/(wb.heap.size<=x/\x<wc.heap.size),K.kC.jA h3 (Z.jw bbd) (fun g hg=>K.kC.lt h3 hg) (fun _ h=>h) fun _ _ hp=>hp.jA (Z.jw bbd) (fun _ _ h=>h) (fun _ h=>.inl h),
  ⟨dc,rfl,hv.there.jA (Z.jw bd) (fun _ _ h=>h) (fun _ h=>.inr h),ok,sm⟩,fun {v' we} ho hg=>?_⟩
 have j6:∀x,(D x\/(wb.heap.size<=x/\x<wc.heap.size))->B<=x/\x<wc.heap.size:=fun x hx=>by
  rcases hx with hx|hx
  ·have:=h1 x hx;omega
  ·omega
 have nI:∀g,v.ownBlock=some g->¬(D g\/(wb.heap.size<=g/\g<wc.heap.size)):=fun g hg hx=>by
  have:=K.kC.lt h3 hg;rcases hx with hx|hx
  ·exact h2 g hg hx
  ·omega
 have zg:=hg.1.size;obtain⟨mZ,q1,q2,q3⟩:=ho;refine⟨fun x=>D x\/(wb.heap.size<=x/\x<wc.heap.size),fun x hx=>⟨(j6 x hx).1,by have:=(j6 x hx).2;omega⟩,fun g hgv hx=>?_,mZ,q1,fun i hi=>⟨(q2 i hi).1,(q2 i hi).2.jA hg.1 (fun x hx _=>⟨by have:=(j6 x hx).2;omega,fun e=>nI x e hx⟩) (fun _ h=>h)⟩,q3.1,q3.2.1,fun g hgv=>(q3.own hgv).elim id fun e=>by show B<=g;omega⟩;rcases hg.2 g hgv with q|q
 ·exact nI g q hx
 ·have:=(j6 g hx).2;omega
def adL (w:World)(f:Nat)(T:Option Rw)(e:Ending)(w':World):Prop :=
 jP w w'/\∃r dc b,e=.returned (.tuple #[.agg (lA r dc).toArray,.bool b])/\lz (fun x=>w.heap.size<=x) f w' r.data dc/\(match T with|some r'=>r=r'/\b=true|none=>r=kE/\b=false)
theorem qx.as2 {v:V}(h:lz O f w v cs): ∃f',f=f'+1:=by
 cases f with
 | zero=>exact h.elim
 | succ f=>exact⟨f,rfl⟩
open K
def tG (w:World)(f:Nat)(L:List Rw)(e:Ending)(w':World):Prop :=
 jP w w'/\∃v,e=.returned v/\m6 14 kE (ni (fun x=>w.heap.size<=x) f w') (fun x=>w.heap.size<=x) w' v L
def NS (L:List Rw)(t:Int)(i d a:Nat):Prop :=
 (a=0/\∀j,j<i->(L.getD j kE).key≠(t,(d:Int)))\/∃j,a=j+1/\j<i/\(L.getD j kE).key=(t,(d:Int))/\∀q,j<q->q<i->(L.getD q kE).key≠(t,(d:Int))
theorem NS.next {L:List Rw}{t:Int}{a:Nat}(h:NS L t i d a)(hn:(L.getD i kE).key≠(t,(d:Int))): NS L t (i+1) d a:=by
 rcases h with⟨h1,h2⟩|⟨j,h1,h2,h3,h4⟩
 ·refine .inl ⟨h1,fun q hq=>?_⟩
  by_cases e:q=i
  ·rw[e];exact hn
  ·exact h2 q I
 ·refine .inr ⟨j,h1,I,h3,fun q E0 OY=>?_⟩
  by_cases e:q=i
  ·rw[e];exact hn
  ·exact h4 q E0 I
theorem NS.here {L:List Rw}{t:Int}(h:(L.getD i kE).key=(t,(d:Int))): NS L t (i+1) d (i+1):=.inr ⟨i,rfl,I,h,fun q h1 h2=>by omega⟩
theorem NT {s:St}{t:Int}(i:Nat): (List.range (i+1)).filterMap (fun(i:Nat)=>lU s (t,(i:Int)+1))=(List.range i).filterMap (fun(i:Nat)=>lU s (t,(i:Int)+1))++(lU s (t,(i:Int)+1)).toList:=by
 rw[eL,fV]
 congr 1
abbrev iT:Nat:=3
theorem OC {A:List Nat}(h:d<A.length): (A.map fun a:Nat=>Iq a).getD d undef=Iq (A.getD d 0):=by
 simp[ah,cX,ai h]
theorem CD {s:St}(h0:qx w rb M D f s N)(t:Int)(HS:∀r∈s.rows,r.m5=t->1<=r.doc/\r.doc<=j9 t s.rows):
  Calls prog 74 #[jV rb,Iq t] w (tG w f (if AS s t=true then nT s t else[])):=by
 obtain⟨cp,Oc,rv,mb,k,h⟩:=id h0;have c0:=h.vb.cell 0 jM;simp only[al]at c0;apply kq func74 ntmps74;apply jF _;apply jx func110 (Cr.zR h.cat t);rintro _ w2 ⟨fv,rfl,ho,b2⟩;refine⟨_,rfl,?_⟩;apply G _;refine jJ (z:=.agg Cr.sX.toArray) Cr.x_ fun g8 w3 f3=>?_;apply jE f3.blk (Cr.rn (Cr.jY.one ho));obtain⟨v8,b8,-,q8⟩:=nv [Iq (Cat.kM s.cat t).1,.string (Cat.kM s.cat t).2.1.name,.bool (Cat.kM s.cat t).2.1.dropped,fv] b2 f3;generalize w3.setRow g8 _=w4 at v8 b8 ⊢;clear f3 ho b2 q8 w3 w2;have c82:=v8.cell 2 jM;simp only[aA,al]at c82;have xq:next s t=if(Cat.kM s.cat t).2.2=0 then(j9 t s.rows:Int)+1 else 0:=rfl
 have MP:AS s t=(decide ((Cat.kM s.cat t).2.2=0) && !(Cat.kM s.cat t).2.1.dropped):=rfl;generalize (Cat.kM s.cat t).2.2=code at xq MP ⊢;generalize (Cat.kM s.cat t).2.1.dropped=dr at MP c82;clear v8;have none_:AS s t=false->tG w f (if AS s t=true then nT s t else[]) (.returned (kP)) w4:=fun hn=>by
  rw[hn,aa jM];exact⟨b8,_,rfl,m6.nil _ _ _ _ _⟩
 by_cases hc:code=0
 case neg=>
  apply jF _;exact J (none_ (by rw[MP,ar hc];rfl))
 case pos=>
 cases dr with
 | true=>
  apply jF _;exact J (none_ (by rw[MP];simp))
 | false=>
 have alf:AS s t=true:=by rw[MP,aw hc];rfl
 rw[ag alf];rw[ag hc]at xq;clear none_ MP;have h4:=h.below b8;apply jF _;apply kH func105 (Ik ⟨_,_,_,_,_,h4⟩ t);rintro w5 b5
 rw[xq];have h5:=h4.below b5;have bw:=b8.kj b5;have nL:=uZ t s.rows;have mq:=h.ok;have hdR:nT s t=(List.range (j9 t s.rows)).filterMap (fun(i:Nat)=>lU s (t,(i:Int)+1)):=rfl;have qD:∀k:Int×Int,k.1=t->lU s k=(match(Vw.of s.rows k).getLast? with|some r=>if r.del=false/\r.gone=false then some r else none|none=>none):=fun k hk=>by
  unfold lU;rw[hk,ag alf];rfl
 rw[hdR];generalize Dz:j9 t s.rows=c at *;apply G _;apply WL.as 30 (Iq ((c+1:Nat):Int)) rfl (congrArg (Value.int .i64) I);refine WL.make (bytes:=8) (c+1) (Iq 0) rfl (z:=Iq 0) jG rfl rfl rfl rfl rfl rfl I I fun ga w6 f6=>?_;have b6:=bw.kj f6.below;have e6:=f6.eq;have lga:=f6.blk.lt;have mL:=rq h.rows;obtain⟨H7,Gk,rfl,-⟩:=id mL;have c1:=h.vb.cell 1 jM;simp only[aA,al]at c1;have sG:=h.lt rb (.inl h.vK);have zw:=bw.size;have v6:U iT w6 ga ((List.replicate (c+1) 0).map fun a:Nat=>Iq a):=by rw[List.map_replicate];exact f6.blk
 clear f6;apply G _;refine WC.loop (fun i:Nat=>[(0,jV rb),(1,Iq t),(7,Iq ((c:Int)+1)),(8,nj ga 0 (c+1) (c+1)),(9,Iq i)])
  (fun i w'=>i<=s.rows.length/\jP w w'/\∃A:List Nat,A.length=c+1/\U iT w' ga (A.map fun a:Nat=>Iq a)/\∀d,d<c+1->NS s.rows t i d (A.getD d 0)) (fun i=>s.rows.length - i) 0 kz
  ⟨ay _,b6,List.replicate (c+1) 0,jM,v6,fun d _=>.inl ⟨by rw[ah,List.getElem?_replicate];split<;>rfl,fun j hj=>absurd hj (dg j)⟩⟩ ?_
 have hga:w.heap.size<=ga:=I;clear v6 b6 lga bw b5 b8 h4 h5 e6 zw w6 w5 c0 c82;rintro i wl ⟨hi,bl,A,Ol,vA,hA⟩;have c1l:=(bl.cell (p:=Aq rb 1) sG).trans c1
 by_cases j6:i<s.rows.length
 case pos=>
  obtain⟨b9,o9,qu,DQ,es,sw,-,R9,-,AN,-⟩:=nw mL j6;obtain⟨rfl,rfl⟩:H7=some (Aq b9 o9)/\Gk=qu:=by simpa using es
  clear es;have vp:s.rows.getD i kE∈s.rows:=by rw[lR j6];exact aH j6
  have MD:=HS _ vp;obtain⟨r,hr⟩:∃r,r=s.rows.getD i kE:=⟨_,rfl⟩;rw[<-hr]at R9 AN MD;have x0:=(bl.cell (p:=Aq b9 (o9+i*14)) sw).trans R9.m5;have x1:=(bl.cell (p:=Aq b9 (o9+i*14+1)) sw).trans R9.doc
  by_cases ht:r.m5=t
  case pos=>
   obtain⟨vP,tA⟩:=MD ht;obtain⟨dn,KI⟩:∃dn:Nat,r.doc=(dn:Int):=⟨r.doc.toNat,I⟩;rw[KI]at x1;have hold:wl.cell? (Aq ga (dn*1))=some ((A.map fun a:Nat=>Iq a).getD (dn*1) undef):=vA.cell _ (by simp[Ol];omega);apply jF _;apply jQ i (o9+i*14) j6;apply jF _;apply jQ i (o9+i*14) j6;apply jF _;apply jQ i (o9+i*14) j6;apply jF _;apply WL.idx dn (dn*1) rfl rfl rfl rfl rfl rfl rfl rfl I I;apply jT hold (U.free vA _);have vA2:=vA.set (dn*1) (Iq ((i+1:Nat):Int));rw[cJ]at vA2;rw[show(A.map fun a:Nat=>Iq a).set dn (Iq ((i+1:Nat):Int))=(A.set dn (i+1)).map fun a:Nat=>Iq a by rw[jq]]at vA2;apply G _;refine WQ.again (i+1) kz ⟨j6,(Z.setCell (Z.jw bl) (fun(hh:ga<w.heap.size)=>by omega) _).below,A.set dn (i+1),by rw[aI];exact Ol,by rw[cJ];exact vA2,fun d hd=>?_⟩ I
   by_cases e:dn=d
   ·subst e
    rw[Cat.mO _ _ _ _ I];exact NS.here (by rw[<-hr,<-KI,<-ht])
   ·rw[Cat.getD_set_ne _ _ _ _ _ e]
    exact(hA d hd).next (by rw[<-hr];intro q;have:=congrArg Prod.snd q;simp only at this;omega)
  case neg=>
   apply jF _;apply jQ i (o9+i*14) j6;apply jF _;exact WQ.again (i+1) kz ⟨j6,bl,A,Ol,vA,fun d hd=>(hA d hd).next (by rw[<-hr];intro q;exact ht (congrArg Prod.fst q))⟩ I
 case neg=>
 obtain rfl:i=s.rows.length:=I;have lgA:=U.lt vA;apply jF _;refine WC.loop (fun x:Nat×Value=>[(0,jV rb),(7,Iq ((c:Int)+1)),(8,nj ga 0 (c+1) (c+1)),(10,x.2),(11,Iq ((x.1:Int)+1))])
  (fun x w'=>x.1<=c/\jP wl w'/\pz EY wl.heap.size f w' x.2 ((List.range x.1).filterMap (fun(i:Nat)=>lU s (t,(i:Int)+1)))) (fun x=>c - x.1) (0,kP) kz
  ⟨ay _,Below.refl _ _,pz.nil _ _ _ _⟩ ?_
 rintro⟨d,v⟩ wk ⟨hd,bk,jW⟩;simp only at hd jW;have zl:=bl.size;have Qk:∀ {wx:World},jP wl wx->wx.cell? (Aq rb 1)=some (.slice H7 s.rows.length Gk):=fun hx=>(hx.cell (p:=Aq rb 1) (I:rb<wl.heap.size)).trans c1l
 by_cases CV:d<c
 case neg=>
  obtain rfl:d=c:=I;have oW:tG w f ((List.range d).filterMap (fun(i:Nat)=>lU s (t,(i:Int)+1))) (.returned v) wk:=by
   refine⟨bl.trans (bk.mono zl),v,rfl,?_⟩;exact jW.kN.mono (fun b (hb:wl.heap.size<=b)=>(by omega:w.heap.size<=b)) fun _ _ hp=>hp.jA (K:=fun _=>True) ⟨rfl,rfl,rfl,aj _,fun _ _=>rfl⟩ (fun _ _ _=>trivial) (fun b (hb:wl.heap.size<=b)=>(by omega:w.heap.size<=b))
  generalize (List.range d).filterMap (fun(i:Nat)=>lU s (t,(i:Int)+1))=LL at oW;apply G _;exact J oW
 case pos=>
 have ly:=hA (d+1) I;have vi:∀ {wx:World},jP wl wx->wx.cell? (Aq ga (d+1))=some (Iq (A.getD (d+1) 0)):=fun hx=>by
  rw[hx.cell (p:=Aq ga (d+1)) lgA,vA.cell (d+1) (by simp[Ol];omega),OC I]
 have p5:=NT (s:=s) (t:=t) d;have Dp:=qD (t,(d:Int)+1) rfl;obtain⟨Am,cpv,aib,-⟩:=jW.kN;subst aib;rcases ly with⟨ha0,nI⟩|⟨j,haj,zA,CU,Zd⟩
 case inl=>
  rw[ha0]at vi;rw[show Vw.of s.rows (t,(d:Int)+1)=[] from UK fun j hj=>by have:=nI j hj;rwa [show(((d+1:Nat)):Int)=(d:Int)+1 by omega]at this]at Dp;have NA:lU s (t,(d:Int)+1)=none:=Dp;rw[NA,dM,aP]at p5;apply G _;refine WC.drawn 34 (jP wl) fun wa kv=>?_;have hS:=bk.trans (kv.below _);apply jC [0,1] hS _;apply ss 2 (d+1) (d+1) rfl rfl rfl rfl rfl rfl rfl rfl rfl I I (.inr hS);apply jz 3 (mw 4 34) (fun wx hx=>vi hx) hS;apply jC [4,5,6,7,8] hS _;apply jC [9] hS _;apply jC [10,11] hS _;apply jC [12] hS _;apply jC [13] hS _;apply jC [14] hS _;apply jC [15] hS _;apply jC [16] hS _;apply jC [17] hS _;apply jC [18,19,20,21,22,23] hS _;apply jC [24] hS _;apply jC [25,26] hS _;apply jC [27] hS _;apply jC [28] hS _;apply jC [29] hS _;apply jC [30] hS _;apply jC [31] hS _;apply jC [32] hS _;apply jC [33] hS _;apply jS 34;apply(jN);apply(jZ);apply(jD);apply G _;refine WQ.again (d+1,_) kz ⟨CV,hS,?_⟩ (by show c - (d+1)<c - d;omega)
  show pz EY _ f wa _ ((List.range (d+1)).filterMap _)
  rw[p5];exact jW.below (kv.below wk.heap.size)
 case inr=>
 rw[haj]at vi;obtain⟨b9,o9,qu,DQ,es,sw,-,R9,qO,AN,sm9⟩:=nw mL zA;obtain⟨rfl,rfl⟩:H7=some (Aq b9 o9)/\Gk=qu:=by simpa using es
 clear es;rw[show(((d+1:Nat)):Int)=(d:Int)+1 by omega]at CU Zd;rw[Ww zA CU Zd]at Dp;simp only at Dp;generalize s.rows.getD j kE=r at R9 qO AN sm9 Dp;have yZ:=R9.del;have R9g:=R9.gone;have lM:=qO.len;have up:∀ {wx:World}{o:Nat},jP wl wx->wx.cell? (Aq b9 o)=w.cell? (Aq b9 o):=fun {wx o} hx=>(hx.cell (p:=Aq b9 o) (I:b9<wl.heap.size)).trans (bl.cell (p:=Aq b9 o) sw);cases wI:r.del with
 | true=>
  rw[wI]at yZ Dp;have NA:lU s (t,(d:Int)+1)=none:=Dp;rw[NA,dM,aP]at p5;apply G _;refine WC.drawn 34 (jP wl) fun wa kv=>?_;have hS:=bk.trans (kv.below _);apply jC [0,1] hS _;apply ss 2 (d+1) (d+1) rfl rfl rfl rfl rfl rfl rfl rfl rfl I I (.inr hS);apply jz 3 (mw 4 34) (fun wx hx=>vi hx) hS;apply jC [4,5,6,7,8] hS _;apply jz 9 (mw 15 34) (fun wx hx=>Qk hx) hS;apply jC [10,11] hS _;apply ss 12 (d+1) (d+1) rfl rfl rfl rfl rfl rfl rfl rfl rfl I I (.inr hS);apply jz 13 (mw 14 34) (fun wx hx=>vi hx) hS;apply jC [14] hS _;apply ss 15 j (o9+j*14) rfl rfl rfl rfl rfl rfl rfl rfl I zA rfl (.inr hS);apply jC [16] hS _;apply jz 17 (mw 18 34) (fun wx hx=>(up hx).trans yZ) hS;apply jC [18,19,20,21,22,23] hS _;apply jC [24] hS _;apply jC [25,26] hS _;apply jC [27] hS _;apply jC [28] hS _;apply jC [29] hS _;apply jC [30] hS _;apply jC [31] hS _;apply jC [32] hS _;apply jC [33] hS _;apply jS 34;apply(jN);apply(jZ);apply(jD);apply G _;refine WQ.again (d+1,_) kz ⟨CV,hS,?_⟩ (by show c - (d+1)<c - d;omega)
  show pz EY _ f wa _ ((List.range (d+1)).filterMap _)
  rw[p5];exact jW.below (kv.below wk.heap.size)
 | false=>
 rw[wI]at yZ;cases BV:r.gone with
 | true=>
  rw[wI,BV]at Dp;rw[BV]at R9g;have NA:lU s (t,(d:Int)+1)=none:=Dp;rw[NA,dM,aP]at p5;apply G _;refine WC.drawn 34 (jP wl) fun wa kv=>?_;have hS:=bk.trans (kv.below _);apply jC [0,1] hS _;apply ss 2 (d+1) (d+1) rfl rfl rfl rfl rfl rfl rfl rfl rfl I I (.inr hS);apply jz 3 (mw 4 34) (fun wx hx=>vi hx) hS;apply jC [4,5,6,7,8] hS _;apply jz 9 (mw 15 34) (fun wx hx=>Qk hx) hS;apply jC [10,11] hS _;apply ss 12 (d+1) (d+1) rfl rfl rfl rfl rfl rfl rfl rfl rfl I I (.inr hS);apply jz 13 (mw 14 34) (fun wx hx=>vi hx) hS;apply jC [14] hS _;apply ss 15 j (o9+j*14) rfl rfl rfl rfl rfl rfl rfl rfl I zA rfl (.inr hS);apply jC [16] hS _;apply jz 17 (mw 18 34) (fun wx hx=>(up hx).trans yZ) hS;apply jC [18,19,20,21,22,23] hS _;apply jz 24 (mw 30 34) (fun wx hx=>Qk hx) hS;apply jC [25,26] hS _;apply ss 27 (d+1) (d+1) rfl rfl rfl rfl rfl rfl rfl rfl rfl I I (.inr hS);apply jz 28 (mw 29 34) (fun wx hx=>vi hx) hS;apply jC [29] hS _;apply ss 30 j (o9+j*14) rfl rfl rfl rfl rfl rfl rfl rfl I zA rfl (.inr hS);apply jC [31] hS _;apply jz 32 [33,34] (fun wx hx=>(up hx).trans R9g) hS;apply jC [33] hS _;apply jS 34;apply(jN);apply(jZ);apply(jD);apply G _;refine WQ.again (d+1,_) kz ⟨CV,hS,?_⟩ (by show c - (d+1)<c - d;omega)
  show pz EY _ f wa _ ((List.range (d+1)).filterMap _)
  rw[p5];exact jW.below (kv.below wk.heap.size)
 | false=>
 rw[wI,BV]at Dp;rw[BV]at R9g;have NA:lU s (t,(d:Int)+1)=some r:=Dp;rw[NA,dm]at p5;apply G _;refine WC.drawn 34 (jP wl) fun wa kv=>?_;have hS:=bk.trans (kv.below _);have hSk:jP wk wa:=kv.below _;apply jC [0,1] hS _;apply ss 2 (d+1) (d+1) rfl rfl rfl rfl rfl rfl rfl rfl rfl I I (.inr hS);apply jz 3 (mw 4 34) (fun wx hx=>vi hx) hS;apply jC [4,5,6,7,8] hS _;apply jz 9 (mw 15 34) (fun wx hx=>Qk hx) hS;apply jC [10,11] hS _;apply ss 12 (d+1) (d+1) rfl rfl rfl rfl rfl rfl rfl rfl rfl I I (.inr hS);apply jz 13 (mw 14 34) (fun wx hx=>vi hx) hS;apply jC [14] hS _;apply ss 15 j (o9+j*14) rfl rfl rfl rfl rfl rfl rfl rfl I zA rfl (.inr hS);apply jC [16] hS _;apply jz 17 (mw 18 34) (fun wx hx=>(up hx).trans yZ) hS;apply jC [18,19,20,21,22,23] hS _;apply jz 24 (mw 30 34) (fun wx hx=>Qk hx) hS;apply jC [25,26] hS _;apply ss 27 (d+1) (d+1) rfl rfl rfl rfl rfl rfl rfl rfl rfl I I (.inr hS);apply jz 28 (mw 29 34) (fun wx hx=>vi hx) hS;apply jC [29] hS _;apply ss 30 j (o9+j*14) rfl rfl rfl rfl rfl rfl rfl rfl I zA rfl (.inr hS);apply jC [31] hS _;apply jz 32 [33,34] (fun wx hx=>(up hx).trans R9g) hS;apply jC [33] hS _;apply jS 34;apply(jN);apply(jZ);apply(jD);apply G _;refine WC.drawn 14 (jP wl) fun wb zL=>?_;have rX:=hS;replace hS:=hS.trans (zL.below _);have avr:=hSk.trans (zL.below _);apply jC [0,1,2,3] hS _;apply jz 4 (mw 10 15) (fun wx hx=>Qk hx) hS;apply jC [5,6] hS _;apply ss 7 (d+1) (d+1) rfl rfl rfl rfl rfl rfl rfl rfl rfl I I (.inr hS);apply jz 8 (mw 9 15) (fun wx hx=>vi hx) hS;apply jC [9] hS _;apply ss 10 j (o9+j*14) rfl rfl rfl rfl rfl rfl rfl rfl I zA rfl (.inr hS);apply kG 11 [12,13,14,15] (fun wx hx=>fun q u hu=>(up hx).trans (R9.all q u hu)) (ln lM) hS;apply jS 12;apply jx func113 (aaI (qO.sN.below (bl.trans (hS.mono zl))) sm9);rintro _ wc ⟨bc,tW,rfl,wC⟩;refine⟨_,rfl,?_⟩;have cc:=hS.kj bc;apply lI cc;apply jS 13;refine lh (hcs:=(ln wC.len)) (cs:=lA r tW) fun gl wd fd=>?_;have cd:=cc.kj fd.below;apply lI cd;apply jS 14;have zS:=hS.size;obtain⟨Dn,L_,FM,Ve⟩:=(jW.below avr).snoc zS bc wC fd.below AN sm9;have Kk:((List.range d).filterMap (fun(i:Nat)=>lU s (t,(i:Int)+1))).length<=d:=by
   have:=ef (fun(i:Nat)=>lU s (t,(i:Int)+1)) (List.range d)
   rwa [im]at this
 refine WL.snoc rfl rfl rfl rfl KU rfl L_ rfl fd.blk FM.one FM.len FM I I fun v9 we DN nB=>?_;apply(jZ);have Wv:=cd.trans (nB.old cd.size jW.own);have pY:=Ve DN nB
 (apply ke 15 rfl _)
 apply(jD);apply G _;refine WQ.again (d+1,_) kz ⟨CV,Wv,?_⟩ (by show c - (d+1)<c - d;omega)
 show pz EY _ f we _ ((List.range (d+1)).filterMap _)
 rw[p5];exact pY
open K
theorem Wx: na prog 35 iT 1 8:=na.mk' (z:=Iq 0) underlying35 jG rfl I
theorem QD {s:St}{t:Int}(h0:Vw.of s.rows (t,0)=[]): (List.range (j9 t s.rows+1)).flatMap (fun(i:Nat)=>Vw.of s.rows (t,(i:Int)))=tf s t:=by
 unfold tf;rw[List.range_succ_eq_map,aq,List.flatMap_map]
 show Vw.of s.rows (t,((0:Nat):Int))++_=_
 rw[show((0:Nat):Int)=0 from rfl,h0,aT]
 rfl
end Vw
namespace K
theorem EB {B:Nat}(hB:B<=1000000):∀(f:Nat) {w:World}{v:V}{cs:kL},mj f w v cs->Sm B f v->
  Calls prog 84 #[.agg cs.toArray] w fun e w'=>jP w w'/\∃rU,e=.returned (.agg rU.toArray)/\lz (fun b=>w.heap.size<=b) f w' v rU
 | 0,_,_,_,h,_=>h.elim
 | f+1,w,v,cs,h,hm=>by
  obtain⟨sn,sk,rfl,wk,wn,ws,wt,rV,uC⟩:=h;obtain⟨zm,O0,Ki⟩:=hm;obtain⟨sp,cap,rfl,vg,qn,kF⟩:=uC;apply kq (args:=[.agg (mR v sn (.slice sp v.kids.length cap)).toArray]) func84 ntmps84;apply G _;refine jO fun g1 w1 ou=>?_;have oJ:kJ w g1 w1 25 (mR v sn (.slice sp v.kids.length cap)):=ou;clear ou;refine jJ (z:=.agg jK.toArray) (fun _=>jG) fun g2 w2 mK=>?_;have mI:kJ w1 g2 w2 25 jK:=mK;clear mK;have CN:=oJ.size;have yD:=mI.size;have he1:=oJ.eq;have FW:=mI.eq;have nQ:=oJ.below.trans (mI.below.mono oJ.below.size);have B1:=oJ.blk.below mI.below oJ.blk.lt;have B2:=mI.blk;clear oJ mI;apply G _;apply Y (B1.cell 4 jM);apply jx func124 (Jv (rV.below nQ) I);rintro _ w3 ⟨lC,sx,rfl,hn3,hsx⟩;refine⟨_,rfl,?_⟩;have O6:=B1.below lC B1.lt;have Ak:=B2.below lC B2.lt;have pE:=nQ.kj lC;apply G _;apply jT (hv:=hsx) (O6.cell 4 jM) (O6.free 4);have C1:U 25 (w3.setCell (Aq g1 4) sx) g1 (mR v sx (.slice sp v.kids.length cap)):=O6.set 4 sx;have C2:U 25 (w3.setCell (Aq g1 4) sx) g2 jK:=Ak.other _ _ (by show g2≠g1;omega);have pK:jP w (w3.setCell (Aq g1 4) sx):=Z.below (Z.setCell (Z.jw pE) (fun hk=>by simp only at hk;omega) _);have KY:Z (fun b=>b≠g1) w3 (w3.setCell (Aq g1 4) sx):=(Z.refl _ w3).setCell (fun hk=>hk rfl) _;have oQ:m6 1 kZ Gw (fun b=>w.heap.size<=b/\b≠g1/\b≠g2) (w3.setCell (Aq g1 4) sx) sx v.names:=hn3.jA KY (fun b hb _=>by omega) (fun b hb=>by omega) fun _ _ h=>h;generalize w3.setCell (Aq g1 4) sx=w5 at C1 C2 pK oQ ⊢;clear KY;have hz5:=pK.size;have hgg:g1≠g2:=I;have T9:=C1.lt;have VS:=C2.lt;apply G _;apply Y (C1.cell 5 jM);apply G _;refine WC.loop (fun i:Nat×Value=>[(1,jV g1),(2,jV g2),(3,i.2),(11,.slice sp v.kids.length cap),(12,Iq v.kids.length),(13,Iq i.1)])
   (fun i wr=>i.1<=v.kids.length/\jP w5 wr/\∃q:Nat->Prop,kC 25 6 mM (lz q f wr) (fun b=>w5.heap.size<=b) wr i.2 (v.kids.take i.1)/\∀b,q b->w5.heap.size<=b/\b<wr.heap.size/\i.2.ownBlock≠some b) (fun i=>v.kids.length - i.1) (0,kP)
   kz ⟨ay _,Below.refl _ _,fun _=>False,kC.nil _ _ _ _ _ _,fun b h=>h.elim⟩ ?_
  rintro⟨i,vk⟩ wr ⟨hi,lx,q,vC,hq⟩;simp only at hi lx vC hq ⊢;have D1:=C1.below lx T9;have D2:=C2.below lx VS;have uX:=pK.trans (lx.mono hz5);have hzr:=lx.size
  by_cases kt:i<v.kids.length
  ·obtain⟨kb,ko,rfl,qp,lP⟩:=kF I
   obtain⟨c,oh,qw,nW⟩:=lP i kt;apply G _;apply jQ i (ko+i*6) kt;apply jy (fun j u hu=>(uX.cell (p:=Aq kb (ko+i*6+j)) qp).trans (nW j u hu)) oh;refine jJ (z:=.agg jK.toArray) (fun _=>jG) fun kc wa hfa=>?_;have Eb:kJ wr kc wa 25 jK:=hfa;clear hfa;apply G _;apply jE (hm:=oh) (hold:=(by rfl)) Eb.blk (mj.one qw);have xL:jP wr (wa.setRow kc c.toArray):=below_setRow Eb.below (by rw[Eb.eq];exact aj _) _;have Ka:U 25 (wa.setRow kc c.toArray) kc c:=Eb.blk.setRow _;generalize wa.setRow kc c.toArray=wb at xL Ka;clear Eb;have SD:=xL.size;apply G _;apply jy (U.rangeAt Ka) oh;apply jx func84 (EB hB f (qw.below (uX.kj xL)) (Ki _ (by simp[kt])));rintro _ w6 ⟨agH,c6,rfl,afI⟩;refine⟨_,rfl,?_⟩;have tD:=xL.trans (agH.mono SD);have ER:lz (fun b=>wr.heap.size<=b) f w6 (v.kids.getD i mM) c6:=lz.mono (fun b hb=>by omega) afI;have Yx:=tD.size;refine lh (hcs:=ER.len) (hs:=⟨I,I⟩) fun g7 w7 xF=>?_;have hz7:=xF.size;have wS:=tD.trans (xF.below.mono Yx);have Dx:kC 25 6 mM (lz (fun b=>q b\/(wr.heap.size<=b/\b<w7.heap.size)) f w7) (fun b=>w5.heap.size<=b) w7 vk (v.kids.take i) :=
    vC.jA (Z.jw wS) (fun g hg=>vC.lt hg) nN fun x cs hx=>hx.jA (Z.jw wS) (fun b hb _=>(hq b hb).2.1) fun b hb=>.inl hb
   have Kp:lz (fun b=>q b\/(wr.heap.size<=b/\b<w7.heap.size)) f w7 (v.kids.getD i mM) c6:=ER.there.jA (Z.jw xF.below) (fun b _ h=>h) fun b hb=>.inr ⟨hb.1,I⟩;have j6:(v.kids.take i).length<=i:=by rw[aC];omega
   refine WL.snoc rfl rfl rfl rfl RD rfl Dx rfl xF.blk ER.one ER.len Kp I I fun vk8 w8 Aw p7=>?_;have DP:=(lx.trans (wS.mono hzr)).trans (p7.old I fun g hg=>Dx.own hg);have TW:∀b,(q b\/(wr.heap.size<=b/\b<w7.heap.size))->w5.heap.size<=b/\b<w7.heap.size/\vk.ownBlock≠some b:=fun b hb=>hb.elim (fun h=>by
     obtain⟨h1,h2,h3⟩:=hq b h;exact⟨h1,I,h3⟩) fun h=>⟨I,h.2,fun e=>by have:=vC.lt e;omega⟩
   have xE:v.kids.take (i+1)=v.kids.take i++[v.kids.getD i mM]:=by
    rw[aK];simp[kt]
   apply G _;refine WQ.again (i+1,vk8) kz ⟨kt,DP,(fun b=>q b\/(wr.heap.size<=b/\b<w7.heap.size)),?_,fun b hb=>?_⟩ (by show v.kids.length - (i+1)<v.kids.length - i;omega)
   ·show kC _ _ _ _ _ _ _ (v.kids.take (i+1))
    rw[xE];exact Aw.jA (Z.refl (fun _=>True) w8) (fun _ _=>trivial) (fun b hb=>by omega) fun x cs hx=>hx.jA p7.1 (fun b hb _=>(TW b hb).2) fun b hb=>hb
   ·obtain⟨h1,h2,h3⟩:=TW b hb
    exact⟨h1,ao h2 p7.1.size,fun e=>(p7.2 b e).elim h3 fun h4=>by omega⟩
  ·obtain rfl:i=v.kids.length:=I
   rw[aN]at vC;have hvk:=vC.one;have ql:Z (fun b=>b≠g1) wr (wr.setCell (Aq g1 5) vk):=(Z.refl _ wr).setCell (fun hk=>hk rfl) _;apply G _;apply jT (hv:=hvk) (D1.cell 5 jM) (D1.free 5);have E1:=D1.set 5 vk;have E2:U 25 (wr.setCell (Aq g1 5) vk) g2 jK:=D2.other _ _ (by show g2≠g1;omega);have U2:jP w (wr.setCell (Aq g1 5) vk):=Z.below (Z.setCell (Z.jw uX) (fun hk=>by simp only at hk;omega) _);have Ti:=(oQ.there Db).jA (O':=fun b=>(w.heap.size<=b/\b≠g1/\b≠g2)) (Z.jw lx) (fun b hb j6=>j6) (fun b hb=>hb.1) fun _ _ h=>h;have JI:=Ti.jA ql (fun b hb _=>hb.2.1) (fun b hb=>hb) fun _ _ h=>h;have Jo:m6 6 mM (lz (fun b=>w5.heap.size<=b) f (wr.setCell (Aq g1 5) vk)) (fun b=>w5.heap.size<=b) (wr.setCell (Aq g1 5) vk) vk v.kids :=
    vC.kN.jA ql (fun b hb _=>by omega) (fun b hb=>hb) fun x cs hx=>hx.jA ql (fun b hb _=>by have:=(hq b hb).1;omega) fun b hb=>(hq b hb).1
   generalize wr.setCell (Aq g1 5) vk=w9 at E1 E2 U2 JI Jo;simp only[eI,gT]at E1;apply G _;apply jy (U.rangeAt E1) rfl;have m9:lY [Iq v.k,Iq v.n,Iq v.s,.string v.t,sx,vk]:=by
    intro u hu;simp at hu
    rcases hu with rfl|rfl|rfl|rfl|rfl|rfl<;>first|rfl|assumption
   apply jE E2 m9;apply G _;have uw:∀a,Z (fun b=>b≠g2) w9 (w9.setRow g2 a):=fun a=>Z.setRow (Z.refl _ w9) (fun hk=>hk rfl) a;refine WQ.vJ rfl rfl rfl rfl (E2.setRow _) ⟨Z.below (Z.setRow (Z.jw U2) (fun hk=>by omega) _),_,rfl,sx,vk,rfl,wk,wn,ws,wt,JI.jA (uw _) (fun b hb _=>hb.2.2) (fun b hb=>hb.1) fun _ _ h=>h,?_⟩;exact Jo.jA (uw _) (fun b hb _=>by omega) (fun b hb=>by omega) fun x cs hx=>hx.jA (uw _) (fun b hb _=>by omega) fun b hb=>I
end K
namespace Cr
open K Cat
theorem Vt {b:Nat}{es:Array MapEntry}{clock:Nat}(hb:w.heap[b]? = some (.map es clock)):
  Calls prog 77 #[.map (some b)] w fun e w'=>e=.returned (.map (some w.heap.size))/\w'=w.alloc (.map es clock):=by
 have hq:=fun w=>dK (P:=prog) w 142 _ _ (some b) d_
 go_enter func77,ntmps77
 go_wp2
 rw[eh func78 jG jG jG (e:=Extern.MapsClone.clone) jG,eW _ 142 hb];simp only[Result.andThen];rw[Oper.upon_value]
 go_wp2
 rw[dO _ 142 _ _ _ _ d_];simp only[Result.andThen];rw[Oper.upon_value]
 go_wp2
 go_ret
 exact⟨rfl,rfl⟩
theorem jY.within {e:TypeId}{v:Value}{n:Nat}{l:kL}(h:jY e m w O v n l): jY e m w (fun b=>O b/\b<w.heap.size) v n l:=⟨h.1,h.2.1,fun _ hg=>⟨h.own hg,h.lt hg⟩⟩
theorem uF.within {L:List Tb}(h:uF eT eF w O tv L): uF eT eF w (fun b=>O b/\b<w.heap.size) tv L:=by
 obtain⟨cells,h1,h2⟩:=h;exact⟨cells,jY.within h1,fun i hi=>⟨(h2 i hi).1,(h2 i hi).2.1,(h2 i hi).2.2.1,jY.within (h2 i hi).2.2.2⟩⟩
theorem uF.mono {O':Nat->Prop}{L:List Tb}(h:uF eT eF w O tv L)(hO:∀b,O b->O' b): uF eT eF w O' tv L:=by
 obtain⟨cells,h1,h2⟩:=h;exact⟨cells,h1.mono hO,fun i hi=>(h2 i hi).mono hO⟩
abbrev ctT:Nat:=144
theorem ahP (sp:Option Addr)(m cap:Nat)(dr:Int)(mb:Nat): prog.built ctT [(0,.slice sp m cap),(1,.int .u64 dr),(2,.map (some mb))]=some [.slice sp m cap,.int .u64 dr,.map (some mb)].toArray:=jG
theorem Xw {n:Nat}{L:List Tb}(h0:m_ w c O n L): Calls prog 48 #[jV c] w fun e w'=>∃c' O',e=.returned (.pointer (some (Aq c' 0)))/\m_ w' c' O' n L/\jP w w'/\∀b,O' b->w.heap.size<=b:=by
 obtain⟨tv,dr,mb,hv,zk,wB,hO,hT,hB,hM,hG⟩:=id h0;have k1:=hv.cell 1 jM;have k2:=hv.cell 2 jM;simp only[aA,al]at k1 k2;have j6:=hO _ zk;apply kq func48 ntmps48;apply G _;apply(kV);apply G _;refine WC.drawn 11 (jP w) fun w1 hd=>?_;have hS:jP w w1:=hd.below _;apply jC [0,2,3,4,6,7,8] hS _;apply jz 5 [11] (lX j6 k1) hS;apply jz 9 [10,11] (lX j6 k2) hS;apply jS 1;apply jx func28 (wZ (h0.below hS (aj _)));rintro _ w2 ⟨sp,cap,rfl,hT2,b2⟩;refine⟨_,rfl,?_⟩;have c2:=hS.kj b2;apply lI c2;obtain⟨es,clock,hm,Bt⟩:=K.MF.clone (hM.below c2 (hO _ wB));apply jS 10;apply kH func77 (Vt hm);rintro w3 e3
 have b3:=e3 ▸ (Below.refl _ _).alloc (aj _) _;have c3:=c2.kj b3;have z3:w3.heap.size=w2.heap.size+1:=by rw[e3];show(w2.heap.push _).size=_;simp
 rw[<-e3]at Bt;apply lI c3;apply jS 11;apply jR [.slice sp L.length cap,.int .u64 (dr:Nat),.map (some w2.heap.size)] (ahP _ _ _ _ _);apply(jZ);apply jS 12;refine jO fun g w4 f4=>?_;apply(jZ)
 (apply ke 13 rfl _)
 apply WD.done jG;have c4:=c3.kj f4.below;have v4:U ctT w4 g [.slice sp L.length cap,.int .u64 (dr:Nat),.map (some w2.heap.size)]:=f4.blk;have e4:=f4.eq;have CN:=hS.size;have yD:=b2.size;have hz4:=f4.size;have hT4:uF 98 100 w4 (fun b=>w.heap.size<=b/\b<w4.heap.size) (.slice sp L.length cap) L :=
  Cr.uF.mono (Cat.uF.jA (Cr.uF.within hT2) (Z.jw (b3.kj f4.below)) fun b hb=>hb.2) fun b (hb:w1.heap.size<=b/\b<w2.heap.size)=>⟨I,I⟩
 have Vm:=Bt.below f4.below I;have k2':=v4.cell 2 jM;simp only[aA,al]at k2';apply jF _;apply WL.alN d_ rfl rfl rfl rfl rfl;apply G _;exact WQ.so rfl rfl ⟨g,fun b=>w.heap.size<=b/\b<w4.heap.size,rfl,⟨_,dr,_,v4,⟨I,I⟩,⟨I,I⟩,fun b hb=>hb.2,hT4,hB,Vm,hG⟩,c4,fun b hb=>hb.1⟩
end Cr
namespace Vw
open K
abbrev pvT:Nat:=132
abbrev vM:Nat:=90
abbrev IN:Nat:=135
theorem apd: IN<prog.types.size:=aR jG
theorem aiR:(match prog.underlying IN with|some (.array _ _)|some (.struct _)=>true|_=>false)=true:=by rw[show prog.underlying IN=_ from underlying135]
theorem Lv: Keyed prog IN:=gK (gp Cat.laid (m:=2) I apd jG aiR)
theorem Xl: prog.keyType IN=true:=jG
theorem agm: prog.cellsOf IN=2:=jG
theorem XN {x:Int×Int}(h1:lV x.1)(h2:lV x.2): keyOf prog IN (nR x)=some (.string (keyBytes [.int .i64 x.1,.int .i64 x.2])) :=
 Oi underlying135 bJ rfl rfl lZ rfl rfl lZ Xl agm Cat.tB Cat.rK x (AR h1) (AR h2)
def O5 (x:Int):Value:=Iq x
theorem aea (x y:Int)(h:O5 x=O5 y): x=y:=by unfold O5 at h;injection h
theorem Ty: Keyed prog iT:=int_keyed bJ
theorem ah6 (h:lV x): keyOf prog iT (O5 x)=some (.int .i64 x):=by
 unfold keyOf O5;have hu:prog.underlying iT=some (.int .i64):=bJ;simp[hu,mapKey,AR h]
def vV (L:List Rw)(t:Int):Option Value:=if j9 t L=0 then none else some (Iq (j9 t L:Nat))
def sK (L:List Rw)(a:Int×Int):Option Value:=(L.find? fun r=>decide (r.nD=a) && !r.del).map fun r=>nR r.key
def CG (f:Int×Int->Bool)(a:Int×Int):Option Value:=if f a=true then some (.bool true) else none
structure PV (w:World) (vb:Nat) (M D:Nat->Prop) (f:Nat) (s:St) (cp:Nat) (Oc:Nat->Prop) (mr md mp mn k N:Nat) (F:Int×Int->Option Value):Prop where
 su:U pvT w vb [jV cp,.map (some mr),.map (some md),.map (some mp),.map (some mn),Iq s.n]
 cat:Cat.m_ w cp Oc k s.cat
 rows:MF prog IN nR w mr k F
 kN:∀x,m6 14 kE (ni D f w) D w ((F x).getD (kP)) (Vw.of s.rows x)
 xQ:MF prog iT O5 w md k (vV s.rows)
 xR:MF prog xZ nR w mp k (sK s.rows)
 xP:MF prog xZ nR w mn k (CG s.red)
 wG:M vb
 AB:M mr
 AV:M md
 Bz:M mp
 Cj:M mn
 tU:∀b,Oc b->M b
 out:¬Oc vb/\¬Oc mr/\¬Oc md/\¬Oc mp/\¬Oc mn
 rF:(mr≠md/\mr≠mp/\mr≠mn)/\(md≠mp/\md≠mn)/\mp≠mn
 lt:∀b,M b\/D b->b<w.heap.size
 sep:∀b,M b->¬D b
 ok:s.n<=N/\s.rows.length<=N/\k<=N/\N<=1000000
def rO (w:World)(vb:Nat)(M D:Nat->Prop)(f:Nat)(s:St)(N:Nat):Prop:=∃cp Oc mr md mp mn k F,PV w vb M D f s cp Oc mr md mp mn k N F
section
variable {w w':World}{vb:Nat}{M D:Nat->Prop}{f:Nat}{s:St}{cp:Nat}{Oc:Nat->Prop}{mr md mp mn k N:Nat}{F:Int×Int->Option Value}
theorem PV.jA (h:PV w vb M D f s cp Oc mr md mp mn k N F){K:Nat->Prop}(hk:Z K w w')(hK:∀b,M b\/D b->K b): PV w' vb M D f s cp Oc mr md mp mn k N F :=
 ⟨h.su.jA hk (hK _ (.inl h.wG)),h.cat.jA hk fun b hb=>hK b (.inl (h.tU b hb)),h.rows.jA hk (hK _ (.inl h.AB)),fun x=>(h.kN x).jA hk (fun b hb _=>hK b (.inr hb)) nN fun _ _ hp=>hp.jA hk (fun b hb _=>hK b (.inr hb)) nN,
  h.xQ.jA hk (hK _ (.inl h.AV)),h.xR.jA hk (hK _ (.inl h.Bz)),h.xP.jA hk (hK _ (.inl h.Cj)),h.wG,h.AB,h.AV,h.Bz,h.Cj,h.tU,h.out,h.rF,fun b hb=>ao (h.lt b hb) hk.size,h.sep,h.ok⟩
theorem PV.below (h:PV w vb M D f s cp Oc mr md mp mn k N F)(hb:jP w w'): PV w' vb M D f s cp Oc mr md mp mn k N F:=h.jA (Z.jw hb) h.lt
theorem rO.below (h:rO w vb M D f s N)(hb:jP w w'): rO w' vb M D f s N:=by obtain⟨_,_,_,_,_,_,_,_,h⟩:=h;exact⟨_,_,_,_,_,_,_,_,h.below hb⟩
theorem rO.jA (h:rO w vb M D f s N){K:Nat->Prop}(hk:Z K w w')(hK:∀b,M b\/D b->K b): rO w' vb M D f s N:=by obtain⟨_,_,_,_,_,_,_,_,h⟩:=h;exact⟨_,_,_,_,_,_,_,_,h.jA hk hK⟩
theorem rO.lt (h:rO w vb M D f s N): ∀b,M b\/D b->b<w.heap.size:=by obtain⟨_,_,_,_,_,_,_,_,h⟩:=h;exact h.lt
theorem rO.mono (h:rO w vb M D f s N){N':Nat}(h1:N<=N')(h2:N'<=1000000): rO w vb M D f s N':=by
 obtain⟨cp,Oc,mr,md,mp,mn,k,F,h⟩:=h;exact⟨cp,Oc,mr,md,mp,mn,k,F,{ h with ok:=by have:=h.ok;omega }⟩
theorem PV.Yj (h:PV w vb M D f s cp Oc mr md mp mn k N F){x:Int×Int}(h1:lV x.1)(h2:lV x.2): (Instr.lookup 127 (.map (some mr)) (nR x) false).run prog w=.ok ((F x).getD (kP)) w :=
 h.rows.look Lv fw jG (XN h1 h2)
theorem PV.Oj (h:PV w vb M D f s cp Oc mr md mp mn k N F){t:Int}(h1:lV t): (Instr.lookup 128 (.map (some md)) (.int .i64 t) false).run prog w=.ok (.int .i64 (j9 t s.rows:Nat)) w:=by
 have:=h.xQ.look Ty gh (z:=.int .i64 0) (by kernel_rfl) (ah6 h1);unfold O5 at this;rw[this];unfold vV
 by_cases e:j9 t s.rows=0
 ·rw[ag e,e];rfl
 ·rw[aa e];rfl
theorem PV.apl (h:PV w vb M D f s cp Oc mr md mp mn k N F)(h1:lV a.1)(h2:lV a.2): (Instr.lookup 130 (.map (some mn)) (nR a) false).run prog w=.ok (.bool (s.red a)) w:=by
 have:=h.xP.look xj gk (z:=.bool false) jG (DT h1 h2);rw[this];unfold CG;cases s.red a<;>rfl
theorem PV.apV (h:PV w vb M D f s cp Oc mr md mp mn k N F)(h1:lV a.1)(h2:lV a.2): (Instr.lookup 129 (.map (some mp)) (nR a) true).run prog w=.ok (.tuple #[(sK s.rows a).getD (nR (0,0)),.bool (sK s.rows a).isSome]) w :=
 h.xR.anH xj gj jG (DT h1 h2)
end
theorem Ho (a b:Int): prog.built IN [(0,Iq a),(1,Iq b)]=some [Iq a,Iq b].toArray:=jG
theorem Gr (w:World): (zeroValue 98).run prog w=.ok (.agg Cr.sX.toArray) w:=jG
theorem zH: prog.built vM []=some (lA kE jK).toArray:=jG
theorem IA {r:Rw}(hv:mj f w r.data dc)(nE:Sm 3000 f r.data):
  Calls prog 58 #[.agg (lA r dc).toArray] w fun e w'=>jP w w'/\∃tW,e=.returned (.agg (lA r tW).toArray)/\lz (fun b=>w.heap.size<=b) f w' r.data tW:=by
 have lM:=hv.len;have m9:=mj.one hv;apply kq (args:=[.agg (lA r dc).toArray]) func58 ntmps58;apply mA _;refine jO fun g1 w1 f1=>?_;have v1:U vM w1 g1 (lA r dc):=f1.blk;have b1:=f1.below;have e1:=f1.eq;have s1:=f1.size;clear f1;refine jJ (z:=.agg (lA kE jK).toArray) (fun _=>jG) fun g2 w2 f2=>?_;have v2:U vM w2 g2 (lA kE jK):=f2.blk;have b2:=b1.kj f2.below;have e2:=f2.eq;replace v1:=U.below v1 f2.below (U.lt v1);have z1:=b1.size;clear f2;apply G _;apply jy (rD.of (U.rangeAt v1) lM).data lM;apply jx func84 (EB (B:=3000) I f (hv.below b2) nE);rintro _ w3 ⟨b3,tW,rfl,rI⟩;refine⟨_,rfl,?_⟩;have xU:=rI.len;have l1:=U.lt v1;have l2:=U.lt v2;replace v1:=U.below v1 b3 l1;replace v2:=U.below v2 b3 l2;have bb:=b2.kj b3;apply G _;apply WL.uM rfl rfl rfl rfl rfl rfl v1 xU (by rw[ln lM];omega) rI.one;have v4:=U.setRow v1 ((lA r dc).take 3++tW++(lA r dc).drop (3+6));have k4:Z (fun x=>x≠g1) w3 (w3.setRow g1 ((lA r dc).take 3++tW++(lA r dc).drop (3+6)).toArray):=Cr.mo (Z.refl _ _) jM _;rw[Ev lM]at v4 k4;change WL _ _ _ _ _ (w3.setRow g1 ((lA r dc).take 3++tW++(lA r dc).drop (3+6)).toArray);rw[Ev lM];generalize w3.setRow g1 _=w4 at v4 k4 ⊢;apply G _;apply jy (U.rangeAt v4) (ln xU);have v24:=v2.jA k4 I;apply jE (hm:=(ln xU)) v24 (nu rI.one);have v5:=U.setRow v24 (lA r tW);have k5:Z (fun x=>x≠g1/\x≠g2) w3 (w4.setRow g2 (lA r tW).toArray):=Cr.mo (k4.mono fun x hx=>hx.1) jM _;generalize w4.setRow g2 _=w5 at v5 k5 ⊢;apply G _;exact WQ.vJ rfl rfl rfl (ln xU) v5 ⟨((Z.jw bb).trans (k5.mono fun x (hx:x<w.heap.size)=>⟨I,I⟩)).below,tW,rfl,rI.jA k5 (fun x hx _=>⟨I,I⟩) fun x hx=>by have:=b2.size;omega⟩
theorem Nn {s:St}(h0:rO w vb M D f s N){t:Int}(ht:lV t):
  Calls prog 83 #[jV vb,Iq t] w fun e w'=>e=.returned (Iq (next s t))/\jP w w':=by
 obtain⟨cp,Oc,mr,md,mp,mn,k,F,h⟩:=h0;have c0:=h.su.cell 0 jM;simp only[al]at c0;apply kq func83 ntmps83;apply G _;apply(kV);apply jF _;apply jx func82 (Cat.yy h.cat t);rintro _ w2 ⟨sp,c,rfl,ho,b2⟩;refine⟨_,rfl,?_⟩;apply G _;refine jJ (z:=.agg Cr.sX.toArray) Gr fun g8 w3 f3=>?_;apply jE f3.blk (Cr.rn rfl);obtain⟨v8,b8,-,q8⟩:=nv [Iq (Cat.kM s.cat t).1,.string (Cat.kM s.cat t).2.1.name,.bool (Cat.kM s.cat t).2.1.dropped,.slice sp (Cat.kM s.cat t).2.1.fs.length c] b2 f3;generalize w3.setRow g8 _=w4 at v8 b8 ⊢;clear f3 ho b2 q8 w3 w2 v8;have h4:=h.below b8;have c2:=h4.su.cell 2 jM;simp only[aA,al]at c2;have hl:=h4.Oj ht;have xq:next s t=if(Cat.kM s.cat t).2.2=0 then(j9 t s.rows:Int)+1 else 0:=rfl
 rw[xq];have nL:=uZ t s.rows;have mq:=h.ok;generalize (Cat.kM s.cat t).2.2=code;generalize j9 t s.rows=c at *
 by_cases hc:code=0
 ·rw[ag hc]
  apply jF _;apply WL.look rfl rfl rfl rfl rfl rfl hl;apply G _;exact J ⟨rfl,b8⟩
 ·rw[aa hc]
  apply G _;exact J ⟨rfl,b8⟩
open K
def Ih (w:World)(D:Nat->Prop)(f:Nat)(T:Option Rw)(e:Ending)(w':World):Prop :=
 jP w w'/\∃r dc b,e=.returned (.tuple #[.agg (lA r dc).toArray,.bool b])/\lz D f w' r.data dc/\zU r/\Sm 3000 f r.data/\(match T with|some r'=>r=r'/\b=true|none=>b=false)
theorem arz: zU kE:=⟨by decide,by decide,by decide,by decide,by decide,by decide⟩
theorem PK {s:St}(h0:rO w vb M D (f+1) s N){t d:Int}(ht:lV t)(hd:lV d):
  Calls prog 57 #[jV vb,.agg #[Iq t,Iq d]] w (Ih w D (f+1) (lU s (t,d))):=by
 obtain⟨cp,Oc,mr,md,mp,mn,k,F,h⟩:=id h0;apply kq func57 ntmps57;apply mA _;refine jO fun g3 w1 f1=>?_;have v3:U IN w1 g3 [Iq t,Iq d]:=f1.blk;have b1:=f1.below;have e3:=f1.eq;have s3:=f1.size;clear f1;refine jJ (z:=.agg (lA kE jK).toArray) (fun _=>jG) fun g4 w2 f2=>?_;have v4:U vM w2 g4 (lA kE jK):=f2.blk;have b2:=b1.kj f2.below;have e4:=f2.eq;replace v3:=U.below v3 f2.below (U.lt v3);have z1:=b1.size;replace s3:g3<g4:=I;have w3g:w.heap.size<=g3:=I;clear f2 b1 z1 e4 e3 w1;have h2:=h.below b2;have c0:=h2.su.cell 0 jM;simp only[al]at c0;have xu:=h2.lt vb (.inl h2.wG);have l3:=U.lt v3;have l4:=U.lt v4;have k30:=v3.cell 0 jM;simp only[al]at k30;apply G _;refine WC.tn (fun g:Nat=>[(0,jV vb),(3,jV g3),(4,jV g4),(6,jV g),(7,Iq (Cat.kM s.cat t).2.2)])
  (fun g w'=>jP w2 w'/\g<w'.heap.size/\w'.cell? (Aq g 2)=some (.bool (Cat.kM s.cat t).2.1.dropped)) rfl ?_ ?_
 ·refine WC.drawn 6 (jP w2) fun wa kv=>?_
  have hS:jP w2 wa:=kv.below _;apply jC [0,1,2,4] hS _;apply jz 3 [6,7,8,9,11,12] (lX xu c0) hS;apply jz 5 [6,7,8,9,11,12] (lX l3 k30) hS;refine WD.two 6 10 jG rfl rfl ?_ ?_
  ·skip
   apply jx func82 (Cat.yy (h2.below hS).cat t);rintro _ wb ⟨sp,c,rfl,ho,rA⟩;refine⟨_,rfl,?_⟩;apply(jZ)
   (apply ke 7 rfl _;apply ke 8 rfl _;apply ke 9 rfl _)
   apply jS 10;refine jJ (z:=.agg Cr.sX.toArray) Gr fun g9 wc f9=>?_;apply(jZ);apply jS 11;apply jE f9.blk (Cr.rn rfl);obtain⟨vf,bf,-,-⟩:=nv [Iq (Cat.kM s.cat t).1,.string (Cat.kM s.cat t).2.1.name,.bool (Cat.kM s.cat t).2.1.dropped,.slice sp (Cat.kM s.cat t).2.1.fs.length c] rA f9;replace bf:=hS.kj bf;apply(jZ)
   (apply ke 12 rfl _)
   apply(jD);apply G _;exact WQ.meet g9 kz ⟨bf,vf.lt,vf.cell 2 jM⟩
  ·skip
   refine jJ (z:=.agg Cr.sX.toArray) Gr fun g9 wc f9=>?_;have AG:=hS.kj f9.below;apply lI AG;apply jS 6;apply jx func82 (Cat.yy (h2.below AG).cat t);rintro _ wb ⟨sp,c,rfl,ho,rA⟩;refine⟨_,rfl,?_⟩;apply(jZ)
   (apply ke 7 rfl _;apply ke 8 rfl _;apply ke 9 rfl _)
   apply jS 11;have v9:=U.below f9.blk rA f9.blk.lt;apply jE v9 (Cr.rn rfl);have vf:=v9.setRow [Iq (Cat.kM s.cat t).1,.string (Cat.kM s.cat t).2.1.name,.bool (Cat.kM s.cat t).2.1.dropped,.slice sp (Cat.kM s.cat t).2.1.fs.length c];have hge:=f9.eq;have hgz:=hS.size;have bf:=(Cr.mo (K:=fun x=>x<w2.heap.size) (g:=g9) (Z.jw (AG.kj rA)) (fun hh=>by omega) [Iq (Cat.kM s.cat t).1,.string (Cat.kM s.cat t).2.1.name,.bool (Cat.kM s.cat t).2.1.dropped,.slice sp (Cat.kM s.cat t).2.1.fs.length c].toArray).below;apply(jZ)
   (apply ke 12 rfl _)
   apply(jD);apply G _;exact WQ.meet g9 kz ⟨bf,vf.lt,vf.cell 2 jM⟩
 rintro g6 w3 ⟨b3,lg6,cd⟩;have h3:=h2.below b3;replace v3:=U.below v3 b3 l3;replace v4:=U.below v4 b3 l4;have bw:=b2.kj b3;have z3:=b3.size;have c1:=h3.su.cell 1 jM;simp only[aA,al]at c1;have PD:=h3.lt vb (.inl h3.wG);have l3':=U.lt v3;have l4':=U.lt v4;clear c0 k30 h2 b2 b3 l3 l4 xu;have qD:lU s (t,d)=if AS s t=true then(match(Vw.of s.rows (t,d)).getLast? with|some r=>if r.del=false/\r.gone=false then some r else none|none=>none) else none:=rfl
 have MP:AS s t=(decide ((Cat.kM s.cat t).2.2=0) && !(Cat.kM s.cat t).2.1.dropped):=rfl;rw[MP]at qD;generalize (Cat.kM s.cat t).2.2=code at qD ⊢;generalize (Cat.kM s.cat t).2.1.dropped=dr at qD cd;clear MP;have xY:∀ {wx:World},jP w3 wx->(Instr.lookup 127 (.map (some mr)) (nR (t,d)) false).run prog wx=.ok ((F (t,d)).getD (kP)) wx:=fun hx=>(h3.below hx).Yj ht hd;have mL:=h3.kN (t,d);generalize (F (t,d)).getD (kP)=sv at xY mL;generalize Vw.of s.rows (t,d)=L at mL qD;obtain⟨sp,cap,rfl,uE,sL,-⟩:=id mL;apply G _;refine WC.drawn 6 (jP w3) fun wa kv=>?_;have hS:jP w3 wa:=kv.below _;clear kv;apply jC [0,1,2] hS _;apply jz 3 [5,6] (lX PD c1) hS;apply kG 4 [5,6] (fun wx hx=>U.rangeAt (U.below v3 hx l3')) rfl hS;apply nJ 5 [6] (fun wx hx=>xY hx) hS;apply jS 6;apply(jN);apply(jZ);apply(jD);have VX:=U.below v4 hS l4';have l4a:=U.lt VX;have cda:=(hS.cell (p:=Aq g6 2) lg6).trans cd;have ba:=bw.kj hS;have MO:=(oe (fun _=>True) 0 wa).one;have za:=hS.size;have none_:∀ {cs:kL},cs=lA kE jK->lU s (t,d)=none->Ih w D (f+1) (lU s (t,d)) (.returned (.tuple #[.agg cs.toArray,.bool false])) (wa.setRow g4 cs.toArray):=fun {cs} hc hn=>by
  subst hc;rw[hn];exact⟨(Cr.mo (K:=fun x=>x<w.heap.size) (g:=g4) (Z.jw ba) (fun hh=>by omega) _).below,kE,jK,false,rfl,oe _ _ _,arz,GV _,rfl⟩
 by_cases hc:code=0
 case neg=>
  rw[ar hc]at qD;apply jF _;apply jR (lA kE jK) zH;apply jE VX (nu MO);apply G _;exact WQ.yQ rfl rfl rfl rfl rfl (U.setRow VX _) (none_ rfl qD)
 case pos=>
 rw[aw hc]at qD;cases dr with
 | true=>
  apply jF _;apply jR (lA kE jK) zH;apply jE VX (nu MO);apply G _;exact WQ.yQ rfl rfl rfl rfl rfl (U.setRow VX _) (none_ rfl qD)
 | false=>
 by_cases G_:L.length=0
 case pos=>
  obtain rfl:L=[]:=bF G_;apply jF _;apply jR (lA kE jK) zH;apply jE VX (nu MO);apply G _;exact WQ.yQ rfl rfl rfl rfl rfl (U.setRow VX _) (none_ rfl qD)
 case neg=>
 have hi:L.length - 1<L.length:=I;have ui:L.getLast? = some (L.getD (L.length - 1) kE):=by rw[g_,ah,ai hi];rfl
 rw[ui]at qD;obtain⟨b9,o9,qu,DQ,es,sw,-,R9,qO,AN,sm9⟩:=nw mL hi;obtain⟨rfl,rfl⟩:sp=some (Aq b9 o9)/\cap=qu:=by simpa using es
 clear es;generalize L.getD (L.length - 1) kE=r at R9 qO AN sm9 qD;have R9a:=R9.below (Z.jw hS) sw;have x3:=R9a.all;have lM:=qO.len;apply jF _;apply jQ (hz:=I) (L.length - 1) (o9+(L.length - 1)*14) hi;apply jy x3 (ln lM);refine jJ (z:=.agg (lA kE jK).toArray) (fun _=>jG) fun g9 w4 f4=>?_;apply jE (hm:=(ln lM)) f4.blk (nu qO.one);obtain⟨v9,b9',-,q9⟩:=nv (lA r DQ) (Below.refl wa.heap.size wa) f4;generalize w4.setRow g9 _=w5 at v9 b9' ⊢;clear f4;have l9:=U.lt v9;have v45:=U.below VX b9' l4a;have A9:=rD.of (U.rangeAt v9) lM;have z5:=b9'.size;have EJ:=h3.lt;have fin:∀ {wx:World}{b:Bool},jP w5 wx->(match lU s (t,d) with|some r'=>r=r'/\b=true|none=>b=false)->Ih w D (f+1) (lU s (t,d)) (.returned (.tuple #[.agg (lA r DQ).toArray,.bool b])) (wx.setRow g4 (lA r DQ).toArray):=fun {wx b} hx hm=>by
  have kx:Z (fun x=>x≠g4) wx (wx.setRow g4 (lA r DQ).toArray):=Cr.mo (Z.refl _ _) jM _;have b3x:=hS.trans ((b9'.trans (hx.mono z5)).mono za);refine⟨((Z.jw (bw.kj b3x)).trans (kx.mono fun x (hx:x<w.heap.size) e=>by omega)).below,r,DQ,b,rfl,?_,AN,sm9,hm⟩;exact qO.jA ((Z.jw b3x).mono (fun x (hx:x<w3.heap.size/\x≠g4)=>hx.1) |>.trans (kx.mono fun x hx=>hx.2)) (fun x hx vR=>⟨vR,fun e=>by
   have:=h.lt x (.inr hx);omega⟩) nN
 have A9d:=A9.del;have A9g:=A9.gone;apply G _;have g94:g9≠g4:=I;replace qD:lU s (t,d)=if r.del=false/\r.gone=false then some r else none:=qD
 clear A9d A9g;cases wI:r.del with
 | true=>
  rw[wI]at qD;refine WC.drawn 10 (fun wx=>U vM wx g9 (lA r DQ)) fun wb kv=>?_;have hB:jP w5 wb:=kv.below _;have hS:U vM wb g9 (lA r DQ):=U.below v9 hB l9;clear kv;have Wb:=U.below v45 hB (U.lt v45);apply kG 0 [9,10] (fun wx hx=>U.rangeAt hx) (ln lM) hS;apply jC [1] hS _;apply jz 2 (mw 3 10) (fun wx hx=>(rD.of (U.rangeAt hx) lM).del.trans (by rw[wI])) hS;apply jC [3,4,5] hS _;apply jC [6] hS _;apply jC [7,8] hS _;apply jS 9;apply jE (hm:=(ln lM)) Wb (nu qO.one);refine WL.nil (WQ.dk (.inr (hS.jA (Cr.mo (K:=fun x=>x≠g4) (Z.refl _ _) jM _) g94)) ?_);apply jS 10;apply(jN);apply(jZ);apply(jD);apply G _;refine WQ.yQ rfl rfl rfl (congrArg some (ln lM)).symm rfl (U.setRow Wb _) (fin hB ?_);rw[qD]
  rfl
 | false=>
  rw[wI]at qD;refine WC.drawn 10 (fun wx=>U vM wx g9 (lA r DQ)) fun wb kv=>?_;have hB:jP w5 wb:=kv.below _;have hS:U vM wb g9 (lA r DQ):=U.below v9 hB l9;clear kv;generalize BV:r.gone=gn at qD;have Wb:=U.below v45 hB (U.lt v45);apply kG 0 [9,10] (fun wx hx=>U.rangeAt hx) (ln lM) hS;apply jC [1] hS _;apply jz 2 (mw 3 10) (fun wx hx=>(rD.of (U.rangeAt hx) lM).del.trans (by rw[wI])) hS;apply jC [3,4,5] hS _;apply jz 6 [7,8,10] (fun wx hx=>(rD.of (U.rangeAt hx) lM).gone.trans (by rw[BV])) hS;apply jC [7,8] hS _;apply jS 9;apply jE (hm:=(ln lM)) Wb (nu qO.one);refine WL.nil (WQ.dk (.inr (hS.jA (Cr.mo (K:=fun x=>x≠g4) (Z.refl _ _) jM _) g94)) ?_);apply jS 10;apply(jN);apply(jZ);apply(jD);apply G _;refine WQ.yQ rfl rfl rfl (congrArg some (ln lM)).symm rfl (U.setRow Wb _) (fin hB ?_);rw[qD];cases gn
  ·exact⟨rfl,rfl⟩
  ·rfl
end Vw
end Go.Proofs.YtlenklobbngopaaGreat
