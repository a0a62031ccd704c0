import Derived.Test.YtlenklobbngopaaGreatZIxC1
set_option maxHeartbeats 64000000
set_option maxRecDepth 100000
set_option linter.all false
namespace Go.Proofs.YtlenklobbngopaaGreat
open _root_.Go.Proofs.Tryz
open Go.RowKit
variable {α κ:Type}{jI:Array Bool}{i j fuel id b mm cap c m bytes kn g T bb dl dc b2 U5 q t2 tb size D d A N:Nat}{us is:List Nat}{oi:Oper}{a:Act}{w w1 w2 w' w0:World}{v' xv v1 u:Value}{p R:Prop}{x i' lo hi:Operand}{cs vs:kL}{z y:Int}{f:FuncId}{args:List Operand}{ts:Array TypeId}{k2 k1:IntKind}{l1:oK}{O O2 O':Nat->Prop}{md:Option (Option Nat)}{l:List α}{P':α->kL->Prop}{Q:Exit->Act->World->Prop}{pb pc root nx:Option Nat}
section
variable {P:Program}{ops:Array Oper}{Q:Exit->Act->World->Prop}{md:Region.Mode}{S:World->Prop}{n:Nat}
def pT (P:Program)(md:Region.Mode)(ops:Array Oper)(Q:Exit->Act->World->Prop)(S:World->Prop)(n:Nat):Nat->Array Bool->Act->World->Prop
 | 0,jI,a,w=>Region.ready md ops jI=[]/\Q .normal a w
 | fuel+1,jI,a,w=>
  (Region.ready md ops jI=[]->Q .normal a w)/\
  ∀i∈Region.ready md ops jI,wpOp P ops Q i (fun a' w'=>((jI.setIfInBounds i true).getD n false=true\/S w')/\pT P md ops Q S n fuel (jI.setIfInBounds i true) a' w') a w
theorem C0:∀(fuel:Nat) (jI:Array Bool) (a:Act) (w:World),pT P md ops Q S n fuel jI a w->wpAny P md ops Q fuel jI a w
 | 0,_,_,_,h=>h
 | fuel+1,_,_,_,h=>⟨h.1,fun i hi=>wpOp_mono (fun a' w' h'=>C0 fuel _ a' w' h'.2) (h.2 i hi)⟩
def yM (md:Region.Mode)(ops:Array Oper)(jI:Array Bool)(i n:Nat)(us:List Nat):Bool :=
 us.contains n && us.all fun q=>!jI.getD q true && ((ops[q]?).map (·.after.any fun e=>Region.binds md e && (e.on == i || us.contains e.on))).getD false
theorem aeJ (h:yM md ops jI i n us=true): jI.getD n true=false:=by
 unfold yM at h;simp only[aF,bY]at h;have:=h.2 n (by simpa using h.1)
 simpa using this.1
theorem W_ (h:yM md ops jI i n us=true)(hi:jI.getD i true=false)(hj:j∈Region.ready md ops jI): j ∉ us:=by
 intro hju;unfold yM at h;simp only[aF,bY]at h;obtain⟨-,h2⟩:=h;obtain⟨-,oj,Re,lO⟩:=jc.1 hj;have h3:=(h2 j hju).2;rw[Re]at h3;simp only[eM,fo]at h3;obtain⟨e,he,hb⟩:=Array.any_eq_true'.1 h3;simp only[aF,fz,gM]at hb;have h4:=lO e he hb.1;have h5:jI.getD e.on true=false:=by
  rcases hb.2 with e1|e1
  ·rw[e1];exact hi
  ·have:=(h2 e.on (by simpa using e1)).1
   simpa using this
 rcases aW e.on jI.size with h'|h'
 ·simp[h']at h4 h5;rw[h5]at h4;cases h4
 ·simp[iG h']at h4
theorem Yg (h:yM md ops jI i n us=true)(hj:j ∉ us): yM md ops (jI.setIfInBounds j true) i n us=true:=by
 unfold yM at *;simp only[aF,bY] at *;refine⟨h.1,fun q hq=>⟨?_,(h.2 q hq).2⟩⟩;rw[getD_set_ne true (by intro e;subst e;exact hj hq)];exact(h.2 q hq).1
theorem DD (h:jI.getD j true=false): jI.getD j false=false:=by
 rcases aW j jI.size with h'|h'
 ·simp[h']at h ⊢;exact h
 ·simp[iG h']at h
theorem Fp {v:Value}(hi:ops[i]? = some oi)(UT:∀(j:Nat) (o:Oper) cs b,ops[j]? = some o->o.op≠.select cs b)(hQ:∀c a w,Q (.panic c) (a.put oi.dst v) w->Q (.panic c) a w):
  ∀(fuel:Nat) (jI:Array Bool) (a:Act) (w:World),
   (∀j oj,ops[j]? = some oj->j≠i->jI.getD j true=false->(∀e∈oj.after,Region.binds md e=true->e.on≠i)->oi.apart ops oj=true)->
   yM md ops jI i n us=true->i ∉ us->
   i∈Region.ready md ops jI->YieldsIf P ops S oi v a->S w->
   pT P md ops Q S n fuel (jI.setIfInBounds i true) (a.put oi.dst v) w->pT P md ops Q S n (fuel+1) jI a w:=by
 intro fuel
 induction fuel with
 | zero=>
  intro jI a w _ _ _ hr hy hS H;refine⟨fun h=>(by rw[h]at hr;cases hr),fun j hj=>?_⟩
  by_cases B7:j=i
  ·subst B7;exact hy.wpOp hi hS ⟨.inr hS,H⟩
  ·have:=gP hj B7
   rw[H.1]at this;cases this
 | succ fuel ih=>
  intro jI a w NZ hw hiu hr hy hS H;refine⟨fun h=>(by rw[h]at hr;cases hr),fun j hj=>?_⟩
  by_cases B7:j=i
  ·subst B7;exact hy.wpOp hi hS ⟨.inr hS,H⟩
  ·have h1:=H.2 j (gP hj B7)
   have aaj:=(jc.1 hr).1;have hju:=W_ hw aaj hj;have hnu:n∈us:=by unfold yM at hw;simp only[aF]at hw;simpa using hw.1
   have Zd:j≠n:=fun e=>hju (e ▸ hnu);have pN:i≠n:=fun e=>hiu (e ▸ hnu);obtain⟨US,oj,Re,lO⟩:=jc.1 hj;have Ju:∀e∈oj.after,Region.binds md e=true->e.on≠i:=fun e he hb heq=>by
    have h1:=lO e he hb;rw[heq,DD aaj]at h1;cases h1
   have h2:=wpOp_putIf Re (NZ j oj Re B7 US Ju) (fun cs b=>UT i oi cs b hi) (fun cs b=>UT j oj cs b Re) hQ hy h1;have Se:∀k ok,ops[k]? = some ok->k≠i->(jI.setIfInBounds j true).getD k true=false->
     (∀e∈ok.after,Region.binds md e=true->e.on≠i)->oi.apart ops ok=true:=fun k ok hk MA KF nI=>by
    refine NZ k ok hk MA ?_ nI
    by_cases CU:j=k
    ·subst CU;exact US
    ·rw[getD_set_ne true CU]at KF;exact KF
   have OS:∀x,(((jI.setIfInBounds i true).setIfInBounds j true).getD n false=true\/x)->x:=fun x h=>by
    rcases h with h|h
    ·rw[getD_set_ne false Zd,getD_set_ne false pN,DD (aeJ hw)]at h;cases h
    ·exact h
   refine wpOp_mono (fun a' w' h3=>⟨.inr (OS _ h3.2.1),ih (jI.setIfInBounds j true) a' w' Se (Yg hw hju) hiu (gP hr (dT B7)) h3.1 (OS _ h3.2.1) ?_⟩) h2;rw[fx _ _ B7];exact h3.2.2
theorem GQ {v:Value}(hi:ops[i]? = some oi)(UT:∀(j:Nat) (o:Oper) cs b,ops[j]? = some o->o.op≠.select cs b)(hQ:∀c a w,Q (.panic c) (a.put oi.dst v) w->Q (.panic c) a w)(pN:i≠n):
  ∀(fuel:Nat) (jI:Array Bool) (a:Act) (w:World),
   (∀j oj,ops[j]? = some oj->j≠i->jI.getD j true=false->(∀e∈oj.after,Region.binds md e=true->e.on≠i)->oi.apart ops oj=true)->
   i∈Region.ready md ops jI->YieldsIf P ops (fun _=>True) oi v a->(jI.getD n false=true\/S w)->
   pT P md ops Q S n fuel (jI.setIfInBounds i true) (a.put oi.dst v) w->pT P md ops Q S n (fuel+1) jI a w:=by
 intro fuel
 induction fuel with
 | zero=>
  intro jI a w _ hr hy hS H;refine⟨fun h=>(by rw[h]at hr;cases hr),fun j hj=>?_⟩
  by_cases B7:j=i
  ·subst B7;exact hy.wpOp hi trivial ⟨by rw[getD_set_ne false pN];exact hS,H⟩
  ·have:=gP hj B7
   rw[H.1]at this;cases this
 | succ fuel ih=>
  intro jI a w NZ hr hy hS H;refine⟨fun h=>(by rw[h]at hr;cases hr),fun j hj=>?_⟩
  by_cases B7:j=i
  ·subst B7;exact hy.wpOp hi trivial ⟨by rw[getD_set_ne false pN];exact hS,H⟩
  ·have h1:=H.2 j (gP hj B7)
   have aaj:=(jc.1 hr).1;obtain⟨US,oj,Re,lO⟩:=jc.1 hj;have Ju:∀e∈oj.after,Region.binds md e=true->e.on≠i:=fun e he hb heq=>by
    have h1:=lO e he hb;rw[heq,DD aaj]at h1;cases h1
   have h2:=wpOp_putIf Re (NZ j oj Re B7 US Ju) (fun cs b=>UT i oi cs b hi) (fun cs b=>UT j oj cs b Re) hQ hy h1;have Se:∀k ok,ops[k]? = some ok->k≠i->(jI.setIfInBounds j true).getD k true=false->
     (∀e∈ok.after,Region.binds md e=true->e.on≠i)->oi.apart ops ok=true:=fun k ok hk MA KF nI=>by
    refine NZ k ok hk MA ?_ nI
    by_cases CU:j=k
    ·subst CU;exact US
    ·rw[getD_set_ne true CU]at KF;exact KF
   have hT:∀x,(((jI.setIfInBounds i true).setIfInBounds j true).getD n false=true\/x)->((jI.setIfInBounds j true).getD n false=true\/x):=fun x h=>by
    rw[fx _ _ (dT B7),getD_set_ne false pN]at h;exact h
   refine wpOp_mono (fun a' w' h3=>⟨hT _ h3.2.1,ih (jI.setIfInBounds j true) a' w' Se (gP hr (dT B7)) h3.1 (hT _ h3.2.1) ?_⟩) h2;rw[fx _ _ B7];exact h3.2.2
theorem pL {v:Value}(us:List Nat)(hi:ops[i]? = some oi)(hs:Region.noSelect ops=true)(hf:Region.free md ops jI i=true)(hr:(Region.ready md ops jI).contains i=true)(hu:yM md ops jI i n us=true)(hiu:us.contains i=false)(hQ:∀c a w,Q (.panic c) (a.put oi.dst v) w->Q (.panic c) a w)(hw:Region.wanted oi (yielded ops a.tmps)=true)(hy:∀w,S w->(execOp a.eval oi).run P w=.ok (.value v) w)(hS:S w)(h:pT P md ops Q S n fuel (jI.setIfInBounds i true) (a.put oi.dst v) w): pT P md ops Q S n (fuel+1) jI a w :=
 Fp hi (fb hs) hQ fuel jI a w (fX hi hf) hu (by simpa using hiu) (by simpa using hr) (.inl ⟨hw,hy⟩) hS h
theorem oF {v:Value}(hi:ops[i]? = some oi)(hs:Region.noSelect ops=true)(hf:Region.free md ops jI i=true)(hr:(Region.ready md ops jI).contains i=true)(pN:(i == n)=false)(hQ:∀c a w,Q (.panic c) (a.put oi.dst v) w->Q (.panic c) a w)(hS:jI.getD n false=true\/S w)(hw:Region.wanted oi (yielded ops a.tmps)=true)(hy:∀w,(execOp a.eval oi).run P w=.ok (.value v) w)(h:pT P md ops Q S n fuel (jI.setIfInBounds i true) (a.put oi.dst v) w): pT P md ops Q S n (fuel+1) jI a w :=
 GQ hi (fb hs) hQ (by simpa using pN) fuel jI a w (fX hi hf) (by simpa using hr) (.inl ⟨hw,fun w _=>hy w⟩) hS h
theorem _root_.Go.Proofs.YtlenklobbngopaaGreat.j8 {v:Value}(hS:jI.getD n false=true\/S w)(hi:ops[i]? = some oi:=by exact rfl)(hs:Region.noSelect ops=true:=by kernel_rfl)(hf:Region.free md ops jI i=true:=by kernel_rfl)(hr:(Region.ready md ops jI).contains i=true:=by kernel_rfl)(pN:(i == n)=false:=by exact rfl)(hQ:∀c a w,Q (.panic c) (a.put oi.dst v) w->Q (.panic c) a w:=by exact fun _ _ _ h=>h)(hw:Region.wanted oi (yielded ops a.tmps)=true:=by rfl)(hy:∀w,(execOp a.eval oi).run P w=.ok (.value v) w:=by exact fun _=>by first|(go_simp;done)|(go_simp;with_reducible rfl))(h:pT P md ops Q S n fuel (jI.setIfInBounds i true) (a.put oi.dst v) w): pT P md ops Q S n (fuel+1) jI a w:=oF hi hs hf hr pN hQ hS hw hy h
theorem sy (hr:Region.ready md ops jI=[i])(hi:ops[i]? = some oi)(h:∀K':Act->World->Prop,(∀a w,((jI.setIfInBounds i true).getD n false=true\/S w)->pT P md ops Q S n fuel (jI.setIfInBounds i true) a w->K' a w)->if Region.wanted oi (yielded ops a.tmps)=true then Oper.wp P oi a w K' Q else K' (a.put oi.dst undef) w):
  pT P md ops Q S n (fuel+1) jI a w :=
 ⟨(fun h0=>by rw[h0]at hr;cases hr),fun j hj=>by
  rw[hr]at hj;obtain rfl:j=i:=by simpa using hj
  have:=h (fun a' w'=>((jI.setIfInBounds j true).getD n false=true\/S w')/\pT P md ops Q S n fuel (jI.setIfInBounds j true) a' w') (fun a w h1 h2=>⟨h1,h2⟩);unfold wpOp;simp only[hi]
  by_cases hw:Region.wanted oi (yielded ops a.tmps)=true
  ·rw[ag hw]at this ⊢;exact .inl this
  ·rw[aa hw]at this ⊢;exact this⟩
theorem wD (hr:Region.ready md ops jI=[])(h:Q .normal a w): ∀fuel,pT P md ops Q S n fuel jI a w
 | 0=>⟨hr,h⟩
 | _+1=>⟨fun _=>h,by rw[hr];simp⟩
theorem qz (n:Nat)(S:World->Prop)(hm:P.follows .mixedOrders=true)(h:pT P .any ops Q S n ops.size (Array.replicate ops.size false) a w.drew): (Code.region id ops true).wp P Q a w :=
 wp_region_any hm (C0 _ _ _ _ h)
end
namespace K
variable {kn:Nat}{ds:List Deferred}{n:NN}{Q:Exit->Act->World->Prop}{l:Env}{w w':World}{ops:Array Oper}{o:Oper}{rest:List Oper}{d:Nat}{S:World->Prop}{m fuel:Nat}{jI:Array Bool}
def DK (ops:Array Oper)(Q:Exit->Act->World->Prop)(S:World->Prop)(m fuel:Nat)(jI:Array Bool)(a:Act)(w:World):Prop :=
 (jI.getD m false=true\/S w)/\pT prog .any ops Q S m fuel jI a w
structure WD (n:NN) (ops:Array Oper) (Q:Exit->Act->World->Prop) (S:World->Prop) (m fuel:Nat) (jI:Array Bool) (l:Env) (w:World):Prop where
 go:∀a,Fr n a l->pT prog .any ops Q S m fuel jI a w
structure Lq (w w':World):Prop where
 below:∀B,Below B w w'
 heap:w'.heap=w.heap
theorem Lq.mk' (w:World): Lq w w.drew:=⟨fun B=>((Z.jw (Below.refl B w)).drewN 1).below,rfl⟩
theorem WC.drawn {ops:List Oper}(m:Nat)(S:World->Prop)(h:∀w',Lq w w'->WD ⟨kn,ds,none⟩ ops.toArray Q S m ops.length (Array.replicate ops.length false) l w'): WC ⟨kn,ds,none⟩ (.region id ops.toArray true) Q l w :=
 ⟨fun a ha=>qz m S jG ((h _ (Lq.mk' w)).go a ha)⟩
theorem AD {K:Act->World->Prop}(hi:ops[i]? = some oi)(h:wpList prog ops (Exit.then K Q) [oi] a w): wpOp prog ops Q i K a w := by
  unfold wpOp; simp only[hi]; unfold wpList at h
  by_cases hw:Region.wanted oi (yielded ops a.tmps)=true
  · rw[ag hw]at h ⊢
    rcases h with h|⟨h1, a2, w2, h2⟩
    · left
      unfold Oper.wp at h ⊢
      revert h
      generalize (execOp a.eval oi).run prog w=r; intro h; cases r with
      | ok x w2=>
        cases x<;>first|exact h|skip
        all_goals first
          | exact h
          | (refine Calls.mono h fun e w3 h3=>?_
             cases e with
             | returned v=>exact h3
             | panicked ch=>exact h3
             | outgrown=>obtain⟨a4, w4, h4⟩ := h3; exact⟨a4, w4, h4⟩)
      | halt x w2=>cases x<;>first | exact h | skip
    · exact .inr ⟨h1, a2, w2, h2⟩
  · rw[aa hw]at h ⊢
    exact h
theorem WD.one (i:Nat)(hr:Region.ready .any ops jI=[i])(hi:ops[i]? = some oi)(h:WL ⟨kn,ds,none⟩ ops (Exit.then (DK ops Q S m fuel (jI.setIfInBounds i true)) Q) [oi] l w): WD ⟨kn,ds,none⟩ ops Q S m (fuel+1) jI l w :=
 ⟨fun a ha=>⟨(fun h0=>by rw[h0]at hr;cases hr),fun j hj=>by
  rw[hr]at hj;obtain rfl:j=i:=by simpa using hj
  exact AD hi (h.go a ha)⟩⟩
theorem WD.two {oj:Oper}(i j:Nat)(hr:Region.ready .any ops jI=[i,j])(hi:ops[i]? = some oi)(hj:ops[j]? = some oj)(h1:WL ⟨kn,ds,none⟩ ops (Exit.then (DK ops Q S m fuel (jI.setIfInBounds i true)) Q) [oi] l w)(h2:WL ⟨kn,ds,none⟩ ops (Exit.then (DK ops Q S m fuel (jI.setIfInBounds j true)) Q) [oj] l w): WD ⟨kn,ds,none⟩ ops Q S m (fuel+1) jI l w :=
 ⟨fun a ha=>⟨(fun h0=>by rw[h0]at hr;cases hr),fun k hk=>by
  rw[hr]at hk;rcases ax.1 hk with e|e
  ·subst e;exact AD hi (h1.go a ha)
  ·obtain rfl:k=j:=by simpa using e
   exact AD hj (h2.go a ha)⟩⟩
theorem WQ.dk (hS:jI.getD m false=true\/S w)(h:WD n ops Q S m fuel jI l w): WQ n (Exit.then (DK ops Q S m fuel jI) Q) .normal l w:=⟨fun a ha=>⟨hS,h.go a ha⟩⟩
theorem WD.done (hr:Region.ready .any ops jI=[])(h:WQ n Q .normal l w): WD n ops Q S m fuel jI l w:=⟨fun a ha=>wD hr (h.go a ha) fuel⟩
theorem _root_.Go.Proofs.YtlenklobbngopaaGreat.jD (hr:Region.ready .any ops jI=[]:=by kernel_rfl)(h:WQ n Q .normal l w): WD n ops Q S m fuel jI l w:=WD.done hr h
def vS (ops:Array Oper)(jI:Array Bool)(i m:Nat):Bool:=Region.noSelect ops && Region.free .any ops jI i && (Region.ready .any ops jI).contains i && !(i == m)
def Ft (ops:Array Oper)(jI:Array Bool)(i m:Nat)(us:List Nat):Bool:=Region.noSelect ops && Region.free .any ops jI i && (Region.ready .any ops jI).contains i && yM .any ops jI i m us && !(us.contains i)
def Passes (Q:Exit->Act->World->Prop):Prop:=∀c (a:Act) d v w,Q (.panic c) (a.put (some d) v) w->Q (.panic c) a w
theorem WD.first {v:Value}(i:Nat)(hi:ops[i]? = some oi)(hs:vS ops jI i m=true)(hd:oi.dst=some d)(hn:Nat.blt d n.n=true)(hQ:Passes Q)(hy:∀a,Fr n a l->YieldsIf prog ops (fun _=>True) oi v a)(hS:jI.getD m false=true\/S w)(h:WD n ops Q S m fuel (jI.setIfInBounds i true) ((d,v)::l) w): WD n ops Q S m (fuel+1) jI l w :=
 ⟨fun a ha=>by
  unfold vS at hs;simp only[aF,cG]at hs;exact GQ hi (fb hs.1.1.1) (by rw[hd];exact fun c a w=>hQ c a d v w) (by simpa using hs.2) fuel jI a w (fX hi hs.1.1.2) (by simpa using hs.1.2) (hy a ha) hS (by rw[hd];exact h.go _ (ha.put hn v))⟩
theorem WD.free {v:Value}(i:Nat)(hi:ops[i]? = some oi)(hs:vS ops jI i m=true)(hd:oi.dst=some d)(hn:Nat.blt d n.n=true)(hQ:Passes Q)(hw:wants ops l oi=some true)(hv:pv ty l oi.op=some v)(hS:jI.getD m false=true\/S w)(h:WD n ops Q S m fuel (jI.setIfInBounds i true) ((d,v)::l) w): WD n ops Q S m (fuel+1) jI l w :=
 WD.first i hi hs hd hn hQ (fun _ ha=>.inl ⟨pj ha hw,fun w _=>KR oz ha hv w⟩) hS h
theorem WD.xX {v:Value}(i:Nat)(v':Value)(hi:ops[i]? = some oi)(hs:vS ops jI i m=true)(hd:oi.dst=some d)(hn:Nat.blt d n.n=true)(hQ:Passes Q)(hw:wants ops l oi=some true)(hv:pv ty l oi.op=some v)(e:v=v')(hS:jI.getD m false=true\/S w)(h:WD n ops Q S m fuel (jI.setIfInBounds i true) ((d,v')::l) w): WD n ops Q S m (fuel+1) jI l w :=
 WD.first i hi hs hd hn hQ (fun _ ha=>.inl ⟨pj ha hw,fun w _=>KR oz ha (hv.trans (congrArg some e)) w⟩) hS h
theorem WD.top {v:Value}(e:v=v')(h:WD n ops Q S m fuel jI ((d,v')::l) w): WD n ops Q S m fuel jI ((d,v)::l) w:=by subst e;exact h
theorem WD.G3 [Decidable p](hp:p)(h:WD n ops Q S m fuel jI ((d,.bool true)::l) w): WD n ops Q S m fuel jI ((d,.bool (decide p))::l) w:=WD.top (congrArg Value.bool (aw hp)) h
theorem WD.G9 [Decidable p](hp:¬p)(h:WD n ops Q S m fuel jI ((d,.bool false)::l) w): WD n ops Q S m fuel jI ((d,.bool (decide p))::l) w:=WD.top (congrArg Value.bool (ar hp)) h
theorem WD.Cc {x:Int}(hx:-9223372036854775808<=x/\x<=9223372036854775807)(h:WD n ops Q S m fuel jI ((d,.int .i64 x)::l) w): WD n ops Q S m fuel jI ((d,.int .i64 (IntKind.wrap .i64 x))::l) w:=WD.top (congrArg (Value.int .i64) (bN _ hx)) h
theorem WD.skip (i:Nat)(hi:ops[i]? = some oi)(hs:vS ops jI i m=true)(hd:oi.dst=some d)(hn:Nat.blt d n.n=true)(hQ:Passes Q)(hw:wants ops l oi=some false)(hS:jI.getD m false=true\/S w)(h:WD n ops Q S m fuel (jI.setIfInBounds i true) ((d,undef)::l) w): WD n ops Q S m (fuel+1) jI l w :=
 WD.first i hi hs hd hn hQ (fun _ ha=>.inr ⟨pj ha hw,rfl⟩) hS h
theorem WD.read {v:Value}(i:Nat)(us:List Nat)(hi:ops[i]? = some oi)(hs:Ft ops jI i m us=true)(hd:oi.dst=some d)(hn:Nat.blt d n.n=true)(hQ:Passes Q)(hw:wants ops l oi=some true)(hv:∀a,Fr n a l->∀w,S w->(execOp a.eval oi).run prog w=.ok (.value v) w)(hS:S w)(h:WD n ops Q S m fuel (jI.setIfInBounds i true) ((d,v)::l) w): WD n ops Q S m (fuel+1) jI l w :=
 ⟨fun a ha=>by
  unfold Ft at hs;simp only[aF,cG]at hs;exact Fp hi (fb hs.1.1.1.1) (by rw[hd];exact fun c a w=>hQ c a d v w) fuel jI a w (fX hi hs.1.1.1.2) hs.1.2 (by simpa using hs.2) (by simpa using hs.1.1.2) (.inl ⟨pj ha hw,hv a ha⟩) hS (by rw[hd];exact h.go _ (ha.put hn v))⟩
theorem WD.load {t:Nat}{p:Addr}{v:Value}(i:Nat)(us:List Nat)(hi:ops[i]? = some oi)(hs:Ft ops jI i m us=true)(hd:oi.dst=some d)(hn:Nat.blt d n.n=true)(hQ:Passes Q)(hw:wants ops l oi=some true)(ho:oi.op=.load t x)(hx:kS l x=some (.pointer (some p)))(ht:Me (tyOf ty t)=true)(hc:∀w,S w->w.cell? p=some v)(hS:S w)(h:WD n ops Q S m fuel (jI.setIfInBounds i true) ((d,v)::l) w): WD n ops Q S m (fuel+1) jI l w :=
 WD.read i us hi hs hd hn hQ hw (fun a ha w hw=>by unfold execOp;rw[ho];simp[ha.eval hx,Instr.loadAt,Instr.sureAddr,QA ht p (hc w hw)]) hS h
theorem WD.qX {t off:Nat}{cs:List Value}(i:Nat)(us:List Nat)(hi:ops[i]? = some oi)(hs:Ft ops jI i m us=true)(hd:oi.dst=some d)(hn:Nat.blt d n.n=true)(hQ:Passes Q)(hw:wants ops l oi=some true)(ho:oi.op=.load t x)(hx:kS l x=some (.pointer (some ⟨b,off,none⟩)))(ht:cellsN (tyOf ty t)=some mm)(hc:∀w,S w->w.rangeAt b off cs)(hm:cs.length=mm)(hS:S w)(h:WD n ops Q S m fuel (jI.setIfInBounds i true) ((d,.agg cs.toArray)::l) w): WD n ops Q S m (fuel+1) jI l w :=
 WD.read i us hi hs hd hn hQ hw (fun a ha w hw=>by
  obtain⟨_,hu,Ii,lJ⟩:=ug oz ht;unfold execOp;rw[ho];have:=fA (P:=prog) w b off t cs _ (hc w hw) hu Ii (by rw[lJ,hm]);simp[ha.eval hx,Instr.loadAt,Instr.sureAddr,this]) hS h
theorem WD.idx {t e s:Nat}{off len:Nat}{k:IntKind}(i j q:Nat)(hi:ops[i]? = some oi)(hs:vS ops jI i m=true)(hd:oi.dst=some d)(hn:Nat.blt d n.n=true)(hQ:Passes Q)(hw:wants ops l oi=some true)(ho:oi.op=.indexAddr t x i')(ht:tyOf ty t=some (.slice e s))(hx:kS l x=some (.slice (some ⟨b,off,none⟩) len cap))(Fc:kS l i'=some (.int k z))(hz:z=(j:Int))(hj:j<len)(hq:off+j*s=q)(hS:jI.getD m false=true\/S w)(h:WD n ops Q S m fuel (jI.setIfInBounds i true) ((d,.pointer (some ⟨b,q,none⟩))::l) w): WD n ops Q S m (fuel+1) jI l w :=
 WD.first i hi hs hd hn hQ (fun _ ha=>.inl ⟨pj ha hw,fun w _=>by rw[<-hq];exact Tg ho ht (ha.eval hx) (ha.eval Fc) hz hj⟩) hS h
end K
namespace K
section
variable {kn:Nat}{ds:List Deferred}{n:NN}{Q:Exit->Act->World->Prop}{l:Env}{w w':World}{ops:Array Oper}{o:Oper}{rest:List Oper}{d:Nat}{S:World->Prop}{m fuel:Nat}{jI:Array Bool}
def fzV (ops:Array Oper)(l:Env)(o:Oper):Option Value:=match wants ops l o with
 | some true=>pv ty l o.op
 | some false=>some undef
 | none=>none
structure CQ (is:List Nat) (n:NN) (ops:Array Oper) (Q:Exit->Act->World->Prop) (S:World->Prop) (m fuel:Nat) (jI:Array Bool) (l:Env) (w:World):Prop where
 go:S w->WD n ops Q S m fuel jI l w
theorem fst {v:Value}(hi:ops[i]? = some oi)(hs:vS ops jI i m=true)(hd:oi.dst=some d)(hn:Nat.blt d n.n=true)(hQ:Passes Q)(hv:fzV ops l oi=some v)(h:CQ is n ops Q S m fuel (jI.setIfInBounds i true) ((d,v)::l) w): CQ (i::is) n ops Q S m (fuel+1) jI l w:=⟨fun hS=>by
 have h:=h.go hS;unfold fzV at hv;cases hw:wants ops l oi with
 | none=>rw[hw]at hv;cases hv
 | some b=>
  rw[hw]at hv;cases b with
  | true=>exact WD.free i hi hs hd hn hQ hw hv (.inr hS) h
  | false=>cases hv;exact WD.skip i hi hs hd hn hQ hw (.inr hS) h⟩
theorem CQ.nil (h:WD n ops Q S m fuel jI l w): CQ [] n ops Q S m fuel jI l w:=⟨fun _=>h⟩
theorem CQ.G3 [Decidable p](hp:p)(h:CQ is n ops Q S m fuel jI ((d,.bool true)::l) w): CQ is n ops Q S m fuel jI ((d,.bool (decide p))::l) w:=⟨fun hS=>WD.G3 hp (h.go hS)⟩
theorem CQ.G9 [Decidable p](hp:¬p)(h:CQ is n ops Q S m fuel jI ((d,.bool false)::l) w): CQ is n ops Q S m fuel jI ((d,.bool (decide p))::l) w:=⟨fun hS=>WD.G9 hp (h.go hS)⟩
theorem CQ.Cc {x:Int}(hx:-9223372036854775808<=x/\x<=9223372036854775807)(h:CQ is n ops Q S m fuel jI ((d,.int .i64 x)::l) w): CQ is n ops Q S m fuel jI ((d,.int .i64 (IntKind.wrap .i64 x))::l) w:=⟨fun hS=>WD.Cc hx (h.go hS)⟩
theorem _root_.Go.Proofs.YtlenklobbngopaaGreat.jC (is:List Nat)(hS:S w)(q:R)(h:Hold R->CQ is n ops Q S m fuel jI l w:=by intro q;(repeat (refine fst rfl (by kernel_rfl) rfl rfl (fun _ _ _ _ _ h=>h) rfl ?_;try (first|((with_reducible refine CQ.G3 ?_ ?_);omega)|((with_reducible refine CQ.G9 ?_ ?_);omega)|((with_reducible refine CQ.Cc ?_ ?_);omega))));refine CQ.nil ?_;exact q.out): WD n ops Q S m fuel jI l w:=(h ⟨q⟩).go hS
theorem _root_.Go.Proofs.YtlenklobbngopaaGreat.ke {v:Value}(i:Nat)(hS:jI.getD m false=true)(q:R)(hi:ops[i]? = some oi:=by exact rfl)(hs:vS ops jI i m=true:=by kernel_rfl)(hd:oi.dst=some d:=by exact rfl)(hn:Nat.blt d n.n=true:=by exact rfl)(hQ:Passes Q:=by exact fun _ _ _ _ _ h=>h)(hv:fzV ops l oi=some v:=by exact rfl)(h:Hold R->WD n ops Q S m fuel (jI.setIfInBounds i true) ((d,v)::l) w:=by intro q;(first|((with_reducible refine WD.G3 ?_ ?_);omega;exact q.out)|((with_reducible refine WD.G9 ?_ ?_);omega;exact q.out)|((with_reducible refine WD.Cc ?_ ?_);omega;exact q.out)|exact q.out)): WD n ops Q S m (fuel+1) jI l w:=by
 have h:=h ⟨q⟩;unfold fzV at hv;cases hw:wants ops l oi with
 | none=>rw[hw]at hv;cases hv
 | some b=>
  rw[hw]at hv;cases b with
  | true=>exact WD.free i hi hs hd hn hQ hw hv (.inl hS) h
  | false=>cases hv;exact WD.skip i hi hs hd hn hQ hw (.inl hS) h
theorem _root_.Go.Proofs.YtlenklobbngopaaGreat.L3 {t:Nat}{p:Addr}{v:Value}(i:Nat)(us:List Nat)(hi:ops[i]? = some oi)(hd:oi.dst=some d)(hn:Nat.blt d n.n=true)(hw:wants ops l oi=some true)(ho:oi.op=.load t x)(hx:kS l x=some (.pointer (some p)))(ht:Me (tyOf ty t)=true)(hc:∀w,S w->w.cell? p=some v)(hS:S w)(h:WD n ops Q S m fuel (jI.setIfInBounds i true) ((d,v)::l) w)(hs:Ft ops jI i m us=true:=by kernel_rfl)(hQ:Passes Q:=by exact fun _ _ _ _ _ h=>h): WD n ops Q S m (fuel+1) jI l w :=
 WD.load i us hi hs hd hn hQ hw ho hx ht hc hS h
theorem _root_.Go.Proofs.YtlenklobbngopaaGreat.jz {t:Nat}{p:Addr}{v:Value}(i:Nat)(us:List Nat)(hc:∀w,S w->w.cell? p=some v)(hS:S w)(hs:Ft ops jI i m us=true:=by kernel_rfl)(hQ:Passes Q:=by exact fun _ _ _ _ _ h=>h)(hi:ops[i]? = some oi:=by exact rfl)(hd:oi.dst=some d:=by exact rfl)(hn:Nat.blt d n.n=true:=by exact rfl)(hw:wants ops l oi=some true:=by exact rfl)(ho:oi.op=.load t x:=by exact rfl)(hx:kS l x=some (.pointer (some p)):=by exact rfl)(ht:Me (tyOf ty t)=true:=by exact rfl)(h:WD n ops Q S m fuel (jI.setIfInBounds i true) ((d,v)::l) w): WD n ops Q S m (fuel+1) jI l w:=L3 i us hi hd hn hw ho hx ht hc hS h hs hQ
theorem _root_.Go.Proofs.YtlenklobbngopaaGreat.amv {t off:Nat}{cs:List Value}(i:Nat)(us:List Nat)(hi:ops[i]? = some oi)(hd:oi.dst=some d)(hn:Nat.blt d n.n=true)(hw:wants ops l oi=some true)(ho:oi.op=.load t x)(hx:kS l x=some (.pointer (some ⟨b,off,none⟩)))(ht:cellsN (tyOf ty t)=some mm)(hc:∀w,S w->w.rangeAt b off cs)(hm:cs.length=mm)(hS:S w)(h:WD n ops Q S m fuel (jI.setIfInBounds i true) ((d,.agg cs.toArray)::l) w)(hs:Ft ops jI i m us=true:=by kernel_rfl)(hQ:Passes Q:=by exact fun _ _ _ _ _ h=>h): WD n ops Q S m (fuel+1) jI l w :=
 WD.qX i us hi hs hd hn hQ hw ho hx ht hc hm hS h
theorem _root_.Go.Proofs.YtlenklobbngopaaGreat.kG {t off:Nat}{cs:List Value}(i:Nat)(us:List Nat)(hc:∀w,S w->w.rangeAt b off cs)(hm:cs.length=mm)(hS:S w)(hs:Ft ops jI i m us=true:=by kernel_rfl)(hQ:Passes Q:=by exact fun _ _ _ _ _ h=>h)(hi:ops[i]? = some oi:=by exact rfl)(hd:oi.dst=some d:=by exact rfl)(hn:Nat.blt d n.n=true:=by exact rfl)(hw:wants ops l oi=some true:=by exact rfl)(ho:oi.op=.load t x:=by exact rfl)(hx:kS l x=some (.pointer (some ⟨b,off,none⟩)):=by exact rfl)(ht:cellsN (tyOf ty t)=some mm:=by exact rfl)(h:WD n ops Q S m fuel (jI.setIfInBounds i true) ((d,.agg cs.toArray)::l) w): WD n ops Q S m (fuel+1) jI l w:=amv i us hi hd hn hw ho hx ht hc hm hS h hs hQ
theorem _root_.Go.Proofs.YtlenklobbngopaaGreat.ss {t e s:Nat}{off len:Nat}{k:IntKind}(i j q:Nat)(hi:ops[i]? = some oi)(hd:oi.dst=some d)(hn:Nat.blt d n.n=true)(hw:wants ops l oi=some true)(ho:oi.op=.indexAddr t x i')(ht:tyOf ty t=some (.slice e s))(hx:kS l x=some (.slice (some ⟨b,off,none⟩) len cap))(Fc:kS l i'=some (.int k z))(hz:z=(j:Int))(hj:j<len)(hq:off+j*s=q)(hS:jI.getD m false=true\/S w)(h:WD n ops Q S m fuel (jI.setIfInBounds i true) ((d,.pointer (some ⟨b,q,none⟩))::l) w)(hs:vS ops jI i m=true:=by kernel_rfl)(hQ:Passes Q:=by exact fun _ _ _ _ _ h=>h): WD n ops Q S m (fuel+1) jI l w :=
 WD.idx i j q hi hs hd hn hQ hw ho ht hx Fc hz hj hq hS h
theorem _root_.Go.Proofs.YtlenklobbngopaaGreat.kY {t e s:Nat}{off len:Nat}{k:IntKind}(i:Nat)(j:Nat)(q:Nat)(hj:j<len)(hS:jI.getD m false=true\/S w)(hs:vS ops jI i m=true:=by kernel_rfl)(hQ:Passes Q:=by exact fun _ _ _ _ _ h=>h)(hi:ops[i]? = some oi:=by exact rfl)(hd:oi.dst=some d:=by exact rfl)(hn:Nat.blt d n.n=true:=by exact rfl)(hw:wants ops l oi=some true:=by exact rfl)(ho:oi.op=.indexAddr t x i':=by exact rfl)(ht:tyOf ty t=some (.slice e s):=by exact rfl)(hx:kS l x=some (.slice (some ⟨b,off,none⟩) len cap):=by exact rfl)(Fc:kS l i'=some (.int k z):=by exact rfl)(hz:z=(j:Int):=by exact rfl)(hq:off+j*s=q:=by exact rfl)(h:WD n ops Q S m fuel (jI.setIfInBounds i true) ((d,.pointer (some ⟨b,q,none⟩))::l) w): WD n ops Q S m (fuel+1) jI l w:=ss i j q hi hd hn hw ho ht hx Fc hz hj hq hS h hs hQ
theorem _root_.Go.Proofs.YtlenklobbngopaaGreat.jS (i:Nat)(hr:Region.ready .any ops jI=[i]:=by kernel_rfl)(hi:ops[i]? = some oi:=by exact rfl)(h:WL ⟨kn,ds,none⟩ ops (Exit.then (DK ops Q S m fuel (jI.setIfInBounds i true)) Q) [oi] l w): WD ⟨kn,ds,none⟩ ops Q S m (fuel+1) jI l w :=
 WD.one i hr hi h
theorem _root_.Go.Proofs.YtlenklobbngopaaGreat.lI (hS:S w)(h:WD n ops Q S m fuel jI l w): WL n ops (Exit.then (DK ops Q S m fuel jI) Q) [] l w:=WL.nil (WQ.dk (.inr hS) h)
theorem _root_.Go.Proofs.YtlenklobbngopaaGreat.jZ (hm:jI.getD m false=true:=by exact rfl)(h:WD n ops Q S m fuel jI l w): WL n ops (Exit.then (DK ops Q S m fuel jI) Q) [] l w:=WL.nil (WQ.dk (.inl hm) h)
end
section
variable {kn:Nat}{n:NN}{Q:Exit->Act->World->Prop}{l:Env}{w w':World}{ops:Array Oper}{o:Oper}{rest:List Oper}{d:Nat}{fn:Func}
theorem _root_.Go.Proofs.YtlenklobbngopaaGreat.kH {vs:List Value} {v:Value} {P:World -> Prop} (hf:prog.funcs[f]? = some fn) (hc:Calls prog f vs.toArray w fun e w' => e = .returned v /\ P w') (hg:o.guard = none := by exact rfl) (hd:o.dst = some d := by exact rfl) (hn:Nat.blt d n.n = true := by exact rfl) (ho:o.op = .call { callee := .value (.func f), args := args.toArray, argTypes := ts } := by exact rfl) (hv:evlAll l args = some vs := by exact rfl) (hb:fn.body.isNone = false := by exact rfl) (F0:(fn.name == "runtime.NumGoroutine") = false := by kernel_rfl) (h:∀ w', P w' -> WL n ops Q rest ((d, v) :: l) w'): WL n ops Q (o :: rest) l w :=
 WL.call hg hd hn ho hv hf hb F0 hc fun _ w' q=>⟨v,q.1,h w' q.2⟩
theorem _root_.Go.Proofs.YtlenklobbngopaaGreat.kq {c:Code}{args:List Value}{R:Ending->World->Prop}(hf:prog.funcs[f]? = some fn)(hn:fn.ntmps=m)(hb:fn.body=some c:=by exact rfl)(hs:Nat.ble args.length m=true:=by exact rfl)(h:WC ⟨m,[],none⟩ c (bodyPost prog fn R) (argsEnv 0 args) w): Calls prog f args.toArray w R:=enter hf hb hn hs h
end
variable {n:NN}{Q:Exit->Act->World->Prop}{l:Env}{w w':World}{ops:Array Oper}{o:Oper}{rest:List Oper}{d:Nat}
theorem WL.fn {caps:List Operand}(hg:o.guard=none)(hd:o.dst=some d)(hn:Nat.blt d n.n=true)(ho:o.op=.makeFunc (.func f) #[] caps.toArray)(hv:evlAll l caps=some cs)(h:WL n ops Q rest ((d,.func (.func f) #[] cs.toArray)::l) w): WL n ops Q (o::rest) l w :=
 WL.step hg hd hn (fun a ha=>by
  unfold execOp;rw[ho];have:=xA ha hv;have e1:(caps.toArray.map a.eval)=cs.toArray:=by rw[cO,this]
  simp[Instr.makeFunc,e1]) h
theorem WL.Ai {fn:Func} {R:Ending -> World -> Prop} (hg:o.guard = none) (hd:o.dst = some d) (hn:Nat.blt d n.n = true) (ho:o.op = .call { callee := .value x, args := args.toArray, argTypes := ts }) (hx:kS l x = some (.func (.func f) #[] cs.toArray)) (hv:evlAll l args = some vs) (hf:prog.funcs[f]? = some fn) (hb:fn.body.isNone = false) (F0:(fn.name == "runtime.NumGoroutine") = false) (hc:Calls prog f (vs ++ cs).toArray w R) (h:∀ e w',R e w' -> ∃ v,e = .returned v /\ WL n ops Q rest ((d,v) :: l) w'): WL n ops Q (o :: rest) l w :=
 ⟨fun a ha=>by
  have my:(execOp a.eval o).run prog w=.ok (.enter f (vs++cs).toArray) w:=by
   unfold execOp;rw[ho];have:=xA ha hv;have e1:(args.toArray.map a.eval)=vs.toArray:=by rw[cO,this]
   have e2:=ha.eval hx;have Gy:¬fn.body=none:=fun e=>by rw[e]at hb;cases hb
   have OJ : ¬ fn.name = "runtime.NumGoroutine" := by simpa using F0
   simp[resolve,e1,e2,Deferred.ofValue,invoke,callFunc,hf,Gy,OJ]
  refine P0 hg my (hc.mono fun e W3 hh=>?_);obtain⟨v,rfl,hwl⟩:=h e W3 hh;exact⟨v,rfl,by rw[hd];exact hwl.go _ (ha.put hn v)⟩⟩
theorem WL.VH {s:Operand}{t e:TypeId}{v:Value}{k k2:Nat}{l1 l2:kL}(hg:o.guard=none)(hd:o.dst=some d)(hn:Nat.blt d n.n=true)(ho:o.op=.call { callee:=.builtin .append,args:=#[s,x],argTypes:=#[t,t]})(E:na prog t e m bytes)(hs:kS l s=some v)(jW:jY e m w O v k l1)(hx:kS l x=some xv)(nG:ph w O2 m xv k2 l2)(hb:(k+k2)*bytes<=140737488355328)(oc:k+k2<=140737488355328)(h:∀v' w',jY e m w' (fun g=>O g\/g=w.heap.size) v' (k+k2) (l1++l2)->kX w v w' v'->WL n ops Q rest ((d,v')::l) w'): WL n ops Q (o::rest) l w :=
 ⟨fun a ha=>by
  apply HN hg (by rw[ho];intro c hc;cases hc);apply yh hg s x t ho E (ha.eval hs) jW (ha.eval hx) nG rfl (by unfold maxLen;omega) hb;intro sp c w' h2 h3 h4;rw[hd];exact(h _ w' h2 ⟨qE h3,fun g hg=>(h4 g hg).imp id (fun e=>by omega)⟩).go _ (ha.put hn _)⟩
theorem _root_.Go.Proofs.YtlenklobbngopaaGreat.l_ {s:Operand}{t e:TypeId}{v:Value}{k k2:Nat}{l1 l2:List Value}(E:na prog t e m bytes)(jW:jY e m w O v k l1)(nG:ph w O2 m xv k2 l2)(h:∀v' w',jY e m w' (fun g=>O g\/g=w.heap.size) v' (k+k2) (l1++l2)->kX w v w' v'->WL n ops Q rest ((d,v')::l) w')(hg:o.guard=none:=by exact rfl)(hd:o.dst=some d:=by exact rfl)(hn:Nat.blt d n.n=true:=by exact rfl)(ho:o.op=.call { callee:=.builtin .append,args:=#[s,x],argTypes:=#[t,t]}:=by exact rfl)(hs:kS l s=some v:=by exact rfl)(hx:kS l x=some xv:=by exact rfl)(hb:(k+k2)*bytes<=140737488355328:=by omega)(oc:k+k2<=140737488355328:=by omega): WL n ops Q (o::rest) l w:=WL.VH hg hd hn ho E hs jW hx nG hb oc h
section
variable {fn:Func}{R:Ending->World->Prop}
theorem WQ.aeO (hr:fn.results=#[])(h:R (.returned (.tuple #[])) w): WQ ⟨kn,[],md⟩ (bodyPost prog fn R) .ret l w:=⟨fun _ ha=>⟨ha.defers,_,results_none hr _ _ _,h⟩⟩
theorem WQ.GN (hr:fn.results=#[])(h:R (.returned (.tuple #[])) w): WQ ⟨kn,[],md⟩ (bodyPost prog fn R) .normal l w:=⟨fun _ ha=>⟨ha.defers,_,results_none hr _ _ _,h⟩⟩
theorem WQ.vJ {p:Nat}{Cd:TypeId}(hr:fn.results=#[.cell p Cd])(hl:look l p=some (jV g))(ht:cellsN (tyOf ty Cd)=some m)(hm:cs.length=m)(hb:U T w g cs)(h:R (.returned (.agg cs.toArray)) w): WQ ⟨kn,[],md⟩ (bodyPost prog fn R) .ret l w :=
 ⟨fun a ha=>⟨ha.defers,_,by
  obtain⟨_,hu,Ii,lJ⟩:=ug oz ht;have hp:=ha.getD hl;simp only[cq]at hp;have:=fA (P:=prog) w g 0 Cd cs _ (U.rangeAt hb) hu Ii (by rw[lJ,hm]);simp[results,hr,hp,asAddr,this],h⟩⟩
end
end K
namespace K
variable {n:NN}{Q:Exit->Act->World->Prop}{l:Env}{w w':World}{ops:Array Oper}{o:Oper}{rest:List Oper}{d:Nat}
theorem Kj (s:lD): Lib.strCells s=(qA s).map (Value.int .u8):=by
 unfold Lib.strCells qA;rw[aJ,gD]
 rfl
theorem ab4 {v:Value}{s:lD}(Cd:Nat)(jW:Bu w v l1)(hb:l1.length+s.size<=140737488355328):
  ∃v' w',(Builtin.append_ #[158,9] Cd #[v,.string s]).run prog w=.ok v' w'/\Bu w' v' (l1++qA s)/\kX w v w' v':=by
 have hq:(prog.info? 5).map (fun i=>(i.zero,i.size,i.bytes))=some (some (.int .u8 0),1,1):=jG;obtain⟨ie,Dg,he⟩:=cY.1 hq;obtain⟨Xr,FW⟩:=ic he;obtain⟨lJ,tZ⟩:=ic FW;have QN:w.ownsRow 0 5 1 v l1.length (l1.map (Value.int .u8)):=jW;obtain⟨v',w',hr,h2,h3,-⟩:=gW (P:=prog) w 0 158 9 Cd 5 ie dt cF Dg Xr lJ tZ v l1.length _ QN s (by unfold maxLen;omega) hb (ay _);refine⟨v',w',hr,?_,qE h3,?_⟩
 ·rw[Kj,<-aV]at h2
  show World.ownsRow _ _ _ _ _ _ _
  rw[af,s_];exact h2
 ·intro g hg
  rcases QN.2 with⟨rfl,h0⟩|⟨g0,cap,cur,rfl,hbg,KJ,sM,hcm,hcs,awL⟩
  ·have tS:w.ownsRow w.heap.size 5 1 (kP) l1.length (l1.map (Value.int .u8)):=⟨QN.1,.inl ⟨rfl,h0⟩⟩
   obtain⟨v2,w2,yb,h22,-,-⟩:=gW (P:=prog) w w.heap.size 158 9 Cd 5 ie dt cF Dg Xr lJ tZ _ l1.length _ tS s (by unfold maxLen;omega) hb (aj _);rw[hr]at yb
   injection yb with e1 e2
   subst e1
   right
   rcases h22.2 with⟨rfl,-⟩|⟨g1,_,_,rfl,h,-⟩
   ·cases hg
   ·cases hg;exact h
  ·by_cases Aj:l1.length+s.size<=cap
   ·have az6:cur.size=cap:=by simpa using hcs
    have yb:=Lib.run_append_room_string (P:=prog) w 158 9 Cd 5 ie dt cF Dg lJ g0 l1.length cap cur KJ s Aj I;rw[hr]at yb
    injection yb with e1 e2
    subst e1;cases hg
    exact .inl rfl
   ·have yb:=Lib.run_append_grow_string (P:=prog) w 158 9 Cd 5 ie (.int .u8 0) dt cF Dg Xr (Aq g0 0) l1.length cap (l1.map (Value.int .u8)) (by rw[lJ];simp) (QN.cells (g:=g0) rfl) s I I
     (by rw[tZ];exact growslice_fits I I)
    rw[hr]at yb
    injection yb with e1 e2
    subst e1;cases hg
    exact .inr (aj _)
theorem WL.TP {s:Operand}{v:Value}{t:lD}(hg:o.guard=none)(hd:o.dst=some d)(hn:Nat.blt d n.n=true)(ho:o.op=.call { callee:=.builtin .append,args:=#[s,x],argTypes:=#[158,9]})(hs:kS l s=some v)(jW:Bu w v l1)(hx:kS l x=some (.string t))(hb:l1.length+t.size<=140737488355328)(h:∀v' w',Bu w' v' (l1++qA t)->kX w v w' v'->WL n ops Q rest ((d,v')::l) w'): WL n ops Q (o::rest) l w:=by
 obtain⟨v',w',hr,h2,h3⟩:=ab4 o.type jW hb;refine WL.step hg hd hn (fun a ha=>?_) (h v' w' h2 h3);unfold execOp;simp only[ho,resolve,invoke,builtin,bK,fJ,bG,cO,aY,dy,ha.eval hs,ha.eval hx,hr]
def qd (bb:Nat)(w:World)(v:Value)(w':World)(v':Value):Prop :=
 Z (fun b=>b<w.heap.size/\v.ownBlock≠some b/\b≠bb) w w'/\∀g,v'.ownBlock=some g->v.ownBlock=some g\/w.heap.size<=g
theorem qd.refl (bb:Nat)(w:World)(v:Value): qd bb w v w v:=⟨Z.refl _ _,fun _ h=>.inl h⟩
theorem qd.trans {v v2:Value}(h:qd bb w v w1 v1)(k:qd bb w1 v1 w2 v2): qd bb w v w2 v2 :=
  ⟨h.1.trans (k.1.mono fun b hb=>⟨ao hb.1 h.1.size, fun e=>(h.2 b e).elim hb.2.1 (fun h2=>absurd hb.1 I), hb.2.2⟩),
   fun g hg=>(k.2 g hg).elim (h.2 g) (fun h2=>.inr (aU h.1.size h2))⟩
theorem kX.box {v:Value}(h:kX w v w' v'): qd bb w v w' v':=⟨h.1.mono fun _ hb=>⟨hb.1,hb.2.1⟩,h.2⟩
theorem qd.below {v:Value}(h:qd bb w v w1 v1)(k:jP w1 w2): qd bb w v w2 v1 :=
 ⟨h.1.trans ((Z.jw k).mono fun _ hb=>ao hb.1 h.1.size),h.2⟩
structure Bx (bb:Nat) (w:World) (v:Value) (l:oK):Prop where
 blk:U 158 w bb [v]
 bu:Bu w v l
 ne:v.ownBlock≠some bb
theorem Bx.below {v:Value}{l:oK}(h:Bx bb w v l)(hk:jP w w'): Bx bb w' v l:=⟨h.blk.below hk h.blk.lt,h.bu.below hk,h.ne⟩
theorem Bx.put {v:Value}{l l':oK}(h:Bx bb w v l)(hb:Bu w' v' l')(hg:kX w v w' v'):
  U 158 w' bb [v]/\Bx bb (w'.setCell (Aq bb 0) v') v' l'/\qd bb w v (w'.setCell (Aq bb 0) v') v':=by
 have rh:=h.blk.jA hg.1 ⟨h.blk.lt,h.ne⟩;have mE:v'.ownBlock≠some bb:=fun e=>(hg.2 _ e).elim h.ne (fun h2=>absurd h.blk.lt I);refine⟨rh,⟨rh.set 0 v',hb.jA (K:=fun b=>b≠bb) ((Z.refl _ w').setCell (fun hk=>hk rfl) _) (fun g nK e=>mE (by rw[nK,e])),mE⟩,?_,hg.2⟩;exact(hg.1.mono fun _ hb=>⟨hb.1,hb.2.1⟩:Z (fun b=>b<w.heap.size/\v.ownBlock≠some b/\b≠bb) w w').setCell (fun hk=>hk.2.2 rfl) _
theorem Bx.jA {v:Value}(hg:qd bb w v w' v')(h:U T w g cs)(h1:v.ownBlock≠some g)(h2:g≠bb): U T w' g cs/\v'.ownBlock≠some g :=
 ⟨h.jA hg.1 ⟨h.lt,h1,h2⟩,fun e=>(hg.2 _ e).elim h1 (fun h3=>absurd h.lt I)⟩
theorem Bu.DV {v:Value}{l:oK}(h:Bu w v l): v.oneCell'=true:=by obtain⟨sp,c,rfl,-,-⟩:=h.form;rfl
section
variable {S:World->Prop}{m fuel:Nat}{jI:Array Bool}
end
theorem lH (h:w'.heap=w.heap)(p:Addr): w'.cell? p=w.cell? p:=bM (by rw[h])
end K
namespace K
variable {n:NN}{Q:Exit->Act->World->Prop}{l:Env}{w w':World}{ops:Array Oper}{o:Oper}{rest:List Oper}{d:Nat}
def m6 {α:Type}(m:Nat)(z:α)(P:α->kL->Prop)(O:Nat->Prop)(w:World)(v:Value)(l:List α):Prop :=
 ∃sp cap,v=.slice sp l.length cap/\l.length<=cap/\cap<=9223372036854775807/\(sp=none->cap=0)/\
  (0<l.length->∃b o,sp=some (Aq b o)/\b<w.heap.size/\O b/\∀j,j<l.length->∃cs,cs.length=m/\P (l.getD j z) cs/\w.rangeAt b (o+j*m) cs)
theorem m6.nil (m:Nat)(z:α)(P:α->kL->Prop)(O:Nat->Prop)(w:World): m6 m z P O w (kP) [] :=
 ⟨none,0,rfl,aj _,I,fun _=>rfl,fun h=>absurd h jM⟩
theorem m6.jA {z:α}{P:α->kL->Prop}{v:Value}{l:List α}(h:m6 m z P O w v l){K:Nat->Prop}(hk:Z K w w')(hK:∀b,O b->b<w.heap.size->K b)(hO:∀b,O b->O' b)(hP:∀x cs,P x cs->P' x cs): m6 m z P' O' w' v l:=by
 obtain⟨sp,cap,h1,h2,h3,h5,h4⟩:=h;refine⟨sp,cap,h1,h2,h3,h5,fun h0=>?_⟩;obtain⟨b,o,e,j6,UJ,hr⟩:=h4 h0;refine⟨b,o,e,ao j6 hk.size,hO b UJ,fun j hj=>?_⟩;obtain⟨cs,hc,hp,ly⟩:=hr j hj;exact⟨cs,hc,hP _ _ hp,fun i u hu=>by rw[hk.cell (p:=Aq b (o+j*m+i)) (hK b UJ j6)];exact ly i u hu⟩
theorem m6.mono {z:α}{P:α->kL->Prop}{v:Value}{l:List α}(h:m6 m z P O w v l)(hO:∀b,O b->O' b)(hP:∀x cs,P x cs->P' x cs): m6 m z P' O' w v l :=
 h.jA (Z.refl (fun _=>True) w) (fun _ _ _=>trivial) hO hP
def kC {α:Type}(e:TypeId)(m:Nat)(z:α)(P:α->kL->Prop)(O:Nat->Prop)(w:World)(v:Value)(l:List α):Prop :=
 ∃mZ:List (kL),mZ.length=l.length/\(∀j,j<l.length->(mZ.getD j []).length=m/\P (l.getD j z) (mZ.getD j []))/\jY e m w O v l.length mZ.flatten
theorem kC.nil (e:TypeId)(m:Nat)(z:α)(P:α->kL->Prop)(O:Nat->Prop)(w:World): kC e m z P O w (kP) []:=⟨[],rfl,fun j hj=>absurd hj jM,jY.nil _ _ _ _⟩
theorem kC.jA {e:TypeId}{z:α}{P:α->kL->Prop}{v:Value}{l:List α}(h:kC e m z P O w v l){K:Nat->Prop}(hk:Z K w w')(hK:∀g,v.ownBlock=some g->K g)(hO:∀b,O b->O' b)(hP:∀x cs,P x cs->P' x cs): kC e m z P' O' w' v l:=by
 obtain⟨mZ,h1,h2,h3⟩:=h;exact⟨mZ,h1,fun j hj=>⟨(h2 j hj).1,hP _ _ (h2 j hj).2⟩,(h3.jA hk hK).mono hO⟩
theorem kC.lt {e:TypeId}{z:α}{P:α->kL->Prop}{v:Value}{l:List α}(h:kC e m z P O w v l)(hg:v.ownBlock=some g): g<w.heap.size:=by
 obtain⟨mZ,-,-,h3⟩:=h;exact h3.lt hg
theorem kC.own {e:TypeId}{z:α}{P:α->kL->Prop}{v:Value}{l:List α}(h:kC e m z P O w v l)(hg:v.ownBlock=some g): O g:=by
 obtain⟨mZ,-,-,h3⟩:=h;exact h3.own hg
theorem kC.one {e:TypeId}{z:α}{P:α->kL->Prop}{v:Value}{l:List α}(h:kC e m z P O w v l): v.oneCell'=true:=by
 obtain⟨mZ,-,-,h3⟩:=h;obtain⟨sp,c,rfl,-⟩:=h3.slice;rfl
theorem B0 {m:Nat}:∀(k:List (kL)),(∀x∈k,x.length=m)->∀j i,j<k.length->i<m->k.flatten[j*m+i]? = (k.getD j [])[i]?
 | [],_,j,i,hj,_=>by simp at hj
 | x::k,hx,j,i,hj,hi=>by
  have h0:=hx x jM;cases j with
  | zero=>simp only[dY,al,jt,bA];rw[aZ I]
  | succ j=>
   simp only[dY,aA];rw[aE (by rw[h0,gJ];omega),h0,show(j+1)*m+i - m=j*m+i by rw[gJ];omega];exact B0 k (fun y hy=>hx y (by simp[hy])) j i (by simpa using hj) hi
theorem Cv {k:List (kL)}(h:∀j,j<k.length->(k.getD j []).length=m): ∀x∈k,x.length=m:=by
 intro x hx;obtain⟨j,hj,rfl⟩:=bH hx;have:=h j hj
 simpa[hj] using this
theorem kC.kN {e:TypeId}{z:α}{P:α->kL->Prop}{v:Value}{l:List α}(h:kC e m z P O w v l): m6 m z P O w v l:=by
 obtain⟨mZ,h1,h2,h3⟩:=h;obtain⟨q1,q2,sp,cap,rfl,h4,h5,h6,h7⟩:=h3.EM;refine⟨sp,cap,rfl,h4,h5,h6,fun h0=>?_⟩;obtain⟨b,o,e,hb,hO,hr⟩:=h7 h0;have lO:=Cv (k:=mZ) (m:=m) fun j hj=>(h2 j I).1;refine⟨b,o,e,hb,hO,fun j hj=>⟨mZ.getD j [],(h2 j hj).1,(h2 j hj).2,fun i u hu=>?_⟩⟩;have him:i<m:=by
  rcases aW i m with h|h
  ·exact h
  ·rw[aM (by rw[(h2 j hj).1];exact h)]at hu;cases hu
 have hg:=B0 mZ lO j i I him;have j6:j*m+i<mZ.flatten.length:=by
  rcases aW (j*m+i) mZ.flatten.length with h|h
  ·exact h
  ·rw[aM h,hu]at hg;cases hg
 have:=hr (j*m+i) j6;rw[gm,this,ah,hg,hu]
 rfl
theorem kC.snoc {e:TypeId}{z:α}{P:α->kL->Prop}{l:List α}{mZ:List (kL)}{x:α}(h1:mZ.length=l.length)(h2:∀j,j<l.length->(mZ.getD j []).length=m/\P (l.getD j z) (mZ.getD j []))(hc:cs.length=m)(hp:P x cs)(h:jY e m w' O v' (l.length+1) (mZ.flatten++cs)): kC e m z P O w' v' (l++[x]):=by
 refine⟨mZ++[cs],by simp[h1],fun j hj=>?_,?_⟩
 ·rcases aW j l.length with hl|hl
  ·have:=h2 j hl
   simp only[ah]at this ⊢;rw[aZ I,aZ I];exact this
  ·obtain rfl:j=l.length:=by simp at hj;omega
   simp only[ah];rw[aE I,aE I,h1];simp[hc,hp]
 ·rw[af,eQ,je]
  simpa using h
theorem WL.ar2 {t e s:Nat}(hg:o.guard=none)(hd:o.dst=some d)(hn:Nat.blt d n.n=true)(ho:o.op=.buildSlice t 1 #[(0,x)])(ht:tyOf ty t=some (.slice e s))(hx:kS l x=some u)(hu:u.cells=cs.toArray)(hcs:cs.length=s)(hs:0<s/\s<=1000)(hz:(prog.info? e).bind (fun i=>i.zero.map fun _=>i.size)=some s)(h:∀g w',kJ w g w' e cs->WL n ops Q rest ((d,nj g 0 1 1)::l) w'): WL n ops Q (o::rest) l w :=
 WL.step hg hd hn (fun a ha=>by
  obtain⟨ie,Dg,hz⟩:=fG.1 hz;obtain⟨z,hz,lJ⟩:=cY.1 hz;unfold execOp;rw[ho];have e2:=Great.fill_whole (s:=s) hs.1 [u] ((Array.range (1*s)).map (z.cells[· % z.cells.size]!)) (by intro v hv;simp at hv;rw[hv,hu];simpa using hcs) jM;have:=iY (P:=prog) w t e 1 (#[(0,x)].map fun(p:Nat×Operand)=>(p.1,a.eval p.2)) cs.toArray ie z (oO.of oz ht).1 Dg hz (by rw[lJ];omega) (by rw[lJ];omega) (by
   rw[lJ];simp only[cO,aY,dy,ha.eval hx];apply Eq.trans e2;simp[hu])
  simp only[bK,this,bG]
  rfl) (h _ _ (kJ.mk' w e cs))
theorem _root_.Go.Proofs.YtlenklobbngopaaGreat.lh {t e s:Nat}{cs:List Value}(h:∀g w',kJ w g w' e cs->WL n ops Q rest ((d,.slice (some ⟨g,0,none⟩) 1 1)::l) w')(hg:o.guard=none:=by exact rfl)(hd:o.dst=some d:=by exact rfl)(hn:Nat.blt d n.n=true:=by exact rfl)(ho:o.op=.buildSlice t 1 #[(0,x)]:=by exact rfl)(ht:tyOf ty t=some (.slice e s):=by exact rfl)(hx:kS l x=some u:=by exact rfl)(hu:u.cells=cs.toArray:=by exact rfl)(hcs:cs.length=s:=by exact rfl)(hs:0<s/\s<=1000:=by omega)(hz:(prog.info? e).bind (fun i=>i.zero.map fun _=>i.size)=some s:=by kernel_rfl): WL n ops Q (o::rest) l w:=WL.ar2 hg hd hn ho ht hx hu hcs hs hz h
theorem WL.empty {t e s:Nat}(hg:o.guard=none)(hd:o.dst=some d)(hn:Nat.blt d n.n=true)(ho:o.op=.buildSlice t 0 #[])(ht:tyOf ty t=some (.slice e s))(h:∀g w',kJ w g w' e []->WL n ops Q rest ((d,nj g 0 0 0)::l) w'): WL n ops Q (o::rest) l w :=
 WL.step hg hd hn (fun a _=>by
  obtain⟨hu,lJ⟩:=oO.of oz ht;have hs:(sizeOf e).run prog w=.ok s w:=by
   cases hq:prog.info? e with
   | none=>rw[hq]at lJ;cases lJ
   | some q=>rw[hq]at lJ;simp at lJ;simp[sizeOf,typeInfo,hq,lJ]
  unfold execOp;rw[ho];simp[Instr.buildSlice,bR hu,hs,Instr.fill,newRow]
  rw[show(Array.range 0)=#[] from by decide];simp) (h _ _ (kJ.mk' w e []))
theorem ph.zN (h:kJ w g w' T cs)(h1:lY cs): ph w' (fun b=>b=g) cs.length (nj g 0 1 1) 1 cs :=
 ⟨jM,h1,_,1,rfl,aj _,I,(fun h=>by cases h),fun _=>⟨g,0,rfl,h.blk.lt,rfl,Fo.HV h.blk⟩⟩
theorem WL.snoc {s:Operand}{t e:TypeId}{z:α}{P:α->kL->Prop}{v:Value}{k:List α}{y:α}(hg:o.guard=none)(hd:o.dst=some d)(hn:Nat.blt d n.n=true)(ho:o.op=.call { callee:=.builtin .append,args:=#[s,x],argTypes:=#[t,t]})(E:na prog t e m bytes)(hs:kS l s=some v)(jW:kC e m z P O w v k)(hx:kS l x=some (nj g 0 1 1))(hf:U e w g cs)(h1:lY cs)(hc:cs.length=m)(hp:P y cs)(hb:(k.length+1)*bytes<=140737488355328)(oc:k.length+1<=140737488355328)(h:∀v' w',kC e m z P (fun b=>O b\/b=w.heap.size) w' v' (k++[y])->kX w v w' v'->WL n ops Q rest ((d,v')::l) w'): WL n ops Q (o::rest) l w:=by
 obtain⟨mZ,h2,h3,h4⟩:=jW;have nG:ph w (fun b=>b=g) m (nj g 0 1 1) 1 cs:=⟨by rw[hc,Nat.one_mul],h1,_,1,rfl,aj _,I,(fun h=>by cases h),fun _=>⟨g,0,rfl,hf.lt,rfl,Fo.HV hf⟩⟩;refine WL.VH hg hd hn ho E hs h4 hx nG hb oc fun v' w' h5 h6=>h v' w' ?_ h6;exact kC.snoc h2 h3 hc hp h5
end K
namespace K
variable {n:NN}{Q:Exit->Act->World->Prop}{l:Env}{w w':World}{ops:Array Oper}{o:Oper}{rest:List Oper}{d:Nat}
theorem WL.uM {t off:Nat}{y:Operand}{m:kL}(hg:o.guard=none)(hd:o.dst=none)(ho:o.op=.store t x y)(hx:kS l x=some (.pointer (some (Aq b off))))(hy:kS l y=some (.agg m.toArray))(ht:cellsN (tyOf ty t)=some mm)(hb:U T w b cs)(hm:m.length=mm)(hfit:off+mm<=cs.length)(h1:lY m)(h:WL n ops Q rest l (w.setRow b (cs.take off++m++cs.drop (off+mm)).toArray)): WL n ops Q (o::rest) l w :=
 WL.XY hg hd (fun a ha=>by
  obtain⟨_,-,-,lJ⟩:=ug oz ht;have hs:(sizeOf t).run prog w=.ok mm w:=by
   cases hq:prog.info? t with
   | none=>rw[hq]at lJ;cases lJ
   | some q=>rw[hq]at lJ;simp at lJ;simp[sizeOf,typeInfo,hq,lJ]
  have my:=run_storeCells_at (P:=prog) b off T m 0 cs.toArray w hb (by simp only[cH];omega) h1;simp only[fO]at my;subst hm;unfold execOp;rw[ho];simp[ha.eval hx,ha.eval hy,Instr.storeAt,Instr.sureAddr,storeVar,hs,Value.cells,my]) h
theorem WB {t e s off:Nat}(ho:o.op=.slice t x none none none)(ht:tyOf ty t=some (.arr m e s))(hx:a.eval x=.pointer (some (Aq b off))): (execOp a.eval o).run prog w=.ok (.value (nj b off m m)) w:=by
 obtain⟨hu,tC,-⟩:=oO.of oz ht;have h1:prog.elem t=e:=by simp[Program.elem,hu]
 have h2:prog.arrayLen t=m:=by simp[Program.arrayLen,hu]
 have hs:(sizeOf e).run prog w=.ok s w:=by
  cases hq:prog.info? e with
  | none=>rw[hq]at tC;cases tC
  | some q=>rw[hq]at tC;simp at tC;simp[sizeOf,typeInfo,hq,tC]
 have hr:=run_sliceAt_array_all (P:=prog) w t (Aq b off) (by rw[h1,h2];exact hu);unfold execOp;rw[ho];have ha:slicedAt (Aq b off) 0 m m s=nj b off m m:=by
  unfold slicedAt
  by_cases h0:m=0
  ·rw[ag h0];simp
  ·rw[aa h0,jt];rfl
 simp[hx,hr,h1,h2,hs,ha]
theorem WL.all {t e s off:Nat}(hg:o.guard=none)(hd:o.dst=some d)(hn:Nat.blt d n.n=true)(ho:o.op=.slice t x none none none)(ht:tyOf ty t=some (.arr m e s))(hx:kS l x=some (.pointer (some (Aq b off))))(h:WL n ops Q rest ((d,nj b off m m)::l) w): WL n ops Q (o::rest) l w:=WL.step hg hd hn (fun _ ha=>WB ho ht (ha.eval hx)) h
theorem WL.elem {t e:Nat}{i:Operand}{k:IntKind}{v:Value}(j:Nat)(hg:o.guard=none)(hd:o.dst=some d)(hn:Nat.blt d n.n=true)(ho:o.op=.index t x i)(ht:tyOf ty t=some (.arr m e 1))(he:Me (tyOf ty e)=true)(hx:kS l x=some (.agg cs.toArray))(hi:kS l i=some (.int k (j:Int)))(hj:j<m)(hv:cs[j]? = some v)(h:WL n ops Q rest ((d,v)::l) w): WL n ops Q (o::rest) l w :=
 WL.step hg hd hn (fun a ha=>by
  obtain⟨hu,tC,-⟩:=oO.of oz ht;obtain⟨ie,Dg,lJ⟩:=cY.1 tC;have hd:∃d,prog.underlying e=some d/\(match d with|.struct _|.array _ _=>false|_=>true)=true:=by
   cases hq:tyOf ty e with
   | none=>rw[hq]at he;cases he
   | some z=>
    rw[hq]at he;have hz:=oO.of oz hq;cases z with
    | int k=>exact⟨_,hz,rfl⟩
    | str=>exact⟨_,hz,rfl⟩
    | bool=>exact⟨_,hz,rfl⟩
    | ptr e=>exact⟨_,hz,rfl⟩
    | map k e=>exact⟨_,hz,rfl⟩
    | slice e s=>exact⟨_,hz.1,rfl⟩
    | struct m fs=>cases he
    | arr m e s=>cases he
  obtain⟨dd,h1,h2⟩:=hd;have:=Dt (P:=prog) w t e m dd ie hu Dg lJ h1 (by cases dd<;>first|rfl|exact absurd h2 jM) cs.toArray k j hj v (by simpa using hv);unfold execOp;rw[ho];simp[ha.eval hx,ha.eval hi,this]) h
section
variable {S:World->Prop}{m fuel:Nat}{jI:Array Bool}
theorem WD.all {t e s off:Nat}(i:Nat)(hi:ops[i]? = some oi)(hs:vS ops jI i m=true)(hd:oi.dst=some d)(hn:Nat.blt d n.n=true)(hQ:Passes Q)(hw:wants ops l oi=some true)(ho:oi.op=.slice t x none none none)(ht:tyOf ty t=some (.arr mm e s))(hx:kS l x=some (.pointer (some (Aq b off))))(hS:jI.getD m false=true\/S w)(h:WD n ops Q S m fuel (jI.setIfInBounds i true) ((d,nj b off mm mm)::l) w): WD n ops Q S m (fuel+1) jI l w :=
 WD.first i hi hs hd hn hQ (fun _ ha=>.inl ⟨pj ha hw,fun _ _=>WB ho ht (ha.eval hx)⟩) hS h
end
end K
namespace K
variable {n:NN}{Q:Exit->Act->World->Prop}{l:Env}{w w':World}{ops:Array Oper}{o:Oper}{rest:List Oper}{d:Nat}
theorem FX {t e s:Nat}(ht:tyOf ty t=some (.arr m e s)): prog.underlying t=some (.array (prog.arrayLen t) (prog.elem t))/\prog.arrayLen t=m/\∀w,(sizeOf (prog.elem t)).run prog w=.ok s w:=by
 obtain⟨hu,tC,-⟩:=oO.of oz ht;have h1:prog.elem t=e:=by simp[Program.elem,hu]
 have h2:prog.arrayLen t=m:=by simp[Program.arrayLen,hu]
 refine⟨by rw[h1,h2];exact hu,h2,fun w=>?_⟩;rw[h1];cases hq:prog.info? e with
 | none=>rw[hq]at tC;cases tC
 | some q=>rw[hq]at tC;simp at tC;simp[sizeOf,typeInfo,hq,tC]
theorem Pq {t e s off:Nat}{i:Operand}{k:IntKind}(ho:o.op=.indexAddr t x i)(ht:tyOf ty t=some (.arr m e s))(hx:a.eval x=.pointer (some (Aq b off)))(hi:a.eval i=.int k z)(hz:z=(j:Int))(hj:j<m):
  (execOp a.eval o).run prog w=.ok (.value (.pointer (some (Aq b (off+j*s))))) w:=by
 obtain⟨hu,hm,hs⟩:=FX ht;unfold execOp;rw[ho];simp only[hx,hi,bK,run_indexAt_array w t _ k z hu];rw[ag (by rw[hm];omega),hs,hz];simp[Addr.add_mid]
theorem WL.agx {t e s off:Nat}{i:Operand}{k:IntKind}(j q:Nat)(hg:o.guard=none)(hd:o.dst=some d)(hn:Nat.blt d n.n=true)(ho:o.op=.indexAddr t x i)(ht:tyOf ty t=some (.arr m e s))(hx:kS l x=some (.pointer (some (Aq b off))))(hi:kS l i=some (.int k z))(hz:z=(j:Int))(hj:j<m)(hq:off+j*s=q)(h:WL n ops Q rest ((d,.pointer (some (Aq b q)))::l) w): WL n ops Q (o::rest) l w :=
 WL.step hg hd hn (fun _ ha=>by rw[<-hq];exact Pq ho ht (ha.eval hx) (ha.eval hi) hz hj) h
theorem _root_.Go.Proofs.YtlenklobbngopaaGreat.mg {t e s off:Nat}{i:Operand}{k:IntKind}(j:Nat)(q:Nat)(hg:o.guard=none:=by exact rfl)(hd:o.dst=some d:=by exact rfl)(hn:Nat.blt d n.n=true:=by exact rfl)(ho:o.op=.indexAddr t x i:=by exact rfl)(ht:tyOf ty t=some (.arr m e s):=by exact rfl)(hx:kS l x=some (.pointer (some ⟨b,off,none⟩)):=by exact rfl)(hi:kS l i=some (.int k z):=by exact rfl)(hz:z=(j:Int):=by exact rfl)(hj:j<m:=by omega)(hq:off+j*s=q:=by omega)(h:WL n ops Q rest ((d,.pointer (some ⟨b,q,none⟩))::l) w): WL n ops Q (o::rest) l w:=WL.agx j q hg hd hn ho ht hx hi hz hj hq h
section
variable {S:World->Prop}{m fuel:Nat}{jI:Array Bool}
theorem WD.agx {t e s off:Nat}{k:IntKind}(i j q:Nat)(hi:ops[i]? = some oi)(hs:vS ops jI i m=true)(hd:oi.dst=some d)(hn:Nat.blt d n.n=true)(hQ:Passes Q)(hw:wants ops l oi=some true)(ho:oi.op=.indexAddr t x i')(ht:tyOf ty t=some (.arr mm e s))(hx:kS l x=some (.pointer (some (Aq b off))))(Fc:kS l i'=some (.int k z))(hz:z=(j:Int))(hj:j<mm)(hq:off+j*s=q)(hS:jI.getD m false=true\/S w)(h:WD n ops Q S m fuel (jI.setIfInBounds i true) ((d,.pointer (some (Aq b q)))::l) w): WD n ops Q S m (fuel+1) jI l w :=
 WD.first i hi hs hd hn hQ (fun _ ha=>.inl ⟨pj ha hw,fun _ _=>by rw[<-hq];exact Pq ho ht (ha.eval hx) (ha.eval Fc) hz hj⟩) hS h
theorem _root_.Go.Proofs.YtlenklobbngopaaGreat.kU {t e s off:Nat}{k:IntKind}(i:Nat)(j:Nat)(q:Nat)(hS:jI.getD m false=true\/S w)(hi:ops[i]? = some oi:=by exact rfl)(hs:vS ops jI i m=true:=by kernel_rfl)(hd:oi.dst=some d:=by exact rfl)(hn:Nat.blt d n.n=true:=by exact rfl)(hQ:Passes Q:=by exact fun _ _ _ _ _ h=>h)(hw:wants ops l oi=some true:=by exact rfl)(ho:oi.op=.indexAddr t x i':=by exact rfl)(ht:tyOf ty t=some (.arr mm e s):=by exact rfl)(hx:kS l x=some (.pointer (some ⟨b,off,none⟩)):=by exact rfl)(Fc:kS l i'=some (.int k z):=by exact rfl)(hz:z=(j:Int):=by exact rfl)(hj:j<mm:=by omega)(hq:off+j*s=q:=by omega)(h:WD n ops Q S m fuel (jI.setIfInBounds i true) ((d,.pointer (some ⟨b,q,none⟩))::l) w): WD n ops Q S m (fuel+1) jI l w:=WD.agx i j q hi hs hd hn hQ hw ho ht hx Fc hz hj hq hS h
end
theorem Y_ {t e off sl sc:Nat}(Cd:Nat)(ht:tyOf ty t=some (.slice e 1))(hb:U T w b cs)(hn:vs.length=min sl dl)(hr:w.rangeAt b2 U5 vs)(hfit:off+vs.length<=cs.length)(h1:lY vs):
  (Builtin.copy_ #[t,t] Cd #[nj b off dl dc,nj b2 U5 sl sc]).run prog w=.ok (Iq vs.length) (w.setRow b (cs.take off++vs++cs.drop (off+vs.length)).toArray):=by
 obtain⟨hu,lJ⟩:=oO.of oz ht;have:=run_copy_row prog w t t Cd e b off dl dc (Aq b2 U5) sl sc cs.toArray T vs hu lJ hb hn (fun j v hj=>by
  have:=hr j v hj
  simpa[Addr.add_mid] using this) (by simpa using hfit) h1
 apply this.trans
 rfl
theorem WL.copyV {y:Operand}{t e off sl sc:Nat}(hg:o.guard=none)(hd:o.dst=some d)(hn:Nat.blt d n.n=true)(ho:o.op=.call { callee:=.builtin .copy,args:=#[x,y],argTypes:=#[t,t]})(ht:tyOf ty t=some (.slice e 1))(hx:kS l x=some (nj b off dl dc))(hy:kS l y=some (nj b2 U5 sl sc))(hb:U T w b cs)(hm:vs.length=min sl dl)(hr:w.rangeAt b2 U5 vs)(hfit:off+vs.length<=cs.length)(h1:lY vs)(h:WL n ops Q rest ((d,Iq vs.length)::l) (w.setRow b (cs.take off++vs++cs.drop (off+vs.length)).toArray)): WL n ops Q (o::rest) l w:=by
 have my:=Y_ o.type ht hb hm hr hfit h1 (dc:=dc) (sc:=sc);refine WL.step hg hd hn (fun a ha=>?_) h;unfold execOp;simp only[ho,resolve,invoke,builtin,bK,fJ,bG,cO,aY,dy,ha.eval hx,ha.eval hy,my]
end K
namespace K
open Tre
def j5 (g:Nat->Value):kL:=(List.range 28).map g
theorem pM (g:Nat->Value): (j5 g).length=28:=by simp[j5]
theorem Y2 (g:Nat->Value)(h:j<28): (j5 g).getD j undef=g j:=by simp[j5,h]
theorem rowOf_get? (g:Nat->Value)(h:j<28): (j5 g)[j]? = some (g j):=by simp[j5,h]
theorem wJ {g h:Nat->Value}(e:∀j,j<28->g j=h j): j5 g=j5 h:=List.map_congr_left fun j hj=>e j (by simpa using hj)
theorem PI {l:kL}{g:Nat->Value}(hl:l.length=28)(h:∀j,j<28->l.getD j undef=g j): l=j5 g:=by
 refine ew (by rw[hl,pM]) fun j h1 h2=>?_;have:=h j I;rw[ah,ai h1]at this;simp only[fo]at this;rw[this];simp[j5]
theorem WZ (g:Nat->Value)(j:Nat)(v:Value): (j5 g).set j v=j5 (fun i=>if i=j then v else g i):=by
 refine PI (by rw[aI,pM]) fun i hi=>?_;rw[ah,ig]
 by_cases e:j=i
 ·subst e;simp[pM,hi]
 ·rw[aa e,aa (fun h=>e h.symm),rowOf_get? g hi];rfl
theorem JR (g u:Nat->Value)(off m:Nat)(h:off+m<=28): (j5 g).take off++(List.range m).map u++(j5 g).drop (off+((List.range m).map u).length)=j5 (fun j=>if off<=j/\j<off+m then u (j - off) else g j):=by
 have hl:((List.range m).map u).length=m:=jM;rw[hl];refine PI (by simp only[af,aC,aQ,pM,hl];omega) fun i hi=>?_;rw[ah];have ht:((j5 g).take off).length=off:=by rw[aC,pM];omega
 by_cases h1:i<off
 ·rw[aZ (by rw[af,ht];omega),aZ (by rw[ht];exact h1),cS h1,rowOf_get? g hi,aa I]
  rfl
 ·by_cases h2:i<off+m
  ·rw[aZ (by rw[af,ht,hl];omega),aE (by rw[ht];omega),ht,ag I]
   have:i - off<m:=I;simp[this]
  ·rw[aE (by rw[af,ht,hl];omega),af,ht,hl,dJ,show off+m+(i - (off+m))=i by omega,rowOf_get? g hi,aa I]
   rfl
def m8:Option Nat->Value
 | none=>.pointer none
 | some b=>jV b
def lB:Tre.En:=⟨ByteArray.empty,0,none⟩
def nS (nd:Nd)(pv:Option Nat)(j:Nat):Value :=
 if j=0 then .bool nd.leaf else if j=1 then Iq nd.es.length else if j<10 then .string (nd.es.getD (j - 2) lB).key else if j<18 then Iq (nd.es.getD (j - 10) lB).num else if j<26 then m8 (nd.es.getD (j - 18) lB).pw else if j=26 then m8 nd.next else m8 pv
theorem vE (nd:Nd)(pv:Option Nat): nS nd pv 1=Iq nd.es.length:=rfl
theorem w_ (nd:Nd)(pv:Option Nat)(h:i<8): nS nd pv (2+i)=.string (nd.es.getD i lB).key:=by
 unfold nS;rw[aa I,aa I,ag I,show 2+i - 2=i by omega]
theorem AJ (nd:Nd)(pv:Option Nat)(h:i<8): nS nd pv (10+i)=Iq (nd.es.getD i lB).num:=by
 unfold nS;rw[aa I,aa I,aa I,ag I,show 10+i - 10=i by omega]
theorem xk (nd:Nd)(pv:Option Nat)(h:i<8): nS nd pv (18+i)=m8 (nd.es.getD i lB).pw:=by
 unfold nS;rw[aa I,aa I,aa I,aa I,ag I,show 18+i - 18=i by omega]
def ins (es:List Tre.En)(i:Nat)(e:Tre.En):List Tre.En:=es.take i++e::es.drop i
def era (es:List Tre.En)(i:Nat):List Tre.En:=es.take i++es.drop (i+1)
theorem Tz (es:List Tre.En)(e:Tre.En)(h:i<=es.length)(q:Nat): (ins es i e).getD q lB=if q<i then es.getD q lB else if q=i then e else es.getD (q - 1) lB:=by
 unfold ins;have ht:(es.take i).length=i:=by rw[aC];omega
 simp only[ah]
 by_cases h1:q<i
 ·rw[aZ I,cS h1,ag h1]
 ·rw[aE I,ht,aa h1]
  by_cases h2:q=i
  ·subst h2;simp
  ·rw[aa h2,show q - i=(q - i - 1)+1 by omega,cA,dJ,show i+(q - i - 1)=q - 1 by omega]
theorem adA (es:List Tre.En)(e:Tre.En)(h:i<=es.length): (ins es i e).length=es.length+1:=by unfold ins;simp only[af,aC,ak,aQ];omega
theorem af9 (es:List Tre.En)(h:i<es.length)(q:Nat): (era es i).getD q lB=if q<i then es.getD q lB else es.getD (q+1) lB:=by
 unfold era;have ht:(es.take i).length=i:=by rw[aC];omega
 simp only[ah]
 by_cases h1:q<i
 ·rw[aZ I,cS h1,ag h1]
 ·rw[aE I,ht,aa h1,dJ,show i+1+(q - i)=q+1 by omega]
theorem ahs (es:List Tre.En)(h:i<es.length): (era es i).length+1=es.length:=by unfold era;simp only[af,aC,aQ];omega
theorem AM (es:List Tre.En)(h:es.length<=q): es.getD q lB=lB:=by rw[ah,aM h];rfl
abbrev mH:Nat:=192
def Mem (w:World)(st:St):Prop:=∀b nd,st b=some nd->nd.es.length<=8/\∃pv,U mH w b (j5 (nS nd pv))
theorem Mem.jA {st:St}{K:Nat->Prop}(h:Mem w st)(hk:Z K w w')(hK:∀b,st b≠none->K b): Mem w' st:=fun b nd e=>by
 obtain⟨h1,pv,h2⟩:=h b nd e;exact⟨h1,pv,h2.jA hk (hK b (by rw[e];simp))⟩
theorem Mem.lt {st:St}(h:Mem w st)(hb:st b≠none): b<w.heap.size:=by
 cases e:st b with
 | none=>exact absurd e hb
 | some nd=>obtain⟨-,pv,h2⟩:=h b nd e;exact h2.lt
theorem Mem.below {st:St}(h:Mem w st)(hk:jP w w'): Mem w' st:=h.jA (Z.jw hk) fun _ hb=>h.lt hb
theorem Mem.ml {st:St}{nd:Nd}{pv:Option Nat}(h:Mem w st)(hk:Z (fun x=>x≠b) w w')(hn:nd.es.length<=8)(hb:U mH w' b (j5 (nS nd pv))): Mem w' (Tre.ml st b nd):=fun x n e=>by
 by_cases hx:x=b
 ·subst hx
  rw[ny]at e;obtain rfl:=az e;exact⟨hn,pv,hb⟩
 ·rw[kD hx]at e
  obtain⟨h1,pv2,h2⟩:=h x n e;exact⟨h1,pv2,h2.jA hk hx⟩
end K
namespace K
variable {n:NN}{Q:Exit->Act->World->Prop}{l:Env}{w w':World}{ops:Array Oper}{o:Oper}{rest:List Oper}{d:Nat}
def j7 (m i off s:Nat):Nat:=if m=i then off else off+i*s
theorem acD {t e s off:Nat}(ho:o.op=.slice t x (some lo) (some hi) none)(ht:tyOf ty t=some (.arr m e s))(hx:a.eval x=.pointer (some (Aq b off)))(sT:a.eval lo=.int k1 y)(qZ:a.eval hi=.int k2 z)(hy:y=(i:Int))(hz:z=(j:Int))(h1:i<=j)(h2:j<=m): (execOp a.eval o).run prog w=.ok (.value (.slice (some (Aq b (j7 m i off s))) (j - i) (m - i))) w:=by
 obtain⟨hu,hm,hs⟩:=FX ht;have hr:=run_sliceAt_array_lh (P:=prog) w t (Aq b off) hu k1 k2 y z I I (by rw[hm];omega);unfold execOp;rw[ho];subst hy;subst hz;unfold j7
 by_cases mE:m=i
 ·subst mE
  simp[hx,sT,qZ,hr,hs,hm,slicedAt]
 ·simp[hx,sT,qZ,hr,hs,hm,slicedAt,mE,Addr.add_mid]
theorem acP {t e s off:Nat}(ho:o.op=.slice t x (some lo) none none)(ht:tyOf ty t=some (.arr m e s))(hx:a.eval x=.pointer (some (Aq b off)))(sT:a.eval lo=.int k1 y)(hy:y=(i:Int))(h1:i<=m): (execOp a.eval o).run prog w=.ok (.value (.slice (some (Aq b (j7 m i off s))) (m - i) (m - i))) w:=by
 obtain⟨hu,hm,hs⟩:=FX ht;have hr:=run_sliceAt_array_l (P:=prog) w t (Aq b off) hu k1 y I (by rw[hm];omega);unfold execOp;rw[ho];subst hy;unfold j7
 by_cases mE:m=i
 ·subst mE
  simp[hx,sT,hr,hs,hm,slicedAt]
 ·simp[hx,sT,hr,hs,hm,slicedAt,mE,Addr.add_mid]
section
variable {S:World->Prop}{m fuel:Nat}{jI:Array Bool}
theorem WD.at0 {t e s off:Nat}(i p q:Nat)(Kn:ops[i]? = some oi)(hs:vS ops jI i m=true)(hd:oi.dst=some d)(hn:Nat.blt d n.n=true)(hQ:Passes Q)(hw:wants ops l oi=some true)(ho:oi.op=.slice t x (some lo) (some hi) none)(ht:tyOf ty t=some (.arr mm e s))(hx:kS l x=some (.pointer (some (Aq b off))))(sT:kS l lo=some (.int k1 y))(qZ:kS l hi=some (.int k2 z))(hy:y=(p:Int))(hz:z=(q:Int))(h1:p<=q)(h2:q<=mm)(hS:jI.getD m false=true\/S w)(h:WD n ops Q S m fuel (jI.setIfInBounds i true) ((d,.slice (some (Aq b (j7 mm p off s))) (q - p) (mm - p))::l) w): WD n ops Q S m (fuel+1) jI l w :=
 WD.first i Kn hs hd hn hQ (fun _ ha=>.inl ⟨pj ha hw,fun _ _=>acD ho ht (ha.eval hx) (ha.eval sT) (ha.eval qZ) hy hz h1 h2⟩) hS h
theorem _root_.Go.Proofs.YtlenklobbngopaaGreat.pt {t e s off:Nat}(i:Nat)(p:Nat)(q:Nat)(hS:jI.getD m false=true\/S w)(Kn:ops[i]? = some oi:=by exact rfl)(hs:vS ops jI i m=true:=by kernel_rfl)(hd:oi.dst=some d:=by exact rfl)(hn:Nat.blt d n.n=true:=by exact rfl)(hQ:Passes Q:=by exact fun _ _ _ _ _ h=>h)(hw:wants ops l oi=some true:=by exact rfl)(ho:oi.op=.slice t x (some lo) (some hi) none:=by exact rfl)(ht:tyOf ty t=some (.arr mm e s):=by exact rfl)(hx:kS l x=some (.pointer (some ⟨b,off,none⟩)):=by exact rfl)(sT:kS l lo=some (.int k1 y):=by exact rfl)(qZ:kS l hi=some (.int k2 z):=by exact rfl)(hy:y=(p:Int):=by omega)(hz:z=(q:Int):=by omega)(h1:p<=q:=by omega)(h2:q<=mm:=by omega)(h:WD n ops Q S m fuel (jI.setIfInBounds i true) ((d,.slice (some ⟨b,j7 mm p off s,none⟩) (q - p) (mm - p))::l) w): WD n ops Q S m (fuel+1) jI l w:=WD.at0 i p q Kn hs hd hn hQ hw ho ht hx sT qZ hy hz h1 h2 hS h
theorem WD.ahf {t e s off:Nat}(i p:Nat)(Kn:ops[i]? = some oi)(hs:vS ops jI i m=true)(hd:oi.dst=some d)(hn:Nat.blt d n.n=true)(hQ:Passes Q)(hw:wants ops l oi=some true)(ho:oi.op=.slice t x (some lo) none none)(ht:tyOf ty t=some (.arr mm e s))(hx:kS l x=some (.pointer (some (Aq b off))))(sT:kS l lo=some (.int k1 y))(hy:y=(p:Int))(h1:p<=mm)(hS:jI.getD m false=true\/S w)(h:WD n ops Q S m fuel (jI.setIfInBounds i true) ((d,.slice (some (Aq b (j7 mm p off s))) (mm - p) (mm - p))::l) w): WD n ops Q S m (fuel+1) jI l w :=
 WD.first i Kn hs hd hn hQ (fun _ ha=>.inl ⟨pj ha hw,fun _ _=>acP ho ht (ha.eval hx) (ha.eval sT) hy h1⟩) hS h
end
theorem alX: ∀(a p:List UInt8),(Op.bytesLess a p || a == p) = !Op.bytesLess p a:=fun a p=>by
 cases h:Op.bytesLess p a with
 | true=>
  have h2:Op.bytesLess a p=false:=by
   cases h3:Op.bytesLess a p with
   | false=>rfl
   | true=>have:=Tre.IL h h3;rw[Tre.KL]at this;cases this
  have h4:(a == p)=false:=by
   rw[b_];intro e;subst e;rw[Tre.KL]at h;cases h
  rw[h2,h4];rfl
 | false=>
  cases h2:Op.bytesLess a p with
  | true=>rfl
  | false=>rw[Tre.Ru h2 h];simp
theorem abK {P:Program}(ts:Array TypeId)(t:TypeId)(x y:lD)(w:World): (Builtin.min_ ts t #[.string x,.string y]).run P w=.ok (.string (Tre.zG x y)) w:=by
 unfold Tre.zG Tre.kl;have e:=alX x.toList y.toList;cases h:Op.bytesLess y.toList x.toList with
 | true=>
  rw[h]at e;simp only[jk,iS]at e;simp[Builtin.min_,Builtin.min2,Op.stringOp,asBool,e]
 | false=>
  rw[h]at e;simp only[Bool.not_false,fz]at e;rcases e with e|e<;>simp[Builtin.min_,Builtin.min2,Op.stringOp,asBool,e]
theorem WL.aqK {y:Operand}{a b:lD}(hg:o.guard=none)(hd:o.dst=some d)(hn:Nat.blt d n.n=true)(ho:o.op=.call { callee:=.builtin .min,args:=#[x,y],argTypes:=ts })(hx:kS l x=some (.string a))(hy:kS l y=some (.string b))(h:WL n ops Q rest ((d,.string (Tre.zG a b))::l) w): WL n ops Q (o::rest) l w :=
 WL.step hg hd hn (fun c hc=>by
  unfold execOp;simp only[ho,resolve,invoke,builtin,bK,fJ,bG,cO,aY,dy,hc.eval hx,hc.eval hy,abK]) h
theorem GM {P:Program}(op:BinOp)(t:TypeId)(x y:Operand)(p q:Option Addr)(w:World): (eqGuard op t x y (.pointer p) (.pointer q)).run P w=.ok () w:=by
 cases op<;>simp[eqGuard]
theorem WL.asf {t e:Nat}{p:Option Addr}(hg:o.guard=none)(hd:o.dst=some d)(hn:Nat.blt d n.n=true)(ho:o.op=.binOp .eql t x (.const (.pointer none)) t2)(ht:tyOf ty t=some (.ptr e))(hx:kS l x=some (.pointer p))(_hgd:prog.eqGuardType prog.depth t=false)(h:WL n ops Q rest ((d,.bool p.isNone)::l) w): WL n ops Q (o::rest) l w :=
 WL.step hg hd hn (fun a ha=>by
  have hu:prog.underlying t=some (.pointer e):=oO.of oz ht;have he:prog.pointee t=e:=by simp[Program.pointee,hu]
  have hy:a.eval (.const (.pointer none))=.pointer none:=rfl;unfold execOp;rw[ho];simp[ha.eval hx,hy,GM _ _ _ _ _ _ _,run_eql_pointer_nil w t p (by rw[he];exact hu)]) h
theorem _root_.Go.Proofs.YtlenklobbngopaaGreat.kV {t e:Nat}{p:Option Addr}(hg:o.guard=none:=by exact rfl)(hd:o.dst=some d:=by exact rfl)(hn:Nat.blt d n.n=true:=by exact rfl)(ho:o.op=.binOp .eql t x (.const (.pointer none)) t2:=by exact rfl)(ht:tyOf ty t=some (.ptr e):=by exact rfl)(hx:kS l x=some (.pointer p):=by exact rfl)(_hgd:prog.eqGuardType prog.depth t=false:=by kernel_rfl)(h:WL n ops Q rest ((d,.bool p.isNone)::l) w): WL n ops Q (o::rest) l w:=WL.asf hg hd hn ho ht hx _hgd h
theorem WL.tk {t e:Nat}{p:Option Addr}(hg:o.guard=none)(hd:o.dst=some d)(hn:Nat.blt d n.n=true)(ho:o.op=.binOp .neq t x (.const (.pointer none)) t2)(ht:tyOf ty t=some (.ptr e))(hx:kS l x=some (.pointer p))(_hgd:prog.eqGuardType prog.depth t=false)(h:WL n ops Q rest ((d,.bool (!p.isNone))::l) w): WL n ops Q (o::rest) l w :=
 WL.step hg hd hn (fun a ha=>by
  have hu:prog.underlying t=some (.pointer e):=oO.of oz ht;have he:prog.pointee t=e:=by simp[Program.pointee,hu]
  have hy:a.eval (.const (.pointer none))=.pointer none:=rfl;unfold execOp;rw[ho];simp[ha.eval hx,hy,GM _ _ _ _ _ _ _,run_neq_pointer_nil w t p (by rw[he];exact hu)]) h
end K
namespace K
open Tre
theorem lN {T:TypeId}{g:Nat->Value}(h:U T w b (j5 g))(hj:j<28): w.cell? (Aq b j)=some (g j):=by
 rw[h.cell j (by rw[pM];exact hj),Y2 g hj]
theorem xd {T:TypeId}{g:Nat->Value}(h:U T w b (j5 g))(j:Nat)(v:Value): U T (w.setCell (Aq b j) v) b (j5 fun i=>if i=j then v else g i):=by
 have:=h.set j v
 rwa [WZ]at this
theorem Jh {T:TypeId}{g:Nat->Value}(h:U T w b (j5 g))(off m:Nat)(hm:off+m<=28): w.rangeAt b off ((List.range m).map fun j=>g (off+j)):=by
 intro j v hj;have j6:j<m:=by
  rcases aW j m with h|h
  ·exact h
  ·rw[aM (by simpa using h)]at hj;cases hj
 rw[lN h I];simp[j6]at hj
 rw[hj]
theorem Z.pU (h:Lq w w')(K:Nat->Prop): Z K w w':=⟨(h.below 0).os,(h.below 0).tape,(h.below 0).output,(h.below 0).size,fun k _=>(h.below (k+1)).block k (Nat.lt_succ_self k)⟩
theorem uK {K:Nat->Prop}{a:World}(h:Z K a w)(hg:¬K g)(cs:Array Value): Z K a (w.setRow g cs) :=
 ⟨h.os,h.tape,h.output,by simpa using h.size,fun k hk=>(setRow_other w g k cs (fun e=>hg (e ▸ hk))).trans (h.block k hk)⟩
theorem yW (h:Z (fun x=>x≠b) w w1)(j:Nat)(v:Value): Z (fun x=>x≠b) w (w1.setCell (Aq b j) v):=h.setCell (fun hk=>hk rfl) _
theorem EG (x:Option Nat): (m8 x).oneCell'=true:=by cases x<;>rfl
theorem Tf (nd:Nd)(pv:Option Nat)(j:Nat): (nS nd pv j).oneCell'=true:=by
 unfold nS
 repeat' split
 all_goals first|rfl|exact EG _
theorem uH {nd:Nd}{pv:Option Nat}{key:lD}{n:Int}{pw:Option Nat}(hb:U mH w b (j5 (nS nd pv)))(hi:i<=nd.es.length)(hn:nd.es.length<8):
  Calls prog 91 #[jV b,Iq i,.string key,Iq n,m8 pw] w fun e w'=>e=.returned (.tuple #[])/\Z (fun x=>x≠b) w w'/\U mH w' b (j5 (nS { nd with es:=ins nd.es i ⟨key,n,pw⟩} pv)):=by
 apply kq iZ ntmps91;obtain⟨g0,xC⟩:∃g0,nS nd pv=g0:=⟨_,rfl⟩;obtain⟨N,hN⟩:∃N,nd.es.length=N:=⟨_,rfl⟩;rw[xC]at hb;rw[hN]at hi hn;have NJ:g0 1=Iq N:=by rw[<-xC,vE,hN]
 -- three rows make room
 have step:∀ {wx:World}{g:Nat->Value}(off:Nat),2<=off->off+8<=26->U mH wx b (j5 g)->∃g',U mH (wx.setRow b ((j5 g).take (j7 8 (i+1) off 1)++(List.range (N - i)).map (fun j=>g (off+i+j))++(j5 g).drop (j7 8 (i+1) off 1+((List.range (N - i)).map (fun j=>g (off+i+j))).length)).toArray) b (j5 g')/\
   ∀j,j<28->g' j=if off+i+1<=j/\j<off+N+1 then g (j - 1) else g j:=by
  intro wx g off h1 h2 hv;have hc:j7 8 (i+1) off 1+(N - i)<=28:=by unfold j7;split<;>omega
  rw[JR g _ _ _ hc];refine⟨_,hv.setRow _,fun j hj=>?_⟩
  by_cases e:8=i+1
  ·have:N - i=0:=I
   rw[this,aa I,aa I]
  ·rw[show j7 8 (i+1) off 1=off+i+1 by unfold j7;rw[aa e];omega]
   by_cases c:off+i+1<=j/\j<off+N+1
   ·rw[ag I,ag c]
    congr 1
    omega
   ·rw[aa I,aa c]
 have o0:∀j,j<28->(g0 j).oneCell'=true:=fun j _=>by rw[<-xC];exact Tf _ _ _
 have aan:∀yH m',yH+m'<=28->lY ((List.range m').map fun j=>g0 (yH+j)):=fun yH m' hm u hu=>by
  obtain⟨j,hj,rfl⟩:=bD.1 hu;exact o0 _ (by have:=bX.1 hj;omega)
 have c0:=NJ;have K0:=Z.refl (fun x=>x≠b) w;apply mA _;refine WC.drawn 20 (fun wx=>U mH wx b (j5 g0)) fun u0 hd=>?_;have hS:=hb.below (hd.below _) hb.lt;have K0':=K0.trans (Z.pU hd (fun x=>x≠b));clear hd hb K0;apply jC [0,1,2,3,4,5,6,7] hS _;apply jz 8 [9,10,20] (fun wx hx=>(lN hx (j:=1) I).trans (congrArg some c0)) hS;apply jC [9] hS _;apply pt 10 (i+1) (N+1) (.inr hS);apply jC [11,12,13,14,15,16,17] hS _;apply jz 18 [19,20] (fun wx hx=>(lN hx (j:=1) I).trans (congrArg some c0)) hS;apply pt (hy:=rfl) (hz:=rfl) 19 i N (.inr hS);apply jS 20;obtain⟨g1,v1,e1⟩:=step 2 I I hS;have K1:=uK K0' (fun hk=>hk rfl) ((j5 g0).take (j7 8 (i+1) 2 1)++(List.range (N - i)).map (fun j=>g0 (2+i+j))++(j5 g0).drop (j7 8 (i+1) 2 1+((List.range (N - i)).map (fun j=>g0 (2+i+j))).length)).toArray;have yi:=Jh hS (2+i) (N - i) I;rw[show 2+i=j7 8 i (0+2) 1 by unfold j7;split<;>omega]at yi;apply WL.copyV (vs:=(List.range (N - i)).map (fun j=>g0 (j7 8 i (0+2) 1+j))) rfl rfl rfl rfl rfl rfl rfl hS jM yi (by rw[pM];simp;unfold j7;split<;>omega) (aan _ _ (by unfold j7;split<;>omega));rw[show j7 8 i (0+2) 1=2+i by unfold j7;split<;>omega,bA];generalize u0.setRow b ((j5 g0).take (j7 8 (i+1) 2 1)++(List.range (N - i)).map (fun j=>g0 (2+i+j))++(j5 g0).drop (j7 8 (i+1) 2 1+((List.range (N - i)).map (fun j=>g0 (2+i+j))).length)).toArray=x0 at v1 K1 ⊢;clear hS K0';have c1:g1 1=Iq N:=by rw[e1 1 I,aa I];exact c0
 have o1:∀j,j<28->(g1 j).oneCell'=true:=fun j hj=>by rw[e1 j hj];split<;>exact o0 _ I
 have ZQ:∀yH m',yH+m'<=28->lY ((List.range m').map fun j=>g1 (yH+j)):=fun yH m' hm u hu=>by
  obtain⟨j,hj,rfl⟩:=bD.1 hu;exact o1 _ (by have:=bX.1 hj;omega)
 apply(jZ);apply(jD);apply mA _;refine WC.drawn 20 (fun wx=>U mH wx b (j5 g1)) fun u1 hd=>?_;have hS:=v1.below (hd.below _) v1.lt;have K1':=K1.trans (Z.pU hd (fun x=>x≠b));clear hd v1 K1;apply jC [0,1,2,3,4,5,6,7] hS _;apply jz 8 [9,10,20] (fun wx hx=>(lN hx (j:=1) I).trans (congrArg some c1)) hS;apply jC [9] hS _;apply pt 10 (i+1) (N+1) (.inr hS);apply jC [11,12,13,14,15,16,17] hS _;apply jz 18 [19,20] (fun wx hx=>(lN hx (j:=1) I).trans (congrArg some c1)) hS;apply pt (hy:=rfl) (hz:=rfl) 19 i N (.inr hS);apply jS 20;obtain⟨g2,v2,e2⟩:=step 10 I I hS;have K2:=uK K1' (fun hk=>hk rfl) ((j5 g1).take (j7 8 (i+1) 10 1)++(List.range (N - i)).map (fun j=>g1 (10+i+j))++(j5 g1).drop (j7 8 (i+1) 10 1+((List.range (N - i)).map (fun j=>g1 (10+i+j))).length)).toArray;have Dd:=Jh hS (10+i) (N - i) I;rw[show 10+i=j7 8 i (0+10) 1 by unfold j7;split<;>omega]at Dd;apply WL.copyV (vs:=(List.range (N - i)).map (fun j=>g1 (j7 8 i (0+10) 1+j))) rfl rfl rfl rfl rfl rfl rfl hS jM Dd (by rw[pM];simp;unfold j7;split<;>omega) (ZQ _ _ (by unfold j7;split<;>omega));rw[show j7 8 i (0+10) 1=10+i by unfold j7;split<;>omega,bA];generalize u1.setRow b ((j5 g1).take (j7 8 (i+1) 10 1)++(List.range (N - i)).map (fun j=>g1 (10+i+j))++(j5 g1).drop (j7 8 (i+1) 10 1+((List.range (N - i)).map (fun j=>g1 (10+i+j))).length)).toArray=x1 at v2 K2 ⊢;clear hS K1';have c2:g2 1=Iq N:=by rw[e2 1 I,aa I];exact c1
 have o2:∀j,j<28->(g2 j).oneCell'=true:=fun j hj=>by rw[e2 j hj];split<;>exact o1 _ I
 have aap:∀yH m',yH+m'<=28->lY ((List.range m').map fun j=>g2 (yH+j)):=fun yH m' hm u hu=>by
  obtain⟨j,hj,rfl⟩:=bD.1 hu;exact o2 _ (by have:=bX.1 hj;omega)
 apply(jZ);apply(jD);apply mA _;refine WC.drawn 20 (fun wx=>U mH wx b (j5 g2)) fun u2 hd=>?_;have hS:=v2.below (hd.below _) v2.lt;have K2':=K2.trans (Z.pU hd (fun x=>x≠b));clear hd v2 K2;apply jC [0,1,2,3,4,5,6,7] hS _;apply jz 8 [9,10,20] (fun wx hx=>(lN hx (j:=1) I).trans (congrArg some c2)) hS;apply jC [9] hS _;apply pt 10 (i+1) (N+1) (.inr hS);apply jC [11,12,13,14,15,16,17] hS _;apply jz 18 [19,20] (fun wx hx=>(lN hx (j:=1) I).trans (congrArg some c2)) hS;apply pt (hy:=rfl) (hz:=rfl) 19 i N (.inr hS);apply jS 20;obtain⟨g3,v3,e3⟩:=step 18 I I hS;have K3:=uK K2' (fun hk=>hk rfl) ((j5 g2).take (j7 8 (i+1) 18 1)++(List.range (N - i)).map (fun j=>g2 (18+i+j))++(j5 g2).drop (j7 8 (i+1) 18 1+((List.range (N - i)).map (fun j=>g2 (18+i+j))).length)).toArray;have yb:=Jh hS (18+i) (N - i) I;rw[show 18+i=j7 8 i (0+18) 1 by unfold j7;split<;>omega]at yb;apply WL.copyV (vs:=(List.range (N - i)).map (fun j=>g2 (j7 8 i (0+18) 1+j))) rfl rfl rfl rfl rfl rfl rfl hS jM yb (by rw[pM];simp;unfold j7;split<;>omega) (aap _ _ (by unfold j7;split<;>omega));rw[show j7 8 i (0+18) 1=18+i by unfold j7;split<;>omega,bA];generalize u2.setRow b ((j5 g2).take (j7 8 (i+1) 18 1)++(List.range (N - i)).map (fun j=>g2 (18+i+j))++(j5 g2).drop (j7 8 (i+1) 18 1+((List.range (N - i)).map (fun j=>g2 (18+i+j))).length)).toArray=x2 at v3 K3 ⊢;clear hS K2';have c3:g3 1=Iq N:=by rw[e3 1 I,aa I];exact c2
 have o3:∀j,j<28->(g3 j).oneCell'=true:=fun j hj=>by rw[e3 j hj];split<;>exact o2 _ I
 have aAs:∀yH m',yH+m'<=28->lY ((List.range m').map fun j=>g3 (yH+j)):=fun yH m' hm u hu=>by
  obtain⟨j,hj,rfl⟩:=bD.1 hu;exact o3 _ (by have:=bX.1 hj;omega)
 apply(jZ);apply(jD);apply mA _;refine WC.drawn 20 (fun _=>True) fun u3 hd=>?_;have QM:=v3.below (hd.below _) v3.lt;have K3':=K3.trans (Z.pU hd (fun x=>x≠b));clear hd v3 K3;have hS:True:=trivial;apply jC [0,1,2,3,4,5,6,7,8,9,10] hS _;apply kU 11 i (2+i) (.inr hS);apply jC [13,14,17,18] hS _;apply jS 12;apply WL.store rfl rfl rfl rfl rfl rfl jG (lN QM I) (QM.free _);have v4:=xd QM (2+i) (.string key);have K4:=yW K3' (2+i) (.string key);generalize u3.setCell (Aq b (2+i)) (.string key)=x4 at v4 K4 ⊢;clear QM K3';apply lI hS;apply kU 15 i (10+i) (.inr hS);apply jS 16;apply WL.store rfl rfl rfl rfl rfl rfl jG (lN v4 I) (v4.free _);have v5:=xd v4 (10+i) (Iq n);have K5:=yW K4 (10+i) (Iq n);generalize x4.setCell (Aq b (10+i)) (Iq n)=x5 at v5 K5 ⊢;clear v4 K4;apply lI hS;apply kU 19 i (18+i) (.inr hS);apply jS 20;apply WL.store rfl rfl rfl rfl rfl (EG _) jG (lN v5 I) (v5.free _);have v6:=xd v5 (18+i) (m8 pw);have K6:=yW K5 (18+i) (m8 pw);generalize x5.setCell (Aq b (18+i)) (m8 pw)=x6 at v6 K6 ⊢;clear v5 K5;apply(jZ);apply(jD);have oh:=lN v6 (j:=1) I;simp only[show ¬(1=18+i) by omega,show ¬(1=10+i) by omega,show ¬(1=2+i) by omega,eY]at oh;rw[c3]at oh;apply jF _;apply jT oh (v6.free _);have v7:=xd v6 1 (Iq (N+1));have K7:=yW K6 1 (Iq (N+1));generalize x6.setCell (Aq b 1) (Iq (N+1))=x7 at v7 K7 ⊢;apply G _;refine WQ.GN rfl ⟨rfl,K7,?_⟩;have kF:∀j,j<28->(fun OZ=>if OZ=1 then Iq (N+1) else if OZ=18+i then m8 pw else if OZ=10+i then Iq n else if OZ=2+i then .string key else g3 OZ) j=nS { nd with es:=ins nd.es i ⟨key,n,pw⟩} pv j:=by
  have Xg:∀(off:Nat) (f:Tre.En->Value),(∀q,q<8->g0 (off+q)=f (nd.es.getD q lB))->(∀q,q<8->g3 (off+q)=if off+i+1<=off+q/\off+q<off+N+1 then g0 (off+q - 1) else g0 (off+q))->
    ∀q,q<8->q≠i->g3 (off+q)=f ((ins nd.es i ⟨key,n,pw⟩).getD q lB):=by
   intro off f hf hg q hq hqi;rw[hg q hq,Tz nd.es _ I]
   by_cases h1:q<i
   ·rw[aa I,ag h1,hf q hq]
   ·rw[aa h1,aa hqi]
    by_cases h2:q<=N
    ·rw[ag I,show off+q - 1=off+(q - 1) by omega,hf _ I]
    ·rw[aa I,hf q hq,AM nd.es I,AM nd.es I]
  have hk:∀q,q<8->g0 (2+q)=.string (nd.es.getD q lB).key:=fun q hq=>by rw[<-xC,w_ _ _ hq]
  have hm:∀q,q<8->g0 (10+q)=Iq (nd.es.getD q lB).num:=fun q hq=>by rw[<-xC,AJ _ _ hq]
  have hc:∀q,q<8->g0 (18+q)=m8 (nd.es.getD q lB).pw:=fun q hq=>by rw[<-xC,xk _ _ hq]
  have s1:=Xg 2 (fun e=>.string e.key) hk fun q hq=>by rw[e3 _ I,aa I,e2 _ I,aa I,e1 _ I]
  have s2:=Xg 10 (fun e=>Iq e.num) hm fun q hq=>by
   rw[e3 _ I,aa I,e2 _ I]
   split
   ·rw[e1 _ I,aa I]
   ·rw[e1 _ I,aa I]
  have s3:=Xg 18 (fun e=>m8 e.pw) hc fun q hq=>by
   rw[e3 _ I]
   split
   ·rw[e2 _ I,aa I,e1 _ I,aa I]
   ·rw[e2 _ I,aa I,e1 _ I,aa I]
  have g30:∀j,j<2\/26<=j->j<28->g3 j=g0 j:=fun j h h2=>by rw[e3 _ h2,aa I,e2 _ h2,aa I,e1 _ h2,aa I]
  have Fc:(ins nd.es i ⟨key,n,pw⟩).getD i lB=⟨key,n,pw⟩:=by rw[Tz nd.es _ I,aa I,ag rfl]
  have DS:(ins nd.es i ⟨key,n,pw⟩).length=N+1:=by rw[adA nd.es _ I,hN]
  intro j hj
  show(if j=1 then Value.int IntKind.i64 (N+1) else if j=18+i then m8 pw else if j=10+i then Iq n else if j=2+i then .string key else g3 j)=_
  by_cases j0:j=0
  ·subst j0;rw[aa I,aa I,aa I,aa I,g30 0 I I,<-xC];rfl
  by_cases j1:j=1
  ·subst j1;rw[ag rfl,vE,DS];rfl
  by_cases j2:j<10
  ·obtain⟨q,rfl⟩:∃q,j=2+q:=⟨j - 2,I⟩
   rw[w_ _ _ I,aa j1,aa I,aa I]
   by_cases hq:q=i
   ·subst hq;rw[ag rfl,Fc]
   ·rw[aa I];exact s1 q I hq
  by_cases j3:j<18
  ·obtain⟨q,rfl⟩:∃q,j=10+q:=⟨j - 10,I⟩
   rw[AJ _ _ I,aa j1,aa I]
   by_cases hq:q=i
   ·subst hq;rw[ag rfl,Fc]
   ·rw[aa I,aa I];exact s2 q I hq
  by_cases j4:j<26
  ·obtain⟨q,rfl⟩:∃q,j=18+q:=⟨j - 18,I⟩
   rw[xk _ _ I,aa j1]
   by_cases hq:q=i
   ·subst hq;rw[ag rfl,Fc]
   ·rw[aa I,aa I,aa I];exact s3 q I hq
  ·rw[aa j1,aa I,aa I,aa I,g30 j I hj,<-xC]
   unfold nS;rw[aa j0,aa j1,aa j2,aa j3,aa j4,aa j0,aa j1,aa j2,aa j3,aa j4]
 rw[<-wJ kF];exact v7
open Tre
theorem AK {nd:Nd}{pv:Option Nat}(hb:U mH w b (j5 (nS nd pv)))(hi:i<nd.es.length)(hn:nd.es.length<=8):
  Calls prog 128 #[jV b,Iq i] w fun e w'=>e=.returned (.tuple #[])/\Z (fun x=>x≠b) w w'/\U mH w' b (j5 (nS { nd with es:=era nd.es i } pv)):=by
 apply kq func128 ntmps128;obtain⟨g0,xC⟩:∃g0,nS nd pv=g0:=⟨_,rfl⟩;obtain⟨N,hN⟩:∃N,nd.es.length=N:=⟨_,rfl⟩;rw[xC]at hb;rw[hN]at hi hn;have c0:g0 1=Iq N:=by rw[<-xC,vE,hN]
 have step:∀ {wx:World}{g:Nat->Value}(off:Nat),2<=off->off+8<=26->U mH wx b (j5 g)->∃g',U mH (wx.setRow b ((j5 g).take (j7 8 i (0+off) 1)++(List.range (N - (i+1))).map (fun j=>g (j7 8 (i+1) (0+off) 1+j))++(j5 g).drop (j7 8 i (0+off) 1+((List.range (N - (i+1))).map (fun j=>g (j7 8 (i+1) (0+off) 1+j))).length)).toArray) b (j5 g')/\
   ∀j,j<28->g' j=if off+i<=j/\j+1<off+N then g (j+1) else g j:=by
  intro wx g off h1 h2 hv;have e1:j7 8 i (0+off) 1=off+i:=by unfold j7;split<;>omega
  rw[JR g _ _ _ (by rw[e1];omega),e1];refine⟨_,hv.setRow _,fun j hj=>?_⟩
  by_cases e:8=i+1
  ·rw[aa I,aa I]
  ·rw[show j7 8 (i+1) (0+off) 1=off+i+1 by unfold j7;split<;>omega]
   by_cases c:off+i<=j/\j+1<off+N
   ·rw[ag I,ag c]
    congr 1
    omega
   ·rw[aa I,aa c]
 have o0:∀j,j<28->(g0 j).oneCell'=true:=fun j _=>by rw[<-xC];exact Tf _ _ _
 have K0:=Z.refl (fun x=>x≠b) w;apply mA _;refine WC.drawn 15 (fun wx=>U mH wx b (j5 g0)) fun u0 hd=>?_;have hS:=hb.below (hd.below _) hb.lt;have K0':=K0.trans (Z.pU hd (fun x=>x≠b));clear hd hb K0;apply jC [0,1,2,3] hS _;apply WD.ahf 4 i rfl jG rfl rfl (fun _ _ _ _ _ h=>h) rfl rfl rfl rfl rfl rfl I (.inr hS);apply jC [5,6,7,8,9,10,11,12] hS _;apply jz 13 [14,15] (fun wx hx=>(lN hx (j:=1) I).trans (congrArg some c0)) hS;apply pt 14 (i+1) N (.inr hS);apply jS 15;obtain⟨g1,v1,e1⟩:=step 2 I I hS;have K1:=uK K0' (fun hk=>hk rfl) ((j5 g0).take (j7 8 i (0+2) 1)++(List.range (N - (i+1))).map (fun j=>g0 (j7 8 (i+1) (0+2) 1+j))++(j5 g0).drop (j7 8 i (0+2) 1+((List.range (N - (i+1))).map (fun j=>g0 (j7 8 (i+1) (0+2) 1+j))).length)).toArray;have aan:lY ((List.range (N - (i+1))).map fun j=>g0 (j7 8 (i+1) (0+2) 1+j)):=fun u hu=>by
  obtain⟨j,hj,rfl⟩:=bD.1 hu;exact o0 _ (by have:=bX.1 hj;unfold j7;split<;>omega)
 have yi:=Jh hS (j7 8 (i+1) (0+2) 1) (N - (i+1)) (by unfold j7;split<;>omega);apply WL.copyV (vs:=(List.range (N - (i+1))).map (fun j=>g0 (j7 8 (i+1) (0+2) 1+j))) rfl rfl rfl rfl rfl rfl rfl hS (by simp;omega) yi (by rw[pM];simp;unfold j7;split<;>omega) aan;generalize u0.setRow b ((j5 g0).take (j7 8 i (0+2) 1)++(List.range (N - (i+1))).map (fun j=>g0 (j7 8 (i+1) (0+2) 1+j))++(j5 g0).drop (j7 8 i (0+2) 1+((List.range (N - (i+1))).map (fun j=>g0 (j7 8 (i+1) (0+2) 1+j))).length)).toArray=x0 at v1 K1 ⊢;clear hS K0' yi aan;have c1:g1 1=Iq N:=by rw[e1 1 I,aa I];exact c0
 have o1:∀j,j<28->(g1 j).oneCell'=true:=fun j hj=>by rw[e1 j hj];split<;>exact o0 _ I
 apply(jZ);apply(jD);apply mA _;refine WC.drawn 15 (fun wx=>U mH wx b (j5 g1)) fun u1 hd=>?_;have hS:=v1.below (hd.below _) v1.lt;have K1':=K1.trans (Z.pU hd (fun x=>x≠b));clear hd v1 K1;apply jC [0,1,2,3] hS _;apply WD.ahf 4 i rfl jG rfl rfl (fun _ _ _ _ _ h=>h) rfl rfl rfl rfl rfl rfl I (.inr hS);apply jC [5,6,7,8,9,10,11,12] hS _;apply jz 13 [14,15] (fun wx hx=>(lN hx (j:=1) I).trans (congrArg some c1)) hS;apply pt 14 (i+1) N (.inr hS);apply jS 15;obtain⟨g2,v2,e2⟩:=step 10 I I hS;have K2:=uK K1' (fun hk=>hk rfl) ((j5 g1).take (j7 8 i (0+10) 1)++(List.range (N - (i+1))).map (fun j=>g1 (j7 8 (i+1) (0+10) 1+j))++(j5 g1).drop (j7 8 i (0+10) 1+((List.range (N - (i+1))).map (fun j=>g1 (j7 8 (i+1) (0+10) 1+j))).length)).toArray;have ZQ:lY ((List.range (N - (i+1))).map fun j=>g1 (j7 8 (i+1) (0+10) 1+j)):=fun u hu=>by
  obtain⟨j,hj,rfl⟩:=bD.1 hu;exact o1 _ (by have:=bX.1 hj;unfold j7;split<;>omega)
 have Dd:=Jh hS (j7 8 (i+1) (0+10) 1) (N - (i+1)) (by unfold j7;split<;>omega);apply WL.copyV (vs:=(List.range (N - (i+1))).map (fun j=>g1 (j7 8 (i+1) (0+10) 1+j))) rfl rfl rfl rfl rfl rfl rfl hS (by simp;omega) Dd (by rw[pM];simp;unfold j7;split<;>omega) ZQ;generalize u1.setRow b ((j5 g1).take (j7 8 i (0+10) 1)++(List.range (N - (i+1))).map (fun j=>g1 (j7 8 (i+1) (0+10) 1+j))++(j5 g1).drop (j7 8 i (0+10) 1+((List.range (N - (i+1))).map (fun j=>g1 (j7 8 (i+1) (0+10) 1+j))).length)).toArray=x1 at v2 K2 ⊢;clear hS K1' Dd ZQ;have c2:g2 1=Iq N:=by rw[e2 1 I,aa I];exact c1
 have o2:∀j,j<28->(g2 j).oneCell'=true:=fun j hj=>by rw[e2 j hj];split<;>exact o1 _ I
 apply(jZ);apply(jD);apply mA _;refine WC.drawn 15 (fun wx=>U mH wx b (j5 g2)) fun u2 hd=>?_;have hS:=v2.below (hd.below _) v2.lt;have K2':=K2.trans (Z.pU hd (fun x=>x≠b));clear hd v2 K2;apply jC [0,1,2,3] hS _;apply WD.ahf 4 i rfl jG rfl rfl (fun _ _ _ _ _ h=>h) rfl rfl rfl rfl rfl rfl I (.inr hS);apply jC [5,6,7,8,9,10,11,12] hS _;apply jz 13 [14,15] (fun wx hx=>(lN hx (j:=1) I).trans (congrArg some c2)) hS;apply pt 14 (i+1) N (.inr hS);apply jS 15;obtain⟨g3,v3,e3⟩:=step 18 I I hS;have K3:=uK K2' (fun hk=>hk rfl) ((j5 g2).take (j7 8 i (0+18) 1)++(List.range (N - (i+1))).map (fun j=>g2 (j7 8 (i+1) (0+18) 1+j))++(j5 g2).drop (j7 8 i (0+18) 1+((List.range (N - (i+1))).map (fun j=>g2 (j7 8 (i+1) (0+18) 1+j))).length)).toArray;have aap:lY ((List.range (N - (i+1))).map fun j=>g2 (j7 8 (i+1) (0+18) 1+j)):=fun u hu=>by
  obtain⟨j,hj,rfl⟩:=bD.1 hu;exact o2 _ (by have:=bX.1 hj;unfold j7;split<;>omega)
 have yb:=Jh hS (j7 8 (i+1) (0+18) 1) (N - (i+1)) (by unfold j7;split<;>omega);apply WL.copyV (vs:=(List.range (N - (i+1))).map (fun j=>g2 (j7 8 (i+1) (0+18) 1+j))) rfl rfl rfl rfl rfl rfl rfl hS (by simp;omega) yb (by rw[pM];simp;unfold j7;split<;>omega) aap;generalize u2.setRow b ((j5 g2).take (j7 8 i (0+18) 1)++(List.range (N - (i+1))).map (fun j=>g2 (j7 8 (i+1) (0+18) 1+j))++(j5 g2).drop (j7 8 i (0+18) 1+((List.range (N - (i+1))).map (fun j=>g2 (j7 8 (i+1) (0+18) 1+j))).length)).toArray=x2 at v3 K3 ⊢;clear hS K2' yb aap;have c3:g3 1=Iq N:=by rw[e3 1 I,aa I];exact c2
 have o3:∀j,j<28->(g3 j).oneCell'=true:=fun j hj=>by rw[e3 j hj];split<;>exact o2 _ I
 apply(jZ);apply(jD);apply mA _;have De:=lN v3 (j:=1) I;rw[c3]at De;apply jF _;apply jT De (v3.free _);have v4:=xd v3 1 (Iq ((N:Int) - 1));have K4:=yW K3 1 (Iq ((N:Int) - 1));generalize x2.setCell (Aq b 1) (Iq ((N:Int) - 1))=x4 at v4 K4 ⊢;clear De v3 K3;obtain⟨M,rfl⟩:∃M,N=M+1:=⟨N - 1,I⟩;rw[show(((M+1:Nat):Int) - 1)=(M:Int) by omega]at v4;obtain⟨g4,qF⟩:∃g4:Nat->Value,g4=fun i=>if i=1 then Iq M else g3 i:=⟨_,rfl⟩
 rw[<-qF]at v4;have c4:g4 1=Iq M:=by rw[qF];rfl
 apply mA _;refine WC.drawn 26 (fun wx=>wx.cell? (Aq b 1)=some (Iq M)) fun u4 hd=>?_;have v5:=v4.below (hd.below _) v4.lt;have K5:=K4.trans (Z.pU hd (fun x=>x≠b));have hS:u4.cell? (Aq b 1)=some (Iq M):=(lN v5 (j:=1) I).trans (congrArg some c4);clear hd v4 K4;apply jC [0,1,2,3] hS _;apply jz 4 [17,18,21,22,25,26] (fun wx hx=>hx) hS;apply jC [5,6,7,8] hS _;apply jz 9 [17,18,21,22,25,26] (fun wx hx=>hx) hS;apply jC [10,11,12,13] hS _;apply jz 14 [17,18,21,22,25,26] (fun wx hx=>hx) hS;apply jC [15,16,19,20,23,24] hS _;apply kU 17 M (2+M) (.inr hS);apply jS 18;apply WL.store rfl rfl rfl rfl rfl rfl jG (lN v5 I) (v5.free _);have v6:=xd v5 (2+M) (.string ⟨#[]⟩);have K6:=yW K5 (2+M) (.string ⟨#[]⟩);generalize u4.setCell (Aq b (2+M)) (.string ⟨#[]⟩)=x6 at v6 K6 ⊢;replace hS:x6.cell? (Aq b 1)=some (Iq M):=(lN v6 (j:=1) I).trans (congrArg some ((aa I).trans c4));clear v5 K5;apply lI hS;apply kU 21 M (10+M) (.inr hS);apply jS 22;apply WL.store rfl rfl rfl rfl rfl rfl jG (lN v6 I) (v6.free _);have v7:=xd v6 (10+M) (Iq 0);have K7:=yW K6 (10+M) (Iq 0);generalize x6.setCell (Aq b (10+M)) (Iq 0)=x7 at v7 K7 ⊢;replace hS:x7.cell? (Aq b 1)=some (Iq M):=(lN v7 (j:=1) I).trans (congrArg some ((aa I).trans ((aa I).trans c4)));clear v6 K6;apply lI hS;apply kU 25 M (18+M) (.inr hS);apply jS 26;apply WL.store rfl rfl rfl rfl rfl rfl jG (lN v7 I) (v7.free _);have v8:=xd v7 (18+M) (.pointer none);have K8:=yW K7 (18+M) (.pointer none);generalize x7.setCell (Aq b (18+M)) (.pointer none)=x8 at v8 K8 ⊢;clear v7 K7;apply(jZ);apply(jD);apply G _;refine WQ.GN rfl ⟨rfl,K8,?_⟩;have kF:∀j,j<28->(fun OZ=>if OZ=18+M then Value.pointer none else if OZ=10+M then Iq 0 else if OZ=2+M then .string ⟨#[]⟩ else g4 OZ) j=nS { nd with es:=era nd.es i } pv j:=by
  have DS:(era nd.es i).length=M:=by have:=ahs nd.es (i:=i) I;omega
  have Xg:∀(off:Nat) (f:Tre.En->Value),(∀q,q<8->g0 (off+q)=f (nd.es.getD q lB))->(∀q,q<8->g3 (off+q)=if off+i<=off+q/\off+q+1<off+(M+1) then g0 (off+q+1) else g0 (off+q))->
    ∀q,q<8->q≠M->g3 (off+q)=f ((era nd.es i).getD q lB):=by
   intro off f hf hg q hq hqm;rw[hg q hq]
   by_cases h0:q<M
   ·rw[af9 nd.es I]
    by_cases h1:q<i
    ·rw[aa I,ag h1,hf q hq]
    ·rw[ag I,aa h1,gm,hf _ I]
   ·rw[aa I,hf q hq,AM nd.es I,AM (era nd.es i) I]
  have hk:∀q,q<8->g0 (2+q)=.string (nd.es.getD q lB).key:=fun q hq=>by rw[<-xC,w_ _ _ hq]
  have hm:∀q,q<8->g0 (10+q)=Iq (nd.es.getD q lB).num:=fun q hq=>by rw[<-xC,AJ _ _ hq]
  have hc:∀q,q<8->g0 (18+q)=m8 (nd.es.getD q lB).pw:=fun q hq=>by rw[<-xC,xk _ _ hq]
  have s1:=Xg 2 (fun e=>.string e.key) hk fun q hq=>by rw[e3 _ I,aa I,e2 _ I,aa I,e1 _ I]
  have s2:=Xg 10 (fun e=>Iq e.num) hm fun q hq=>by
   rw[e3 _ I,aa I,e2 _ I]
   split
   ·rw[e1 _ I,aa I]
   ·rw[e1 _ I,aa I]
  have s3:=Xg 18 (fun e=>m8 e.pw) hc fun q hq=>by
   rw[e3 _ I]
   split
   ·rw[e2 _ I,aa I,e1 _ I,aa I]
   ·rw[e2 _ I,aa I,e1 _ I,aa I]
  have g30:∀j,j<2\/26<=j->j<28->g3 j=g0 j:=fun j h h2=>by rw[e3 _ h2,aa I,e2 _ h2,aa I,e1 _ h2,aa I]
  have aht:(era nd.es i).getD M lB=lB:=AM _ I;have g4n:∀j,j≠1->g4 j=g3 j:=fun j h=>by rw[qF];exact aa h
  intro j hj
  show(if j=18+M then Value.pointer none else if j=10+M then Iq 0 else if j=2+M then .string ⟨#[]⟩ else g4 j)=_
  by_cases j0:j=0
  ·subst j0;rw[aa I,aa I,aa I,g4n _ I,g30 0 I I,<-xC];rfl
  by_cases j1:j=1
  ·subst j1;rw[aa I,aa I,aa I,c4,vE,DS]
  by_cases j2:j<10
  ·obtain⟨q,rfl⟩:∃q,j=2+q:=⟨j - 2,I⟩
   rw[w_ _ _ I,aa I,aa I]
   by_cases hq:q=M
   ·subst hq;rw[ag rfl];simp only;rw[aht];rfl
   ·rw[aa I,g4n _ j1];exact s1 q I hq
  by_cases j3:j<18
  ·obtain⟨q,rfl⟩:∃q,j=10+q:=⟨j - 10,I⟩
   rw[AJ _ _ I,aa I]
   by_cases hq:q=M
   ·subst hq;rw[ag rfl];simp only;rw[aht];rfl
   ·rw[aa I,aa I,g4n _ j1];exact s2 q I hq
  by_cases j4:j<26
  ·obtain⟨q,rfl⟩:∃q,j=18+q:=⟨j - 18,I⟩
   rw[xk _ _ I]
   by_cases hq:q=M
   ·subst hq;rw[ag rfl];simp only;rw[aht];rfl
   ·rw[aa I,aa I,aa I,g4n _ j1];exact s3 q I hq
  ·rw[aa I,aa I,aa I,g4n _ j1,g30 j I hj,<-xC]
   unfold nS;rw[aa j0,aa j1,aa j2,aa j3,aa j4,aa j0,aa j1,aa j2,aa j3,aa j4]
 rw[<-wJ kF];exact v8
open Tre
theorem BC (es:List Tre.En)(j:Nat): (es.map En.key).getD j ByteArray.empty=(es.getD j lB).key:=by
 simp only[ah,cX];cases es[j]?<;>rfl
theorem WQ.as {n:K.NN}{l:Env}{e:Exit}(k:Nat)(v':Value){v:Value}(hk:look l k=some v)(h0:v=v')(h:WQ n Q e ((k,v')::l) w): WQ n Q e l w :=
 ⟨fun a ha=>h.go a ⟨ha.size,ha.defers,fun j u hj=>by
  unfold look at hj;cases hb:Nat.beq k j with
  | true=>
   rw[hb]at hj;obtain rfl:k=j:=bW hb;obtain rfl:v'=u:=az hj;subst h0;exact ha.slot _ _ hk
  | false=>rw[hb]at hj;exact ha.slot _ _ hj⟩⟩
theorem Lk {nd:Nd}{pv:Option Nat}{key:lD}(hb:U mH w b (j5 (nS nd pv)))(hn:nd.es.length<=8):
  Calls prog 94 #[jV b,.string key] w fun e w'=>e=.returned (Iq (plc key (nd.es.map En.key):Nat))/\w'=w:=by
 apply kq func94 ntmps94;obtain⟨N,hN⟩:∃N,nd.es.length=N:=⟨_,rfl⟩;have hc:=lN hb (j:=1) I;rw[vE,hN]at hc;have hk:∀i,i<8->w.cell? (Aq b (2+i))=some (.string (nd.es.getD i lB).key):=fun i hi=>by rw[lN hb I,w_ _ _ hi]
 rw[hN]at hn;apply G _;apply WC.loop (fun i:Nat=>[(0,jV b),(1,.string key),(5,Iq i)]) (fun i w'=>w'=w/\i<=N/\∀j,j<i->kl (nd.es.getD j lB).key key=true) (fun i=>N - i) 0 kz ⟨rfl,ay _,fun j hj=>absurd hj I⟩;rintro i _ ⟨rfl,hi,j6⟩
 by_cases hiN:i<N
 ·apply jF _
  apply mg i (2+i);apply(jX);apply Y (hk i I);apply G _;cases hq:Op.bytesLess (nd.es.getD i lB).key.toList key.toList with
  | true=>
   apply G _;exact WQ.again (i+1) kz ⟨rfl,hiN,fun j hj=>by
    rcases aW j i with h|h
    ·exact j6 j h
    ·obtain rfl:j=i:=I
     exact hq⟩ (by show N - (i+1)<N - i;omega)
  | false=>
   apply G _;refine J ⟨?_,rfl⟩;rw[Rz (i:=i) (by simp[hN];omega) (fun j hj=>by rw[BC];exact j6 j hj) (fun _=>by rw[BC];exact hq)]
 ·obtain rfl:i=N:=I
  apply jF _;refine J ⟨?_,rfl⟩;rw[Rz (i:=i) (by simp[hN]) (fun j hj=>by rw[BC];exact j6 j hj) (fun h=>by simp[hN]at h)]
theorem HQ {nd:Nd}{pv:Option Nat}{key:lD}(hb:U mH w b (j5 (nS nd pv)))(hn:nd.es.length<=8)(h1:1<=nd.es.length):
  Calls prog 93 #[jV b,.string key] w fun e w'=>e=.returned (Iq (AU key (nd.es.map En.key) (nd.es.length - 1):Nat))/\w'=w:=by
 apply kq func93 ntmps93;obtain⟨N,hN⟩:∃N,nd.es.length=N+1:=⟨nd.es.length - 1,I⟩;have hc:=lN hb (j:=1) I;rw[vE,hN]at hc;have hk:∀i,i<8->w.cell? (Aq b (2+i))=some (.string (nd.es.getD i lB).key):=fun i hi=>by rw[lN hb I,w_ _ _ hi]
 rw[hN]at hn ⊢;rw[Nat.add_sub_cancel];obtain⟨R,hR⟩:∃R,AU key (nd.es.map En.key) N=R:=⟨_,rfl⟩;rw[hR];have hw0:((N+1:Nat):Int) - 1=N:=I;apply jF _;apply WC.as 5 (Iq N) rfl (congrArg (Value.int .i64) hw0);apply WC.loop (fun i:Nat=>[(0,jV b),(1,.string key),(5,Iq i)]) (fun i w'=>w'=w/\i<=N/\AU key (nd.es.map En.key) i=R) (fun i=>i) N kz ⟨rfl,aj _,hR⟩;rintro i _ ⟨rfl,hi,hg⟩;cases i with
 | zero=>
  subst hg;apply G _;exact J ⟨rfl,rfl⟩
 | succ i=>
  have nH:((i+1:Nat):Int) - 1=i:=I;have hs:(if kl key ((nd.es.map En.key).getD (i+1) ByteArray.empty) then AU key (nd.es.map En.key) i else i+1)=R:=hg;rw[BC]at hs;unfold kl at hs;apply G _;apply mg (i+1) (2+(i+1));apply(jX);apply Y (hk (i+1) I);apply G _;cases hq:Op.bytesLess key.toList (nd.es.getD (i+1) lB).key.toList with
  | true=>
   rw[hq]at hs;apply G _;apply WQ.as 5 (Iq i) rfl (congrArg (Value.int .i64) nH);exact WQ.again i kz ⟨rfl,I,hs⟩ (by show i<i+1;omega)
  | false=>
   rw[hq]at hs;simp only[gQ,eY]at hs;subst hs;apply G _;exact J ⟨rfl,rfl⟩
theorem Uc (es:List Tre.En)(e:Tre.En): ins es es.length e=es++[e]:=by unfold ins;rw[aN,ey]
theorem VV (es:List Tre.En){n:Nat}(h:es.length=n+1): era es n=es.take n:=by unfold era;rw[cD I,aP]
theorem Nb (es:List Tre.En)(h:i<es.length): (⟨(es.getD i lB).key,(es.getD i lB).num,(es.getD i lB).pw⟩:Tre.En)=es[i]:=by simp[h]
theorem Mj {f:Nat}{nb nc:Nd}(hb:U mH w b (j5 (nS nb pb)))(hc:U mH w c (j5 (nS nc pc)))(FK:b≠c)(hf:f<=nb.es.length)(h8:nb.es.length<=8)(hr:nc.es.length+(nb.es.length - f)<=8):
  Calls prog 127 #[jV b,Iq f,jV c] w fun e w'=>e=.returned (.tuple #[])/\Z (fun x=>x≠b/\x≠c) w w'/\U mH w' b (j5 (nS { nb with es:=nb.es.take f } pb))/\U mH w' c (j5 (nS { nc with es:=nc.es++nb.es.drop f } pc)):=by
 apply kq func127 ntmps127;obtain⟨N,hN⟩:∃N,nb.es.length=N:=⟨_,rfl⟩;rw[hN]at hf h8 hr;apply ur _;apply WC.block;refine WC.loop (fun i:Nat=>[(0,jV b),(1,Iq f),(2,jV c),(6,Iq i)])
  (fun i w'=>f<=i/\i<=N/\Z (fun x=>x≠b/\x≠c) w w'/\U mH w' b (j5 (nS nb pb))/\U mH w' c (j5 (nS { nc with es:=nc.es++(nb.es.drop f).take (i - f)} pc))) (fun i=>N - i) f kz
  ⟨aj _,hf,Z.refl _ _,hb,by simpa using hc⟩ ?_
 rintro i wr ⟨Hy,hiN,hk,Gl,wC⟩;have NJ:=lN Gl (j:=1) I;rw[vE,hN]at NJ
 by_cases j6:i<N
 ·apply jF _
  obtain⟨Ot,FW⟩:∃Ot,nc.es++(nb.es.drop f).take (i - f)=Ot:=⟨_,rfl⟩;have sL:Ot.length=nc.es.length+(i - f):=by rw[<-FW];simp only[af,aC,aQ];omega
  rw[FW]at wC;refine WC.drawn 23 (fun wx=>U mH wx b (j5 (nS nb pb))/\U mH wx c (j5 (nS { nc with es:=Ot } pc))) fun w2 hd=>?_;have hS:U mH w2 b (j5 (nS nb pb))/\U mH w2 c (j5 (nS { nc with es:=Ot } pc)):=⟨Gl.below (hd.below _) Gl.lt,wC.below (hd.below _) wC.lt⟩;have mW:=hk.trans (Z.pU hd _);apply jC [0,1,2,3] hS _;apply jz 4 [23] (fun wx hx=>lN hx.2 (j:=1) I) hS;apply jC [5,6,7,8] hS _;apply kU 9 i (2+i) (.inr hS);apply L3 10 [23] rfl rfl rfl rfl rfl rfl rfl (fun wx hx=>(lN hx.1 I).trans (congrArg some (w_ _ _ I))) hS;apply jC [11,12,13,14] hS _;apply kU 15 i (10+i) (.inr hS);apply L3 16 [23] rfl rfl rfl rfl rfl rfl rfl (fun wx hx=>(lN hx.1 I).trans (congrArg some (AJ _ _ I))) hS;apply jC [17,18,19,20] hS _;apply kU 21 i (18+i) (.inr hS);apply L3 22 [23] rfl rfl rfl rfl rfl rfl rfl (fun wx hx=>(lN hx.1 I).trans (congrArg some (xk _ _ I))) hS;apply jS 23;apply kH iZ (uH (i:=Ot.length) hS.2 (aj _) (by show Ot.length<8;omega));rintro w3 ⟨oN,rI⟩
  apply(jZ);apply(jD);apply G _;refine WQ.again (i+1) kz ⟨I,j6,mW.trans (oN.mono fun x hx=>hx.2),hS.1.jA oN FK,?_⟩ (by show N - (i+1)<N - i;omega);have e5:ins Ot Ot.length ⟨(nb.es.getD i lB).key,(nb.es.getD i lB).num,(nb.es.getD i lB).pw⟩=nc.es++(nb.es.drop f).take (i+1 - f):=by
   rw[Uc,Nb _ I,<-FW,av]
   congr 1
   rw[show i+1 - f=(i - f)+1 by omega,aK,dJ,show f+(i - f)=i by omega,ai I]
   rfl
  simp only at rI;rw[e5]at rI;exact rI
 ·obtain rfl:i=N:=I
  rw[bg (by rw[aQ];omega)]at wC;apply ur _;apply WC.block;refine WC.loop (fun j:Nat=>[(0,jV b),(1,Iq f)])
   (fun j w'=>f<=j/\j<=i/\Z (fun x=>x≠b/\x≠c) w w'/\U mH w' b (j5 (nS { nb with es:=nb.es.take j } pb))/\U mH w' c (j5 (nS { nc with es:=nc.es++nb.es.drop f } pc))) (fun j=>j) i kz
   ⟨hf,aj _,hk,by rw[bg I];exact Gl,wC⟩ ?_
  rintro j wq ⟨hfj,B7,Sg,agZ,akS⟩;have ae3:=lN agZ (j:=1) I;have hlj:(nb.es.take j).length=j:=by rw[aC];omega
  rw[vE]at ae3;simp only[hlj]at ae3
  by_cases hjf:f<j
  ·obtain⟨j',rfl⟩:∃j',j=j'+1:=⟨j - 1,I⟩
   have nH:((j'+1:Nat):Int) - 1=j':=I;apply jF _;apply WL.as 51 (Iq j') rfl (congrArg (Value.int .i64) nH);apply kH func128 (AK (i:=j') agZ (by show j'<(nb.es.take (j'+1)).length;omega) (by show(nb.es.take (j'+1)).length<=8;omega));rintro w3 ⟨oN,rI⟩
   apply G _;refine WQ.again j' kz ⟨I,I,Sg.trans (oN.mono fun x hx=>hx.1),?_,akS.jA oN FK.symm⟩ (by show j'<j'+1;omega);simp only at rI;rw[VV _ hlj,List.take_take,show min j' (j'+1)=j' by omega]at rI;exact rI
  ·obtain rfl:j=f:=I
   apply jF _;exact WQ.GN rfl ⟨rfl,Sg,agZ,akS⟩
open Tre
abbrev mT:Nat:=165
theorem JU (lf:Bool): prog.built mH [(0,.bool lf)]=some (j5 (nS ⟨lf,[],none⟩ none)).toArray:=by cases lf<;>kernel_rfl
theorem IF (nd:Nd)(pv x:Option Nat): j5 (fun i=>if i=26 then m8 x else nS nd pv i)=j5 (nS { nd with next:=x } pv):=wJ fun j hj=>by
 by_cases h:j=26
 ·subst h;rfl
 ·show(if j=26 then _ else _)=_
  rw[aa h];unfold nS;simp only[h,eY]
theorem PQ (nd:Nd)(pv x:Option Nat): j5 (fun i=>if i=27 then m8 x else nS nd pv i)=j5 (nS nd x):=wJ fun j hj=>by
 by_cases h:j=27
 ·subst h;rfl
 ·show(if j=27 then _ else _)=_
  rw[aa h];unfold nS
  by_cases h2:j=26
  ·subst h2;rfl
  ·simp only[h2,eY]
   repeat' split
   all_goals first|rfl|omega
theorem Mem.Um {st:St}(h:Mem w st)(hq:st q≠none)(x:Option Nat): Mem (w.setCell (Aq q 27) (m8 x)) st:=fun b nd e=>by
 obtain⟨h1,pv,h2⟩:=h b nd e
 by_cases hb:b=q
 ·subst hb
  refine⟨h1,x,?_⟩;have:=xd h2 27 (m8 x)
  rwa [PQ]at this
 ·exact⟨h1,pv,h2.jA ((Z.refl (fun y=>y≠q) w).setCell (fun hk=>hk rfl) _) hb⟩
theorem Mem.ak8 {st:St}{nb ng:Nd}{pg:Option Nat}(h:Mem w st)(hk:Z (fun x=>x<w.heap.size/\x≠b) w w')(uR:nb.es.length<=8)(RT:ng.es.length<=8)(hb:U mH w' b (j5 (nS nb pb)))(hg:U mH w' g (j5 (nS ng pg))):
  Mem w' (Tre.ml (Tre.ml st b nb) g ng):=fun x nd e=>by
 by_cases hx:x=g
 ·subst hx;rw[ny]at e;obtain rfl:=az e;exact⟨RT,pg,hg⟩
 ·rw[kD hx]at e
  by_cases EP:x=b
  ·subst EP;rw[ny]at e;obtain rfl:=az e;exact⟨uR,pb,hb⟩
  ·rw[kD EP]at e
   obtain⟨h1,pv,h2⟩:=h x nd e;exact⟨h1,pv,h2.jA hk ⟨h2.lt,EP⟩⟩
def uL (st:St)(tb:Nat)(w:World):Nat->Prop:=fun x=>x<w.heap.size/\st x=none/\x≠tb
def oL (root:Option Nat)(size nodes:Nat):kL:=[m8 root,Iq size,Iq nodes]
theorem Mf {st:St}{nd:Nd}{n:Nat}(hm:Mem w st)(hb:st b=some nd)(h8:nd.es.length=8)(xq:∀q,nd.next=some q->st q≠none)(OP:nd.leaf=false->nd.next=none)(ht:U mT w tb (oL root size n))(tR:st tb=none)(hn:n<4611686018427387904):
  Calls prog 92 #[.pointer (some ⟨tb,0,none⟩),.pointer (some ⟨b,0,none⟩)] w fun e w'=>∃g,e=.returned (.pointer (some ⟨g,0,none⟩))/\w.heap.size<=g/\
   Mem w' (ml (ml st b ⟨nd.leaf,nd.es.take 4,if nd.leaf then some g else none⟩) g ⟨nd.leaf,nd.es.drop 4,nd.next⟩)/\U mT w' tb (oL root size (n+1))/\Z (uL st tb w) w w':=by
 apply kq func92 ntmps92;have xg:b≠tb:=fun e=>by rw[e,tR]at hb;cases hb
 obtain⟨-,pb,vb⟩:=hm b nd hb;have EJ:w.cell? ⟨b,0,none⟩=some (.bool nd.leaf):=lN vb (by omega);apply jF _;refine WL.build (j5 (nS ⟨nd.leaf,[],none⟩ none)) rfl rfl rfl rfl rfl (JU _) ?_;refine jO fun g w1 MY=>?_;have hf:kJ w g w1 mH (j5 (nS ⟨nd.leaf,[],none⟩ none)):=MY;clear MY EJ;have SY:=hf.eq;have vb1:=vb.below hf.below vb.lt;have vt1:=ht.below hf.below ht.lt;have vg1:=hf.blk;have hbg:b≠g:=by have:=vb.lt;omega
 have htg:tb≠g:=by have:=ht.lt;omega
 have K1:Z (fun x=>x<w.heap.size/\x≠b) w w1:=(Z.jw hf.below).mono fun x hx=>hx.1;have KT1:Z (fun x=>x<w.heap.size/\st x=none) w w1:=(Z.jw hf.below).mono fun x hx=>hx.1;clear hf vb;apply G _;apply kH func127 (Mj (f:=4) vb1 vg1 hbg I I (by show([]:List Tre.En).length+(nd.es.length - 4)<=8;simp;omega));rintro w2 ⟨mW,Ja,Uu⟩
 simp only[aT]at Uu;have vt2:=vt1.jA mW ⟨xg.symm,htg⟩;have K2:=K1.trans (mW.mono fun x hx=>⟨hx.2,by omega⟩);have KT2:Z (fun x=>x<w.heap.size/\st x=none/\x≠b) w w2:=(KT1.mono fun x hx=>⟨hx.1,hx.2.1⟩).trans (mW.mono fun x hx=>⟨hx.2.2,by omega⟩);clear mW vb1 vg1 vt1 K1 KT1;have sL:w2.cell? ⟨b,0,none⟩=some (.bool nd.leaf):=lN Ja (by omega);have EP:w2.cell? ⟨b,26,none⟩=some (m8 nd.next):=lN Ja (by omega)
 -- the end: one more node
 have fin:∀ {wz:World},U mT wz tb (oL root size n)->U mT (wz.setCell ⟨tb,2,none⟩ (.int .i64 ((n:Int)+1))) tb (oL root size (n+1)):=fun h=>h.set 2 _;cases WN:nd.leaf with
 | false=>
  rw[WN]at sL Ja Uu;have G_:=OP WN;have M2:Mem w2 (ml (ml st b ⟨false,nd.es.take 4,none⟩) g ⟨false,nd.es.drop 4,nd.next⟩):=by
   rw[G_]at Ja ⊢;exact hm.ak8 K2 (by simp;omega) (by simp;omega) Ja Uu
  have rE:w2.cell? ⟨tb,2,none⟩=some (.int .i64 n):=vt2.cell 2 (by simp[oL]);apply jF _;apply jT rE (vt2.free 2);have vt3:=fin vt2;have M3:Mem (w2.setCell ⟨tb,2,none⟩ (.int .i64 ((n:Int)+1))) _:=M2.jA ((Z.refl (fun y=>y≠tb) w2).setCell (fun hk=>hk rfl) _) fun x hx e=>by
   subst e;rw[kD htg,kD xg.symm]at hx;exact hx tR
  have K3:Z (uL st tb w) w (w2.setCell ⟨tb,2,none⟩ (.int .i64 ((n:Int)+1))):=(KT2.mono fun x hx=>⟨hx.1,hx.2.1,fun e=>by have:=hx.2.1;rw[e,hb]at this;cases this⟩).setCell (fun hk=>hk.2.2 rfl) _;generalize w2.setCell ⟨tb,2,none⟩ (.int .i64 ((n:Int)+1))=w3 at vt3 M3 K3 ⊢;apply G _;refine J ⟨g,rfl,by omega,?_,vt3,K3⟩
  simpa using M3
 | true=>
  rw[WN]at sL Ja Uu;apply jF _;apply jT (hv:=(EG _)) (lN Uu (by omega)) (Uu.free 26);have vg3:=xd Uu 26 (m8 nd.next);rw[IF]at vg3;have s3:Z (fun y=>y≠g) w2 (w2.setCell ⟨g,26,none⟩ (m8 nd.next)):=(Z.refl _ _).setCell (fun hk=>hk rfl) _;have vb3:=Ja.jA s3 hbg;have vt3:=vt2.jA s3 htg;have K3:=K2.trans (s3.mono fun x hx=>by omega);have KT3:=KT2.trans (s3.mono fun x hx=>by omega);generalize w2.setCell ⟨g,26,none⟩ (m8 nd.next)=w3 at vg3 vb3 vt3 K3 KT3 ⊢;clear s3 Uu Ja vt2 K2 KT2 sL EP;apply G _;apply jT (v:=m8 (some b)) (lN vg3 (by omega)) (vg3.free 27);have vg4:=xd vg3 27 (m8 (some b));rw[PQ]at vg4;have s4:Z (fun y=>y≠g) w3 (w3.setCell ⟨g,27,none⟩ (m8 (some b))):=(Z.refl _ _).setCell (fun hk=>hk rfl) _;have OV:=vb3.jA s4 hbg;have vt4:=vt3.jA s4 htg;have K4:=K3.trans (s4.mono fun x hx=>by omega);have KT4:=KT3.trans (s4.mono fun x hx=>by omega);generalize w3.setCell ⟨g,27,none⟩ (m8 (some b))=w4 at vg4 OV vt4 K4 KT4 ⊢;clear s4 vg3 vb3 vt3 K3 KT3;apply G _;apply jT (v:=m8 (some g)) (lN OV (by omega)) (OV.free 26);have CX:=xd OV 26 (m8 (some g));rw[IF]at CX;have s5:Z (fun y=>y≠b) w4 (w4.setCell ⟨b,26,none⟩ (m8 (some g))):=(Z.refl _ _).setCell (fun hk=>hk rfl) _;have OO:=vg4.jA s5 hbg.symm;have vt5:=vt4.jA s5 xg.symm;have K5:=K4.trans (s5.mono fun x hx=>hx.2);have KT5:=KT4.trans (s5.mono fun x hx=>hx.2.2);generalize w4.setCell ⟨b,26,none⟩ (m8 (some g))=w5 at OO CX vt5 K5 KT5 ⊢;clear s5 vg4 OV vt4 K4 KT4;have M5:Mem w5 (ml (ml st b ⟨true,nd.es.take 4,some g⟩) g ⟨true,nd.es.drop 4,nd.next⟩):=hm.ak8 K5 (by simp;omega) (by simp;omega) CX OO;have Wz:w5.cell? ⟨g,26,none⟩=some (m8 nd.next):=lN OO (by omega);have K5':Z (fun x=>x<w.heap.size/\st x=none/\x≠tb) w w5:=KT5.mono fun x hx=>⟨hx.1,hx.2.1,fun e=>by have:=hx.2.1;rw[e,hb]at this;cases this⟩;clear K5 KT5 CX OO;apply jF _;cases RX:nd.next with
  | none=>
   rw[RX]at M5;apply WL.as 37 (.pointer none) rfl rfl;refine WL.tk rfl rfl rfl rfl rfl rfl (by kernel_rfl) ?_;have Wh:w5.cell? ⟨tb,2,none⟩=some (.int .i64 n):=vt5.cell 2 (by simp[oL]);apply jF _;apply jT Wh (vt5.free 2);have Yr:=fin vt5;have M6:Mem (w5.setCell ⟨tb,2,none⟩ (.int .i64 ((n:Int)+1))) _:=M5.jA ((Z.refl (fun y=>y≠tb) w5).setCell (fun hk=>hk rfl) _) fun x hx e=>by
    subst e;rw[kD htg,kD xg.symm]at hx;exact hx tR
   have K6:Z (uL st tb w) w (w5.setCell ⟨tb,2,none⟩ (.int .i64 ((n:Int)+1))):=K5'.setCell (fun hk=>hk.2.2 rfl) _;generalize w5.setCell ⟨tb,2,none⟩ (.int .i64 ((n:Int)+1))=w6 at Yr M6 K6 ⊢;apply G _;refine J ⟨g,rfl,by omega,?_,Yr,K6⟩
   simpa using M6
  | some q=>
   have hq:=xq q RX;have hqt:q≠tb:=fun e=>hq (by rw[e];exact tR);have hq5:ml (ml st b ⟨true,nd.es.take 4,some g⟩) g ⟨true,nd.es.drop 4,nd.next⟩ q≠none:=by
    unfold ml;split
    ·simp
    ·split
     ·simp
     ·exact hq
   obtain⟨ndq,ail⟩:=eX.1 hq5;obtain⟨-,pq,vq⟩:=M5 q ndq ail;rw[RX]at Wz;refine WL.as 37 (.pointer (some ⟨q,0,none⟩)) rfl rfl ?_;refine WL.tk rfl rfl rfl rfl rfl rfl (by kernel_rfl) ?_;have aAp:w5.cell? ⟨g,26,none⟩=some (.pointer (some ⟨q,0,none⟩)):=Wz;clear Wz;apply jF _;apply jT (v:=m8 (some g)) (lN vq (by omega)) (vq.free 27);have M6:=M5.Um hq5 (some g);have s6:Z (fun y=>y≠q) w5 (w5.setCell ⟨q,27,none⟩ (m8 (some g))):=(Z.refl _ _).setCell (fun hk=>hk rfl) _;have Yr:=vt5.jA s6 hqt.symm;have K6:=K5'.trans (s6.mono fun x hx e=>hq (by rw[<-e];exact hx.2.1));generalize w5.setCell ⟨q,27,none⟩ (m8 (some g))=w6 at M6 Yr K6 ⊢;clear s6 M5 vt5 K5' vq;have oh:w6.cell? ⟨tb,2,none⟩=some (.int .i64 n):=Yr.cell 2 (by simp[oL]);apply jF _;apply jT oh (Yr.free 2);have vt7:=fin Yr;have M7:Mem (w6.setCell ⟨tb,2,none⟩ (.int .i64 ((n:Int)+1))) _:=M6.jA ((Z.refl (fun y=>y≠tb) w6).setCell (fun hk=>hk rfl) _) fun x hx e=>by
    subst e;rw[kD htg,kD xg.symm]at hx;exact hx tR
   have K7:Z (uL st tb w) w (w6.setCell ⟨tb,2,none⟩ (.int .i64 ((n:Int)+1))):=K6.setCell (fun hk=>hk.2.2 rfl) _;generalize w6.setCell ⟨tb,2,none⟩ (.int .i64 ((n:Int)+1))=w7 at vt7 M7 K7 ⊢;apply G _;refine J ⟨g,rfl,by omega,?_,vt7,K7⟩;rw[RX]at M7
   simpa using M7
open Tre
theorem Va {st st':St}{T:Tr D}{l:List KV}(h:Tre.Good st D T l)(hc:∀b∈kB D T,st' b=st b): Tre.Good st' D T l :=
 ⟨h.rep.congr hc,h.uQ.congr fun x hx=>hc _ (rZ D T x hx),h.nodup,h.el,h.xr,h.mn,h.root⟩
theorem Zn {st:St}{t:Tr d}(h:st (blk d t)=some ⟨d == 0,jH d t,nx⟩)(hg:g≠blk d t):
  Spl st (ml (ml st (blk d t) ⟨d == 0,(jH d t).take 4,if(d == 0)=true then some g else none⟩) g ⟨d == 0,(jH d t).drop 4,nx⟩) d t g:=by
 refine⟨⟨nx,h,?_,ny _ _ _⟩,fun x h1 h2=>by rw[kD h2,kD h1]⟩;rw[kD hg.symm,ny];cases d<;>rfl
theorem Iz {s:Tr d}(hc:j9 d s=8)(hm:Mn d s): kI d (mB d s g).1=kI d s:=by
 unfold kI fk;have h1:=vm (KN d s g hc hm).1 (by rw[(Bh d s g hc).1];omega);have h2:=Lj d s g;rw[(LD d s g).1,<-h2,u9 h1]
theorem acL {l r:List (Tr d)}{s:Tr d}(hc:j9 d s=8)(hm:Mn d s):
  ins ((l++s::r).map (kI d)) (l.length+1) ⟨fk d (mB d s g).2,0,some g⟩=(l++(mB d s g).1::(mB d s g).2::r).map (kI d):=by
 unfold ins;simp only[aV,aY];rw[Iz hc hm];have e:kI d (mB d s g).2=⟨fk d (mB d s g).2,0,some g⟩:=by unfold kI;rw[(LD d s g).2]
 rw[e];have hl:(l.map (kI d)).length=l.length:=aB ..;rw[fY,eA];simp[hl,bg (show(l.map (kI d)).length<=l.length+1 by omega),cD (show(l.map (kI d)).length<=l.length+1 by omega)]
theorem ZH {s:Tr d}(hc:j9 d s=8)(hm:Mn d s): (((jH d s).drop 4).getD 0 lB).key=fk d (mB d s g).2:=by
 rw[<-(Qn d s g).2];exact Cu (KN d s g hc hm).2 (by rw[(Bh d s g hc).2];omega) _
theorem RK {k:Ky}{n:Int}{l:List KV}(h:tL l): (mU k n l).length=if(getL k l).isSome then l.length else l.length+1:=by
 have hp:=GF k (l.map Prod.fst);rw[aB]at hp;rw[Rk h,Dh h]
 by_cases c:(l.map Prod.fst)[plc k (l.map Prod.fst)]? = some k
 ·have j6:plc k (l.map Prod.fst)<l.length:=by
   rcases aW (plc k (l.map Prod.fst)) l.length with h|h
   ·exact h
   ·rw[aM (by simpa using h)]at c;cases c
  rw[ag c,ag c,ai j6];simp only[af,aC,ak,aQ,eM,Option.isSome_some,fI];omega
 ·rw[aa c,aa c]
  simp only[af,aC,ak,aQ,Option.isSome_none,gQ,eY];omega
theorem aeL (nd:Nd)(pv:Option Nat){p:Nat}(hp:p<nd.es.length)(h8:nd.es.length<=8)(n:Int):
  j5 (fun j=>if j=10+p then Iq n else nS nd pv j)=j5 (nS { nd with es:=nd.es.set p ⟨(nd.es.getD p lB).key,n,(nd.es.getD p lB).pw⟩} pv):=wJ fun j hj=>by
 have ql:∀q,(nd.es.set p ⟨(nd.es.getD p lB).key,n,(nd.es.getD p lB).pw⟩).getD q lB=if q=p then⟨(nd.es.getD p lB).key,n,(nd.es.getD p lB).pw⟩ else nd.es.getD q lB:=fun q=>by
  simp only[ah,ig]
  by_cases e:p=q
  ·subst e;simp[hp]
  ·rw[aa e,aa (fun h=>e h.symm)]
 show(if j=10+p then Iq n else nS nd pv j)=_
 unfold nS;simp only[ql,aI]
 by_cases j0:j=0
 ·subst j0;rw[aa I];rfl
 by_cases j1:j=1
 ·subst j1;rw[aa I];rfl
 by_cases j2:j<10
 ·rw[aa I,aa j0,aa j1,ag j2,aa j0,aa j1,ag j2]
  split
  ·rename_i e;rw[e]
  ·rfl
 by_cases j3:j<18
 ·rw[aa j0,aa j1,aa j2,ag j3,aa j0,aa j1,aa j2,ag j3]
  by_cases e:j=10+p
  ·rw[ag e,ag I]
  ·rw[aa e,aa I]
 ·rw[aa I]
  rw[aa j0,aa j1,aa j2,aa j3,aa j0,aa j1,aa j2,aa j3]
  by_cases j4:j<26
  ·rw[ag j4,ag j4]
   split
   ·rename_i e;rw[e]
   ·rfl
  ·rw[aa j4,aa j4]
theorem Om (nd:Nd)(pv:Option Nat){p:Nat}(hp:p<nd.es.length)(h8:nd.es.length<=8)(k:lD):
  j5 (fun j=>if j=2+p then Value.string k else nS nd pv j)=j5 (nS { nd with es:=nd.es.set p ⟨k,(nd.es.getD p lB).num,(nd.es.getD p lB).pw⟩} pv):=wJ fun j hj=>by
 have ql:∀q,(nd.es.set p ⟨k,(nd.es.getD p lB).num,(nd.es.getD p lB).pw⟩).getD q lB=if q=p then⟨k,(nd.es.getD p lB).num,(nd.es.getD p lB).pw⟩ else nd.es.getD q lB:=fun q=>by
  simp only[ah,ig]
  by_cases e:p=q
  ·subst e;simp[hp]
  ·rw[aa e,aa (fun h=>e h.symm)]
 show(if j=2+p then Value.string k else nS nd pv j)=_
 unfold nS;simp only[ql,aI]
 by_cases j0:j=0
 ·subst j0;rw[aa I];rfl
 by_cases j1:j=1
 ·subst j1;rw[aa I];rfl
 by_cases j2:j<10
 ·rw[aa j0,aa j1,ag j2,aa j0,aa j1,ag j2]
  by_cases e:j=2+p
  ·rw[ag e,ag I]
  ·rw[aa e,aa I]
 rw[aa I,aa j0,aa j1,aa j2,aa j0,aa j1,aa j2]
 by_cases j3:j<18
 ·rw[ag j3,ag j3]
  split
  ·rename_i e;rw[e]
  ·rfl
 ·rw[aa j3,aa j3]
  by_cases j4:j<26
  ·rw[ag j4,ag j4]
   split
   ·rename_i e;rw[e]
   ·rfl
  ·rw[aa j4,aa j4]
def SU (qP:St)(w0:World)(st':St):Prop:=∀x,st' x≠none->qP x≠none\/w0.heap.size<=x
structure PS (w0:World) (qP:St) (tb:Nat) (w':World) (st':St):Prop where
 mem:Mem w' st'
 no:st' tb=none
 jA:Z (uL qP tb w0) w0 w'
 new:SU qP w0 st'
theorem PS.out {qP st':St}(h:PS w0 qP tb w' st'){x:Nat}(hx:uL qP tb w0 x): uL st' tb w' x :=
 ⟨ao hx.1 h.jA.size,by
  cases e:st' x with
  | none=>rfl
  | some nd=>exact(h.new x (by rw[e];simp)).elim (fun h1=>absurd hx.2.1 h1) (fun h1=>absurd hx.1 I),hx.2.2⟩
theorem PS.start {st:St}(hm:Mem w st)(ht:st tb=none): PS w st tb w st:=⟨hm,ht,Z.refl _ _,fun _ h=>.inl h⟩
theorem PS.step {qP st' yc:St}(h:PS w0 qP tb w' st')(hm:Mem w2 yc)(ht:yc tb=none)(hk:Z (uL st' tb w') w' w2)(hn:SU st' w' yc): PS w0 qP tb w2 yc :=
 ⟨hm,ht,h.jA.trans (hk.mono fun _ hx=>h.out hx),fun x hx=>(hn x hx).elim (h.new x) fun h1=>.inr (aU h.jA.size h1)⟩
theorem PS.node {qP st':St}{nd:Nd}{pv:Option Nat}(h:PS w0 qP tb w' st')(hb:st' b≠none)(hk:Z (fun x=>x≠b) w' w2)(hl:nd.es.length<=8)(hv:U mH w2 b (j5 (nS nd pv))): PS w0 qP tb w2 (ml st' b nd):=by
 have mE:tb≠b:=fun e=>hb (by rw[<-e];exact h.no);refine h.step (h.mem.ml hk hl hv) (by rw[kD mE];exact h.no) (hk.mono fun x hx e=>hb (by rw[<-e];exact hx.2.1)) fun x hx=>?_
 by_cases e:x=b
 ·rw[e];exact .inl hb
 ·rw[kD e]at hx;exact .inl hx
theorem PS.kv {qP st':St}(h:PS w0 qP tb w' st')(j:Nat)(v:Value): PS w0 qP tb (w'.setCell (Aq tb j) v) st' :=
 h.step (h.mem.jA ((Z.refl (fun y=>y≠tb) w').setCell (fun hk=>hk rfl) _) fun x hx e=>hx (by rw[e];exact h.no)) h.no (Z.setCell (Z.refl _ _) (fun hk=>hk.2.2 rfl) _) fun x hx=>.inl hx
theorem PS.fresh {qP st':St}{nd:Nd}{pv:Option Nat}(h:PS w0 qP tb w' st')(tR:tb<w'.heap.size)(hf:kJ w' g w2 mH (j5 (nS nd pv)))(hl:nd.es.length<=8): PS w0 qP tb w2 (ml st' g nd)/\st' g=none:=by
 have hg:=hf.eq;have EW:st' g=none:=by
  cases e:st' g with
  | none=>rfl
  | some nd2=>have:=h.mem.lt (b:=g) (by rw[e];simp);omega
 refine⟨h.step (fun x n e=>?_) (by rw[kD I];exact h.no) ((Z.jw hf.below).mono fun x hx=>hx.1) fun x hx=>?_,EW⟩
 ·by_cases hx:x=g
  ·subst hx;rw[ny]at e;obtain rfl:=az e;exact⟨hl,pv,hf.blk⟩
  ·rw[kD hx]at e;exact h.mem.below hf.below x n e
 ·by_cases e:x=g
  ·right;omega
  ·rw[kD e]at hx;exact .inl hx
def TOk (st:St)(root:Option Nat)(n:Nat)(l:List KV):Prop:=(root=none/\l=[]/\n=0)\/∃D T,root=some (blk D T)/\Tre.Good st D T l/\n=(kB D T).length/\1<=j9 D T
structure xw (w:World) (st:St) (tb:Nat) (l:List KV):Prop where
 mem:Mem w st
 no:st tb=none
 ex:∃root n,U mT w tb (oL root l.length n)/\TOk st root n l
theorem TOk.xr {st:St}{n:Nat}{l:List KV}(h:TOk st root n l): tL l:=by
 rcases h with⟨-,rfl,-⟩|⟨D,T,-,h,-⟩
 ·exact List.Pairwise.nil
 ·exact h.xr
theorem xw.jA {st:St}{l:List KV}(h:xw w st tb l){K:Nat->Prop}(hk:Z K w w')(hK:∀b,st b≠none->K b)(ht:K tb): xw w' st tb l:=by
 obtain⟨root,n,h1,h2⟩:=h.ex;exact⟨h.mem.jA hk hK,h.no,root,n,h1.jA hk ht,h2⟩
theorem xw.below {st:St}{l:List KV}(h:xw w st tb l)(hk:jP w w'): xw w' st tb l:=by
 obtain⟨root,n,h1,-⟩:=h.ex;exact h.jA (Z.jw hk) (fun b hb=>h.mem.lt hb) h1.lt
open Tre
theorem UX (d:Nat)(s:Tr d)(g:Nat): (kB d (mB d s g).1).length+(kB d (mB d s g).2).length=(kB d s).length+1:=by
 have:=(xa d s g).length_eq;simp only[af,ak]at this;exact this
theorem Fm (c:Ctx D d)(t:Tr d): (kB D (plug c t)).length=(cb c).length+(kB d t).length:=by
 rw[(qy c t).length_eq,af]
structure PX where
 D:Nat
 d:Nat
 c:Ctx D d
 t:Tr d
structure TX where
 D:Nat
 T:Tr D
structure KX (d:Nat) where
 l:List (Tr d)
 s:Tr d
 r:List (Tr d)
structure PW (w:World) (st:St) (tb:Nat) (k:Ky) (l:List KV) (w':World) (st':St) {D d:Nat}(c:Ctx D d) (t:Tr d):Prop where
 ps:PS w st tb w' st'
 put:qM st' k c t l
 kv:U mT w' tb (oL (some (blk D (plug c t))) l.length (kB D (plug c t)).length)
theorem PW.few {st:St}{k:Ky}{l:List KV}{st':St}{c:Ctx D d}{t:Tr d}(h:PW w st tb k l w' st' c t): (kB D (plug c t)).length<=l.length+1:=by
 have:=(Tre.few h.put.mn h.put.root).1
 rwa [h.put.el]at this
theorem UO: prog.built mH []=some (j5 (nS ⟨false,[],none⟩ none)).toArray:=by kernel_rfl
theorem yT {nd:Nd}{pv:Option Nat}(h:U mH w b (j5 (nS nd pv))){n:Nat}(hn:nd.es.length=n): w.cell? (Aq b 1)=some (Iq n):=by rw[lN h I,vE,hn]
theorem DA {nd:Nd}{pv:Option Nat}(h:U mH w b (j5 (nS nd pv)))(hi:i<8): w.cell? (Aq b (2+i))=some (.string (nd.es.getD i lB).key):=by rw[lN h I,w_ _ _ hi]
theorem TR {nd:Nd}{pv:Option Nat}(h:U mH w b (j5 (nS nd pv)))(hi:i<8): w.cell? (Aq b (10+i))=some (Iq (nd.es.getD i lB).num):=by rw[lN h I,AJ _ _ hi]
theorem H8 {nd:Nd}{pv:Option Nat}(h:U mH w b (j5 (nS nd pv)))(hi:i<8)(hq:(nd.es.getD i lB).pw=some q): w.cell? (Aq b (18+i))=some (jV q):=by rw[lN h I,xk _ _ hi,hq];rfl
theorem AO {n:Nat}(h:U mT w tb (oL (some q) size n)): w.cell? (Aq tb 0)=some (jV q)/\w.cell? (Aq tb 1)=some (Iq size)/\w.cell? (Aq tb 2)=some (Iq n) :=
 ⟨h.cell 0 (by simp[oL]),h.cell 1 (by simp[oL]),h.cell 2 (by simp[oL])⟩
theorem aaK {st:St}{l:List KV}(h:xw w st tb l)(k:Ky)(n:Int)(hl:l.length<1000000000):
  Calls prog 61 #[.pointer (some ⟨tb,0,none⟩),.string k,.int .i64 n] w fun e w'=>∃st',e=.returned (.tuple #[.int .i64 ((getL k l).getD 0),.bool (getL k l).isSome])/\xw w' st' tb (mU k n l)/\Z (uL st tb w) w w'/\SU st w st':=by
 apply kq func61 ntmps61;obtain⟨hm,tR,root,nn,ht,mq⟩:=h;have nG:=mq.xr;have h0:w.cell? ⟨tb,0,none⟩=some (m8 root):=ht.cell 0 (by simp[oL]);apply G _;apply(kV);apply jF _;refine WL.as 20 (.pointer (root.map fun b=>⟨b,0,none⟩)) rfl (by cases root<;>rfl) ?_;apply(kV);apply WL.nil;apply WQ.then rfl
 -- there is a root
 refine WC.tn (fun x:TX=>[(0,.pointer (some ⟨tb,0,none⟩)),(1,.string k),(2,.int .i64 n)]) (fun x w'=>∃st',PS w st tb w' st'/\Tre.Good st' x.D x.T l/\U mT w' tb (oL (some (blk x.D x.T)) l.length (kB x.D x.T).length)) rfl ?_ ?_
 ·have pk:=PS.start hm tR
  rcases mq with⟨rfl,rfl,rfl⟩|⟨D,T,rfl,hg,rfl,vN⟩
  ·apply G _
   refine WL.build (j5 (nS ⟨true,[],none⟩ none)) rfl rfl rfl rfl rfl (JU true) ?_;refine jO fun g w1 MY=>?_;have hf:kJ w g w1 mH (j5 (nS ⟨true,[],none⟩ none)):=MY;clear MY;obtain⟨T2,-⟩:=pk.fresh ht.lt hf (by simp);have Kh:=ht.below hf.below ht.lt;clear hf;apply G _;apply jT (Kh.cell 0 (by simp[oL])) (Kh.free 0);have KC:U mT (w1.setCell ⟨tb,0,none⟩ (.pointer (some ⟨g,0,none⟩))) tb (oL (some g) 0 0):=Kh.set 0 _;have CH:=T2.kv 0 (.pointer (some ⟨g,0,none⟩));generalize w1.setCell ⟨tb,0,none⟩ (.pointer (some ⟨g,0,none⟩))=w2 at KC CH ⊢;obtain⟨-,-,h22⟩:=AO KC;apply jF _;apply jT h22 (KC.free 2);have ht3:U mT (w2.setCell ⟨tb,2,none⟩ (.int .i64 ((0:Nat)+1))) tb (oL (some g) 0 1):=KC.set 2 _;have xT:=CH.kv 2 (.int .i64 ((0:Nat)+1));generalize w2.setCell ⟨tb,2,none⟩ (.int .i64 ((0:Nat)+1))=w3 at ht3 xT ⊢;apply G _;exact WQ.meet ⟨0,tr g []⟩ ⟨rfl,rfl,rfl,trivial⟩ ⟨_,xT,⟨trivial,⟨ny _ _ _,trivial⟩,by simp[kB],rfl,List.Pairwise.nil,ay _,.inl rfl⟩,ht3⟩
  ·apply G _
   exact WQ.meet ⟨D,T⟩ ⟨rfl,rfl,rfl,trivial⟩ ⟨st,pk,hg,ht⟩
 clear h0 ht mq hm;rintro⟨D,T⟩ w1 ⟨yz,pk,hg,hh⟩;simp only at hg hh;obtain⟨Cy,Fb,h12⟩:=AO hh;obtain⟨nxr,Dd,yb,EV⟩:=hg.ai8;obtain⟨EN,pvr,vr⟩:=pk.mem _ _ Dd;obtain⟨C,hC⟩:∃C,j9 D T=C:=⟨_,rfl⟩;have nL:(jH D T).length=C:=by rw[yn,hC]
 have nW:=yT vr nL;have hC8:C<=8:=by rw[<-hC];exact hg.mn.le
 have QF:=(Tre.few hg.mn hg.root).1;rw[hg.el]at QF;have xg:blk D T≠tb:=fun e=>by rw[e,pk.no]at Dd;cases Dd
 apply jF _
 -- the root has room
 refine WC.tn (fun x:TX=>[(0,.pointer (some ⟨tb,0,none⟩)),(1,.string k),(2,.int .i64 n)]) (fun x w'=>∃st',PW w st tb k l w' st' (.top:Ctx x.D x.D) x.T/\j9 x.D x.T<8) rfl ?_ ?_
 ·by_cases h8:C=8
  ·refine WC.sE rfl (by omega) ?_
   apply G _;refine WL.build (j5 (nS ⟨false,[],none⟩ none)) rfl rfl rfl rfl rfl UO ?_;refine jO fun gx w2 MY=>?_;have hf:kJ w1 gx w2 mH (j5 (nS ⟨false,[],none⟩ none)):=MY;clear MY;obtain⟨CH,avz⟩:=pk.fresh hh.lt hf (by simp);have Mp:=hh.below hf.below hh.lt;have vr2:=vr.below hf.below vr.lt;have vx2:=hf.blk;have GU:blk D T≠gx:=by have:=vr.lt;have:=hf.eq;omega
   have um:tb≠gx:=by have:=hh.lt;have:=hf.eq;omega
   clear hf Cy Fb h12 nW vr;have I5:((jH D T).getD 0 lB).key=fk D T:=Cu hg.mn (by omega) _;have ahT:=DA vr2 (i:=0) (by omega);simp only[I5]at ahT;have h20:=(AO Mp).1;apply G _;refine WC.drawn 13 (fun wx=>wx.heap=w2.heap) fun w3 hd=>?_;have hS:=hd.heap;have xT:=CH.step (CH.mem.below (hd.below _)) CH.no (Z.pU hd _) fun x hx=>.inl hx;have Dy:=Mp.below (hd.below _) Mp.lt;have vx3:=vx2.below (hd.below _) vx2.lt;clear hd;apply jC [0,1,2,3] hS _;apply jz 4 [5,6,7,8,13] (fun wx hx=>(lH hx _).trans h20) hS;apply jC [5,6] hS _;apply kU 7 0 2 (.inr hS);apply jz 8 [13] (fun wx hx=>(lH hx _).trans ahT) hS;apply jC [9,10,11] hS _;apply jz 12 [13] (fun wx hx=>(lH hx _).trans h20) hS;apply jS 13;refine WL.call rfl rfl rfl rfl rfl iZ rfl (by kernel_rfl) (uH (i:=0) (n:=0) (pw:=some (blk D T)) vx3 (ay _) (by simp)) ?_;rintro _ w4 ⟨rfl,pA,vx4⟩;refine⟨_,rfl,?_⟩;have qW:=xT.node (b:=gx) (by rw[ny];simp) pA (by simp[ins]) vx4;have AH:=Dy.jA pA um;rw[Wu]at qW;clear pA CH xT vx2 vx3 Mp Dy vr2 hS h20 ahT;apply(jZ);apply(jD)
   -- the root is cut in two
   obtain⟨Ny,Pg⟩:∃Ny,ml yz gx ⟨false,ins [] 0 ⟨fk D T,0,some (blk D T)⟩,none⟩=Ny:=⟨_,rfl⟩;have IV:PS w st tb w4 Ny:=by rw[<-Pg];exact qW
   have y_:gx ∉ kB D T:=fun hx=>hg.dom gx hx avz;have qF:Tre.Good Ny D T l:=Va hg fun x hx=>by rw[<-Pg];exact kD (fun e:x=gx=>y_ (by rw[<-e];exact hx))
   have RN:Ny (blk D T)=some ⟨D == 0,jH D T,nxr⟩:=by rw[<-Pg,kD GU];exact Dd
   have h40:=(AO AH).1;apply jF _;refine WL.call rfl rfl rfl rfl rfl func92 rfl (by kernel_rfl) (Mf IV.mem RN (by show(jH D T).length=8;omega) (fun q hq=>by
    have:=EV q hq;rw[<-Pg];unfold ml
    split
    ·simp
    ·exact this) (fun OP=>yb (fun e=>by subst e;cases OP)) AH IV.no (by omega)) ?_
   rintro _ w5 ⟨g,rfl,Pc,Gu,xi,oM⟩;refine⟨_,rfl,?_⟩;simp only at Gu;have EW:Ny g=none:=by
    cases e:Ny g with
    | none=>rfl
    | some nd2=>have:=IV.mem.lt (b:=g) (by rw[e];simp);omega
   have Kw:g≠blk D T:=fun e=>by rw[e,RN]at EW;cases EW
   have hgx:g≠gx:=fun e=>by rw[e,<-Pg,ny]at EW;cases EW
   have OM:g≠tb:=by have:=AH.lt;omega
   have Wm:=Zn RN Kw;obtain⟨Df,vU⟩:∃Df,ml (ml Ny (blk D T) ⟨D == 0,(jH D T).take 4,if(D == 0)=true then some g else none⟩) g ⟨D == 0,(jH D T).drop 4,nxr⟩=Df:=⟨_,rfl⟩;rw[vU]at Gu Wm;have pG:=IV.step Gu (by rw[<-vU,kD OM.symm,kD xg.symm];exact IV.no) oM fun x hx=>by
    rw[<-vU]at hx
    by_cases e:x=g
    ·right;omega
    ·rw[kD e]at hx
     by_cases e2:x=blk D T
     ·left;rw[e2,RN];simp
     ·rw[kD e2]at hx;exact .inl hx
   have hx5:Df gx=some ⟨false,ins [] 0 ⟨fk D T,0,some (blk D T)⟩,none⟩:=by rw[<-vU,kD hgx.symm,kD GU.symm,<-Pg,ny]
   have DO:Df g=some ⟨D == 0,(jH D T).drop 4,nxr⟩:=by rw[<-vU,ny]
   obtain⟨-,pv5,vx5⟩:=pG.mem _ _ hx5;obtain⟨-,pg5,OO⟩:=pG.mem _ _ DO;have Qt:=DA OO (i:=0) (by omega);simp only[ZH (d:=D) (g:=g) (s:=T) (by omega) hg.mn]at Qt;clear oM Gu qW IV AH vx4 h40;apply G _;apply mg 0 2;apply Y Qt;apply G _;refine WL.call rfl rfl rfl rfl rfl iZ rfl (by kernel_rfl) (uH (i:=1) (n:=0) (pw:=some g) vx5 (by simp[ins]) (by simp[ins])) ?_;rintro _ w6 ⟨rfl,o_,vx6⟩;refine⟨_,rfl,?_⟩;have tT:=pG.node (b:=gx) (by rw[hx5];simp) o_ (by simp[ins]) vx6;have A4:=xi.jA o_ um;clear o_ pG xi vx5 OO;apply G _;apply jT (A4.cell 0 (by simp[oL])) (A4.free 0);have J9:U mT (w6.setCell ⟨tb,0,none⟩ (.pointer (some ⟨gx,0,none⟩))) tb (oL (some gx) l.length ((kB D T).length+1)):=A4.set 0 _;have Ff:=tT.kv 0 (.pointer (some ⟨gx,0,none⟩));generalize w6.setCell ⟨tb,0,none⟩ (.pointer (some ⟨gx,0,none⟩))=w7 at J9 Ff ⊢;obtain⟨-,-,h72⟩:=AO J9;apply jF _;apply jT h72 (J9.free 2);have hh8:U mT (w7.setCell ⟨tb,2,none⟩ (.int .i64 (((kB D T).length+1:Nat)+1))) tb (oL (some gx) l.length ((kB D T).length+1+1)):=J9.set 2 _;have Wn:=Ff.kv 2 (.int .i64 (((kB D T).length+1:Nat)+1));generalize w7.setCell ⟨tb,2,none⟩ (.int .i64 (((kB D T).length+1:Nat)+1))=w8 at hh8 Wn ⊢;apply G _;have yF:qM (ml Df gx { (⟨false,ins [] 0 ⟨fk D T,0,some (blk D T)⟩,none⟩:Nd) with es:=ins (ins [] 0 ⟨fk D T,0,some (blk D T)⟩) 1 ⟨fk D (mB D T g).2,0,some g⟩}) k .top (lW gx [(mB D T g).1,(mB D T g).2]) l:=by
    refine qF.grow (g:=g) (by omega) EW y_ hgx.symm Wm ?_ fun x hx=>kD hx;rw[ny];have e1:=Iz (g:=g) (by omega:j9 D T=8) hg.mn;have e2:kI D (mB D T g).2=⟨fk D (mB D T g).2,0,some g⟩:=by unfold kI;rw[(LD D T g).2]
    rw[e1,e2]
    rfl
   have Bd:(kB (D+1) (plug .top (lW gx [(mB D T g).1,(mB D T g).2]))).length=(kB D T).length+1+1:=by
    rw[pJ,mD];have:=UX D T g;simp only[aq,dD,aP,ak,af];omega
   refine WQ.meet ⟨D+1,lW gx [(mB D T g).1,(mB D T g).2]⟩ ⟨rfl,rfl,rfl,trivial⟩ ⟨_,⟨Wn,yF,?_⟩,by show 2<8;omega⟩;simp only
   rw[Bd,pJ];exact hh8
  ·refine WC.q_ rfl (by omega) ?_
   apply G _;refine WQ.meet ⟨D,T⟩ ⟨rfl,rfl,rfl,trivial⟩ ⟨yz,⟨pk,qM.start hg,?_⟩,by show j9 D T<8;omega⟩;simp only[pJ];exact hh
 clear nW Cy Fb h12 vr Dd yb EV xg nL QF hC8 hC pk hg hh EN;rintro⟨D,T⟩ w2 ⟨yc,oC,EK⟩;simp only at oC EK;have h20:=(AO oC.kv).1;rw[pJ]at h20;apply jF _;refine WC.loop (fun x:PX=>[(0,.pointer (some ⟨tb,0,none⟩)),(1,.string k),(2,.int .i64 n),(10,.pointer (some ⟨blk x.d x.t,0,none⟩))]) (fun x w'=>∃st',PW w st tb k l w' st' x.c x.t/\j9 x.d x.t<8) (fun x=>x.d) ⟨D,D,.top,T⟩ ⟨rfl,rfl,rfl,rfl,trivial⟩ ⟨yc,oC,EK⟩ ?_;clear h20 oC EK;rintro⟨D,d,c,t⟩ wr ⟨st',oC,EK⟩;simp only at oC EK;cases d with
 | zero=>
  obtain⟨b,es⟩:=t;have oC:PW w st tb k l wr st' c (tr b es):=oC;have EK:es.length<8:=EK;change WC _ _ _ [(0,.pointer (some ⟨tb,0,none⟩)),(1,.string k),(2,.int .i64 n),(10,.pointer (some ⟨b,0,none⟩))] wr;obtain⟨C9,Ca⟩:=oC.put.alI;have hb:st' b=some ⟨true,me es,Tre.hd [] C9⟩:=Ca.1;obtain⟨-,pb,vb⟩:=oC.ps.mem _ _ hb;have xg:tb≠b:=fun e=>by rw[<-e,oC.ps.no]at hb;cases hb
  have l0:wr.cell? ⟨b,0,none⟩=some (.bool true):=lN vb (by omega);obtain⟨tH,hes⟩:=oC.put.get;have hlen:=RK (n:=n) nG (k:=k);have oR:=GF k (es.map Prod.fst);rw[aB]at oR;have ly:=Dh (k:=k) hes;have Y5:=Rk (n:=n) (k:=k) hes;apply jF _;refine WL.call rfl rfl rfl rfl rfl func94 rfl (by kernel_rfl) (Lk (key:=k) vb (by show(me es).length<=8;rw[nY];omega)) ?_;rintro _ w3 ⟨rfl,rfl⟩;refine⟨_,rfl,?_⟩;simp only[Mg];generalize plc k (es.map Prod.fst)=p at oR ly Y5 ⊢;have NJ:=yT vb (nY es)
  -- what is left to say
  have fin:∀ {wz:World}{stz:St}{sz:Nat},PS w st tb wz stz->(∀nx,st' b=some ⟨true,me es,nx⟩->stz b=some ⟨true,me (mU k n es),nx⟩)->(∀x,x≠b->stz x=st' x)->U mT wz tb (oL (some (blk D (plug c (tr b es)))) sz (kB D (plug c (tr b es))).length)->sz=(mU k n l).length->
    xw wz stz tb (mU k n l)/\Z (uL st tb w) w wz/\SU st w stz:=fun {wz stz sz} hp h1 h2 h3 h4=>by
   obtain⟨tp,uR,Dz⟩:=oC.put.fin (st':=stz) (n:=n) EK h1 h2;refine⟨⟨hp.mem,hp.no,_,_,?_,.inr ⟨D,_,rfl,tp,uR.symm,Dz⟩⟩,hp.jA,hp.new⟩;rw[IC c (t:=tr b es) (t':=tr b (mU k n es)) rfl,<-h4];exact h3
  by_cases Gn:p<es.length
  ·apply jF _
   apply mg p (2+p);apply(jX);have hkp:=DA vb (i:=p) (by omega);rw[uh es Gn]at hkp;apply Y hkp
   by_cases hk:es[p].1=k
   ·-- it is there
    have wQ:(es.map Prod.fst)[p]? = some k:=by simp[Gn,hk]
    rw[ag wQ,ai Gn]at ly;rw[ag wQ]at Y5;have H6:=TR vb (i:=p) (by omega);rw[uh es Gn]at H6;simp only at H6;apply G _;apply WC.as 163 (.bool true) rfl (by rw[hk];exact congrArg Value.bool (fZ _));apply G _;apply mg p (10+p);apply Y H6;apply G _;apply mg p (10+p);apply jT H6 (vb.free _);have hv:=xd vb (10+p) (.int .i64 n);rw[aeL _ _ (by show p<(me es).length;rw[nY];exact Gn) (by show(me es).length<=8;rw[nY];omega),uh es Gn]at hv;have Cl:Z (fun x=>x≠b) w3 (w3.setCell ⟨b,10+p,none⟩ (.int .i64 n)):=(Z.refl _ _).setCell (fun hk=>hk rfl) _;have tC:(me es).set p ⟨es[p].1,n,none⟩=me (mU k n es):=by
     rw[Y5];unfold me;rw[aV,aY,dp,dC,dP,ag (by simpa using Gn),hk]
    simp only[tC]at hv;have pk:=oC.ps.node (b:=b) (by rw[hb];simp) Cl (by show(me (mU k n es)).length<=8;rw[nY];have:=(yk (k:=k) (n:=n) es).1;omega) hv;have hh:=oC.kv.jA Cl xg;generalize w3.setCell ⟨b,10+p,none⟩ (.int .i64 n)=w4 at pk hh ⊢;refine G ?_;have hf:=fin pk (fun nx hx=>by rw[hb]at hx;injection hx with hx;injection hx with _ _ e;subst e;exact ny _ _ _) (fun x hx=>kD hx) hh (by rw[hlen,tH,ly];rfl);refine WQ.oU rfl rfl rfl ⟨_,?_,hf⟩;rw[tH,ly];rfl
   ·-- it is not
    have wQ:¬(es.map Prod.fst)[p]? = some k:=by simp[Gn,hk]
    rw[aa wQ]at ly Y5;apply G _;apply WC.as 163 (.bool false) rfl (congrArg Value.bool (b_.2 fun e=>hk (LF e)));apply G _;refine WL.call rfl rfl rfl rfl rfl iZ rfl (by kernel_rfl) (uH (i:=p) (n:=n) (key:=k) (pw:=none) vb (by show p<=(me es).length;rw[nY];omega) (by show(me es).length<8;rw[nY];exact EK)) ?_;rintro _ w4 ⟨rfl,Cl,hv⟩;refine⟨_,rfl,?_⟩;have tC:ins (me es) p ⟨k,n,none⟩=me (mU k n es):=by
     rw[Y5];unfold me ins;rw[aV,aY,dp,dC]
    simp only[tC]at hv;have pk:=oC.ps.node (b:=b) (by rw[hb];simp) Cl (by show(me (mU k n es)).length<=8;rw[nY];have:=(yk (k:=k) (n:=n) es).1;omega) hv;have hh:=oC.kv.jA Cl xg;obtain⟨-,EL,-⟩:=AO hh;apply jF _;apply jT EL (hh.free 1);have xi:U mT (w4.setCell ⟨tb,1,none⟩ (.int .i64 ((l.length:Int)+1))) tb (oL _ (l.length+1) _):=hh.set 1 _;have pG:=pk.kv 1 (.int .i64 ((l.length:Int)+1));generalize w4.setCell ⟨tb,1,none⟩ (.int .i64 ((l.length:Int)+1))=w5 at pG xi ⊢;refine G ?_;have hf:=fin pG (fun nx hx=>by rw[hb]at hx;injection hx with hx;injection hx with _ _ e;subst e;exact ny _ _ _) (fun x hx=>kD hx) xi (by rw[hlen,tH,ly];rfl);refine WQ.oU rfl rfl rfl ⟨_,?_,hf⟩;rw[tH,ly];rfl
  ·have wQ:¬(es.map Prod.fst)[p]? = some k:=by rw[aM (by simp;omega)];simp
   rw[aa wQ]at ly Y5;apply jF _;refine WL.call rfl rfl rfl rfl rfl iZ rfl (by kernel_rfl) (uH (i:=p) (n:=n) (key:=k) (pw:=none) vb (by show p<=(me es).length;rw[nY];omega) (by show(me es).length<8;rw[nY];exact EK)) ?_;rintro _ w4 ⟨rfl,Cl,hv⟩;refine⟨_,rfl,?_⟩;have tC:ins (me es) p ⟨k,n,none⟩=me (mU k n es):=by
    rw[Y5];unfold me ins;rw[aV,aY,dp,dC]
   simp only[tC]at hv;have pk:=oC.ps.node (b:=b) (by rw[hb];simp) Cl (by show(me (mU k n es)).length<=8;rw[nY];have:=(yk (k:=k) (n:=n) es).1;omega) hv;have hh:=oC.kv.jA Cl xg;obtain⟨-,EL,-⟩:=AO hh;apply jF _;apply jT EL (hh.free 1);have xi:U mT (w4.setCell ⟨tb,1,none⟩ (.int .i64 ((l.length:Int)+1))) tb (oL _ (l.length+1) _):=hh.set 1 _;have pG:=pk.kv 1 (.int .i64 ((l.length:Int)+1));generalize w4.setCell ⟨tb,1,none⟩ (.int .i64 ((l.length:Int)+1))=w5 at pG xi ⊢;refine G ?_;have hf:=fin pG (fun nx hx=>by rw[hb]at hx;injection hx with hx;injection hx with _ _ e;subst e;exact ny _ _ _) (fun x hx=>kD hx) xi (by rw[hlen,tH,ly];rfl);refine WQ.oU rfl rfl rfl ⟨_,?_,hf⟩;rw[tH,ly];rfl
 | succ d=>
  obtain⟨b,ks⟩:=t;have oC:PW w st tb k l wr st' c (lW b ks):=oC;have Aj:ks.length<8:=EK;change WC _ _ _ [(0,.pointer (some ⟨tb,0,none⟩)),(1,.string k),(2,.int .i64 n),(10,.pointer (some ⟨b,0,none⟩))] wr;obtain⟨vQ,-,afR⟩:=oC.put.kids;have h2:2<=ks.length:=oC.put.two;have hb:=(nZ.1 oC.put.Pu).1;obtain⟨-,pb,vb⟩:=oC.ps.mem _ _ hb;have l0:wr.cell? ⟨b,0,none⟩=some (.bool false):=lN vb (by omega);have sj:∀q:List (Tr d),(q.map (kI d)).length=q.length:=fun q=>aB ..;apply jF _;refine WL.call rfl rfl rfl rfl rfl func93 rfl (by kernel_rfl) (HQ (key:=k) vb (by show(ks.map (kI d)).length<=8;rw[sj];omega) (by show 1<=(ks.map (kI d)).length;rw[sj];omega)) ?_;rintro _ w3 ⟨rfl,rfl⟩;refine⟨_,rfl,?_⟩;obtain⟨oA,s,kr,Cl,MA,sT,qZ,LC⟩:=GZ (k:=k) (fun x hx=>vm (vQ x hx).2 (by have:=(vQ x hx).1;omega)) afR (fun e=>by rw[e]at h2;simp at h2);simp only[Ey,sj];rw[<-MA];subst Cl;clear MA;have ahg:oA.length+kr.length+1<8:=by simp only[af,ak]at Aj;omega
  have nE:=vQ s (by simp);obtain⟨nxs,sF,Bj,hs3⟩:=oC.put.apt;obtain⟨hs8,ps,vs⟩:=oC.ps.mem _ _ sF;obtain⟨C,hC⟩:∃C,j9 d s=C:=⟨_,rfl⟩;have nL:(jH d s).length=C:=by rw[yn,hC]
  have hcs:=yT vs nL;have zu:w3.cell? ⟨b,18+oA.length,none⟩=some (.pointer (some ⟨blk d s,0,none⟩)):=by
   have:=vb;exact H8 this (by omega) (by show(((oA++s::kr).map (kI d)).getD oA.length lB).pw=_;rw[ya];rfl)
  have hC8:C<=8:=by rw[<-hC];exact nE.2.le
  have QF:=oC.few;have FZ:b≠blk d s:=fun e=>by
   have:=(bB.1 (Hp ((bS.1 ((qy c _).nodup_iff.1 oC.put.nodup)).2.1))).1;exact this (bm _ (e ▸ r7 d s))
  have xg:tb≠b:=fun e=>by rw[<-e,oC.ps.no]at hb;cases hb
  apply G _;apply mg oA.length (18+oA.length);apply Y zu;apply jF _;refine WC.tn (fun x:KX d=>[(0,.pointer (some ⟨tb,0,none⟩)),(1,.string k),(2,.int .i64 n),(10,.pointer (some ⟨b,0,none⟩)),(11,.int .i64 x.l.length)])
   (fun x w'=>∃yc,PW w st tb k l w' yc c (lW b (x.l++x.s::x.r))/\Lo (x.l.flatMap (kN d)) k/\Hi (x.r.flatMap (kN d)) k/\j9 d x.s<8) rfl ?_ ?_
  ·by_cases h8:C=8
   ·refine WC.sE rfl (by omega) ?_
    apply G _;apply mg oA.length (18+oA.length);apply Y zu;refine WL.call rfl rfl rfl rfl rfl func92 rfl (by kernel_rfl) (Mf oC.ps.mem sF (by show(jH d s).length=8;omega) hs3 (fun OP=>Bj (fun e=>by subst e;cases OP)) oC.kv oC.ps.no (by omega)) ?_;rintro _ w5 ⟨g,rfl,Pc,Gu,xi,oM⟩;refine⟨_,rfl,?_⟩;simp only at Gu;have EW:st' g=none:=by
     cases e:st' g with
     | none=>rfl
     | some nd2=>have:=oC.ps.mem.lt (b:=g) (by rw[e];simp);omega
    have Kw:g≠blk d s:=fun e=>by rw[e,sF]at EW;cases EW
    have hgB:g≠b:=fun e=>by rw[e,hb]at EW;cases EW
    have OM:tb≠g:=by have:=oC.kv.lt;omega
    have p5:tb≠blk d s:=fun e=>by rw[<-e,oC.ps.no]at sF;cases sF
    have Wm:=Zn sF Kw;obtain⟨Df,vU⟩:∃Df,ml (ml st' (blk d s) ⟨d == 0,(jH d s).take 4,if(d == 0)=true then some g else none⟩) g ⟨d == 0,(jH d s).drop 4,nxs⟩=Df:=⟨_,rfl⟩;rw[vU]at Gu Wm;have pG:=oC.ps.step Gu (by rw[<-vU,kD OM,kD p5];exact oC.ps.no) oM fun x hx=>by
     rw[<-vU]at hx
     by_cases e:x=g
     ·right;omega
     ·rw[kD e]at hx
      by_cases e2:x=blk d s
      ·left;rw[e2,sF];simp
      ·rw[kD e2]at hx;exact .inl hx
    have qv:Df b=some ⟨false,(oA++s::kr).map (kI d),none⟩:=by rw[<-vU,kD hgB.symm,kD FZ];exact hb
    have DO:Df g=some ⟨d == 0,(jH d s).drop 4,nxs⟩:=by rw[<-vU,ny]
    obtain⟨-,pb5,CX⟩:=pG.mem _ _ qv;obtain⟨-,pg5,OO⟩:=pG.mem _ _ DO;have Qt:=DA OO (i:=0) (by omega);simp only[ZH (d:=d) (g:=g) (s:=s) (by omega) nE.2]at Qt;apply G _;apply mg 0 2;apply Y Qt;apply G _;refine WL.as 115 (.int .i64 ((oA.length+1:Nat):Int)) rfl rfl ?_;refine WL.call rfl rfl rfl rfl rfl iZ rfl (by kernel_rfl) (uH (i:=oA.length+1) (n:=0) (pw:=some g) CX (by show oA.length+1<=((oA++s::kr).map (kI d)).length;rw[sj];simp) (by show((oA++s::kr).map (kI d)).length<8;rw[sj];exact Aj)) ?_;rintro _ w6 ⟨rfl,o_,D8⟩;refine⟨_,rfl,?_⟩;simp only[acL (d:=d) (g:=g) (s:=s) (l:=oA) (r:=kr) (by omega) nE.2]at D8;have RZ:(oA++(mB d s g).1::(mB d s g).2::kr).length<=8:=by simp only[af,ak];omega
    have tT:=pG.node (b:=b) (by rw[qv];simp) o_ (by show((oA++(mB d s g).1::(mB d s g).2::kr).map (kI d)).length<=8;rw[sj];exact RZ) D8;have A4:=xi.jA o_ xg;have aep:=oC.put.split Aj (by omega) EW Wm;have Bd:(kB D (plug c (lW b (oA++(mB d s g).1::(mB d s g).2::kr)))).length=(kB D (plug c (lW b (oA++s::kr)))).length+1:=by
     rw[Fm,Fm,mD,mD];have:=UX d s g;simp only[an,aq,af,ak];omega
    have al8:PW w st tb k l w6 _ c (lW b (oA++(mB d s g).1::(mB d s g).2::kr)):=⟨tT,aep,by rw[Bd,IC c (t:=lW b (oA++s::kr)) (t':=lW b (oA++(mB d s g).1::(mB d s g).2::kr)) rfl];exact A4⟩;clear tT aep A4 o_ pG xi CX OO Qt Gu oM;obtain⟨alE,-,aiF⟩:=al8.put.kids;apply G _;refine WL.call rfl rfl rfl rfl rfl func93 rfl (by kernel_rfl) (HQ (key:=k) D8 (by show((oA++(mB d s g).1::(mB d s g).2::kr).map (kI d)).length<=8;rw[sj];exact RZ) (by show 1<=((oA++(mB d s g).1::(mB d s g).2::kr).map (kI d)).length;rw[sj];simp only[af,ak];omega)) ?_;rintro _ w7 ⟨rfl,rfl⟩;refine⟨_,rfl,?_⟩;have adw:=fun x hx=>vm (alE x hx).2 (by have:=(alE x hx).1;omega);obtain⟨kl1,s',kr1,amz,arL,ath,ZD,aqY⟩:=GZ (k:=k) adw aiF (by simp);simp only[Ey,sj];rw[<-arL];have hfk:fk d (mB d s g).1=fk d s:=congrArg En.key (Iz (g:=g) (by omega:j9 d s=8) nE.2);have RE:=WK amz (adw _ (by simp)) (fun x hx=>adw x (by simp[hx])) (fun e=>by rw[hfk];exact LC e) qZ ZD aqY;obtain⟨vN,rE⟩:=Bh d s g (by omega);apply G _;refine WQ.meet ⟨kl1,s',kr1⟩ ⟨rfl,rfl,rfl,rfl,rfl,trivial⟩ ⟨_,by rw[<-amz];exact al8,ath,ZD,?_⟩;rcases RE with e|e<;>(show j9 d s'<8;rw[e];omega)
   ·refine WC.q_ rfl (by omega) ?_
    apply G _;exact WQ.meet ⟨oA,s,kr⟩ ⟨rfl,rfl,rfl,rfl,rfl,trivial⟩ ⟨st',oC,sT,qZ,by show j9 d s<8;omega⟩
  clear vb l0 vQ afR h2 hb sT qZ LC ahg nE sF Bj hs3 hs8 vs nL hcs zu hC8 hC QF FZ oC Aj EK;rintro⟨oA,s,kr⟩ w6 ⟨Wd,oC,sT,qZ,hc⟩;simp only at oC sT qZ hc;obtain⟨vQ,Bf,-⟩:=oC.put.kids;have ahg:oA.length<8:=by simp only[af,ak]at Bf;omega
  have hb:=(nZ.1 oC.put.Pu).1;obtain⟨-,pb,vb⟩:=oC.ps.mem _ _ hb;have xl:=DA vb (i:=oA.length) (by omega);simp only[ya]at xl;have asV:w6.cell? ⟨b,2+oA.length,none⟩=some (.string (fk d s)):=xl;apply mA _;refine WC.drawn 13 (fun wx=>wx.heap=w6.heap) fun w7 hd=>?_;have hS:=hd.heap;have KH:=vb.below (hd.below _) vb.lt;have Ff:=oC.ps.step (oC.ps.mem.below (hd.below _)) oC.ps.no (Z.pU hd _) fun x hx=>.inl hx;have J9:=oC.kv.below (hd.below _) oC.kv.lt;clear hd;apply jC [0,1,2,3,4,5] hS _;apply kU 6 oA.length (2+oA.length) (.inr hS);apply jz 7 [9,12,13] (fun wx hx=>(lH hx _).trans asV) hS;apply jC [8,10,11] hS _;apply jS 9;apply WL.aqK rfl rfl rfl rfl rfl rfl;apply lI hS;apply kU 12 oA.length (2+oA.length) (.inr hS);apply jS 13;refine WL.store rfl rfl rfl rfl rfl rfl (by kernel_rfl) (lN KH (by omega)) (KH.free _) ?_;have v8:=xd KH (2+oA.length) (.string (zG (fk d s) k));have sj:((oA++s::kr).map (kI d)).length=(oA++s::kr).length:=aB ..;rw[Om _ _ (by show oA.length<((oA++s::kr).map (kI d)).length;rw[sj];simp) (by show((oA++s::kr).map (kI d)).length<=8;rw[sj];exact Bf)]at v8;simp only[ya,U_]at v8;have k8:Z (fun x=>x≠b) w7 (w7.setCell ⟨b,2+oA.length,none⟩ (.string (zG (fk d s) k))):=(Z.refl _ _).setCell (fun hk=>hk rfl) _;have xg:tb≠b:=fun e=>by rw[<-e,oC.ps.no]at hb;cases hb
  have Wn:=Ff.node (b:=b) (by rw[hb];simp) k8 (by show(oA.map (kI d)++_::kr.map (kI d)).length<=8;simp only[af,aB,ak]at Bf ⊢;exact Bf) v8;have hh8:=J9.jA k8 xg;generalize w7.setCell ⟨b,2+oA.length,none⟩ (.string (zG (fk d s) k))=w8 at v8 k8 Wn hh8 ⊢;apply(jZ);apply(jD);have zu:w8.cell? ⟨b,18+oA.length,none⟩=some (.pointer (some ⟨blk d s,0,none⟩)):=by
   refine H8 v8 (by omega) ?_
   show((oA.map (kI d)++_::kr.map (kI d)).getD oA.length lB).pw=_
   rw[ah,aE (by simp)];simp[kI]
  apply G _;apply mg oA.length (18+oA.length);apply Y zu;apply G _;refine WQ.again ⟨D,d,.down c b oA kr,s⟩ ⟨rfl,rfl,rfl,rfl,trivial⟩ ⟨_,⟨Wn,?_,?_⟩,hc⟩ (by show d<d+1;omega)
  ·exact oC.put.down sT qZ
  ·simp only[qc];exact hh8
open Tre
theorem PS.node2 {qP st':St}{nb nc:Nd}(h:PS w0 qP tb w' st')(hb:st' b≠none)(hc:st' c≠none)(hk:Z (fun x=>x≠b/\x≠c) w' w2)(hlb:nb.es.length<=8)(hlc:nc.es.length<=8)(Gl:U mH w2 b (j5 (nS nb pb)))(wC:U mH w2 c (j5 (nS nc pc))): PS w0 qP tb w2 (ml (ml st' b nb) c nc):=by
 have tX:tb≠b:=fun e=>hb (by rw[<-e];exact h.no);have sM:tb≠c:=fun e=>hc (by rw[<-e];exact h.no);refine h.step (fun x nd e=>?_) (by rw[kD sM,kD tX];exact h.no) (hk.mono fun x hx=>⟨fun e=>hb (by rw[<-e];exact hx.2.1),fun e=>hc (by rw[<-e];exact hx.2.1)⟩) fun x hx=>?_
 ·by_cases SZ:x=c
  ·subst SZ;rw[ny]at e;obtain rfl:=az e;exact⟨hlc,pc,wC⟩
  ·rw[kD SZ]at e
   by_cases GU:x=b
   ·subst GU;rw[ny]at e;obtain rfl:=az e;exact⟨hlb,pb,Gl⟩
   ·rw[kD GU]at e
    obtain⟨h1,pv,h2⟩:=h.mem x nd e;exact⟨h1,pv,h2.jA hk ⟨GU,SZ⟩⟩
 ·by_cases SZ:x=c
  ·rw[SZ];exact .inl hc
  ·rw[kD SZ]at hx
   by_cases GU:x=b
   ·rw[GU];exact .inl hb
   ·rw[kD GU]at hx;exact .inl hx
theorem PS.prev {qP st':St}(h:PS w0 qP tb w' st')(hq:st' q≠none)(x:Option Nat): PS w0 qP tb (w'.setCell (Aq q 27) (m8 x)) st' :=
 h.step (h.mem.Um hq x) h.no (Z.setCell (Z.refl _ _) (fun hk=>hq hk.2.1) _) fun _ hx=>.inl hx
theorem abL (p q:List (Tr d))(a c:Tr d)(z:Tr d)(hz:kI d z=kI d a): era ((p++a::c::q).map (kI d)) (p.length+1)=(p++z::q).map (kI d):=by
 unfold era;have hl:(p.map (kI d)).length=p.length:=aB ..;simp only[aV,aY];rw[fY,eA,hl,bg (by rw[hl];omega),cD (by rw[hl];omega),show p.length+1 - p.length=1 by omega,show p.length+1+1 - p.length=2 by omega,hz];simp
theorem acG (p q:List (Tr d))(a c a' c':Tr d)(ha:kI d a'=kI d a)(x:Tre.En)(hx:x=kI d c'): ((p++a::c::q).map (kI d)).set (p.length+1) x=(p++a'::c'::q).map (kI d):=by
 have hl:(p.map (kI d)).length=p.length:=aB ..;simp only[aV,aY];rw[dj _ _ (by rw[hl];omega),hl,show p.length+1 - p.length=1 by omega,ha,hx]
 rfl
theorem MT (p q:List (Tr d))(a c:Tr d)(z:Tre.En): ((p++a::c::q).map (kI d)).getD (p.length+1) z=kI d c:=by
 have hl:(p.map (kI d)).length=p.length:=aB ..;simp only[aV,aY,ah];rw[aE (by rw[hl];omega),hl,show p.length+1 - p.length=1 by omega]
 rfl
theorem ag4 {a c:Tr d}(hm:Mn d a)(h1:1<=j9 d a): kI d (jn d a c)=kI d a:=by
 unfold kI fk;rw[Q5,u9 (vm hm h1),aja]
theorem agC {a c:Tr d}(hm:Mn d a)(h1:1<=j9 d a)(hm':Mn d (rd j d a c).1)(CE:1<=j9 d (rd j d a c).1): kI d (rd j d a c).1=kI d a:=by
 unfold kI fk;have:=ZG j d a c;rw[<-u9 (vm hm' CE) (b:=kN d (rd j d a c).2),this,u9 (vm hm h1),(ZU j d a c).1]
theorem Sw {st:St}{ks:List (Tr d)}(h:At st (d+1) (lW b ks) nx){s:Tr d}(hs:s∈ks): ∃MX,st (blk d s)=some ⟨d == 0,jH d s,MX⟩/\(d≠0->MX=none):=by
 obtain⟨nx2,h2⟩:=Be (l:=ks) h.uQ s hs;exact nodeAt ((nZ.1 h.rep).2 s hs) h2
theorem sh1 (x y:List Tre.En)(hx:x.length=A)(hy:1<=y.length): (x++y).take (A+1)=x++[⟨(y.getD 0 lB).key,(y.getD 0 lB).num,(y.getD 0 lB).pw⟩]/\(x++y).drop (A+1)=era y 0:=by
 cases y with
 | nil=>simp at hy
 | cons e y=>
  subst hx;refine⟨?_,?_⟩
  ·rw[fY,bg I,show x.length+1 - x.length=1 by omega];rfl
  ·rw[eA,cD I,show x.length+1 - x.length=1 by omega];rfl
theorem sh2 (x y:List Tre.En)(hx:x.length=A+1): (x++y).take A=era x A/\(x++y).drop A=ins y 0 ⟨(x.getD A lB).key,(x.getD A lB).num,(x.getD A lB).pw⟩:=by
 refine⟨?_,?_⟩
 ·rw[VV _ hx,bZ I]
 ·rw[eC I,Nb _ I,bI I,cD I];rfl
theorem WJ {st:St}{p q:List (Tr d)}{a c:Tr d}(hm:Mem w st)(nI:st tb=none)(ly:At st (d+1) (lW b (p++a::c::q)) nx)(wY:∀nd,st (blk d c)=some nd->∀q,nd.next=some q->st q≠none)(EI:Mn d a)(ET:Mn d c)(Yk:3<=j9 d a)(De:3<=j9 d c)(h33:j9 d a=3\/j9 d c=3)(hlen:(p++a::c::q).length<=8)(hh:U mT w tb (oL root size (m+1)))(hmm:m<4611686018427387904):
  Calls prog 129 #[.pointer (some ⟨tb,0,none⟩),.pointer (some ⟨b,0,none⟩),.int .i64 p.length] w fun e w'=>e=.returned (.tuple #[])/\∃st' t',r6 st st' (d+1) (lW b (p++a::c::q)) t' nx/\PS w st tb w' st'/\(∀x,st' x≠none->st x≠none)/\
   ((j9 d a+j9 d c<=8/\t'=lW b (p++jn d a c::q)/\U mT w' tb (oL root size m))\/(8<j9 d a+j9 d c/\∃j,4<=j/\j<=8/\j+4<=j9 d a+j9 d c/\j9 d a+j9 d c<=j+8/\t'=lW b (p++(rd j d a c).1::(rd j d a c).2::q)/\U mT w' tb (oL root size (m+1)))):=by
 apply kq func129 ntmps129;have pk:=PS.start hm nI;obtain⟨xK,hpr⟩:=bB.1 (RI ly.nodup);obtain⟨amm,-,-⟩:=bS.1 hpr;obtain⟨-,-,amc⟩:=bS.1 amm;have vi:blk d a≠blk d c:=amc _ (r7 d a) _ (r7 d c);have F4:b≠blk d a:=fun e=>xK (by simp only[au];exact .inl (.inl (e ▸ r7 d a)));have FK:b≠blk d c:=fun e=>xK (by simp only[au];exact .inl (.inr (e ▸ r7 d c)));clear xK hpr amm amc;have hb:st b=some ⟨false,(p++a::c::q).map (kI d),none⟩:=(nZ.1 ly.rep).1;obtain⟨Vu,Kx,hxa⟩:=Sw ly (s:=a) (by simp);obtain⟨wM,Kr,SZ⟩:=Sw ly (s:=c) (by simp);have tR:tb≠b:=fun e=>by rw[<-e,nI]at hb;cases hb
 have zf:tb≠blk d a:=fun e=>by rw[<-e,nI]at Kx;cases Kx
 have htc:tb≠blk d c:=fun e=>by rw[<-e,nI]at Kr;cases Kr
 obtain⟨-,pb,vb⟩:=hm _ _ hb;obtain⟨-,pa,va⟩:=hm _ _ Kx;obtain⟨-,pc,vc⟩:=hm _ _ Kr;obtain⟨A,hA⟩:∃A,j9 d a=A:=⟨_,rfl⟩;obtain⟨C,hC⟩:∃C,j9 d c=C:=⟨_,rfl⟩;have hA8:A<=8:=by rw[<-hA];exact EI.le
 have hC8:C<=8:=by rw[<-hC];exact ET.le
 have ui:(jH d a).length=A:=by rw[yn,hA]
 have hlc:(jH d c).length=C:=by rw[yn,hC]
 rw[hA]at Yk;rw[hC]at De;rw[hA,hC]at h33;have hp7:p.length+2<=8:=by simp only[af,ak]at hlen;omega
 have sj:∀l:List (Tr d),(l.map (kI d)).length=l.length:=fun l=>aB ..;have xL:=H8 vb (i:=p.length) (q:=blk d a) (by omega) (by show(((p++a::c::q).map (kI d)).getD p.length lB).pw=_;rw[ya];rfl);have Xs:=H8 vb (i:=p.length+1) (q:=blk d c) (by omega) (by show(((p++a::c::q).map (kI d)).getD (p.length+1) lB).pw=_;rw[MT];rfl);apply mA _;refine WC.drawn 14 (fun wx=>wx.heap=w.heap) fun w1 hd=>?_;have hS:w1.heap=w.heap:=hd.heap;have pk:=pk.step (pk.mem.below (hd.below _)) pk.no (Z.pU hd _) fun x hx=>.inl hx;replace vb:=vb.below (hd.below _) vb.lt;replace va:=va.below (hd.below _) va.lt;replace vc:=vc.below (hd.below _) vc.lt;replace hh:=hh.below (hd.below _) hh.lt;clear hd;apply jC [0,1,2,3] hS _;apply kU 4 p.length (18+p.length) (.inr hS);apply jz 5 [13,14] (fun wx hx=>(lH hx _).trans xL) hS;apply jC [6,7,8,9,10] hS _;apply kU 11 (p.length+1) (18+(p.length+1)) (.inr hS);apply jz 12 [14] (fun wx hx=>(lH hx _).trans Xs) hS;apply jC [13] hS _;apply jS 14;apply(jN);apply(jZ);apply(jD);clear hS xL Xs;have KA:=yT va ui;have hcc:=yT vc hlc;apply mA _;refine WC.drawn 8 (fun wx=>wx.heap=w1.heap) fun w2 hd=>?_;have hS:w2.heap=w1.heap:=hd.heap;have pk:=pk.step (pk.mem.below (hd.below _)) pk.no (Z.pU hd _) fun x hx=>.inl hx;replace vb:=vb.below (hd.below _) vb.lt;replace va:=va.below (hd.below _) va.lt;replace vc:=vc.below (hd.below _) vc.lt;replace hh:=hh.below (hd.below _) hh.lt;clear hd;apply jC [0,1,2] hS _;apply jz 3 [8,9] (fun wx hx=>(lH hx _).trans KA) hS;apply jC [4,5,6] hS _;apply jz 7 [8,9] (fun wx hx=>(lH hx _).trans hcc) hS;apply jS 8
 (refine WL.pure rfl rfl rfl rfl ?_;try (first|((with_reducible refine WL.G3 ?_ ?_);omega)|((with_reducible refine WL.G9 ?_ ?_);omega)|((with_reducible refine WL.Cc ?_ ?_);omega)))
 apply(jZ);clear hS KA hcc
 -- what is left to say
 have fin:∀ {wz:World}{stz:St}{t':Tr (d+1)},PS w st tb wz stz->r6 st stz (d+1) (lW b (p++a::c::q)) t' nx->(∀x,stz x≠none->st x≠none)->
   ((A+C<=8/\t'=lW b (p++jn d a c::q)/\U mT wz tb (oL root size m))\/(8<A+C/\∃j,4<=j/\j<=8/\j+4<=A+C/\A+C<=j+8/\t'=lW b (p++(rd j d a c).1::(rd j d a c).2::q)/\U mT wz tb (oL root size (m+1))))->
   ∃st' t',r6 st st' (d+1) (lW b (p++a::c::q)) t' nx/\PS w st tb wz st'/\(∀x,st' x≠none->st x≠none)/\
   ((j9 d a+j9 d c<=8/\t'=lW b (p++jn d a c::q)/\U mT wz tb (oL root size m))\/(8<j9 d a+j9 d c/\∃j,4<=j/\j<=8/\j+4<=j9 d a+j9 d c/\j9 d a+j9 d c<=j+8/\t'=lW b (p++(rd j d a c).1::(rd j d a c).2::q)/\U mT wz tb (oL root size (m+1)))):=fun h1 h2 h3 h4=>⟨_,_,h2,h1,h3,by rw[hA,hC];exact h4⟩
 by_cases ae6:A+C<=8
 ·(apply ke 9 rfl _)
  apply(jD);apply G _;apply WL.call rfl rfl rfl rfl rfl func127 rfl jG (Mj (f:=0) vc va vi.symm (ay _) (by show(jH d c).length<=8;omega) (by show(jH d a).length+((jH d c).length - 0)<=8;omega));rintro _ w3 ⟨rfl,oN,vc3,SM⟩;refine⟨_,rfl,?_⟩;simp only[cj,ff]at vc3 SM;have xT:=pk.node2 (b:=blk d c) (c:=blk d a) (by rw[Kr];simp) (by rw[Kx];simp) oN (by simp) (by show(jH d a++jH d c).length<=8;rw[af];omega) vc3 SM;have vb3:=vb.jA oN ⟨FK,F4⟩;have Dy:=hh.jA oN ⟨htc,zf⟩;clear pk vb va vc hh oN;have alV:w3.cell? ⟨blk d a,0,none⟩=some (.bool (d == 0)):=lN SM (by omega);have join:∀ {stz:St},(∀wM,st (blk d c)=some ⟨d == 0,jH d c,wM⟩->stz (blk d a)=some ⟨d == 0,jH d a++jH d c,wM⟩)->stz b=some ⟨false,(p++jn d a c::q).map (kI d),none⟩->(∀x,x≠b->x≠blk d a->x≠blk d c->stz x=st x)->r6 st stz (d+1) (lW b (p++a::c::q)) (lW b (p++jn d a c::q)) nx:=fun h1 h2 h3=>r6.join ly h1 h2 h3;have atu:=abL p q a c (jn d a c) (ag4 EI (by omega));apply jF _;refine WC.tn (fun _:Unit=>[(0,.pointer (some ⟨tb,0,none⟩)),(1,.pointer (some ⟨b,0,none⟩)),(2,.int .i64 p.length)]) (fun _ w'=>∃stz,PS w st tb w' stz/\(∀wM,st (blk d c)=some ⟨d == 0,jH d c,wM⟩->stz (blk d a)=some ⟨d == 0,jH d a++jH d c,wM⟩)/\(∀x,x≠blk d a->x≠blk d c->stz x=st x)/\(∀x,stz x≠none->st x≠none)/\U mT w' tb (oL root size (m+1))) rfl ?_ ?_
  ·have Fa:∀(v:Option Nat) x,ml (ml st (blk d c) ⟨d == 0,[],wM⟩) (blk d a) ⟨d == 0,jH d a++jH d c,v⟩ x≠none->st x≠none:=fun v x hx=>by
    by_cases e:x=blk d a
    ·rw[e,Kx];simp
    ·rw[kD e]at hx
     by_cases e2:x=blk d c
     ·rw[e2,Kr];simp
     ·rw[kD e2]at hx;exact hx
   have EV:∀(v:Option Nat) x,x≠blk d a->x≠blk d c->ml (ml st (blk d c) ⟨d == 0,[],wM⟩) (blk d a) ⟨d == 0,jH d a++jH d c,v⟩ x=st x:=fun v x h1 h2=>by rw[kD h1,kD h2]
   cases d with
   | succ d=>
    apply WC.condFalse rfl;apply G _;refine WQ.meet () ⟨rfl,rfl,rfl,trivial⟩ ⟨_,xT,fun Mc hx=>?_,EV _,Fa _,Dy⟩;rw[Kr]at hx
    injection hx with hx;injection hx with _ _ hx
    rw[ny,<-hx,hxa (by omega),SZ (by omega)]
   | zero=>
    have Dz:w3.cell? ⟨blk 0 c,26,none⟩=some (m8 wM):=lN vc3 (by omega);apply WC.condTrue rfl;apply jF _;apply jT (hv:=(EG _)) (lN SM (by omega)) (SM.free 26);have Te:=xd SM 26 (m8 wM);rw[IF]at Te;have k4:Z (fun x=>x≠blk 0 a) w3 (w3.setCell ⟨blk 0 a,26,none⟩ (m8 wM)):=(Z.refl _ _).setCell (fun hk=>hk rfl) _;have qW:=xT.node (b:=blk 0 a) (by rw[ny];simp) k4 (by show(jH 0 a++jH 0 c).length<=8;rw[af];omega) Te;rw[Wu]at qW;have AH:=Dy.jA k4 zf;generalize w3.setCell ⟨blk 0 a,26,none⟩ (m8 wM)=w4 at Te k4 qW AH ⊢;clear Dz SM xT Dy alV k4;have han:w4.cell? ⟨blk 0 a,26,none⟩=some (m8 wM):=lN Te (by omega);have mq:∀Mc,st (blk 0 c)=some ⟨(0:Nat) == 0,jH 0 c,Mc⟩->ml (ml st (blk 0 c) ⟨(0:Nat) == 0,[],wM⟩) (blk 0 a) ⟨(0:Nat) == 0,jH 0 a++jH 0 c,wM⟩ (blk 0 a)=some ⟨(0:Nat) == 0,jH 0 a++jH 0 c,Mc⟩:=fun Mc hx=>by
     rw[Kr]at hx
     injection hx with hx;injection hx with _ _ hx
     rw[ny,hx]
    have hvq:=wY _ Kr;simp only at hvq;apply jF _;cases wM with
    | none=>
     apply WL.as 49 (.pointer none) rfl rfl;refine WL.tk rfl rfl rfl rfl rfl rfl (by kernel_rfl) ?_;apply G _;exact WQ.meet () ⟨rfl,rfl,rfl,trivial⟩ ⟨_,qW,mq,EV _,Fa _,AH⟩
    | some q0=>
     have hq:=hvq q0 rfl;have hq4:ml (ml st (blk 0 c) ⟨(0:Nat) == 0,[],some q0⟩) (blk 0 a) ⟨(0:Nat) == 0,jH 0 a++jH 0 c,some q0⟩ q0≠none:=by
      unfold ml
      split
      ·simp
      ·split
       ·simp
       ·exact hq
     obtain⟨ndq,ail⟩:=eX.1 hq4;obtain⟨-,pq,vq⟩:=qW.mem q0 ndq ail;have hqt:tb≠q0:=fun e=>hq (by rw[<-e];exact nI);have aAc:w4.cell? ⟨blk 0 a,26,none⟩=some (.pointer (some ⟨q0,0,none⟩)):=han;clear han;refine WL.as 49 (.pointer (some ⟨q0,0,none⟩)) rfl rfl ?_;refine WL.tk rfl rfl rfl rfl rfl rfl (by kernel_rfl) ?_;apply jF _;apply jT (v:=m8 (some (blk 0 a))) (lN vq (by omega)) (vq.free 27);have pG:=qW.prev hq4 (some (blk 0 a));have xi:=AH.jA (Z.setCell (Z.refl (fun x=>x≠q0) w4) (p:=⟨q0,27,none⟩) (fun hk=>hk rfl) (m8 (some (blk 0 a)))) hqt;generalize w4.setCell ⟨q0,27,none⟩ (m8 (some (blk 0 a)))=w5 at pG xi ⊢;apply G _;exact WQ.meet () ⟨rfl,rfl,rfl,trivial⟩ ⟨_,pG,mq,EV _,Fa _,xi⟩
  clear xT vc3 SM vb3 Dy alV;rintro⟨⟩ w5 ⟨stz,pG,h1,h2,h3,xi⟩;have Sj:stz b=some ⟨false,(p++a::c::q).map (kI d),none⟩:=(h2 b F4 FK).trans hb;obtain⟨-,pb5,CX⟩:=pG.mem _ _ Sj;apply G _;refine WL.as 60 (.int .i64 ((p.length+1:Nat):Int)) rfl rfl ?_;apply WL.call rfl rfl rfl rfl rfl func128 rfl jG (AK (i:=p.length+1) CX (by show p.length+1<((p++a::c::q).map (kI d)).length;rw[sj];simp) (by show((p++a::c::q).map (kI d)).length<=8;rw[sj];exact hlen));rintro _ w6 ⟨rfl,o_,D8⟩;refine⟨_,rfl,?_⟩;simp only[atu]at D8;have tT:=pG.node (b:=b) (by rw[Sj];simp) o_ (by show((p++jn d a c::q).map (kI d)).length<=8;rw[sj];simp only[af,ak]at hlen ⊢;omega) D8;have A4:=xi.jA o_ tR;have oh:w6.cell? ⟨tb,2,none⟩=some (.int .i64 ((m+1:Nat):Int)):=A4.cell 2 (by simp[oL]);have wv:=join (stz:=ml stz b ⟨false,(p++jn d a c::q).map (kI d),none⟩) (fun Mc hx=>by rw[kD F4.symm];exact h1 Mc hx) (ny _ _ _) (fun x hx1 EP hx3=>by rw[kD hx1];exact h2 x EP hx3);apply jF _;apply jT oh (A4.free 2);have J9:U mT (w6.setCell ⟨tb,2,none⟩ (.int .i64 (((m+1:Nat):Int) - 1))) tb (oL root size m):=by
   have:=A4.set 2 (.int .i64 (((m+1:Nat):Int) - 1));rw[show(((m+1:Nat):Int) - 1)=(m:Int) by omega]at this ⊢;exact this
  have Ff:=tT.kv 2 (.int .i64 (((m+1:Nat):Int) - 1));generalize w6.setCell ⟨tb,2,none⟩ (.int .i64 (((m+1:Nat):Int) - 1))=w7 at Ff J9 ⊢;apply G _;refine WQ.aeO rfl ⟨rfl,fin Ff wv (fun x hx=>?_) (.inl ⟨ae6,rfl,J9⟩)⟩
  by_cases e:x=b
  ·rw[e,hb];simp
  ·rw[kD e]at hx;exact h3 x hx
 ·(apply ke 9 rfl _)
  apply(jD);have KA:=yT va ui;have hcc:=yT vc hlc;apply G _;refine WC.drawn 8 (fun wx=>wx.heap=w2.heap) fun w3 hd=>?_;have hS:w3.heap=w2.heap:=hd.heap;have pk:=pk.step (pk.mem.below (hd.below _)) pk.no (Z.pU hd _) fun x hx=>.inl hx;replace vb:=vb.below (hd.below _) vb.lt;replace va:=va.below (hd.below _) va.lt;replace vc:=vc.below (hd.below _) vc.lt;replace hh:=hh.below (hd.below _) hh.lt;clear hd;apply jC [0,1,2] hS _;apply jz 3 [8] (fun wx hx=>(lH hx _).trans KA) hS;apply jC [4,5,6] hS _;apply jz 7 [8] (fun wx hx=>(lH hx _).trans hcc) hS;apply jS 8;apply(jN);apply(jZ);apply(jD);clear hS KA hcc;apply mA _;refine WC.tn (fun _:Unit=>[(0,.pointer (some ⟨tb,0,none⟩)),(1,.pointer (some ⟨b,0,none⟩)),(2,.int .i64 p.length),(7,.pointer (some ⟨blk d c,0,none⟩))])
   (fun _ w'=>∃j,4<=j/\j<=8/\j+4<=A+C/\A+C<=j+8/\PS w st tb w' (ml (ml st (blk d a) ⟨d == 0,(jH d a++jH d c).take j,Vu⟩) (blk d c) ⟨d == 0,(jH d a++jH d c).drop j,wM⟩)/\U mT w' tb (oL root size (m+1))) rfl ?_ ?_
  ·by_cases j6:A<C
   ·refine WC.sE rfl (by omega) ?_
    obtain⟨e1,e2⟩:=sh1 (jH d a) (jH d c) ui (by omega);have q0:=yT va ui;have q1:=DA vc (i:=0) (by omega);have q2:=TR vc (i:=0) (by omega);have q3:w3.cell? ⟨blk d c,18,none⟩=some (m8 ((jH d c).getD 0 lB).pw):=by rw[lN vc (j:=18) (by omega),xk _ _ (i:=0) (by omega)]
    apply G _;refine WC.drawn 20 (fun wx=>wx.heap=w3.heap) fun w4 hd=>?_;have hS:w4.heap=w3.heap:=hd.heap;have pk:=pk.step (pk.mem.below (hd.below _)) pk.no (Z.pU hd _) fun x hx=>.inl hx;replace va:=va.below (hd.below _) va.lt;replace vc:=vc.below (hd.below _) vc.lt;replace hh:=hh.below (hd.below _) hh.lt;clear hd;apply jC [0,1,2,3] hS _;apply jz 4 [20] (fun wx hx=>(lH hx _).trans q0) hS;apply jC [5,6,7] hS _;apply kU 8 0 2 (.inr hS);apply jz 9 [20] (fun wx hx=>(lH hx _).trans q1) hS;apply jC [10,11,12] hS _;apply kU 13 0 10 (.inr hS);apply jz 14 [20] (fun wx hx=>(lH hx _).trans q2) hS;apply jC [15,16,17] hS _;apply kU 18 0 18 (.inr hS);apply jz 19 [20] (fun wx hx=>(lH hx _).trans q3) hS;apply jS 20;apply WL.call rfl rfl rfl rfl rfl iZ rfl jG (uH (i:=A) (n:=((jH d c).getD 0 lB).num) (pw:=((jH d c).getD 0 lB).pw) va (by show A<=(jH d a).length;omega) (by show(jH d a).length<8;omega));rintro _ w5 ⟨rfl,oM,va5⟩;refine⟨_,rfl,?_⟩;have pN:ins (jH d a) A ⟨((jH d c).getD 0 lB).key,((jH d c).getD 0 lB).num,((jH d c).getD 0 lB).pw⟩=(jH d a++jH d c).take (A+1):=by rw[e1,<-ui,Uc]
    simp only at va5;rw[pN]at va5;have LK:((jH d a++jH d c).take (A+1)).length<=8:=by rw[aC,af];omega
    have pG:=pk.node (b:=blk d a) (by rw[Kx];simp) oM LK va5;have XV:=vc.jA oM vi.symm;have xi:=hh.jA oM zf;apply(jZ);apply(jD);apply G _;apply WL.call rfl rfl rfl rfl rfl func128 rfl jG (AK (i:=0) XV (by show 0<(jH d c).length;omega) (by show(jH d c).length<=8;omega));rintro _ w6 ⟨rfl,o_,vc6⟩;refine⟨_,rfl,?_⟩;simp only at vc6;rw[<-e2]at vc6;have tT:=pG.node (b:=blk d c) (by rw[kD vi.symm,Kr];simp) o_ (by show((jH d a++jH d c).drop (A+1)).length<=8;rw[aQ,af];omega) vc6;have A4:=xi.jA o_ htc;apply G _;exact WQ.meet () ⟨rfl,rfl,rfl,rfl,trivial⟩ ⟨A+1,by omega,by omega,by omega,by omega,tT,A4⟩
   ·refine WC.q_ rfl (by omega) ?_
    obtain⟨A',rfl⟩:∃A',A=A'+1:=⟨A - 1,by omega⟩;obtain⟨e1,e2⟩:=sh2 (jH d a) (jH d c) ui;have nH:((A'+1:Nat):Int) - 1=A':=by omega
    have q0:=yT va ui;have q1:=DA va (i:=A') (by omega);have q2:=TR va (i:=A') (by omega);have q3:w3.cell? ⟨blk d a,18+A',none⟩=some (m8 ((jH d a).getD A' lB).pw):=by rw[lN va (j:=18+A') (by omega),xk _ _ (i:=A') (by omega)]
    apply jF _;refine WC.as 8 (.int .i64 A') rfl (congrArg (Value.int .i64) nH) ?_;refine WC.drawn 19 (fun wx=>wx.heap=w3.heap) fun w4 hd=>?_;have hS:w4.heap=w3.heap:=hd.heap;have pk:=pk.step (pk.mem.below (hd.below _)) pk.no (Z.pU hd _) fun x hx=>.inl hx;replace va:=va.below (hd.below _) va.lt;replace vc:=vc.below (hd.below _) vc.lt;replace hh:=hh.below (hd.below _) hh.lt;clear hd;apply jC [0,1,2,3,4] hS _;apply kU 5 A' (2+A') (.inr hS);apply jz 6 [19] (fun wx hx=>(lH hx _).trans q1) hS;apply jC [7,8,9,10] hS _;apply kU 11 A' (10+A') (.inr hS);apply jz 12 [19] (fun wx hx=>(lH hx _).trans q2) hS;apply jC [13,14,15,16] hS _;apply kU 17 A' (18+A') (.inr hS);apply jz 18 [19] (fun wx hx=>(lH hx _).trans q3) hS;apply jS 19;apply WL.call rfl rfl rfl rfl rfl iZ rfl jG (uH (i:=0) (n:=((jH d a).getD A' lB).num) (pw:=((jH d a).getD A' lB).pw) vc (ay _) (by show(jH d c).length<8;omega));rintro _ w5 ⟨rfl,oM,XV⟩;refine⟨_,rfl,?_⟩;simp only at XV;rw[<-e2]at XV;have LK:((jH d a++jH d c).drop A').length<=8:=by rw[aQ,af];omega
    have pG:=pk.node (b:=blk d c) (by rw[Kr];simp) oM LK XV;have va5:=va.jA oM vi;have xi:=hh.jA oM htc;apply(jZ);apply(jD);apply G _;apply WL.call rfl rfl rfl rfl rfl func128 rfl jG (AK (i:=A') va5 (by show A'<(jH d a).length;omega) (by show(jH d a).length<=8;omega));rintro _ w6 ⟨rfl,o_,va6⟩;refine⟨_,rfl,?_⟩;simp only at va6;rw[<-e1]at va6;have tT:=pG.node (b:=blk d a) (by rw[kD vi,Kx];simp) o_ (by show((jH d a++jH d c).take A').length<=8;rw[aC,af];omega) va6;have A4:=xi.jA o_ zf;have hsw:ml (ml st (blk d c) ⟨d == 0,(jH d a++jH d c).drop A',wM⟩) (blk d a) ⟨d == 0,(jH d a++jH d c).take A',Vu⟩=ml (ml st (blk d a) ⟨d == 0,(jH d a++jH d c).take A',Vu⟩) (blk d c) ⟨d == 0,(jH d a++jH d c).drop A',wM⟩:=by
     funext x
     unfold ml
     by_cases e:x=blk d a
     ·subst e;simp[vi]
     ·simp[e]
    rw[hsw]at tT;apply G _;exact WQ.meet () ⟨rfl,rfl,rfl,rfl,trivial⟩ ⟨A',by omega,by omega,by omega,by omega,tT,A4⟩
  clear vb va vc hh pk;rintro⟨⟩ w5 ⟨j,Za,ub,hj3,hj4,pG,xi⟩;obtain⟨Df,vU⟩:∃Df,ml (ml st (blk d a) ⟨d == 0,(jH d a++jH d c).take j,Vu⟩) (blk d c) ⟨d == 0,(jH d a++jH d c).drop j,wM⟩=Df:=⟨_,rfl⟩;rw[vU]at pG;have qv:Df b=some ⟨false,(p++a::c::q).map (kI d),none⟩:=by rw[<-vU,kD FK,kD F4];exact hb
  have Wh:Df (blk d c)=some ⟨d == 0,(jH d a++jH d c).drop j,wM⟩:=by rw[<-vU,ny]
  have ha5:Df (blk d a)=some ⟨d == 0,(jH d a++jH d c).take j,Vu⟩:=by rw[<-vU,kD vi,ny]
  obtain⟨-,pb5,CX⟩:=pG.mem _ _ qv;obtain⟨-,pc5,XV⟩:=pG.mem _ _ Wh;obtain⟨re1,re2⟩:=Nt j d a c;obtain⟨rc1,rc2⟩:=KT j d a c (by rw[hA,hC];omega);rw[hA,hC]at rc2;obtain⟨rm1,rm2⟩:=agO (j:=j) EI ET ub (by rw[hA,hC];omega) (by rw[hA,hC];omega);have I5:(((jH d a++jH d c).drop j).getD 0 lB).key=fk d (rd j d a c).2:=by rw[<-re2];exact Cu rm2 (by omega) _
  have q1:=DA XV (i:=0) (by omega);simp only[I5]at q1;have Fw:(⟨fk d (rd j d a c).2,(((p++a::c::q).map (kI d)).getD (p.length+1) lB).num,(((p++a::c::q).map (kI d)).getD (p.length+1) lB).pw⟩:Tre.En)=kI d (rd j d a c).2:=by
   rw[MT];unfold kI;rw[(ZU j d a c).2]
  have ql:=acG p q a c (rd j d a c).1 (rd j d a c).2 (agC EI (by omega) rm1 (by omega)) _ Fw;apply mA _;refine WC.drawn 11 (fun wx=>wx.heap=w5.heap) fun w6 hd=>?_;have hS:w6.heap=w5.heap:=hd.heap;have tT:=pG.step (pG.mem.below (hd.below _)) pG.no (Z.pU hd _) fun x hx=>.inl hx;have D8:=CX.below (hd.below _) CX.lt;have A4:=xi.below (hd.below _) xi.lt;clear hd;apply jC [0,1,2,3,4,5] hS _;apply kU 6 0 2 (.inr hS);apply jz 7 [10,11] (fun wx hx=>(lH hx _).trans q1) hS;apply jC [8,9] hS _;apply kU 10 (p.length+1) (2+(p.length+1)) (.inr hS);apply jS 11;refine WL.store rfl rfl rfl rfl rfl rfl (by kernel_rfl) (lN D8 (by omega)) (D8.free _) ?_;have KH:=xd D8 (2+(p.length+1)) (.string (fk d (rd j d a c).2));rw[Om _ _ (by show p.length+1<((p++a::c::q).map (kI d)).length;rw[sj];simp) (by show((p++a::c::q).map (kI d)).length<=8;rw[sj];exact hlen)]at KH;simp only[ql]at KH;have k7:Z (fun x=>x≠b) w6 (w6.setCell ⟨b,2+(p.length+1),none⟩ (.string (fk d (rd j d a c).2))):=(Z.refl _ _).setCell (fun hk=>hk rfl) _;have Ff:=tT.node (b:=b) (by rw[qv];simp) k7 (by show((p++(rd j d a c).1::(rd j d a c).2::q).map (kI d)).length<=8;rw[sj];simp only[af,ak]at hlen ⊢;exact hlen) KH;have J9:=A4.jA k7 tR;generalize w6.setCell ⟨b,2+(p.length+1),none⟩ (.string (fk d (rd j d a c).2))=w7 at KH k7 Ff J9 ⊢;apply(jZ);apply(jD);have wv:r6 st (ml Df b ⟨false,(p++(rd j d a c).1::(rd j d a c).2::q).map (kI d),none⟩) (d+1) (lW b (p++a::c::q)) (lW b (p++(rd j d a c).1::(rd j d a c).2::q)) nx:=by
   refine r6.share (j:=j) ly (fun aAe hx=>?_) (fun Mc hx=>?_) (ny _ _ _) fun x h1 h2 h3=>?_
   ·rw[Kx]at hx
    injection hx with hx;injection hx with _ _ hx
    rw[kD F4.symm,ha5,hx]
   ·rw[Kr]at hx
    injection hx with hx;injection hx with _ _ hx
    rw[kD FK.symm,Wh,hx]
   ·rw[kD h1,<-vU,kD h3,kD h2]
  apply G _;refine WQ.GN rfl ⟨rfl,fin Ff wv (fun x hx=>?_) (.inr ⟨by omega,j,Za,ub,hj3,hj4,rfl,J9⟩)⟩
  by_cases e:x=b
  ·rw[e,hb];simp
  ·rw[kD e,<-vU]at hx
   by_cases e2:x=blk d c
   ·rw[e2,Kr];simp
   ·rw[kD e2]at hx
    by_cases e3:x=blk d a
    ·rw[e3,Kx];simp
    ·rw[kD e3]at hx;exact hx
open Tre
theorem JC {st:St}:∀ {l:List (Nat×List KV)}{nx:Option Nat},Lnk st l nx->(∀q,nx=some q->st q≠none)->∀x∈l,∀nd,st x.1=some nd->∀q,nd.next=some q->st q≠none
 | [],_,_,_,_,h,_,_,_,_=>by cases h
 | a::l,nx,h,xq,x,hx,nd,Ch,q,hq=>by
  rcases ax.1 hx with rfl|hx
  ·rw[h.1]at Ch
   obtain rfl:=az Ch;cases l with
   | nil=>exact xq q hq
   | cons y l=>
    have:=(az hq).symm;subst this;rw[h.2.1];simp
  ·exact JC h.2 xq x hx nd Ch q hq
theorem acK {st:St}{ks:List (Tr d)}(h:At st (d+1) (lW b ks) nx)(xq:∀q,nx=some q->st q≠none){s:Tr d}(hs:s∈ks): ∀nd,st (blk d s)=some nd->∀q,nd.next=some q->st q≠none:=by
 intro nd Ch q hq;cases d with
 | zero=>exact JC h.uQ xq (s.1,s.2) (aG.2 ⟨s,hs,bn.2 rfl⟩) nd Ch q hq
 | succ d=>
  obtain⟨MX,h1,h2⟩:=Sw h hs;rw[h1]at Ch;obtain rfl:=az Ch;rw[h2 I]at hq;cases hq
theorem XM {st:St}{t:Tr d}(h:At st d t nx): r6 st st d t t nx:=⟨h,rfl,fun _=>rfl,fun _ hx=>hx,fun _ _=>rfl⟩
theorem ZW {st:St}{l r:List (Tr d)}{s:Tr d}(h:At st (d+1) (lW b (l++s::r)) nx): At st d s (Tre.hd (r.flatMap (mC d)) nx):=by
 have hl:=h.uQ;rw[oX,an,aq]at hl;obtain⟨-,h1⟩:=Lnk.app.1 hl;obtain⟨h1,-⟩:=Lnk.app.1 h1;exact⟨(nZ.1 h.rep).2 s jM,h1,(bS.1 (bB.1 (Hp h.nodup)).2).1⟩
theorem adu {st:St}{l r:List (Tr d)}{s:Tr d}(h:At st (d+1) (lW b (l++s::r)) nx)(xq:∀q,nx=some q->st q≠none/\q ∉ kB (d+1) (lW b (l++s::r))):
  ∀q,Tre.hd (r.flatMap (mC d)) nx=some q->st q≠none/\q ∉ kB d s:=by
 intro q hq;have hl:=h.uQ;rw[oX,an,aq]at hl;obtain⟨-,h1⟩:=Lnk.app.1 hl;obtain⟨-,h1⟩:=Lnk.app.1 h1;cases hr:r.flatMap (mC d) with
 | nil=>
  rw[hr]at hq;obtain⟨h2,h3⟩:=xq q hq;refine⟨h2,fun e=>h3 ?_⟩;rw[mD,an,aq];simp[e]
 | cons x y=>
  rw[hr]at hq h1;have:=(az hq).symm;subst this;refine⟨by rw[h1.1];simp,fun e=>?_⟩;have hd:=(bS.1 (bB.1 (Hp h.nodup)).2).2.2;have hm:x.1∈r.flatMap (kB d):=ow (by rw[hr];simp);exact hd _ e _ (bp _ hm) rfl
def C_ (w:World)(st:St)(tb:Nat)(root:Option Nat)(size N:Nat)(k:Ky)(d:Nat)(t:Tr d)(nx:Option Nat):Ending->World->Prop:=fun e w'=>
 e=.returned (.tuple #[Iq ((getL k (kN d t)).getD 0),.bool (getL k (kN d t)).isSome])/\∃st' t',r6 st st' d t t' nx/\PS w st tb w' st'/\(∀x,st' x≠none->st x≠none)/\kN d t'=nP k (kN d t)/\Mn d t'/\j9 d t<=j9 d t'+1/\U mT w' tb (oL root size (N+(kB d t').length))/\(kB d t').length<=(kB d t).length
theorem Xe {st:St}{k:Ky}{es:List KV}(hm:Mem w st)(nI:st tb=none)(ly:At st 0 (tr b es) nx)(hs:tL es)(zm:es.length<=8)(hh:U mT w tb (oL root size (N+1))):
  Calls prog 95 #[jV tb,jV b,.string k] w (C_ w st tb root size N k 0 (tr b es) nx):=by
 apply kq func95 ntmps95;have pk:=PS.start hm nI;have hb:st b=some ⟨true,me es,nx⟩:=ly.uQ.1;obtain⟨-,pb,vb⟩:=hm _ _ hb;have xg:tb≠b:=fun e=>by rw[<-e,nI]at hb;cases hb
 have l0:w.cell? (Aq b 0)=some (.bool true):=lN vb I;have oR:=GF k (es.map Prod.fst);rw[aB]at oR;have Lh:=Dh (k:=k) hs;have hda:=RB (k:=k) hs;have stay:getL k es=none->C_ w st tb root size N k 0 (tr b es) nx (.returned (.tuple #[Iq 0,.bool false])) w:=fun hg=>by
  refine⟨?_,st,tr b es,XM ly,pk,fun _ h=>h,?_,zm,bQ _,hh,aj _⟩
  ·show _=Ending.returned (.tuple #[Iq ((getL k es).getD 0),.bool (getL k es).isSome]);rw[hg];rfl
  ·show es=nP k es;rw[X4 hg]
 apply jF _;apply kH func94 (Lk (key:=k) vb (by show(me es).length<=8;rw[nY];omega));rintro w3 rfl
 simp only[Mg];generalize plc k (es.map Prod.fst)=p at oR Lh hda ⊢;have NJ:=yT vb (nY es)
 by_cases Gn:p<es.length
 ·apply jF _
  apply mg p (2+p);apply(jX);have hkp:=DA vb (i:=p) I;rw[uh es Gn]at hkp;apply Y hkp
  by_cases hk:es[p].1=k
  ·have wQ:(es.map Prod.fst)[p]? = some k:=by simp[Gn,hk]
   rw[ag wQ,ai Gn]at Lh;rw[ag wQ]at hda;have H6:=TR vb (i:=p) I;rw[uh es Gn]at H6;simp only at H6;apply G _;apply WC.as 35 (.bool false) rfl (by rw[hk];simp);apply G _;apply mg p (10+p);apply Y H6;apply G _;apply kH func128 (AK (i:=p) vb (by show p<(me es).length;rw[nY];exact Gn) (by show(me es).length<=8;rw[nY];exact zm));rintro w4 ⟨pA,v4⟩
   have tC:era (me es) p=me (nP k es):=by
    rw[hda];unfold me era;rw[aV,dp,dC]
   simp only[tC]at v4;have lM:(nP k es).length+1=es.length:=by rw[hda];simp only[af,aC,aQ];omega
   have qW:=pk.node (b:=b) (by rw[hb];simp) pA (by show(me (nP k es)).length<=8;rw[nY];omega) v4;have AH:=hh.jA pA xg;apply G _;refine WQ.oU rfl rfl rfl ⟨?_,ml st b ⟨true,me (nP k es),nx⟩,tr b (nP k es),⟨⟨trivial,⟨ny _ _ _,trivial⟩,by simp[kB,tr]⟩,rfl,fun _=>rfl,fun _ h=>h,fun x hx=>kD fun e=>hx (by rw[e];simp[kB,tr])⟩,qW,fun x hx=>?_,rfl,?_,?_,AH,aj _⟩
   ·show _=Ending.returned (.tuple #[Iq ((getL k es).getD 0),.bool (getL k es).isSome]);rw[Lh];rfl
   ·by_cases e:x=b
    ·rw[e,hb];simp
    ·rw[kD e]at hx;exact hx
   ·show(nP k es).length<=8;omega
   ·show es.length<=(nP k es).length+1;omega
  ·have wQ:¬(es.map Prod.fst)[p]? = some k:=by simp[Gn,hk]
   rw[aa wQ]at Lh;apply G _;apply WC.as 35 (.bool true) rfl (by simp;exact fun e=>hk (LF e));apply G _;exact WQ.oU rfl rfl rfl (stay Lh)
 ·have wQ:¬(es.map Prod.fst)[p]? = some k:=by rw[aM (by simp;omega)];simp
  rw[aa wQ]at Lh;apply jF _;exact WQ.oU rfl rfl rfl (stay Lh)
open Tre
theorem Xy (l:List α)(h:l≠[]): ∃p a,l=p++[a]:=⟨l.dropLast,l.getLast h,(List.dropLast_concat_getLast h).symm⟩
theorem Yh {ks:List (Tr d)}(h1:ks.length<=8)(h2:∀s∈ks,4<=j9 d s/\Mn d s): Mn (d+1) (lW b ks):=zQ.2 ⟨h1,h2⟩
theorem acg {st yc:St}{p q:List (Tr d)}{a c:Tr d}{t:Tr (d+1)}{k:Ky}(wv:r6 st yc (d+1) t (lW b (p++a::c::q)) nx) (CH:PS w st tb w' yc) (tA:∀x,yc x≠none->st x≠none) (mL:kN (d+1) (lW b (p++a::c::q))=nP k (kN (d+1) t)) (CK:j9 (d+1) t=(p++a::c::q).length) (oR:∀s∈p,4<=j9 d s/\Mn d s) (LI:∀s∈q,4<=j9 d s/\Mn d s) (EI:Mn d a) (ET:Mn d c) (Yk:3<=j9 d a) (De:3<=j9 d c) (uR:(kB (d+1) (lW b (p++a::c::q))).length<=(kB (d+1) t).length) (hlen:(p++a::c::q).length<=8) (hm:m+1=N+(kB (d+1) (lW b (p++a::c::q))).length) (h:∃st' t',r6 yc st' (d+1) (lW b (p++a::c::q)) t' nx/\PS w' yc tb w2 st'/\(∀x,st' x≠none->yc x≠none)/\
   ((j9 d a+j9 d c<=8/\t'=lW b (p++jn d a c::q)/\U mT w2 tb (oL root size m))\/(8<j9 d a+j9 d c/\∃j,4<=j/\j<=8/\j+4<=j9 d a+j9 d c/\j9 d a+j9 d c<=j+8/\t'=lW b (p++(rd j d a c).1::(rd j d a c).2::q)/\U mT w2 tb (oL root size (m+1))))):
  ∃st' t',r6 st st' (d+1) t t' nx/\PS w st tb w2 st'/\(∀x,st' x≠none->st x≠none)/\kN (d+1) t'=nP k (kN (d+1) t)/\Mn (d+1) t'/\j9 (d+1) t<=j9 (d+1) t'+1/\U mT w2 tb (oL root size (N+(kB (d+1) t').length))/\(kB (d+1) t').length<=(kB (d+1) t).length:=by
 obtain⟨st',t',h1,h2,h3,h4⟩:=h;have pk:=CH.step h2.mem h2.no h2.jA h2.new;refine⟨st',t',wv.trans h1,pk,fun x hx=>tA x (h3 x hx),?_⟩;have akR:(kB (d+1) (lW b (p++a::c::q))).length=1+(p.flatMap (kB d)).length+(kB d a).length+(kB d c).length+(q.flatMap (kB d)).length:=by
  rw[mD];simp only[an,aq,ak,af];omega
 rcases h4 with⟨hs,rfl,hh⟩|⟨hs,j,j1,j2,j3,j4,rfl,hh⟩
 ·have Bd:(kB (d+1) (lW b (p++jn d a c::q))).length+1=(kB (d+1) (lW b (p++a::c::q))).length:=by
   rw[akR,mD];have:=ai7 d a c;simp only[an,aq,ak,af];omega
  refine⟨?_,Yh ?_ ?_,?_,?_,I⟩
  ·rw[<-mL,qj,qj]
   simp only[an,aq,Q5,av]
  ·simp only[af,ak]at hlen ⊢;omega
  ·intro s nE
   simp only[au,ax]at nE;rcases nE with nE|rfl|nE
   ·exact oR s nE
   ·exact⟨by rw[GH];omega,amH EI ET hs⟩
   ·exact LI s nE
  ·rw[CK,rj];simp only[af,ak];omega
  ·rw[show N+(kB (d+1) (lW b (p++jn d a c::q))).length=m by omega];exact hh
 ·have Bd:(kB (d+1) (lW b (p++(rd j d a c).1::(rd j d a c).2::q))).length=(kB (d+1) (lW b (p++a::c::q))).length:=by
   rw[akR,mD];have:=aiN j d a c;simp only[an,aq,ak,af];omega
  obtain⟨rc1,rc2⟩:=KT j d a c I;obtain⟨rm1,rm2⟩:=agO (j:=j) EI ET j2 I I;refine⟨?_,Yh ?_ ?_,?_,?_,I⟩
  ·rw[<-mL,qj,qj]
   simp only[an,aq];rw[<-av (kN d (rd j d a c).1),ZG,av]
  ·simp only[af,ak]at hlen ⊢;omega
  ·intro s nE
   simp only[au,ax]at nE;rcases nE with nE|rfl|rfl|nE
   ·exact oR s nE
   ·exact⟨I,rm1⟩
   ·exact⟨I,rm2⟩
   ·exact LI s nE
  ·rw[CK,rj];simp only[af,ak];omega
  ·rw[Bd,<-hm];exact hh
theorem Qx:∀(d:Nat) {w:World}{st:St}{tb size N:Nat}{root:Option Nat}{k:Ky}{t:Tr d}{nx:Option Nat}(_:Mem w st) (_:st tb=none) (_:At st d t nx) (_:∀q,nx=some q->st q≠none/\q ∉ kB d t) (_:tL (kN d t)) (_:Mn d t) (_:d=0\/2<=j9 d t)
  (_:U mT w tb (oL root size (N+(kB d t).length))) (_:N+(kB d t).length<4611686018427387904),
  Calls prog 95 #[.pointer (some ⟨tb,0,none⟩),.pointer (some ⟨blk d t,0,none⟩),.string k] w (C_ w st tb root size N k d t nx)
 | 0,w,st,tb,size,N,root,k,t,nx,hm,nI,ly,_,hs,zm,_,hh,_=>by
  obtain⟨b,es⟩:=t;exact Xe hm nI ly hs zm hh
 | d+1,w,st,tb,size,N,root,k,t,nx,hm,nI,ly,xq,hs,zm,h2,hh,ua=>by
  obtain⟨b,ks⟩:=t;have ly:At st (d+1) (lW b ks) nx:=ly;have h2:2<=ks.length:=by rcases h2 with e|e;cases e;exact e
  obtain⟨Bf,vQ⟩:ks.length<=8/\∀s∈ks,4<=j9 d s/\Mn d s:=zQ.1 zm;have hs:tL (ks.flatMap (kN d)):=hs
  show Calls prog 95 #[.pointer (some ⟨tb,0,none⟩),.pointer (some ⟨b,0,none⟩),.string k] w (C_ w st tb root size N k (d+1) (lW b ks) nx)
  apply kq func95 ntmps95;have pk:=PS.start hm nI;have hb:=(nZ.1 ly.rep).1;obtain⟨-,pb,vb⟩:=hm _ _ hb;have xg:tb≠b:=fun e=>by rw[<-e,nI]at hb;cases hb
  have sj:∀l:List (Tr d),(l.map (kI d)).length=l.length:=fun l=>aB ..;have l0:w.cell? ⟨b,0,none⟩=some (.bool false):=lN vb (by omega);apply jF _;apply jx func93 (HQ (key:=k) vb (by show(ks.map (kI d)).length<=8;rw[sj];omega) (by show 1<=(ks.map (kI d)).length;rw[sj];omega));rintro _ w3 ⟨rfl,rfl⟩;refine⟨_,rfl,?_⟩;obtain⟨l,s,r,Cl,MA,sT,qZ,-⟩:=GZ (k:=k) (fun x hx=>vm (vQ x hx).2 (by have:=(vQ x hx).1;omega)) hs (fun e=>by rw[e]at h2;simp at h2);simp only[Ey,sj];rw[<-MA];subst Cl;clear MA l0;have hl7:l.length<8:=by simp only[af,ak]at Bf;omega
  have zu:=H8 vb (i:=l.length) (q:=blk d s) (by omega) (by show(((l++s::r).map (kI d)).getD l.length lB).pw=_;rw[ya];rfl);have hss:tL (kN d s):=by
   rw[an,aq]at hs;exact(sg.1 (sg.1 hs).2.1).1
  have nE:=vQ s (by simp);have Bd:(kB (d+1) (lW b (l++s::r))).length=1+(l.flatMap (kB d)).length+(kB d s).length+(r.flatMap (kB d)).length:=by
   rw[mD];simp only[an,aq,ak,af];omega
  have FZ:=Hp ly.nodup;obtain⟨N',hN'⟩:∃N',N+1+(l.flatMap (kB d)).length+(r.flatMap (kB d)).length=N':=⟨_,rfl⟩;have hh':U mT w3 tb (oL root size (N'+(kB d s).length)):=by
   have e:N+(kB (d+1) (lW b (l++s::r))).length=N'+(kB d s).length:=by omega
   have:=hh;rw[show N+(kB (d+1) (b,l++s::r)).length=N'+(kB d s).length from e]at this;exact this
  have anc:N'+(kB d s).length<4611686018427387904:=by
   have:N+(kB (d+1) (lW b (l++s::r))).length<4611686018427387904:=ua;omega
  apply G _;apply mg l.length (18+l.length);apply Y zu;apply G _;apply jx func95 (Qx d (k:=k) hm nI (ZW ly) (adu ly xq) hss nE.2 I hh' anc);rintro _ w4 ⟨rfl,Ny,s',nW,qW,Kt,at6,Vp,axq,AH,aAr⟩;refine⟨_,rfl,?_⟩;have tH:getL k (kN (d+1) (lW b (l++s::r)))=getL k (kN d s):=by
   rw[qj,an,aq,Nm sT,Ec qZ]
  -- the kid's key anew
  have nk:Ny b=some ⟨false,(l++s::r).map (kI d),none⟩:=by
   rw[nW.same b (fun e=>(bB.1 FZ).1 (bm _ e))];exact hb
  obtain⟨-,pb4,OV⟩:=qW.mem _ _ nk;have ahv:=H8 OV (i:=l.length) (q:=blk d s) (by omega) (by show(((l++s::r).map (kI d)).getD l.length lB).pw=_;rw[ya];rfl);obtain⟨nxs,hs4,-⟩:=nodeAt nW.here.rep nW.here.uQ;rw[nW.blk]at hs4;obtain⟨-,ps4,vs4⟩:=qW.mem _ _ hs4;obtain⟨C,hC⟩:∃C,j9 d s'=C:=⟨_,rfl⟩;have hC3:3<=C:=by omega
  have hC8:C<=8:=by rw[<-hC];exact Vp.le
  have nL:(jH d s').length=C:=by rw[yn,hC]
  have hcs:=yT vs4 nL;have q1:=DA vs4 (i:=0) (by omega);simp only[Cu Vp (by omega:1<=j9 d s')]at q1;apply G _;apply mg l.length (18+l.length);apply Y ahv;apply jF _;refine WC.drawn 15 (fun wx=>wx.heap=w4.heap) fun w5 hd=>?_;have hS:=hd.heap;have pG:=qW.step (qW.mem.below (hd.below _)) qW.no (Z.pU hd _) fun x hx=>.inl hx;have CX:=OV.below (hd.below _) OV.lt;have xi:=AH.below (hd.below _) AH.lt;clear hd;apply jC [0,1,2,3,4,5] hS _;apply kU 6 l.length (18+l.length) (.inr hS);apply jz 7 [8,9,10,11,14,15] (fun wx hx=>(lH hx _).trans ahv) hS;apply jC [8,9] hS _;apply kU 10 0 2 (.inr hS);apply jz 11 [14,15] (fun wx hx=>(lH hx _).trans q1) hS;apply jC [12,13] hS _;apply kU 14 l.length (2+l.length) (.inr hS);apply jS 15;refine WL.store rfl rfl rfl rfl rfl rfl (by kernel_rfl) (lN CX (by omega)) (CX.free _) ?_;have D8:=xd CX (2+l.length) (.string (fk d s'));rw[Om _ _ (by show l.length<((l++s::r).map (kI d)).length;rw[sj];simp) (by show((l++s::r).map (kI d)).length<=8;rw[sj];exact Bf)]at D8;have ql:((l++s::r).map (kI d)).set l.length ⟨fk d s',(((l++s::r).map (kI d)).getD l.length lB).num,(((l++s::r).map (kI d)).getD l.length lB).pw⟩=(l++s'::r).map (kI d):=by
   rw[U_,ya];simp only[aV,aY,kI];rw[nW.blk]
  simp only[ql]at D8;have k6:Z (fun x=>x≠b) w5 (w5.setCell ⟨b,2+l.length,none⟩ (.string (fk d s'))):=(Z.refl _ _).setCell (fun hk=>hk rfl) _;have I7:(l++s'::r).length=(l++s::r).length:=by simp
  have tT:=pG.node (b:=b) (by rw[nk];simp) k6 (by show((l++s'::r).map (kI d)).length<=8;rw[sj,I7];exact Bf) D8;have A4:=xi.jA k6 xg;generalize w5.setCell ⟨b,2+l.length,none⟩ (.string (fk d s'))=w6 at D8 k6 tT A4 ⊢;apply(jZ);apply(jD);have wv:=r6.pw ly nW;obtain⟨Wd,Zt⟩:∃Wd,ml Ny b ⟨false,(l++s'::r).map (kI d),none⟩=Wd:=⟨_,rfl⟩;rw[Zt]at tT wv;have hd6:∀x,Wd x≠none->st x≠none:=fun x hx=>by
   by_cases e:x=b
   ·rw[e,hb];simp
   ·rw[<-Zt,kD e]at hx;exact Kt x hx
  have Lr:kN (d+1) (lW b (l++s'::r))=nP k (kN (d+1) (lW b (l++s::r))):=by
   rw[qj,qj,an,an,aq,aq,PH,PH,afQ sT,LZ qZ,at6]
  have tD:Wd b=some ⟨false,(l++s'::r).map (kI d),none⟩:=by rw[<-Zt,ny]
  have hs6:Wd (blk d s)=some ⟨d == 0,jH d s',nxs⟩:=by
   rw[<-Zt,kD (fun e=>(bB.1 FZ).1 (by rw[<-e];exact bm _ (r7 d s)))];exact hs4
  obtain⟨-,ps6,vs6⟩:=tT.mem _ _ hs6;have azO:=yT vs6 nL;have alz:=H8 D8 (i:=l.length) (q:=blk d s) (by omega) (by show(((l++s'::r).map (kI d)).getD l.length lB).pw=_;rw[ya];show some (blk d s')=_;rw[nW.blk]);have azE:=yT D8 (n:=(l++s::r).length) (by show((l++s'::r).map (kI d)).length=_;rw[sj,I7]);have We:(kB (d+1) (lW b (l++s'::r))).length=1+(l.flatMap (kB d)).length+(kB d s').length+(r.flatMap (kB d)).length:=by
   rw[mD];simp only[an,aq,ak,af];omega
  have aaC:U mT w6 tb (oL root size (N+(kB (d+1) (lW b (l++s'::r))).length)):=by
   rw[We,show N+(1+(l.flatMap (kB d)).length+(kB d s').length+(r.flatMap (kB d)).length)=N'+(kB d s').length by omega];exact A4
  have fin:∀ {wz:World},(∃st' t',r6 st st' (d+1) (lW b (l++s::r)) t' nx/\PS w3 st tb wz st'/\(∀x,st' x≠none->st x≠none)/\kN (d+1) t'=nP k (kN (d+1) (lW b (l++s::r)))/\Mn (d+1) t'/\j9 (d+1) (lW b (l++s::r))<=j9 (d+1) t'+1/\U mT wz tb (oL root size (N+(kB (d+1) t').length))/\(kB (d+1) t').length<=(kB (d+1) (lW b (l++s::r))).length)->
    C_ w3 st tb root size N k (d+1) (lW b (l++s::r)) nx (.returned (.tuple #[.int .i64 ((getL k (kN d s)).getD 0),.bool (getL k (kN d s)).isSome])) wz:=fun h=>⟨by rw[tH],h⟩
  clear hcs q1 zu ahv vs4 OV CX vb hh AH xi A4 hh' qW pG
  by_cases hC4:4<=C
  ·apply G _
   apply mg l.length (18+l.length);apply Y alz;apply jF _;refine WQ.oU rfl rfl rfl (fin ⟨Wd,lW b (l++s'::r),wv,tT,hd6,Lr,Yh (by rw[I7];exact Bf) fun x hx=>?_,by rw[rj,rj,I7];exact bQ _,aaC,by omega⟩);simp only[au,ax]at hx;rcases hx with hx|rfl|hx
   ·exact vQ x (by simp[hx])
   ·exact⟨by omega,Vp⟩
   ·exact vQ x (by simp[hx])
  ·obtain rfl:C=3:=by omega
   have ars:∀q,nx=some q->Wd q≠none:=fun q hq=>by
    obtain⟨h1,h2⟩:=xq q hq;rw[wv.same q h2];exact h1
   apply G _;apply mg l.length (18+l.length);apply Y alz;apply jF _;obtain⟨p,a,c,q,hpq,oR,hp4,hq4,EI,ET,Yk,De,h33⟩:∃p a c q,l++s'::r=p++a::c::q/\p.length=l.length - 1/\(∀x∈p,4<=j9 d x/\Mn d x)/\(∀x∈q,4<=j9 d x/\Mn d x)/\Mn d a/\Mn d c/\3<=j9 d a/\3<=j9 d c/\(j9 d a=3\/j9 d c=3):=by
    by_cases hl:l=[]
    ·subst hl
     cases r with
     | nil=>simp at h2
     | cons c q=>
      have hc:=vQ c (by simp);exact⟨[],s',c,q,rfl,rfl,fun x hx=>(by cases hx),fun x hx=>vQ x (by simp[hx]),Vp,hc.2,by omega,by omega,.inl hC⟩
    ·obtain⟨p,a,rfl⟩:=Xy l hl
     have ha:=vQ a (by simp);exact⟨p,a,s',r,by simp,by simp,fun x hx=>vQ x (by simp[hx]),fun x hx=>vQ x (by simp[hx]),ha.2,Vp,by omega,by omega,.inr hC⟩
   have CK:j9 (d+1) (lW b (l++s::r))=(p++a::c::q).length:=by rw[<-hpq,rj,I7]
   have EN:(p++a::c::q).length<=8:=by rw[<-hpq,I7];exact Bf
   rw[hpq]at wv Lr aaC;obtain⟨m,hmm⟩:∃m,m+1=N+(kB (d+1) (lW b (p++a::c::q))).length:=⟨N+(kB (d+1) (lW b (p++a::c::q))).length - 1,by rw[mD,ak];omega⟩;rw[<-hmm]at aaC;have Pd:m<4611686018427387904:=by
    have e:=We;rw[hpq]at e;omega
   refine WL.as 107 (.int .i64 p.length) rfl (congrArg (Value.int .i64) (by rw[oR];show(if((l.length:Int) - 1)>0 then((l.length:Int) - 1) else 0)=_;split<;>omega)) ?_;apply jx func129 (WJ (p:=p) (a:=a) (c:=c) (q:=q) tT.mem tT.no wv.here (acK wv.here ars jM) EI ET Yk De h33 EN aaC Pd);rintro _ w7 ⟨rfl,h7⟩;refine⟨_,rfl,?_⟩;apply G _;exact WQ.oU rfl rfl rfl (fin (acg wv tT hd6 Lr CK hp4 hq4 EI ET Yk De (by rw[<-hpq];omega) EN hmm h7))
open Tre
theorem GW {k:Ky}{l:List KV}(h:tL l): (nP k l).length+(if(getL k l).isSome then 1 else 0)=l.length:=by
 have hp:=GF k (l.map Prod.fst);rw[aB]at hp;rw[RB h,Dh h]
 by_cases c:(l.map Prod.fst)[plc k (l.map Prod.fst)]? = some k
 ·have j6:plc k (l.map Prod.fst)<l.length:=by
   rcases aW (plc k (l.map Prod.fst)) l.length with h|h
   ·exact h
   ·rw[aM (by simpa using h)]at c;cases c
  rw[ag c,ag c,ai j6];simp only[af,aC,aQ,eM,Option.isSome_some,fI];omega
 ·rw[aa c,aa c]
  simp
structure DX where
 D:Nat
 T:Tr D
structure DW (w:World) (st:St) (tb:Nat) (L:List KV) (w':World) (x:DX) (st':St):Prop where
 ps:PS w st tb w' st'
 here:At st' x.D x.T none
 el:kN x.D x.T=L
 mn:Mn x.D x.T
 one:x.D=0\/1<=j9 x.D x.T
 kv:U mT w' tb (oL (some (blk x.D x.T)) L.length (kB x.D x.T).length)
theorem aa1 {st:St}{l:List KV}(h:xw w st tb l)(k:Ky)(hl:l.length<1000000000):
  Calls prog 62 #[jV tb,.string k] w fun e w'=>∃st',e=.returned (.tuple #[Iq ((getL k l).getD 0),.bool (getL k l).isSome])/\xw w' st' tb (nP k l)/\Z (uL st tb w) w w'/\SU st w st':=by
 apply kq func62 ntmps62;obtain⟨hm,tR,root,nn,ht,mq⟩:=h;have nG:=mq.xr;have pk:=PS.start hm tR;have h0:w.cell? (Aq tb 0)=some (m8 root):=ht.cell 0 (by simp[oL]);apply G _;apply(kV);apply jF _;apply WL.as 14 (.pointer (root.map fun b=>(Aq b 0))) rfl (by cases root<;>rfl);apply(kV);rcases mq with⟨rfl,rfl,rfl⟩|⟨D,T,rfl,hg,rfl,vN⟩
 ·apply G _
  exact WQ.oU rfl rfl rfl ⟨st,rfl,⟨hm,tR,none,0,ht,.inl ⟨rfl,rfl,rfl⟩⟩,pk.jA,pk.new⟩
 have QF:=(Tre.few hg.mn hg.root).1;rw[hg.el]at QF;have EL:=AO ht;apply jF _;have hT:U mT w tb (oL (some (blk D T)) l.length (0+(kB D T).length)):=by rw[bA];exact ht
 clear h0;obtain⟨h0,h1,-⟩:=EL;apply jF _;apply kH func95 (Qx D (k:=k) (nx:=none) hm tR ⟨hg.rep,hg.uQ,hg.nodup⟩ (fun q hq=>by cases hq) (by rw[hg.el];exact nG) hg.mn hg.root hT I);rintro w1 ⟨yz,T1,nW,T2,-,Vj,afG,aoJ,EL,-⟩
 rw[hg.el]at Vj;rw[hg.el];rw[bA]at EL;have lM:=GW (k:=k) nG;have m9:D=0\/1<=j9 D T1:=hg.root.imp id fun h=>I;obtain⟨aEU,hG⟩:∃aEU,getL k l=aEU:=⟨_,rfl⟩;rw[hG]at lM ⊢;apply jF _
 -- one text less
 refine WC.tn (fun _:Unit=>[(0,jV tb),(6,Iq (aEU.getD 0)),(7,.bool aEU.isSome)]) (fun _ w'=>DW w st tb (nP k l) w' ⟨D,T1⟩ yz) rfl ?_ ?_
 ·cases aEU with
  | none=>
   have xU:(nP k l).length=l.length:=by simpa using lM
   apply WC.condFalse rfl;apply G _;exact WQ.meet () kz ⟨T2,nW.here,Vj,afG,m9,by rw[xU,nW.blk];exact EL⟩
  | some v=>
   have xU:(nP k l).length+1=l.length:=by simpa using lM
   apply WC.condTrue rfl;obtain⟨-,Fb,-⟩:=AO EL;apply jF _;apply jT Fb (EL.free 1);have Mp:U mT (w1.setCell (Aq tb 1) (Iq ((l.length:Int) - 1))) tb (oL (some (blk D T)) (nP k l).length (kB D T1).length):=by
    have:=EL.set 1 (Iq ((l.length:Int) - 1));rw[show((l.length:Int) - 1)=((nP k l).length:Int) by omega]at this ⊢;exact this
   have CH:=T2.kv 1 (Iq ((l.length:Int) - 1));generalize w1.setCell (Aq tb 1) (Iq ((l.length:Int) - 1))=w2 at Mp CH ⊢;apply G _;exact WQ.meet () kz ⟨CH,nW.here,Vj,afG,m9,by rw[nW.blk];exact Mp⟩
 clear EL T2 nW Vj afG aoJ m9 hT ht h0 h1 pk lM;rintro⟨⟩ w2 wU;have XQ:tL (nP k l):=Po nG;obtain⟨L,hL⟩:∃L,nP k l=L:=⟨_,rfl⟩;rw[hL]at wU XQ ⊢;have Sd:∀ {wz:World}{D':Nat}{T':Tr D'}{st':St},DW w st tb L wz ⟨D',T'⟩ st'->(D'=0\/2<=j9 D' T')->1<=j9 D' T'->∃st',(Ending.returned (.tuple #[Iq (aEU.getD 0),.bool aEU.isSome]))=.returned (.tuple #[Iq (aEU.getD 0),.bool aEU.isSome])/\xw wz st' tb L/\Z (uL st tb w) w wz/\SU st w st' :=
  fun {wz D' T' st'} hd h2 h1=>⟨st',rfl,⟨hd.ps.mem,hd.ps.no,_,_,hd.kv,.inr ⟨D',T',rfl,⟨hd.here.rep,hd.here.uQ,hd.here.nodup,hd.el,XQ,hd.mn,h2⟩,rfl,h1⟩⟩,hd.ps.jA,hd.ps.new⟩
 apply ur _;apply WC.block;apply WC.loop (fun x:DX=>[(0,jV tb),(6,Iq (aEU.getD 0)),(7,.bool aEU.isSome)]) (fun x w'=>∃st',DW w st tb L w' x st') (fun x=>x.D) ⟨D,T1⟩ kz ⟨yz,wU⟩;clear wU;rintro⟨D',T'⟩ wr ⟨st',wU⟩;obtain⟨h0,-,h2⟩:=AO wU.kv;obtain⟨nx,sF,-⟩:=nodeAt wU.here.rep wU.here.uQ;obtain⟨-,pv,vr⟩:=wU.ps.mem _ _ sF;have OP:wr.cell? (Aq (blk D' T') 0)=some (.bool (D' == 0)):=lN vr I;obtain⟨C,hC⟩:∃C,j9 D' T'=C:=⟨_,rfl⟩;have hC8:C<=8:=by rw[<-hC];exact wU.mn.le
 have nL:(jH D' T').length=C:=by rw[yn,hC]
 have nW:=yT vr nL;cases D' with
 | zero=>
  have atB:wr.cell? (Aq (blk 0 T') 0)=some (.bool true):=OP;clear OP
  by_cases hz:C=0
  ·have hes:kN 0 T'=[]:=cB.1 (show List.length T'.2=0 by have:List.length T'.2=C:=hC;omega)
   have BP:L=[]:=by rw[<-wU.el];exact hes
   subst BP;apply jF _;apply jT h0 (wU.kv.free 0);have Dy:U mT (wr.setCell (Aq tb 0) (.pointer none)) tb (oL none 0 1):=wU.kv.set 0 _;have xT:=wU.ps.kv 0 (.pointer none);generalize wr.setCell (Aq tb 0) (.pointer none)=w3 at Dy xT ⊢;apply G _;apply jT (Dy.cell 2 (by simp[oL])) (Dy.free 2);have AH:U mT (w3.setCell (Aq tb 2) (Iq 0)) tb (oL none 0 0):=Dy.set 2 _;have qW:=xT.kv 2 (Iq 0);generalize w3.setCell (Aq tb 2) (Iq 0)=w4 at AH qW ⊢;apply G _;exact WQ.oU rfl rfl rfl ⟨st',rfl,⟨qW.mem,qW.no,none,0,AH,.inl ⟨rfl,rfl,rfl⟩⟩,qW.jA,qW.new⟩
  ·apply jF _
   exact WQ.oU rfl rfl rfl (Sd wU (.inl rfl) (by rw[hC];omega))
 | succ D'=>
  have atB:wr.cell? ⟨blk (D'+1) T',0,none⟩=some (.bool false):=OP;clear OP;have hC1:1<=C:=by rcases wU.one with e|e;cases e;rw[hC]at e;exact e
  by_cases hz:C=1
  ·obtain⟨b,ks⟩:=T'
   obtain⟨s,rfl⟩:∃s,ks=[s]:=List.length_eq_one_iff.1 (show ks.length=1 by have:ks.length=C:=hC;omega);have hh:At st' (D'+1) (lW b ([]++s::[])) none:=wU.here;have aty:=ZW hh;have nE:=wU.mn.2 s (List.Mem.head _);have zu:=H8 vr (i:=0) (q:=blk D' s) I rfl;have asE:wr.cell? ⟨blk (D'+1) (b,[s]),18,none⟩=some (.pointer (some (Aq (blk D' s) 0))):=zu;have Bd:(kB (D'+1) (lW b [s])).length=(kB D' s).length+1:=by rw[mD];simp
   have We:(kB (D'+1) (b,[s])).length=(kB D' s).length+1:=Bd;rw[We]at h2;apply jF _;apply mg 0 18;apply Y asE;apply G _;apply jT h0 (wU.kv.free 0);have Dy:U mT (wr.setCell (Aq tb 0) (.pointer (some (Aq (blk D' s) 0)))) tb (oL (some (blk D' s)) L.length ((kB D' s).length+1)):=by
    have:=wU.kv.set 0 (.pointer (some (Aq (blk D' s) 0)));rw[We]at this;exact this
   have xT:=wU.ps.kv 0 (.pointer (some (Aq (blk D' s) 0)));generalize wr.setCell (Aq tb 0) (.pointer (some (Aq (blk D' s) 0)))=w3 at Dy xT ⊢;clear h0 h2 nW;obtain⟨-,-,h2⟩:=AO Dy;have lJ:(kB D' s).length<=L.length+1:=by
    have:=(Tre.few nE.2 (.inr I)).1;have he:kN D' s=L:=by have:=wU.el;simpa[kN] using this
    rwa [he]at this
   have HZ:L.length<=l.length:=by have:=GW (k:=k) nG;rw[hL]at this;omega
   apply jF _;apply jT h2 (Dy.free 2);have AH:U mT (w3.setCell (Aq tb 2) (Iq ((((kB D' s).length+1:Nat):Int) - 1))) tb (oL (some (blk D' s)) L.length (kB D' s).length):=by
    have:=Dy.set 2 (Iq ((((kB D' s).length+1:Nat):Int) - 1));rw[show((((kB D' s).length+1:Nat):Int) - 1)=((kB D' s).length:Int) by omega]at this ⊢;exact this
   have qW:=xT.kv 2 (Iq ((((kB D' s).length+1:Nat):Int) - 1));generalize w3.setCell (Aq tb 2) (Iq ((((kB D' s).length+1:Nat):Int) - 1))=w4 at AH qW ⊢;apply G _;refine WQ.again ⟨D',s⟩ kz ⟨st',qW,aty,?_,nE.2,.inr (by show 1<=j9 D' s;omega),AH⟩ (by show D'<D'+1;omega);have:=wU.el
   simpa[kN] using this
  ·apply jF _
   exact WQ.oU rfl rfl rfl (Sd wU (.inr (by rw[hC];omega)) (by rw[hC];omega))
open Tre
theorem VB: prog.built mT []=some (oL none 0 0).toArray:=jG
def qP:St:=fun _=>none
theorem abw: Calls prog 64 #[] w fun e w'=>∃tb,e=.returned (jV tb)/\xw w' qP tb []/\jP w w'/\w.heap.size<=tb:=by
 apply kq func64 ntmps64;apply G _;apply jR (oL none 0 0) VB;refine jO fun g w1 MY=>?_;have hf:kJ w g w1 mT (oL none 0 0):=MY;clear MY;apply G _;exact J ⟨g,rfl,⟨fun b nd h=>(by cases h),rfl,none,0,hf.blk,.inl ⟨rfl,rfl,rfl⟩⟩,hf.below,by rw[hf.eq];exact aj _⟩
theorem abJ {st:St}{l:List KV}(h:xw w st tb l): Calls prog 36 #[jV tb] w fun e w'=>e=.returned (Iq l.length)/\w'=w:=by
 apply kq func36 ntmps36;obtain⟨-,-,root,nn,ht,-⟩:=h;have h1:w.cell? (Aq tb 1)=some (Iq l.length):=ht.cell 1 (by simp[oL]);apply G _;apply(kV);apply jF _;exact J ⟨rfl,rfl⟩
open Tre
structure air (st:St) (k:Ky) (l:List KV) (A:List (Nat×List KV)) (b:Nat) (es:List KV) (B:List (Nat×List KV)):Prop where
 uQ:Lnk st (A++(b,es)::B) none
 el:l=A.flatMap Prod.snd++(es++B.flatMap Prod.snd)
 lo:Lo (A.flatMap Prod.snd) k
 hi:Hi (B.flatMap Prod.snd) k
structure LX where
 A:List (Nat×List KV)
 d:Nat
 t:Tr d
 B:List (Nat×List KV)
theorem EE (l:List (Tr d)): (l.flatMap (mC d)).flatMap Prod.snd=l.flatMap (kN d):=by
 rw[List.flatMap_assoc];exact congrArg (fun f=>List.flatMap f l) (ep fun s=>(Tt d s).symm)
theorem Yb {st:St}{l:List KV}(h:xw w st tb l)(k:Ky): Calls prog 132 #[jV tb,.string k] w fun e w'=>jP w w'/\
  ((e=.returned (.pointer none)/\l=[])\/∃A b es B,e=.returned (jV b)/\air st k l A b es B):=by
 apply kq func132 ntmps132;obtain⟨hm,tR,root,nn,ht,mq⟩:=h;have nG:=mq.xr;have h0:w.cell? (Aq tb 0)=some (m8 root):=ht.cell 0 (by simp[oL]);apply G _;apply(kV);apply jF _;apply WL.as 12 (.pointer (root.map fun b=>(Aq b 0))) rfl (by cases root<;>rfl);apply(kV);rcases mq with⟨rfl,rfl,rfl⟩|⟨D,T,rfl,hg,rfl,vN⟩
 ·apply G _
  exact J ⟨Below.refl _ _,.inl ⟨rfl,rfl⟩⟩
 clear h0;have h0:=(AO ht).1;apply jF _;refine WC.loop (fun x:LX=>[(0,jV tb),(1,.string k),(5,.pointer (some (Aq (blk x.d x.t) 0)))])
  (fun x w'=>jP w w'/\Lnk st (x.A++mC x.d x.t++x.B) none/\l=x.A.flatMap Prod.snd++(kN x.d x.t++x.B.flatMap Prod.snd)/\Lo (x.A.flatMap Prod.snd) k/\Hi (x.B.flatMap Prod.snd) k/\sh x.d st x.t/\Mn x.d x.t/\(x.d=0\/2<=j9 x.d x.t)) (fun x=>x.d) ⟨[],D,T,[]⟩ kz
  ⟨Below.refl _ _,by simpa using hg.uQ,by simpa using hg.el.symm,Lo.nil,Hi.nil,hg.rep,hg.mn,hg.root⟩ ?_
 rintro⟨A,d,t,B⟩ wr ⟨hb,Ca,mL,sT,qZ,hr,zm,hc⟩;simp only at Ca mL sT qZ hr zm hc;have hmr:=hm.below hb;cases d with
 | zero=>
  obtain⟨b,es⟩:=t;change WC _ _ _ [(0,jV tb),(1,.string k),(5,jV b)] wr;have alx:Lnk st (A++(b,es)::B) none:=by
   have:A++mC 0 (b,es)++B=A++(b,es)::B:=by simp[mC]
   rw[this]at Ca;exact Ca
  have sF:st b=some ⟨true,me es,Tre.hd B none⟩:=(Lnk.app.1 alx).2.1;obtain⟨-,pv,vb⟩:=hmr _ _ sF;have l0:wr.cell? (Aq b 0)=some (.bool true):=lN vb I;apply jF _;exact J ⟨hb,.inr ⟨A,b,es,B,rfl,⟨alx,mL,sT,qZ⟩⟩⟩
 | succ d=>
  obtain⟨b,ks⟩:=t;change WC _ _ _ [(0,jV tb),(1,.string k),(5,jV b)] wr;have h2:2<=ks.length:=by rcases hc with e|e;cases e;exact e
  obtain⟨Bf,vQ⟩:ks.length<=8/\∀s∈ks,4<=j9 d s/\Mn d s:=zm;have hss:tL (ks.flatMap (kN d)):=by
   rw[mL]at nG;exact(sg.1 (sg.1 nG).2.1).1
  have sF:st b=some ⟨false,ks.map (kI d),none⟩:=hr.1;obtain⟨-,pv,vb⟩:=hmr _ _ sF;have l0:wr.cell? ⟨b,0,none⟩=some (.bool false):=lN vb (by omega);have sj:∀q:List (Tr d),(q.map (kI d)).length=q.length:=fun q=>aB ..;obtain⟨oA,s,kr,Cl,MA,avm,au0,-⟩:=GZ (k:=k) (fun x hx=>vm (vQ x hx).2 (by have:=(vQ x hx).1;omega)) hss (fun e=>by rw[e]at h2;simp at h2);have EN:oA.length<8:=by rw[Cl]at Bf;simp only[af,ak]at Bf;omega
  have zu:=H8 vb (i:=oA.length) (q:=blk d s) I (by show((ks.map (kI d)).getD oA.length lB).pw=_;rw[Cl,ya];rfl);apply jF _;refine WC.drawn 8 (fun wx=>wx.heap=wr.heap) fun w2 hd=>?_;have hS:=hd.heap;have kK:=hb.trans (hd.below _);have Ja:=vb.below (hd.below _) vb.lt;clear hd;apply jC [0,1,2,4,5] hS _;apply jS 3;apply jx func93 (HQ (key:=k) Ja (by show(ks.map (kI d)).length<=8;rw[sj];omega) (by show 1<=(ks.map (kI d)).length;rw[sj];omega));rintro _ w3 ⟨rfl,pE⟩;subst pE;refine⟨_,rfl,?_⟩;simp only[Ey,sj];rw[<-MA];apply lI hS;apply kU 6 oA.length (18+oA.length) (.inr hS);apply jz 7 [8] (fun wx hx=>(lH hx _).trans zu) hS;apply jS 8;apply(jN);apply(jZ);apply(jD);apply G _;have nE:=vQ s (by rw[Cl];simp);refine WQ.again ⟨A++oA.flatMap (mC d),d,s,kr.flatMap (mC d)++B⟩ kz ⟨kK,?_,?_,?_,?_,hr.2 s (by show List.Mem s ks;rw[Cl];exact(au.2 (.inr (cL ..)):s∈oA++s::kr)),nE.2,.inr (by show 2<=j9 d s;omega)⟩ (by show d<d+1;omega)
  ·have e:A++mC (d+1) (b,ks)++B=A++oA.flatMap (mC d)++mC d s++(kr.flatMap (mC d)++B):=by
    show A++List.flatMap (mC d) ks++B=_
    rw[Cl,an,aq];simp only[av]
   rw[e]at Ca;exact Ca
  ·show l=(A++oA.flatMap (mC d)).flatMap Prod.snd++(kN d s++(kr.flatMap (mC d)++B).flatMap Prod.snd)
   have e:kN (d+1) (b,ks)=oA.flatMap (kN d)++(kN d s++kr.flatMap (kN d)):=by
    show List.flatMap (kN d) ks=_
    rw[Cl,an,aq]
   rw[mL,e,an,an,EE,EE];simp only[av]
  ·show Lo ((A++oA.flatMap (mC d)).flatMap Prod.snd) k
   rw[an,EE];exact Lo.app.2 ⟨sT,avm⟩
  ·show Hi ((kr.flatMap (mC d)++B).flatMap Prod.snd) k
   rw[an,EE];exact Hi.app.2 ⟨au0,qZ⟩
open Tre
abbrev vn:Nat:=207
def Fl:KV:=(ByteArray.empty,0)
def Pp (x:KV)(cs:kL):Prop:=cs=[.string x.1,Iq x.2]
theorem aa_: na prog 204 vn 2 24:=na.mk' (z:=.agg #[.string ByteArray.empty,Iq 0]) underlying204 jG rfl I
def Iy (t:Ky):Bool:=t.toList == (⟨#[]⟩:lD).toList
def IB (f t:Ky)(e:KV):Bool:=!kl e.1 f && (Iy t || kl e.1 t)
def th (f t:Ky)(l:List KV):List KV:=l.filter (IB f t)
theorem aiz {f t:Ky}{l:List KV}(h:Lo l f): th f t l=[]:=by
 unfold th;rw[cZ];intro e he;unfold IB;rw[h e he];simp
theorem aa5 {f t:Ky}{P R:List KV}{e:KV}(hs:tL (P++e::R))(ht:Iy t=false)(he:kl e.1 t=false): th f t (P++e::R)=th f t P:=by
 unfold th;rw[cm];have h2:=(sg.1 hs).2.1;have:(e::R).filter (IB f t)=[]:=by
  rw[cZ];intro x hx;have YB:kl x.1 t=false:=by
   rcases ax.1 hx with rfl|hx
   ·exact he
   ·have:=(bT.1 h2).1 x hx
    exact abk he (wN this)
  unfold IB;rw[ht,YB];simp
 rw[this,aP]
theorem Px {f t:Ky}{P:List KV}{e:KV}: th f t (P++[e])=if IB f t e then th f t P++[e] else th f t P:=by
 unfold th;rw[cm];cases h:IB f t e<;>simp[h]
theorem Vr (f t:Ky)(l:List KV): (th f t l).length<=l.length:=dN ..
structure AX where
 pre:List KV
 rem:List (Nat×List KV)
 v:Value
theorem Vh (s:lD)(n:Int): prog.built vn [(0,.string s),(1,Iq n)]=some #[.string s,Iq n]:=jG
theorem acJ {st:St}{l:List KV}(h:xw w st tb l)(f t:Ky)(hl:l.length<1000000000): Calls prog 103 #[jV tb,.string f,.string t] w fun e w'=>jP w w'/\∃v,e=.returned v/\kC vn 2 Fl Pp (fun b=>w.heap.size<=b) w' v (th f t l):=by
 apply kq func103 ntmps103;have nG:tL l:=by obtain⟨-,-,_,_,-,hh⟩:=h;exact hh.xr
 apply G _;apply jx func132 (Yb h f);rintro e1 w1 ⟨oc,hle⟩;obtain⟨ZJ,UH,he0,EJ,ak0,al9⟩:∃ZJ UH,e1=.returned (m8 (Tre.hd UH none))/\l=ZJ++UH.flatMap Prod.snd/\Lnk st UH none/\Lo ZJ f:=by
  rcases hle with⟨rfl,rfl⟩|⟨A,b,es,B,rfl,ui⟩
  ·exact⟨[],[],rfl,rfl,trivial,Lo.nil⟩
  ·exact⟨A.flatMap Prod.snd,(b,es)::B,rfl,ui.el,(Lnk.app.1 ui.uQ).2,ui.lo⟩
 subst he0;refine⟨_,rfl,?_⟩;have HA:=h.mem.below oc;apply G _;refine WC.loop (fun x:AX=>[(0,jV tb),(1,.string f),(2,.string t),(7,x.v),(8,m8 (Tre.hd x.rem none))])
  (fun x w'=>jP w w'/\l=x.pre++x.rem.flatMap Prod.snd/\Lnk st x.rem none/\kC vn 2 Fl Pp (fun b=>w.heap.size<=b) w' x.v (th f t x.pre)) (fun x=>x.rem.length) ⟨ZJ,UH,kP⟩ kz
  ⟨oc,EJ,ak0,by rw[aiz al9];exact kC.nil _ _ _ _ _ _⟩ ?_
 rintro⟨pre,rem,v⟩ wr ⟨hb,mL,Ca,jW⟩;simp only at mL Ca jW;cases rem with
 | nil=>
  change WC _ _ _ [(0,jV tb),(1,.string f),(2,.string t),(7,v),(8,.pointer none)] wr;have Uy:l=pre:=by simpa using mL
  apply G _;apply WL.tk rfl rfl rfl rfl rfl rfl jG;apply G _;exact J ⟨hb,v,rfl,by rw[Uy];exact jW⟩
 | cons x rem=>
  obtain⟨b,es⟩:=x;change WC _ _ _ [(0,jV tb),(1,.string f),(2,.string t),(7,v),(8,jV b)] wr;have sF:st b=some ⟨true,me es,Tre.hd rem none⟩:=Ca.1;obtain⟨EN,pv,vb⟩:=(h.mem.below hb) _ _ sF;simp only[nY]at EN;have NJ:=yT vb (nY es);have Uy:l=pre++es++rem.flatMap Prod.snd:=by rw[mL,aq,av]
  have hlen:pre.length+es.length<=l.length:=by rw[Uy];simp only[af];omega
  apply G _;apply WL.tk rfl rfl rfl rfl rfl rfl jG;apply ur _;apply WC.block;apply ur _;apply WC.block;refine WC.loop (fun x:Nat×Value=>[(0,jV tb),(1,.string f),(2,.string t),(7,x.2),(8,jV b),(22,Iq es.length),(23,Iq x.1)])
   (fun x w'=>jP w w'/\x.1<=es.length/\U mH w' b (j5 (nS ⟨true,me es,Tre.hd rem none⟩ pv))/\kC vn 2 Fl Pp (fun b=>w.heap.size<=b) w' x.2 (th f t (pre++es.take x.1))) (fun x=>es.length - x.1) (0,v) kz
   ⟨hb,ay _,vb,by simpa using jW⟩ ?_
  clear hb vb NJ jW oc hle EJ ak0 al9 HA;rintro⟨i,u⟩ wq ⟨hb,hi,vb,jW⟩;simp only at hi jW;have xH:=h.mem.lt (by rw[sF];simp)
  by_cases j6:i<es.length
  ·have xl:=DA vb (i:=i) I
   rw[uh es j6]at xl;have oQ:=TR vb (i:=i) I;rw[uh es j6]at oQ;simp only at xl oQ;have xE:es.take (i+1)=es.take i++[es[i]]:=by rw[aK,ai j6];rfl
   have KM:l=(pre++es.take i)++es[i]::(es.drop (i+1)++rem.flatMap Prod.snd):=by
    rw[Uy]
    conv=>lhs;rw[<-aO i es,bI j6]
    simp only[av,bC]
   generalize es[i]=E at xl oQ xE KM;apply ur _;apply WC.block;apply WC.seq;apply WC.region;apply(jN);apply(jN);apply WL.nil;apply WQ.then rfl;apply WC.seq;refine WC.tn (fun _:Unit=>[(0,jV tb),(1,.string f),(2,.string t),(7,u),(8,jV b),(9,Iq i),(22,Iq es.length),(23,Iq i)])
    (fun _ w'=>w'=wq/\(Iy t || kl E.1 t)=true) rfl ?_ ?_
   ·apply G _
    cases Y9:(t.toList == (⟨#[]⟩:lD).toList) with
    | true=>
     have pN:(Iy t || kl E.1 t)=true:=by unfold Iy;rw[Y9];rfl
     apply G _;exact WQ.meet () kz ⟨rfl,pN⟩
    | false=>
     apply G _;apply mg i (2+i);apply(jX);apply Y xl;apply G _;cases hkt:Op.bytesLess E.1.toList t.toList with
     | true=>
      have pN:(Iy t || kl E.1 t)=true:=by unfold kl;rw[hkt,Bool.or_true]
      apply G _;exact WQ.meet () kz ⟨rfl,pN⟩
     | false=>
      apply G _;refine J ⟨hb,u,rfl,?_⟩;have:th f t l=th f t (pre++es.take i):=by
       rw[KM];exact aa5 (by rw[<-KM];exact nG) Y9 hkt
      rw[this];exact jW
   rintro⟨⟩ wz ⟨hwz,pN⟩;subst hwz;apply G _;apply mg i (2+i);apply Y xl;apply G _;cases LC:Op.bytesLess E.1.toList f.toList with
   | true=>
    apply G _;refine WQ.again (i+1,u) kz ⟨hb,j6,vb,?_⟩ (by show es.length - (i+1)<es.length - i;omega)
    show kC vn 2 Fl Pp (fun b=>w.heap.size<=b) wz u (th f t (pre++es.take (i+1)))
    rw[xE,<-av,Px,aa (by unfold IB kl;rw[LC];simp)];exact jW
   | false=>
    have azV:=Vr f t (pre++es.take i);have oR:(pre++es.take i).length<=l.length:=by rw[KM];simp only[af];omega
    apply G _;refine WC.drawn 13 (fun wx=>wx.heap=wz.heap) fun w2 hd=>?_;have hS:=hd.heap;have kK:=hb.trans (hd.below _);have Ja:=vb.below (hd.below _) vb.lt;have adZ:=jW.jA (P':=Pp) (O':=fun b=>w.heap.size<=b) (Z.pU hd (fun _=>True)) (fun _ _=>trivial) nN fun _ _ h=>h;clear hd;apply jC [0,1,2,3,4] hS _;apply kU 5 i (2+i) (.inr hS);apply jz 6 [13,14,15,16] (fun wx hx=>(lH hx _).trans xl) hS;apply jC [7,8,9,10] hS _;apply kU 11 i (10+i) (.inr hS);apply jz 12 [13,14,15,16] (fun wx hx=>(lH hx _).trans oQ) hS;apply jS 13;apply jR [.string E.1,Iq E.2] (Vh _ _);apply(jZ);apply jS 14;refine lh (hs:=⟨I,I⟩) (cs:=[.string E.1,Iq E.2]) fun g7 w7 xF=>?_;have y9:=kK.kj xF.below;have KH:=Ja.below xF.below Ja.lt;have ZT:=adZ.jA (P':=Pp) (O':=fun b=>w.heap.size<=b) (Z.jw xF.below) (fun g hg=>adZ.lt hg) nN fun _ _ h=>h;apply(jZ);apply jS 15;refine WL.snoc (y:=E) rfl rfl rfl rfl aa_ rfl ZT rfl xF.blk (by intro q hq;simp at hq;rcases hq with rfl|rfl<;>rfl) rfl rfl I I fun v8 w8 Aw p7=>?_;have hw7:=y9.size;have yj:=y9.trans (p7.old hw7 fun g hg=>ZT.own hg);have vb8:=KH.jA p7.1 ⟨KH.lt,fun e=>by have:=ZT.own e;omega⟩;have atX:kC vn 2 Fl Pp (fun b=>w.heap.size<=b) w8 v8 (th f t (pre++es.take i)++[E]):=Aw.jA (Z.refl (fun _=>True) w8) (fun _ _=>trivial) (fun b hb=>hb.elim id fun e=>by omega) fun _ _ h=>h;clear xF Aw p7 ZT KH y9 adZ jW;apply(jZ);apply jS 16;apply(jN);apply(jZ);apply(jD);apply G _;refine WQ.again (i+1,v8) kz ⟨yj,j6,vb8,?_⟩ (by show es.length - (i+1)<es.length - i;omega)
    show kC vn 2 Fl Pp (fun b=>w.heap.size<=b) w8 v8 (th f t (pre++es.take (i+1)))
    rw[xE,<-av,Px,ag (by unfold IB;rw[pN];unfold kl;rw[LC];rfl)];exact atX
  ·obtain rfl:i=es.length:=I
   rw[aN]at jW;have xq:wq.cell? (Aq b 26)=some (m8 (Tre.hd rem none)):=lN vb I;apply jF _;refine WQ.again ⟨pre++es,rem,u⟩ kz ⟨hb,Uy,Ca.2,jW⟩ (by show rem.length<rem.length+1;omega)
end K
namespace Ix
open K Tre
open Op (bytesLess)
def fldR (v:V)(f:lD):Option V :=
 if v.k=9 then(match v.names.findIdx? (fun g=>decide (g=f)) with
  | some i=>if i<v.kids.length then some (v.kids.getD i mM) else none
  | none=>none) else none
theorem Pf:∀ {m:Nat}{v:V},chk m v=0->chk (m+1) v=0
 | 0,_,h=>by cases h
 | m+1,v,h=>by
  have hs:=qe h;unfold chk at h ⊢;rw[ag hs]at h ⊢;rw[qi]at h ⊢;intro e he;obtain⟨x,hx,rfl⟩:=bD.1 he;exact Pf (h _ (bD.2 ⟨x,hx,rfl⟩))
theorem Hs {d v:V}{f:lD}(h:fldR d f=some v): ∃i,i<d.kids.length/\v=d.kids.getD i mM:=by
 unfold fldR at h
 split at h
 ·split at h
  ·split at h
   ·rename_i i _ hi
    exact⟨i,hi,by cases h;rfl⟩
   ·cases h
  ·cases h
 ·cases h
theorem u6 {d v:V}{f:lD}(hd:chk 16 d=0)(h:fldR d f=some v): chk 16 v=0:=by
 obtain⟨i,hi,rfl⟩:=Hs h;exact Pf (qB hd hi)
theorem El {d v:V}{f:lD}(hd:Rg d)(h:fldR d f=some v): Rg v:=by
 obtain⟨i,hi,rfl⟩:=Hs h;obtain⟨k,hk⟩:=hd;cases k with
 | zero=>exact hk.elim
 | succ k=>exact⟨k,hk.2 _ (yq hi)⟩
abbrev Gx:=Int->Option V
def ml (g:Gx)(n:Int)(o:Option V):Gx:=fun x=>if x=n then o else g x
structure Gd (g:Gx):Prop where
 ok:∀n d,g n=some d->R6 n/\chk 16 d=0/\Rg d
structure sV (f:lD) (g:Gx) (L:List KV):Prop where
 xr:tL L
 mem:∀p,p∈L ↔ ∃n d v,g n=some d/\fldR d f=some v/\p=(tE v n,n)
def vo (f:lD)(n:Int)(d:V)(L:List KV):List KV:=match fldR d f with|some v=>mU (tE v n) n L|none=>L
def layOut (f:lD)(n:Int)(d:V)(L:List KV):List KV:=match fldR d f with|some v=>nP (tE v n) L|none=>L
theorem Uv {k:Ky}{n:Int}:∀ {l:List KV},tL l->∀e,e∈mU k n l ↔ e=(k,n)\/(e∈l/\e.1≠k)
 | [],_,e=>by simp[mU]
 | (a,m)::r,h,e=>by
  obtain⟨h1,h2⟩:=bT.1 h;unfold mU
  split
  ·rename_i hk
   rw[ax,Uv h2,ax]
   constructor
   ·rintro(rfl|rfl|⟨q1,q2⟩)
    ·exact .inr ⟨.inl rfl,Ck hk⟩
    ·exact .inl rfl
    ·exact .inr ⟨.inr q1,q2⟩
   ·rintro(rfl|⟨rfl|q1,q2⟩)
    ·exact .inr (.inl rfl)
    ·exact .inl rfl
    ·exact .inr (.inr ⟨q1,q2⟩)
  ·rename_i hk
   split
   ·rename_i he
    subst he;rw[ax,ax]
    constructor
    ·rintro(rfl|q)
     ·exact .inl rfl
     ·exact .inr ⟨.inr q,fun e2=>Ck (h1 e q) e2.symm⟩
    ·rintro(rfl|⟨rfl|q1,q2⟩)
     ·exact .inl rfl
     ·exact(q2 rfl).elim
     ·exact .inr q1
   ·rename_i mE
    have xL:kl k a=true:=by
     cases hq:kl k a with
     | true=>rfl
     | false=>exact absurd (Ef (by simpa using hk) hq) mE
    rw[ax]
    constructor
    ·rintro(rfl|q)
     ·exact .inl rfl
     ·refine .inr ⟨q,fun e2=>?_⟩
      rcases ax.1 q with rfl|q
      ·exact mE e2
      ·have:=wE xL (h1 e q)
       rw[<-e2,zY]at this;cases this
    ·rintro(rfl|⟨q,-⟩)
     ·exact .inl rfl
     ·exact .inr q
theorem aeh {k:Ky}{l:List KV}(e:KV): e∈nP k l ↔ e∈l/\e.1≠k:=by
 unfold nP;rw[cg,aX]
section
variable {f:lD}{g:Gx}{L:List KV}{n:Int}{d:V}
theorem sV.nil: sV f (fun _=>none) []:=⟨List.Pairwise.nil,fun p=>⟨fun h=>(by cases h),fun⟨_,_,_,h,_⟩=>(by cases h)⟩⟩
theorem sV.congr (h:sV f g L){g':Gx}(e:∀n,g' n=g n): sV f g' L:=⟨h.xr,fun p=>by
 rw[h.mem]
 constructor<;>rintro⟨n,d,v,q1,q2⟩
 ·exact⟨n,d,v,by rw[e];exact q1,q2⟩
 ·exact⟨n,d,v,by rw[<-e];exact q1,q2⟩⟩
theorem sV.put (h:sV f g L)(hg:Gd g)(hn:R6 n)(hd:chk 16 d=0)(hr:Rg d)(h0:g n=none): sV f (ml g n (some d)) (vo f n d L):=by
 unfold vo;cases hf:fldR d f with
 | none=>
  refine⟨h.xr,fun p=>?_⟩;rw[h.mem]
  constructor
  ·rintro⟨m,d',v,q1,q2,q3⟩
   exact⟨m,d',v,by unfold ml;rw[aa (fun e=>by rw[e,h0]at q1;cases q1)];exact q1,q2,q3⟩
  ·rintro⟨m,d',v,q1,q2,q3⟩
   unfold ml at q1
   split at q1
   ·cases q1
    rw[hf]at q2;cases q2
   ·exact⟨m,d',v,q1,q2,q3⟩
 | some v=>
  refine⟨IU h.xr,fun p=>?_⟩;simp only
  rw[Uv h.xr,h.mem]
  constructor
  ·rintro(rfl|⟨⟨m,d',u,q1,q2,q3⟩,q4⟩)
   ·exact⟨n,d,v,by unfold ml;rw[ag rfl],hf,rfl⟩
   ·exact⟨m,d',u,by unfold ml;rw[aa (fun e=>by rw[e,h0]at q1;cases q1)];exact q1,q2,q3⟩
  ·rintro⟨m,d',u,q1,q2,rfl⟩
   unfold ml at q1
   split at q1
   ·rename_i e
    cases q1
    rw[hf]at q2;cases q2
    rw[e];exact .inl rfl
   ·rename_i e
    obtain⟨r1,r2,r3⟩:=hg.ok m d' q1;refine .inr ⟨⟨m,d',u,q1,q2,rfl⟩,fun e2=>e ?_⟩;exact(aax (u6 r2 q2) (u6 hd hf) (El r3 q2) (El hr hf) r1 hn e2).2
theorem sV.del (h:sV f g L)(hg:Gd g)(h0:g n=some d): sV f (ml g n none) (layOut f n d L):=by
 obtain⟨hn,hd,hr⟩:=hg.ok n d h0;unfold layOut;cases hf:fldR d f with
 | none=>
  refine⟨h.xr,fun p=>?_⟩;rw[h.mem]
  constructor
  ·rintro⟨m,d',v,q1,q2,q3⟩
   refine⟨m,d',v,?_,q2,q3⟩;unfold ml;rw[aa (fun e=>?_)]
   ·exact q1
   ·rw[e,h0]at q1
    cases q1
    rw[hf]at q2;cases q2
  ·rintro⟨m,d',v,q1,q2,q3⟩
   unfold ml at q1
   split at q1
   ·cases q1
   ·exact⟨m,d',v,q1,q2,q3⟩
 | some v=>
  refine⟨Po h.xr,fun p=>?_⟩;simp only
  rw[aeh,h.mem]
  constructor
  ·rintro⟨⟨m,d',u,q1,q2,rfl⟩,q4⟩
   refine⟨m,d',u,?_,q2,rfl⟩;unfold ml;rw[aa (fun e=>?_)]
   ·exact q1
   ·subst e
    rw[h0]at q1;cases q1
    rw[hf]at q2;cases q2
    exact q4 rfl
  ·rintro⟨m,d',u,q1,q2,rfl⟩
   unfold ml at q1
   split at q1
   ·cases q1
   ·rename_i e
    obtain⟨r1,r2,r3⟩:=hg.ok m d' q1;exact⟨⟨m,d',u,q1,q2,rfl⟩,fun e2=>e (aax (u6 r2 q2) (u6 hd hf) (El r3 q2) (El hr hf) r1 hn e2).2⟩
theorem Gd.cut (hg:Gd g): Gd (Ix.ml g n none):=⟨fun m d' h=>by
 unfold Ix.ml at h
 split at h
 ·cases h
 ·exact hg.ok m d' h⟩
end
theorem GP {α:Type}{lt:α->α->Prop}(irr:∀a,¬lt a a)(asm:∀a b,lt a b->¬lt b a):∀ {l l':List α},l.Pairwise lt->l'.Pairwise lt->(∀x,x∈l ↔ x∈l')->l=l'
 | [],[],_,_,_=>rfl
 | [],b::l',_,_,h=>by have:=(h b).2 jM;cases this
 | a::l,[],_,_,h=>by have:=(h a).1 jM;cases this
 | a::l,b::l',h1,h2,h=>by
  obtain⟨a1,a2⟩:=bT.1 h1;obtain⟨b1,b2⟩:=bT.1 h2;have uP:a=b:=by
   rcases ax.1 ((h a).1 jM) with e|e
   ·exact e
   ·rcases ax.1 ((h b).2 jM) with e2|e2
    ·exact e2.symm
    ·exact(asm _ _ (b1 a e) (a1 b e2)).elim
  subst uP
  congr 1
  refine GP irr asm a2 b2 fun x=>⟨fun hx=>?_,fun hx=>?_⟩
  ·rcases ax.1 ((h x).1 (aD _ hx)) with e|e
   ·rw[e]at hx;exact(irr _ (a1 a hx)).elim
   ·exact e
  ·rcases ax.1 ((h x).2 (aD _ hx)) with e|e
   ·rw[e]at hx;exact(irr _ (b1 a hx)).elim
   ·exact e
theorem sV.uniq {f:lD}{g:Gx}{L L':List KV}(h:sV f g L)(h':sV f g L'): L=L' :=
 GP (lt:=fun a b:KV=>kl a.1 b.1=true) (fun a h=>by rw[zY]at h;cases h) (fun a b h h2=>by rw[wN h]at h2;cases h2) h.xr h'.xr fun x=>(h.mem x).trans (h'.mem x).symm
abbrev Au:=Int×V
def hl (a b:Au):Prop:=ordV 16 a.2 b.2<0\/(ordV 16 a.2 b.2=0/\a.1<b.1)
structure u7 (f:lD) (g:Gx) (H:List Au):Prop where
 OR:H.Pairwise hl
 mem:∀h:Au,h∈H ↔ ∃d,g h.1=some d/\fldR d f=some h.2
def kk (h:Au):KV:=(tE h.2 h.1,h.1)
section
variable {f:lD}{g:Gx}{L:List KV}{H:List Au}
theorem u7.oP (h:u7 f g H)(hg:Gd g): ∀x∈H,chk 16 x.2=0/\Rg x.2/\R6 x.1:=fun x hx=>by
 obtain⟨d,q1,q2⟩:=(h.mem x).1 hx;obtain⟨r1,r2,r3⟩:=hg.ok _ _ q1;exact⟨u6 r2 q2,El r3 q2,r1⟩
theorem u7.row (h:u7 f g H)(hg:Gd g)(hL:sV f g L): L=H.map kk:=by
 refine GP (lt:=fun a b:KV=>kl a.1 b.1=true) (fun a h=>by rw[zY]at h;cases h) (fun a b h h2=>by rw[wN h]at h2;cases h2) hL.xr ?_ fun p=>?_
 ·rw[ij]
  refine fy (fun {a b} ha hb uP=>?_) h.OR;obtain⟨a1,a2,a3⟩:=h.oP hg a ha;obtain⟨b1,b2,b3⟩:=h.oP hg b hb
  show kl (tE a.2 a.1) (tE b.2 b.1)=true
  rw[WI a1 b1 a2 b2 a3 b3];exact aw uP
 ·rw[hL.mem,bD]
  constructor
  ·rintro⟨n,d,v,q1,q2,rfl⟩
   exact⟨(n,v),(h.mem (n,v)).2 ⟨d,q1,q2⟩,rfl⟩
  ·rintro⟨x,hx,rfl⟩
   obtain⟨d,q1,q2⟩:=(h.mem x).1 hx;exact⟨x.1,d,x.2,q1,q2,rfl⟩
def HU (x y v:V):Bool:=(!decide (chk 16 x=0) || !decide (ordV 16 v x<0)) && (!decide (chk 16 y=0) || decide (ordV 16 v y<0))
def zy (x:V):lD:=if chk 16 x=0 then sO x else⟨#[]⟩
theorem abI: Iy ⟨#[]⟩=true:=fZ _
theorem ZS {y:V}(hy:chk 16 y=0): Iy (sO y)=false:=by
 unfold Iy;rw[b_];intro h;obtain⟨c,r,hk,-⟩:=BG hy;have h1:(sO y).toList.length=0:=by rw[h,aJ];rfl
 unfold sO at h1;rw[wA,Gf,hk]at h1;simp at h1
theorem agE (a:lD): kl a ⟨#[]⟩=false:=by
 show bytesLess a.toList (⟨#[]⟩:lD).toList=false
 have:(⟨#[]⟩:lD).toList=[]:=by rw[aJ]
 rw[this];cases a.toList<;>rfl
theorem afm {x y:V}{h:Au}(rx:Rg x)(ry:Rg y)(h1:chk 16 h.2=0)(h2:Rg h.2): IB (zy x) (zy y) (kk h)=HU x y h.2:=by
 unfold IB HU zy kk;simp only
 congr 1
 ·by_cases hx:chk 16 x=0
  ·rw[ag hx,I6 h1 hx h2 rx,aw hx];simp
  ·rw[aa hx,agE,ar hx];rfl
 ·by_cases hy:chk 16 y=0
  ·rw[ag hy,ZS hy,I6 h1 hy h2 ry,aw hy];simp
  ·rw[aa hy,abI,ar hy];rfl
theorem u7.range (h:u7 f g H)(hg:Gd g)(hL:sV f g L){x y:V}(rx:Rg x)(ry:Rg y): (th (zy x) (zy y) L).map Prod.snd=(H.filter fun e=>HU x y e.2).map Prod.fst:=by
 rw[h.row hg hL];unfold th;rw[List.filter_map,gD];have e:∀a∈H,(IB (zy x) (zy y) ∘ kk) a=HU x y a.2:=fun a ha=>by
  obtain⟨a1,a2,a3⟩:=h.oP hg a ha;exact afm rx ry a1 a2
 rw[List.filter_congr e]
 rfl
theorem aaS {a b:Ky}(h:bytesLess a.toList b.toList=false)(hb:Iy b=false)(L:List KV): th a b L=[]:=by
 unfold th;rw[cZ];intro e _ he;unfold IB at he;rw[hb]at he;simp only[jh,aF,cG]at he;have:=Ek he.2 h;rw[he.1]at this;cases this
theorem u7.equal (h:u7 f g H)(hg:Gd g)(hL:sV f g L){x:V}(hx:chk 16 x=0)(rx:Rg x){t:lD}(ht:t.toList=Ord.Aa (Ord.strip (sO x).toList)){l:oK}(ha:l.Pairwise (· < ·))(hm:∀n,n∈l ↔ ∃d v,g n=some d/\fldR d f=some v/\ordV 16 v x=0): (th (sO x) t L).map Prod.snd=l:=by
 have wu:Ord.strip (sO x).toList≠[]:=fun h=>by
  have TA:=Ord.FT h;obtain⟨c,r,hk,-⟩:=BG hx;have nL:c<=128:=by
   have h3:keyV 16 x=oy x.k::_:=rfl;rw[h3]at hk;have h2:=(rz (qe hx)).1;have:=(List.cons.inj hk).1;unfold oy at this
   split at this
   ·omega
   ·split at this<;>omega
  have yK:=pQ (WV hx) c (by rw[Gf,hk];simp);have:=TA (UInt8.ofNat c.toNat) (by unfold sO;rw[wA,Gf,hk];simp);have h4:=congrArg UInt8.toNat this;simp at h4
  omega
 have pN:∀a∈H,(IB (sO x) t ∘ kk) a=decide (ordV 16 a.2 x=0):=fun a hH=>by
  obtain⟨a1,a2,a3⟩:=h.oP hg a hH;have EO:Iy t=false:=by
   unfold Iy;rw[b_];intro e;have h1:=Ord.BT (s:=(sO x).toList) [] wu;rw[<-ht,e,aP]at h1;have:(⟨#[]⟩:lD).toList=[]:=by rw[aJ]
   rw[this]at h1;cases hq:(sO x).toList with
   | nil=>rw[hq]at h1;cases h1
   | cons b r=>rw[hq]at h1;cases h1
  show(!kl (tE a.2 a.1) (sO x) && (Iy t || kl (tE a.2 a.1) t))=_
  rw[EO,jh];rw[gy];simp only[aF,cG,aX];rw[<-aae (n:=a.1) a1 hx a2 rx]
  constructor
  ·rintro⟨q1,q2⟩
   have q2:bytesLess (tE a.2 a.1).toList t.toList=true:=q2;rw[ht]at q2;rcases Ord.VR _ wu q2 with q3|q3
   ·have q3:kl (tE a.2 a.1) (sO x)=true:=q3
    rw[q1]at q3;cases q3
   ·exact q3
  ·intro q
   refine⟨?_,?_⟩
   ·rw[I6 a1 hx a2 rx,ar]
    rw[aae a1 hx a2 rx]at q;omega
   ·obtain⟨r,hr⟩:=q
    show bytesLess (tE a.2 a.1).toList t.toList=true
    rw[<-hr,ht];exact Ord.BT r wu
 rw[h.row hg hL];unfold th;rw[List.filter_map,gD,List.filter_congr (fun a ha=>pN a ha)];refine GP (lt:=(· < ·)) (fun a=>Int.lt_irrefl a) (fun a b h=>by omega) ?_ ha fun n=>?_
 ·rw[ij]
  have hp:=iU (fun a:Au=>decide (ordV 16 a.2 x=0)) h.OR;refine fy (fun {a b} qa qb uP=>?_) hp;obtain⟨a0,a1⟩:=cg.1 qa;obtain⟨b0,b1⟩:=cg.1 qb;have a1:=aR a1;have b1:=aR b1;obtain⟨c1,c2,c3⟩:=h.oP hg a a0;obtain⟨d1,d2,d3⟩:=h.oP hg b b0
  show a.1<b.1
  rcases uP with q|q
  ·exfalso
   have e:=(K9 c1 hx c2 rx a1).trans (K9 d1 hx d2 rx b1).symm;have h0:=sc c1 d1 c2 d2 [] [];rw[e,BQ,aa I]at h0;omega
  ·exact q.2
 ·rw[hm,bD]
  constructor
  ·rintro⟨a,qa,rfl⟩
   obtain⟨a0,a1⟩:=cg.1 qa;obtain⟨d,q1,q2⟩:=(h.mem a).1 a0;exact⟨d,a.2,q1,q2,aR a1⟩
  ·rintro⟨d,v,q1,q2,q3⟩
   exact⟨(n,v),cg.2 ⟨(h.mem (n,v)).2 ⟨d,q1,q2⟩,aw q3⟩,rfl⟩
end
end Ix
open Go.Maps
def Dr (v:Value):Option (DataW Value×List MemPlace):=some (.held v,[])
def orD (x:Option Value)(z:DataW Value):DataW Value:=match x with|some v=>.held v|none=>z
def MF {κ:Type}(P:Program)(k:TypeId)(mk:κ->Value)(w:World)(b n:Nat)(F:κ->Option Value):Prop :=
 ∃D,w.ownsMap P k Dr b n D/\∀x kl,keyOf P k (mk x)=some kl->∀z,D.atKey kl z=orD (F x) z
def pR {κ:Type}[DecidableEq κ](F:κ->Option Value)(key:κ)(d:Value):κ->Option Value:=fun x=>if x=key then some d else F x
def An {κ:Type}[DecidableEq κ](F:κ->Option Value)(key:κ):κ->Option Value:=fun x=>if x=key then none else F x
theorem UA [DecidableEq κ](F:κ->Option Value)(key:κ)(d:Value): pR F key d key=some d:=by simp[pR]
theorem Q1 [DecidableEq κ](F:κ->Option Value){key x:κ}(d:Value)(h:x≠key): pR F key d x=F x:=by simp[pR,h]
theorem JA [DecidableEq κ](F:κ->Option Value)(key:κ): An F key key=none:=by simp[An]
theorem Hf [DecidableEq κ](F:κ->Option Value){key x:κ}(h:x≠key): An F key x=F x:=by simp[An,h]
section
variable {κ:Type}{P:Program}{k:TypeId}{mk:κ->Value}{w:World}{b n:Nat}{F:κ->Option Value}
theorem MF.lt (h:MF P k mk w b n F): b<w.heap.size:=by obtain⟨D,h,_⟩:=h;exact h.lt
theorem MF.made (P:Program)(k:TypeId)(mk:κ->Value)(w:World): MF P k mk (w.alloc (.map #[] 0)) w.heap.size 0 (fun _=>none) :=
 ⟨_,World.ownsMap_made w P k Dr,fun _ _ _ _=>rfl⟩
theorem MF.mono (h:MF P k mk w b n F){n':Nat}(hn:n<=n'): MF P k mk w b n' F:=by obtain⟨D,h,hF⟩:=h;exact⟨D,h.mono hn,hF⟩
theorem MF.j_ (h:MF P k mk w b n F)(hb:w'.heap[b]? = w.heap[b]?): MF P k mk w' b n F:=by
 obtain⟨D,⟨es,clock,h1,h2⟩,hF⟩:=h;exact⟨D,⟨es,clock,hb.trans h1,h2⟩,hF⟩
theorem MF.jA {K:Nat->Prop}(h:MF P k mk w b n F)(hk:Z K w w')(hb:K b): MF P k mk w' b n F:=h.j_ (hk.block b hb)
theorem MF.below {B:Nat}(h:MF P k mk w b n F)(hk:Below B w w')(hb:b<B): MF P k mk w' b n F:=h.j_ (hk.block b hb)
theorem MF.alloc (h:MF P k mk w b n F)(o:Obj): MF P k mk (w.alloc o) b n F:=h.j_ (Below.heap_alloc w o b h.lt)
theorem MF.other (h:MF P k mk w b n F)(a:Addr)(v:Value)(hb:b≠a.block): MF P k mk (w.setCell a v) b n F:=h.j_ (Below.heap_setCell w a v b hb)
theorem MF.drewN (h:MF P k mk w b n F)(m:Nat): MF P k mk (w.drewN m) b n F:=h
theorem MF.congr (h:MF P k mk w b n F){F':κ->Option Value}(hF:∀x,F' x=F x): MF P k mk w b n F':=by
 obtain⟨D,h,h'⟩:=h;exact⟨D,h,fun key kl hk z=>by rw[hF key];exact h' key kl hk z⟩
theorem MF.look {t e:TypeId}(h:MF P k mk w b n F)(K:Keyed P k)(ht:P.underlying t=some (.map k e)){z:Value}(hz:(zeroValue e).run P w=.ok z w){key:κ}{kl:Lit}(mh:keyOf P k (mk key)=some kl): (Instr.lookup t (.map (some b)) (mk key) false).run P w=.ok ((F key).getD z) w:=by
 obtain⟨D,h,hF⟩:=h;obtain⟨v,ps,h1,h2⟩:=h.lookup K ht hz (zd:=.held z) (zp:=[]) rfl mh;rw[hF key kl mh]at h2;rw[h1];cases hx:F key with
 | none=>rw[hx]at h2;simp[orD,Dr]at h2;simp[h2.1]
 | some y=>rw[hx]at h2;simp[orD,Dr]at h2;simp[h2.1]
theorem MF.anH {t e:TypeId}(h:MF P k mk w b n F)(K:Keyed P k)(ht:P.underlying t=some (.map k e)){z:Value}(hz:(zeroValue e).run P w=.ok z w){key:κ}{kl:Lit}(mh:keyOf P k (mk key)=some kl): (Instr.lookup t (.map (some b)) (mk key) true).run P w=.ok (.tuple #[(F key).getD z,.bool (F key).isSome]) w:=by
 obtain⟨D,h,hF⟩:=h;obtain⟨v,ps,h1,h2⟩:=h.look_ok K ht hz (zd:=.held z) (zp:=[]) rfl mh;have h3:=hF key kl mh;rw[h3]at h2;rw[h1];cases hx:F key with
 | none=>
  rw[hx]at h2 h3;simp[orD,Dr]at h2;rw[iA (fun z=>h3 z)];simp[h2.1]
 | some y=>
  rw[hx]at h2 h3;simp[orD,Dr]at h2;rw[iH (fun z=>h3 z)];simp[h2.1]
theorem Cz (h:w.mapTurned w' b): Z (fun x=>x≠b) w w':=by
 have g:=h.grown;refine⟨g.os,g.tape,g.output,g.size,fun i hi=>?_⟩;obtain⟨es,clock,es',avO,hb,rfl⟩:=h;exact ChangeMaps.heap_setBlock_other hb _ hi
theorem MF.put [DecidableEq κ]{t e:TypeId}(O0:∀x y,mk x=mk y->x=y)(h:MF P k mk w b n F)(K:Keyed P k)(ht:P.underlying t=some (.map k e))(hn:n<maxLen){key:κ}(val:Value){kl:Lit}(mh:keyOf P k (mk key)=some kl): ∃w',(Instr.mapUpdate t (.map (some b)) (mk key) val).run P w=.ok () w'/\MF P k mk w' b (n+1) (pR F key val)/\Z (fun x=>x≠b) w w':=by
 obtain⟨D,h,hF⟩:=h;obtain⟨w',h1,h2,h3⟩:=h.store K ht hn mh (val:=val) (d:=.held val) (ps:=[]) rfl;refine⟨w',h1,⟨_,h2,fun UB kl' Ea z=>?_⟩,Cz h3⟩
 by_cases e:UB=key
 ·subst e
  rw[mh]at Ea;cases Ea;rw[UA,atKey_put_same h.isMap (K.key mh)];rfl
 ·rw[Q1 _ _ e,atKey_put_other (fun e'=>e (O0 _ _ (K.inj Ea (by rw[mh,e']))))]
  exact hF UB kl' Ea z
theorem MF.del [DecidableEq κ]{t e:TypeId}(O0:∀x y,mk x=mk y->x=y)(h:MF P k mk w b n F)(K:Keyed P k)(ht:P.underlying t=some (.map k e)){key:κ}{kl:Lit}(mh:keyOf P k (mk key)=some kl)(ty:TypeId):
  ∃w',(Builtin.delete_ #[t,k] ty #[.map (some b),mk key]).run P w=.ok (.tuple #[]) w'/\MF P k mk w' b n (An F key)/\Z (fun x=>x≠b) w w':=by
 obtain⟨D,h,hF⟩:=h;obtain⟨w',h1,h2,h3⟩:=h.drop K ht mh ty;refine⟨w',h1,⟨_,h2,fun UB kl' Ea z=>?_⟩,Cz h3⟩
 by_cases e:UB=key
 ·subst e
  rw[mh]at Ea;cases Ea;rw[JA,atKey_del_same];rfl
 ·rw[Hf _ e,atKey_del_other (fun e'=>e (O0 _ _ (K.inj Ea (by rw[mh,e']))))]
  exact hF UB kl' Ea z
end
theorem abW {P:Program}{ops:Array Oper}{o:Oper}{K:Act->World->Prop}{F:Prop}(hg:o.guard=none)(m x:Operand)(t k:TypeId)(MP:o.op=Op.call { callee:=Callee.builtin Builtin.delete,args:=#[m,x],argTypes:=#[t,k]})(mv xv:Value)(hm:a.eval m=mv)(hx:a.eval x=xv)(my:(Builtin.delete_ #[t,k] o.type #[mv,xv]).run P w=.ok (.tuple #[]) w')(h:K (a.put o.dst (.tuple #[])) w'): if Region.wanted o (yielded ops a.tmps)=true then Oper.wp P o a w K Q else F:=by
 rw[ag (by simp[Region.wanted,hg])];unfold Oper.wp;simp[execOp,MP,resolve,invoke,builtin,hm,hx,my,Result.andThen]
 exact h
namespace Cat
structure Tb where
 name:ByteArray
 dropped:Bool
 fs:List ByteArray
def ku:Tb:=⟨ByteArray.empty,false,[]⟩
def xf (s:ByteArray):Bool:=decide (1<=s.size) && decide (s.size<=40)
def nV (eF:TypeId)(w:World)(O:Nat->Prop)(cells:List Value)(i:Nat)(t:Tb):Prop :=
 cells.getD (i*4) undef=.int .i64 (i+1:Nat)/\cells.getD (i*4+1) undef=.string t.name/\cells.getD (i*4+2) undef=.bool t.dropped/\
  jY eF 1 w O (cells.getD (i*4+3) undef) t.fs.length (t.fs.map Value.string)
def uF (eT eF:TypeId)(w:World)(O:Nat->Prop)(tv:Value)(L:List Tb):Prop :=
 ∃cells,jY eT 4 w O tv L.length cells/\∀i,i<L.length->nV eF w O cells i (L.getD i ku)
structure Good (L:List Tb):Prop where
 len:L.length<=64
 each:∀i,i<L.length->(L.getD i ku).name.size<=40/\(L.getD i ku).fs.length<=16/\(∀f∈(L.getD i ku).fs,f.size<=40)/\((L.getD i ku).dropped=true->(L.getD i ku).fs=[])
def mk (x:Int×ByteArray):Value:=.agg #[.int .i64 x.1,.string x.2]
def mem (l:List ByteArray)(f:ByteArray):Bool:=l.any fun g=>decide (g=f)
theorem mem_iff (l:List ByteArray)(f:ByteArray): mem l f=true ↔ f∈l:=by unfold mem;simp
theorem Dw (f:ByteArray): mem [] f=false:=rfl
theorem PF (l:List ByteArray)(g f:ByteArray): mem (l++[g]) f=(mem l f || decide (g=f)):=by unfold mem;simp
def has (L:List Tb)(id:Int)(f:ByteArray):Bool:=decide (1<=id) && decide (id<=L.length) && mem (L.getD (id - 1).toNat ku).fs f
def there (L:List Tb)(id:Int):Bool:=decide (1<=id) && decide (id<=L.length) && !(L.getD (id - 1).toNat ku).dropped
def xm (L:List Tb)(x:Int×ByteArray):Option Value:=if has L x.1 x.2=true then some (.bool true) else none
def Nh (dr:Nat)(L:List Tb):Prop:=dr<18446744073709551616/\∀i,dr.testBit i=(L.getD i ku).dropped
def m_ (w:World)(c:Nat)(O:Nat->Prop)(n:Nat)(L:List Tb):Prop :=
 ∃tv dr mb,U 144 w c [tv,.int .u64 (dr:Nat),.map (some mb)]/\O c/\O mb/\(∀b,O b->b<w.heap.size)/\
  uF 98 100 w O tv L/\Nh dr L/\MF prog 146 mk w mb n (xm L)/\Good L
theorem tg (s:ByteArray)(w:World): Calls prog 126 #[.string s] w fun e w'=>e=.returned (.bool (xf s))/\w=w':=by
 by_cases h1:1<=s.size
 ·have CE:(1:Int)<=s.size:=I
  go_enter func126,ntmps126
  go_wp2
  go_ret
  exact⟨by simp[xf,h1];omega,rfl⟩
 ·have CE:decide ((1:Int)<=s.size)=false:=ar I
  go_enter func126,ntmps126
  go_wp2
  go_ret
  exact⟨by simp[xf,h1],rfl⟩
theorem Mr: na prog 96 100 1 16:=na.mk' (z:=.agg #[.string ByteArray.empty]) underlying96 jG rfl I
theorem wF {v:Value}{n:Nat}{l:List Value}(w:World)(h:ph w O 1 v n l)(hn:n<=1000000):
  Calls prog 96 #[v] w fun e w'=>∃sp c,e=.returned (.slice sp n c)/\jY 100 1 w' (fun b=>w.heap.size<=b) (.slice sp n c) n l/\Below w.heap.size w w':=by
 rcases h.news with⟨rfl,rfl,rfl⟩|⟨ad,cap,rfl,hc,-⟩
 ·go_enter func96,ntmps96
  have akJ:=@Lib.run_eql_slice_nil
  go_wp2
  go_ret
  exact⟨_,_,rfl,jY.nil _ _ _ _,Below.refl _ _⟩
 ·have nG:ph (w.alloc (.cells #[] 100)) O 1 (.slice (some ad) n cap) n l:=h.below ((Below.refl _ _).alloc (aj _) _) (aj _)
  have H:=jU.mk nG;have qs:∀(w:World) ad n c,(binOp .eql 96 (.slice (some ad) n c) (.slice none 0 0)).run prog w=.ok (.bool false) w:=fun w ad n c=>Lib.run_eql_slice_nil w 96 100 (some ad) n c 0 0 underlying96;clear h nG
  go_enter func96,ntmps96
  go_wp2_with (refine yh rfl (.tmp 5) (.tmp 6) 96 rfl Mr rfl (jY.empty _ _ _) rfl H.out (n':=n) (bA _) (by unfold maxLen;omega) I ?_;intro sp c w1 jW hg ly)
  go_ret
  refine⟨_,_,rfl,?_,?_⟩
  ·rw[aT]at jW
   exact jW.mono (fun b hb=>by rcases hb with rfl|rfl<;>simp)
  ·have:=(qE hg)
   exact(((Below.refl _ w).alloc (aj _) _).trans (this.mono (fun k (hk:k<w.heap.size)=>⟨by simp;omega,fun e=>by have e2:w.heap.size=k:=az e;omega⟩)).below)
theorem ux (w:World): (zeroValue 98).run prog w=.ok (.agg #[.int .i64 0,.string ByteArray.empty,.bool false,.slice none 0 0]) w:=jG
theorem pn: (prog.info? 98).map (·.size)=some 4:=jG
theorem My {v:Value}{n:Nat}{l:List Value}(id:Int)(nm:ByteArray)(d:Bool)(w:World)(h:ph w O 1 v n l)(hn:n<=1000000):
  Calls prog 63 #[.agg #[.int .i64 id,.string nm,.bool d,v]] w fun e w'=>∃sp c,e=.returned (.agg #[.int .i64 id,.string nm,.bool d,.slice sp n c])/\jY 100 1 w' (fun b=>w.heap.size<=b) (.slice sp n c) n l/\Below w.heap.size w w':=by
 have hz:=ux;have m9:∀sp c,(#[.int .i64 id,.string nm,.bool d,.slice sp n c]:Array Value).all (·.oneCell')=true:=fun _ _=>by simp[Value.oneCell']
 have hb:Below w.heap.size w ((w.alloc (.cells #[.int .i64 id,.string nm,.bool d,v] 98)).alloc (.cells #[.int .i64 0,.string ByteArray.empty,.bool false,.slice none 0 0] 98)):=((Below.refl _ _).alloc (aj _) _).alloc jM _;have sF:=h.below hb (aj _);have H:=jU.mk sF;clear h hb sF
 go_enter func63,ntmps63
 go_wp2_with fail
 refine(wF _ H.out hn).mono ?_;rintro e w1 ⟨sp,c,rfl,jW,oc⟩;obtain⟨k1,k2,xH,lJ⟩:=L0 oc;have k1':U 98 w1 w.heap.size [.int .i64 id,.string nm,.bool d,v]:=k1;have k2':U 98 w1 (w.heap.size+1) [.int .i64 0,.string ByteArray.empty,.bool false,.slice none 0 0]:=k2;have k3:=k1'.set 3 (.slice sp n c);have c0:=k1'.cell 3 jM;have f0:=k1'.free 3;have k4:U 98 (w1.setCell ⟨w.heap.size,3,none⟩ (.slice sp n c)) (w.heap.size+1) [.int .i64 0,.string ByteArray.empty,.bool false,.slice none 0 0]:=k2'.other _ _ (by show w.heap.size+1≠w.heap.size;omega);have K3:=jU.mk k3;have K4:=jU.mk k4;clear k1 k2 k1' k2' k3 k4 oc
 go_wp2_with (first|(refine gz rfl 98 (.tmp 1) rfl w.heap.size rfl 98 #[.int .i64 id,.string nm,.bool d,.slice sp n c] (0,0) _ K3.out eH rfl pn ?_)|(refine bV rfl 98 (.tmp 2) (.tmp 7) rfl (w.heap.size+1) #[.int .i64 id,.string nm,.bool d,.slice sp n c] rfl rfl 98 #[.int .i64 0,.string ByteArray.empty,.bool false,.slice none 0 0] K4.out pn rfl (m9 _ _) ?_))
 refine c_ (dE rfl _ _ (w.heap.size+1) 98 #[.int .i64 id,.string nm,.bool d,.slice sp n c] (0,0) _ rfl (cI _ _ _ _ _ _ K4.out) eH rfl pn) rfl ⟨sp,c,rfl,?_,?_⟩
 ·refine(jW.j_ fun g hg=>?_).mono (fun b (hb:_<=b)=>?_)
  ·have h1:((w.alloc _).alloc _).heap.size<=g:=jW.own hg
   have h2:w.heap.size+2<=g:=by simpa using h1
   rw[Go.setRow_other _ _ _ _ I,Below.heap_setCell _ _ _ _ (by show g≠w.heap.size;omega)]
  ·have h2:w.heap.size+2<=b:=by simpa using hb
   omega
 ·exact below_setRow (xH.setCell (aj _) _) I _
end Cat
end Go.Proofs.YtlenklobbngopaaGreat
