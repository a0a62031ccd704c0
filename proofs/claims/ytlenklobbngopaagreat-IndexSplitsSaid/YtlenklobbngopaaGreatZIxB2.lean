/- Texts for IxB, part 2 of 11. -/
import Derived.Test.YtlenklobbngopaaGreatZIxB1
set_option maxHeartbeats 64000000
set_option maxRecDepth 100000
set_option linter.all false
namespace Go.Proofs.YtlenklobbngopaaGreat
open _root_.Go.Proofs.Tryz
open Go.RowKit
variable {m d2 b T g f id OZ i kn t2 cap j mm bytes bb:Nat}{u v' xv v2 v1:Value}{p:Addr}{x y i':Operand}{a:Act}{cs vs:List Value}{z:Int}{args:List Operand}{ts:Array TypeId}{R:Ending -> World -> Prop}{l1:List Int}{c:Code}{ι α:Type}{W:ι -> World -> Prop}{md:Option (Option Nat)}{ps:List (Nat × Value)}{l:List α}{Q:Prop}{oi:Oper}{is:List Nat}{O O':Nat -> Prop}{y9:TypeId}{w w1 w2 w' w0:World}{P':α -> List Value -> Prop}
namespace K
variable {n:NN}{Q:Exit -> Act -> World -> Prop}{l:Env}{w w':World}{ops:Array Oper}{o:Oper}{rest:List Oper}{d:Nat}
theorem WL.le {m:Env}(hs:∀k v,look m k=some v -> look l k=some v) (h:WL n ops Q rest m w): WL n ops Q rest l w:=⟨fun a ha=>h.go a ⟨ha.size,ha.defers,fun k v hk=>ha.slot k v (hs k v hk)⟩⟩
theorem WL.as (k:Nat) (v':Value) {v:Value}(hk:look l k=some v) (e:v=v') (h:WL n ops Q rest ((k,v') :: l) w): WL n ops Q rest l w :=
 h.le fun j u hj=>by
  unfold look at hj;cases hb:Nat.beq k j with
  | true=>
   rw[hb] at hj;obtain rfl:k=j:=bM hb;obtain rfl:v'=u:=au hj;subst e;exact hk
  | false=>rw[hb] at hj;exact hj
theorem VX {d:Nat}(hf:look l d=none): ∀k v,look ((d2,v') :: l) k=some v -> look ((d2,v') :: (d,u) :: l) k=some v:=by
 intro k v hk;unfold look at hk ⊢;cases hb:Nat.beq d2 k with
 | true=>rw[hb] at hk;exact hk
 | false=>
  rw[hb] at hk;unfold look;cases jg:Nat.beq d k with
  | true=>obtain rfl:d=k:=bM jg;rw[cond_false] at hk;rw[hf] at hk;cases hk
  | false=>exact hk
theorem WL.nil (h:WQ n Q .normal l w): WL n ops Q [] l w:=⟨fun a ha=>agW (h.go a ha)⟩
theorem WL.step {v:Value}(hg:o.guard=none) (hd:o.dst=some d) (hn:Nat.blt d n.n=true) (hr:∀a,Fr n a l -> (execOp a.eval o).run prog w=.ok (.value v) w') (h:WL n ops Q rest ((d,v) :: l) w'): WL n ops Q (o :: rest) l w :=
 ⟨fun a ha=>Ml hg (hr a ha) (by rw[hd];exact h.go _ (ha.put hn v))⟩
theorem WL.T6 (hg:o.guard=none) (hd:o.dst=none) (hr:∀a,Fr n a l -> (execOp a.eval o).run prog w=.ok .skip w') (h:WL n ops Q rest l w'): WL n ops Q (o :: rest) l w :=
 ⟨fun a ha=>adX hg (hr a ha) (by rw[hd];exact h.go _ (ha.none _))⟩
theorem WL.pure {v:Value}(hg:o.guard=none) (hd:o.dst=some d) (hn:Nat.blt d n.n=true) (hv:pv ty l o.op=some v) (h:WL n ops Q rest ((d,v) :: l) w): WL n ops Q (o :: rest) l w :=
 WL.step hg hd hn (fun _ ha=>HV mV ha hv w) h
theorem _root_.Go.Proofs.YtlenklobbngopaaGreat.iA {v:Value}(h:WL n ops Q rest ((d,v) :: l) w) (hg:o.guard=none:=by exact rfl) (hd:o.dst=some d:=by exact rfl) (hn:Nat.blt d n.n=true:=by exact rfl) (hv:pv ty l o.op=some v:=by exact rfl): WL n ops Q (o :: rest) l w:=WL.pure hg hd hn hv h
theorem WL.xg {v:Value}(v':Value) (hg:o.guard=none) (hd:o.dst=some d) (hn:Nat.blt d n.n=true) (hv:pv ty l o.op=some v) (e:v=v') (h:WL n ops Q rest ((d,v') :: l) w): WL n ops Q (o :: rest) l w :=
 WL.step hg hd hn (fun _ ha=>HV mV ha (hv.trans (congrArg some e)) w) h
theorem WL.top {v:Value}(e:v=v') (h:WL n ops Q rest ((d,v') :: l) w): WL n ops Q rest ((d,v) :: l) w:=by subst e;exact h
theorem WL.Ee {p:Prop}[Decidable p] (hp:p) (h:WL n ops Q rest ((d,.bool true) :: l) w): WL n ops Q rest ((d,.bool (decide p)) :: l) w:=WL.top (congrArg Value.bool (decide_eq_true hp)) h
theorem WL.Ec {p:Prop}[Decidable p] (hp:¬p) (h:WL n ops Q rest ((d,.bool false) :: l) w): WL n ops Q rest ((d,.bool (decide p)) :: l) w:=WL.top (congrArg Value.bool (decide_eq_false hp)) h
theorem WL.zC {x:Int}(hx:-9223372036854775808 <= x /\ x <= 9223372036854775807) (h:WL n ops Q rest ((d,Iq x) :: l) w): WL n ops Q rest ((d,Iq (IntKind.wrap .i64 x)) :: l) w:=WL.top (congrArg (Value.int .i64) (bG _ hx)) h
def isB:Value -> Option Bool
 | .bool b=>some b
 | _=>none
def asked (b:Bool):Option Bool -> Bool
 | some c=>c == b
 | none=>false
def wants (ops:Array Oper) (l:Env) (o:Oper):Option Bool :=
 match o.guard with
 | none=>some true
 | some (j,b)=>match(ops[j]?).bind (·.dst) with
  | some t=>match look l t with
   | some v=>some (asked b (isB v))
   | none=>none
  | none=>none
theorem m0 {b:Bool}(ha:Fr n a l) (h:wants ops l o=some b): Region.wanted o (yielded ops a.tmps)=b:=by
 unfold wants at h;unfold Region.wanted yielded;cases hg:o.guard with
 | none=>rw[hg] at h;obtain rfl:=au h;rfl
 | some x=>
  obtain⟨j,wt⟩:=x;rw[hg] at h;simp only at h ⊢;cases hj:(ops[j]?).bind (·.dst) with
  | none=>rw[hj] at h;cases h
  | some t=>
   rw[hj] at h;simp only at h
   split at h
   ·rename_i v hl
    obtain rfl:=au h;simp only[Option.bind_some,ha.slot t _ hl];cases v<;>rfl
   ·cases h
theorem WL.on (hw:wants ops l o=some true) (_hg:o.guard.isSome=true) (h:WL n ops Q ({ o with guard:=none } :: rest) l w): WL n ops Q (o :: rest) l w :=
 ⟨fun a ha=>ajL (m0 ha hw) (h.go a ha)⟩
theorem WL.off (hw:wants ops l o=some false) (hd:o.dst=some d) (hn:Nat.blt d n.n=true) (h:WL n ops Q rest ((d,undef) :: l) w): WL n ops Q (o :: rest) l w :=
 ⟨fun a ha=>afK (m0 ha hw) (by rw[hd];exact h.go _ (ha.put hn undef))⟩
def Ke:Option xt -> Bool
 | some (.struct _ _) | some (.arr _ _ _) | none=>false
 | _=>true
theorem Nm {t:Nat}(h:Ke (tyOf ty t)=true) (p:Addr) {v:Value}(hc:w.cell? p=some v): (loadVar t p).run prog w=.ok v w:=by
 cases ht:tyOf ty t with
 | none=>rw[ht] at h;cases h
 | some x=>
  rw[ht] at h;have Tj:(isAgg t).run prog w=.ok false w:=by
   unfold isAgg;rw[bA];cases x with
   | int k=>have:=m_.of mV ht;rw[run_underlying this w];rfl
   | str=>have:=m_.of mV ht;rw[run_underlying this w];rfl
   | bool=>have:=m_.of mV ht;rw[run_underlying this w];rfl
   | ptr e=>have:=m_.of mV ht;rw[run_underlying this w];rfl
   | map k e=>have:=m_.of mV ht;rw[run_underlying this w];rfl
   | slice e s=>have:=m_.of mV ht;rw[run_underlying this.1 w];rfl
   | struct m fs=>cases h
   | arr m e s=>cases h
  simp[loadVar,bA,Tj,hc]
theorem WL.load {t:Nat}{v:Value}(hg:o.guard=none) (hd:o.dst=some d) (hn:Nat.blt d n.n=true) (ho:o.op=.load t x) (hx:jw l x=some (.pointer (some p))) (ht:Ke (tyOf ty t)=true) (hc:w.cell? p=some v) (h:WL n ops Q rest ((d,v) :: l) w): WL n ops Q (o :: rest) l w :=
 WL.step hg hd hn (fun a ha=>by unfold execOp;rw[ho];simp[ha.eval hx,Instr.loadAt,Instr.sureAddr,Nm ht p hc]) h
theorem _root_.Go.Proofs.YtlenklobbngopaaGreat.ia {t:Nat}{v:Value}(hc:w.cell? p=some v) (h:WL n ops Q rest ((d,v) :: l) w) (hg:o.guard=none:=by exact rfl) (hd:o.dst=some d:=by exact rfl) (hn:Nat.blt d n.n=true:=by exact rfl) (ho:o.op=.load t x:=by exact rfl) (hx:jw l x=some (.pointer (some p)):=by exact rfl) (ht:Ke (tyOf ty t)=true:=by exact rfl): WL n ops Q (o :: rest) l w:=WL.load hg hd hn ho hx ht hc h
theorem WL.uj {t:Nat}{off:Nat}(hg:o.guard=none) (hd:o.dst=some d) (hn:Nat.blt d n.n=true) (ho:o.op=.load t x) (hx:jw l x=some (.pointer (some ⟨b,off,none⟩))) (ht:cellsN (tyOf ty t)=some m) (hc:w.rangeAt b off cs) (hm:cs.length=m) (h:WL n ops Q rest ((d,.agg cs.toArray) :: l) w): WL n ops Q (o :: rest) l w :=
 WL.step hg hd hn (fun a ha=>by
  obtain⟨d,hu,hd,j5⟩:=rK mV ht;unfold execOp;rw[ho];have:=eA (P:=prog) w b off t cs _ hc hu hd (by rw[j5,hm]);simp[ha.eval hx,Instr.loadAt,Instr.sureAddr,this]) h
theorem _root_.Go.Proofs.YtlenklobbngopaaGreat.ig {t:Nat}{off:Nat}(hc:w.rangeAt b off cs) (hm:cs.length=m) (h:WL n ops Q rest ((d,.agg cs.toArray) :: l) w) (hg:o.guard=none:=by exact rfl) (hd:o.dst=some d:=by exact rfl) (hn:Nat.blt d n.n=true:=by exact rfl) (ho:o.op=.load t x:=by exact rfl) (hx:jw l x=some (.pointer (some ⟨b,off,none⟩)):=by exact rfl) (ht:cellsN (tyOf ty t)=some m:=by exact rfl): WL n ops Q (o :: rest) l w:=WL.uj hg hd hn ho hx ht hc hm h
theorem WL.store {t:Nat}{v old:Value}(hg:o.guard=none) (hd:o.dst=none) (ho:o.op=.store t x y) (hx:jw l x=some (.pointer (some p))) (hy:jw l y=some v) (hv:v.oneCell'=true) (j5:(prog.info? t).map (·.size)=some 1) (hc:w.cell? p=some old) (hf:w.frozen? p=false) (h:WL n ops Q rest l (w.setCell p v)): WL n ops Q (o :: rest) l w :=
 WL.T6 hg hd (fun a ha=>by
  have hs:(sizeOf t).run prog w=.ok 1 w:=by
   cases hq:prog.info? t with
   | none=>rw[hq] at j5;cases j5
   | some q=>rw[hq] at j5;simp at j5;simp[sizeOf,typeInfo,hq,j5]
  have Cv:v.cells=#[v]:=by cases v<;>first|rfl|cases hv
  unfold execOp;rw[ho];simp only[ha.eval hx,ha.eval hy,Instr.storeAt,Instr.sureAddr,storeVar,bA,eJ,bm,hs,Cv];simp[storeCells,run_store prog w p v _ hv,hc,hf,Addr.add_zero']) h
theorem _root_.Go.Proofs.YtlenklobbngopaaGreat.iD {t:Nat}{v old:Value}(hc:w.cell? p=some old) (hf:w.frozen? p=false) (h:WL n ops Q rest l (w.setCell p v)) (hg:o.guard=none:=by exact rfl) (hd:o.dst=none:=by exact rfl) (ho:o.op=.store t x y:=by exact rfl) (hx:jw l x=some (.pointer (some p)):=by exact rfl) (hy:jw l y=some v:=by exact rfl) (hv:v.oneCell'=true:=by exact rfl) (j5:(prog.info? t).map (·.size)=some 1:=by kernel_rfl): WL n ops Q (o :: rest) l w:=WL.store hg hd ho hx hy hv j5 hc hf h
theorem WL.nQ {t:Nat}{old:List Value}(hg:o.guard=none) (hd:o.dst=none) (ho:o.op=.store t x y) (hx:jw l x=some (iF g)) (hy:jw l y=some (.agg cs.toArray)) (ht:cellsN (tyOf ty t)=some m) (hb:h_ T w g old) (hm:cs.length=m) (hold:old.length=m) (h1:kj cs) (h:WL n ops Q rest l (w.setRow g cs.toArray)): WL n ops Q (o :: rest) l w :=
 ⟨fun a ha=>Ep hg (by rw[ho];intro c hc;cases hc) <| wpList_store_rowTo hg t x y ho hd g cs.toArray (ha.eval hx) (ha.eval hy) T old.toArray hb (by obtain⟨d,-,-,j5⟩:=rK mV ht;rw[j5];simp[hm]) (by simp[hm,hold])
  (by simp only[List.all_toArray,bT];exact h1) (h.go a ha)⟩
theorem _root_.Go.Proofs.YtlenklobbngopaaGreat.ir {t:Nat}{old:List Value}(hb:h_ T w g old) (h1:kj cs) (h:WL n ops Q rest l (w.setRow g cs.toArray)) (hg:o.guard=none:=by exact rfl) (hd:o.dst=none:=by exact rfl) (ho:o.op=.store t x y:=by exact rfl) (hx:jw l x=some (iF g):=by exact rfl) (hy:jw l y=some (.agg cs.toArray):=by exact rfl) (ht:cellsN (tyOf ty t)=some m:=by exact rfl) (hm:cs.length=m:=by exact rfl) (hold:old.length=m:=by exact rfl): WL n ops Q (o :: rest) l w:=WL.nQ hg hd ho hx hy ht hb hm hold h1 h
theorem WL.box {t:Nat}{v:Value}(hg:o.guard=none) (hd:o.dst=some d) (hn:Nat.blt d n.n=true) (ho:o.op=.box t x) (hx:jw l x=some v) (h:∀g w',jl w g w' t v.cells.toList -> WL n ops Q rest ((d,iF g) :: l) w'): WL n ops Q (o :: rest) l w :=
 WL.step hg hd hn (fun a ha=>by unfold execOp;rw[ho];simp[ha.eval hx,Instr.box,newVar,newRow]) (h _ _ (jl.mk' w t v.cells.toList))
theorem _root_.Go.Proofs.YtlenklobbngopaaGreat.iC {t:Nat}{v:Value}(h:∀g w',jl w g w' t v.cells.toList -> WL n ops Q rest ((d,iF g) :: l) w') (hg:o.guard=none:=by exact rfl) (hd:o.dst=some d:=by exact rfl) (hn:Nat.blt d n.n=true:=by exact rfl) (ho:o.op=.box t x:=by exact rfl) (hx:jw l x=some v:=by exact rfl): WL n ops Q (o :: rest) l w:=WL.box hg hd hn ho hx h
theorem WL.alloc {t:Nat}{z:Value}(hg:o.guard=none) (hd:o.dst=some d) (hn:Nat.blt d n.n=true) (ho:o.op=.alloc t) (hz:∀w,(zeroValue t).run prog w=.ok z w) (h:∀g w',jl w g w' t z.cells.toList -> WL n ops Q rest ((d,iF g) :: l) w'): WL n ops Q (o :: rest) l w :=
 WL.step hg hd hn (fun a ha=>by unfold execOp;rw[ho];simp[Instr.alloc,newVar,newRow,hz]) (h _ _ (jl.mk' w t z.cells.toList))
theorem _root_.Go.Proofs.YtlenklobbngopaaGreat.ix {t:Nat}{z:Value}(hz:∀w,(zeroValue t).run prog w=.ok z w) (h:∀g w',jl w g w' t z.cells.toList -> WL n ops Q rest ((d,iF g) :: l) w') (hg:o.guard=none:=by exact rfl) (hd:o.dst=some d:=by exact rfl) (hn:Nat.blt d n.n=true:=by exact rfl) (ho:o.op=.alloc t:=by exact rfl): WL n ops Q (o :: rest) l w:=WL.alloc hg hd hn ho hz h
theorem ua {a:Act}(ha:Fr n a l):∀ {xs:List Operand}{vs:List Value},evlAll l xs=some vs -> xs.map a.eval=vs
 | [],vs,h=>by cases h;rfl
 | x :: xs,vs,h=>by
  unfold evlAll at h
  split at h
  ·rename_i v r h1 h2
   obtain rfl:=au h;rw[aM,ha.eval h1,ua ha h2]
  ·cases h
theorem WL.call {f:FuncId} {fn:Func} (hg:o.guard = none) (hd:o.dst = some d) (hn:Nat.blt d n.n = true) (ho:o.op = .call { callee := .value (.func f), args := args.toArray, argTypes := ts }) (hv:evlAll l args = some vs) (hf:prog.funcs[f]? = some fn) (hb:fn.body.isNone = false) (Dk:(fn.name == "runtime.NumGoroutine") = false) (hc:Calls prog f vs.toArray w R) (h:∀ e w',R e w' -> ∃ v,e = .returned v /\ WL n ops Q rest ((d,v) :: l) w'): WL n ops Q (o :: rest) l w :=
 ⟨fun a ha=>by
  have kz:(execOp a.eval o).run prog w=.ok (.enter f vs.toArray) w:=by
   unfold execOp;rw[ho];have:=ua ha hv;have e1:(args.toArray.map a.eval)=vs.toArray:=by rw[cn,this]
   have e2:a.eval (.func f)=.func (.func f) #[] #[]:=rfl;have Hp:¬fn.body=none:=fun e=>by rw[e] at hb;cases hb
   have LP : ¬ fn.name = "runtime.NumGoroutine" := by simpa using Dk
   simp[resolve,e1,e2,Deferred.ofValue,invoke,callFunc,hf,Hp,LP]
  refine MU hg kz (hc.mono fun e UB hh=>?_);obtain⟨v,rfl,hwl⟩:=h e UB hh;exact⟨v,rfl,by rw[hd];exact hwl.go _ (ha.put hn v)⟩⟩
theorem _root_.Go.Proofs.YtlenklobbngopaaGreat.il {f:FuncId} {fn:Func} (hf:prog.funcs[f]? = some fn) (hc:Calls prog f vs.toArray w R) (h:∀ e w', R e w' -> ∃ v, e = .returned v /\ WL n ops Q rest ((d, v) :: l) w') (hg:o.guard = none := by exact rfl) (hd:o.dst = some d := by exact rfl) (hn:Nat.blt d n.n = true := by exact rfl) (ho:o.op = .call { callee := .value (.func f), args := args.toArray, argTypes := ts } := by exact rfl) (hv:evlAll l args = some vs := by exact rfl) (hb:fn.body.isNone = false := by exact rfl) (Dk:(fn.name == "runtime.NumGoroutine") = false := by kernel_rfl): WL n ops Q (o :: rest) l w := WL.call hg hd hn ho hv hf hb Dk hc h
def evI (k:IntKind) (l:Env):List (Nat × Operand) -> Nat -> Option (List Int)
 | [],_=>some []
 | (j,x) :: r,i=>match Nat.beq j i,jw l x,evI k l r (i+1) with
  | true,some (.int k' z),some zs=>if k'=k then some (z :: zs) else none
  | _,_,_=>none
theorem RW {a:Act}(ha:Fr n a l) {k:IntKind}:∀ {xs:List (Nat × Operand)}{i:Nat}{zs:List Int},evI k l xs i=some zs -> (xs.map fun x=>(x.1,a.eval x.2))=(((zs.map (Value.int k)).zipIdx i).map fun x=>(x.2,x.1)) /\ xs.length=zs.length
 | [],_,zs,h=>by cases h;exact⟨rfl,rfl⟩
 | (j,x) :: xs,i,zs,h=>by
  unfold evI at h
  split at h
  ·rename_i k' z r hb hx hr
   split at h
   ·rename_i e
    subst e;obtain rfl:=au h;obtain⟨h1,h2⟩:=RW ha hr;obtain rfl:j=i:=bM hb;refine⟨?_,by simp[h2]⟩;rw[aM,h1,ha.eval hx]
    rfl
   ·cases h
  ·cases h
theorem WL.lit {len:Nat}{parts:List (Nat × Operand)}{zs:List Int}(hg:o.guard=none) (hd:o.dst=some d) (hn:Nat.blt d n.n=true) (ho:o.op=.buildSlice 158 len parts.toArray) (hz:evI .u8 l parts 0=some zs) (hl:Nat.beq len zs.length=true) (hs:(Nat.blt 0 len && Nat.blt len 1000)=true) (h:∀v w',Bu w' v zs -> iB w w' -> (∀g,v.ownBlock=some g -> w.heap.size <= g) -> WL n ops Q rest ((d,v) :: l) w'): WL n ops Q (o :: rest) l w:=by
 have B_:=bM hl;rw[aA,Nat.blt_eq,Nat.blt_eq] at hs;obtain⟨pS,B7⟩:=hs;have hq:(prog.info? 5).map (fun i=>(i.zero,i.size))=some (some (.int .u8 0),1):=by kernel_rfl
 obtain⟨ie,A0,he⟩:=cH.1 hq;obtain⟨VD,j5⟩:=fL he;refine WL.step hg hd hn (w':=w.alloc (.cells (zs.map (Value.int .u8)).toArray 5)) (v:=.slice (some ⟨w.heap.size,0,none⟩) len len) (fun a ha=>?_) (h _ _ ?_ ?_ ?_)
 ·unfold execOp
  rw[ho];obtain⟨h1,h2⟩:=RW ha hz;have hf:Instr.fill (fun i=>some (i*ie.size,ie.size)) ((Array.range (len*ie.size)).map ((Value.int .u8 0).cells[· % (Value.int .u8 0).cells.size]!)) (parts.toArray.map fun x=>(x.1,a.eval x.2)).toList=some (zs.map (Value.int .u8)).toArray:=by
   rw[dZ,h1,j5];exact Great.fill_flat _ _ (fun v hv=>by obtain⟨m,_,rfl⟩:=bg.1 hv;rfl) (by simp[B_])
  have:=gz (P:=prog) w 158 5 len (parts.toArray.map fun x=>(x.1,a.eval x.2)) _ ie _ underlying158 A0 VD (by rw[j5];omega) (by rw[j5];omega) hf;simp only[bA,this,bm]
  rfl
 ·rw[B_];exact Bu.new w zs (by unfold maxLen;omega)
 ·exact(Below.refl _ w).alloc (af _) _
 ·intro g lN;cases lN;exact af _
theorem WL.app {s:Operand}{v:Value}{l2:List Int}(hg:o.guard=none) (hd:o.dst=some d) (hn:Nat.blt d n.n=true) (ho:o.op=.call { callee:=.builtin .append,args:=#[s,x],argTypes:=#[158,158]}) (hs:jw l s=some v) (iJ:Bu w v l1) (hx:jw l x=some xv) (lU:Sl .u8 w xv l2) (hb:l1.length+l2.length <= 140737488355328) (h:∀v' w',Bu w' v' (l1++l2) -> jv w v w' v' -> WL n ops Q rest ((d,v') :: l) w'): WL n ops Q (o :: rest) l w :=
 ⟨fun a ha=>by
  have XP:iK 5 1 w (fun g=>v.ownBlock=some g) v l1.length (l1.map (Value.int .u8)):=⟨iJ,kj.int _ _,fun g hg=>hg⟩;refine Ep hg (by rw[ho];intro c hc;cases hc) ?_;refine uX hg s x 158 ho agk (ha.eval hs) XP (ha.eval hx) (Sl.DC lU) rfl (by unfold maxLen;omega) gZ ?_;intro sp c w' h2 h3 h4;rw[hd];refine(h _ w' ?_ ⟨oC h3,fun g hg=>(h4 g hg).imp id (fun e=>by omega)⟩).go _ (ha.put hn _);have h5:=h2.1;rw[<- aK] at h5
  show World.ownsRow _ _ _ _ _ _ _
  rw[aa];exact h5⟩
theorem WL.push {o2:Oper}{len:Nat}{parts:List (Nat × Operand)}{zs:List Int}{s:Operand}{v:Value}(hg:o.guard=none) (hd:o.dst=some d) (hn:Nat.blt d n.n=true) (ho:o.op=.buildSlice 158 len parts.toArray) (hz:evI .u8 l parts 0=some zs) (hl:Nat.beq len zs.length=true) (hs:(Nat.blt 0 len && Nat.blt len 1000)=true) (lN:o2.guard=none) (qY:o2.dst=some d2) (uB:Nat.blt d2 n.n=true) (wN:o2.op=.call { callee:=.builtin .append,args:=#[s,.tmp d],argTypes:=#[158,158]}) (hsv:∀u,jw ((d,u) :: l) s=some v) (zP:look l d=none) (iJ:Bu w v l1) (hb:l1.length+zs.length <= 140737488355328) (h:∀v' w',Bu w' v' (l1++zs) -> jv w v w' v' -> WL n ops Q rest ((d2,v') :: l) w'): WL n ops Q (o :: o2 :: rest) l w:=by
 refine WL.lit hg hd hn ho hz hl hs fun u w1 hu mj _=>?_;refine WL.app lN qY uB wN (hsv u) (iJ.below mj) (by unfold jw look;simp) hu.sl hb fun v' w2 h2 g2=>?_;exact(h v' w2 h2 (((jv.refl w v).below mj).trans g2)).le (VX zP)
variable {n:NN}{Q:Exit -> Act -> World -> Prop}{l:Env}{w w':World}{ops:Array Oper}{o:Oper}{rest:List Oper}{d:Nat}
theorem WQ.then {K:Act -> World -> Prop}(hK:K=cw n.md prog c Q) (h:WC n c Q l w): WQ n (Exit.then K Q) .normal l w:=⟨fun a ha=>by subst hK;exact h.go a ha⟩
theorem WQ.BE {K:Act -> World -> Prop}(h:WQ n Q (.exit id) l w): WQ n (Exit.then K Q) (.exit id) l w:=⟨fun a ha=>h.go a ha⟩
theorem WQ.D9 {K:Act -> World -> Prop}(h:WQ n Q .ret l w): WQ n (Exit.then K Q) .ret l w:=⟨fun a ha=>h.go a ha⟩
theorem WQ.blk (h:WQ n Q .normal l w): WQ n (Exit.inBlock id Q) .normal l w:=⟨fun a ha=>h.go a ha⟩
theorem WQ.H6 (h:WQ n Q .ret l w): WQ n (Exit.inBlock id Q) .ret l w:=⟨fun a ha=>h.go a ha⟩
theorem WQ.E0 (hi:Nat.beq OZ id=true) (h:WQ n Q .normal l w): WQ n (Exit.inBlock id Q) (.exit OZ) l w :=
 ⟨fun a ha=>by show if OZ=id then Q .normal a w else Q (.exit OZ) a w;rw[if_pos (bM hi)];exact h.go a ha⟩
theorem WQ.BJ (hi:Nat.beq OZ id=false) (h:WQ n Q (.exit OZ) l w): WQ n (Exit.inBlock id Q) (.exit OZ) l w :=
 ⟨fun a ha=>by show if OZ=id then Q .normal a w else Q (.exit OZ) a w;rw[if_neg (eO hi)];exact h.go a ha⟩
theorem WQ.again {L:ι -> Env}{μ:ι -> Nat}{i:ι}(j:ι) (hs:Sub l (L j)) (hw:W j w) (hm:μ j<μ i): WQ n (Exit.then (aaR n L W μ i) Q) .normal l w :=
 ⟨fun _ ha=>⟨j,ha.sub hs,hw,hm⟩⟩
theorem WC.sa {x y:Code}{K:Act -> World -> Prop}(L:ι -> Env) (W:ι -> World -> Prop) (hK:K=cw n.md prog y Q) (h1:WC n x (Exit.then (Wo n L W) Q) l w) (h2:∀i w',W i w' -> WC n y Q (L i) w'): WC n x (Exit.then K Q) l w :=
 ⟨fun a ha=>R0 (fun e a w q=>by
  subst hK;cases e with
  | normal=>obtain⟨i,hf,hw⟩:=q;exact(h2 i w hw).go a hf
  | exit id=>exact q
  | goto l=>exact q
  | ret=>exact q
  | panic ch=>exact q
  | outgrown=>exact q) (h1.go a ha)⟩
theorem WL.sa {y:Code}{K:Act -> World -> Prop}(L:ι -> Env) (W:ι -> World -> Prop) (hK:K=cw n.md prog y Q) (h1:WL n ops (Exit.then (Wo n L W) Q) rest l w) (h2:∀i w',W i w' -> WC n y Q (L i) w'): WL n ops (Exit.then K Q) rest l w :=
 ⟨fun a ha=>adY (fun e a w q=>by
  subst hK;cases e with
  | normal=>obtain⟨i,hf,hw⟩:=q;exact(h2 i w hw).go a hf
  | exit id=>exact q
  | goto l=>exact q
  | ret=>exact q
  | panic ch=>exact q
  | outgrown=>exact q) (h1.go a ha)⟩
theorem WQ.meet {L:ι -> Env}(i:ι) (hs:Sub l (L i)) (hw:W i w): WQ n (Exit.then (Wo n L W) Q) .normal l w:=⟨fun _ ha=>⟨i,ha.sub hs,hw⟩⟩
section
variable {fn:Func}{R:Ending -> World -> Prop}
theorem Fr.getD (ha:Fr n a l) {t:Nat}{v:Value}(h:look l t=some v): a.tmps.getD t undef=v:=by have:=ha.slot t v h;rw[bS,this];rfl
theorem WQ.uT {t:Nat}{v:Value}(hr:fn.results=#[.tmp t]) (hl:look l t=some v) (h:R (.returned v) w): WQ ⟨kn,[],md⟩ (bodyPost prog fn R) .ret l w :=
 ⟨fun a ha=>⟨ha.defers,v,by have:=ha.getD hl;simp only[bS] at this;simp[results,hr,this],h⟩⟩
theorem _root_.Go.Proofs.YtlenklobbngopaaGreat.g_ {t:Nat}{v:Value}(h:R (.returned v) w) (hr:fn.results=#[.tmp t]:=by exact rfl) (hl:look l t=some v:=by exact rfl): WQ ⟨kn,[],md⟩ (bodyPost prog fn R) .ret l w:=WQ.uT hr hl h
theorem WQ.nC {t:Nat}{v:Value}(hr:fn.results=#[.tmp t,.tmp t2]) (hl:look l t=some v) (qB:look l t2=some v2) (h:R (.returned (.tuple #[v,v2])) w): WQ ⟨kn,[],md⟩ (bodyPost prog fn R) .ret l w :=
 ⟨fun a ha=>⟨ha.defers,_,by rw[results_tmp2 hr,ha.getD hl,ha.getD qB],h⟩⟩
end
theorem Tw {t e s:Nat}{i:Operand}{off len:Nat}{k:IntKind}(ho:o.op=.indexAddr t x i) (ht:tyOf ty t=some (.slice e s)) (hx:a.eval x=.slice (some ⟨b,off,none⟩) len cap) (hi:a.eval i=.int k z) (hz:z=(j:Int)) (hj:j<len): (execOp a.eval o).run prog w=.ok (.value (.pointer (some ⟨b,off+j*s,none⟩))) w:=by
 obtain⟨hu,j5⟩:=m_.of mV ht;have he:prog.elem t=e:=by simp[Program.elem,hu]
 have hs:(sizeOf e).run prog w=.ok s w:=by
  cases hq:prog.info? e with
  | none=>rw[hq] at j5;cases j5
  | some q=>rw[hq] at j5;simp at j5;simp[sizeOf,typeInfo,hq,j5]
 unfold execOp;rw[ho];simp only[hx,hi,bA,run_indexAt_slice w t _ len cap k z (by rw[he];exact hu)];rw[if_pos gZ,he,hs,hz];simp[dY]
theorem WL.idx {t e s:Nat}{i:Operand}{off len:Nat}{k:IntKind}(j q:Nat) (hg:o.guard=none) (hd:o.dst=some d) (hn:Nat.blt d n.n=true) (ho:o.op=.indexAddr t x i) (ht:tyOf ty t=some (.slice e s)) (hx:jw l x=some (.slice (some ⟨b,off,none⟩) len cap)) (hi:jw l i=some (.int k z)) (hz:z=(j:Int)) (hj:j<len) (hq:off+j*s=q) (h:WL n ops Q rest ((d,.pointer (some ⟨b,q,none⟩)) :: l) w): WL n ops Q (o :: rest) l w :=
 WL.step hg hd hn (fun _ ha=>by rw[<- hq];exact Tw ho ht (ha.eval hx) (ha.eval hi) hz hj) h
theorem _root_.Go.Proofs.YtlenklobbngopaaGreat.iG {t e s:Nat}{i:Operand}{off len:Nat}{k:IntKind}(j:Nat) (q:Nat) (hj:j<len) (h:WL n ops Q rest ((d,.pointer (some ⟨b,q,none⟩)) :: l) w) (hg:o.guard=none:=by exact rfl) (hd:o.dst=some d:=by exact rfl) (hn:Nat.blt d n.n=true:=by exact rfl) (ho:o.op=.indexAddr t x i:=by exact rfl) (ht:tyOf ty t=some (.slice e s):=by exact rfl) (hx:jw l x=some (.slice (some ⟨b,off,none⟩) len cap):=by exact rfl) (hi:jw l i=some (.int k z):=by exact rfl) (hz:z=(j:Int):=by exact rfl) (hq:off+j*s=q:=by exact rfl): WL n ops Q (o :: rest) l w:=WL.idx j q hg hd hn ho ht hx hi hz hj hq h
theorem WL.ahA {t e:Nat}{i:Operand}{v:Value}{k kk:IntKind}{zs:List Int}(j:Nat) (hg:o.guard=none) (hd:o.dst=some d) (hn:Nat.blt d n.n=true) (ho:o.op=.indexAddr t x i) (ht:tyOf ty t=some (.slice e 1)) (hx:jw l x=some v) (lU:Sl kk w v zs) (hi:jw l i=some (.int k z)) (hz:z=(j:Int)) (hj:j<zs.length) (h:∀p,w.cell? p=some (.int kk (nth zs j)) -> WL n ops Q rest ((d,.pointer (some p)) :: l) w): WL n ops Q (o :: rest) l w:=by
 obtain⟨sp,cap,rfl,-,-,h3,-⟩:=lU;obtain⟨b,off,rfl,-,hr⟩:=h3 gZ;exact WL.idx j (off+j) hg hd hn ho ht hx hi hz hj (by rw[cP]) (h _ (hr.at j hj))
def oB (s:ByteArray):List Int:=s.toList.map fun c=>(c.toNat:Int)
theorem qf (s:ByteArray): (oB s).length=s.size:=by unfold oB;rw[av,aD];rfl
theorem GP (s:ByteArray) (hj:j<s.size): nth (oB s) j=(s.toList.getD j 0).toNat:=by
 have h:j<s.toList.length:=by rw[aD,bI];exact hj
 unfold oB nth;simp[h]
theorem WL.bytesOf {t e:Nat}{s:ByteArray}(hg:o.guard=none) (hd:o.dst=some d) (hn:Nat.blt d n.n=true) (ho:o.op=.convert t t2 x) (ht:tyOf ty t=some .str) (Hu:tyOf ty t2=some (.slice e 1)) (he:tyOf ty e=some (.int .u8)) (hx:jw l x=some (.string s)) (j5:s.size <= 140737488355328) (h:∀g c w',Sl .u8 w' (.slice (some ⟨g,0,none⟩) s.size c) (oB s) -> iB w w' -> w.heap.size=g -> WL n ops Q rest ((d,.slice (some ⟨g,0,none⟩) s.size c) :: l) w'): WL n ops Q (o :: rest) l w:=by
 have hl:=qf s;have hb:=Ew w e s;refine WL.step hg hd hn (fun a ha=>?_) (h w.heap.size (grownCap w s.size 0 e) (Lib.bytesWorld w e s) ?_ hb rfl)
 ·unfold execOp
  rw[ho];have:=Lib.run_convert_string_bytes (P:=prog) w t t2 e s (m_.of mV ht) (m_.of mV Hu).1 (m_.of mV he);simp[ha.eval hx,this]
 ·have hm:=grownCap_le_maxLen w s.size 0 e (by unfold maxLen;omega)
  unfold maxLen at hm;have hr:Row .u8 (Lib.bytesWorld w e s) w.heap.size 0 (oB s):=by
   intro j hj;rw[hl] at hj;rw[a_,Lib.bytesWorld_cell w e s j hj,GP s hj,aD]
  have:=Sl.mk (cap:=grownCap w s.size 0 e) (by rw[hl];exact grownCap_ge _ _ _ _) gZ (by rw[Lib.bytesWorld_size];omega) hr;rw[hl] at this;exact this
theorem WL.strOf {t e:Nat}{v:Value}{zs:List Int}(hg:o.guard=none) (hd:o.dst=some d) (hn:Nat.blt d n.n=true) (ho:o.op=.convert t t2 x) (ht:tyOf ty t=some (.slice e 1)) (Hu:tyOf ty t2=some .str) (he:tyOf ty e=some (.int .u8)) (hx:jw l x=some v) (hs:Sl .u8 w v zs) (h:WL n ops Q rest ((d,.string (strOfNums zs)) :: l) w): WL n ops Q (o :: rest) l w :=
 WL.step hg hd hn (fun a ha=>by
  unfold execOp;rw[ho];have hu:=(m_.of mV ht).1;have hi:=m_.of mV he;have hd:=m_.of mV Hu;obtain⟨sp,cap,rfl,-,-,h3,-⟩:=hs;have kz:(convert t t2 (.slice sp zs.length cap)).run prog w=.ok (.string (strOfNums zs)) w:=by
   cases hz:zs with
   | nil=>
    cases sp with
    | none=>rw[run_convert_bytes_nil w t e hu hi _ _ t2 hd];rfl
    | some p=>
     have BY:(loadCells p 0).run prog w=.ok (([]:List Int).map (Value.int .u8)).toArray w:=by rfl
     rw[run_convert_bytes_string w t t2 e _ _ _ hu hi hd,aF,run_bytesToString w _ 0 cap [] BY]
     rfl
   | cons z r=>
    obtain⟨b,off,rfl,-,hr⟩:=h3 (by rw[hz];simp);rw[<- hz];exact run_convert_bytes_arg w t e hu hi b off zs.length cap zs rfl (fun i hi=>hr i hi) t2 hd
  simp[ha.eval hx,kz]) h
def evlParts (l:Env):List (Nat × Operand) -> Option (List (Nat × Value))
 | []=>some []
 | (i,x) :: r=>match jw l x,evlParts l r with
  | some v,some vs=>some ((i,v) :: vs)
  | _,_=>none
theorem rA {a:Act}(ha:Fr n a l):∀ {xs:List (Nat × Operand)}{vs:List (Nat × Value)},evlParts l xs=some vs -> (xs.map fun x=>(x.1,a.eval x.2))=vs
 | [],vs,h=>by cases h;rfl
 | (i,x) :: xs,vs,h=>by
  unfold evlParts at h
  split at h
  ·rename_i v r h1 h2
   obtain rfl:=au h;rw[aM,ha.eval h1,rA ha h2]
  ·cases h
theorem WL.build {t:Nat}{parts:List (Nat × Operand)}(cells:List Value) (hg:o.guard=none) (hd:o.dst=some d) (hn:Nat.blt d n.n=true) (ho:o.op=.build t parts.toArray) (hp:evlParts l parts=some ps) (hf:prog.built t ps=some cells.toArray) (h:WL n ops Q rest ((d,.agg cells.toArray) :: l) w): WL n ops Q (o :: rest) l w :=
 ⟨fun a ha=>Ep hg (by rw[ho];intro c hc;cases hc) <| wpList_buildTo hg t parts.toArray ho (some d) hd cells.toArray (by
  rw[show(parts.toArray.map fun x=>(x.1,a.eval x.2)).toList=ps by rw[dZ];exact rA ha hp];exact hf) (h.go _ (ha.put hn _))⟩
theorem _root_.Go.Proofs.YtlenklobbngopaaGreat.iE {t:Nat}{parts:List (Nat × Operand)}(cells:List Value) (hf:prog.built t ps=some cells.toArray) (h:WL n ops Q rest ((d,.agg cells.toArray) :: l) w) (hg:o.guard=none:=by exact rfl) (hd:o.dst=some d:=by exact rfl) (hn:Nat.blt d n.n=true:=by exact rfl) (ho:o.op=.build t parts.toArray:=by exact rfl) (hp:evlParts l parts=some ps:=by exact rfl): WL n ops Q (o :: rest) l w:=WL.build cells hg hd hn ho hp hf h
def litCells (P:Program) (e len:Nat) (ps:List (Nat × Value)):Option (Array Value) :=
 match P.info? e with
 | some ie=>match ie.zero with
  | some z=>if 0<len*ie.size /\ len*ie.size <= 1000 then Instr.fill (fun i=>some (i*ie.size,ie.size)) ((Array.range (len*ie.size)).map (z.cells[· % z.cells.size]!)) ps else none
  | none=>none
 | none=>none
theorem WL.J5 {t e s len:Nat}{parts:List (Nat × Operand)}(cells:List Value) (hg:o.guard=none) (hd:o.dst=some d) (hn:Nat.blt d n.n=true) (ho:o.op=.buildSlice t len parts.toArray) (ht:tyOf ty t=some (.slice e s)) (hp:evlParts l parts=some ps) (hf:litCells prog e len ps=some cells.toArray) (h:∀g w',jl w g w' e cells -> WL n ops Q rest ((d,.slice (some ⟨g,0,none⟩) len len) :: l) w'): WL n ops Q (o :: rest) l w :=
 WL.step hg hd hn (fun a ha=>by
  unfold litCells at hf;cases A0:prog.info? e with
  | none=>rw[A0] at hf;cases hf
  | some ie=>
   rw[A0] at hf;simp only at hf;cases hz:ie.zero with
   | none=>rw[hz] at hf;cases hf
   | some z=>
    rw[hz] at hf;simp only at hf
    split at hf
    ·rename_i hlen
     unfold execOp;rw[ho];have hpm:=rA ha hp;have:=gz (P:=prog) w t e len (parts.toArray.map fun x=>(x.1,a.eval x.2)) cells.toArray ie z (m_.of mV ht).1 A0 hz gZ gZ (by rw[dZ];simp only;rw[hpm];exact hf);simp only[bA,this,bm]
     rfl
    ·cases hf) (h _ _ (jl.mk' w e cells))
structure Hold (Q:Prop):Prop where
 out:Q
theorem iW {l m:Env}(h:Sub l m:=by repeat (first|exact trivial|refine⟨rfl,?_⟩)): Sub l m:=h
theorem _root_.Go.Proofs.YtlenklobbngopaaGreat.gY {P Q:Prop}(q:Q) (h:Hold Q -> P:=by intro q;(repeat (first|((with_reducible refine WL.Ee ?_ ?_);omega)|((with_reducible refine WL.Ec ?_ ?_);omega)|((with_reducible refine WL.zC ?_ ?_);omega)|refine WC.seq ?_|refine WC.block ?_|refine WC.region ?_|refine WL.nil ?_|refine WC.skip ?_|refine WC.exit ?_|refine WC.ret ?_|refine WQ.then rfl ?_|refine WQ.BE ?_|refine WQ.D9 ?_|refine WQ.blk ?_|refine WQ.H6 ?_|refine WQ.E0 rfl ?_|refine WQ.BJ rfl ?_|refine WL.pure rfl rfl rfl rfl ?_|refine WL.on rfl rfl ?_|refine WL.off rfl rfl rfl ?_|refine WC.condTrue rfl ?_|refine WC.condFalse rfl ?_));exact q.out): P:=h ⟨q⟩
theorem _root_.Go.Proofs.YtlenklobbngopaaGreat.iu {P Q:Prop}(q:Q) (h:Hold Q -> P:=by intro q;(repeat (first|((with_reducible refine WL.Ee ?_ ?_);omega)|((with_reducible refine WL.Ec ?_ ?_);omega)|((with_reducible refine WL.zC ?_ ?_);omega)|refine WC.seq ?_|refine WC.block ?_|refine WC.region ?_|refine WL.nil ?_|refine WC.skip ?_|refine WC.exit ?_|refine WC.ret ?_|refine WQ.then rfl ?_|refine WQ.BE ?_|refine WQ.D9 ?_|refine WQ.blk ?_|refine WQ.H6 ?_|refine WQ.E0 rfl ?_|refine WQ.BJ rfl ?_|refine WL.pure rfl rfl rfl rfl ?_|refine WL.on rfl rfl ?_|refine WL.off rfl rfl rfl ?_|refine WL.load rfl rfl rfl rfl rfl rfl (by assumption) ?_|refine WC.condTrue rfl ?_|refine WC.condFalse rfl ?_));exact q.out): P:=h ⟨q⟩
theorem _root_.Go.Proofs.YtlenklobbngopaaGreat.ku {P Q:Prop}(q:Q) (h:Hold Q -> P:=by intro q;(repeat (first|refine WC.seq ?_|refine WC.block ?_|refine WC.region ?_|refine WL.nil ?_|refine WC.skip ?_|refine WC.exit ?_|refine WC.ret ?_|refine WQ.then rfl ?_|refine WQ.BE ?_|refine WQ.D9 ?_|refine WQ.blk ?_|refine WQ.H6 ?_|refine WQ.E0 rfl ?_|refine WQ.BJ rfl ?_));exact q.out): P:=h ⟨q⟩
theorem _root_.Go.Proofs.YtlenklobbngopaaGreat.sY {P Q:Prop}(q:Q) (h:Hold Q -> P:=by intro q;(repeat (first|((with_reducible refine WL.Ee ?_ ?_);omega)|((with_reducible refine WL.Ec ?_ ?_);omega)|((with_reducible refine WL.zC ?_ ?_);omega)|refine WC.seq ?_|refine WC.region ?_|refine WL.nil ?_|refine WC.skip ?_|refine WC.exit ?_|refine WC.ret ?_|refine WQ.then rfl ?_|refine WQ.BE ?_|refine WQ.D9 ?_|refine WQ.blk ?_|refine WQ.H6 ?_|refine WQ.E0 rfl ?_|refine WQ.BJ rfl ?_|refine WL.pure rfl rfl rfl rfl ?_|refine WL.on rfl rfl ?_|refine WL.off rfl rfl rfl ?_|refine WL.load rfl rfl rfl rfl rfl rfl (by assumption) ?_|refine WC.condTrue rfl ?_|refine WC.condFalse rfl ?_));exact q.out): P:=h ⟨q⟩
variable {kn:Nat}{ds:List Deferred}{n:NN}{Q:Exit -> Act -> World -> Prop}{l:Env}{w w':World}{ops:Array Oper}{o:Oper}{rest:List Oper}{d:Nat}{S:World -> Prop}{m fuel:Nat}{iw:Array Bool}
def DK (ops:Array Oper) (Q:Exit -> Act -> World -> Prop) (S:World -> Prop) (m fuel:Nat) (iw:Array Bool) (a:Act) (w:World):Prop :=
 (iw.getD m false=true \/ S w) /\ nL prog .any ops Q S m fuel iw a w
structure WD (n:NN) (ops:Array Oper) (Q:Exit -> Act -> World -> Prop) (S:World -> Prop) (m fuel:Nat) (iw:Array Bool) (l:Env) (w:World):Prop where
 go:∀a,Fr n a l -> nL prog .any ops Q S m fuel iw a w
structure Sy (w w':World):Prop where
 below:∀B,Below B w w'
 heap:w'.heap=w.heap
theorem Sy.mk' (w:World): Sy w w.drew:=⟨fun B=>((ib.ic (Below.refl B w)).drewN 1).below,rfl⟩
theorem WC.drawn {ops:List Oper}(m:Nat) (S:World -> Prop) (h:∀w',Sy w w' -> WD ⟨kn,ds,none⟩ ops.toArray Q S m ops.length (Array.replicate ops.length false) l w'): WC ⟨kn,ds,none⟩ (.region id ops.toArray true) Q l w :=
 ⟨fun a ha=>oo m S (by kernel_rfl) ((h _ (Sy.mk' w)).go a ha)⟩
theorem xN {K:Act -> World -> Prop}(hi:ops[i]? = some oi) (h:wpList prog ops (Exit.then K Q) [oi] a w): wpOp prog ops Q i K a w := by
  unfold wpOp; simp only[hi]; unfold wpList at h
  by_cases hw:Region.wanted oi (yielded ops a.tmps)=true
  · rw[if_pos hw] at h ⊢
    rcases h with h|⟨h1, a2, w2, h2⟩
    · left
      unfold Oper.wp at h ⊢
      revert h
      generalize (execOp a.eval oi).run prog w=r; intro h; cases r with
      | ok x w2=>
        cases x<;>first|exact h|skip
        all_goals first
          | exact h
          | (refine Calls.mono h fun e w3 h3=>?_
             cases e with
             | returned v=>exact h3
             | panicked ch=>exact h3
             | outgrown=>obtain⟨a4, w4, h4⟩ := h3; exact⟨a4, w4, h4⟩)
      | halt x w2=>cases x<;>first | exact h | skip
    · exact .inr ⟨h1, a2, w2, h2⟩
  · rw[if_neg hw] at h ⊢
    exact h
theorem WD.one (i:Nat) (hr:Region.ready .any ops iw=[i]) (hi:ops[i]? = some oi) (h:WL ⟨kn,ds,none⟩ ops (Exit.then (DK ops Q S m fuel (iw.setIfInBounds i true)) Q) [oi] l w): WD ⟨kn,ds,none⟩ ops Q S m (fuel+1) iw l w :=
 ⟨fun a ha=>⟨(fun h0=>by rw[h0] at hr;cases hr),fun j hj=>by
  rw[hr] at hj;obtain rfl:j=i:=by simpa using hj
  exact xN hi (h.go a ha)⟩⟩
theorem WD.two {oj:Oper}(i j:Nat) (hr:Region.ready .any ops iw=[i,j]) (hi:ops[i]? = some oi) (hj:ops[j]? = some oj) (h1:WL ⟨kn,ds,none⟩ ops (Exit.then (DK ops Q S m fuel (iw.setIfInBounds i true)) Q) [oi] l w) (h2:WL ⟨kn,ds,none⟩ ops (Exit.then (DK ops Q S m fuel (iw.setIfInBounds j true)) Q) [oj] l w): WD ⟨kn,ds,none⟩ ops Q S m (fuel+1) iw l w :=
 ⟨fun a ha=>⟨(fun h0=>by rw[h0] at hr;cases hr),fun k hk=>by
  rw[hr] at hk;rcases ar.1 hk with e|e
  ·subst e;exact xN hi (h1.go a ha)
  ·obtain rfl:k=j:=by simpa using e
   exact xN hj (h2.go a ha)⟩⟩
theorem WQ.dk (hS:iw.getD m false=true \/ S w) (h:WD n ops Q S m fuel iw l w): WQ n (Exit.then (DK ops Q S m fuel iw) Q) .normal l w:=⟨fun a ha=>⟨hS,h.go a ha⟩⟩
theorem WD.done (hr:Region.ready .any ops iw=[]) (h:WQ n Q .normal l w): WD n ops Q S m fuel iw l w:=⟨fun a ha=>tJ hr (h.go a ha) fuel⟩
theorem _root_.Go.Proofs.YtlenklobbngopaaGreat.im (h:WQ n Q .normal l w) (hr:Region.ready .any ops iw=[]:=by kernel_rfl): WD n ops Q S m fuel iw l w:=WD.done hr h
def uw (ops:Array Oper) (iw:Array Bool) (i m:Nat):Bool:=Region.noSelect ops && Region.free .any ops iw i && (Region.ready .any ops iw).contains i && !(i == m)
def Fs (ops:Array Oper) (iw:Array Bool) (i m:Nat) (us:List Nat):Bool:=Region.noSelect ops && Region.free .any ops iw i && (Region.ready .any ops iw).contains i && vZ .any ops iw i m us && !(us.contains i)
def Passes (Q:Exit -> Act -> World -> Prop):Prop:=∀c (a:Act) d v w,Q (.panic c) (a.put (some d) v) w -> Q (.panic c) a w
theorem WD.first {v:Value}(i:Nat) (hi:ops[i]? = some oi) (hs:uw ops iw i m=true) (hd:oi.dst=some d) (hn:Nat.blt d n.n=true) (hQ:Passes Q) (hy:∀a,Fr n a l -> YieldsIf prog ops (fun _=>True) oi v a) (hS:iw.getD m false=true \/ S w) (h:WD n ops Q S m fuel (iw.setIfInBounds i true) ((d,v) :: l) w): WD n ops Q S m (fuel+1) iw l w :=
 ⟨fun a ha=>by
  unfold uw at hs;simp only[aA,bZ] at hs;exact Em hi (dO hs.1.1.1) (by rw[hd];exact fun c a w=>hQ c a d v w) (by simpa using hs.2) fuel iw a w (eZ hi hs.1.1.2) (by simpa using hs.1.2) (hy a ha) hS (by rw[hd];exact h.go _ (ha.put hn v))⟩
theorem WD.free {v:Value}(i:Nat) (hi:ops[i]? = some oi) (hs:uw ops iw i m=true) (hd:oi.dst=some d) (hn:Nat.blt d n.n=true) (hQ:Passes Q) (hw:wants ops l oi=some true) (hv:pv ty l oi.op=some v) (hS:iw.getD m false=true \/ S w) (h:WD n ops Q S m fuel (iw.setIfInBounds i true) ((d,v) :: l) w): WD n ops Q S m (fuel+1) iw l w :=
 WD.first i hi hs hd hn hQ (fun _ ha=>.inl ⟨m0 ha hw,fun w _=>HV mV ha hv w⟩) hS h
theorem WD.EH {v:Value}(i:Nat) (v':Value) (hi:ops[i]? = some oi) (hs:uw ops iw i m=true) (hd:oi.dst=some d) (hn:Nat.blt d n.n=true) (hQ:Passes Q) (hw:wants ops l oi=some true) (hv:pv ty l oi.op=some v) (e:v=v') (hS:iw.getD m false=true \/ S w) (h:WD n ops Q S m fuel (iw.setIfInBounds i true) ((d,v') :: l) w): WD n ops Q S m (fuel+1) iw l w :=
 WD.first i hi hs hd hn hQ (fun _ ha=>.inl ⟨m0 ha hw,fun w _=>HV mV ha (hv.trans (congrArg some e)) w⟩) hS h
theorem WD.top {v:Value}(e:v=v') (h:WD n ops Q S m fuel iw ((d,v') :: l) w): WD n ops Q S m fuel iw ((d,v) :: l) w:=by subst e;exact h
theorem WD.Ee {p:Prop}[Decidable p] (hp:p) (h:WD n ops Q S m fuel iw ((d,.bool true) :: l) w): WD n ops Q S m fuel iw ((d,.bool (decide p)) :: l) w:=WD.top (congrArg Value.bool (decide_eq_true hp)) h
theorem WD.Ec {p:Prop}[Decidable p] (hp:¬p) (h:WD n ops Q S m fuel iw ((d,.bool false) :: l) w): WD n ops Q S m fuel iw ((d,.bool (decide p)) :: l) w:=WD.top (congrArg Value.bool (decide_eq_false hp)) h
theorem WD.zC {x:Int}(hx:-9223372036854775808 <= x /\ x <= 9223372036854775807) (h:WD n ops Q S m fuel iw ((d,Iq x) :: l) w): WD n ops Q S m fuel iw ((d,Iq (IntKind.wrap .i64 x)) :: l) w:=WD.top (congrArg (Value.int .i64) (bG _ hx)) h
theorem WD.skip (i:Nat) (hi:ops[i]? = some oi) (hs:uw ops iw i m=true) (hd:oi.dst=some d) (hn:Nat.blt d n.n=true) (hQ:Passes Q) (hw:wants ops l oi=some false) (hS:iw.getD m false=true \/ S w) (h:WD n ops Q S m fuel (iw.setIfInBounds i true) ((d,undef) :: l) w): WD n ops Q S m (fuel+1) iw l w :=
 WD.first i hi hs hd hn hQ (fun _ ha=>.inr ⟨m0 ha hw,rfl⟩) hS h
theorem WD.read {v:Value}(i:Nat) (us:List Nat) (hi:ops[i]? = some oi) (hs:Fs ops iw i m us=true) (hd:oi.dst=some d) (hn:Nat.blt d n.n=true) (hQ:Passes Q) (hw:wants ops l oi=some true) (hv:∀a,Fr n a l -> ∀w,S w -> (execOp a.eval oi).run prog w=.ok (.value v) w) (hS:S w) (h:WD n ops Q S m fuel (iw.setIfInBounds i true) ((d,v) :: l) w): WD n ops Q S m (fuel+1) iw l w :=
 ⟨fun a ha=>by
  unfold Fs at hs;simp only[aA,bZ] at hs;exact CE hi (dO hs.1.1.1.1) (by rw[hd];exact fun c a w=>hQ c a d v w) fuel iw a w (eZ hi hs.1.1.1.2) hs.1.2 (by simpa using hs.2) (by simpa using hs.1.1.2) (.inl ⟨m0 ha hw,hv a ha⟩) hS (by rw[hd];exact h.go _ (ha.put hn v))⟩
theorem WD.load {t:Nat}{v:Value}(i:Nat) (us:List Nat) (hi:ops[i]? = some oi) (hs:Fs ops iw i m us=true) (hd:oi.dst=some d) (hn:Nat.blt d n.n=true) (hQ:Passes Q) (hw:wants ops l oi=some true) (ho:oi.op=.load t x) (hx:jw l x=some (.pointer (some p))) (ht:Ke (tyOf ty t)=true) (hc:∀w,S w -> w.cell? p=some v) (hS:S w) (h:WD n ops Q S m fuel (iw.setIfInBounds i true) ((d,v) :: l) w): WD n ops Q S m (fuel+1) iw l w :=
 WD.read i us hi hs hd hn hQ hw (fun a ha w hw=>by unfold execOp;rw[ho];simp[ha.eval hx,Instr.loadAt,Instr.sureAddr,Nm ht p (hc w hw)]) hS h
theorem WD.uj {t off:Nat}(i:Nat) (us:List Nat) (hi:ops[i]? = some oi) (hs:Fs ops iw i m us=true) (hd:oi.dst=some d) (hn:Nat.blt d n.n=true) (hQ:Passes Q) (hw:wants ops l oi=some true) (ho:oi.op=.load t x) (hx:jw l x=some (.pointer (some ⟨b,off,none⟩))) (ht:cellsN (tyOf ty t)=some mm) (hc:∀w,S w -> w.rangeAt b off cs) (hm:cs.length=mm) (hS:S w) (h:WD n ops Q S m fuel (iw.setIfInBounds i true) ((d,.agg cs.toArray) :: l) w): WD n ops Q S m (fuel+1) iw l w :=
 WD.read i us hi hs hd hn hQ hw (fun a ha w hw=>by
  obtain⟨_,hu,VT,j5⟩:=rK mV ht;unfold execOp;rw[ho];have:=eA (P:=prog) w b off t cs _ (hc w hw) hu VT (by rw[j5,hm]);simp[ha.eval hx,Instr.loadAt,Instr.sureAddr,this]) hS h
theorem WD.idx {t e s:Nat}{off len:Nat}{k:IntKind}(i j q:Nat) (hi:ops[i]? = some oi) (hs:uw ops iw i m=true) (hd:oi.dst=some d) (hn:Nat.blt d n.n=true) (hQ:Passes Q) (hw:wants ops l oi=some true) (ho:oi.op=.indexAddr t x i') (ht:tyOf ty t=some (.slice e s)) (hx:jw l x=some (.slice (some ⟨b,off,none⟩) len cap)) (DL:jw l i'=some (.int k z)) (hz:z=(j:Int)) (hj:j<len) (hq:off+j*s=q) (hS:iw.getD m false=true \/ S w) (h:WD n ops Q S m fuel (iw.setIfInBounds i true) ((d,.pointer (some ⟨b,q,none⟩)) :: l) w): WD n ops Q S m (fuel+1) iw l w :=
 WD.first i hi hs hd hn hQ (fun _ ha=>.inl ⟨m0 ha hw,fun w _=>by rw[<- hq];exact Tw ho ht (ha.eval hx) (ha.eval DL) hz hj⟩) hS h
section
variable {kn:Nat}{ds:List Deferred}{n:NN}{Q:Exit -> Act -> World -> Prop}{l:Env}{w w':World}{ops:Array Oper}{o:Oper}{rest:List Oper}{d:Nat}{S:World -> Prop}{m fuel:Nat}{iw:Array Bool}
def fzV (ops:Array Oper) (l:Env) (o:Oper):Option Value:=match wants ops l o with
 | some true=>pv ty l o.op
 | some false=>some undef
 | none=>none
structure z_ (is:List Nat) (n:NN) (ops:Array Oper) (Q:Exit -> Act -> World -> Prop) (S:World -> Prop) (m fuel:Nat) (iw:Array Bool) (l:Env) (w:World):Prop where
 go:S w -> WD n ops Q S m fuel iw l w
theorem fst {v:Value}(hi:ops[i]? = some oi) (hs:uw ops iw i m=true) (hd:oi.dst=some d) (hn:Nat.blt d n.n=true) (hQ:Passes Q) (hv:fzV ops l oi=some v) (h:z_ is n ops Q S m fuel (iw.setIfInBounds i true) ((d,v) :: l) w): z_ (i :: is) n ops Q S m (fuel+1) iw l w:=⟨fun hS=>by
 have h:=h.go hS;unfold fzV at hv;cases hw:wants ops l oi with
 | none=>rw[hw] at hv;cases hv
 | some b=>
  rw[hw] at hv;cases b with
  | true=>exact WD.free i hi hs hd hn hQ hw hv (.inr hS) h
  | false=>cases hv;exact WD.skip i hi hs hd hn hQ hw (.inr hS) h⟩
theorem z_.nil (h:WD n ops Q S m fuel iw l w): z_ [] n ops Q S m fuel iw l w:=⟨fun _=>h⟩
theorem z_.Ee {p:Prop}[Decidable p] (hp:p) (h:z_ is n ops Q S m fuel iw ((d,.bool true) :: l) w): z_ is n ops Q S m fuel iw ((d,.bool (decide p)) :: l) w:=⟨fun hS=>WD.Ee hp (h.go hS)⟩
theorem z_.Ec {p:Prop}[Decidable p] (hp:¬p) (h:z_ is n ops Q S m fuel iw ((d,.bool false) :: l) w): z_ is n ops Q S m fuel iw ((d,.bool (decide p)) :: l) w:=⟨fun hS=>WD.Ec hp (h.go hS)⟩
theorem z_.zC {x:Int}(hx:-9223372036854775808 <= x /\ x <= 9223372036854775807) (h:z_ is n ops Q S m fuel iw ((d,Iq x) :: l) w): z_ is n ops Q S m fuel iw ((d,Iq (IntKind.wrap .i64 x)) :: l) w:=⟨fun hS=>WD.zC hx (h.go hS)⟩
theorem _root_.Go.Proofs.YtlenklobbngopaaGreat.iq {R:Prop}(is:List Nat) (hS:S w) (q:R) (h:Hold R -> z_ is n ops Q S m fuel iw l w:=by intro q;(repeat (refine fst rfl (by kernel_rfl) rfl rfl (fun _ _ _ _ _ h=>h) rfl ?_;try (first|((with_reducible refine z_.Ee ?_ ?_);omega)|((with_reducible refine z_.Ec ?_ ?_);omega)|((with_reducible refine z_.zC ?_ ?_);omega))));refine z_.nil ?_;exact q.out): WD n ops Q S m fuel iw l w:=(h ⟨q⟩).go hS
theorem _root_.Go.Proofs.YtlenklobbngopaaGreat.js {v:Value}{R:Prop}(i:Nat) (hS:iw.getD m false=true) (hi:ops[i]? = some oi:=by exact rfl) (hs:uw ops iw i m=true:=by kernel_rfl) (hd:oi.dst=some d:=by exact rfl) (hn:Nat.blt d n.n=true:=by exact rfl) (hQ:Passes Q:=by exact fun _ _ _ _ _ h=>h) (hv:fzV ops l oi=some v:=by exact rfl) (q:R) (h:Hold R -> WD n ops Q S m fuel (iw.setIfInBounds i true) ((d,v) :: l) w:=by intro q;(first|((with_reducible refine WD.Ee ?_ ?_);omega;exact q.out)|((with_reducible refine WD.Ec ?_ ?_);omega;exact q.out)|((with_reducible refine WD.zC ?_ ?_);omega;exact q.out)|exact q.out)): WD n ops Q S m (fuel+1) iw l w:=by
 have h:=h ⟨q⟩;unfold fzV at hv;cases hw:wants ops l oi with
 | none=>rw[hw] at hv;cases hv
 | some b=>
  rw[hw] at hv;cases b with
  | true=>exact WD.free i hi hs hd hn hQ hw hv (.inl hS) h
  | false=>cases hv;exact WD.skip i hi hs hd hn hQ hw (.inl hS) h
theorem _root_.Go.Proofs.YtlenklobbngopaaGreat.Wl {t:Nat}{v:Value}(i:Nat) (us:List Nat) (hi:ops[i]? = some oi) (hd:oi.dst=some d) (hn:Nat.blt d n.n=true) (hw:wants ops l oi=some true) (ho:oi.op=.load t x) (hx:jw l x=some (.pointer (some p))) (ht:Ke (tyOf ty t)=true) (hc:∀w,S w -> w.cell? p=some v) (hS:S w) (h:WD n ops Q S m fuel (iw.setIfInBounds i true) ((d,v) :: l) w) (hs:Fs ops iw i m us=true:=by kernel_rfl) (hQ:Passes Q:=by exact fun _ _ _ _ _ h=>h): WD n ops Q S m (fuel+1) iw l w :=
 WD.load i us hi hs hd hn hQ hw ho hx ht hc hS h
theorem _root_.Go.Proofs.YtlenklobbngopaaGreat.ik {t:Nat}{v:Value}(i:Nat) (us:List Nat) (hc:∀w,S w -> w.cell? p=some v) (hS:S w) (h:WD n ops Q S m fuel (iw.setIfInBounds i true) ((d,v) :: l) w) (hs:Fs ops iw i m us=true:=by kernel_rfl) (hQ:Passes Q:=by exact fun _ _ _ _ _ h=>h) (hi:ops[i]? = some oi:=by exact rfl) (hd:oi.dst=some d:=by exact rfl) (hn:Nat.blt d n.n=true:=by exact rfl) (hw:wants ops l oi=some true:=by exact rfl) (ho:oi.op=.load t x:=by exact rfl) (hx:jw l x=some (.pointer (some p)):=by exact rfl) (ht:Ke (tyOf ty t)=true:=by exact rfl): WD n ops Q S m (fuel+1) iw l w:=Wl i us hi hd hn hw ho hx ht hc hS h hs hQ
theorem _root_.Go.Proofs.YtlenklobbngopaaGreat.aii {t off:Nat}(i:Nat) (us:List Nat) (hi:ops[i]? = some oi) (hd:oi.dst=some d) (hn:Nat.blt d n.n=true) (hw:wants ops l oi=some true) (ho:oi.op=.load t x) (hx:jw l x=some (.pointer (some ⟨b,off,none⟩))) (ht:cellsN (tyOf ty t)=some mm) (hc:∀w,S w -> w.rangeAt b off cs) (hm:cs.length=mm) (hS:S w) (h:WD n ops Q S m fuel (iw.setIfInBounds i true) ((d,.agg cs.toArray) :: l) w) (hs:Fs ops iw i m us=true:=by kernel_rfl) (hQ:Passes Q:=by exact fun _ _ _ _ _ h=>h): WD n ops Q S m (fuel+1) iw l w :=
 WD.uj i us hi hs hd hn hQ hw ho hx ht hc hm hS h
theorem _root_.Go.Proofs.YtlenklobbngopaaGreat.jG {t off:Nat}(i:Nat) (us:List Nat) (hc:∀w,S w -> w.rangeAt b off cs) (hS:S w) (h:WD n ops Q S m fuel (iw.setIfInBounds i true) ((d,.agg cs.toArray) :: l) w) (hs:Fs ops iw i m us=true:=by kernel_rfl) (hQ:Passes Q:=by exact fun _ _ _ _ _ h=>h) (hi:ops[i]? = some oi:=by exact rfl) (hd:oi.dst=some d:=by exact rfl) (hn:Nat.blt d n.n=true:=by exact rfl) (hw:wants ops l oi=some true:=by exact rfl) (ho:oi.op=.load t x:=by exact rfl) (hx:jw l x=some (.pointer (some ⟨b,off,none⟩)):=by exact rfl) (ht:cellsN (tyOf ty t)=some mm:=by exact rfl) (hm:cs.length=mm:=by exact rfl): WD n ops Q S m (fuel+1) iw l w:=aii i us hi hd hn hw ho hx ht hc hm hS h hs hQ
theorem _root_.Go.Proofs.YtlenklobbngopaaGreat.IF {t e s:Nat}{off len:Nat}{k:IntKind}(i j q:Nat) (hi:ops[i]? = some oi) (hd:oi.dst=some d) (hn:Nat.blt d n.n=true) (hw:wants ops l oi=some true) (ho:oi.op=.indexAddr t x i') (ht:tyOf ty t=some (.slice e s)) (hx:jw l x=some (.slice (some ⟨b,off,none⟩) len cap)) (DL:jw l i'=some (.int k z)) (hz:z=(j:Int)) (hj:j<len) (hq:off+j*s=q) (hS:iw.getD m false=true \/ S w) (h:WD n ops Q S m fuel (iw.setIfInBounds i true) ((d,.pointer (some ⟨b,q,none⟩)) :: l) w) (hs:uw ops iw i m=true:=by kernel_rfl) (hQ:Passes Q:=by exact fun _ _ _ _ _ h=>h): WD n ops Q S m (fuel+1) iw l w :=
 WD.idx i j q hi hs hd hn hQ hw ho ht hx DL hz hj hq hS h
theorem _root_.Go.Proofs.YtlenklobbngopaaGreat.jV {t e s:Nat}{off len:Nat}{k:IntKind}(i:Nat) (j:Nat) (q:Nat) (hj:j<len) (hS:iw.getD m false=true \/ S w) (h:WD n ops Q S m fuel (iw.setIfInBounds i true) ((d,.pointer (some ⟨b,q,none⟩)) :: l) w) (hs:uw ops iw i m=true:=by kernel_rfl) (hQ:Passes Q:=by exact fun _ _ _ _ _ h=>h) (hi:ops[i]? = some oi:=by exact rfl) (hd:oi.dst=some d:=by exact rfl) (hn:Nat.blt d n.n=true:=by exact rfl) (hw:wants ops l oi=some true:=by exact rfl) (ho:oi.op=.indexAddr t x i':=by exact rfl) (ht:tyOf ty t=some (.slice e s):=by exact rfl) (hx:jw l x=some (.slice (some ⟨b,off,none⟩) len cap):=by exact rfl) (DL:jw l i'=some (.int k z):=by exact rfl) (hz:z=(j:Int):=by exact rfl) (hq:off+j*s=q:=by exact rfl): WD n ops Q S m (fuel+1) iw l w:=IF i j q hi hd hn hw ho ht hx DL hz hj hq hS h hs hQ
theorem _root_.Go.Proofs.YtlenklobbngopaaGreat.iI (i:Nat) (h:WL ⟨kn,ds,none⟩ ops (Exit.then (DK ops Q S m fuel (iw.setIfInBounds i true)) Q) [oi] l w) (hr:Region.ready .any ops iw=[i]:=by kernel_rfl) (hi:ops[i]? = some oi:=by exact rfl): WD ⟨kn,ds,none⟩ ops Q S m (fuel+1) iw l w :=
 WD.one i hr hi h
theorem _root_.Go.Proofs.YtlenklobbngopaaGreat.km (hS:S w) (h:WD n ops Q S m fuel iw l w): WL n ops (Exit.then (DK ops Q S m fuel iw) Q) [] l w:=WL.nil (WQ.dk (.inr hS) h)
theorem _root_.Go.Proofs.YtlenklobbngopaaGreat.iO (h:WD n ops Q S m fuel iw l w) (hm:iw.getD m false=true:=by exact rfl): WL n ops (Exit.then (DK ops Q S m fuel iw) Q) [] l w:=WL.nil (WQ.dk (.inl hm) h)
end
section
variable {kn:Nat}{n:NN}{Q:Exit -> Act -> World -> Prop}{l:Env}{w w':World}{ops:Array Oper}{o:Oper}{rest:List Oper}{d:Nat}{fn:Func}
theorem _root_.Go.Proofs.YtlenklobbngopaaGreat.i_ {f:FuncId} {v:Value} {P:World -> Prop} (hf:prog.funcs[f]? = some fn) (hc:Calls prog f vs.toArray w fun e w' => e = .returned v /\ P w') (h:∀ w',P w' -> WL n ops Q rest ((d,v) :: l) w') (hg:o.guard = none := by exact rfl) (hd:o.dst = some d := by exact rfl) (hn:Nat.blt d n.n = true := by exact rfl) (ho:o.op = .call { callee := .value (.func f), args := args.toArray, argTypes := ts } := by exact rfl) (hv:evlAll l args = some vs := by exact rfl) (hb:fn.body.isNone = false := by exact rfl) (Dk:(fn.name == "runtime.NumGoroutine") = false := by kernel_rfl): WL n ops Q (o :: rest) l w :=
 WL.call hg hd hn ho hv hf hb Dk hc fun _ w' q=>⟨v,q.1,h w' q.2⟩
theorem _root_.Go.Proofs.YtlenklobbngopaaGreat.iY {f:FuncId}{args:List Value}(hf:prog.funcs[f]? = some fn) (hn:fn.ntmps=m) (h:WC ⟨m,[],none⟩ c (bodyPost prog fn R) (argsEnv 0 args) w) (hb:fn.body=some c:=by exact rfl) (hs:Nat.ble args.length m=true:=by exact rfl): Calls prog f args.toArray w R:=enter hf hb hn hs h
end
variable {n:NN}{Q:Exit -> Act -> World -> Prop}{l:Env}{w w':World}{ops:Array Oper}{o:Oper}{rest:List Oper}{d:Nat}
theorem WL.fn {f:FuncId}{caps:List Operand}(hg:o.guard=none) (hd:o.dst=some d) (hn:Nat.blt d n.n=true) (ho:o.op=.makeFunc (.func f) #[] caps.toArray) (hv:evlAll l caps=some cs) (h:WL n ops Q rest ((d,.func (.func f) #[] cs.toArray) :: l) w): WL n ops Q (o :: rest) l w :=
 WL.step hg hd hn (fun a ha=>by
  unfold execOp;rw[ho];have:=ua ha hv;have e1:(caps.toArray.map a.eval)=cs.toArray:=by rw[cn,this]
  simp[Instr.makeFunc,e1]) h
theorem WL.xx {f:FuncId} {fn:Func} (hg:o.guard = none) (hd:o.dst = some d) (hn:Nat.blt d n.n = true) (ho:o.op = .call { callee := .value x, args := args.toArray, argTypes := ts }) (hx:jw l x = some (.func (.func f) #[] cs.toArray)) (hv:evlAll l args = some vs) (hf:prog.funcs[f]? = some fn) (hb:fn.body.isNone = false) (Dk:(fn.name == "runtime.NumGoroutine") = false) (hc:Calls prog f (vs ++ cs).toArray w R) (h:∀ e w',R e w' -> ∃ v,e = .returned v /\ WL n ops Q rest ((d,v) :: l) w'): WL n ops Q (o :: rest) l w :=
 ⟨fun a ha=>by
  have kz:(execOp a.eval o).run prog w=.ok (.enter f (vs++cs).toArray) w:=by
   unfold execOp;rw[ho];have:=ua ha hv;have e1:(args.toArray.map a.eval)=vs.toArray:=by rw[cn,this]
   have e2:=ha.eval hx;have Hp:¬fn.body=none:=fun e=>by rw[e] at hb;cases hb
   have LP : ¬ fn.name = "runtime.NumGoroutine" := by simpa using Dk
   simp[resolve,e1,e2,Deferred.ofValue,invoke,callFunc,hf,Hp,LP]
  refine MU hg kz (hc.mono fun e UB hh=>?_);obtain⟨v,rfl,hwl⟩:=h e UB hh;exact⟨v,rfl,by rw[hd];exact hwl.go _ (ha.put hn v)⟩⟩
theorem WL.qO {s:Operand}{t e:TypeId}{v:Value}{k k2:Nat}{l1 l2:List Value}{O2:Nat -> Prop}(hg:o.guard=none) (hd:o.dst=some d) (hn:Nat.blt d n.n=true) (ho:o.op=.call { callee:=.builtin .append,args:=#[s,x],argTypes:=#[t,t]}) (E:lK prog t e m bytes) (hs:jw l s=some v) (iJ:iK e m w O v k l1) (hx:jw l x=some xv) (lU:n_ w O2 m xv k2 l2) (hb:(k+k2)*bytes <= 140737488355328) (mj:k+k2 <= 140737488355328) (h:∀v' w',iK e m w' (fun g=>O g \/ g=w.heap.size) v' (k+k2) (l1++l2) -> jv w v w' v' -> WL n ops Q rest ((d,v') :: l) w'): WL n ops Q (o :: rest) l w :=
 ⟨fun a ha=>by
  refine Ep hg (by rw[ho];intro c hc;cases hc) ?_;refine uX hg s x t ho E (ha.eval hs) iJ (ha.eval hx) lU rfl (by unfold maxLen;omega) hb ?_;intro sp c w' h2 h3 h4;rw[hd];exact(h _ w' h2 ⟨oC h3,fun g hg=>(h4 g hg).imp id (fun e=>by omega)⟩).go _ (ha.put hn _)⟩
section
variable {fn:Func}{R:Ending -> World -> Prop}
theorem WQ.Wp (hr:fn.results=#[]) (h:R (.returned (.tuple #[])) w): WQ ⟨kn,[],md⟩ (bodyPost prog fn R) .ret l w:=⟨fun _ ha=>⟨ha.defers,_,results_none hr _ _ _,h⟩⟩
theorem WQ.EE (hr:fn.results=#[]) (h:R (.returned (.tuple #[])) w): WQ ⟨kn,[],md⟩ (bodyPost prog fn R) .normal l w:=⟨fun _ ha=>⟨ha.defers,_,results_none hr _ _ _,h⟩⟩
theorem WQ.tl {p:Nat}(hr:fn.results=#[.cell p y9]) (hl:look l p=some (iF g)) (ht:cellsN (tyOf ty y9)=some m) (hm:cs.length=m) (hb:h_ T w g cs) (h:R (.returned (.agg cs.toArray)) w): WQ ⟨kn,[],md⟩ (bodyPost prog fn R) .ret l w :=
 ⟨fun a ha=>⟨ha.defers,_,by
  obtain⟨_,hu,VT,j5⟩:=rK mV ht;have hp:=ha.getD hl;simp only[bS] at hp;have:=eA (P:=prog) w g 0 y9 cs _ (h_.rangeAt hb) hu VT (by rw[j5,hm]);simp[results,hr,hp,asAddr,this],h⟩⟩
end
variable {n:NN}{Q:Exit -> Act -> World -> Prop}{l:Env}{w w':World}{ops:Array Oper}{o:Oper}{rest:List Oper}{d:Nat}
theorem G7 (s:ByteArray): Lib.strCells s=(oB s).map (Value.int .u8):=by
 unfold Lib.strCells oB;rw[aD,fz]
 rfl
theorem ZX {v:Value}{s:ByteArray}(y9:Nat) (iJ:Bu w v l1) (hb:l1.length+s.size <= 140737488355328):
  ∃v' w',(Builtin.append_ #[158,9] y9 #[v,.string s]).run prog w=.ok v' w' /\ Bu w' v' (l1++oB s) /\ jv w v w' v':=by
 have hq:(prog.info? 5).map (fun i=>(i.zero,i.size,i.bytes))=some (some (.int .u8 0),1,1):=by kernel_rfl
 obtain⟨ie,A0,he⟩:=cH.1 hq;obtain⟨VD,De⟩:=fL he;obtain⟨j5,rp⟩:=fL De;have OX:w.ownsRow 0 5 1 v l1.length (l1.map (Value.int .u8)):=iJ;obtain⟨v',w',hr,h2,h3,-⟩:=fG (P:=prog) w 0 158 9 y9 5 ie underlying158 underlying9 A0 VD j5 rp v l1.length _ OX s (by unfold maxLen;omega) hb (aw _);refine⟨v',w',hr,?_,oC h3,?_⟩
 ·rw[G7,<- aK] at h2
  show World.ownsRow _ _ _ _ _ _ _
  rw[aa,qf];exact h2
 ·intro g hg
  rcases OX.2 with⟨rfl,h0⟩|⟨g0,cap,cur,rfl,hbg,Hd,rC,hcm,hcs,asN⟩
  ·have qV:w.ownsRow w.heap.size 5 1 (.slice none 0 0) l1.length (l1.map (Value.int .u8)):=⟨OX.1,.inl ⟨rfl,h0⟩⟩
   obtain⟨v2,w2,uW,h22,-,-⟩:=fG (P:=prog) w w.heap.size 158 9 y9 5 ie underlying158 underlying9 A0 VD j5 rp _ l1.length _ qV s (by unfold maxLen;omega) hb (af _);rw[hr] at uW
   injection uW with e1 e2
   subst e1
   right
   rcases h22.2 with⟨rfl,-⟩|⟨g1,_,_,rfl,h,-⟩
   ·cases hg
   ·cases hg;exact h
  ·by_cases xu:l1.length+s.size <= cap
   ·have av9:cur.size=cap:=by simpa using hcs
    have uW:=Lib.run_append_room_string (P:=prog) w 158 9 y9 5 ie underlying158 underlying9 A0 j5 g0 l1.length cap cur Hd s xu gZ;rw[hr] at uW
    injection uW with e1 e2
    subst e1;cases hg
    exact .inl rfl
   ·have uW:=Lib.run_append_grow_string (P:=prog) w 158 9 y9 5 ie (.int .u8 0) underlying158 underlying9 A0 VD ⟨g0,0,none⟩ l1.length cap (l1.map (Value.int .u8)) (by rw[j5];simp) (OX.cells (g:=g0) rfl) s gZ gZ
     (by rw[rp];exact growslice_fits gZ gZ)
    rw[hr] at uW
    injection uW with e1 e2
    subst e1;cases hg
    exact .inr (af _)
theorem WL.QM {s:Operand}{v:Value}{t:ByteArray}(hg:o.guard=none) (hd:o.dst=some d) (hn:Nat.blt d n.n=true) (ho:o.op=.call { callee:=.builtin .append,args:=#[s,x],argTypes:=#[158,9]}) (hs:jw l s=some v) (iJ:Bu w v l1) (hx:jw l x=some (.string t)) (hb:l1.length+t.size <= 140737488355328) (h:∀v' w',Bu w' v' (l1++oB t) -> jv w v w' v' -> WL n ops Q rest ((d,v') :: l) w'): WL n ops Q (o :: rest) l w:=by
 obtain⟨v',w',hr,h2,h3⟩:=ZX o.type iJ hb;refine WL.step hg hd hn (fun a ha=>?_) (h v' w' h2 h3);unfold execOp;simp only[ho,resolve,invoke,builtin,bA,eJ,bm,cn,aM,cT,ha.eval hs,ha.eval hx,hr]
def nX (bb:Nat) (w:World) (v:Value) (w':World) (v':Value):Prop :=
 ib (fun b=>b<w.heap.size /\ v.ownBlock≠some b /\ b≠bb) w w' /\ ∀g,v'.ownBlock=some g -> v.ownBlock=some g \/ w.heap.size <= g
theorem nX.refl (bb:Nat) (w:World) (v:Value): nX bb w v w v:=⟨ib.refl _ _,fun _ h=>.inl h⟩
theorem nX.trans {v:Value}(h:nX bb w v w1 v1) (k:nX bb w1 v1 w2 v2): nX bb w v w2 v2 :=
  ⟨h.1.trans (k.1.mono fun b hb=>⟨ak hb.1 h.1.size, fun e=>(h.2 b e).elim hb.2.1 (fun h2=>absurd hb.1 gZ), hb.2.2⟩),
   fun g hg=>(k.2 g hg).elim (h.2 g) (fun h2=>.inr (aU h.1.size h2))⟩
theorem jv.box {v:Value}(h:jv w v w' v'): nX bb w v w' v':=⟨h.1.mono fun _ hb=>⟨hb.1,hb.2.1⟩,h.2⟩
theorem nX.below {v:Value}(h:nX bb w v w1 v1) (k:iB w1 w2): nX bb w v w2 v1 :=
 ⟨h.1.trans ((ib.ic k).mono fun _ hb=>ak hb.1 h.1.size),h.2⟩
structure Bx (bb:Nat) (w:World) (v:Value) (l:List Int):Prop where
 blk:h_ 158 w bb [v]
 bu:Bu w v l
 ne:v.ownBlock≠some bb
theorem Bx.below {v:Value}{l:List Int}(h:Bx bb w v l) (hk:iB w w'): Bx bb w' v l:=⟨h.blk.below hk h.blk.lt,h.bu.below hk,h.ne⟩
theorem Bx.put {v:Value}{l l':List Int}(h:Bx bb w v l) (hb:Bu w' v' l') (hg:jv w v w' v'):
  h_ 158 w' bb [v] /\ Bx bb (w'.setCell ⟨bb,0,none⟩ v') v' l' /\ nX bb w v (w'.setCell ⟨bb,0,none⟩ v') v':=by
 have o5:=h.blk.ij hg.1 ⟨h.blk.lt,h.ne⟩;have kD:v'.ownBlock≠some bb:=fun e=>(hg.2 _ e).elim h.ne (fun h2=>absurd h.blk.lt gZ);refine⟨o5,⟨o5.set 0 v',hb.ij (K:=fun b=>b≠bb) ((ib.refl _ w').setCell (fun hk=>hk rfl) _) (fun g lN e=>kD (by rw[lN,e])),kD⟩,?_,hg.2⟩;exact(hg.1.mono fun _ hb=>⟨hb.1,hb.2.1⟩:ib (fun b=>b<w.heap.size /\ v.ownBlock≠some b /\ b≠bb) w w').setCell (fun hk=>hk.2.2 rfl) _
theorem Bx.ij {v:Value}(hg:nX bb w v w' v') (h:h_ T w g cs) (h1:v.ownBlock≠some g) (h2:g≠bb): h_ T w' g cs /\ v'.ownBlock≠some g :=
 ⟨h.ij hg.1 ⟨h.lt,h1,h2⟩,fun e=>(hg.2 _ e).elim h1 (fun h3=>absurd h.lt gZ)⟩
theorem Bu.Ak {v:Value}{l:List Int}(h:Bu w v l): v.oneCell'=true:=by obtain⟨sp,c,rfl,-,-⟩:=h.form;rfl
section
variable {S:World -> Prop}{m fuel:Nat}{iw:Array Bool}
end
theorem jJ (h:w'.heap=w.heap) (p:Addr): w'.cell? p=w.cell? p:=bD (by rw[h])
variable {n:NN}{Q:Exit -> Act -> World -> Prop}{l:Env}{w w':World}{ops:Array Oper}{o:Oper}{rest:List Oper}{d:Nat}
def lA {α:Type}(m:Nat) (z:α) (P:α -> List Value -> Prop) (O:Nat -> Prop) (w:World) (v:Value) (l:List α):Prop :=
 ∃sp cap,v=.slice sp l.length cap /\ l.length <= cap /\ cap <= 9223372036854775807 /\ (sp=none -> cap=0) /\
  (0<l.length -> ∃b o,sp=some ⟨b,o,none⟩ /\ b<w.heap.size /\ O b /\ ∀j,j<l.length -> ∃cs,cs.length=m /\ P (l.getD j z) cs /\ w.rangeAt b (o+j*m) cs)
theorem lA.nil (m:Nat) (z:α) (P:α -> List Value -> Prop) (O:Nat -> Prop) (w:World): lA m z P O w (.slice none 0 0) [] :=
 ⟨none,0,rfl,af _,gZ,fun _=>rfl,fun h=>absurd h iz⟩
theorem lA.ij {z:α}{P:α -> List Value -> Prop}{v:Value}{l:List α}(h:lA m z P O w v l) {K:Nat -> Prop}(hk:ib K w w') (hK:∀b,O b -> b<w.heap.size -> K b) (hO:∀b,O b -> O' b) (hP:∀x cs,P x cs -> P' x cs): lA m z P' O' w' v l:=by
 obtain⟨sp,cap,h1,h2,h3,h5,h4⟩:=h;refine⟨sp,cap,h1,h2,h3,h5,fun h0=>?_⟩;obtain⟨b,o,e,iS,Qi,hr⟩:=h4 h0;refine⟨b,o,e,ak iS hk.size,hO b Qi,fun j hj=>?_⟩;obtain⟨cs,hc,hp,j6⟩:=hr j hj;exact⟨cs,hc,hP _ _ hp,fun i u hu=>by rw[hk.cell (p:=⟨b,o+j*m+i,none⟩) (hK b Qi iS)];exact j6 i u hu⟩
theorem lA.mono {z:α}{P:α -> List Value -> Prop}{v:Value}{l:List α}(h:lA m z P O w v l) (hO:∀b,O b -> O' b) (hP:∀x cs,P x cs -> P' x cs): lA m z P' O' w v l :=
 h.ij (ib.refl (fun _=>True) w) (fun _ _ _=>trivial) hO hP
def jk {α:Type}(e:TypeId) (m:Nat) (z:α) (P:α -> List Value -> Prop) (O:Nat -> Prop) (w:World) (v:Value) (l:List α):Prop :=
 ∃lO:List (List Value),lO.length=l.length /\ (∀j,j<l.length -> (lO.getD j []).length=m /\ P (l.getD j z) (lO.getD j [])) /\ iK e m w O v l.length lO.flatten
theorem jk.nil (e:TypeId) (m:Nat) (z:α) (P:α -> List Value -> Prop) (O:Nat -> Prop) (w:World): jk e m z P O w (.slice none 0 0) []:=⟨[],rfl,fun j hj=>absurd hj iz,iK.nil _ _ _ _⟩
theorem jk.ij {e:TypeId}{z:α}{P:α -> List Value -> Prop}{v:Value}{l:List α}(h:jk e m z P O w v l) {K:Nat -> Prop}(hk:ib K w w') (hK:∀g,v.ownBlock=some g -> K g) (hO:∀b,O b -> O' b) (hP:∀x cs,P x cs -> P' x cs): jk e m z P' O' w' v l:=by
 obtain⟨lO,h1,h2,h3⟩:=h;exact⟨lO,h1,fun j hj=>⟨(h2 j hj).1,hP _ _ (h2 j hj).2⟩,(h3.ij hk hK).mono hO⟩
theorem jk.lt {e:TypeId}{z:α}{P:α -> List Value -> Prop}{v:Value}{l:List α}(h:jk e m z P O w v l) (hg:v.ownBlock=some g): g<w.heap.size:=by
 obtain⟨lO,-,-,h3⟩:=h;exact h3.lt hg
theorem jk.own {e:TypeId}{z:α}{P:α -> List Value -> Prop}{v:Value}{l:List α}(h:jk e m z P O w v l) (hg:v.ownBlock=some g): O g:=by
 obtain⟨lO,-,-,h3⟩:=h;exact h3.own hg
theorem jk.one {e:TypeId}{z:α}{P:α -> List Value -> Prop}{v:Value}{l:List α}(h:jk e m z P O w v l): v.oneCell'=true:=by
 obtain⟨lO,-,-,h3⟩:=h;obtain⟨sp,c,rfl,-⟩:=h3.slice;rfl
theorem zy {m:Nat}:∀(k:List (List Value)),(∀x∈k,x.length=m) -> ∀j i,j<k.length -> i<m -> k.flatten[j*m+i]? = (k.getD j [])[i]?
 | [],_,j,i,hj,_=>by simp at hj
 | x :: k,hx,j,i,hj,hi=>by
  have h0:=hx x iz;cases j with
  | zero=>simp only[dK,al,gU,a_];rw[aP gZ]
  | succ j=>
   simp only[dK,ax];rw[ay (by rw[h0,gj];omega),h0,show(j+1)*m+i - m=j*m+i by rw[gj];omega];exact zy k (fun y hy=>hx y (by simp[hy])) j i (by simpa using hj) hi
theorem Ea {k:List (List Value)}(h:∀j,j<k.length -> (k.getD j []).length=m): ∀x∈k,x.length=m:=by
 intro x hx;obtain⟨j,hj,rfl⟩:=bn hx;have:=h j hj
 simpa[hj] using this
theorem jk.jt {e:TypeId}{z:α}{P:α -> List Value -> Prop}{v:Value}{l:List α}(h:jk e m z P O w v l): lA m z P O w v l:=by
 obtain⟨lO,h1,h2,h3⟩:=h;obtain⟨q1,q2,sp,cap,rfl,h4,h5,h6,h7⟩:=h3.DC;refine⟨sp,cap,rfl,h4,h5,h6,fun h0=>?_⟩;obtain⟨b,o,e,hb,hO,hr⟩:=h7 h0;have j8:=Ea (k:=lO) (m:=m) fun j hj=>(h2 j gZ).1;refine⟨b,o,e,hb,hO,fun j hj=>⟨lO.getD j [],(h2 j hj).1,(h2 j hj).2,fun i u hu=>?_⟩⟩;have him:i<m:=by
  rcases aO i m with h|h
  ·exact h
  ·rw[aG (by rw[(h2 j hj).1];exact h)] at hu;cases hu
 have hg:=zy lO j8 j i gZ him;have iS:j*m+i<lO.flatten.length:=by
  rcases aO (j*m+i) lO.flatten.length with h|h
  ·exact h
  ·rw[aG h,hu] at hg;cases hg
 have:=hr (j*m+i) iS;rw[ff,this,ag,hg,hu]
 rfl
theorem jk.snoc {e:TypeId}{z:α}{P:α -> List Value -> Prop}{l:List α}{lO:List (List Value)}{x:α}(h1:lO.length=l.length) (h2:∀j,j<l.length -> (lO.getD j []).length=m /\ P (l.getD j z) (lO.getD j [])) (hc:cs.length=m) (hp:P x cs) (h:iK e m w' O v' (l.length+1) (lO.flatten++cs)): jk e m z P O w' v' (l++[x]):=by
 refine⟨lO++[cs],by simp[h1],fun j hj=>?_,?_⟩
 ·rcases aO j l.length with hl|hl
  ·have:=h2 j hl
   simp only[ag] at this ⊢;rw[aP gZ,aP gZ];exact this
  ·obtain rfl:j=l.length:=by simp at hj;omega
   simp only[ag];rw[ay gZ,ay gZ,h1];simp[hc,hp]
 ·rw[aa,dH,gK]
  simpa using h
theorem WL.aoh {t e s:Nat}(hg:o.guard=none) (hd:o.dst=some d) (hn:Nat.blt d n.n=true) (ho:o.op=.buildSlice t 1 #[(0,x)]) (ht:tyOf ty t=some (.slice e s)) (hx:jw l x=some u) (hu:u.cells=cs.toArray) (hcs:cs.length=s) (hs:0<s /\ s <= 1000) (hz:(prog.info? e).bind (fun i=>i.zero.map fun _=>i.size)=some s) (h:∀g w',jl w g w' e cs -> WL n ops Q rest ((d,.slice (some ⟨g,0,none⟩) 1 1) :: l) w'): WL n ops Q (o :: rest) l w :=
 WL.step hg hd hn (fun a ha=>by
  obtain⟨ie,A0,hz⟩:=eG.1 hz;obtain⟨z,hz,j5⟩:=cH.1 hz;unfold execOp;rw[ho];have e2:=Great.fill_whole (s:=s) hs.1 [u] ((Array.range (1*s)).map (z.cells[· % z.cells.size]!)) (by intro v hv;simp at hv;rw[hv,hu];simpa using hcs) iz;have:=gz (P:=prog) w t e 1 (#[(0,x)].map fun(p:Nat × Operand)=>(p.1,a.eval p.2)) cs.toArray ie z (m_.of mV ht).1 A0 hz (by rw[j5];omega) (by rw[j5];omega) (by
   rw[j5];simp only[cn,aM,cT,ha.eval hx];refine Eq.trans e2 ?_;simp[hu])
  simp only[bA,this,bm]
  rfl) (h _ _ (jl.mk' w e cs))
theorem _root_.Go.Proofs.YtlenklobbngopaaGreat.jR {t e s:Nat}(h:∀g w',jl w g w' e cs -> WL n ops Q rest ((d,.slice (some ⟨g,0,none⟩) 1 1) :: l) w') (hg:o.guard=none:=by exact rfl) (hd:o.dst=some d:=by exact rfl) (hn:Nat.blt d n.n=true:=by exact rfl) (ho:o.op=.buildSlice t 1 #[(0,x)]:=by exact rfl) (ht:tyOf ty t=some (.slice e s):=by exact rfl) (hx:jw l x=some u:=by exact rfl) (hu:u.cells=cs.toArray:=by exact rfl) (hcs:cs.length=s:=by exact rfl) (hs:0<s /\ s <= 1000:=by omega) (hz:(prog.info? e).bind (fun i=>i.zero.map fun _=>i.size)=some s:=by kernel_rfl): WL n ops Q (o :: rest) l w:=WL.aoh hg hd hn ho ht hx hu hcs hs hz h
theorem WL.empty {t e s:Nat}(hg:o.guard=none) (hd:o.dst=some d) (hn:Nat.blt d n.n=true) (ho:o.op=.buildSlice t 0 #[]) (ht:tyOf ty t=some (.slice e s)) (h:∀g w',jl w g w' e [] -> WL n ops Q rest ((d,.slice (some ⟨g,0,none⟩) 0 0) :: l) w'): WL n ops Q (o :: rest) l w :=
 WL.step hg hd hn (fun a _=>by
  obtain⟨hu,j5⟩:=m_.of mV ht;have hs:(sizeOf e).run prog w=.ok s w:=by
   cases hq:prog.info? e with
   | none=>rw[hq] at j5;cases j5
   | some q=>rw[hq] at j5;simp at j5;simp[sizeOf,typeInfo,hq,j5]
  unfold execOp;rw[ho];simp[Instr.buildSlice,run_underlying hu,hs,Instr.fill,newRow]
  rw[show(Array.range 0)=#[] from by decide];simp) (h _ _ (jl.mk' w e []))
theorem n_.zu (h:jl w g w' T cs) (h1:kj cs): n_ w' (fun b=>b=g) cs.length (.slice (some ⟨g,0,none⟩) 1 1) 1 cs :=
 ⟨iz,h1,_,1,rfl,af _,gZ,(fun h=>by cases h),fun _=>⟨g,0,rfl,h.blk.lt,rfl,CJ.Eo h.blk⟩⟩
theorem WL.snoc {s:Operand}{t e:TypeId}{z:α}{P:α -> List Value -> Prop}{v:Value}{k:List α}{y:α}(hg:o.guard=none) (hd:o.dst=some d) (hn:Nat.blt d n.n=true) (ho:o.op=.call { callee:=.builtin .append,args:=#[s,x],argTypes:=#[t,t]}) (E:lK prog t e m bytes) (hs:jw l s=some v) (iJ:jk e m z P O w v k) (hx:jw l x=some (.slice (some ⟨g,0,none⟩) 1 1)) (hf:h_ e w g cs) (h1:kj cs) (hc:cs.length=m) (hp:P y cs) (hb:(k.length+1)*bytes <= 140737488355328) (mj:k.length+1 <= 140737488355328) (h:∀v' w',jk e m z P (fun b=>O b \/ b=w.heap.size) w' v' (k++[y]) -> jv w v w' v' -> WL n ops Q rest ((d,v') :: l) w'): WL n ops Q (o :: rest) l w:=by
 obtain⟨lO,h2,h3,h4⟩:=iJ;have lU:n_ w (fun b=>b=g) m (.slice (some ⟨g,0,none⟩) 1 1) 1 cs:=⟨by rw[hc,Nat.one_mul],h1,_,1,rfl,af _,gZ,(fun h=>by cases h),fun _=>⟨g,0,rfl,hf.lt,rfl,CJ.Eo hf⟩⟩;refine WL.qO hg hd hn ho E hs h4 hx lU hb mj fun v' w' h5 h6=>h v' w' ?_ h6;exact jk.snoc h2 h3 hc hp h5
end K
open Go.ChangeShapes Go.WideShapes Go.ChangeAt
theorem Tryz.ownKnob:ownKnob prog.godebug=none:=by kernel_rfl
theorem Tryz.laid: laidOutB prog=true:=by kernel_rfl
theorem UA {x:Addr}{v:Value}(h:w.cell? x=some v): x.spot=none:=by
 unfold World.cell? at h
 split at h
 ·cases hs:x.spot with
  | none=>rfl
  | some _=>simp[hs] at h
 ·cases h
inductive V where
 | mk (k n s:Int) (t:ByteArray) (names:List ByteArray) (kids:List V)
namespace V
def k:V -> Int|.mk k _ _ _ _ _=>k
def n:V -> Int|.mk _ n _ _ _ _=>n
def s:V -> Int|.mk _ _ s _ _ _=>s
def t:V -> ByteArray|.mk _ _ _ t _ _=>t
def names:V -> List ByteArray|.mk _ _ _ _ l _=>l
def kids:V -> List V|.mk _ _ _ _ _ l=>l
end V
def lH:V:=.mk 0 0 0 ByteArray.empty [] []
def jz:ByteArray:=ByteArray.empty
def Bi (w:World) (v:Value) (l:List ByteArray):Prop :=
 ∃sp cap,v=.slice sp l.length cap /\ l.length <= cap /\ cap <= 9223372036854775807 /\ (∀j,j<l.length -> (l.getD j jz).size <= 140737488355328) /\
  (0<l.length -> ∃b o,sp=some ⟨b,o,none⟩ /\ b<w.heap.size /\ ∀j,j<l.length -> w.cell? ⟨b,o+j,none⟩=some (.string (l.getD j jz)))
theorem Bi.below {v:Value}{l:List ByteArray}(h:Bi w v l) (hb:iB w w'): Bi w' v l:=by
 obtain⟨sp,cap,h1,h2,h3,h4,h5⟩:=h;refine⟨sp,cap,h1,h2,h3,h4,fun h0=>?_⟩;obtain⟨b,o,e,iS,hr⟩:=h5 h0;exact⟨b,o,e,ak iS hb.size,fun j hj=>by rw[hb.cell (p:=⟨b,o+j,none⟩) iS];exact hr j hj⟩
def LW (P:V -> List Value -> Prop) (w:World) (v:Value) (l:List V):Prop :=
 ∃sp cap,v=.slice sp l.length cap /\ l.length <= cap /\ cap <= 9223372036854775807 /\
  (0<l.length -> ∃b o,sp=some ⟨b,o,none⟩ /\ b<w.heap.size /\ ∀j,j<l.length -> ∃cs,cs.length=6 /\ P (l.getD j lH) cs /\ w.rangeAt b (o+j*6) cs)
def kH:Nat -> World -> V -> List Value -> Prop
 | 0,_,_,_=>False
 | f+1,w,v,cs=>∃sn sk,cs=[Iq v.k,Iq v.n,Iq v.s,.string v.t,sn,sk] /\
   (Lit.int .i64 v.k).wf=true /\ (Lit.int .i64 v.n).wf=true /\ (Lit.int .i64 v.s).wf=true /\ v.t.size <= 140737488355328 /\ Bi w sn v.names /\ LW (kH f w) w sk v.kids
def Xq (f:Nat) (w:World) (v:Value) (l:List V):Prop:=LW (kH f w) w v l
theorem LW.below {P P':V -> List Value -> Prop}{v:Value}{l:List V}(h:LW P w v l) (hb:iB w w') (hP:∀x cs,P x cs -> P' x cs): LW P' w' v l:=by
 obtain⟨sp,cap,h1,h2,h3,h4⟩:=h;refine⟨sp,cap,h1,h2,h3,fun h0=>?_⟩;obtain⟨b,o,e,iS,hr⟩:=h4 h0;refine⟨b,o,e,ak iS hb.size,fun j hj=>?_⟩;obtain⟨cs,hc,hp,j6⟩:=hr j hj;exact⟨cs,hc,hP _ _ hp,fun i u hu=>by rw[hb.cell (p:=⟨b,o+j*6+i,none⟩) iS];exact j6 i u hu⟩
theorem kH.below (hb:iB w w'): ∀ {f:Nat}{v:V}{cs:List Value},kH f w v cs -> kH f w' v cs
 | 0,_,_,h=>h
 | _+1,_,_,⟨sn,sk,h1,h2,h3,h4,h5,h6,h7⟩=>⟨sn,sk,h1,h2,h3,h4,h5,h6.below hb,h7.below hb fun _ _ hp=>kH.below hb hp⟩
theorem kH.len {v:V}(h:kH f w v cs): cs.length=6:=by
 cases f with
 | zero=>exact h.elim
 | succ f=>obtain⟨_,_,rfl,_⟩:=h;rfl
def nU (s:ByteArray):Bool:=decide (1 <= s.size) && decide (s.size <= 40)
def risesB:List ByteArray -> Bool
 | []=>true
 | [_]=>true
 | a :: b :: l=>Op.bytesLess a.toList b.toList && risesB (b :: l)
def l_ (v:V):Bool:=v.names.all nU && risesB v.names && decide (v.names.length=v.kids.length)
def pB (v:V):Bool:=decide (v.n=0) && decide (v.s=0)
def k_ (v:V):Bool:=decide (v.names.length=0) && decide (v.kids.length=0)
def kO (v:V):Bool:=decide (v.t.size=0)
def nK (v:V):Bool :=
 if v.k=1 then pB v && k_ v && kO v
 else if v.k=2 then decide (0 <= v.n) && decide (v.n <= 1) && decide (v.s=0) && k_ v && kO v
 else if v.k=3 then decide (v.s=0) && k_ v && kO v
 else if v.k=4 then decide (1 <= v.s) && decide (v.s <= 18) && decide (¬v.n.tmod 10=0) && k_ v && kO v
 else if v.k=5 then decide (0 <= v.n) && decide (v.n <= 9007199254740992) && decide (v.s=0) && k_ v && kO v
 else if v.k=6 \/ v.k=7 then pB v && k_ v
 else if v.k=8 then pB v && decide (v.names.length=0) && kO v
 else if v.k=9 then pB v && kO v
 else false
def qu (v:V):Int :=
 if nK v=false then 3
 else if 16384<v.t.size \/ 200<v.kids.length then 5
 else if v.k=9 /\ l_ v=false then 3
 else 0
def firstBad:List Int -> Int
 | []=>0
 | e :: l=>if e=0 then firstBad l else e
def chk:Nat -> V -> Int
 | 0,_=>9
 | m+1,v=>if qu v=0 then firstBad (v.kids.map (chk m)) else qu v
theorem oT {l:List Int}: firstBad l=0 ↔ ∀e∈l,e=0:=by
 induction l with
 | nil=>simp[firstBad]
 | cons a l ih=>
  unfold firstBad
  by_cases h:a=0
  ·rw[if_pos h,ih];simp[h]
  ·rw[if_neg h];simp[h]
theorem qn {l:List Int}(hi:i<l.length) (h:∀j,j<i -> l.getD j 0=0) (hn:¬l.getD i 0=0): firstBad l=l.getD i 0:=by
 induction l generalizing i with
 | nil=>simp at hi
 | cons a l ih=>
  cases i with
  | zero=>unfold firstBad;rw[if_neg (by simpa using hn)];simp
  | succ i=>
   have h0:=h 0 gZ;simp only[al] at h0;unfold firstBad;rw[if_pos h0];simp only[ax] at hn ⊢;exact ih (by simpa using hi) (fun j hj=>by simpa using h (j+1) gZ) hn
theorem rj {l:List Int}(h:∀j,j<l.length -> l.getD j 0=0): firstBad l=0:=by
 rw[oT];intro e he;obtain⟨j,hj,rfl⟩:=bn he
 simpa[hj] using h j hj
theorem rD {v:V}(h:chk (m+1) v=0) (hj:j<v.kids.length): chk m (v.kids.getD j lH)=0:=by
 unfold chk at h
 by_cases hs:qu v=0
 ·rw[if_pos hs,oT] at h
  exact h _ (bg.2 ⟨v.kids[j],aN hj,by simp[hj]⟩)
 ·rw[if_neg hs] at h;exact(hs h).elim
theorem oQ {v:V}(h:chk (m+1) v=0): qu v=0:=by
 unfold chk at h
 by_cases hs:qu v=0
 ·exact hs
 ·rw[if_neg hs] at h;exact h
theorem pH (m:Nat) (l:List V) (j:Nat) (hj:j<l.length): (l.map (chk m)).getD j 0=chk m (l.getD j lH):=by simp[hj]
theorem Kh:∀ {l:List ByteArray},risesB l=true ↔ ∀i,i+1<l.length -> Op.bytesLess (l.getD i jz).toList (l.getD (i+1) jz).toList=true
 | []=>by simp[risesB]
 | [a]=>by simp[risesB]
 | a :: b :: l=>by
  unfold risesB;rw[aA,Kh (l:=b :: l)]
  constructor
  ·rintro⟨h1,h2⟩ i hi
   cases i with
   | zero=>simpa using h1
   | succ i=>simpa using h2 i (by simp at hi ⊢;omega)
  ·intro h
   exact⟨by simpa using h 0 iz,fun i hi=>by simpa using h (i+1) (by simp at hi ⊢;omega)⟩
namespace K
structure na (w0 w:World) (b:Value):Prop where
 below:iB w0 w
 own:∀g,b.ownBlock=some g -> w0.heap.size <= g
theorem na.grow {b b':Value}(h:na w0 w b) (g:jv w b w' b'): na w0 w' b':=⟨h.below.trans (g.old h.below.size h.own),g.own h.below.size h.own⟩
abbrev lW (v:V) (sn sk:Value):List Value:=[Iq v.k,Iq v.n,Iq v.s,.string v.t,sn,sk]
theorem kH.one {v:V}(h:kH f w v cs): kj cs:=by
 cases f with
 | zero=>exact h.elim
 | succ f=>
  obtain⟨sn,sk,rfl,-,-,-,-,⟨_,_,rfl,-⟩,⟨_,_,rfl,-⟩⟩:=h;intro u hu;simp at hu
  rcases hu with rfl|rfl|rfl|rfl|rfl|rfl<;>rfl
theorem jl.NQ {wk:World}{b vk:Value}{l:List Int}(h:jl w g w1 T cs) (hb:Bu w b l) (hg:jv w1 b wk vk): h_ T wk g cs :=
 h.blk.ij hg.1 ⟨by rw[h.size,h.eq];omega,fun e=>by have:=hb.lt _ e;rw[h.eq] at this;omega⟩
def uvF:Nat -> Nat -> List Int
 | 0,_=>[]
 | f+1,u=>if u<128 then[(u:Int)] else((u % 128+128:Nat):Int) :: uvF f (u / 128)
def jK (u:Nat):List Int:=uvF 10 u
def ug (v:Int):Nat:=if 0 <= v then(2*v).toNat else(-2*v - 1).toNat
def vA (s:ByteArray):List Int:=s.toList.map fun c=>(c.toNat:Int)
def kP (ky:V -> List Int) (st:Bool) (names:List ByteArray) (kids:List V) (j:Nat):List Int :=
 (if st then jK (names.getD j jz).size++vA (names.getD j jz) else[])++ky (kids.getD j lH)
def encV:Nat -> V -> List Int
  | 0, _=>[]
  | m+1, v=>v.k ::
    (if v.k=2 then[v.n] else if v.k=3 then jK (ug v.n) else if v.k=4 then jK (ug v.n)++[v.s] else if v.k=5 then jK v.n.toNat
     else if v.k=6 \/ v.k=7 then jK v.t.size++vA v.t
     else if v.k=8 \/ v.k=9 then jK v.kids.length++(List.range v.kids.length).flatMap (kP (encV m) (decide (v.k=9)) v.names v.kids) else[])
def Yk (l:List Int):Prop:=∀c∈l,0 <= c /\ c <= 255
theorem Sd {u:Nat}(h:128 <= u): uvF (f+1) u=((u % 128+128:Nat):Int) :: uvF f (u / 128):=by rw[uvF,if_neg gZ]
theorem WO {v:Int}(h:-9223372036854775808 <= v /\ v <= 9223372036854775807): ug v<18446744073709551616:=by unfold ug;split<;>omega
theorem sN (s:ByteArray): (vA s).length=s.size:=by
 unfold vA;rw[av,aD];rfl
end K
namespace K
theorem p6 {t:ByteArray}(h:t.size=0): t=jz:=by
 apply gP
 apply Array.eq_empty_of_size_eq_zero h
theorem X6 {v:V}(h:qu v=0):
  (v.k=1 /\ v=.mk 1 0 0 jz [] []) \/ (v.k=2 /\ v=.mk 2 v.n 0 jz [] [] /\ 0 <= v.n /\ v.n <= 1) \/ (v.k=3 /\ v=.mk 3 v.n 0 jz [] []) \/ (v.k=4 /\ v=.mk 4 v.n v.s jz [] [] /\ 1 <= v.s /\ v.s <= 18) \/
  (v.k=5 /\ v=.mk 5 v.n 0 jz [] [] /\ 0 <= v.n /\ v.n <= 9007199254740992) \/ ((v.k=6 \/ v.k=7) /\ v=.mk v.k 0 0 v.t [] [] /\ v.t.size <= 16384) \/
  (v.k=8 /\ v=.mk 8 0 0 jz [] v.kids /\ v.kids.length <= 200) \/ (v.k=9 /\ v=.mk 9 0 0 jz v.names v.kids /\ v.kids.length <= 200 /\ v.names.length=v.kids.length /\ ∀s∈v.names,s.size <= 40):=by
 obtain⟨k,n,s,t,names,kids⟩:=v;unfold qu at h
 by_cases h1:nK (.mk k n s t names kids)=false
 ·rw[if_pos h1] at h;cases h
 rw[if_neg h1] at h
 by_cases h2:16384<(V.mk k n s t names kids).t.size \/ 200<(V.mk k n s t names kids).kids.length
 ·rw[if_pos h2] at h;cases h
 rw[if_neg h2] at h
 by_cases h3:(V.mk k n s t names kids).k=9 /\ l_ (.mk k n s t names kids)=false
 ·rw[if_pos h3] at h;cases h
 have hf:nK (.mk k n s t names kids)=true:=by simpa using h1
 clear h h1;simp only[V.k,V.t,V.kids] at h2 h3;unfold nK at hf;simp only[V.k,V.n,V.s,V.t,V.names,V.kids]
 by_cases a1:k=1
 ·subst a1;left
  rw[if_pos (show(V.mk 1 n s t names kids).k=1 from rfl)] at hf;simp only[pB,k_,kO,aA,decide_eq_true_eq,bV] at hf;simp only[V.n,V.s,V.t,V.names,V.kids] at hf;obtain⟨⟨⟨rfl,rfl⟩,rfl,rfl⟩,ht⟩:=hf;exact⟨rfl,by rw[p6 ht]⟩
 rw[if_neg (show ¬(V.mk k n s t names kids).k=1 from a1)] at hf;right
 by_cases a2:k=2
 ·subst a2;left
  rw[if_pos (show(V.mk 2 n s t names kids).k=2 from rfl)] at hf;simp only[k_,kO,aA,decide_eq_true_eq,bV] at hf;simp only[V.n,V.s,V.t,V.names,V.kids] at hf;obtain⟨⟨⟨⟨b1,b2⟩,rfl⟩,rfl,rfl⟩,ht⟩:=hf;exact⟨rfl,by rw[p6 ht],b1,b2⟩
 rw[if_neg (show ¬(V.mk k n s t names kids).k=2 from a2)] at hf;right
 by_cases a3:k=3
 ·subst a3;left
  rw[if_pos (show(V.mk 3 n s t names kids).k=3 from rfl)] at hf;simp only[k_,kO,aA,decide_eq_true_eq,bV] at hf;simp only[V.s,V.t,V.names,V.kids] at hf;obtain⟨⟨rfl,rfl,rfl⟩,ht⟩:=hf;exact⟨rfl,by rw[p6 ht]⟩
 rw[if_neg (show ¬(V.mk k n s t names kids).k=3 from a3)] at hf;right
 by_cases a4:k=4
 ·subst a4;left
  rw[if_pos (show(V.mk 4 n s t names kids).k=4 from rfl)] at hf;simp only[k_,kO,aA,decide_eq_true_eq,bV] at hf;simp only[V.n,V.s,V.t,V.names,V.kids] at hf;obtain⟨⟨⟨⟨b1,b2⟩,-⟩,rfl,rfl⟩,ht⟩:=hf;exact⟨rfl,by rw[p6 ht],b1,b2⟩
 rw[if_neg (show ¬(V.mk k n s t names kids).k=4 from a4)] at hf;right
 by_cases a5:k=5
 ·subst a5;left
  rw[if_pos (show(V.mk 5 n s t names kids).k=5 from rfl)] at hf;simp only[k_,kO,aA,decide_eq_true_eq,bV] at hf;simp only[V.n,V.s,V.t,V.names,V.kids] at hf;obtain⟨⟨⟨⟨b1,b2⟩,rfl⟩,rfl,rfl⟩,ht⟩:=hf;exact⟨rfl,by rw[p6 ht],b1,b2⟩
 rw[if_neg (show ¬(V.mk k n s t names kids).k=5 from a5)] at hf;right
 by_cases a6:k=6 \/ k=7
 ·left
  rw[if_pos (show(V.mk k n s t names kids).k=6 \/ (V.mk k n s t names kids).k=7 from a6)] at hf;simp only[pB,k_,aA,decide_eq_true_eq,bV] at hf;simp only[V.n,V.s,V.names,V.kids] at hf;obtain⟨⟨rfl,rfl⟩,rfl,rfl⟩:=hf;exact⟨a6,rfl,gZ⟩
 rw[if_neg (show ¬((V.mk k n s t names kids).k=6 \/ (V.mk k n s t names kids).k=7) from a6)] at hf;right
 by_cases a8:k=8
 ·subst a8;left
  rw[if_pos (show(V.mk 8 n s t names kids).k=8 from rfl)] at hf;simp only[pB,kO,aA,decide_eq_true_eq,bV] at hf;simp only[V.n,V.s,V.t,V.names] at hf;obtain⟨⟨⟨rfl,rfl⟩,rfl⟩,ht⟩:=hf;exact⟨rfl,by rw[p6 ht],gZ⟩
 rw[if_neg (show ¬(V.mk k n s t names kids).k=8 from a8)] at hf;right
 by_cases a9:k=9
 ·subst a9
  rw[if_pos (show(V.mk 9 n s t names kids).k=9 from rfl)] at hf;simp only[pB,kO,aA,decide_eq_true_eq] at hf;simp only[V.n,V.s,V.t] at hf;obtain⟨⟨rfl,rfl⟩,ht⟩:=hf;have h4:l_ (.mk 9 0 0 t names kids)=true:=by
   cases hb:l_ (.mk 9 0 0 t names kids) with
   | true=>rfl
   | false=>exact(h3 ⟨rfl,hb⟩).elim
  unfold l_ at h4;simp only[aA,bT,decide_eq_true_eq] at h4;refine⟨rfl,by rw[p6 ht],gZ,h4.2,fun s hs=>?_⟩;have:=h4.1.1 s hs;unfold nU at this;simp at this
  omega
 ·rw[if_neg (show ¬(V.mk k n s t names kids).k=9 from a9)] at hf;cases hf
def Rng:Nat -> V -> Prop
 | 0,_=>False
 | f+1,v=>(-9223372036854775808 <= v.n /\ v.n <= 9223372036854775807) /\ ∀x∈v.kids,Rng f x
theorem SL {v x:V}(h:chk (m+1) v=0) (hx:x∈v.kids): chk m x=0:=by
 obtain⟨j,hj,rfl⟩:=bn hx;have:=rD h hj
 rwa [ag,ah hj] at this
variable {n:NN}{Q:Exit -> Act -> World -> Prop}{l:Env}{w w':World}{ops:Array Oper}{o:Oper}{rest:List Oper}{d:Nat}
def EM (s:ByteArray) (cs:List Value):Prop:=cs=[.string s] /\ s.size <= 140737488355328
def jE (O:Nat -> Prop):Nat -> World -> V -> List Value -> Prop
 | 0,_,_,_=>False
 | f+1,w,v,cs=>∃sn sk,cs=[Iq v.k,Iq v.n,Iq v.s,.string v.t,sn,sk] /\
   (Lit.int .i64 v.k).wf=true /\ (Lit.int .i64 v.n).wf=true /\ (Lit.int .i64 v.s).wf=true /\ v.t.size <= 140737488355328 /\ lA 1 jz EM O w sn v.names /\ lA 6 lH (jE O f w) O w sk v.kids
theorem jE.ij {K:Nat -> Prop}(hk:ib K w w') (hK:∀b,O b -> b<w.heap.size -> K b) (hO:∀b,O b -> O' b): ∀ {f:Nat}{v:V}{cs:List Value},jE O f w v cs -> jE O' f w' v cs
 | 0,_,_,h=>h
 | _+1,_,_,⟨sn,sk,h1,h2,h3,h4,h5,h6,h7⟩=>⟨sn,sk,h1,h2,h3,h4,h5,h6.ij hk hK hO fun _ _ h=>h,h7.ij hk hK hO fun _ _ h=>jE.ij hk hK hO h⟩
theorem jE.mono (hO:∀b,O b -> O' b) {v:V}(h:jE O f w v cs): jE O' f w v cs:=h.ij (ib.refl (fun _=>True) w) (fun _ _ _=>trivial) hO
theorem lA.there {z:α}{P:α -> List Value -> Prop}{v:Value}{l:List α}(h:lA m z P O w v l) (hP:∀x cs,P x cs -> P' x cs): lA m z P' (fun b=>O b /\ b<w.heap.size) w v l:=by
 obtain⟨sp,cap,h1,h2,h3,h5,h4⟩:=h;refine⟨sp,cap,h1,h2,h3,h5,fun h0=>?_⟩;obtain⟨b,o,e,iS,Qi,hr⟩:=h4 h0;refine⟨b,o,e,iS,⟨Qi,iS⟩,fun j hj=>?_⟩;obtain⟨cs,hc,hp,j6⟩:=hr j hj;exact⟨cs,hc,hP _ _ hp,j6⟩
theorem jE.there: ∀ {f:Nat}{v:V}{cs:List Value},jE O f w v cs -> jE (fun b=>O b /\ b<w.heap.size) f w v cs
 | 0,_,_,h=>h
 | _+1,_,_,⟨sn,sk,h1,h2,h3,h4,h5,h6,h7⟩=>⟨sn,sk,h1,h2,h3,h4,h5,h6.there fun _ _ h=>h,h7.there fun _ _ h=>jE.there h⟩
theorem lA.strs {v:Value}{l:List ByteArray}(h:lA 1 jz EM O w v l): Bi w v l:=by
 obtain⟨sp,cap,h1,h2,h3,-,h4⟩:=h;refine⟨sp,cap,h1,h2,h3,fun j hj=>?_,fun h0=>?_⟩
 ·obtain⟨b,o,-,-,-,hr⟩:=h4 gZ
  obtain⟨cs,-,⟨-,hp⟩,-⟩:=hr j hj;exact hp
 ·obtain⟨b,o,e,hb,-,hr⟩:=h4 h0
  refine⟨b,o,e,hb,fun j hj=>?_⟩;obtain⟨cs,-,⟨rfl,-⟩,j6⟩:=hr j hj;have:=j6 0 _ rfl;rw[cP] at this;exact this
theorem jE.td: ∀ {f:Nat}{v:V}{cs:List Value},jE O f w v cs -> kH f w v cs
 | 0,_,_,h=>h
 | _+1,_,_,⟨sn,sk,h1,h2,h3,h4,h5,h6,h7⟩=>⟨sn,sk,h1,h2,h3,h4,h5,h6.strs,by
   obtain⟨sp,cap,k1,k2,k3,-,k4⟩:=h7;refine⟨sp,cap,k1,k2,k3,fun h0=>?_⟩;obtain⟨b,o,e,hb,-,hr⟩:=k4 h0;refine⟨b,o,e,hb,fun j hj=>?_⟩;obtain⟨cs,hc,hp,j6⟩:=hr j hj;exact⟨cs,hc,jE.td hp,j6⟩⟩
theorem jE.len {v:V}(h:jE O f w v cs): cs.length=6:=h.td.len
theorem jE.one {v:V}(h:jE O f w v cs): kj cs:=kH.one h.td
theorem qk:∀(f u:Nat),(uvF f u).length <= f
 | 0,_=>by simp[uvF]
 | f+1,u=>by
  unfold uvF
  split
  ·simp
  ·simp[qk f (u / 128)]
theorem afc: ∀x:Nat,x<256 -> bits .or .u8 (x:Int) 128=((x % 128+128:Nat):Int):=by decide +kernel
theorem afU (u:Nat) (h:u<18446744073709551616): bits .and .u64 (u:Int) 127=((u % 128:Nat):Int):=by
 have h:=bits_and_u64_nat u 127 h gZ;have e:u &&& 127=u % 128:=Nat.and_two_pow_sub_one_eq_mod u 7;rw[e] at h;exact h
theorem aix (u:Nat): (u:Int) / ((2 ^ min 7 IntKind.u64.bits:Nat):Int)=((u / 128:Nat):Int):=by
 rw[show((2 ^ min 7 IntKind.u64.bits:Nat):Int)=128 from rfl];omega
theorem Fm (u:Nat) (hu:u<18446744073709551616) (w:World):
  Calls prog 147 #[.int .u64 u] w fun e w'=>∃b,e=.returned b /\ Bu w' b (jK u) /\ iB w w' /\ ∀g,b.ownBlock=some g -> w.heap.size <= g:=by
 refine iY func147 ntmps147 ?_;have h1:u<2*128 ^ 9:=gZ;have h2:jK u=[]++uvF (9+1) u:=by rw[aH];rfl
 refine gY ?_;refine WC.loop (fun i:Nat × Nat × List Int × Value=>[(0,.int .u64 i.2.1),(3,i.2.2.2)])
  (fun i w'=>i.2.1<2*128 ^ i.1 /\ i.1 <= 9 /\ jK u=i.2.2.1++uvF (i.1+1) i.2.1 /\ i.2.2.1.length <= 9 /\ Bu w' i.2.2.2 i.2.2.1 /\ jv w (.slice none 0 0) w' i.2.2.2) (fun i=>i.1) (9,u,[],.slice none 0 0) iW ⟨h1,af 9,h2,aw 9,Bu.nil w,jv.refl _ _⟩ ?_
 rintro⟨f,c,A,v⟩ wr ⟨hc,hf,hA,hl,hb,hg⟩;simp only at hc hf hA hl hb hg ⊢;have hle:(128:Nat) ^ f <= 128 ^ 9:=fh j9 hf
 by_cases h:c<128
 ·have hw:IntKind.u8.wrap (c:Int)=(c:Int):=by rw[bB];omega
  have oe:uvF (f+1) c=[(c:Int)]:=by rw[uvF,if_pos h]
  refine gY ?_;refine WL.push rfl rfl rfl rfl rfl rfl rfl rfl rfl rfl rfl (fun _=>rfl) rfl hb (by simp only[aj,aF];omega) fun b2 w2 jg lN=>?_;refine gY ?_;have mP:=hg.trans lN;refine g_ ⟨b2,rfl,?_,mP.old (af _) (fun g h=>by cases h),mP.own (af _) (fun g h=>by cases h)⟩;rw[hw] at jg;rw[hA,oe];exact jg
 ·obtain⟨f,rfl⟩:∃f',f=f'+1:=⟨f - 1,by
   cases f with
   | zero=>simp at hc;omega
   | succ f=>rfl⟩
  have rz:uvF (f+1+1) c=((c % 128+128:Nat):Int) :: uvF (f+1) (c / 128):=Sd gZ;have hw:bits .or .u8 (IntKind.u8.wrap (c:Int)) 128=((c % 128+128:Nat):Int):=by
   have:=afc (c % 256) gZ;rw[bB,show(c:Int) % 256=((c % 256:Nat):Int) by omega,this];omega
  refine gY ?_;refine WL.push rfl rfl rfl rfl rfl rfl rfl rfl rfl rfl rfl (fun _=>rfl) rfl hb (by simp only[aj,aF];omega) fun b2 w2 jg lN=>?_;rw[hw] at jg;refine gY ?_;refine WQ.again (f,c / 128,A++[((c % 128+128:Nat):Int)],b2) ⟨congrArg (fun z=>some (Value.int .u64 z)) (aix c),rfl,trivial⟩
   ⟨by rw[dg] at hc;show c / 128<2*128 ^ f;omega,by show f <= 9;omega,by show jK u=A++[((c % 128+128:Nat):Int)]++uvF (f+1) (c / 128);rw[hA,rz];simp,?_,jg,hg.trans lN⟩ (by show f<f+1;omega)
  show(A++[((c % 128+128:Nat):Int)]).length <= 9
  have:=congrArg List.length hA;rw[aa,rz,aj] at this;have yE:(jK u).length <= 10:=qk 10 u;have h1:1 <= (uvF (f+1) (c / 128)).length:=by unfold uvF;split<;>simp
  rw[aa];simp only[aj,aF];omega
theorem kG (g:Nat -> List Int) (i:Nat): (List.range (i+1)).flatMap g=(List.range i).flatMap g++g i:=by
 rw[dE,ai];simp
theorem tW (g:Nat -> List Int) {n:Nat}(h:i <= n): ((List.range i).flatMap g).length <= ((List.range n).flatMap g).length:=by
 induction n with
 | zero=>
  obtain rfl:i=0:=gZ;exact af _
 | succ n ih=>
  rcases aO n i with h'|h'
  ·obtain rfl:i=n+1:=gZ
   exact af _
  ·rw[kG,aa];have:=ih h';omega
theorem qI {v:V}(h:qu v=0): (1 <= v.k /\ v.k <= 9) /\ (v.k=2 -> 0 <= v.n /\ v.n <= 1) /\ (v.k=3 -> v.s=0) /\ (v.k=4 -> 1 <= v.s /\ v.s <= 18 /\ ¬v.n.tmod 10=0) /\ (v.k=5 -> 0 <= v.n /\ v.n <= 9007199254740992) /\
  v.kids.length <= 200 /\ v.t.size <= 16384 /\ (v.k=9 -> v.names.length=v.kids.length /\ ∀s∈v.names,s.size <= 40):=by
 unfold qu at h
 by_cases h1:nK v=false
 ·rw[if_pos h1] at h;cases h
 rw[if_neg h1] at h
 by_cases h2:16384<v.t.size \/ 200<v.kids.length
 ·rw[if_pos h2] at h;cases h
 rw[if_neg h2] at h
 by_cases h3:v.k=9 /\ l_ v=false
 ·rw[if_pos h3] at h;cases h
 have hf:nK v=true:=by simpa using h1
 clear h h1;refine⟨?_,?_,?_,?_,?_,gZ,gZ,?_⟩
 ·unfold nK at hf
  by_cases a1:v.k=1
  ·omega
  by_cases a2:v.k=2
  ·omega
  by_cases a3:v.k=3
  ·omega
  by_cases a4:v.k=4
  ·omega
  by_cases a5:v.k=5
  ·omega
  by_cases a6:v.k=6 \/ v.k=7
  ·omega
  by_cases a8:v.k=8
  ·omega
  by_cases a9:v.k=9
  ·omega
  rw[if_neg a1,if_neg a2,if_neg a3,if_neg a4,if_neg a5,if_neg a6,if_neg a8,if_neg a9] at hf;cases hf
 ·intro e;unfold nK at hf;simp[e] at hf;omega
 ·intro e;unfold nK at hf;simp[e] at hf;omega
 ·intro e;unfold nK at hf;simp[e] at hf;exact⟨hf.1.1.1.1,hf.1.1.1.2,hf.1.1.2⟩
 ·intro e;unfold nK at hf;simp[e] at hf;omega
 ·intro e
  have h4:l_ v=true:=by
   cases hb:l_ v with
   | true=>rfl
   | false=>exact(h3 ⟨e,hb⟩).elim
  unfold l_ at h4;simp only[aA,bT,decide_eq_true_eq] at h4;refine⟨h4.2,fun s hs=>?_⟩;have:=h4.1.1 s hs;unfold nU at this;simp at this
  omega
theorem ZG (x:Nat) (h:x<18446744073709551616): x ^^^ 18446744073709551615=18446744073709551615 - x:=by
 have e:=congrArg BitVec.toNat (BitVec.xor_allOnes (x:=BitVec.ofNat 64 x));rw[BitVec.toNat_xor,BitVec.toNat_not,BitVec.toNat_ofNat,BitVec.toNat_allOnes,Nat.mod_eq_of_lt gZ] at e
 simpa using e
theorem aeq (v:Int) (h:-9223372036854775808 <= v /\ v <= 9223372036854775807):
  bits .xor .u64 (IntKind.u64.wrap (IntKind.i64.wrap (v*((2 ^ min 1 IntKind.i64.bits:Nat):Int)))) (IntKind.u64.wrap (v / ((2 ^ min 63 IntKind.i64.bits:Nat):Int)))=ug v:=by
 rw[show((2 ^ min 1 IntKind.i64.bits:Nat):Int)=2 from rfl,show((2 ^ min 63 IntKind.i64.bits:Nat):Int)=9223372036854775808 from rfl];unfold ug
 by_cases hv:0 <= v
 ·rw[if_pos hv,show v / 9223372036854775808=0 by omega,show IntKind.u64.wrap 0=((0:Nat):Int) by rw[aW];omega,
   show IntKind.u64.wrap (IntKind.i64.wrap (v*2))=(((2*v).toNat:Nat):Int) by rw[aW,cV];omega,bits_xor_u64_nat _ _ gZ gZ,Nat.xor_zero]
 ·rw[if_neg hv,show v / 9223372036854775808 = -1 by omega,show IntKind.u64.wrap (-1)=((18446744073709551615:Nat):Int) by rw[aW];omega,
   show IntKind.u64.wrap (IntKind.i64.wrap (v*2))=(((2*v+18446744073709551616).toNat:Nat):Int) by rw[aW,cV];omega,bits_xor_u64_nat _ _ gZ gZ,ZG _ gZ]
  omega
theorem Q7 (v:Int) (h:-9223372036854775808 <= v /\ v <= 9223372036854775807) (w:World): Calls prog 159 #[Iq v] w fun e w'=>e=.returned (.int .u64 (ug v:Nat)) /\ w'=w:=by
 refine iY func159 ntmps159 ?_;have hz:=aeq v h;generalize (ug v:Nat)=z at hz ⊢;refine ku ?_;refine iA ?_;refine ku ?_;refine iA ?_;refine iA ?_;refine iA ?_;refine iA ?_;refine iA ?_;refine iA ?_;refine iA ?_;refine iA ?_;refine ku ?_;exact g_ ⟨congrArg (fun z=>Ending.returned (Value.int .u64 z)) hz,rfl⟩
theorem tU {u:Nat}{v:Value}{l:List Int}(hu:u<18446744073709551616) (hb:Bx bb w v l) (hl:l.length <= 70368744177664):
  Calls prog 158 #[.int .u64 u,iF bb] w fun e w'=>e=.returned (.tuple #[]) /\ ∃v',Bx bb w' v' (l++jK u) /\ nX bb w v w' v':=by
 refine iY gk ntmps158 ?_;refine gY ?_;refine WC.drawn 4 (fun wx=>h_ 158 wx bb [v]) fun w2 qY=>?_;have jg:=hb.below (qY.below _);have hS:=jg.blk;have sT:=(nX.refl bb w v).below (qY.below _);have OD:(jK u).length <= 10:=qk 10 u;refine ik 0 [3,4] (fun wx hx=>hx.cell 0 iz) hS ?_;refine iq [1] hS ?_;refine iI 2 ?_;refine il func147 (Fm u hu w2) ?_;rintro e w3 ⟨b3,rfl,jF,k3,g3⟩;refine⟨_,rfl,?_⟩;have tu:=jg.below k3;refine WL.nil (WQ.dk (.inr tu.blk) ?_);refine iI 3 ?_;refine WL.app rfl rfl rfl rfl rfl tu.bu rfl jF.sl gZ fun b4 w4 lD ot=>?_;obtain⟨o5,wD,HN⟩:=tu.put lD ot;refine km o5 ?_;refine iI 4 ?_;refine iD (hv:=lD.Ak) (o5.cell 0 iz) (o5.free 0) ?_;refine iO ?_;refine im ?_;exact WQ.EE rfl ⟨rfl,b4,wD,(sT.below k3).trans HN⟩
section
variable {n:Nat}{l:Env}{w:World}{fn:Func}{R:Ending -> World -> Prop}
end
variable {B rb:Nat}{w:World}{l:List Int}{e:Int}
theorem ib.setRow {K:Nat -> Prop}{a:World}(h:ib K a w) (hg:¬K g) (cs:Array Value): ib K a (w.setRow g cs) :=
 ⟨h.os,h.tape,h.output,by simpa using h.size,fun k hk=>(setRow_other w g k cs (fun e=>hg (e ▸ hk))).trans (h.block k hk)⟩
theorem wf_i64 {x:Int}(h:-9223372036854775808 <= x /\ x <= 9223372036854775807): (Lit.int .i64 x).wf=true:=by
 simp[Lit.wf,IntKind.min,IntKind.max,IntKind.bits,IntKind.signed];omega
theorem yN {k n s:Int}{t:ByteArray}(hk:0 <= k /\ k <= 255) (hn:-9223372036854775808 <= n /\ n <= 9223372036854775807) (hs:0 <= s /\ s <= 255) (ht:t.size <= 140737488355328):
  jE O (f+1) w (.mk k n s t [] []) [Iq k,Iq n,Iq s,.string t,.slice none 0 0,.slice none 0 0] :=
 ⟨_,_,rfl,wf_i64 (by show -9223372036854775808 <= k /\ k <= _;omega),wf_i64 hn,wf_i64 (by show -9223372036854775808 <= s /\ s <= _;omega),ht,lA.nil _ _ _ _ _,lA.nil _ _ _ _ _⟩
section
variable {rb vb f:Nat}{k:Int}{w0 w w':World}{ns:List ByteArray}{ks:List V}{sn sk sn' sk':Value}{q:Nat -> Prop}
end
theorem Pn: lK prog 23 25 6 88:=lK.mk' (z:=.agg #[Iq 0,Iq 0,Iq 0,.string ByteArray.empty,.slice none 0 0,.slice none 0 0]) underlying23 (by kernel_rfl) rfl gZ
theorem WW: lK prog 22 9 1 16:=lK.mk' (z:=.string ByteArray.empty) underlying22 (by kernel_rfl) rfl gZ
section
variable {n:Nat}{l:Env}{w:World}{fn:Func}{R:Ending -> World -> Prop}
theorem WQ.AH {p q:Nat}{x:Value}(hr:fn.results=#[.cell p y9,.tmp q]) (hl:look l p=some (iF g)) (hq:look l q=some x) (ht:cellsN (tyOf ty y9)=some m) (hm:cs.length=m) (hb:h_ T w g cs) (h:R (.returned (.tuple #[.agg cs.toArray,x])) w): WQ ⟨kn,[],md⟩ (bodyPost prog fn R) .ret l w :=
 ⟨fun a ha=>⟨ha.defers,_,by
  obtain⟨_,hu,VT,j5⟩:=rK mV ht;have hp:=ha.getD hl;have hx:=ha.getD hq;simp only[bS] at hp hx;have:=eA (P:=prog) w g 0 y9 cs _ (h_.rangeAt hb) hu VT (by rw[j5,hm]);simp[results,hr,hp,hx,asAddr,this],h⟩⟩
end
section
variable {n:NN}{Q:Exit -> Act -> World -> Prop}{l:Env}{w:World}{ops:Array Oper}{d:Nat}{S:World -> Prop}{m fuel:Nat}{iw:Array Bool}
theorem WD.build {t:Nat}{parts:List (Nat × Operand)}(cells:List Value) (i:Nat) (hi:ops[i]? = some oi) (hs:uw ops iw i m=true) (hd:oi.dst=some d) (hn:Nat.blt d n.n=true) (hQ:Passes Q) (hw:wants ops l oi=some true) (ho:oi.op=.build t parts.toArray) (hp:evlParts l parts=some ps) (hf:prog.built t ps=some cells.toArray) (hS:iw.getD m false=true \/ S w) (h:WD n ops Q S m fuel (iw.setIfInBounds i true) ((d,.agg cells.toArray) :: l) w): WD n ops Q S m (fuel+1) iw l w :=
 WD.first i hi hs hd hn hQ (fun a ha=>.inl ⟨m0 ha hw,fun w _=>by
  unfold execOp;rw[ho];have:=run_build (P:=prog) w t (parts.toArray.map fun(i,x)=>(i,a.eval x)) cells.toArray (by
   rw[show(parts.toArray.map fun(x:Nat × Operand)=>(x.1,a.eval x.2)).toList=ps by rw[dZ];exact rA ha hp];exact hf)
  simp only[bA,this,bm]
  rfl⟩) hS h
end
def zV:V:=.mk 0 0 0 jz [] []
def iy:List Value:=[Iq 0,Iq 0,Iq 0,.string ByteArray.empty,.slice none 0 0,.slice none 0 0]
theorem mD (O:Nat -> Prop) (f:Nat) (w:World): jE O (f+1) w zV iy:=yN (k:=0) (n:=0) (s:=0) (t:=jz) gZ gZ gZ j9
section
variable {α β:Type}{l l1 l2:List Int}{e e1 e2:Int}
end
end K
namespace Vl
theorem qy (s:ByteArray) (w:World): Calls prog 160 #[.string s] w fun e w'=>e=.returned (.bool (nU s)) /\ w=w':=by
 by_cases h1:1 <= s.size
 ·have yY:(1:Int) <= s.size:=gZ
  go_enter func160,ntmps160
  go_wp2
  go_ret
  exact⟨by simp[nU,h1];omega,rfl⟩
 ·have yY:decide ((1:Int) <= s.size)=false:=decide_eq_false gZ
  go_enter func160,ntmps160
  go_wp2
  go_ret
  exact⟨by simp[nU,h1],rfl⟩
theorem KC:∀(a p:List UInt8),(Op.bytesLess a p || a == p) = !Op.bytesLess p a
 | [],[]=>rfl
 | [],_ :: _=>by simp[Op.bytesLess]
 | _ :: _,[]=>by simp[Op.bytesLess]
 | x :: a,y :: p=>by
  have ih:=KC a p;unfold Op.bytesLess;rcases dJ x.toNat y.toNat with h|h|h
  ·have h1:=bF.2 h
   have h2:¬y<x:=fun e=>by have:=bF.1 e;omega
   have h3:¬y=x:=fun e=>by subst e;omega
   simp[h1,h2,h3]
  ·obtain rfl:x=y:=cL h
   simpa using ih
  ·have h1:=bF.2 h
   have h2:¬x<y:=fun e=>by have:=bF.1 e;omega
   have h3:¬x=y:=fun e=>by subst e;omega
   simp[h1,h2,h3]
theorem yf {b b':Bool}(h:b=b'): Ending.returned (.bool b)=Ending.returned (.bool b'):=by rw[h]
abbrev lW (v:V) (sn sk:Value):List Value:=[Iq v.k,Iq v.n,Iq v.s,.string v.t,sn,sk]
def Gb (l:List ByteArray) (i:Nat):Bool:=nU (l.getD i jz) && (decide (i=0) || Op.bytesLess (l.getD (i - 1) jz).toList (l.getD i jz).toList)
theorem AG (v:V): l_ v=true ↔ (∀i,i<v.names.length -> Gb v.names i=true) /\ v.names.length=v.kids.length:=by
 unfold l_;rw[aA,aA,Kh,bT,decide_eq_true_iff,and_congr_left_iff];intro _
 constructor
 ·rintro⟨h1,h2⟩ i hi
  unfold Gb;rw[aA,ey,decide_eq_true_iff];refine⟨h1 _ (by simp[hi]),?_⟩;cases i with
  | zero=>exact .inl rfl
  | succ i=>exact .inr (h2 i hi)
 ·intro h
  constructor
  ·intro x hx
   obtain⟨j,hj,rfl⟩:=bn hx;have:=h j hj;unfold Gb at this;rw[aA] at this
   simpa[hj] using this.1
  ·intro i hi
   have:=h (i+1) hi;unfold Gb at this;rw[aA,ey,decide_eq_true_iff] at this;exact this.2.resolve_left gZ
def jm (k n s:Int) (B P E N0:Bool):Bool :=
 if k=1 then B && P && E
 else if k=2 then decide (n / 2=0) && decide (s=0) && P && E
 else if k=3 then decide (s=0) && P && E
 else if k=4 then decide (1 <= s) && decide (s <= 18) && decide (¬n.tmod 10=0) && P && E
 else if k=5 then decide (0 <= n) && decide (n <= 9007199254740992) && decide (s=0) && P && E
 else if k=6 \/ k=7 then B && P
 else if k=8 then B && N0 && E
 else if k=9 then B && E
 else false
theorem FJ (v:V): nK v=jm v.k v.n v.s (pB v) (k_ v) (kO v) (decide (v.names.length=0)):=by
 have h:(decide (0 <= v.n) && decide (v.n <= 1))=decide (v.n / 2=0):=by
  by_cases h:v.n / 2=0
  ·simp[h];omega
  ·rw[decide_eq_false h,gu,decide_eq_false_iff_not,decide_eq_false_iff_not];omega
 unfold nK jm;rw[h]
theorem kH.open {v:V}(h:kH f w v cs):
  ∃np nc kp kc,cs=[Iq v.k,Iq v.n,Iq v.s,.string v.t,.slice np v.names.length nc,.slice kp v.kids.length kc] /\
   (-9223372036854775808 <= v.n /\ v.n <= 9223372036854775807) /\ v.t.size <= 140737488355328 /\ v.names.length <= nc /\ nc <= 9223372036854775807 /\ v.kids.length <= kc /\ kc <= 9223372036854775807:=by
 cases f with
 | zero=>exact h.elim
 | succ f=>
  obtain⟨sn,sk,rfl,-,hn,-,ht,⟨np,nc,rfl,nl,Iu,-⟩,⟨kp,kc,rfl,kl,kc2,-⟩⟩:=h;refine⟨np,nc,kp,kc,rfl,?_,ht,nl,Iu,kl,kc2⟩;simp[Lit.wf,IntKind.min,IntKind.max,IntKind.bits,IntKind.signed] at hn
  omega
end Vl
open K
namespace Vl
theorem ae4 (v:V): (v.t.toList == (ByteArray.mk #[]).toList)=kO v:=by
 have h0:(ByteArray.mk #[]).toList=[]:=by decide +kernel
 have hl:v.t.toList.length=v.t.size:=by rw[aD];rfl
 rw[h0];unfold kO;cases h:v.t.toList with
 | nil=>rw[h] at hl;simp at hl;simp[<- hl]
 | cons a r=>rw[h] at hl;simp at hl;simp[<- hl]
theorem aeT (s:ByteArray) (w:World): Calls prog 160 #[.string s] w fun e w'=>e=.returned (.bool (nU s)) /\ w=w':=by
 refine iY func160 ntmps160 ?_
 by_cases h1:(1:Int) <= s.size
 ·refine gY ?_
  exact WQ.uT rfl rfl ⟨yf (by unfold nU;rw[decide_eq_true (show 1 <= s.size by omega),fS];exact cq.2 gZ),rfl⟩
 ·refine gY ?_
  exact WQ.uT rfl rfl ⟨yf (by unfold nU;rw[decide_eq_false gZ];rfl),rfl⟩
abbrev vT:Nat:=25
theorem aby {v:V}(hv:kH (f+1) w v cs): Calls prog 149 #[.agg cs.toArray] w fun e w'=>e=.returned (.bool (l_ v)) /\ iB w w':=by
 obtain⟨sn,sk,rfl,-,-,-,-,⟨np,nc,rfl,nl,Iu,xI,nr⟩,⟨sp,cap,rfl,-⟩⟩:=hv;refine iY (args:=[.agg (lW v (.slice np v.names.length nc) (.slice sp v.kids.length cap)).toArray]) func149 ntmps149 ?_;refine gY ?_;refine iC fun g w1 hf=>?_;have hR:h_ vT w1 g (lW v (.slice np v.names.length nc) (.slice sp v.kids.length cap)):=hf.blk;have b1:=hf.below;clear hf;have c4:w1.cell? ⟨g,4,none⟩=some (.slice np v.names.length nc):=hR.cell 4 iz;have c5:w1.cell? ⟨g,5,none⟩=some (.slice sp v.kids.length cap):=hR.cell 5 iz;have E_:=AG v;refine iu ?_;refine WC.loop (fun i:Nat=>[(1,iF g),(6,.slice np v.names.length nc),(7,Iq v.names.length),(8,Iq i)]) (fun i w'=>w1=w' /\ i <= v.names.length /\ ∀j,j<i -> Gb v.names j=true) (fun i=>v.names.length - i) 0 iW ⟨rfl,aw _,fun j hj=>absurd hj gZ⟩ ?_;rintro i _ ⟨rfl,hi,j8⟩
 by_cases o8:i<v.names.length
 ·obtain⟨nb,no,rfl,tj,FI⟩:=nr gZ
  have rC:=(b1.cell (p:=⟨nb,no+i,none⟩) tj).trans (FI i o8);have Et:=(b1.cell (p:=⟨nb,no+(i - 1),none⟩) tj).trans (FI (i - 1) gZ);have hnz:=xI i o8;clear FI nr xI;have kK:Gb v.names i=(nU (v.names.getD i jz) && (decide (i=0) || Op.bytesLess (v.names.getD (i - 1) jz).toList (v.names.getD i jz).toList)):=rfl;have ya:=KC (v.names.getD i jz).toList (v.names.getD (i - 1) jz).toList;have bad:Gb v.names i=false -> l_ v=false:=fun h=>by
   cases hf:l_ v with
   | false=>rfl
   | true=>have:=(E_.1 hf).1 i o8;rw[h] at this;cases this
  have again:Gb v.names i=true -> ∀j,j<i+1 -> Gb v.names j=true:=fun h j hj=>(cE.1 hj).elim (j8 j) fun e=>by rw[e];exact h
  generalize v.names.getD i jz=nm at rC hnz kK ya;generalize v.names.getD (i - 1) jz=pm at Et kK ya;refine gY ?_;refine iG (hq:=gZ) i (no+i) o8 ?_;refine iu ?_;refine i_ func160 (aeT nm _) ?_;rintro _ rfl
  cases hN:nU nm with
  | false=>
   refine gY ?_;exact g_ ⟨yf (bad (by rw[kK,hN];rfl)).symm,b1⟩
  | true=>
   by_cases h0:i=0
   ·refine gY ?_
    exact WQ.again (i+1) iW ⟨rfl,o8,again (by rw[kK,hN,h0];rfl)⟩ (by show v.names.length - (i+1)<v.names.length - i;omega)
   ·have hw:IntKind.i64.wrap ((i:Int) - 1)=((i - 1:Nat):Int):=by rw[bG _ gZ];omega
    refine iu ?_;refine WL.idx (i - 1) (no+(i - 1)) rfl rfl rfl rfl rfl rfl rfl gZ gZ gZ ?_;refine iu ?_;cases iS:Op.bytesLess pm.toList nm.toList with
    | true=>
     rw[iS] at ya kK;refine WC.as 29 (.bool false) rfl (congrArg Value.bool ya) ?_;refine gY ?_;exact WQ.again (i+1) iW ⟨rfl,o8,again (by rw[kK,hN];simp)⟩ (by show v.names.length - (i+1)<v.names.length - i;omega)
    | false=>
     rw[iS] at ya kK;refine WC.as 29 (.bool true) rfl (congrArg Value.bool ya) ?_;refine gY ?_;exact g_ ⟨yf (bad (by rw[kK,hN,decide_eq_false h0];rfl)).symm,b1⟩
 ·obtain rfl:i=v.names.length:=gZ
  clear nr xI;refine iu ?_;refine g_ ⟨yf ?_,b1⟩;cases hf:l_ v with
  | true=>exact decide_eq_true (by have:=(E_.1 hf).2;omega)
  | false=>exact decide_eq_false fun e=>by rw[E_.2 ⟨j8,gZ⟩] at hf;cases hf
theorem Bf {v:V}(h:kH f w v cs): kj cs:=by
 obtain⟨np,nc,kp,kc,rfl,-⟩:=kH.open h;intro u hu;simp only[ar,aR,dG] at hu;rcases hu with rfl|rfl|rfl|rfl|rfl|rfl<;>rfl
theorem agq {v:V}(HD:kH (f+1) w v cs): Calls prog 130 #[.agg cs.toArray] w fun e w'=>e=.returned (Iq (qu v)) /\ iB w w':=by
 obtain⟨sn,sk,rfl,-,RE,-,Vs,⟨np,nc,rfl,nl,Iu,-,-⟩,⟨sp,cap,rfl,uG,oG,-⟩⟩:=id HD;have hn:-9223372036854775808 <= v.n /\ v.n <= 9223372036854775807:=by simp[Lit.wf,IntKind.min,IntKind.max,IntKind.bits,IntKind.signed] at RE;omega
 clear RE;refine iY (args:=[.agg (lW v (.slice np v.names.length nc) (.slice sp v.kids.length cap)).toArray]) func130 ntmps130 ?_;refine gY ?_;refine iC fun g w1 hf=>?_;have hR:h_ vT w1 g (lW v (.slice np v.names.length nc) (.slice sp v.kids.length cap)):=hf.blk;have b1:=hf.below;have NO:=kH.below b1 HD;clear hf HD;have c0:w1.cell? ⟨g,0,none⟩=some (Iq v.k):=hR.cell 0 iz;have c1:w1.cell? ⟨g,1,none⟩=some (Iq v.n):=hR.cell 1 iz;have c2:w1.cell? ⟨g,2,none⟩=some (Iq v.s):=hR.cell 2 iz;have c3:w1.cell? ⟨g,3,none⟩=some (.string v.t):=hR.cell 3 iz;have c4:w1.cell? ⟨g,4,none⟩=some (.slice np v.names.length nc):=hR.cell 4 iz;have c5:w1.cell? ⟨g,5,none⟩=some (.slice sp v.kids.length cap):=hR.cell 5 iz;have jH:=FJ v;have hE:=ae4 v;have Ym:v.n / ((2 ^ min 1 IntKind.i64.bits:Nat):Int)=v.n / 2:=by rw[show((2 ^ min 1 IntKind.i64.bits:Nat):Int)=2 from rfl]
 refine sY ?_;refine WL.sa (fun _:Unit=>[(1,iF g),(3,.bool (pB v))]) (fun _ w'=>w1=w') rfl ?_ ?_
 ·by_cases n0:v.n=0
  ·refine WL.as 9 (.bool true) rfl (congrArg Value.bool (decide_eq_true n0)) ?_
   refine iu ?_;exact WQ.meet () ⟨rfl,congrArg (fun b=>some (Value.bool b)) (by unfold pB;simp[n0]),trivial⟩ rfl
  ·refine WL.as 9 (.bool false) rfl (congrArg Value.bool (decide_eq_false n0)) ?_
   refine iu ?_;exact WQ.meet () ⟨rfl,congrArg (fun b=>some (Value.bool b)) (by unfold pB;simp[n0]),trivial⟩ rfl
 rintro⟨⟩ _ rfl;refine sY ?_;refine WL.sa (fun _:Unit=>[(1,iF g),(3,.bool (pB v)),(4,.bool (k_ v))]) (fun _ w'=>w1=w') rfl ?_ ?_
 ·by_cases n0:v.names.length=0
  ·have n1:(v.names.length:Int)=0:=gZ
   refine WL.as 18 (.bool true) rfl (congrArg Value.bool (decide_eq_true n1)) ?_;refine iu ?_;exact WQ.meet () ⟨rfl,rfl,congrArg (fun b=>some (Value.bool b)) (by unfold k_;simp[n0]),trivial⟩ rfl
  ·have n1:¬(v.names.length:Int)=0:=gZ
   refine WL.as 18 (.bool false) rfl (congrArg Value.bool (decide_eq_false n1)) ?_;refine iu ?_;exact WQ.meet () ⟨rfl,rfl,congrArg (fun b=>some (Value.bool b)) (by unfold k_;simp[n0]),trivial⟩ rfl
 rintro⟨⟩ _ rfl;refine sY ?_;refine WC.sa (fun _:Unit=>[(1,iF g),(5,.bool (nK v))]) (fun _ w'=>w1=w') rfl ?_ ?_
 ·clear NO
  by_cases q:v.k=1
  ·skip
   cases hB:pB v with
   | false=>
    rw[hB] at jH;refine iu ?_;exact WQ.meet () ⟨rfl,congrArg (fun b=>some (Value.bool b)) (by rw[jH];simp[jm, *]),trivial⟩ rfl
   | true=>
    rw[hB] at jH;cases hP:k_ v with
    | false=>
     rw[hP] at jH;refine iu ?_;exact WQ.meet () ⟨rfl,congrArg (fun b=>some (Value.bool b)) (by rw[jH];simp[jm, *]),trivial⟩ rfl
    | true=>
     rw[hP] at jH;refine iu ?_;exact WQ.meet () ⟨rfl,congrArg (fun b=>some (Value.bool b)) (hE.trans (by rw[jH];simp[jm, *])),trivial⟩ rfl
  by_cases q:v.k=2
  ·refine iu ?_
   refine WL.as 43 (.bool (decide (v.n / 2=0))) rfl (congrArg (fun z=>Value.bool (decide (z=0))) Ym) ?_
   by_cases a0:v.n / 2=0
   ·skip
    by_cases a1:v.s=0
    ·skip
     cases hP:k_ v with
     | false=>
      rw[hP] at jH;refine iu ?_;exact WQ.meet () ⟨rfl,congrArg (fun b=>some (Value.bool b)) (by rw[jH];simp[jm, *]),trivial⟩ rfl
     | true=>
      rw[hP] at jH;refine iu ?_;exact WQ.meet () ⟨rfl,congrArg (fun b=>some (Value.bool b)) (hE.trans (by rw[jH];simp[jm, *])),trivial⟩ rfl
    ·skip
     refine iu ?_;exact WQ.meet () ⟨rfl,congrArg (fun b=>some (Value.bool b)) (by rw[jH];simp[jm, *]),trivial⟩ rfl
   ·skip
    refine iu ?_;exact WQ.meet () ⟨rfl,congrArg (fun b=>some (Value.bool b)) (by rw[jH];simp[jm, *]),trivial⟩ rfl
  by_cases q:v.k=3
  ·skip
   by_cases a0:v.s=0
   ·skip
    cases hP:k_ v with
    | false=>
     rw[hP] at jH;refine iu ?_;exact WQ.meet () ⟨rfl,congrArg (fun b=>some (Value.bool b)) (by rw[jH];simp[jm, *]),trivial⟩ rfl
    | true=>
     rw[hP] at jH;refine iu ?_;exact WQ.meet () ⟨rfl,congrArg (fun b=>some (Value.bool b)) (hE.trans (by rw[jH];simp[jm, *])),trivial⟩ rfl
   ·skip
    refine iu ?_;exact WQ.meet () ⟨rfl,congrArg (fun b=>some (Value.bool b)) (by rw[jH];simp[jm, *]),trivial⟩ rfl
  by_cases q:v.k=4
  ·skip
   by_cases a0:1 <= v.s
   ·skip
    by_cases a1:v.s <= 18
    ·skip
     by_cases a2:¬v.n.tmod 10=0
     ·skip
      cases hP:k_ v with
      | false=>
       rw[hP] at jH;refine iu ?_;exact WQ.meet () ⟨rfl,congrArg (fun b=>some (Value.bool b)) (by rw[jH];simp[jm, *]),trivial⟩ rfl
      | true=>
       rw[hP] at jH;refine iu ?_;exact WQ.meet () ⟨rfl,congrArg (fun b=>some (Value.bool b)) (hE.trans (by rw[jH];simp[jm, *])),trivial⟩ rfl
     ·skip
      refine iu ?_;exact WQ.meet () ⟨rfl,congrArg (fun b=>some (Value.bool b)) (by rw[jH];simp[jm, *]),trivial⟩ rfl
    ·skip
     refine iu ?_;exact WQ.meet () ⟨rfl,congrArg (fun b=>some (Value.bool b)) (by rw[jH];simp[jm, *]),trivial⟩ rfl
   ·skip
    refine iu ?_;exact WQ.meet () ⟨rfl,congrArg (fun b=>some (Value.bool b)) (by rw[jH];simp[jm, *]),trivial⟩ rfl
  by_cases q:v.k=5
  ·skip
   by_cases a0:0 <= v.n
   ·skip
    by_cases a1:v.n <= 9007199254740992
    ·skip
     by_cases a2:v.s=0
     ·skip
      cases hP:k_ v with
      | false=>
       rw[hP] at jH;refine iu ?_;exact WQ.meet () ⟨rfl,congrArg (fun b=>some (Value.bool b)) (by rw[jH];simp[jm, *]),trivial⟩ rfl
      | true=>
       rw[hP] at jH;refine iu ?_;exact WQ.meet () ⟨rfl,congrArg (fun b=>some (Value.bool b)) (hE.trans (by rw[jH];simp[jm, *])),trivial⟩ rfl
     ·skip
      refine iu ?_;exact WQ.meet () ⟨rfl,congrArg (fun b=>some (Value.bool b)) (by rw[jH];simp[jm, *]),trivial⟩ rfl
    ·skip
     refine iu ?_;exact WQ.meet () ⟨rfl,congrArg (fun b=>some (Value.bool b)) (by rw[jH];simp[jm, *]),trivial⟩ rfl
   ·skip
    refine iu ?_;exact WQ.meet () ⟨rfl,congrArg (fun b=>some (Value.bool b)) (by rw[jH];simp[jm, *]),trivial⟩ rfl
  by_cases q:v.k=6
  ·skip
   cases hB:pB v with
   | false=>
    rw[hB] at jH;refine iu ?_;exact WQ.meet () ⟨rfl,congrArg (fun b=>some (Value.bool b)) (by rw[jH];simp[jm, *]),trivial⟩ rfl
   | true=>
    rw[hB] at jH;refine iu ?_;exact WQ.meet () ⟨rfl,congrArg (fun b=>some (Value.bool b)) (by rw[jH];simp[jm, *]),trivial⟩ rfl
  by_cases q:v.k=7
  ·skip
   cases hB:pB v with
   | false=>
    rw[hB] at jH;refine iu ?_;exact WQ.meet () ⟨rfl,congrArg (fun b=>some (Value.bool b)) (by rw[jH];simp[jm, *]),trivial⟩ rfl
   | true=>
    rw[hB] at jH;refine iu ?_;exact WQ.meet () ⟨rfl,congrArg (fun b=>some (Value.bool b)) (by rw[jH];simp[jm, *]),trivial⟩ rfl
  by_cases q:v.k=8
  ·skip
   cases hB:pB v with
   | false=>
    rw[hB] at jH;refine iu ?_;exact WQ.meet () ⟨rfl,congrArg (fun b=>some (Value.bool b)) (by rw[jH];simp[jm, *]),trivial⟩ rfl
   | true=>
    rw[hB] at jH
    by_cases a0:v.names.length=0
    ·skip
     refine iu ?_;exact WQ.meet () ⟨rfl,congrArg (fun b=>some (Value.bool b)) (hE.trans (by rw[jH];simp[jm, *])),trivial⟩ rfl
    ·skip
     refine iu ?_;exact WQ.meet () ⟨rfl,congrArg (fun b=>some (Value.bool b)) (by rw[jH];simp[jm, *]),trivial⟩ rfl
  by_cases q:v.k=9
  ·skip
   cases hB:pB v with
   | false=>
    rw[hB] at jH;refine iu ?_;exact WQ.meet () ⟨rfl,congrArg (fun b=>some (Value.bool b)) (by rw[jH];simp[jm, *]),trivial⟩ rfl
   | true=>
    rw[hB] at jH;refine iu ?_;exact WQ.meet () ⟨rfl,congrArg (fun b=>some (Value.bool b)) (hE.trans (by rw[jH];simp[jm, *])),trivial⟩ rfl
  refine iu ?_;exact WQ.meet () ⟨rfl,congrArg (fun b=>some (Value.bool b)) (by rw[jH];unfold jm;rw[if_neg (show ¬v.k=1 by omega),if_neg (show ¬v.k=2 by omega),if_neg (show ¬v.k=3 by omega),if_neg (show ¬v.k=4 by omega),if_neg (show ¬v.k=5 by omega),if_neg (show ¬(v.k=6 \/ v.k=7) by omega),if_neg (show ¬v.k=8 by omega),if_neg (show ¬v.k=9 by omega)]),trivial⟩ rfl
 rintro⟨⟩ _ rfl;clear jH hE Ym;have ret:∀ {x:Int},qu v=x -> Ending.returned (Iq x)=.returned (Iq (qu v)):=fun h=>by rw[h]
 cases hF:nK v with
 | false=>
  refine iu ?_;exact g_ ⟨ret (by unfold qu;rw[if_pos hF]),b1⟩
 | true=>
  by_cases a1:16384<v.t.size
  ·refine iu ?_
   exact g_ ⟨ret (by unfold qu;rw[if_neg (by rw[hF];exact Bool.noConfusion),if_pos (.inl a1)]),b1⟩
  by_cases a2:200<v.kids.length
  ·refine iu ?_
   exact g_ ⟨ret (by unfold qu;rw[if_neg (by rw[hF];exact Bool.noConfusion),if_pos (.inr a2)]),b1⟩
  by_cases q:v.k=9
  ·refine iu ?_
   refine ig (h_.rangeAt hR) rfl ?_;refine gY ?_;refine i_ func149 (aby NO) ?_;rintro w2 b2
   have zN:=b1.iR b2;cases hf:l_ v with
   | false=>
    refine gY ?_;exact g_ ⟨ret (by unfold qu;rw[if_neg (by rw[hF];exact Bool.noConfusion),if_neg gZ,if_pos ⟨q,hf⟩]),zN⟩
   | true=>
    refine gY ?_;exact g_ ⟨ret (by unfold qu;rw[if_neg (by rw[hF];exact Bool.noConfusion),if_neg gZ,if_neg (fun h=>by rw[hf] at h;exact Bool.noConfusion h.2)]),zN⟩
  ·refine iu ?_
   exact g_ ⟨ret (by unfold qu;rw[if_neg (by rw[hF];exact Bool.noConfusion),if_neg gZ,if_neg (fun h=>q h.1)]),b1⟩
theorem Ws:∀ {f:Nat}{w:World}{v:V}{cs:List Value}(m:Nat) (d:Int),kH f w v cs -> m <= 16 -> d=17 - (m:Int) ->
  Calls prog 97 #[.agg cs.toArray,Iq d] w fun e w'=>e=.returned (Iq (chk m v)) /\ iB w w'
 | 0,_,_,_,_,_,h,_,_=>h.elim
 | f+1,w,v,cs,m,d,hv,hm,hd=>by
  have ih:=@Ws f;have hlen:=hv.len;obtain⟨sn,sk,hcs,-,-,-,-,-,⟨sp,cap,rfl,uG,oG,ji⟩⟩:=id hv;refine iY (args:=[.agg cs.toArray,Iq d]) func97 ntmps97 ?_;refine ku ?_;refine iC fun g w1 hf=>?_;have hR:h_ vT w1 g cs:=hf.blk;have b1:=hf.below;clear hf;cases m with
  | zero=>
   have tO:16<d:=gZ;clear ji;refine gY ?_;exact g_ ⟨rfl,b1⟩
  | succ m=>
   have tO:d <= 16:=gZ;have hd0:0 <= d:=gZ;have c5:w1.cell? ⟨g,5,none⟩=some (.slice sp v.kids.length cap):=by have:=hR.cell 5 (by rw[hlen];omega);rw[this,hcs];rfl
   refine gY ?_;refine ig (h_.rangeAt hR) hlen ?_;refine i_ func130 (agq (kH.below b1 hv)) ?_;rintro w2 b2
   have A4:=b1.iR b2;have c5:=(b2.cell (p:=⟨g,5,none⟩) hR.lt).trans c5
   by_cases h0:qu v=0
   ·have RL:chk (m+1) v=firstBad (v.kids.map (chk m)):=by
     conv=>lhs;unfold chk
     rw[if_pos h0]
    refine iu ?_;refine WC.loop (fun i:Nat=>[(1,Iq d),(17,.slice sp v.kids.length cap),(18,Iq v.kids.length),(19,Iq i)]) (fun i w'=>i <= v.kids.length /\ iB w w' /\ ∀j,j<i -> chk m (v.kids.getD j lH)=0) (fun i=>v.kids.length - i) 0 iW ⟨aw _,A4,fun j hj=>absurd hj gZ⟩ ?_;rintro i wr ⟨hi,br,j8⟩
    by_cases je:i<v.kids.length
    ·obtain⟨kb,ko,rfl,oN,kA⟩:=ji gZ
     obtain⟨c,mO,pj,mo⟩:=kA i je;clear ji kA;have sH:wr.rangeAt kb (ko+i*6) c:=fun j u hu=>by rw[br.cell (p:=⟨kb,ko+i*6+j,none⟩) oN];exact mo j u hu
     refine gY ?_;refine iG i (ko+i*6) je ?_;refine ig sH mO ?_;refine ix (z:=.agg (lW ⟨0,0,0,ByteArray.empty,[],[]⟩ (.slice none 0 0) (.slice none 0 0)).toArray) (fun _=>by kernel_rfl) fun g8 w6 f6=>?_;refine ir (hm:=mO) f6.blk (Bf pj) ?_;have t7:=f6.blk.setRow c;have b7:iB w (w6.setRow g8 c.toArray):=below_setRow (br.iR f6.below) (by have:=f6.eq;have:=br.size;omega) _;generalize w6.setRow g8 c.toArray=w7 at t7 b7 ⊢;clear f6;refine gY ?_;refine ig (h_.rangeAt t7) mO ?_;refine gY ?_;refine il func97 (ih m (d+1) (pj.below b7) gZ gZ) ?_;rintro e w4 ⟨rfl,b4⟩;refine⟨_,rfl,?_⟩;have Cf:=b7.iR b4
     by_cases h1:chk m (v.kids.getD i lH)=0
     ·refine gY ?_
      exact WQ.again (i+1) iW ⟨je,Cf,fun j hj=>(cE.1 hj).elim (j8 j) (fun e=>by rw[e];exact h1)⟩ (by show v.kids.length - (i+1)<v.kids.length - i;omega)
     ·have sF:chk (m+1) v=chk m (v.kids.getD i lH):=by
       rw[RL,qn (i:=i) (by rw[av];exact je) (fun j hj=>by rw[pH m v.kids j gZ];exact j8 j hj) (by rw[pH m v.kids i je];exact h1),pH m v.kids i je]
      refine gY ?_;exact g_ ⟨by rw[sF],Cf⟩
    ·obtain rfl:i=v.kids.length:=gZ
     clear ji;refine gY ?_;refine g_ ⟨?_,br⟩;rw[RL,rj fun j hj=>by rw[av] at hj;rw[pH m v.kids j hj];exact j8 j hj]
   ·clear ji
    have Hs:chk (m+1) v=qu v:=by unfold chk;rw[if_neg h0]
    refine gY ?_;exact g_ ⟨by rw[Hs],A4⟩
theorem KN {v:V}(h:kH f w v cs):
  Calls prog 65 #[.agg cs.toArray] w fun e w'=>e=.returned (Iq (chk 16 v)) /\ iB w w':=by
 refine iY (args:=[.agg cs.toArray]) func65 ntmps65 ?_;refine gY ?_;refine iC fun g w1 hf=>?_;have hR:h_ vT w1 g cs:=hf.blk;have b1:=hf.below;refine gY ?_;refine ig (h_.rangeAt hR) h.len ?_;refine il func97 (Ws 16 1 (h.below b1) gZ gZ) ?_;rintro e w2 ⟨rfl,b2⟩;refine⟨_,rfl,?_⟩;refine gY ?_;exact g_ ⟨rfl,b1.iR b2⟩
end Vl
namespace K
section
variable {w0 wx wy:World}{vb rb xb:Nat}{l3:List Int}{x:V}{cs:List Value}{e e':Int}
end
theorem Bs {v:V}: encV (m+1) v=v.k ::
    (if v.k=2 then[v.n] else if v.k=3 then jK (ug v.n) else if v.k=4 then jK (ug v.n)++[v.s] else if v.k=5 then jK v.n.toNat
     else if v.k=6 \/ v.k=7 then jK v.t.size++vA v.t
     else if v.k=8 \/ v.k=9 then jK v.kids.length++(List.range v.kids.length).flatMap (kP (encV m) (decide (v.k=9)) v.names v.kids) else[]) := rfl
theorem ZJ (m:Nat) (ih:∀ {f:Nat}{w0 w:World}{v:V}{cs:List Value}{b:Value}{l:List Int}, kH f w0 v cs -> chk m v=0 -> Bu w b l -> na w0 w b -> l.length+(encV m v).length <= 70368744177664 ->
      Calls prog 148 #[b, .agg cs.toArray] w fun e w'=>∃b', e=.returned b' /\ Bu w' b' (l++encV m v) /\ jv w b w' b') {v:V}{b:Value}{l:List Int}(hv:kH f w0 v cs) (hc:chk (m+1) v=0) (hb:Bu w b l) (ha:na w0 w b) (hm:l.length+(encV (m+1) v).length <= 70368744177664):
    Calls prog 148 #[b, .agg cs.toArray] w fun e w'=>∃b', e=.returned b' /\ Bu w' b' (l++encV (m+1) v) /\ jv w b w' b' := by
  obtain⟨hk, f2, f3, f4, f5, fk, ft, f9⟩ := qI (oQ hc); cases f with
  | zero=>exact hv.elim
  | succ f=>
  obtain⟨sn, sk, rfl, wk, wn, ws, -, qJ, tM⟩ := hv; have jU := Bs (m := m) (v := v); rw[jU] at hm; have hn:-9223372036854775808 <= v.n /\ v.n <= 9223372036854775807 := by simp[Lit.wf, IntKind.min, IntKind.max, IntKind.bits, IntKind.signed] at wn; omega
  have IB := WO hn; refine iY (args := [b, .agg (lW v sn sk).toArray]) func148 ntmps148 ?_; refine gY ?_; refine iC fun bb w1 hf=>?_; have sF:jl w bb w1 158 [b] := by obtain⟨sp, c, rfl, -, -⟩ := hb.form; exact hf
  clear hf; have Ji := sF.eq; refine iC fun g w2 hf=>?_; have TP:jl w1 g w2 25 (lW v sn sk) := hf; clear hf; have HN:g=bb+1 := by rw[TP.eq, sF.size, Ji]
  have uH := hb.lt; have wD:Bx bb w2 b l := ⟨(sF.blk.below TP.below sF.blk.lt), (hb.below sF.below).below TP.below, fun e=>by have := uH _ e; omega⟩; have o5 := TP.blk; have Ny:b.ownBlock≠some g := fun e=>by have := uH _ e; omega
  have Qv := sF.below.trans (TP.below.mono sF.below.size); have awf:w2.heap.size=w.heap.size+2 := by rw[TP.size, sF.size]
  clear sF TP
  -- what stands while the own row grows
  have hR:∀ {wk vk}, nX bb w2 b wk vk -> h_ 25 wk g (lW v sn sk) := fun h=>(Bx.ij h o5 Ny gZ).1; have hA:∀ {wk vk}, nX bb w2 b wk vk -> na w0 wk vk := fun {wk vk} h=>by
    refine⟨?_, fun x hx=>(h.2 x hx).elim (fun h2=>ha.own x h2) (fun h2=>by have := ha.below.size; omega)⟩; have h1 := ha.below.trans (Qv.mono ha.below.size); refine h1.trans ((h.1.mono fun x (hx:x<w0.heap.size)=>⟨ak hx h1.size, fun e=>by have := ha.own x e; omega, by have := ha.below.size; omega⟩).below)
  have hG:∀ {wk vk}, nX bb w2 b wk vk -> jv w b wk vk := fun {wk vk} h=>by
    refine⟨?_, fun x hx=>(h.2 x hx).imp id (fun h2=>by omega)⟩; have h1:ib (fun x=>x<w.heap.size /\ b.ownBlock≠some x) w w2 := (ib.ic Qv).mono fun _ h=>h.1; exact h1.trans (h.1.mono fun x hx=>⟨gZ, hx.2, gZ⟩)
  have g0:nX bb w2 b w2 b := nX.refl _ _ _; have fin:∀ {b' w' x}, Bu w' b' (l++v.k :: x) -> nX bb w2 b w' b' -> (v.k :: x=encV (m+1) v) -> ∃DJ, Ending.returned b'=.returned DJ /\ Bu w' DJ (l++encV (m+1) v) /\ jv w b w' DJ :=
    fun {b' w' x} h1 h2 h3=>⟨b', rfl, by rw[<- h3]; exact h1, hG h2⟩
  have e8:IntKind.u8.wrap v.k=v.k := by rw[bB]; omega
  have pY:l.length+1 <= 70368744177664 := by simp at hm; omega
  refine gY ?_; refine WL.fn (caps := [.tmp 2]) rfl rfl rfl rfl rfl ?_; refine gY ?_; refine ia (wD.blk.cell 0 iz) ?_; refine gY ?_; refine ia ((hR g0).cell 0 iz) ?_; refine gY ?_; refine WL.push rfl rfl rfl rfl rfl rfl rfl rfl rfl rfl rfl (fun _=>rfl) rfl wD.bu (by simp; omega) fun b2 w3 jg lN=>?_; obtain⟨Ku, tu, g3⟩ := wD.put jg lN; refine iD (hv := jg.Ak) (Ku.cell 0 iz) (Ku.free 0) ?_; generalize w3.setCell ⟨bb, 0, none⟩ b2=w4 at tu g3; clear Ku lN jg; rw[e8] at tu; refine gY ?_; refine ia ((hR g3).cell 0 iz) ?_; have qB:(l++[v.k]).length=l.length+1 := iz; have zn:∀x, l++v.k :: x=(l++[v.k])++x := fun x=>iz; generalize hL:l++[v.k]=L at tu qB zn; have nG:L.length+(encV (m+1) v).length <= 70368744177664+1 := by rw[jU]; simp at hm ⊢; omega
  by_cases k1:v.k=1
  · refine gY ?_
    refine ia (tu.blk.cell 0 iz) ?_; refine gY ?_; refine g_ (fin (x := []) (by rw[zn, aS]; exact tu.bu) g3 ?_); rw[jU]; simp[k1]
  by_cases k2:v.k=2
  · have hx := f2 k2
    have e8:IntKind.u8.wrap v.n=v.n := by rw[bB]; omega
    have mK:encV (m+1) v=v.k :: [v.n] := by rw[jU, if_pos k2]
    rw[mK] at nG; simp at nG
    refine gY ?_; refine ia (tu.blk.cell 0 iz) ?_; refine gY ?_; refine ia ((hR g3).cell 1 iz) ?_; refine gY ?_; refine WL.push rfl rfl rfl rfl rfl rfl rfl rfl rfl rfl rfl (fun _=>rfl) rfl tu.bu (by simp; omega) fun b3 w5 jF mP=>?_; obtain⟨ux, qj, g4⟩ := tu.put jF mP; refine iD (hv := jF.Ak) (ux.cell 0 iz) (ux.free 0) ?_; generalize w5.setCell ⟨bb, 0, none⟩ b3=w6 at qj g4; refine gY ?_; refine ia (qj.blk.cell 0 iz) ?_; refine gY ?_; refine g_ (fin (x := [v.n]) ?_ (g3.trans g4) mK.symm); rw[zn, <- e8]; exact qj.bu
  by_cases k3:v.k=3
  · have mK:encV (m+1) v=v.k :: jK (ug v.n) := by rw[jU, if_neg k2, if_pos k3]
    rw[mK] at nG; simp at nG
    refine gY ?_; refine ia ((hR g3).cell 1 iz) ?_; refine gY ?_; refine il func159 (Q7 v.n hn w4) ?_; rintro e _ ⟨rfl, rfl⟩; refine⟨_, rfl, ?_⟩; refine WL.xx (args := [.tmp 30]) rfl rfl rfl rfl rfl rfl gk rfl (by kernel_rfl) (tU IB tu gZ) ?_; rintro e w6 ⟨rfl, b4, qj, g4⟩; refine⟨_, rfl, ?_⟩; refine gY ?_; refine ia (qj.blk.cell 0 iz) ?_; refine gY ?_; exact g_ (fin (by rw[zn]; exact qj.bu) (g3.trans g4) mK.symm)
  by_cases k4:v.k=4
  · have hx := f4 k4
    have e8:IntKind.u8.wrap v.s=v.s := by rw[bB]; omega
    have mK:encV (m+1) v=v.k :: (jK (ug v.n)++[v.s]) := by rw[jU, if_neg k2, if_neg k3, if_pos k4]
    rw[mK] at nG; simp at nG
    refine gY ?_; refine ia ((hR g3).cell 1 iz) ?_; refine gY ?_; refine il func159 (Q7 v.n hn w4) ?_; rintro e _ ⟨rfl, rfl⟩; refine⟨_, rfl, ?_⟩; refine WL.xx (args := [.tmp 37]) rfl rfl rfl rfl rfl rfl gk rfl (by kernel_rfl) (tU IB tu gZ) ?_; rintro e w6 ⟨rfl, b4, qj, g4⟩; refine⟨_, rfl, ?_⟩; have JH := g3.trans g4; refine gY ?_; refine ia (qj.blk.cell 0 iz) ?_; refine gY ?_; refine ia ((hR JH).cell 2 iz) ?_; refine gY ?_; refine WL.push rfl rfl rfl rfl rfl rfl rfl rfl rfl rfl rfl (fun _=>rfl) rfl qj.bu (by simp; omega) fun b5 w7 oY Bg=>?_; obtain⟨Dr, IW, g5⟩ := qj.put oY Bg; refine iD (hv := oY.Ak) (Dr.cell 0 iz) (Dr.free 0) ?_; generalize w7.setCell ⟨bb, 0, none⟩ b5=w8 at IW g5; refine gY ?_; refine ia (IW.blk.cell 0 iz) ?_; refine gY ?_; refine g_ (fin (x := jK (ug v.n)++[v.s]) ?_ (JH.trans g5) mK.symm); rw[zn, <- ao, <- e8]; exact IW.bu
  by_cases k5:v.k=5
  · have hx := f5 k5
    have e8:IntKind.u64.wrap v.n=(v.n.toNat:Int) := by rw[aW]; omega
    have mK:encV (m+1) v=v.k :: jK v.n.toNat := by rw[jU, if_neg k2, if_neg k3, if_neg k4, if_pos k5]
    rw[mK] at nG; simp at nG
    refine gY ?_; refine ia ((hR g3).cell 1 iz) ?_; refine gY ?_; refine WL.xx (args := [.tmp 50]) rfl rfl rfl rfl rfl rfl gk rfl (by kernel_rfl) (by rw[e8]; exact tU gZ tu gZ) ?_; rintro e w6 ⟨rfl, b4, qj, g4⟩; refine⟨_, rfl, ?_⟩; refine gY ?_; refine ia (qj.blk.cell 0 iz) ?_; refine gY ?_; exact g_ (fin (by rw[zn]; exact qj.bu) (g3.trans g4) mK.symm)
  by_cases AN:v.k=6 \/ v.k=7
  · have e8:IntKind.u64.wrap (v.t.size:Int)=((v.t.size:Nat):Int) := by rw[aW]; omega
    have mK:encV (m+1) v=v.k :: (jK v.t.size++vA v.t) := by rw[jU, if_neg k2, if_neg k3, if_neg k4, if_neg k5, if_pos AN]
    have sh := sN v.t; rw[mK] at nG; simp only[aj, aa] at nG; rcases AN with k6|k7
    all_goals
      refine gY ?_; refine ia ((hR g3).cell 3 iz) ?_; refine gY ?_; refine WL.xx (args := [.tmp 59]) rfl rfl rfl rfl rfl rfl gk rfl (by kernel_rfl) (by rw[e8]; exact tU gZ tu gZ) ?_; rintro e w6 ⟨rfl, b4, qj, g4⟩; refine⟨_, rfl, ?_⟩; have JH := g3.trans g4; refine gY ?_; refine ia (qj.blk.cell 0 iz) ?_; refine gY ?_; refine ia ((hR JH).cell 3 iz) ?_; refine WL.QM rfl rfl rfl rfl rfl qj.bu rfl (by rw[aa]; omega) fun b5 w7 oY Bg=>?_; obtain⟨Dr, IW, g5⟩ := qj.put oY Bg; refine iD (hv := oY.Ak) (Dr.cell 0 iz) (Dr.free 0) ?_; generalize w7.setCell ⟨bb, 0, none⟩ b5=w8 at IW g5; refine gY ?_; refine ia (IW.blk.cell 0 iz) ?_; refine gY ?_; refine g_ (fin (x := jK v.t.size++vA v.t) ?_ (JH.trans g5) mK.symm); rw[zn, <- ao]; exact IW.bu
  have KA:v.k=8 \/ v.k=9 := gZ; obtain⟨sp, cap, rfl, uG, oG, ji⟩ := tM; have mK:encV (m+1) v=v.k :: (jK v.kids.length++(List.range v.kids.length).flatMap (kP (encV m) (decide (v.k=9)) v.names v.kids)) := by rw[jU, if_neg k2, if_neg k3, if_neg k4, if_neg k5, if_neg AN, if_pos KA]
  rw[mK] at nG; simp only[aj, aa] at nG; have CA:∀j, j<v.kids.length -> chk m (v.kids.getD j lH)=0 := fun j hj=>rD hc hj; have round:∀i, i+1 <= v.kids.length -> ((List.range i).flatMap (kP (encV m) (decide (v.k=9)) v.names v.kids)).length+(kP (encV m) (decide (v.k=9)) v.names v.kids i).length <= ((List.range v.kids.length).flatMap (kP (encV m) (decide (v.k=9)) v.names v.kids)).length := fun i hi=>by
    have := tW (kP (encV m) (decide (v.k=9)) v.names v.kids) hi; rw[kG, aa] at this; exact this
  have eK:IntKind.u64.wrap (v.kids.length:Int)=((v.kids.length:Nat):Int) := by rw[aW]; omega
  have huk:(jK v.kids.length).length <= 10 := qk 10 _; have Pv:∀x, l++v.k :: (jK v.kids.length++x)=(L++jK v.kids.length)++x := fun x=>by rw[zn, ao]
  rcases KA with k8|k9
  · rw[show decide (v.k=9)=false from decide_eq_false gZ] at mK nG round
    refine gY ?_; refine ia ((hR g3).cell 5 iz) ?_; refine gY ?_; refine WL.xx (args := [.tmp 72]) rfl rfl rfl rfl rfl rfl gk rfl (by kernel_rfl) (by rw[eK]; exact tU gZ tu gZ) ?_; rintro e w6 ⟨rfl, b4, qj, g4⟩; refine⟨_, rfl, ?_⟩; have JH := g3.trans g4; have EA:(L++jK v.kids.length).length=L.length+(jK v.kids.length).length := aa; generalize L++jK v.kids.length=M at qj Pv EA; refine gY ?_; refine ia ((hR JH).cell 5 iz) ?_; refine gY ?_; refine WC.loop (fun i:Nat × Value=>[(2, iF bb), (3, iF g), (5, .func (.func 158) #[] #[iF bb]), (75, .slice sp v.kids.length cap), (76, Iq v.kids.length), (77, Iq i.1)])
      (fun i w'=>i.1 <= v.kids.length /\ Bx bb w' i.2 (M++(List.range i.1).flatMap (kP (encV m) false v.names v.kids)) /\ nX bb w2 b w' i.2) (fun i=>v.kids.length - i.1) (0, b4)
      iW ⟨aw _, by simpa using qj, JH⟩ ?_
    rintro⟨i, br⟩ wr ⟨hi, jC, lL⟩; simp only at hi jC lL ⊢
    by_cases je:i<v.kids.length
    · obtain⟨kb, ko, rfl, oN, kA⟩ := ji gZ
      obtain⟨c, mO, pj, mo⟩ := kA i je; have ss := hA lL; have sH:wr.rangeAt kb (ko+i*6) c := fun j u hu=>by rw[ss.below.cell (p := ⟨kb, ko+i*6+j, none⟩) oN]; exact mo j u hu
      have D6 := round i je; refine gY ?_; refine iG i (ko+i*6) je ?_; refine ig sH mO ?_; refine ix (z := .agg #[Iq 0, Iq 0, Iq 0, .string ByteArray.empty, .slice none 0 0, .slice none 0 0]) (fun _=>by kernel_rfl) fun g2 w7 lI=>?_; refine gY ?_; refine ir (hm := mO) lI.blk (kH.one pj) ?_; have jF:iB wr (w7.setRow g2 c.toArray) := below_setRow lI.below (by rw[lI.eq]; exact af _) _; have CS:h_ 25 (w7.setRow g2 c.toArray) g2 c := lI.blk.setRow c; have aoj := lI.eq; generalize w7.setRow g2 c.toArray=w8 at jF CS; have Ri:Bx bb w8 br _ := jC.below jF; have nP := lL.below jF; have aif:br.ownBlock≠some g2 := fun e=>by have := jC.bu.lt _ e; omega
      have aeb:g2≠bb := by have := jC.blk.lt; omega
      refine gY ?_; refine ia ((hR nP).cell 0 iz) ?_; have AM:kP (encV m) false v.names v.kids i=encV m (v.kids.getD i lH) := rfl; rw[AM] at D6; refine gY ?_; refine ia (Ri.blk.cell 0 iz) ?_; refine ig (h_.rangeAt CS) mO ?_; refine il func148 (ih (w0 := w0) pj (CA i je) Ri.bu (hA nP) (by rw[aa]; omega)) ?_; rintro e Jv ⟨wj, rfl, Kz, aeA⟩; refine⟨_, rfl, ?_⟩; obtain⟨EN, KE, Rh⟩ := Ri.put Kz aeA; refine iD (hv := Kz.Ak) (EN.cell 0 iz) (EN.free 0) ?_; generalize Jv.setCell ⟨bb, 0, none⟩ wj=Y4 at KE Rh; refine gY ?_; refine WQ.again (i+1, wj) iW ⟨je, ?_, nP.trans Rh⟩ (by show v.kids.length - (i+1)<v.kids.length - i; omega)
      show Bx bb Y4 wj (M++(List.range (i+1)).flatMap _)
      rw[kG, AM, <- ao]; exact KE
    · obtain rfl:i=v.kids.length := gZ
      refine gY ?_; refine ia (jC.blk.cell 0 iz) ?_; refine gY ?_; exact g_ (fin (by rw[Pv]; exact jC.bu) lL mK.symm)
  · rw[show decide (v.k=9)=true from decide_eq_true k9] at mK nG round
    obtain⟨np, nc, rfl, nl, Iu, xI, nr⟩ := qJ; have hnk := (f9 k9).1; refine gY ?_; refine ia ((hR g3).cell 5 iz) ?_; refine gY ?_; refine WL.xx (args := [.tmp 72]) rfl rfl rfl rfl rfl rfl gk rfl (by kernel_rfl) (by rw[eK]; exact tU gZ tu gZ) ?_; rintro e w6 ⟨rfl, b4, qj, g4⟩; refine⟨_, rfl, ?_⟩; have JH := g3.trans g4; have EA:(L++jK v.kids.length).length=L.length+(jK v.kids.length).length := aa; generalize L++jK v.kids.length=M at qj Pv EA; refine gY ?_; refine ia ((hR JH).cell 5 iz) ?_; refine gY ?_; refine WC.loop (fun i:Nat × Value=>[(2, iF bb), (3, iF g), (5, .func (.func 158) #[] #[iF bb]), (75, .slice sp v.kids.length cap), (76, Iq v.kids.length), (77, Iq i.1)])
      (fun i w'=>i.1 <= v.kids.length /\ Bx bb w' i.2 (M++(List.range i.1).flatMap (kP (encV m) true v.names v.kids)) /\ nX bb w2 b w' i.2) (fun i=>v.kids.length - i.1) (0, b4)
      iW ⟨aw _, by simpa using qj, JH⟩ ?_
    rintro⟨i, br⟩ wr ⟨hi, jC, lL⟩; simp only at hi jC lL ⊢
    by_cases je:i<v.kids.length
    · obtain⟨kb, ko, rfl, oN, kA⟩ := ji gZ
      obtain⟨c, mO, pj, mo⟩ := kA i je; have ss := hA lL; have sH:wr.rangeAt kb (ko+i*6) c := fun j u hu=>by rw[ss.below.cell (p := ⟨kb, ko+i*6+j, none⟩) oN]; exact mo j u hu
      have D6 := round i je; refine gY ?_; refine iG i (ko+i*6) je ?_; refine ig sH mO ?_; refine ix (z := .agg #[Iq 0, Iq 0, Iq 0, .string ByteArray.empty, .slice none 0 0, .slice none 0 0]) (fun _=>by kernel_rfl) fun g2 w7 lI=>?_; refine gY ?_; refine ir (hm := mO) lI.blk (kH.one pj) ?_; have jF:iB wr (w7.setRow g2 c.toArray) := below_setRow lI.below (by rw[lI.eq]; exact af _) _; have CS:h_ 25 (w7.setRow g2 c.toArray) g2 c := lI.blk.setRow c; have aoj := lI.eq; generalize w7.setRow g2 c.toArray=w8 at jF CS; have Ri:Bx bb w8 br _ := jC.below jF; have nP := lL.below jF; have aif:br.ownBlock≠some g2 := fun e=>by have := jC.bu.lt _ e; omega
      have aeb:g2≠bb := by have := jC.blk.lt; omega
      refine gY ?_; refine ia ((hR nP).cell 0 iz) ?_; obtain⟨nb, no, rfl, tj, FI⟩ := nr gZ; have rC := FI i gZ; have Li:(v.names.getD i jz).size <= 40 := (f9 k9).2 _ (by simp[show i<v.names.length by omega]); have AM:kP (encV m) true v.names v.kids i=(jK (v.names.getD i jz).size++vA (v.names.getD i jz))++encV m (v.kids.getD i lH) := rfl; rw[AM] at D6; have sh := sN (v.names.getD i jz); simp only[aa] at D6; have eN:IntKind.u64.wrap ((v.names.getD i jz).size:Int)=(((v.names.getD i jz).size:Nat):Int) := by rw[aW]; omega
      have hA8 := hA nP; refine gY ?_; refine ia ((hR nP).cell 4 iz) ?_; refine gY ?_; refine WL.idx i (no+i) rfl rfl rfl rfl rfl rfl rfl rfl gZ gZ ?_; refine ia ((hA8.below.cell (p := ⟨nb, no+i, none⟩) tj).trans rC) ?_; refine gY ?_; refine WL.xx (args := [.tmp 92]) rfl rfl rfl rfl rfl rfl gk rfl (by kernel_rfl) (by rw[eN]; exact tU gZ Ri (by rw[aa]; omega)) ?_; rintro e w9 ⟨rfl, b9, aea, g9⟩; refine⟨_, rfl, ?_⟩; have Sb := nP.trans g9; obtain⟨abO, DM⟩ := Bx.ij g9 CS aif aeb; have hA9 := hA Sb; refine gY ?_; refine WC.drawn 7 (fun wx=>iB w0 wx /\ h_ 158 wx bb [b9] /\ h_ 25 wx g (lW v (.slice (some ⟨nb, no, none⟩) v.names.length nc) (.slice (some ⟨kb, ko, none⟩) v.kids.length cap))) fun qZ Mm=>?_; have hS:iB w0 qZ /\ h_ 158 qZ bb [b9] /\ h_ 25 qZ g (lW v (.slice (some ⟨nb, no, none⟩) v.names.length nc) (.slice (some ⟨kb, ko, none⟩) v.kids.length cap)) :=
        ⟨hA9.below.trans (Mm.below _), aea.blk.below (Mm.below _) aea.blk.lt, (hR Sb).below (Mm.below _) (hR Sb).lt⟩
      have aeC:Bx bb qZ b9 _ := aea.below (Mm.below _); have abd := Sb.below (Mm.below _); have agA := abO.below (Mm.below _) abO.lt; refine ik 0 [6, 7] (fun wx hx=>hx.2.1.cell 0 iz) hS ?_; refine iq [1] hS ?_; refine ik 2 [4, 5, 6, 7] (fun wx hx=>hx.2.2.cell 4 iz) hS ?_; refine iq [3] hS ?_; refine IF 4 i (no+i) rfl rfl rfl rfl rfl rfl rfl rfl rfl gZ gZ (.inr hS) ?_; refine ik 5 [6, 7] (fun wx hx=>(hx.1.cell (p := ⟨nb, no+i, none⟩) tj).trans rC) hS ?_; refine iI 6 ?_; refine WL.QM rfl rfl rfl rfl rfl aeC.bu rfl (by rw[aa, aa]; omega) fun KY Tl Mq ah4=>?_; obtain⟨NW, Oj, aeu⟩ := aeC.put Mq ah4; have ad2:nX bb qZ b9 Tl KY := ah4.box; refine WL.nil (WQ.dk (.inr ⟨(hA (abd.trans ad2)).below, NW, hR (abd.trans ad2)⟩) ?_); refine iI 7 ?_; refine iD (hv := Mq.Ak) (NW.cell 0 iz) (NW.free 0) ?_; refine iO ?_; refine im ?_; obtain⟨Xm, avX⟩ := Bx.ij aeu agA DM aeb; have UX := abd.trans aeu; generalize Tl.setCell ⟨bb, 0, none⟩ KY=UG at Oj aeu Xm UX; refine gY ?_; refine ia (Oj.blk.cell 0 iz) ?_; refine ig (h_.rangeAt Xm) mO ?_; refine il func148 (ih (w0 := w0) pj (CA i je) Oj.bu (hA UX) (by rw[aa, aa, aa, qf]; omega)) ?_; rintro e Jv ⟨wj, rfl, Kz, aeA⟩; refine⟨_, rfl, ?_⟩; obtain⟨EN, KE, Rh⟩ := Oj.put Kz aeA; refine iD (hv := Kz.Ak) (EN.cell 0 iz) (EN.free 0) ?_; generalize Jv.setCell ⟨bb, 0, none⟩ wj=Y4 at KE Rh; refine gY ?_; refine WQ.again (i+1, wj) iW ⟨je, ?_, UX.trans Rh⟩ (by show v.kids.length - (i+1)<v.kids.length - i; omega)
      show Bx bb Y4 wj (M++(List.range (i+1)).flatMap _)
      rw[kG, AM]
      simpa[ao, oB, vA] using KE
    · obtain rfl:i=v.kids.length := gZ
      refine gY ?_; refine ia (jC.blk.cell 0 iz) ?_; refine gY ?_; exact g_ (fin (by rw[Pv]; exact jC.bu) lL mK.symm)
theorem Mo:∀(m:Nat) {f:Nat}{w0 w:World}{v:V}{cs:List Value}{b:Value}{l:List Int}, kH f w0 v cs -> chk m v=0 -> Bu w b l -> na w0 w b -> l.length+(encV m v).length <= 70368744177664 ->
      Calls prog 148 #[b, .agg cs.toArray] w fun e w'=>∃b', e=.returned b' /\ Bu w' b' (l++encV m v) /\ jv w b w' b'
  | 0, _, _, _, _, _, _, _, _, h, _, _, _=>by cases h
  | m+1, _, _, _, _, _, _, _, hv, hc, hb, ha, hm=>ZJ m (Mo m) hv hc hb ha hm
def grtK (B:Nat) (g:V -> Nat -> Nat):List V -> Nat -> Nat
 | [],n=>n
 | k :: r,n=>if n <= B then grtK B g r (g k n) else n
def grt (B:Nat):Nat -> V -> Nat -> Nat
 | 0,_,n=>n
 | f+1,v,n=>grtK B (grt B f) v.kids (n+1+v.t.size / 20+v.names.length)
def o_:Nat -> V -> Prop
 | 0,_=>False
 | f+1,v=>v.names.length <= 140737488355328 /\ v.kids.length <= 140737488355328 /\ ∀x∈v.kids,o_ f x
theorem I1 {B:Nat}{g:V -> Nat -> Nat}{n:Nat}(l:List V) (h:B<n): grtK B g l n=n:=by
 cases l with
 | nil=>rfl
 | cons k r=>unfold grtK;rw[if_neg gZ]
theorem CM {a b:List α}(h:a.take i=b.take i) (ha:i<a.length) (hb:i<b.length) (he:a[i]=b[i]): a.take (i+1)=b.take (i+1):=by
 rw[aJ,aJ,h,ah ha,ah hb,he]
theorem V.ext' {a b:V}(h1:a.k=b.k) (h2:a.n=b.n) (h3:a.s=b.s) (h4:a.t=b.t) (h5:a.names=b.names) (h6:a.kids=b.kids): a=b:=by
 cases a;cases b
 simp only[V.k,V.n,V.s,V.t,V.names,V.kids] at h1 h2 h3 h4 h5 h6;subst h1;subst h2;subst h3;subst h4;subst h5;subst h6
 rfl
theorem FZ {a b:ByteArray}(h:¬a=b): ¬a.toList=b.toList:=fun e=>h (by
 rw[aD,aD] at e;exact gP (Array.toList_inj.1 e))
theorem Im:∀(f:Nat) {f2:Nat}{w:World}{v1 v2:V}{c1 c2:List Value},kH f w v1 c1 -> kH f2 w v2 c2 ->
  Calls prog 165 #[.agg c1.toArray,.agg c2.toArray] w fun e w'=>(∃b,e=.returned (.bool b) /\ (b=true ↔ v1=v2)) /\ iB w w'
 | 0,_,_,_,_,_,_,h,_=>h.elim
 | _+1,0,_,_,_,_,_,_,h=>h.elim
 | f+1,f2+1,w,v1,v2,c1,c2,h1,h2=>by
  obtain⟨sn1,sk1,rfl,-,-,-,-,Cd,ED⟩:=h1;obtain⟨sn2,sk2,rfl,-,-,-,-,uB,lk⟩:=h2;obtain⟨np1,nc1,rfl,nl1,nm1,-,nr1⟩:=Cd;obtain⟨np2,Iu,rfl,nl2,nm2,-,nr2⟩:=uB;obtain⟨kp1,kc1,rfl,kl1,km1,kr1⟩:=ED;obtain⟨kp2,kc2,rfl,kl2,km2,kr2⟩:=lk;refine iY (args:=[.agg (lW v1 (.slice np1 v1.names.length nc1) (.slice kp1 v1.kids.length kc1)).toArray,.agg (lW v2 (.slice np2 v2.names.length Iu) (.slice kp2 v2.kids.length kc2)).toArray]) func165 ntmps165 ?_;refine gY ?_;refine iC fun g1 w1 nh=>?_;have mJ:jl w g1 w1 25 (lW v1 (.slice np1 v1.names.length nc1) (.slice kp1 v1.kids.length kc1)):=nh;clear nh;refine iC fun g2 w2 lI=>?_;have kM:jl w1 g2 w2 25 (lW v2 (.slice np2 v2.names.length Iu) (.slice kp2 v2.kids.length kc2)):=lI;clear lI;have jg:=mJ.below.trans (kM.below.mono mJ.below.size);have B1:=mJ.blk.below kM.below mJ.blk.lt;have B2:=kM.blk;clear mJ kM;have no:∀ {wx:World},iB w wx -> ¬v1=v2 -> (∃b,Ending.returned (Value.bool false)=.returned (.bool b) /\ (b=true ↔ v1=v2)) /\ iB w wx:=fun h1 h2=>⟨⟨false,rfl,by simp[h2]⟩,h1⟩;refine gY ?_;refine ia (B1.cell 0 iz) ?_;refine gY ?_;refine ia (B2.cell 0 iz) ?_
  by_cases e1:v1.k=v2.k
  rotate_left
  ·refine gY ?_
   exact g_ (no jg fun e=>e1 (by rw[e]))
  refine gY ?_;refine ia (B1.cell 1 iz) ?_;refine gY ?_;refine ia (B2.cell 1 iz) ?_
  by_cases e2:v1.n=v2.n
  rotate_left
  ·refine gY ?_
   exact g_ (no jg fun e=>e2 (by rw[e]))
  refine gY ?_;refine ia (B1.cell 2 iz) ?_;refine gY ?_;refine ia (B2.cell 2 iz) ?_
  by_cases e3:v1.s=v2.s
  rotate_left
  ·refine gY ?_
   exact g_ (no jg fun e=>e3 (by rw[e]))
  refine gY ?_;refine ia (B1.cell 3 iz) ?_;refine gY ?_;refine ia (B2.cell 3 iz) ?_
  by_cases e4:v1.t=v2.t
  rotate_left
  ·refine WL.on rfl rfl ?_
   refine WL.xg (.bool true) rfl rfl rfl rfl (by simp[FZ e4]) ?_;refine gY ?_;exact g_ (no jg fun e=>e4 (by rw[e]))
  refine WL.on rfl rfl ?_;refine WL.xg (.bool false) rfl rfl rfl rfl (by simp[e4]) ?_;refine gY ?_;refine ia (B1.cell 4 iz) ?_;refine gY ?_;refine ia (B2.cell 4 iz) ?_
  by_cases e5:v1.names.length=v2.names.length
  rotate_left
  ·refine gY ?_
   exact g_ (no jg fun e=>e5 (by rw[e]))
  refine gY ?_;refine ia (B1.cell 5 iz) ?_;refine gY ?_;refine ia (B2.cell 5 iz) ?_
  by_cases e6:v1.kids.length=v2.kids.length
  rotate_left
  ·refine gY ?_
   exact g_ (no jg fun e=>e6 (by rw[e]))
  have vJ:=jg.size;refine sY ?_;refine WC.sa (fun _:Unit=>[(2,iF g1),(3,iF g2)]) (fun _ wx=>v1.names=v2.names /\ iB w2 wx) rfl ?_ ?_
  ·refine gY ?_
   refine WC.loop (fun i:Nat=>[(2,iF g1),(3,iF g2),(5,Iq i)]) (fun i wx=>i <= v1.names.length /\ v1.names.take i=v2.names.take i /\ iB w2 wx) (fun i=>v1.names.length - i) 0 iW ⟨aw _,iz,Below.refl _ _⟩ ?_;rintro i wr ⟨hi,ht,jC⟩;have R1:=B1.below jC B1.lt;have R2:=B2.below jC B2.lt;refine gY ?_;refine ia (R1.cell 4 iz) ?_
   by_cases je:i<v1.names.length
   ·obtain⟨b1,o1,rfl,Kv,tC⟩:=nr1 gZ
    obtain⟨b2,o2,rfl,w_,rO⟩:=nr2 gZ;have tC:=tC i je;have rO:=rO i gZ;have uH:=jg.trans (jC.mono vJ);refine gY ?_;refine WC.drawn 10 (fun wx=>wx.heap=wr.heap) fun w3 hd=>?_;have hS:=hd.heap;have jF:=jC.trans (hd.below _);refine iq [0] hS ?_;refine ik 1 [3,4,10] (fun wx hx=>(jJ hx _).trans (R1.cell 4 iz)) hS ?_;refine iq [2] hS ?_;refine jV (hq:=gZ) 3 i (o1+i) je (.inr hS) ?_;refine ik 4 [10] (fun wx hx=>(jJ hx _).trans ((uH.cell (p:=⟨b1,o1+i,none⟩) Kv).trans tC)) hS ?_;refine iq [5] hS ?_;refine ik 6 [8,9,10] (fun wx hx=>(jJ hx _).trans (R2.cell 4 iz)) hS ?_;refine iq [7] hS ?_;refine IF 8 i (o2+i) rfl rfl rfl rfl rfl rfl rfl rfl rfl gZ gZ (.inr hS) ?_;refine ik 9 [10] (fun wx hx=>(jJ hx _).trans ((uH.cell (p:=⟨b2,o2+i,none⟩) w_).trans rO)) hS ?_;refine iI 10 ?_;refine iA ?_;refine iO ?_;refine im ?_;refine gY ?_;have qD:v1.names.getD i jz=v1.names[i]:=by simp[je]
    have lN:v2.names.getD i jz=v2.names[i]:=by simp[show i<v2.names.length by omega]
    refine WC.JS rfl (fun kD=>?_) fun heq=>?_
    ·refine gY ?_
     refine g_ (no (jg.trans (jF.mono vJ)) fun e=>?_);have h:=congrArg (fun v=>v.names.getD i jz) e;rw[h] at kD;simp at kD
    ·refine gY ?_
     refine WQ.again (i+1) iW ⟨je,CM ht je gZ ?_,jF⟩ (by show v1.names.length - (i+1)<v1.names.length - i;omega);rw[<- qD,<- lN];refine fH fun kD=>?_;exact FZ kD (by simpa using heq)
   ·obtain rfl:i=v1.names.length:=gZ
    refine gY ?_;exact WQ.meet () iW ⟨by rw[aI,e5,aI] at ht;exact ht,jC⟩
  rintro _ w5 ⟨e7,oY⟩;refine gY ?_;refine WC.loop (fun i:Nat=>[(2,iF g1),(3,iF g2),(6,Iq i)]) (fun i wx=>i <= v1.kids.length /\ v1.kids.take i=v2.kids.take i /\ iB w2 wx) (fun i=>v1.kids.length - i) 0 iW ⟨aw _,iz,oY⟩ ?_;rintro i wr ⟨hi,ht,jC⟩;have R1:=B1.below jC B1.lt;have R2:=B2.below jC B2.lt;refine gY ?_;refine ia (R1.cell 5 iz) ?_
  by_cases je:i<v1.kids.length
  ·obtain⟨b1,o1,rfl,Kv,tC⟩:=kr1 gZ
   obtain⟨b2,o2,rfl,w_,rO⟩:=kr2 gZ;obtain⟨cs1,pY,NO,Hb⟩:=tC i je;obtain⟨cs2,qB,tD,ha2⟩:=rO i gZ;have uH:=jg.trans (jC.mono vJ);have am_:∀ {wx:World},wx.heap=wr.heap -> wx.rangeAt b1 (o1+i*6) cs1:=fun hx j u hu=>(jJ hx _).trans ((uH.cell (p:=⟨b1,o1+i*6+j,none⟩) Kv).trans (Hb j u hu));have aon:∀ {wx:World},wx.heap=wr.heap -> wx.rangeAt b2 (o2+i*6) cs2:=fun hx j u hu=>(jJ hx _).trans ((uH.cell (p:=⟨b2,o2+i*6+j,none⟩) w_).trans (ha2 j u hu));refine gY ?_;refine WC.drawn 10 (fun wx=>wx.heap=wr.heap) fun w3 hd=>?_;have hS:=hd.heap;have jF:=jC.trans (hd.below _);refine iq [0] hS ?_;refine ik 1 [3,4,10,11] (fun wx hx=>(jJ hx _).trans (R1.cell 5 iz)) hS ?_;refine iq [2] hS ?_;refine jV 3 i (o1+i*6) je (.inr hS) ?_;refine jG (hm:=pY) 4 [10,11] (fun wx hx=>am_ hx) hS ?_;refine iq [5] hS ?_;refine ik 6 [8,9,10,11] (fun wx hx=>(jJ hx _).trans (R2.cell 5 iz)) hS ?_;refine iq [7] hS ?_;refine IF 8 i (o2+i*6) rfl rfl rfl rfl rfl rfl rfl rfl rfl gZ rfl (.inr hS) ?_;refine jG (hm:=qB) 9 [10,11] (fun wx hx=>aon hx) hS ?_;refine iI 10 ?_;have aij:=jg.trans (jF.mono vJ);refine il func165 (Im f (NO.below aij) (tD.below aij)) ?_;rintro _ w4 ⟨⟨b,rfl,hb⟩,lD⟩;refine⟨_,rfl,?_⟩;have Tn:=jF.iR lD;refine iO ?_;refine iI 11 ?_;refine iA ?_;refine iO ?_;refine im ?_;refine gY ?_;have qD:v1.kids.getD i lH=v1.kids[i]:=by simp[je]
   have lN:v2.kids.getD i lH=v2.kids[i]:=by simp[show i<v2.kids.length by omega]
   refine WC.JS rfl (fun kD=>?_) fun heq=>?_
   ·refine gY ?_
    refine g_ (no (jg.trans (Tn.mono vJ)) fun e=>?_);have:=hb.2 (by rw[e]);simp[this] at kD
   ·refine gY ?_
    refine WQ.again (i+1) iW ⟨je,CM ht je gZ ?_,Tn⟩ (by show v1.kids.length - (i+1)<v1.kids.length - i;omega);rw[<- qD,<- lN];exact hb.1 (by simpa using heq)
  ·obtain rfl:i=v1.kids.length:=gZ
   refine gY ?_;refine g_ ⟨⟨true,rfl,⟨fun _=>?_,fun _=>rfl⟩⟩,jg.trans (jC.mono vJ)⟩;rw[aI,e6,aI] at ht;exact V.ext' e1 e2 e3 e4 e7 ht
end K
end Go.Proofs.YtlenklobbngopaaGreat
