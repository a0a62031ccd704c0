/- Texts for LawVwRp, part 2 of 9. -/
import Derived.Test.YtchgjaaadfjiiaaGreatZLawVwRp1
import Derived.Lib.AppendStr
import Derived.ProofKit
import Derived.OpenShut
import Derived.ShutString
import Derived.ChangeOld
import Derived.Below
import Derived.Deep.Slices
import Derived.Deep.MidRow
import Derived.Laws.Bits64b
import Derived.Laws.BitsLemmas
import Derived.Laws.BitsAllLaws
namespace Go.Proofs.YtchgjaaadfjiiaaGreat
open Go.RowKit
namespace K
variable {n : NN} {Q : Exit → Act → World → Prop} {l : Env} {w w' : World} {ops : Array Oper} {o : Oper} {rest : List Oper} {d : Nat}
theorem WL.le {m : Env} (hs : ∀ k v,look m k = some v → look l k = some v) (h : WL n ops Q rest m w) : WL n ops Q rest l w:=⟨fun a ha => h.go a ⟨ha.size,ha.defers,fun k v hk => ha.slot k v (hs k v hk)⟩⟩
theorem WL.as (k : Nat) (v' : Value) {v : Value} (hk : look l k = some v) (e : v = v') (h : WL n ops Q rest ((k,v') :: l) w) : WL n ops Q rest l w :=
  h.le fun j u hj => by
    unfold look at hj;cases hb : Nat.beq k j with
    | true =>
      rw [hb] at hj;obtain rfl : k = j:=Nat.eq_of_beq_eq_true hb;obtain rfl : v' = u:=Option.some.inj hj;subst e;exact hk
    | false => rw [hb] at hj;exact hj
theorem look_free {d d2 : Nat} {u v' : Value} (hf : look l d = none) : ∀ k v,look ((d2,v') :: l) k = some v → look ((d2,v') :: (d,u) :: l) k = some v:=by
  intro k v hk;unfold look at hk ⊢;cases hb : Nat.beq d2 k with
  | true => rw [hb] at hk;exact hk
  | false =>
    rw [hb] at hk;unfold look;cases hb2 : Nat.beq d k with
    | true => obtain rfl : d = k:=Nat.eq_of_beq_eq_true hb2;rw [cond_false] at hk;rw [hf] at hk;cases hk
    | false => exact hk
theorem WL.nil (h : WQ n Q .normal l w) : WL n ops Q [] l w:=⟨fun a ha => lw_nil (h.go a ha)⟩
theorem WL.step {v : Value} (hg : o.guard = none) (hd : o.dst = some d) (hn : Nat.blt d n.n = true) (hr : ∀ a,Fr n a l → (execOp a.eval o).run Tryz.prog w = .ok (.value v) w')
    (h : WL n ops Q rest ((d,v) :: l) w') : WL n ops Q (o :: rest) l w :=
  ⟨fun a ha => lw_value hg (hr a ha) (by rw [hd];exact h.go _ (ha.put hn v))⟩
theorem WL.stepU (hg : o.guard = none) (hd : o.dst = none) (hr : ∀ a,Fr n a l → (execOp a.eval o).run Tryz.prog w = .ok .skip w') (h : WL n ops Q rest l w') : WL n ops Q (o :: rest) l w :=
  ⟨fun a ha => lw_skip hg (hr a ha) (by rw [hd];exact h.go _ (ha.none _))⟩
theorem WL.pure {v : Value} (hg : o.guard = none) (hd : o.dst = some d) (hn : Nat.blt d n.n = true) (hv : pv ty l o.op = some v) (h : WL n ops Q rest ((d,v) :: l) w) : WL n ops Q (o :: rest) l w :=
  WL.step hg hd hn (fun _ ha => pv_run tyOk ha hv w) h
theorem WL.pureAs {v : Value} (v' : Value) (hg : o.guard = none) (hd : o.dst = some d) (hn : Nat.blt d n.n = true) (hv : pv ty l o.op = some v) (e : v = v') (h : WL n ops Q rest ((d,v') :: l) w) : WL n ops Q (o :: rest) l w :=
  WL.step hg hd hn (fun _ ha => pv_run tyOk ha (hv.trans (congrArg some e)) w) h
theorem WL.top {v v' : Value} (e : v = v') (h : WL n ops Q rest ((d,v') :: l) w) : WL n ops Q rest ((d,v) :: l) w:=by subst e;exact h
theorem WL.topT {p : Prop} [Decidable p] (hp : p) (h : WL n ops Q rest ((d,.bool true) :: l) w) : WL n ops Q rest ((d,.bool (decide p)) :: l) w:=WL.top (congrArg Value.bool (decide_eq_true hp)) h
theorem WL.topF {p : Prop} [Decidable p] (hp : ¬ p) (h : WL n ops Q rest ((d,.bool false) :: l) w) : WL n ops Q rest ((d,.bool (decide p)) :: l) w:=WL.top (congrArg Value.bool (decide_eq_false hp)) h
theorem WL.top64 {x : Int} (hx : -9223372036854775808 ≤ x ∧ x ≤ 9223372036854775807) (h : WL n ops Q rest ((d,.int .i64 x) :: l) w) : WL n ops Q rest ((d,.int .i64 (IntKind.wrap .i64 x)) :: l) w:=WL.top (congrArg (Value.int .i64) (IntWalk.i64_in _ hx)) h
def isB : Value → Option Bool
  | .bool b => some b
  | _ => none
def asked (b : Bool) : Option Bool → Bool
  | some c => c == b
  | none => false
def wants (ops : Array Oper) (l : Env) (o : Oper) : Option Bool :=
  match o.guard with
  | none => some true
  | some (j,b) => match (ops[j]?).bind (·.dst) with
    | some t => match look l t with
      | some v => some (asked b (isB v))
      | none => none
    | none => none
theorem wants_run {a : Act} {b : Bool} (ha : Fr n a l) (h : wants ops l o = some b) : Region.wanted o (yielded ops a.tmps) = b:=by
  unfold wants at h;unfold Region.wanted yielded;cases hg : o.guard with
  | none => rw [hg] at h;obtain rfl:=Option.some.inj h;rfl
  | some x =>
    obtain ⟨j,wt⟩:=x;rw [hg] at h;simp only at h ⊢;cases hj : (ops[j]?).bind (·.dst) with
    | none => rw [hj] at h;cases h
    | some t =>
      rw [hj] at h;simp only at h
      split at h
      · rename_i v hl
        obtain rfl:=Option.some.inj h;simp only [Option.bind_some,ha.slot t _ hl];cases v <;> rfl
      · cases h
theorem WL.on (hw : wants ops l o = some true) (_hg : o.guard.isSome = true) (h : WL n ops Q ({ o with guard:=none } :: rest) l w) : WL n ops Q (o :: rest) l w :=
  ⟨fun a ha => lw_on (wants_run ha hw) (h.go a ha)⟩
theorem WL.off (hw : wants ops l o = some false) (hd : o.dst = some d) (hn : Nat.blt d n.n = true) (h : WL n ops Q rest ((d,undef) :: l) w) : WL n ops Q (o :: rest) l w :=
  ⟨fun a ha => lw_off (wants_run ha hw) (by rw [hd];exact h.go _ (ha.put hn undef))⟩
def scal : Option TyD → Bool
  | some (.struct _ _) | some (.arr _ _ _) | none => false
  | _ => true
theorem scal_run {t : Nat} (h : scal (tyOf ty t) = true) (p : Addr) {v : Value} (hc : w.cell? p = some v) : (loadVar t p).run Tryz.prog w = .ok v w:=by
  cases ht : tyOf ty t with
  | none => rw [ht] at h;cases h
  | some x =>
    rw [ht] at h;have hagg : (isAgg t).run Tryz.prog w = .ok false w:=by
      unfold isAgg;rw [Sem.run_bind];cases x with
      | int k => have:=TyOk.of tyOk ht;rw [run_underlying this w];rfl
      | str => have:=TyOk.of tyOk ht;rw [run_underlying this w];rfl
      | bool => have:=TyOk.of tyOk ht;rw [run_underlying this w];rfl
      | ptr e => have:=TyOk.of tyOk ht;rw [run_underlying this w];rfl
      | map k e => have:=TyOk.of tyOk ht;rw [run_underlying this w];rfl
      | slice e s => have:=TyOk.of tyOk ht;rw [run_underlying this.1 w];rfl
      | struct m fs => cases h
      | arr m e s => cases h
    simp [loadVar,Sem.run_bind,hagg,hc]
theorem WL.load {t : Nat} {x : Operand} {p : Addr} {v : Value} (hg : o.guard = none) (hd : o.dst = some d) (hn : Nat.blt d n.n = true) (ho : o.op = .load t x) (hx : evl l x = some (.pointer (some p))) (ht : scal (tyOf ty t) = true)
    (hc : w.cell? p = some v) (h : WL n ops Q rest ((d,v) :: l) w) : WL n ops Q (o :: rest) l w :=
  WL.step hg hd hn (fun a ha => by unfold execOp;rw [ho];simp [ha.eval hx,Instr.loadAt,Instr.sureAddr,scal_run ht p hc]) h
theorem WL.loadMid {t : Nat} {x : Operand} {b off m : Nat} {cs : List Value} (hg : o.guard = none) (hd : o.dst = some d) (hn : Nat.blt d n.n = true) (ho : o.op = .load t x)
    (hx : evl l x = some (.pointer (some ⟨b,off,none⟩))) (ht : cellsN (tyOf ty t) = some m) (hc : w.rangeAt b off cs) (hm : cs.length = m) (h : WL n ops Q rest ((d,.agg cs.toArray) :: l) w) : WL n ops Q (o :: rest) l w :=
  WL.step hg hd hn (fun a ha => by
    obtain ⟨d,hu,hd,hsz⟩:=cellsN_ok tyOk ht;unfold execOp;rw [ho];have:=run_loadVar_mid (P:=Tryz.prog) w b off t cs _ hc hu hd (by rw [hsz,hm]);simp [ha.eval hx,Instr.loadAt,Instr.sureAddr,this]) h
theorem WL.store {t : Nat} {x y : Operand} {p : Addr} {v old : Value} (hg : o.guard = none) (hd : o.dst = none) (ho : o.op = .store t x y) (hx : evl l x = some (.pointer (some p))) (hy : evl l y = some v)
    (hv : v.oneCell' = true) (hsz : (Tryz.prog.info? t).map (·.size) = some 1) (hc : w.cell? p = some old) (hf : w.frozen? p = false) (h : WL n ops Q rest l (w.setCell p v)) : WL n ops Q (o :: rest) l w :=
  WL.stepU hg hd (fun a ha => by
    have hs : (sizeOf t).run Tryz.prog w = .ok 1 w:=by
      cases hq : Tryz.prog.info? t with
      | none => rw [hq] at hsz;cases hsz
      | some q => rw [hq] at hsz;simp at hsz;simp [sizeOf,typeInfo,hq,hsz]
    have hvc : v.cells = #[v]:=by cases v <;> first | rfl | cases hv
    unfold execOp;rw [ho];simp only [ha.eval hx,ha.eval hy,Instr.storeAt,Instr.sureAddr,storeVar,Sem.run_bind,Sem.run_pure,Result.andThen_ok,hs,hvc];simp [storeCells,run_store Tryz.prog w p v _ hv,hc,hf,Addr.add_zero']) h
theorem WL.storeRow {t m T : Nat} {x y : Operand} {g : Nat} {cs old : List Value} (hg : o.guard = none) (hd : o.dst = none) (ho : o.op = .store t x y) (hx : evl l x = some (.pointer (some ⟨g,0,none⟩)))
    (hy : evl l y = some (.agg cs.toArray)) (ht : cellsN (tyOf ty t) = some m) (hb : VBlk T w g old) (hm : cs.length = m) (hold : old.length = m) (h1 : Ones cs) (h : WL n ops Q rest l (w.setRow g cs.toArray)) : WL n ops Q (o :: rest) l w :=
  ⟨fun a ha => lw_via hg (by rw [ho];intro c hc;cases hc) <| wpList_store_rowTo hg t x y ho hd g cs.toArray (ha.eval hx) (ha.eval hy) T old.toArray hb (by obtain ⟨d,-,-,hsz⟩:=cellsN_ok tyOk ht;rw [hsz];simp [hm]) (by simp [hm,hold])
    (by simp only [List.all_toArray,List.all_eq_true];exact h1) (h.go a ha)⟩
theorem WL.box {t : Nat} {x : Operand} {v : Value} (hg : o.guard = none) (hd : o.dst = some d) (hn : Nat.blt d n.n = true) (ho : o.op = .box t x) (hx : evl l x = some v)
    (h : ∀ g w',Fresh w g w' t v.cells.toList → WL n ops Q rest ((d,.pointer (some ⟨g,0,none⟩)) :: l) w') : WL n ops Q (o :: rest) l w :=
  WL.step hg hd hn (fun a ha => by unfold execOp;rw [ho];simp [ha.eval hx,Instr.box,newVar,newRow]) (h _ _ (Fresh.mk' w t v.cells.toList))
theorem WL.alloc {t : Nat} {z : Value} (hg : o.guard = none) (hd : o.dst = some d) (hn : Nat.blt d n.n = true) (ho : o.op = .alloc t) (hz : ∀ w,(zeroValue t).run Tryz.prog w = .ok z w)
    (h : ∀ g w',Fresh w g w' t z.cells.toList → WL n ops Q rest ((d,.pointer (some ⟨g,0,none⟩)) :: l) w') : WL n ops Q (o :: rest) l w :=
  WL.step hg hd hn (fun a ha => by unfold execOp;rw [ho];simp [Instr.alloc,newVar,newRow,hz]) (h _ _ (Fresh.mk' w t z.cells.toList))
theorem evlAll_map {a : Act} (ha : Fr n a l) : ∀ {xs : List Operand} {vs : List Value},evlAll l xs = some vs → xs.map a.eval = vs
  | [],vs,h => by cases h;rfl
  | x :: xs,vs,h => by
    unfold evlAll at h
    split at h
    · rename_i v r h1 h2
      obtain rfl:=Option.some.inj h;rw [List.map_cons,ha.eval h1,evlAll_map ha h2]
    · cases h
theorem WL.call {f : FuncId} {fn : Func} {args : List Operand} {ts : Array TypeId} {vs : List Value} {R : Ending → World → Prop} (hg : o.guard = none) (hd : o.dst = some d) (hn : Nat.blt d n.n = true)
    (ho : o.op = .call { callee := .value (.func f), args := args.toArray, argTypes := ts }) (hv : evlAll l args = some vs) (hf : Tryz.prog.funcs[f]? = some fn) (hb : fn.body.isNone = false) (hname : (fn.name == "runtime.NumGoroutine") = false)
    (hc : Calls Tryz.prog f vs.toArray w R) (h : ∀ e w',R e w' → ∃ v,e = .returned v ∧ WL n ops Q rest ((d,v) :: l) w') : WL n ops Q (o :: rest) l w :=
  ⟨fun a ha => by
    have hrun : (execOp a.eval o).run Tryz.prog w = .ok (.enter f vs.toArray) w:=by
      unfold execOp;rw [ho];have:=evlAll_map ha hv;have e1 : (args.toArray.map a.eval) = vs.toArray:=by rw [List.map_toArray,this]
      have e2 : a.eval (.func f) = .func (.func f) #[] #[]:=rfl;have hb' : ¬ fn.body = none:=fun e => by rw [e] at hb;cases hb
      have hn' : ¬ fn.name = "runtime.NumGoroutine" := by simpa using hname
      simp [resolve,e1,e2,Deferred.ofValue,invoke,callFunc,hf,hb',hn']
    refine lw_enter hg hrun (hc.mono fun e w'' hh => ?_);obtain ⟨v,rfl,hwl⟩:=h e w'' hh;exact ⟨v,rfl,by rw [hd];exact hwl.go _ (ha.put hn v)⟩⟩
def evI (k : IntKind) (l : Env) : List (Nat × Operand) → Nat → Option (List Int)
  | [],_ => some []
  | (j,x) :: r,i => match Nat.beq j i,evl l x,evI k l r (i + 1) with
    | true,some (.int k' z),some zs => if k' = k then some (z :: zs) else none
    | _,_,_ => none
theorem evI_map {a : Act} (ha : Fr n a l) {k : IntKind} : ∀ {xs : List (Nat × Operand)} {i : Nat} {zs : List Int},evI k l xs i = some zs → (xs.map fun x => (x.1,a.eval x.2)) = (((zs.map (Value.int k)).zipIdx i).map fun x => (x.2,x.1)) ∧ xs.length = zs.length
  | [],_,zs,h => by cases h;exact ⟨rfl,rfl⟩
  | (j,x) :: xs,i,zs,h => by
    unfold evI at h
    split at h
    · rename_i k' z r hb hx hr
      split at h
      · rename_i e
        subst e;obtain rfl:=Option.some.inj h;obtain ⟨h1,h2⟩:=evI_map ha hr;obtain rfl : j = i:=Nat.eq_of_beq_eq_true hb;refine ⟨?_,by simp [h2]⟩;rw [List.map_cons,h1,ha.eval hx]
        rfl
      · cases h
    · cases h
theorem WL.lit {len : Nat} {parts : List (Nat × Operand)} {zs : List Int} (hg : o.guard = none) (hd : o.dst = some d) (hn : Nat.blt d n.n = true) (ho : o.op = .buildSlice 119 len parts.toArray) (hz : evI .u8 l parts 0 = some zs)
    (hl : Nat.beq len zs.length = true) (hs : (Nat.blt 0 len && Nat.blt len 1000) = true)
    (h : ∀ v w',Bu w' v zs → Below w.heap.size w w' → (∀ g,v.ownBlock = some g → w.heap.size ≤ g) → WL n ops Q rest ((d,v) :: l) w') : WL n ops Q (o :: rest) l w:=by
  have hl' : len = zs.length:=Nat.eq_of_beq_eq_true hl;rw [Bool.and_eq_true,Nat.blt_eq,Nat.blt_eq] at hs;obtain ⟨hs1,hs2⟩:=hs;have hq : (Tryz.prog.info? 5).map (fun i => (i.zero,i.size)) = some (some (.int .u8 0),1):=by kernel_rfl
  obtain ⟨ie,hie,he⟩:=Option.map_eq_some_iff.1 hq;obtain ⟨hz0,hsz⟩:=Prod.mk.inj he;refine WL.step hg hd hn (w':=w.alloc (.cells (zs.map (Value.int .u8)).toArray 5)) (v:=.slice (some ⟨w.heap.size,0,none⟩) len len) (fun a ha => ?_) (h _ _ ?_ ?_ ?_)
  · unfold execOp
    rw [ho];obtain ⟨h1,h2⟩:=evI_map ha hz;have hf : Instr.fill (fun i => some (i * ie.size,ie.size)) ((Array.range (len * ie.size)).map ((Value.int .u8 0).cells[· % (Value.int .u8 0).cells.size]!)) (parts.toArray.map fun x => (x.1,a.eval x.2)).toList = some (zs.map (Value.int .u8)).toArray:=by
      rw [Array.toList_map,h1,hsz];exact Great.fill_flat _ _ (fun v hv => by obtain ⟨m,_,rfl⟩:=List.mem_map.1 hv;rfl) (by simp [hl'])
    have:=run_buildSlice (P:=Tryz.prog) w 119 5 len (parts.toArray.map fun x => (x.1,a.eval x.2)) _ ie _ Tryz.underlying119 hie hz0 (by rw [hsz];omega) (by rw [hsz];omega) hf;simp only [Sem.run_bind,this,Result.andThen_ok]
    rfl
  · rw [hl'];exact Bu.new w zs (by unfold maxLen;omega)
  · exact (Below.refl _ w).alloc (Nat.le_refl _) _
  · intro g hg2;cases hg2;exact Nat.le_refl _
theorem WL.app {s x : Operand} {v xv : Value} {l1 l2 : List Int} (hg : o.guard = none) (hd : o.dst = some d) (hn : Nat.blt d n.n = true)
    (ho : o.op = .call { callee:=.builtin .append,args:=#[s,x],argTypes:=#[119,119] }) (hs : evl l s = some v) (hown : Bu w v l1) (hx : evl l x = some xv) (hsl : Sl .u8 w xv l2) (hb : l1.length + l2.length ≤ 140737488355328)
    (h : ∀ v' w',Bu w' v' (l1 ++ l2) → Grow w v w' v' → WL n ops Q rest ((d,v') :: l) w') : WL n ops Q (o :: rest) l w :=
  ⟨fun a ha => by
    have ho1 : OwnV 5 1 w (fun g => v.ownBlock = some g) v l1.length (l1.map (Value.int .u8)):=⟨hown,Ones.int _ _,fun g hg => hg⟩;refine lw_via hg (by rw [ho];intro c hc;cases hc) ?_;refine wpList_appV hg s x 119 ho elemU8 (ha.eval hs) ho1 (ha.eval hx) (Sl.slV hsl) rfl (by unfold maxLen;omega) (by omega) ?_;intro sp c w' h2 h3 h4;rw [hd];refine (h _ w' ?_ ⟨grown_keep h3,fun g hg => (h4 g hg).imp id (fun e => by omega)⟩).go _ (ha.put hn _);have h5:=h2.1;rw [← List.map_append] at h5
    show World.ownsRow _ _ _ _ _ _ _
    rw [List.length_append];exact h5⟩
theorem WL.push {o2 : Oper} {d2 : Nat} {len : Nat} {parts : List (Nat × Operand)} {zs : List Int} {s : Operand} {v : Value} {l1 : List Int} (hg : o.guard = none) (hd : o.dst = some d) (hn : Nat.blt d n.n = true) (ho : o.op = .buildSlice 119 len parts.toArray)
    (hz : evI .u8 l parts 0 = some zs) (hl : Nat.beq len zs.length = true) (hs : (Nat.blt 0 len && Nat.blt len 1000) = true) (hg2 : o2.guard = none) (hd2 : o2.dst = some d2) (hn2 : Nat.blt d2 n.n = true)
    (ho2 : o2.op = .call { callee:=.builtin .append,args:=#[s,.tmp d],argTypes:=#[119,119] }) (hsv : ∀ u,evl ((d,u) :: l) s = some v) (hfr : look l d = none) (hown : Bu w v l1) (hb : l1.length + zs.length ≤ 140737488355328)
    (h : ∀ v' w',Bu w' v' (l1 ++ zs) → Grow w v w' v' → WL n ops Q rest ((d2,v') :: l) w') : WL n ops Q (o :: o2 :: rest) l w:=by
  refine WL.lit hg hd hn ho hz hl hs fun u w1 hu hb1 _ => ?_;refine WL.app hg2 hd2 hn2 ho2 (hsv u) (hown.below hb1) (by unfold evl look;simp) hu.sl hb fun v' w2 h2 g2 => ?_;exact (h v' w2 h2 (((Grow.refl w v).below hb1).trans g2)).le (look_free hfr)
end K
namespace K
variable {n : NN} {Q : Exit → Act → World → Prop} {l : Env} {w w' : World} {ops : Array Oper} {o : Oper} {rest : List Oper} {d : Nat}
theorem WQ.then {K : Act → World → Prop} {c : Code} (hK : K = cw n.md Tryz.prog c Q) (h : WC n c Q l w) : WQ n (Exit.then K Q) .normal l w:=⟨fun a ha => by subst hK;exact h.go a ha⟩
theorem WQ.thenExit {K : Act → World → Prop} {id : Nat} (h : WQ n Q (.exit id) l w) : WQ n (Exit.then K Q) (.exit id) l w:=⟨fun a ha => h.go a ha⟩
theorem WQ.thenRet {K : Act → World → Prop} (h : WQ n Q .ret l w) : WQ n (Exit.then K Q) .ret l w:=⟨fun a ha => h.go a ha⟩
theorem WQ.blk {id : Nat} (h : WQ n Q .normal l w) : WQ n (Exit.inBlock id Q) .normal l w:=⟨fun a ha => h.go a ha⟩
theorem WQ.blkRet {id : Nat} (h : WQ n Q .ret l w) : WQ n (Exit.inBlock id Q) .ret l w:=⟨fun a ha => h.go a ha⟩
theorem WQ.blkHere {id id' : Nat} (hi : Nat.beq id' id = true) (h : WQ n Q .normal l w) : WQ n (Exit.inBlock id Q) (.exit id') l w :=
  ⟨fun a ha => by show if id' = id then Q .normal a w else Q (.exit id') a w;rw [if_pos (Nat.eq_of_beq_eq_true hi)];exact h.go a ha⟩
theorem WQ.blkOther {id id' : Nat} (hi : Nat.beq id' id = false) (h : WQ n Q (.exit id') l w) : WQ n (Exit.inBlock id Q) (.exit id') l w :=
  ⟨fun a ha => by show if id' = id then Q .normal a w else Q (.exit id') a w;rw [if_neg (Nat.ne_of_beq_eq_false hi)];exact h.go a ha⟩
theorem WQ.again {ι : Type} {L : ι → Env} {W : ι → World → Prop} {μ : ι → Nat} {i : ι} (j : ι) (hs : Sub l (L j)) (hw : W j w) (hm : μ j < μ i) : WQ n (Exit.then (Again n L W μ i) Q) .normal l w :=
  ⟨fun _ ha => ⟨j,ha.sub hs,hw,hm⟩⟩
theorem WC.mid {ι : Type} {x y : Code} {K : Act → World → Prop} (L : ι → Env) (W : ι → World → Prop) (hK : K = cw n.md Tryz.prog y Q) (h1 : WC n x (Exit.then (Meet n L W) Q) l w) (h2 : ∀ i w',W i w' → WC n y Q (L i) w') : WC n x (Exit.then K Q) l w :=
  ⟨fun a ha => cw_mono (fun e a w q => by
    subst hK;cases e with
    | normal => obtain ⟨i,hf,hw⟩:=q;exact (h2 i w hw).go a hf
    | exit id => exact q
    | goto l => exact q
    | ret => exact q
    | panic ch => exact q
    | outgrown => exact q) (h1.go a ha)⟩
theorem WL.mid {ι : Type} {y : Code} {K : Act → World → Prop} (L : ι → Env) (W : ι → World → Prop) (hK : K = cw n.md Tryz.prog y Q) (h1 : WL n ops (Exit.then (Meet n L W) Q) rest l w) (h2 : ∀ i w',W i w' → WC n y Q (L i) w') : WL n ops (Exit.then K Q) rest l w :=
  ⟨fun a ha => lw_mono (fun e a w q => by
    subst hK;cases e with
    | normal => obtain ⟨i,hf,hw⟩:=q;exact (h2 i w hw).go a hf
    | exit id => exact q
    | goto l => exact q
    | ret => exact q
    | panic ch => exact q
    | outgrown => exact q) (h1.go a ha)⟩
theorem WQ.meet {ι : Type} {L : ι → Env} {W : ι → World → Prop} (i : ι) (hs : Sub l (L i)) (hw : W i w) : WQ n (Exit.then (Meet n L W) Q) .normal l w:=⟨fun _ ha => ⟨i,ha.sub hs,hw⟩⟩
section
variable {fn : Func} {R : Ending → World → Prop}
theorem Fr.getD {a : Act} (ha : Fr n a l) {t : Nat} {v : Value} (h : look l t = some v) : a.tmps.getD t undef = v:=by have:=ha.slot t v h;rw [Array.getD_eq_getD_getElem?,this];rfl
theorem WQ.ret1 {kn : Nat} {md : Option (Option Nat)} {t : Nat} {v : Value} (hr : fn.results = #[.tmp t]) (hl : look l t = some v) (h : R (.returned v) w) : WQ ⟨kn,[],md⟩ (bodyPost Tryz.prog fn R) .ret l w :=
  ⟨fun a ha => ⟨ha.defers,v,by have:=ha.getD hl;simp only [Array.getD_eq_getD_getElem?] at this;simp [results,hr,this],h⟩⟩
theorem WQ.ret2 {kn : Nat} {md : Option (Option Nat)} {t t2 : Nat} {v v2 : Value} (hr : fn.results = #[.tmp t,.tmp t2]) (hl : look l t = some v) (hl2 : look l t2 = some v2) (h : R (.returned (.tuple #[v,v2])) w) : WQ ⟨kn,[],md⟩ (bodyPost Tryz.prog fn R) .ret l w :=
  ⟨fun a ha => ⟨ha.defers,_,by rw [results_tmp2 hr,ha.getD hl,ha.getD hl2],h⟩⟩
end
theorem idx_run {a : Act} {t e s : Nat} {x i : Operand} {b off len cap : Nat} {k : IntKind} {z : Int} {j : Nat} (ho : o.op = .indexAddr t x i) (ht : tyOf ty t = some (.slice e s))
    (hx : a.eval x = .slice (some ⟨b,off,none⟩) len cap) (hi : a.eval i = .int k z) (hz : z = (j : Int)) (hj : j < len) : (execOp a.eval o).run Tryz.prog w = .ok (.value (.pointer (some ⟨b,off + j * s,none⟩))) w:=by
  obtain ⟨hu,hsz⟩:=TyOk.of tyOk ht;have he : Tryz.prog.elem t = e:=by simp [Program.elem,hu]
  have hs : (sizeOf e).run Tryz.prog w = .ok s w:=by
    cases hq : Tryz.prog.info? e with
    | none => rw [hq] at hsz;cases hsz
    | some q => rw [hq] at hsz;simp at hsz;simp [sizeOf,typeInfo,hq,hsz]
  unfold execOp;rw [ho];simp only [hx,hi,Sem.run_bind,run_indexAt_slice w t _ len cap k z (by rw [he];exact hu)];rw [if_pos (by omega),he,hs,hz];simp [Addr.add_mid]
theorem WL.idx {t e s : Nat} {x i : Operand} {b off len cap : Nat} {k : IntKind} {z : Int} (j q : Nat) (hg : o.guard = none) (hd : o.dst = some d) (hn : Nat.blt d n.n = true) (ho : o.op = .indexAddr t x i) (ht : tyOf ty t = some (.slice e s))
    (hx : evl l x = some (.slice (some ⟨b,off,none⟩) len cap)) (hi : evl l i = some (.int k z)) (hz : z = (j : Int)) (hj : j < len) (hq : off + j * s = q) (h : WL n ops Q rest ((d,.pointer (some ⟨b,q,none⟩)) :: l) w) : WL n ops Q (o :: rest) l w :=
  WL.step hg hd hn (fun _ ha => by rw [← hq];exact idx_run ho ht (ha.eval hx) (ha.eval hi) hz hj) h
def bytesI (s : ByteArray) : List Int:=s.toList.map fun c => (c.toNat : Int)
theorem bytesI_len (s : ByteArray) : (bytesI s).length = s.size:=by unfold bytesI;rw [List.length_map,ByteArray.toList_eq];rfl
def evlParts (l : Env) : List (Nat × Operand) → Option (List (Nat × Value))
  | [] => some []
  | (i,x) :: r => match evl l x,evlParts l r with
    | some v,some vs => some ((i,v) :: vs)
    | _,_ => none
theorem evlParts_map {a : Act} (ha : Fr n a l) : ∀ {xs : List (Nat × Operand)} {vs : List (Nat × Value)},evlParts l xs = some vs → (xs.map fun x => (x.1,a.eval x.2)) = vs
  | [],vs,h => by cases h;rfl
  | (i,x) :: xs,vs,h => by
    unfold evlParts at h
    split at h
    · rename_i v r h1 h2
      obtain rfl:=Option.some.inj h;rw [List.map_cons,ha.eval h1,evlParts_map ha h2]
    · cases h
theorem WL.build {t : Nat} {parts : List (Nat × Operand)} {ps : List (Nat × Value)} (cells : List Value) (hg : o.guard = none) (hd : o.dst = some d) (hn : Nat.blt d n.n = true) (ho : o.op = .build t parts.toArray) (hp : evlParts l parts = some ps)
    (hf : Tryz.prog.built t ps = some cells.toArray) (h : WL n ops Q rest ((d,.agg cells.toArray) :: l) w) : WL n ops Q (o :: rest) l w :=
  ⟨fun a ha => lw_via hg (by rw [ho];intro c hc;cases hc) <| wpList_buildTo hg t parts.toArray ho (some d) hd cells.toArray (by
    rw [show (parts.toArray.map fun x => (x.1,a.eval x.2)).toList = ps by rw [Array.toList_map];exact evlParts_map ha hp];exact hf) (h.go _ (ha.put hn _))⟩
def litCells (P : Program) (e len : Nat) (ps : List (Nat × Value)) : Option (Array Value) :=
  match P.info? e with
  | some ie => match ie.zero with
    | some z => if 0 < len * ie.size ∧ len * ie.size ≤ 1000 then Instr.fill (fun i => some (i * ie.size,ie.size)) ((Array.range (len * ie.size)).map (z.cells[· % z.cells.size]!)) ps else none
    | none => none
  | none => none
theorem WL.litV {t e s len : Nat} {parts : List (Nat × Operand)} {ps : List (Nat × Value)} (cells : List Value) (hg : o.guard = none) (hd : o.dst = some d) (hn : Nat.blt d n.n = true) (ho : o.op = .buildSlice t len parts.toArray) (ht : tyOf ty t = some (.slice e s))
    (hp : evlParts l parts = some ps) (hf : litCells Tryz.prog e len ps = some cells.toArray) (h : ∀ g w',Fresh w g w' e cells → WL n ops Q rest ((d,.slice (some ⟨g,0,none⟩) len len) :: l) w') : WL n ops Q (o :: rest) l w :=
  WL.step hg hd hn (fun a ha => by
    unfold litCells at hf;cases hie : Tryz.prog.info? e with
    | none => rw [hie] at hf;cases hf
    | some ie =>
      rw [hie] at hf;simp only at hf;cases hz : ie.zero with
      | none => rw [hz] at hf;cases hf
      | some z =>
        rw [hz] at hf;simp only at hf
        split at hf
        · rename_i hlen
          unfold execOp;rw [ho];have hpm:=evlParts_map ha hp;have:=run_buildSlice (P:=Tryz.prog) w t e len (parts.toArray.map fun x => (x.1,a.eval x.2)) cells.toArray ie z (TyOk.of tyOk ht).1 hie hz (by omega) (by omega) (by rw [Array.toList_map];simp only;rw [hpm];exact hf);simp only [Sem.run_bind,this,Result.andThen_ok]
          rfl
        · cases hf) (h _ _ (Fresh.mk' w e cells))
end K
namespace K
structure Hold (Q : Prop) : Prop where
  out : Q
theorem kgo {P Q : Prop} (q : Q) (h : Hold Q → P:=by intro q;(repeat (first | ((with_reducible refine WL.topT ?_ ?_);omega) | ((with_reducible refine WL.topF ?_ ?_);omega) | ((with_reducible refine WL.top64 ?_ ?_);omega) | refine WC.seq ?_ | refine WC.block ?_ | refine WC.region ?_ | refine WL.nil ?_ | refine WC.skip ?_ | refine WC.exit ?_ | refine WC.ret ?_ | refine WQ.then rfl ?_ | refine WQ.thenExit ?_ | refine WQ.thenRet ?_ | refine WQ.blk ?_ | refine WQ.blkRet ?_ | refine WQ.blkHere rfl ?_ | refine WQ.blkOther rfl ?_ | refine WL.pure rfl rfl rfl rfl ?_ | refine WL.on rfl rfl ?_ | refine WL.off rfl rfl rfl ?_ | refine WC.condTrue rfl ?_ | refine WC.condFalse rfl ?_));exact q.out) : P:=h ⟨q⟩
theorem kgl {P Q : Prop} (q : Q) (h : Hold Q → P:=by intro q;(repeat (first | ((with_reducible refine WL.topT ?_ ?_);omega) | ((with_reducible refine WL.topF ?_ ?_);omega) | ((with_reducible refine WL.top64 ?_ ?_);omega) | refine WC.seq ?_ | refine WC.block ?_ | refine WC.region ?_ | refine WL.nil ?_ | refine WC.skip ?_ | refine WC.exit ?_ | refine WC.ret ?_ | refine WQ.then rfl ?_ | refine WQ.thenExit ?_ | refine WQ.thenRet ?_ | refine WQ.blk ?_ | refine WQ.blkRet ?_ | refine WQ.blkHere rfl ?_ | refine WQ.blkOther rfl ?_ | refine WL.pure rfl rfl rfl rfl ?_ | refine WL.on rfl rfl ?_ | refine WL.off rfl rfl rfl ?_ | refine WL.load rfl rfl rfl rfl rfl rfl (by assumption) ?_ | refine WC.condTrue rfl ?_ | refine WC.condFalse rfl ?_));exact q.out) : P:=h ⟨q⟩
theorem kgn {P Q : Prop} (q : Q) (h : Hold Q → P:=by intro q;(repeat (first | refine WC.seq ?_ | refine WC.block ?_ | refine WC.region ?_ | refine WL.nil ?_ | refine WC.skip ?_ | refine WC.exit ?_ | refine WC.ret ?_ | refine WQ.then rfl ?_ | refine WQ.thenExit ?_ | refine WQ.thenRet ?_ | refine WQ.blk ?_ | refine WQ.blkRet ?_ | refine WQ.blkHere rfl ?_ | refine WQ.blkOther rfl ?_));exact q.out) : P:=h ⟨q⟩
theorem kgb {P Q : Prop} (q : Q) (h : Hold Q → P:=by intro q;(repeat (first | ((with_reducible refine WL.topT ?_ ?_);omega) | ((with_reducible refine WL.topF ?_ ?_);omega) | ((with_reducible refine WL.top64 ?_ ?_);omega) | refine WC.seq ?_ | refine WC.region ?_ | refine WL.nil ?_ | refine WC.skip ?_ | refine WC.exit ?_ | refine WC.ret ?_ | refine WQ.then rfl ?_ | refine WQ.thenExit ?_ | refine WQ.thenRet ?_ | refine WQ.blk ?_ | refine WQ.blkRet ?_ | refine WQ.blkHere rfl ?_ | refine WQ.blkOther rfl ?_ | refine WL.pure rfl rfl rfl rfl ?_ | refine WL.on rfl rfl ?_ | refine WL.off rfl rfl rfl ?_ | refine WL.load rfl rfl rfl rfl rfl rfl (by assumption) ?_ | refine WC.condTrue rfl ?_ | refine WC.condFalse rfl ?_));exact q.out) : P:=h ⟨q⟩
end K
namespace K
variable {kn : Nat} {ds : List Deferred} {n : NN} {Q : Exit → Act → World → Prop} {l : Env} {w w' : World} {ops : Array Oper} {o : Oper} {rest : List Oper} {d : Nat} {S : World → Prop} {m fuel : Nat} {listed : Array Bool}
def DK (ops : Array Oper) (Q : Exit → Act → World → Prop) (S : World → Prop) (m fuel : Nat) (listed : Array Bool) (a : Act) (w : World) : Prop :=
  (listed.getD m false = true ∨ S w) ∧ wpTill Tryz.prog .any ops Q S m fuel listed a w
structure WD (n : NN) (ops : Array Oper) (Q : Exit → Act → World → Prop) (S : World → Prop) (m fuel : Nat) (listed : Array Bool) (l : Env) (w : World) : Prop where
  go : ∀ a,Fr n a l → wpTill Tryz.prog .any ops Q S m fuel listed a w
structure Drew (w w' : World) : Prop where
  below : ∀ B,Below B w w'
  heap : w'.heap = w.heap
theorem Drew.mk' (w : World) : Drew w w.drew:=⟨fun B => ((Keep.of_below (Below.refl B w)).drewN 1).below,rfl⟩
theorem WC.drawn {id : Nat} {ops : List Oper} (m : Nat) (S : World → Prop) (h : ∀ w',Drew w w' → WD ⟨kn,ds,none⟩ ops.toArray Q S m ops.length (Array.replicate ops.length false) l w') : WC ⟨kn,ds,none⟩ (.region id ops.toArray true) Q l w :=
  ⟨fun a ha => wp_region_till m S (by kernel_rfl) ((h _ (Drew.mk' w)).go a ha)⟩
theorem wpOp_of_list {K : Act → World → Prop} {i : Nat} {oi : Oper} {a : Act} (hi : ops[i]? = some oi) (h : wpList Tryz.prog ops (Exit.then K Q) [oi] a w) : wpOp Tryz.prog ops Q i K a w := by
  unfold wpOp; simp only [hi]; unfold wpList at h
  by_cases hw : Region.wanted oi (yielded ops a.tmps) = true
  · rw [if_pos hw] at h ⊢
    rcases h with h | ⟨h1, a2, w2, h2⟩
    · left
      unfold Oper.wp at h ⊢
      revert h
      generalize (execOp a.eval oi).run Tryz.prog w = r; intro h; cases r with
      | ok x w2 =>
        cases x <;> first | exact h | skip
        all_goals first
          | exact h
          | (refine Calls.mono h fun e w3 h3 => ?_
             cases e with
             | returned v => exact h3
             | panicked ch => exact h3
             | outgrown => obtain ⟨a4, w4, h4⟩ := h3; exact ⟨a4, w4, h4⟩)
      | halt x w2 => cases x <;> first | exact h | skip
    · exact .inr ⟨h1, a2, w2, h2⟩
  · rw [if_neg hw] at h ⊢
    exact h
theorem WD.one {oi : Oper} (i : Nat) (hr : Region.ready .any ops listed = [i]) (hi : ops[i]? = some oi) (h : WL ⟨kn,ds,none⟩ ops (Exit.then (DK ops Q S m fuel (listed.setIfInBounds i true)) Q) [oi] l w) : WD ⟨kn,ds,none⟩ ops Q S m (fuel + 1) listed l w :=
  ⟨fun a ha => ⟨(fun h0 => by rw [h0] at hr;cases hr),fun j hj => by
    rw [hr] at hj;obtain rfl : j = i:=by simpa using hj
    exact wpOp_of_list hi (h.go a ha)⟩⟩
theorem WD.two {oi oj : Oper} (i j : Nat) (hr : Region.ready .any ops listed = [i,j]) (hi : ops[i]? = some oi) (hj : ops[j]? = some oj) (h1 : WL ⟨kn,ds,none⟩ ops (Exit.then (DK ops Q S m fuel (listed.setIfInBounds i true)) Q) [oi] l w)
    (h2 : WL ⟨kn,ds,none⟩ ops (Exit.then (DK ops Q S m fuel (listed.setIfInBounds j true)) Q) [oj] l w) : WD ⟨kn,ds,none⟩ ops Q S m (fuel + 1) listed l w :=
  ⟨fun a ha => ⟨(fun h0 => by rw [h0] at hr;cases hr),fun k hk => by
    rw [hr] at hk;rcases List.mem_cons.1 hk with e | e
    · subst e;exact wpOp_of_list hi (h1.go a ha)
    · obtain rfl : k = j:=by simpa using e
      exact wpOp_of_list hj (h2.go a ha)⟩⟩
theorem WQ.dk (hS : listed.getD m false = true ∨ S w) (h : WD n ops Q S m fuel listed l w) : WQ n (Exit.then (DK ops Q S m fuel listed) Q) .normal l w:=⟨fun a ha => ⟨hS,h.go a ha⟩⟩
theorem WD.done (hr : Region.ready .any ops listed = []) (h : WQ n Q .normal l w) : WD n ops Q S m fuel listed l w:=⟨fun a ha => till_done hr (h.go a ha) fuel⟩
def mayB (ops : Array Oper) (listed : Array Bool) (i m : Nat) : Bool:=Region.noSelect ops && Region.free .any ops listed i && (Region.ready .any ops listed).contains i && !(i == m)
def mayR (ops : Array Oper) (listed : Array Bool) (i m : Nat) (us : List Nat) : Bool:=Region.noSelect ops && Region.free .any ops listed i && (Region.ready .any ops listed).contains i && waitB .any ops listed i m us && !(us.contains i)
def Passes (Q : Exit → Act → World → Prop) : Prop:=∀ c (a : Act) d v w,Q (.panic c) (a.put (some d) v) w → Q (.panic c) a w
theorem WD.first {oi : Oper} {v : Value} (i : Nat) (hi : ops[i]? = some oi) (hs : mayB ops listed i m = true) (hd : oi.dst = some d) (hn : Nat.blt d n.n = true) (hQ : Passes Q)
    (hy : ∀ a,Fr n a l → YieldsIf Tryz.prog ops (fun _ => True) oi v a) (hS : listed.getD m false = true ∨ S w) (h : WD n ops Q S m fuel (listed.setIfInBounds i true) ((d,v) :: l) w) : WD n ops Q S m (fuel + 1) listed l w :=
  ⟨fun a ha => by
    unfold mayB at hs;simp only [Bool.and_eq_true,Bool.not_eq_true'] at hs;exact wpTill_free hi (Region.noSelect_spec hs.1.1.1) (by rw [hd];exact fun c a w => hQ c a d v w) (by simpa using hs.2) fuel listed a w (Region.free_spec hi hs.1.1.2) (by simpa using hs.1.2) (hy a ha) hS (by rw [hd];exact h.go _ (ha.put hn v))⟩
theorem WD.free {oi : Oper} {v : Value} (i : Nat) (hi : ops[i]? = some oi) (hs : mayB ops listed i m = true) (hd : oi.dst = some d) (hn : Nat.blt d n.n = true)
    (hQ : Passes Q) (hw : wants ops l oi = some true) (hv : pv ty l oi.op = some v) (hS : listed.getD m false = true ∨ S w) (h : WD n ops Q S m fuel (listed.setIfInBounds i true) ((d,v) :: l) w) : WD n ops Q S m (fuel + 1) listed l w :=
  WD.first i hi hs hd hn hQ (fun _ ha => .inl ⟨wants_run ha hw,fun w _ => pv_run tyOk ha hv w⟩) hS h
theorem WD.freeAs {oi : Oper} {v : Value} (i : Nat) (v' : Value) (hi : ops[i]? = some oi) (hs : mayB ops listed i m = true) (hd : oi.dst = some d) (hn : Nat.blt d n.n = true)
    (hQ : Passes Q) (hw : wants ops l oi = some true) (hv : pv ty l oi.op = some v) (e : v = v') (hS : listed.getD m false = true ∨ S w) (h : WD n ops Q S m fuel (listed.setIfInBounds i true) ((d,v') :: l) w) : WD n ops Q S m (fuel + 1) listed l w :=
  WD.first i hi hs hd hn hQ (fun _ ha => .inl ⟨wants_run ha hw,fun w _ => pv_run tyOk ha (hv.trans (congrArg some e)) w⟩) hS h
theorem WD.top {v v' : Value} (e : v = v') (h : WD n ops Q S m fuel listed ((d,v') :: l) w) : WD n ops Q S m fuel listed ((d,v) :: l) w:=by subst e;exact h
theorem WD.topT {p : Prop} [Decidable p] (hp : p) (h : WD n ops Q S m fuel listed ((d,.bool true) :: l) w) : WD n ops Q S m fuel listed ((d,.bool (decide p)) :: l) w:=WD.top (congrArg Value.bool (decide_eq_true hp)) h
theorem WD.topF {p : Prop} [Decidable p] (hp : ¬ p) (h : WD n ops Q S m fuel listed ((d,.bool false) :: l) w) : WD n ops Q S m fuel listed ((d,.bool (decide p)) :: l) w:=WD.top (congrArg Value.bool (decide_eq_false hp)) h
theorem WD.top64 {x : Int} (hx : -9223372036854775808 ≤ x ∧ x ≤ 9223372036854775807) (h : WD n ops Q S m fuel listed ((d,.int .i64 x) :: l) w) : WD n ops Q S m fuel listed ((d,.int .i64 (IntKind.wrap .i64 x)) :: l) w:=WD.top (congrArg (Value.int .i64) (IntWalk.i64_in _ hx)) h
theorem WD.skip {oi : Oper} (i : Nat) (hi : ops[i]? = some oi) (hs : mayB ops listed i m = true) (hd : oi.dst = some d) (hn : Nat.blt d n.n = true)
    (hQ : Passes Q) (hw : wants ops l oi = some false) (hS : listed.getD m false = true ∨ S w) (h : WD n ops Q S m fuel (listed.setIfInBounds i true) ((d,undef) :: l) w) : WD n ops Q S m (fuel + 1) listed l w :=
  WD.first i hi hs hd hn hQ (fun _ ha => .inr ⟨wants_run ha hw,rfl⟩) hS h
theorem WD.read {oi : Oper} {v : Value} (i : Nat) (us : List Nat) (hi : ops[i]? = some oi) (hs : mayR ops listed i m us = true) (hd : oi.dst = some d) (hn : Nat.blt d n.n = true)
    (hQ : Passes Q) (hw : wants ops l oi = some true) (hv : ∀ a,Fr n a l → ∀ w,S w → (execOp a.eval oi).run Tryz.prog w = .ok (.value v) w) (hS : S w) (h : WD n ops Q S m fuel (listed.setIfInBounds i true) ((d,v) :: l) w) : WD n ops Q S m (fuel + 1) listed l w :=
  ⟨fun a ha => by
    unfold mayR at hs;simp only [Bool.and_eq_true,Bool.not_eq_true'] at hs;exact wpTill_first hi (Region.noSelect_spec hs.1.1.1.1) (by rw [hd];exact fun c a w => hQ c a d v w) fuel listed a w (Region.free_spec hi hs.1.1.1.2) hs.1.2 (by simpa using hs.2) (by simpa using hs.1.1.2) (.inl ⟨wants_run ha hw,hv a ha⟩) hS (by rw [hd];exact h.go _ (ha.put hn v))⟩
theorem WD.load {oi : Oper} {t : Nat} {x : Operand} {p : Addr} {v : Value} (i : Nat) (us : List Nat) (hi : ops[i]? = some oi) (hs : mayR ops listed i m us = true) (hd : oi.dst = some d) (hn : Nat.blt d n.n = true)
    (hQ : Passes Q) (hw : wants ops l oi = some true) (ho : oi.op = .load t x) (hx : evl l x = some (.pointer (some p))) (ht : scal (tyOf ty t) = true) (hc : ∀ w,S w → w.cell? p = some v) (hS : S w)
    (h : WD n ops Q S m fuel (listed.setIfInBounds i true) ((d,v) :: l) w) : WD n ops Q S m (fuel + 1) listed l w :=
  WD.read i us hi hs hd hn hQ hw (fun a ha w hw => by unfold execOp;rw [ho];simp [ha.eval hx,Instr.loadAt,Instr.sureAddr,scal_run ht p (hc w hw)]) hS h
theorem WD.loadMid {oi : Oper} {t b off mm : Nat} {x : Operand} {cs : List Value} (i : Nat) (us : List Nat) (hi : ops[i]? = some oi) (hs : mayR ops listed i m us = true) (hd : oi.dst = some d) (hn : Nat.blt d n.n = true)
    (hQ : Passes Q) (hw : wants ops l oi = some true) (ho : oi.op = .load t x) (hx : evl l x = some (.pointer (some ⟨b,off,none⟩))) (ht : cellsN (tyOf ty t) = some mm) (hc : ∀ w,S w → w.rangeAt b off cs) (hm : cs.length = mm) (hS : S w)
    (h : WD n ops Q S m fuel (listed.setIfInBounds i true) ((d,.agg cs.toArray) :: l) w) : WD n ops Q S m (fuel + 1) listed l w :=
  WD.read i us hi hs hd hn hQ hw (fun a ha w hw => by
    obtain ⟨_,hu,hdd,hsz⟩:=cellsN_ok tyOk ht;unfold execOp;rw [ho];have:=run_loadVar_mid (P:=Tryz.prog) w b off t cs _ (hc w hw) hu hdd (by rw [hsz,hm]);simp [ha.eval hx,Instr.loadAt,Instr.sureAddr,this]) hS h
theorem WD.idx {oi : Oper} {t e s : Nat} {x i' : Operand} {b off len cap : Nat} {k : IntKind} {z : Int} (i j q : Nat) (hi : ops[i]? = some oi) (hs : mayB ops listed i m = true) (hd : oi.dst = some d) (hn : Nat.blt d n.n = true)
    (hQ : Passes Q) (hw : wants ops l oi = some true) (ho : oi.op = .indexAddr t x i') (ht : tyOf ty t = some (.slice e s))
    (hx : evl l x = some (.slice (some ⟨b,off,none⟩) len cap)) (hi' : evl l i' = some (.int k z)) (hz : z = (j : Int)) (hj : j < len) (hq : off + j * s = q) (hS : listed.getD m false = true ∨ S w)
    (h : WD n ops Q S m fuel (listed.setIfInBounds i true) ((d,.pointer (some ⟨b,q,none⟩)) :: l) w) : WD n ops Q S m (fuel + 1) listed l w :=
  WD.first i hi hs hd hn hQ (fun _ ha => .inl ⟨wants_run ha hw,fun w _ => by rw [← hq];exact idx_run ho ht (ha.eval hx) (ha.eval hi') hz hj⟩) hS h
end K
namespace K
section
variable {kn : Nat} {ds : List Deferred} {n : NN} {Q : Exit → Act → World → Prop} {l : Env} {w w' : World} {ops : Array Oper} {o : Oper} {rest : List Oper} {d : Nat} {S : World → Prop} {m fuel : Nat} {listed : Array Bool}
def fzV (ops : Array Oper) (l : Env) (o : Oper) : Option Value:=match wants ops l o with
  | some true => pv ty l o.op
  | some false => some undef
  | none => none
structure WDs (is : List Nat) (n : NN) (ops : Array Oper) (Q : Exit → Act → World → Prop) (S : World → Prop) (m fuel : Nat) (listed : Array Bool) (l : Env) (w : World) : Prop where
  go : S w → WD n ops Q S m fuel listed l w
theorem fst {i : Nat} {is : List Nat} {oi : Oper} {v : Value} (hi : ops[i]? = some oi) (hs : mayB ops listed i m = true) (hd : oi.dst = some d) (hn : Nat.blt d n.n = true) (hQ : Passes Q) (hv : fzV ops l oi = some v) (h : WDs is n ops Q S m fuel (listed.setIfInBounds i true) ((d,v) :: l) w) : WDs (i :: is) n ops Q S m (fuel + 1) listed l w:=⟨fun hS => by
  have h:=h.go hS;unfold fzV at hv;cases hw : wants ops l oi with
  | none => rw [hw] at hv;cases hv
  | some b =>
    rw [hw] at hv;cases b with
    | true => exact WD.free i hi hs hd hn hQ hw hv (.inr hS) h
    | false => cases hv;exact WD.skip i hi hs hd hn hQ hw (.inr hS) h⟩
theorem WDs.nil (h : WD n ops Q S m fuel listed l w) : WDs [] n ops Q S m fuel listed l w:=⟨fun _ => h⟩
theorem WDs.topT {is : List Nat} {p : Prop} [Decidable p] (hp : p) (h : WDs is n ops Q S m fuel listed ((d,.bool true) :: l) w) : WDs is n ops Q S m fuel listed ((d,.bool (decide p)) :: l) w:=⟨fun hS => WD.topT hp (h.go hS)⟩
theorem WDs.topF {is : List Nat} {p : Prop} [Decidable p] (hp : ¬ p) (h : WDs is n ops Q S m fuel listed ((d,.bool false) :: l) w) : WDs is n ops Q S m fuel listed ((d,.bool (decide p)) :: l) w:=⟨fun hS => WD.topF hp (h.go hS)⟩
theorem WDs.top64 {is : List Nat} {x : Int} (hx : -9223372036854775808 ≤ x ∧ x ≤ 9223372036854775807) (h : WDs is n ops Q S m fuel listed ((d,.int .i64 x) :: l) w) : WDs is n ops Q S m fuel listed ((d,.int .i64 (IntKind.wrap .i64 x)) :: l) w:=⟨fun hS => WD.top64 hx (h.go hS)⟩
theorem fr {R : Prop} (is : List Nat) (hS : S w) (q : R) (h : Hold R → WDs is n ops Q S m fuel listed l w:=by intro q;(repeat (refine fst rfl (by kernel_rfl) rfl rfl (fun _ _ _ _ _ h => h) rfl ?_;try (first | ((with_reducible refine WDs.topT ?_ ?_);omega) | ((with_reducible refine WDs.topF ?_ ?_);omega) | ((with_reducible refine WDs.top64 ?_ ?_);omega))));refine WDs.nil ?_;exact q.out) : WD n ops Q S m fuel listed l w:=(h ⟨q⟩).go hS
theorem fzl {oi : Oper} {v : Value} {R : Prop} (i : Nat) (hS : listed.getD m false = true) (hi : ops[i]? = some oi:=by exact rfl) (hs : mayB ops listed i m = true:=by kernel_rfl) (hd : oi.dst = some d:=by exact rfl) (hn : Nat.blt d n.n = true:=by exact rfl)
    (hQ : Passes Q:=by exact fun _ _ _ _ _ h => h) (hv : fzV ops l oi = some v:=by exact rfl) (q : R) (h : Hold R → WD n ops Q S m fuel (listed.setIfInBounds i true) ((d,v) :: l) w:=by intro q;(first | ((with_reducible refine WD.topT ?_ ?_);omega;exact q.out) | ((with_reducible refine WD.topF ?_ ?_);omega;exact q.out) | ((with_reducible refine WD.top64 ?_ ?_);omega;exact q.out) | exact q.out)) : WD n ops Q S m (fuel + 1) listed l w:=by
  have h:=h ⟨q⟩;unfold fzV at hv;cases hw : wants ops l oi with
  | none => rw [hw] at hv;cases hv
  | some b =>
    rw [hw] at hv;cases b with
    | true => exact WD.free i hi hs hd hn hQ hw hv (.inl hS) h
    | false => cases hv;exact WD.skip i hi hs hd hn hQ hw (.inl hS) h
theorem wl {oi : Oper} {t : Nat} {x : Operand} {p : Addr} {v : Value} (i : Nat) (us : List Nat) (hi : ops[i]? = some oi) (hd : oi.dst = some d) (hn : Nat.blt d n.n = true) (hw : wants ops l oi = some true) (ho : oi.op = .load t x) (hx : evl l x = some (.pointer (some p))) (ht : scal (tyOf ty t) = true)
    (hc : ∀ w,S w → w.cell? p = some v) (hS : S w) (h : WD n ops Q S m fuel (listed.setIfInBounds i true) ((d,v) :: l) w) (hs : mayR ops listed i m us = true:=by kernel_rfl) (hQ : Passes Q:=by exact fun _ _ _ _ _ h => h) : WD n ops Q S m (fuel + 1) listed l w :=
  WD.load i us hi hs hd hn hQ hw ho hx ht hc hS h
theorem wm {oi : Oper} {t b off mm : Nat} {x : Operand} {cs : List Value} (i : Nat) (us : List Nat) (hi : ops[i]? = some oi) (hd : oi.dst = some d) (hn : Nat.blt d n.n = true) (hw : wants ops l oi = some true) (ho : oi.op = .load t x) (hx : evl l x = some (.pointer (some ⟨b,off,none⟩))) (ht : cellsN (tyOf ty t) = some mm)
    (hc : ∀ w,S w → w.rangeAt b off cs) (hm : cs.length = mm) (hS : S w) (h : WD n ops Q S m fuel (listed.setIfInBounds i true) ((d,.agg cs.toArray) :: l) w) (hs : mayR ops listed i m us = true:=by kernel_rfl) (hQ : Passes Q:=by exact fun _ _ _ _ _ h => h) : WD n ops Q S m (fuel + 1) listed l w :=
  WD.loadMid i us hi hs hd hn hQ hw ho hx ht hc hm hS h
theorem wi {oi : Oper} {t e s : Nat} {x i' : Operand} {b off len cap : Nat} {k : IntKind} {z : Int} (i j q : Nat) (hi : ops[i]? = some oi) (hd : oi.dst = some d) (hn : Nat.blt d n.n = true) (hw : wants ops l oi = some true) (ho : oi.op = .indexAddr t x i') (ht : tyOf ty t = some (.slice e s))
    (hx : evl l x = some (.slice (some ⟨b,off,none⟩) len cap)) (hi' : evl l i' = some (.int k z)) (hz : z = (j : Int)) (hj : j < len) (hq : off + j * s = q) (hS : listed.getD m false = true ∨ S w)
    (h : WD n ops Q S m fuel (listed.setIfInBounds i true) ((d,.pointer (some ⟨b,q,none⟩)) :: l) w) (hs : mayB ops listed i m = true:=by kernel_rfl) (hQ : Passes Q:=by exact fun _ _ _ _ _ h => h) : WD n ops Q S m (fuel + 1) listed l w :=
  WD.idx i j q hi hs hd hn hQ hw ho ht hx hi' hz hj hq hS h
theorem wo {oi : Oper} (i : Nat) (h : WL ⟨kn,ds,none⟩ ops (Exit.then (DK ops Q S m fuel (listed.setIfInBounds i true)) Q) [oi] l w) (hr : Region.ready .any ops listed = [i]:=by kernel_rfl) (hi : ops[i]? = some oi:=by exact rfl) : WD ⟨kn,ds,none⟩ ops Q S m (fuel + 1) listed l w :=
  WD.one i hr hi h
theorem di (hS : S w) (h : WD n ops Q S m fuel listed l w) : WL n ops (Exit.then (DK ops Q S m fuel listed) Q) [] l w:=WL.nil (WQ.dk (.inr hS) h)
theorem dl (h : WD n ops Q S m fuel listed l w) (hm : listed.getD m false = true:=by exact rfl) : WL n ops (Exit.then (DK ops Q S m fuel listed) Q) [] l w:=WL.nil (WQ.dk (.inl hm) h)
end
end K
namespace K
variable {n : NN} {Q : Exit → Act → World → Prop} {l : Env} {w w' : World} {ops : Array Oper} {o : Oper} {rest : List Oper} {d : Nat}
theorem WL.fn {f : FuncId} {caps : List Operand} {cs : List Value} (hg : o.guard = none) (hd : o.dst = some d) (hn : Nat.blt d n.n = true) (ho : o.op = .makeFunc (.func f) #[] caps.toArray) (hv : evlAll l caps = some cs)
    (h : WL n ops Q rest ((d,.func (.func f) #[] cs.toArray) :: l) w) : WL n ops Q (o :: rest) l w :=
  WL.step hg hd hn (fun a ha => by
    unfold execOp;rw [ho];have:=evlAll_map ha hv;have e1 : (caps.toArray.map a.eval) = cs.toArray:=by rw [List.map_toArray,this]
    simp [Instr.makeFunc,e1]) h
theorem WL.callF {f : FuncId} {fn : Func} {x : Operand} {args : List Operand} {ts : Array TypeId} {vs cs : List Value} {R : Ending → World → Prop} (hg : o.guard = none) (hd : o.dst = some d) (hn : Nat.blt d n.n = true)
    (ho : o.op = .call { callee := .value x, args := args.toArray, argTypes := ts }) (hx : evl l x = some (.func (.func f) #[] cs.toArray)) (hv : evlAll l args = some vs) (hf : Tryz.prog.funcs[f]? = some fn) (hb : fn.body.isNone = false) (hname : (fn.name == "runtime.NumGoroutine") = false)
    (hc : Calls Tryz.prog f (vs ++ cs).toArray w R) (h : ∀ e w',R e w' → ∃ v,e = .returned v ∧ WL n ops Q rest ((d,v) :: l) w') : WL n ops Q (o :: rest) l w :=
  ⟨fun a ha => by
    have hrun : (execOp a.eval o).run Tryz.prog w = .ok (.enter f (vs ++ cs).toArray) w:=by
      unfold execOp;rw [ho];have:=evlAll_map ha hv;have e1 : (args.toArray.map a.eval) = vs.toArray:=by rw [List.map_toArray,this]
      have e2 : a.eval x = .func (.func f) #[] cs.toArray:=ha.eval hx;have hb' : ¬ fn.body = none:=fun e => by rw [e] at hb;cases hb
      have hn' : ¬ fn.name = "runtime.NumGoroutine" := by simpa using hname
      simp [resolve,e1,e2,Deferred.ofValue,invoke,callFunc,hf,hb',hn']
    refine lw_enter hg hrun (hc.mono fun e w'' hh => ?_);obtain ⟨v,rfl,hwl⟩:=h e w'' hh;exact ⟨v,rfl,by rw [hd];exact hwl.go _ (ha.put hn v)⟩⟩
theorem WL.appV {s x : Operand} {t e : TypeId} {m bytes : Nat} {v xv : Value} {k k2 : Nat} {l1 l2 : List Value} {O O2 : Nat → Prop} (hg : o.guard = none) (hd : o.dst = some d) (hn : Nat.blt d n.n = true)
    (ho : o.op = .call { callee:=.builtin .append,args:=#[s,x],argTypes:=#[t,t] }) (E : ElemV Tryz.prog t e m bytes) (hs : evl l s = some v) (hown : OwnV e m w O v k l1) (hx : evl l x = some xv) (hsl : SlV w O2 m xv k2 l2) (hb : (k + k2) * bytes ≤ 140737488355328) (hb1 : k + k2 ≤ 140737488355328)
    (h : ∀ v' w',OwnV e m w' (fun g => O g ∨ g = w.heap.size) v' (k + k2) (l1 ++ l2) → Grow w v w' v' → WL n ops Q rest ((d,v') :: l) w') : WL n ops Q (o :: rest) l w :=
  ⟨fun a ha => by
    refine lw_via hg (by rw [ho];intro c hc;cases hc) ?_;refine wpList_appV hg s x t ho E (ha.eval hs) hown (ha.eval hx) hsl rfl (by unfold maxLen;omega) hb ?_;intro sp c w' h2 h3 h4;rw [hd];exact (h _ w' h2 ⟨grown_keep h3,fun g hg => (h4 g hg).imp id (fun e => by omega)⟩).go _ (ha.put hn _)⟩
section
variable {fn : Func} {R : Ending → World → Prop}
theorem WQ.end0 {kn : Nat} {md : Option (Option Nat)} (hr : fn.results = #[]) (h : R (.returned (.tuple #[])) w) : WQ ⟨kn,[],md⟩ (bodyPost Tryz.prog fn R) .normal l w:=⟨fun _ ha => ⟨ha.defers,_,results_none hr _ _ _,h⟩⟩
theorem WQ.retC {kn : Nat} {md : Option (Option Nat)} {p g T m : Nat} {ty' : TypeId} {cs : List Value} (hr : fn.results = #[.cell p ty']) (hl : look l p = some (.pointer (some ⟨g,0,none⟩))) (ht : cellsN (tyOf ty ty') = some m) (hm : cs.length = m) (hb : VBlk T w g cs)
    (h : R (.returned (.agg cs.toArray)) w) : WQ ⟨kn,[],md⟩ (bodyPost Tryz.prog fn R) .ret l w :=
  ⟨fun a ha => ⟨ha.defers,_,by
    obtain ⟨_,hu,hdd,hsz⟩:=cellsN_ok tyOk ht;have hp:=ha.getD hl;simp only [Array.getD_eq_getD_getElem?] at hp;have:=run_loadVar_mid (P:=Tryz.prog) w g 0 ty' cs _ (VBlk.rangeAt hb) hu hdd (by rw [hsz,hm]);simp [results,hr,hp,asAddr,this],h⟩⟩
end
end K
namespace K
variable {n : NN} {Q : Exit → Act → World → Prop} {l : Env} {w w' : World} {ops : Array Oper} {o : Oper} {rest : List Oper} {d : Nat}
theorem strCells_bytes (s : ByteArray) : Lib.strCells s = (bytesI s).map (Value.int .u8):=by
  unfold Lib.strCells bytesI;rw [ByteArray.toList_eq,List.map_map]
  rfl
theorem appS_run {v : Value} {l1 : List Int} {s : ByteArray} (ty' : Nat) (hown : Bu w v l1) (hb : l1.length + s.size ≤ 140737488355328) :
    ∃ v' w',(Builtin.append_ #[119,9] ty' #[v,.string s]).run Tryz.prog w = .ok v' w' ∧ Bu w' v' (l1 ++ bytesI s) ∧ Grow w v w' v':=by
  have hq : (Tryz.prog.info? 5).map (fun i => (i.zero,i.size,i.bytes)) = some (some (.int .u8 0),1,1):=by kernel_rfl
  obtain ⟨ie,hie,he⟩:=Option.map_eq_some_iff.1 hq;obtain ⟨hz0,he2⟩:=Prod.mk.inj he;obtain ⟨hsz,hby⟩:=Prod.mk.inj he2;have hown' : w.ownsRow 0 5 1 v l1.length (l1.map (Value.int .u8)):=hown;obtain ⟨v',w',hr,h2,h3,-⟩:=Lib.run_append_own_string (P:=Tryz.prog) w 0 119 9 ty' 5 ie Tryz.underlying119 Tryz.underlying9 hie hz0 hsz hby v l1.length _ hown' s (by unfold maxLen;omega) hb (Nat.zero_le _);refine ⟨v',w',hr,?_,grown_keep h3,?_⟩
  · rw [strCells_bytes,← List.map_append] at h2
    show World.ownsRow _ _ _ _ _ _ _
    rw [List.length_append,bytesI_len];exact h2
  · intro g hg
    rcases hown'.2 with ⟨rfl,h0⟩ | ⟨g0,cap,cur,rfl,hbg,hgc,hnc,hcm,hcs,htake⟩
    · have hown2 : w.ownsRow w.heap.size 5 1 (.slice none 0 0) l1.length (l1.map (Value.int .u8)):=⟨hown'.1,.inl ⟨rfl,h0⟩⟩
      obtain ⟨v2,w2,hr2,h22,-,-⟩:=Lib.run_append_own_string (P:=Tryz.prog) w w.heap.size 119 9 ty' 5 ie Tryz.underlying119 Tryz.underlying9 hie hz0 hsz hby _ l1.length _ hown2 s (by unfold maxLen;omega) hb (Nat.le_refl _);rw [hr] at hr2
      injection hr2 with e1 e2
      subst e1
      right
      rcases h22.2 with ⟨rfl,-⟩ | ⟨g1,_,_,rfl,h,-⟩
      · cases hg
      · cases hg;exact h
    · by_cases hroom : l1.length + s.size ≤ cap
      · have hcs' : cur.size = cap:=by simpa using hcs
        have hr2:=Lib.run_append_room_string (P:=Tryz.prog) w 119 9 ty' 5 ie Tryz.underlying119 Tryz.underlying9 hie hsz g0 l1.length cap cur hgc s hroom (by omega);rw [hr] at hr2
        injection hr2 with e1 e2
        subst e1;cases hg
        exact .inl rfl
      · have hr2:=Lib.run_append_grow_string (P:=Tryz.prog) w 119 9 ty' 5 ie (.int .u8 0) Tryz.underlying119 Tryz.underlying9 hie hz0 ⟨g0,0,none⟩ l1.length cap (l1.map (Value.int .u8)) (by rw [hsz];simp) (hown'.cells (g:=g0) rfl) s (by omega) (by omega)
          (by rw [hby];exact growslice_fits (by omega) (by omega))
        rw [hr] at hr2
        injection hr2 with e1 e2
        subst e1;cases hg
        exact .inr (Nat.le_refl _)
theorem WL.appS {s x : Operand} {v : Value} {t : ByteArray} {l1 : List Int} (hg : o.guard = none) (hd : o.dst = some d) (hn : Nat.blt d n.n = true)
    (ho : o.op = .call { callee:=.builtin .append,args:=#[s,x],argTypes:=#[119,9] }) (hs : evl l s = some v) (hown : Bu w v l1) (hx : evl l x = some (.string t)) (hb : l1.length + t.size ≤ 140737488355328)
    (h : ∀ v' w',Bu w' v' (l1 ++ bytesI t) → Grow w v w' v' → WL n ops Q rest ((d,v') :: l) w') : WL n ops Q (o :: rest) l w:=by
  obtain ⟨v',w',hr,h2,h3⟩:=appS_run o.type hown hb;refine WL.step hg hd hn (fun a ha => ?_) (h v' w' h2 h3);unfold execOp;simp only [ho,resolve,invoke,builtin,Sem.run_bind,Sem.run_pure,Result.andThen_ok,List.map_toArray,List.map_cons,List.map_nil,ha.eval hs,ha.eval hx,hr]
def GrowB (bb : Nat) (w : World) (v : Value) (w' : World) (v' : Value) : Prop :=
  Keep (fun b => b < w.heap.size ∧ v.ownBlock ≠ some b ∧ b ≠ bb) w w' ∧ ∀ g,v'.ownBlock = some g → v.ownBlock = some g ∨ w.heap.size ≤ g
theorem GrowB.refl (bb : Nat) (w : World) (v : Value) : GrowB bb w v w v:=⟨Keep.refl _ _,fun _ h => .inl h⟩
theorem GrowB.trans {bb : Nat} {w w1 w2 : World} {v v1 v2 : Value} (h : GrowB bb w v w1 v1) (k : GrowB bb w1 v1 w2 v2) : GrowB bb w v w2 v2 :=
  ⟨h.1.trans (k.1.mono fun b hb => ⟨Nat.lt_of_lt_of_le hb.1 h.1.size, fun e => (h.2 b e).elim hb.2.1 (fun h2 => absurd hb.1 (by omega)), hb.2.2⟩),
   fun g hg => (k.2 g hg).elim (h.2 g) (fun h2 => .inr (Nat.le_trans h.1.size h2))⟩
theorem Grow.box {bb : Nat} {w w' : World} {v v' : Value} (h : Grow w v w' v') : GrowB bb w v w' v':=⟨h.1.mono fun _ hb => ⟨hb.1,hb.2.1⟩,h.2⟩
theorem GrowB.below {bb : Nat} {w w1 w2 : World} {v v1 : Value} (h : GrowB bb w v w1 v1) (k : Below w1.heap.size w1 w2) : GrowB bb w v w2 v1 :=
  ⟨h.1.trans ((Keep.of_below k).mono fun _ hb => Nat.lt_of_lt_of_le hb.1 h.1.size),h.2⟩
structure Bx (bb : Nat) (w : World) (v : Value) (l : List Int) : Prop where
  blk : VBlk 119 w bb [v]
  bu : Bu w v l
  ne : v.ownBlock ≠ some bb
theorem Bx.below {bb : Nat} {w w' : World} {v : Value} {l : List Int} (h : Bx bb w v l) (hk : Below w.heap.size w w') : Bx bb w' v l:=⟨h.blk.below hk h.blk.lt,h.bu.below hk,h.ne⟩
theorem Bx.put {bb : Nat} {w w' : World} {v v' : Value} {l l' : List Int} (h : Bx bb w v l) (hb : Bu w' v' l') (hg : Grow w v w' v') :
    VBlk 119 w' bb [v] ∧ Bx bb (w'.setCell ⟨bb,0,none⟩ v') v' l' ∧ GrowB bb w v (w'.setCell ⟨bb,0,none⟩ v') v':=by
  have hblk : VBlk 119 w' bb [v]:=h.blk.keep hg.1 ⟨h.blk.lt,h.ne⟩;have hne : v'.ownBlock ≠ some bb:=fun e => (hg.2 _ e).elim h.ne (fun h2 => absurd h.blk.lt (by omega));refine ⟨hblk,⟨hblk.set 0 v',hb.keep (K:=fun b => b ≠ bb) ((Keep.refl _ w').setCell (fun hk => hk rfl) _) (fun g hg2 e => hne (by rw [hg2,e])),hne⟩,?_,hg.2⟩;exact (hg.1.mono fun _ hb => ⟨hb.1,hb.2.1⟩ : Keep (fun b => b < w.heap.size ∧ v.ownBlock ≠ some b ∧ b ≠ bb) w w').setCell (fun hk => hk.2.2 rfl) _
theorem Bx.keep {bb g T : Nat} {w w' : World} {v v' : Value} {cs : List Value} (hg : GrowB bb w v w' v') (h : VBlk T w g cs) (h1 : v.ownBlock ≠ some g) (h2 : g ≠ bb) : VBlk T w' g cs ∧ v'.ownBlock ≠ some g :=
  ⟨h.keep hg.1 ⟨h.lt,h1,h2⟩,fun e => (hg.2 _ e).elim h1 (fun h3 => absurd h.lt (by omega))⟩
theorem Bu.cell1 {w : World} {v : Value} {l : List Int} (h : Bu w v l) : v.oneCell' = true:=by obtain ⟨sp,c,rfl,-,-⟩:=h.form;rfl
section
variable {S : World → Prop} {m fuel : Nat} {listed : Array Bool}
end
theorem heap_cell {w w' : World} (h : w'.heap = w.heap) (p : Addr) : w'.cell? p = w.cell? p:=World.cell?_of_block (by rw [h])
end K
namespace K
variable {n : NN} {Q : Exit → Act → World → Prop} {l : Env} {w w' : World} {ops : Array Oper} {o : Oper} {rest : List Oper} {d : Nat}
def Els {α : Type} (m : Nat) (z : α) (P : α → List Value → Prop) (O : Nat → Prop) (w : World) (v : Value) (l : List α) : Prop :=
  ∃ sp cap,v = .slice sp l.length cap ∧ l.length ≤ cap ∧ cap ≤ 9223372036854775807 ∧ (sp = none → cap = 0) ∧
    (0 < l.length → ∃ b o,sp = some ⟨b,o,none⟩ ∧ b < w.heap.size ∧ O b ∧ ∀ j,j < l.length → ∃ cs,cs.length = m ∧ P (l.getD j z) cs ∧ w.rangeAt b (o + j * m) cs)
theorem Els.nil {α : Type} (m : Nat) (z : α) (P : α → List Value → Prop) (O : Nat → Prop) (w : World) : Els m z P O w (.slice none 0 0) [] :=
  ⟨none,0,rfl,Nat.le_refl _,by omega,fun _ => rfl,fun h => absurd h (by simp)⟩
theorem Els.keep {α : Type} {m : Nat} {z : α} {P P' : α → List Value → Prop} {O O' : Nat → Prop} {w w' : World} {v : Value} {l : List α} (h : Els m z P O w v l) {K : Nat → Prop} (hk : Keep K w w') (hK : ∀ b,O b → b < w.heap.size → K b)
    (hO : ∀ b,O b → O' b) (hP : ∀ x cs,P x cs → P' x cs) : Els m z P' O' w' v l:=by
  obtain ⟨sp,cap,h1,h2,h3,h5,h4⟩:=h;refine ⟨sp,cap,h1,h2,h3,h5,fun h0 => ?_⟩;obtain ⟨b,o,e,hlt,hOb,hr⟩:=h4 h0;refine ⟨b,o,e,Nat.lt_of_lt_of_le hlt hk.size,hO b hOb,fun j hj => ?_⟩;obtain ⟨cs,hc,hp,hat⟩:=hr j hj;exact ⟨cs,hc,hP _ _ hp,fun i u hu => by rw [hk.cell (p:=⟨b,o + j * m + i,none⟩) (hK b hOb hlt)];exact hat i u hu⟩
theorem Els.mono {α : Type} {m : Nat} {z : α} {P P' : α → List Value → Prop} {O O' : Nat → Prop} {w : World} {v : Value} {l : List α} (h : Els m z P O w v l) (hO : ∀ b,O b → O' b) (hP : ∀ x cs,P x cs → P' x cs) : Els m z P' O' w v l :=
  h.keep (Keep.refl (fun _ => True) w) (fun _ _ _ => trivial) hO hP
def OwnE {α : Type} (e : TypeId) (m : Nat) (z : α) (P : α → List Value → Prop) (O : Nat → Prop) (w : World) (v : Value) (l : List α) : Prop :=
  ∃ kcs : List (List Value),kcs.length = l.length ∧ (∀ j,j < l.length → (kcs.getD j []).length = m ∧ P (l.getD j z) (kcs.getD j [])) ∧ OwnV e m w O v l.length kcs.flatten
theorem OwnE.nil {α : Type} (e : TypeId) (m : Nat) (z : α) (P : α → List Value → Prop) (O : Nat → Prop) (w : World) : OwnE e m z P O w (.slice none 0 0) []:=⟨[],rfl,fun j hj => absurd hj (by simp),OwnV.nil _ _ _ _⟩
theorem OwnE.keep {α : Type} {e : TypeId} {m : Nat} {z : α} {P P' : α → List Value → Prop} {O O' : Nat → Prop} {w w' : World} {v : Value} {l : List α} (h : OwnE e m z P O w v l) {K : Nat → Prop} (hk : Keep K w w') (hK : ∀ g,v.ownBlock = some g → K g)
    (hO : ∀ b,O b → O' b) (hP : ∀ x cs,P x cs → P' x cs) : OwnE e m z P' O' w' v l:=by
  obtain ⟨kcs,h1,h2,h3⟩:=h;exact ⟨kcs,h1,fun j hj => ⟨(h2 j hj).1,hP _ _ (h2 j hj).2⟩,(h3.keep hk hK).mono hO⟩
theorem OwnE.lt {α : Type} {e : TypeId} {m : Nat} {z : α} {P : α → List Value → Prop} {O : Nat → Prop} {w : World} {v : Value} {l : List α} (h : OwnE e m z P O w v l) {g : Nat} (hg : v.ownBlock = some g) : g < w.heap.size:=by
  obtain ⟨kcs,-,-,h3⟩:=h;exact h3.lt hg
theorem OwnE.own {α : Type} {e : TypeId} {m : Nat} {z : α} {P : α → List Value → Prop} {O : Nat → Prop} {w : World} {v : Value} {l : List α} (h : OwnE e m z P O w v l) {g : Nat} (hg : v.ownBlock = some g) : O g:=by
  obtain ⟨kcs,-,-,h3⟩:=h;exact h3.own hg
theorem OwnE.one {α : Type} {e : TypeId} {m : Nat} {z : α} {P : α → List Value → Prop} {O : Nat → Prop} {w : World} {v : Value} {l : List α} (h : OwnE e m z P O w v l) : v.oneCell' = true:=by
  obtain ⟨kcs,-,-,h3⟩:=h;obtain ⟨sp,c,rfl,-⟩:=h3.slice;rfl
theorem flatten_get {m : Nat} : ∀ (k : List (List Value)),(∀ x ∈ k,x.length = m) → ∀ j i,j < k.length → i < m → k.flatten[j * m + i]? = (k.getD j [])[i]?
  | [],_,j,i,hj,_ => by simp at hj
  | x :: k,hx,j,i,hj,hi => by
    have h0:=hx x (by simp);cases j with
    | zero => simp only [List.flatten_cons,List.getD_cons_zero,Nat.zero_mul,Nat.zero_add];rw [List.getElem?_append_left (by omega)]
    | succ j =>
      simp only [List.flatten_cons,List.getD_cons_succ];rw [List.getElem?_append_right (by rw [h0,Nat.succ_mul];omega),h0,show (j + 1) * m + i - m = j * m + i by rw [Nat.succ_mul];omega];exact flatten_get k (fun y hy => hx y (by simp [hy])) j i (by simpa using hj) hi
theorem all_of_getD {m : Nat} {k : List (List Value)} (h : ∀ j,j < k.length → (k.getD j []).length = m) : ∀ x ∈ k,x.length = m:=by
  intro x hx;obtain ⟨j,hj,rfl⟩:=List.getElem_of_mem hx;have:=h j hj
  simpa [hj] using this
theorem OwnE.els {α : Type} {e : TypeId} {m : Nat} {z : α} {P : α → List Value → Prop} {O : Nat → Prop} {w : World} {v : Value} {l : List α} (h : OwnE e m z P O w v l) : Els m z P O w v l:=by
  obtain ⟨kcs,h1,h2,h3⟩:=h;obtain ⟨q1,q2,sp,cap,rfl,h4,h5,h6,h7⟩:=h3.slV;refine ⟨sp,cap,rfl,h4,h5,h6,fun h0 => ?_⟩;obtain ⟨b,o,e,hb,hO,hr⟩:=h7 h0;have hall:=all_of_getD (k:=kcs) (m:=m) fun j hj => (h2 j (by omega)).1;refine ⟨b,o,e,hb,hO,fun j hj => ⟨kcs.getD j [],(h2 j hj).1,(h2 j hj).2,fun i u hu => ?_⟩⟩;have him : i < m:=by
    rcases Nat.lt_or_ge i m with h | h
    · exact h
    · rw [List.getElem?_eq_none (by rw [(h2 j hj).1];exact h)] at hu;cases hu
  have hg:=flatten_get kcs hall j i (by omega) him;have hlt : j * m + i < kcs.flatten.length:=by
    rcases Nat.lt_or_ge (j * m + i) kcs.flatten.length with h | h
    · exact h
    · rw [List.getElem?_eq_none h,hu] at hg;cases hg
  have:=hr (j * m + i) hlt;rw [Nat.add_assoc,this,List.getD_eq_getElem?_getD,hg,hu]
  rfl
theorem OwnE.snoc {α : Type} {e : TypeId} {m : Nat} {z : α} {P : α → List Value → Prop} {O : Nat → Prop} {w' : World} {v' : Value} {l : List α} {kcs : List (List Value)} {x : α} {cs : List Value} (h1 : kcs.length = l.length) (h2 : ∀ j,j < l.length → (kcs.getD j []).length = m ∧ P (l.getD j z) (kcs.getD j []))
    (hc : cs.length = m) (hp : P x cs) (h : OwnV e m w' O v' (l.length + 1) (kcs.flatten ++ cs)) : OwnE e m z P O w' v' (l ++ [x]):=by
  refine ⟨kcs ++ [cs],by simp [h1],fun j hj => ?_,?_⟩
  · rcases Nat.lt_or_ge j l.length with hl | hl
    · have:=h2 j hl
      simp only [List.getD_eq_getElem?_getD] at this ⊢;rw [List.getElem?_append_left (by omega),List.getElem?_append_left (by omega)];exact this
    · obtain rfl : j = l.length:=by simp at hj;omega
      simp only [List.getD_eq_getElem?_getD];rw [List.getElem?_append_right (by omega),List.getElem?_append_right (by omega),h1];simp [hc,hp]
  · rw [List.length_append,List.length_singleton,List.flatten_append]
    simpa using h
theorem WL.lit1 {t e s : Nat} {x : Operand} {u : Value} {cs : List Value} (hg : o.guard = none) (hd : o.dst = some d) (hn : Nat.blt d n.n = true) (ho : o.op = .buildSlice t 1 #[(0,x)]) (ht : tyOf ty t = some (.slice e s))
    (hx : evl l x = some u) (hu : u.cells = cs.toArray) (hcs : cs.length = s) (hs : 0 < s ∧ s ≤ 1000) (hz : (Tryz.prog.info? e).bind (fun i => i.zero.map fun _ => i.size) = some s) (h : ∀ g w',Fresh w g w' e cs → WL n ops Q rest ((d,.slice (some ⟨g,0,none⟩) 1 1) :: l) w') : WL n ops Q (o :: rest) l w :=
  WL.step hg hd hn (fun a ha => by
    obtain ⟨ie,hie,hz⟩:=Option.bind_eq_some_iff.1 hz;obtain ⟨z,hz,hsz⟩:=Option.map_eq_some_iff.1 hz;unfold execOp;rw [ho];have e2:=Great.fill_whole (s:=s) hs.1 [u] ((Array.range (1 * s)).map (z.cells[· % z.cells.size]!)) (by intro v hv;simp at hv;rw [hv,hu];simpa using hcs) (by simp);have:=run_buildSlice (P:=Tryz.prog) w t e 1 (#[(0,x)].map fun (p : Nat × Operand) => (p.1,a.eval p.2)) cs.toArray ie z (TyOk.of tyOk ht).1 hie hz (by rw [hsz];omega) (by rw [hsz];omega) (by
      rw [hsz];simp only [List.map_toArray,List.map_cons,List.map_nil,ha.eval hx];refine Eq.trans e2 ?_;simp [hu])
    simp only [Sem.run_bind,this,Result.andThen_ok]
    rfl) (h _ _ (Fresh.mk' w e cs))
theorem WL.empty {t e s : Nat} (hg : o.guard = none) (hd : o.dst = some d) (hn : Nat.blt d n.n = true) (ho : o.op = .buildSlice t 0 #[]) (ht : tyOf ty t = some (.slice e s))
    (h : ∀ g w',Fresh w g w' e [] → WL n ops Q rest ((d,.slice (some ⟨g,0,none⟩) 0 0) :: l) w') : WL n ops Q (o :: rest) l w :=
  WL.step hg hd hn (fun a _ => by
    obtain ⟨hu,hsz⟩:=TyOk.of tyOk ht;have hs : (sizeOf e).run Tryz.prog w = .ok s w:=by
      cases hq : Tryz.prog.info? e with
      | none => rw [hq] at hsz;cases hsz
      | some q => rw [hq] at hsz;simp at hsz;simp [sizeOf,typeInfo,hq,hsz]
    unfold execOp;rw [ho];simp [Instr.buildSlice,run_underlying hu,hs,Instr.fill,newRow]
    rw [show (Array.range 0) = #[] from by decide];simp) (h _ _ (Fresh.mk' w e []))
theorem SlV.fresh1 {w w' : World} {g T : Nat} {cs : List Value} (h : Fresh w g w' T cs) (h1 : Ones cs) : SlV w' (fun b => b = g) cs.length (.slice (some ⟨g,0,none⟩) 1 1) 1 cs :=
  ⟨by simp,h1,_,1,rfl,Nat.le_refl _,by omega,(fun h => by cases h),fun _ => ⟨g,0,rfl,h.blk.lt,rfl,RowV.of_vblk h.blk⟩⟩
theorem WL.snoc {α : Type} {s x : Operand} {t e : TypeId} {m bytes : Nat} {z : α} {P : α → List Value → Prop} {O : Nat → Prop} {v : Value} {k : List α} {y : α} {cs : List Value} {g : Nat} (hg : o.guard = none) (hd : o.dst = some d) (hn : Nat.blt d n.n = true)
    (ho : o.op = .call { callee:=.builtin .append,args:=#[s,x],argTypes:=#[t,t] }) (E : ElemV Tryz.prog t e m bytes) (hs : evl l s = some v) (hown : OwnE e m z P O w v k) (hx : evl l x = some (.slice (some ⟨g,0,none⟩) 1 1))
    (hf : VBlk e w g cs) (h1 : Ones cs) (hc : cs.length = m) (hp : P y cs) (hb : (k.length + 1) * bytes ≤ 140737488355328) (hb1 : k.length + 1 ≤ 140737488355328)
    (h : ∀ v' w',OwnE e m z P (fun b => O b ∨ b = w.heap.size) w' v' (k ++ [y]) → Grow w v w' v' → WL n ops Q rest ((d,v') :: l) w') : WL n ops Q (o :: rest) l w:=by
  obtain ⟨kcs,h2,h3,h4⟩:=hown;have hsl : SlV w (fun b => b = g) m (.slice (some ⟨g,0,none⟩) 1 1) 1 cs:=⟨by rw [hc,Nat.one_mul],h1,_,1,rfl,Nat.le_refl _,by omega,(fun h => by cases h),fun _ => ⟨g,0,rfl,hf.lt,rfl,RowV.of_vblk hf⟩⟩;refine WL.appV hg hd hn ho E hs h4 hx hsl hb hb1 fun v' w' h5 h6 => h v' w' ?_ h6;exact OwnE.snoc h2 h3 hc hp h5
end K
open Go.ChangeShapes Go.WideShapes Go.ChangeAt
theorem Tryz.ownKnob : ownKnob Tryz.prog.godebug = none:=by kernel_rfl
theorem Tryz.laid : laidOutB Tryz.prog = true:=by kernel_rfl
theorem cell_spot {w : World} {x : Addr} {v : Value} (h : w.cell? x = some v) : x.spot = none:=by
  unfold World.cell? at h
  split at h
  · cases hs : x.spot with
    | none => rfl
    | some _ => simp [hs] at h
  · cases h
inductive V where
  | mk (k n s : Int) (t : ByteArray) (names : List ByteArray) (kids : List V)
namespace V
def k : V → Int | .mk k _ _ _ _ _ => k
def n : V → Int | .mk _ n _ _ _ _ => n
def s : V → Int | .mk _ _ s _ _ _ => s
def t : V → ByteArray | .mk _ _ _ t _ _ => t
def names : V → List ByteArray | .mk _ _ _ _ l _ => l
def kids : V → List V | .mk _ _ _ _ _ l => l
end V
def noV : V:=.mk 0 0 0 ByteArray.empty [] []
def noT : ByteArray:=ByteArray.empty
def Strs (w : World) (v : Value) (l : List ByteArray) : Prop :=
  ∃ sp cap,v = .slice sp l.length cap ∧ l.length ≤ cap ∧ cap ≤ 9223372036854775807 ∧ (∀ j,j < l.length → (l.getD j noT).size ≤ 140737488355328) ∧
    (0 < l.length → ∃ b o,sp = some ⟨b,o,none⟩ ∧ b < w.heap.size ∧ ∀ j,j < l.length → w.cell? ⟨b,o + j,none⟩ = some (.string (l.getD j noT)))
theorem Strs.below {w w' : World} {v : Value} {l : List ByteArray} (h : Strs w v l) (hb : Below w.heap.size w w') : Strs w' v l:=by
  obtain ⟨sp,cap,h1,h2,h3,h4,h5⟩:=h;refine ⟨sp,cap,h1,h2,h3,h4,fun h0 => ?_⟩;obtain ⟨b,o,e,hlt,hr⟩:=h5 h0;exact ⟨b,o,e,Nat.lt_of_lt_of_le hlt hb.size,fun j hj => by rw [hb.cell (p:=⟨b,o + j,none⟩) hlt];exact hr j hj⟩
def Six (P : V → List Value → Prop) (w : World) (v : Value) (l : List V) : Prop :=
  ∃ sp cap,v = .slice sp l.length cap ∧ l.length ≤ cap ∧ cap ≤ 9223372036854775807 ∧
    (0 < l.length → ∃ b o,sp = some ⟨b,o,none⟩ ∧ b < w.heap.size ∧ ∀ j,j < l.length → ∃ cs,cs.length = 6 ∧ P (l.getD j noV) cs ∧ w.rangeAt b (o + j * 6) cs)
def IsV : Nat → World → V → List Value → Prop
  | 0,_,_,_ => False
  | f + 1,w,v,cs => ∃ sn sk,cs = [.int .i64 v.k,.int .i64 v.n,.int .i64 v.s,.string v.t,sn,sk] ∧
      (Lit.int .i64 v.k).wf = true ∧ (Lit.int .i64 v.n).wf = true ∧ (Lit.int .i64 v.s).wf = true ∧ v.t.size ≤ 140737488355328 ∧ Strs w sn v.names ∧ Six (IsV f w) w sk v.kids
def IsVs (f : Nat) (w : World) (v : Value) (l : List V) : Prop:=Six (IsV f w) w v l
theorem Six.below {P P' : V → List Value → Prop} {w w' : World} {v : Value} {l : List V} (h : Six P w v l) (hb : Below w.heap.size w w') (hP : ∀ x cs,P x cs → P' x cs) : Six P' w' v l:=by
  obtain ⟨sp,cap,h1,h2,h3,h4⟩:=h;refine ⟨sp,cap,h1,h2,h3,fun h0 => ?_⟩;obtain ⟨b,o,e,hlt,hr⟩:=h4 h0;refine ⟨b,o,e,Nat.lt_of_lt_of_le hlt hb.size,fun j hj => ?_⟩;obtain ⟨cs,hc,hp,hat⟩:=hr j hj;exact ⟨cs,hc,hP _ _ hp,fun i u hu => by rw [hb.cell (p:=⟨b,o + j * 6 + i,none⟩) hlt];exact hat i u hu⟩
theorem IsV.below {w w' : World} (hb : Below w.heap.size w w') : ∀ {f : Nat} {v : V} {cs : List Value},IsV f w v cs → IsV f w' v cs
  | 0,_,_,h => h
  | _ + 1,_,_,⟨sn,sk,h1,h2,h3,h4,h5,h6,h7⟩ => ⟨sn,sk,h1,h2,h3,h4,h5,h6.below hb,h7.below hb fun _ _ hp => IsV.below hb hp⟩
theorem IsV.len {f : Nat} {w : World} {v : V} {cs : List Value} (h : IsV f w v cs) : cs.length = 6:=by
  cases f with
  | zero => exact h.elim
  | succ f => obtain ⟨_,_,rfl,_⟩:=h;rfl
def isNameB (s : ByteArray) : Bool:=decide (1 ≤ s.size) && decide (s.size ≤ 40)
def risesB : List ByteArray → Bool
  | [] => true
  | [_] => true
  | a :: b :: l => Op.bytesLess a.toList b.toList && risesB (b :: l)
def fieldsB (v : V) : Bool:=v.names.all isNameB && risesB v.names && decide (v.names.length = v.kids.length)
def bareB (v : V) : Bool:=decide (v.n = 0) && decide (v.s = 0)
def plainB (v : V) : Bool:=decide (v.names.length = 0) && decide (v.kids.length = 0)
def noTextB (v : V) : Bool:=decide (v.t.size = 0)
def formB (v : V) : Bool :=
  if v.k = 1 then bareB v && plainB v && noTextB v
  else if v.k = 2 then decide (0 ≤ v.n) && decide (v.n ≤ 1) && decide (v.s = 0) && plainB v && noTextB v
  else if v.k = 3 then decide (v.s = 0) && plainB v && noTextB v
  else if v.k = 4 then decide (1 ≤ v.s) && decide (v.s ≤ 18) && decide (¬ v.n.tmod 10 = 0) && plainB v && noTextB v
  else if v.k = 5 then decide (0 ≤ v.n) && decide (v.n ≤ 9007199254740992) && decide (v.s = 0) && plainB v && noTextB v
  else if v.k = 6 ∨ v.k = 7 then bareB v && plainB v
  else if v.k = 8 then bareB v && decide (v.names.length = 0) && noTextB v
  else if v.k = 9 then bareB v && noTextB v
  else false
def shp (v : V) : Int :=
  if formB v = false then 3
  else if 16384 < v.t.size ∨ 200 < v.kids.length then 5
  else if v.k = 9 ∧ fieldsB v = false then 3
  else 0
def firstBad : List Int → Int
  | [] => 0
  | e :: l => if e = 0 then firstBad l else e
def chk : Nat → V → Int
  | 0,_ => 9
  | m + 1,v => if shp v = 0 then firstBad (v.kids.map (chk m)) else shp v
theorem firstBad_zero {l : List Int} : firstBad l = 0 ↔ ∀ e ∈ l,e = 0:=by
  induction l with
  | nil => simp [firstBad]
  | cons a l ih =>
    unfold firstBad
    by_cases h : a = 0
    · rw [if_pos h,ih];simp [h]
    · rw [if_neg h];simp [h]
theorem firstBad_take {l : List Int} {i : Nat} (hi : i < l.length) (h : ∀ j,j < i → l.getD j 0 = 0) (hn : ¬ l.getD i 0 = 0) : firstBad l = l.getD i 0:=by
  induction l generalizing i with
  | nil => simp at hi
  | cons a l ih =>
    cases i with
    | zero => unfold firstBad;rw [if_neg (by simpa using hn)];simp
    | succ i =>
      have h0:=h 0 (by omega);simp only [List.getD_cons_zero] at h0;unfold firstBad;rw [if_pos h0];simp only [List.getD_cons_succ] at hn ⊢;exact ih (by simpa using hi) (fun j hj => by simpa using h (j + 1) (by omega)) hn
theorem firstBad_all {l : List Int} (h : ∀ j,j < l.length → l.getD j 0 = 0) : firstBad l = 0:=by
  rw [firstBad_zero];intro e he;obtain ⟨j,hj,rfl⟩:=List.getElem_of_mem he
  simpa [hj] using h j hj
theorem chk_kid {m : Nat} {v : V} {j : Nat} (h : chk (m + 1) v = 0) (hj : j < v.kids.length) : chk m (v.kids.getD j noV) = 0:=by
  unfold chk at h
  by_cases hs : shp v = 0
  · rw [if_pos hs,firstBad_zero] at h
    exact h _ (List.mem_map.2 ⟨v.kids[j],List.getElem_mem hj,by simp [hj]⟩)
  · rw [if_neg hs] at h;exact (hs h).elim
theorem chk_shp {m : Nat} {v : V} (h : chk (m + 1) v = 0) : shp v = 0:=by
  unfold chk at h
  by_cases hs : shp v = 0
  · exact hs
  · rw [if_neg hs] at h;exact h
theorem chk_map (m : Nat) (l : List V) (j : Nat) (hj : j < l.length) : (l.map (chk m)).getD j 0 = chk m (l.getD j noV):=by simp [hj]
theorem rises_iff : ∀ {l : List ByteArray},risesB l = true ↔ ∀ i,i + 1 < l.length → Op.bytesLess (l.getD i noT).toList (l.getD (i + 1) noT).toList = true
  | [] => by simp [risesB]
  | [a] => by simp [risesB]
  | a :: b :: l => by
    unfold risesB;rw [Bool.and_eq_true,rises_iff (l:=b :: l)]
    constructor
    · rintro ⟨h1,h2⟩ i hi
      cases i with
      | zero => simpa using h1
      | succ i => simpa using h2 i (by simp at hi ⊢;omega)
    · intro h
      exact ⟨by simpa using h 0 (by simp),fun i hi => by simpa using h (i + 1) (by simp at hi ⊢;omega)⟩
namespace K
structure Apart (w0 w : World) (b : Value) : Prop where
  below : Below w0.heap.size w0 w
  own : ∀ g,b.ownBlock = some g → w0.heap.size ≤ g
theorem Apart.grow {w0 w w' : World} {b b' : Value} (h : Apart w0 w b) (g : Grow w b w' b') : Apart w0 w' b':=⟨h.below.trans (g.old h.below.size h.own),g.own h.below.size h.own⟩
abbrev six (v : V) (sn sk : Value) : List Value:=[.int .i64 v.k,.int .i64 v.n,.int .i64 v.s,.string v.t,sn,sk]
theorem IsV.one {f : Nat} {w : World} {v : V} {cs : List Value} (h : IsV f w v cs) : Ones cs:=by
  cases f with
  | zero => exact h.elim
  | succ f =>
    obtain ⟨sn,sk,rfl,-,-,-,-,⟨_,_,rfl,-⟩,⟨_,_,rfl,-⟩⟩:=h;intro u hu;simp at hu
    rcases hu with rfl | rfl | rfl | rfl | rfl | rfl <;> rfl
theorem Fresh.stand {w w1 wk : World} {g T : Nat} {cs : List Value} {b vk : Value} {l : List Int} (h : Fresh w g w1 T cs) (hb : Bu w b l) (hg : Grow w1 b wk vk) : VBlk T wk g cs :=
  h.blk.keep hg.1 ⟨by rw [h.size,h.eq];omega,fun e => by have:=hb.lt _ e;rw [h.eq] at this;omega⟩
end K
namespace K
def uvF : Nat → Nat → List Int
  | 0,_ => []
  | f + 1,u => if u < 128 then [(u : Int)] else ((u % 128 + 128 : Nat) : Int) :: uvF f (u / 128)
def uvB (u : Nat) : List Int:=uvF 10 u
def zig (v : Int) : Nat:=if 0 ≤ v then (2 * v).toNat else (-2 * v - 1).toNat
def byI (s : ByteArray) : List Int:=s.toList.map fun c => (c.toNat : Int)
def pieceE (ky : V → List Int) (st : Bool) (names : List ByteArray) (kids : List V) (j : Nat) : List Int :=
  (if st then uvB (names.getD j noT).size ++ byI (names.getD j noT) else []) ++ ky (kids.getD j noV)
def encV : Nat → V → List Int
  | 0, _ => []
  | m + 1, v => v.k ::
    (if v.k = 2 then [v.n] else if v.k = 3 then uvB (zig v.n) else if v.k = 4 then uvB (zig v.n) ++ [v.s] else if v.k = 5 then uvB v.n.toNat
     else if v.k = 6 ∨ v.k = 7 then uvB v.t.size ++ byI v.t
     else if v.k = 8 ∨ v.k = 9 then uvB v.kids.length ++ (List.range v.kids.length).flatMap (pieceE (encV m) (decide (v.k = 9)) v.names v.kids) else [])
end K
namespace K
def Byt (l : List Int) : Prop:=∀ c ∈ l,0 ≤ c ∧ c ≤ 255
theorem uvF_big {f u : Nat} (h : 128 ≤ u) : uvF (f + 1) u = ((u % 128 + 128 : Nat) : Int) :: uvF f (u / 128):=by rw [uvF,if_neg (by omega)]
theorem zig_lt {v : Int} (h : -9223372036854775808 ≤ v ∧ v ≤ 9223372036854775807) : zig v < 18446744073709551616:=by unfold zig;split <;> omega
theorem byI_len (s : ByteArray) : (byI s).length = s.size:=by
  unfold byI;rw [List.length_map,ByteArray.toList_eq];rfl
end K
namespace K
end K
namespace K
theorem noT_of {t : ByteArray} (h : t.size = 0) : t = noT:=by
  apply ByteArray.ext
  apply Array.eq_empty_of_size_eq_zero h
theorem shp_full {v : V} (h : shp v = 0) :
    (v.k = 1 ∧ v = .mk 1 0 0 noT [] []) ∨ (v.k = 2 ∧ v = .mk 2 v.n 0 noT [] [] ∧ 0 ≤ v.n ∧ v.n ≤ 1) ∨ (v.k = 3 ∧ v = .mk 3 v.n 0 noT [] []) ∨ (v.k = 4 ∧ v = .mk 4 v.n v.s noT [] [] ∧ 1 ≤ v.s ∧ v.s ≤ 18) ∨
    (v.k = 5 ∧ v = .mk 5 v.n 0 noT [] [] ∧ 0 ≤ v.n ∧ v.n ≤ 9007199254740992) ∨ ((v.k = 6 ∨ v.k = 7) ∧ v = .mk v.k 0 0 v.t [] [] ∧ v.t.size ≤ 16384) ∨
    (v.k = 8 ∧ v = .mk 8 0 0 noT [] v.kids ∧ v.kids.length ≤ 200) ∨ (v.k = 9 ∧ v = .mk 9 0 0 noT v.names v.kids ∧ v.kids.length ≤ 200 ∧ v.names.length = v.kids.length ∧ ∀ s ∈ v.names,s.size ≤ 40):=by
  obtain ⟨k,n,s,t,names,kids⟩:=v;unfold shp at h
  by_cases h1 : formB (.mk k n s t names kids) = false
  · rw [if_pos h1] at h;cases h
  rw [if_neg h1] at h
  by_cases h2 : 16384 < (V.mk k n s t names kids).t.size ∨ 200 < (V.mk k n s t names kids).kids.length
  · rw [if_pos h2] at h;cases h
  rw [if_neg h2] at h
  by_cases h3 : (V.mk k n s t names kids).k = 9 ∧ fieldsB (.mk k n s t names kids) = false
  · rw [if_pos h3] at h;cases h
  have hf : formB (.mk k n s t names kids) = true:=by simpa using h1
  clear h h1;simp only [V.k,V.t,V.kids] at h2 h3;unfold formB at hf;simp only [V.k,V.n,V.s,V.t,V.names,V.kids]
  by_cases a1 : k = 1
  · subst a1;left
    rw [if_pos (show (V.mk 1 n s t names kids).k = 1 from rfl)] at hf;simp only [bareB,plainB,noTextB,Bool.and_eq_true,decide_eq_true_eq,List.length_eq_zero_iff] at hf;simp only [V.n,V.s,V.t,V.names,V.kids] at hf;obtain ⟨⟨⟨rfl,rfl⟩,rfl,rfl⟩,ht⟩:=hf;exact ⟨rfl,by rw [noT_of ht]⟩
  rw [if_neg (show ¬ (V.mk k n s t names kids).k = 1 from a1)] at hf;right
  by_cases a2 : k = 2
  · subst a2;left
    rw [if_pos (show (V.mk 2 n s t names kids).k = 2 from rfl)] at hf;simp only [plainB,noTextB,Bool.and_eq_true,decide_eq_true_eq,List.length_eq_zero_iff] at hf;simp only [V.n,V.s,V.t,V.names,V.kids] at hf;obtain ⟨⟨⟨⟨b1,b2⟩,rfl⟩,rfl,rfl⟩,ht⟩:=hf;exact ⟨rfl,by rw [noT_of ht],b1,b2⟩
  rw [if_neg (show ¬ (V.mk k n s t names kids).k = 2 from a2)] at hf;right
  by_cases a3 : k = 3
  · subst a3;left
    rw [if_pos (show (V.mk 3 n s t names kids).k = 3 from rfl)] at hf;simp only [plainB,noTextB,Bool.and_eq_true,decide_eq_true_eq,List.length_eq_zero_iff] at hf;simp only [V.s,V.t,V.names,V.kids] at hf;obtain ⟨⟨rfl,rfl,rfl⟩,ht⟩:=hf;exact ⟨rfl,by rw [noT_of ht]⟩
  rw [if_neg (show ¬ (V.mk k n s t names kids).k = 3 from a3)] at hf;right
  by_cases a4 : k = 4
  · subst a4;left
    rw [if_pos (show (V.mk 4 n s t names kids).k = 4 from rfl)] at hf;simp only [plainB,noTextB,Bool.and_eq_true,decide_eq_true_eq,List.length_eq_zero_iff] at hf;simp only [V.n,V.s,V.t,V.names,V.kids] at hf;obtain ⟨⟨⟨⟨b1,b2⟩,-⟩,rfl,rfl⟩,ht⟩:=hf;exact ⟨rfl,by rw [noT_of ht],b1,b2⟩
  rw [if_neg (show ¬ (V.mk k n s t names kids).k = 4 from a4)] at hf;right
  by_cases a5 : k = 5
  · subst a5;left
    rw [if_pos (show (V.mk 5 n s t names kids).k = 5 from rfl)] at hf;simp only [plainB,noTextB,Bool.and_eq_true,decide_eq_true_eq,List.length_eq_zero_iff] at hf;simp only [V.n,V.s,V.t,V.names,V.kids] at hf;obtain ⟨⟨⟨⟨b1,b2⟩,rfl⟩,rfl,rfl⟩,ht⟩:=hf;exact ⟨rfl,by rw [noT_of ht],b1,b2⟩
  rw [if_neg (show ¬ (V.mk k n s t names kids).k = 5 from a5)] at hf;right
  by_cases a6 : k = 6 ∨ k = 7
  · left
    rw [if_pos (show (V.mk k n s t names kids).k = 6 ∨ (V.mk k n s t names kids).k = 7 from a6)] at hf;simp only [bareB,plainB,Bool.and_eq_true,decide_eq_true_eq,List.length_eq_zero_iff] at hf;simp only [V.n,V.s,V.names,V.kids] at hf;obtain ⟨⟨rfl,rfl⟩,rfl,rfl⟩:=hf;exact ⟨a6,rfl,by omega⟩
  rw [if_neg (show ¬ ((V.mk k n s t names kids).k = 6 ∨ (V.mk k n s t names kids).k = 7) from a6)] at hf;right
  by_cases a8 : k = 8
  · subst a8;left
    rw [if_pos (show (V.mk 8 n s t names kids).k = 8 from rfl)] at hf;simp only [bareB,noTextB,Bool.and_eq_true,decide_eq_true_eq,List.length_eq_zero_iff] at hf;simp only [V.n,V.s,V.t,V.names] at hf;obtain ⟨⟨⟨rfl,rfl⟩,rfl⟩,ht⟩:=hf;exact ⟨rfl,by rw [noT_of ht],by omega⟩
  rw [if_neg (show ¬ (V.mk k n s t names kids).k = 8 from a8)] at hf;right
  by_cases a9 : k = 9
  · subst a9
    rw [if_pos (show (V.mk 9 n s t names kids).k = 9 from rfl)] at hf;simp only [bareB,noTextB,Bool.and_eq_true,decide_eq_true_eq] at hf;simp only [V.n,V.s,V.t] at hf;obtain ⟨⟨rfl,rfl⟩,ht⟩:=hf;have h4 : fieldsB (.mk 9 0 0 t names kids) = true:=by
      cases hb : fieldsB (.mk 9 0 0 t names kids) with
      | true => rfl
      | false => exact (h3 ⟨rfl,hb⟩).elim
    unfold fieldsB at h4;simp only [Bool.and_eq_true,List.all_eq_true,decide_eq_true_eq] at h4;refine ⟨rfl,by rw [noT_of ht],by omega,h4.2,fun s hs => ?_⟩;have:=h4.1.1 s hs;unfold isNameB at this;simp at this
    omega
  · rw [if_neg (show ¬ (V.mk k n s t names kids).k = 9 from a9)] at hf;cases hf
def Rng : Nat → V → Prop
  | 0,_ => False
  | f + 1,v => (-9223372036854775808 ≤ v.n ∧ v.n ≤ 9223372036854775807) ∧ ∀ x ∈ v.kids,Rng f x
theorem chk_mem {m : Nat} {v x : V} (h : chk (m + 1) v = 0) (hx : x ∈ v.kids) : chk m x = 0:=by
  obtain ⟨j,hj,rfl⟩:=List.getElem_of_mem hx;have:=chk_kid h hj
  rwa [List.getD_eq_getElem?_getD,List.getElem?_eq_getElem hj] at this
end K
namespace K
variable {n : NN} {Q : Exit → Act → World → Prop} {l : Env} {w w' : World} {ops : Array Oper} {o : Oper} {rest : List Oper} {d : Nat}
def strP (s : ByteArray) (cs : List Value) : Prop:=cs = [.string s] ∧ s.size ≤ 140737488355328
def IsVo (O : Nat → Prop) : Nat → World → V → List Value → Prop
  | 0,_,_,_ => False
  | f + 1,w,v,cs => ∃ sn sk,cs = [.int .i64 v.k,.int .i64 v.n,.int .i64 v.s,.string v.t,sn,sk] ∧
      (Lit.int .i64 v.k).wf = true ∧ (Lit.int .i64 v.n).wf = true ∧ (Lit.int .i64 v.s).wf = true ∧ v.t.size ≤ 140737488355328 ∧ Els 1 noT strP O w sn v.names ∧ Els 6 noV (IsVo O f w) O w sk v.kids
theorem IsVo.keep {O O' : Nat → Prop} {K : Nat → Prop} {w w' : World} (hk : Keep K w w') (hK : ∀ b,O b → b < w.heap.size → K b) (hO : ∀ b,O b → O' b) : ∀ {f : Nat} {v : V} {cs : List Value},IsVo O f w v cs → IsVo O' f w' v cs
  | 0,_,_,h => h
  | _ + 1,_,_,⟨sn,sk,h1,h2,h3,h4,h5,h6,h7⟩ => ⟨sn,sk,h1,h2,h3,h4,h5,h6.keep hk hK hO fun _ _ h => h,h7.keep hk hK hO fun _ _ h => IsVo.keep hk hK hO h⟩
theorem IsVo.mono {O O' : Nat → Prop} {w : World} (hO : ∀ b,O b → O' b) {f : Nat} {v : V} {cs : List Value} (h : IsVo O f w v cs) : IsVo O' f w v cs:=h.keep (Keep.refl (fun _ => True) w) (fun _ _ _ => trivial) hO
theorem Els.there {α : Type} {m : Nat} {z : α} {P P' : α → List Value → Prop} {O : Nat → Prop} {w : World} {v : Value} {l : List α} (h : Els m z P O w v l) (hP : ∀ x cs,P x cs → P' x cs) : Els m z P' (fun b => O b ∧ b < w.heap.size) w v l:=by
  obtain ⟨sp,cap,h1,h2,h3,h5,h4⟩:=h;refine ⟨sp,cap,h1,h2,h3,h5,fun h0 => ?_⟩;obtain ⟨b,o,e,hlt,hOb,hr⟩:=h4 h0;refine ⟨b,o,e,hlt,⟨hOb,hlt⟩,fun j hj => ?_⟩;obtain ⟨cs,hc,hp,hat⟩:=hr j hj;exact ⟨cs,hc,hP _ _ hp,hat⟩
theorem IsVo.there {O : Nat → Prop} {w : World} : ∀ {f : Nat} {v : V} {cs : List Value},IsVo O f w v cs → IsVo (fun b => O b ∧ b < w.heap.size) f w v cs
  | 0,_,_,h => h
  | _ + 1,_,_,⟨sn,sk,h1,h2,h3,h4,h5,h6,h7⟩ => ⟨sn,sk,h1,h2,h3,h4,h5,h6.there fun _ _ h => h,h7.there fun _ _ h => IsVo.there h⟩
theorem Els.strs {O : Nat → Prop} {w : World} {v : Value} {l : List ByteArray} (h : Els 1 noT strP O w v l) : Strs w v l:=by
  obtain ⟨sp,cap,h1,h2,h3,-,h4⟩:=h;refine ⟨sp,cap,h1,h2,h3,fun j hj => ?_,fun h0 => ?_⟩
  · obtain ⟨b,o,-,-,-,hr⟩:=h4 (by omega)
    obtain ⟨cs,-,⟨-,hp⟩,-⟩:=hr j hj;exact hp
  · obtain ⟨b,o,e,hb,-,hr⟩:=h4 h0
    refine ⟨b,o,e,hb,fun j hj => ?_⟩;obtain ⟨cs,-,⟨rfl,-⟩,hat⟩:=hr j hj;have:=hat 0 _ rfl;rw [Nat.mul_one] at this;exact this
theorem IsVo.isV {O : Nat → Prop} {w : World} : ∀ {f : Nat} {v : V} {cs : List Value},IsVo O f w v cs → IsV f w v cs
  | 0,_,_,h => h
  | _ + 1,_,_,⟨sn,sk,h1,h2,h3,h4,h5,h6,h7⟩ => ⟨sn,sk,h1,h2,h3,h4,h5,h6.strs,by
      obtain ⟨sp,cap,k1,k2,k3,-,k4⟩:=h7;refine ⟨sp,cap,k1,k2,k3,fun h0 => ?_⟩;obtain ⟨b,o,e,hb,-,hr⟩:=k4 h0;refine ⟨b,o,e,hb,fun j hj => ?_⟩;obtain ⟨cs,hc,hp,hat⟩:=hr j hj;exact ⟨cs,hc,IsVo.isV hp,hat⟩⟩
theorem IsVo.len {O : Nat → Prop} {f : Nat} {w : World} {v : V} {cs : List Value} (h : IsVo O f w v cs) : cs.length = 6:=h.isV.len
theorem IsVo.one {O : Nat → Prop} {f : Nat} {w : World} {v : V} {cs : List Value} (h : IsVo O f w v cs) : Ones cs:=IsV.one h.isV
end K
namespace K
theorem uvF_len : ∀ (f u : Nat),(uvF f u).length ≤ f
  | 0,_ => by simp [uvF]
  | f + 1,u => by
    unfold uvF
    split
    · simp
    · simp [uvF_len f (u / 128)]
theorem or128 : ∀ x : Nat,x < 256 → bits .or .u8 (x : Int) 128 = ((x % 128 + 128 : Nat) : Int):=by decide +kernel
theorem and127 (u : Nat) (h : u < 18446744073709551616) : bits .and .u64 (u : Int) 127 = ((u % 128 : Nat) : Int):=by
  have h:=bits_and_u64_nat u 127 h (by omega);have e : u &&& 127 = u % 128:=Nat.and_two_pow_sub_one_eq_mod u 7;rw [e] at h;exact h
theorem shr7 (u : Nat) : (u : Int) / ((2 ^ min 7 IntKind.u64.bits : Nat) : Int) = ((u / 128 : Nat) : Int):=by
  rw [show ((2 ^ min 7 IntKind.u64.bits : Nat) : Int) = 128 from rfl];omega
theorem uvarint_any (u : Nat) (hu : u < 18446744073709551616) (w : World) :
    Calls Tryz.prog 98 #[.int .u64 u] w fun e w' => ∃ b,e = .returned b ∧ Bu w' b (uvB u) ∧ Below w.heap.size w w' ∧ ∀ g,b.ownBlock = some g → w.heap.size ≤ g:=by
  refine enter (args:=[.int .u64 u]) Tryz.func98 rfl Tryz.ntmps98 rfl ?_;have h1 : u < 2 * 128 ^ 9:=by omega
  have h2 : uvB u = [] ++ uvF (9 + 1) u:=by rw [List.nil_append];rfl
  refine K.kgo ?_;refine WC.loop (fun i : Nat × Nat × List Int × Value => [(0,.int .u64 i.2.1),(3,i.2.2.2)])
    (fun i w' => i.2.1 < 2 * 128 ^ i.1 ∧ i.1 ≤ 9 ∧ uvB u = i.2.2.1 ++ uvF (i.1 + 1) i.2.1 ∧ i.2.2.1.length ≤ 9 ∧ Bu w' i.2.2.2 i.2.2.1 ∧ Grow w (.slice none 0 0) w' i.2.2.2) (fun i => i.1) (9,u,[],.slice none 0 0) ⟨rfl,rfl,trivial⟩ ⟨h1,Nat.le_refl 9,h2,Nat.zero_le 9,Bu.nil w,Grow.refl _ _⟩ ?_
  rintro ⟨f,c,A,v⟩ wr ⟨hc,hf,hA,hl,hb,hg⟩;simp only at hc hf hA hl hb hg ⊢;have hle : (128 : Nat) ^ f ≤ 128 ^ 9:=Nat.pow_le_pow_right (by decide) hf
  by_cases h : c < 128
  · have hw : IntKind.u8.wrap (c : Int) = (c : Int):=by rw [IntKind.wrap_u8];omega
    have hfin : uvF (f + 1) c = [(c : Int)]:=by rw [uvF,if_pos h]
    refine K.kgo ?_;refine WL.push rfl rfl rfl rfl rfl rfl rfl rfl rfl rfl rfl (fun _ => rfl) rfl hb (by simp only [List.length_cons,List.length_nil];omega) fun b2 w2 hb2 hg2 => ?_;refine K.kgo ?_;have hg3:=hg.trans hg2;refine WQ.ret1 rfl rfl ⟨b2,rfl,?_,hg3.old (Nat.le_refl _) (fun g h => by cases h),hg3.own (Nat.le_refl _) (fun g h => by cases h)⟩;rw [hw] at hb2;rw [hA,hfin];exact hb2
  · obtain ⟨f,rfl⟩ : ∃ f',f = f' + 1:=⟨f - 1,by
      cases f with
      | zero => simp at hc;omega
      | succ f => rfl⟩
    have hbig : uvF (f + 1 + 1) c = ((c % 128 + 128 : Nat) : Int) :: uvF (f + 1) (c / 128):=uvF_big (by omega);have hw : bits .or .u8 (IntKind.u8.wrap (c : Int)) 128 = ((c % 128 + 128 : Nat) : Int):=by
      have:=or128 (c % 256) (by omega);rw [IntKind.wrap_u8,show (c : Int) % 256 = ((c % 256 : Nat) : Int) by omega,this];omega
    refine K.kgo ?_;refine WL.push rfl rfl rfl rfl rfl rfl rfl rfl rfl rfl rfl (fun _ => rfl) rfl hb (by simp only [List.length_cons,List.length_nil];omega) fun b2 w2 hb2 hg2 => ?_;rw [hw] at hb2;refine K.kgo ?_;refine WQ.again (f,c / 128,A ++ [((c % 128 + 128 : Nat) : Int)],b2) ⟨congrArg (fun z => some (Value.int .u64 z)) (shr7 c),rfl,trivial⟩
      ⟨by rw [Nat.pow_succ] at hc;show c / 128 < 2 * 128 ^ f;omega,by show f ≤ 9;omega,by show uvB u = A ++ [((c % 128 + 128 : Nat) : Int)] ++ uvF (f + 1) (c / 128);rw [hA,hbig];simp,?_,hb2,hg.trans hg2⟩ (by show f < f + 1;omega)
    show (A ++ [((c % 128 + 128 : Nat) : Int)]).length ≤ 9
    have:=congrArg List.length hA;rw [List.length_append,hbig,List.length_cons] at this;have h10 : (uvB u).length ≤ 10:=uvF_len 10 u;have h1 : 1 ≤ (uvF (f + 1) (c / 128)).length:=by unfold uvF;split <;> simp
    rw [List.length_append];simp only [List.length_cons,List.length_nil];omega
end K
namespace K
theorem range_piece (g : Nat → List Int) (i : Nat) : (List.range (i + 1)).flatMap g = (List.range i).flatMap g ++ g i:=by
  rw [List.range_succ,List.flatMap_append];simp
theorem range_len_le (g : Nat → List Int) {i n : Nat} (h : i ≤ n) : ((List.range i).flatMap g).length ≤ ((List.range n).flatMap g).length := by
  induction n with
  | zero => obtain rfl : i = 0 := by omega
            exact Nat.le_refl _
  | succ n ih =>
    rcases Nat.lt_or_ge n i with h' | h'
    · obtain rfl : i = n + 1 := by omega
      exact Nat.le_refl _
    · rw [range_piece, List.length_append]; have := ih h'; omega
theorem shp_form {v : V} (h : shp v = 0) : (1 ≤ v.k ∧ v.k ≤ 9) ∧ (v.k = 2 → 0 ≤ v.n ∧ v.n ≤ 1) ∧ (v.k = 3 → v.s = 0) ∧ (v.k = 4 → 1 ≤ v.s ∧ v.s ≤ 18 ∧ ¬ v.n.tmod 10 = 0) ∧ (v.k = 5 → 0 ≤ v.n ∧ v.n ≤ 9007199254740992) ∧
    v.kids.length ≤ 200 ∧ v.t.size ≤ 16384 ∧ (v.k = 9 → v.names.length = v.kids.length ∧ ∀ s ∈ v.names,s.size ≤ 40):=by
  unfold shp at h
  by_cases h1 : formB v = false
  · rw [if_pos h1] at h;cases h
  rw [if_neg h1] at h
  by_cases h2 : 16384 < v.t.size ∨ 200 < v.kids.length
  · rw [if_pos h2] at h;cases h
  rw [if_neg h2] at h
  by_cases h3 : v.k = 9 ∧ fieldsB v = false
  · rw [if_pos h3] at h;cases h
  have hf : formB v = true:=by simpa using h1
  clear h h1;refine ⟨?_,?_,?_,?_,?_,by omega,by omega,?_⟩
  · unfold formB at hf
    by_cases a1 : v.k = 1
    · omega
    by_cases a2 : v.k = 2
    · omega
    by_cases a3 : v.k = 3
    · omega
    by_cases a4 : v.k = 4
    · omega
    by_cases a5 : v.k = 5
    · omega
    by_cases a6 : v.k = 6 ∨ v.k = 7
    · omega
    by_cases a8 : v.k = 8
    · omega
    by_cases a9 : v.k = 9
    · omega
    rw [if_neg a1,if_neg a2,if_neg a3,if_neg a4,if_neg a5,if_neg a6,if_neg a8,if_neg a9] at hf;cases hf
  · intro e;unfold formB at hf;simp [e] at hf;omega
  · intro e;unfold formB at hf;simp [e] at hf;omega
  · intro e;unfold formB at hf;simp [e] at hf;exact ⟨hf.1.1.1.1,hf.1.1.1.2,hf.1.1.2⟩
  · intro e;unfold formB at hf;simp [e] at hf;omega
  · intro e
    have h4 : fieldsB v = true:=by
      cases hb : fieldsB v with
      | true => rfl
      | false => exact (h3 ⟨e,hb⟩).elim
    unfold fieldsB at h4;simp only [Bool.and_eq_true,List.all_eq_true,decide_eq_true_eq] at h4;refine ⟨h4.2,fun s hs => ?_⟩;have:=h4.1.1 s hs;unfold isNameB at this;simp at this
    omega
end K
namespace K
theorem xor_ones (x : Nat) (h : x < 18446744073709551616) : x ^^^ 18446744073709551615 = 18446744073709551615 - x:=by
  have e:=congrArg BitVec.toNat (BitVec.xor_allOnes (x:=BitVec.ofNat 64 x));rw [BitVec.toNat_xor,BitVec.toNat_not,BitVec.toNat_ofNat,BitVec.toNat_allOnes,Nat.mod_eq_of_lt (by omega)] at e
  simpa using e
theorem zig_xor (v : Int) (h : -9223372036854775808 ≤ v ∧ v ≤ 9223372036854775807) :
    bits .xor .u64 (IntKind.u64.wrap (IntKind.i64.wrap (v * ((2 ^ min 1 IntKind.i64.bits : Nat) : Int)))) (IntKind.u64.wrap (v / ((2 ^ min 63 IntKind.i64.bits : Nat) : Int))) = zig v:=by
  rw [show ((2 ^ min 1 IntKind.i64.bits : Nat) : Int) = 2 from rfl,show ((2 ^ min 63 IntKind.i64.bits : Nat) : Int) = 9223372036854775808 from rfl];unfold zig
  by_cases hv : 0 ≤ v
  · rw [if_pos hv,show v / 9223372036854775808 = 0 by omega,show IntKind.u64.wrap 0 = ((0 : Nat) : Int) by rw [IntKind.wrap_u64];omega,
      show IntKind.u64.wrap (IntKind.i64.wrap (v * 2)) = (((2 * v).toNat : Nat) : Int) by rw [IntKind.wrap_u64,IntKind.wrap_i64];omega,bits_xor_u64_nat _ _ (by omega) (by omega),Nat.xor_zero]
  · rw [if_neg hv,show v / 9223372036854775808 = -1 by omega,show IntKind.u64.wrap (-1) = ((18446744073709551615 : Nat) : Int) by rw [IntKind.wrap_u64];omega,
      show IntKind.u64.wrap (IntKind.i64.wrap (v * 2)) = (((2 * v + 18446744073709551616).toNat : Nat) : Int) by rw [IntKind.wrap_u64,IntKind.wrap_i64];omega,bits_xor_u64_nat _ _ (by omega) (by omega),xor_ones _ (by omega)]
    omega
theorem zig_any (v : Int) (h : -9223372036854775808 ≤ v ∧ v ≤ 9223372036854775807) (w : World) : Calls Tryz.prog 113 #[.int .i64 v] w fun e w' => e = .returned (.int .u64 (zig v : Nat)) ∧ w' = w:=by
  refine enter (args:=[.int .i64 v]) Tryz.func113 rfl Tryz.ntmps113 rfl ?_;have hz:=zig_xor v h;generalize (zig v : Nat) = z at hz ⊢;refine K.kgn ?_;refine WL.pure rfl rfl rfl rfl ?_;refine K.kgn ?_;refine WL.pure rfl rfl rfl rfl ?_;refine WL.pure rfl rfl rfl rfl ?_;refine WL.pure rfl rfl rfl rfl ?_;refine WL.pure rfl rfl rfl rfl ?_;refine WL.pure rfl rfl rfl rfl ?_;refine WL.pure rfl rfl rfl rfl ?_;refine WL.pure rfl rfl rfl rfl ?_;refine WL.pure rfl rfl rfl rfl ?_;refine K.kgn ?_;exact WQ.ret1 rfl rfl ⟨congrArg (fun z => Ending.returned (Value.int .u64 z)) hz,rfl⟩
theorem lay1_any {w : World} {bb u : Nat} {v : Value} {l : List Int} (hu : u < 18446744073709551616) (hb : Bx bb w v l) (hl : l.length ≤ 70368744177664) :
    Calls Tryz.prog 112 #[.int .u64 u,.pointer (some ⟨bb,0,none⟩)] w fun e w' => e = .returned (.tuple #[]) ∧ ∃ v',Bx bb w' v' (l ++ uvB u) ∧ GrowB bb w v w' v':=by
  refine enter (args:=[.int .u64 u,.pointer (some ⟨bb,0,none⟩)]) Tryz.func112 rfl Tryz.ntmps112 rfl ?_;refine K.kgo ?_;refine WC.drawn 4 (fun wx => VBlk 119 wx bb [v]) fun w2 hd2 => ?_;have hb2 : Bx bb w2 v l:=hb.below (hd2.below _);have hS : VBlk 119 w2 bb [v]:=hb2.blk;have hgd : GrowB bb w v w2 v:=(GrowB.refl bb w v).below (hd2.below _);have hul : (uvB u).length ≤ 10:=uvF_len 10 u;refine K.wl 0 [3,4] rfl rfl rfl rfl rfl rfl rfl (fun wx hx => hx.cell 0 (by simp)) hS ?_;refine K.fr [1] hS ?_;refine K.wo 2 ?_;refine WL.call rfl rfl rfl rfl rfl Tryz.func98 rfl (by kernel_rfl) (uvarint_any u hu w2) ?_;rintro e w3 ⟨b3,rfl,hb3,k3,g3⟩;refine ⟨_,rfl,?_⟩;have hbx3 : Bx bb w3 v l:=hb2.below k3;refine WL.nil (WQ.dk (.inr hbx3.blk) ?_);refine K.wo 3 ?_;refine WL.app rfl rfl rfl rfl rfl hbx3.bu rfl hb3.sl (by omega) fun b4 w4 hb4 hg4 => ?_;obtain ⟨hblk,hbx,hgb⟩:=hbx3.put hb4 hg4;refine K.di hblk ?_;refine K.wo 4 ?_;refine WL.store rfl rfl rfl rfl rfl hb4.cell1 (by kernel_rfl) (hblk.cell 0 (by simp)) (hblk.free 0) ?_;refine K.dl ?_;refine WD.done (by kernel_rfl) ?_;exact WQ.end0 rfl ⟨rfl,b4,hbx,(hgd.below k3).trans hgb⟩
end K
namespace K
section
variable {n : Nat} {l : Env} {w : World} {fn : Func} {R : Ending → World → Prop}
end
end K
namespace K
variable {B rb : Nat} {w : World} {l : List Int} {e : Int}
end K
namespace K
theorem Keep.setRow {K : Nat → Prop} {a w : World} (h : Keep K a w) {g : Nat} (hg : ¬ K g) (cs : Array Value) : Keep K a (w.setRow g cs) :=
  ⟨h.os,h.tape,h.output,by simpa using h.size,fun k hk => (setRow_other w g k cs (fun e => hg (e ▸ hk))).trans (h.block k hk)⟩
section
variable {α β : Type} {l l1 l2 : List Int} {e e1 e2 : Int}
end
theorem wf_i64 {x : Int} (h : -9223372036854775808 ≤ x ∧ x ≤ 9223372036854775807) : (Lit.int .i64 x).wf = true:=by
  simp [Lit.wf,IntKind.min,IntKind.max,IntKind.bits,IntKind.signed];omega
theorem isVo_leaf {O : Nat → Prop} {f : Nat} {w : World} {k n s : Int} {t : ByteArray} (hk : 0 ≤ k ∧ k ≤ 255) (hn : -9223372036854775808 ≤ n ∧ n ≤ 9223372036854775807) (hs : 0 ≤ s ∧ s ≤ 255) (ht : t.size ≤ 140737488355328) :
    IsVo O (f + 1) w (.mk k n s t [] []) [.int .i64 k,.int .i64 n,.int .i64 s,.string t,.slice none 0 0,.slice none 0 0] :=
  ⟨_,_,rfl,wf_i64 (by show -9223372036854775808 ≤ k ∧ k ≤ _;omega),wf_i64 hn,wf_i64 (by show -9223372036854775808 ≤ s ∧ s ≤ _;omega),ht,Els.nil _ _ _ _ _,Els.nil _ _ _ _ _⟩
section
variable {rb vb f : Nat} {k : Int} {w0 w w' : World} {ns : List ByteArray} {ks : List V} {sn sk sn' sk' : Value} {q : Nat → Prop}
end
end K
namespace K
theorem elemV6 : ElemV Tryz.prog 46 48 6 88:=ElemV.mk' (z:=.agg #[.int .i64 0,.int .i64 0,.int .i64 0,.string ByteArray.empty,.slice none 0 0,.slice none 0 0]) Tryz.underlying46 (by kernel_rfl) rfl (by omega)
theorem elemS1 : ElemV Tryz.prog 45 9 1 16:=ElemV.mk' (z:=.string ByteArray.empty) Tryz.underlying45 (by kernel_rfl) rfl (by omega)
end K
namespace Vl
set_option maxHeartbeats 400000 in
theorem isName_any (s : ByteArray) (w : World) : Calls Tryz.prog 121 #[.string s] w fun e w' => e = .returned (.bool (isNameB s)) ∧ w = w':=by
  by_cases h1 : 1 ≤ s.size
  · have h1' : (1 : Int) ≤ s.size:=by omega
    go_enter Tryz.func121,Tryz.ntmps121
    go_wp2
    go_ret
    exact ⟨by simp [isNameB,h1];omega,rfl⟩
  · have h1' : decide ((1 : Int) ≤ s.size) = false:=decide_eq_false (by omega)
    go_enter Tryz.func121,Tryz.ntmps121
    go_wp2
    go_ret
    exact ⟨by simp [isNameB,h1],rfl⟩
theorem leq_not : ∀ (a p : List UInt8),(Op.bytesLess a p || a == p) = !Op.bytesLess p a
  | [],[] => rfl
  | [],_ :: _ => by simp [Op.bytesLess]
  | _ :: _,[] => by simp [Op.bytesLess]
  | x :: a,y :: p => by
    have ih:=leq_not a p;unfold Op.bytesLess;rcases Nat.lt_trichotomy x.toNat y.toNat with h | h | h
    · have h1 : x < y:=UInt8.lt_iff_toNat_lt.2 h
      have h2 : ¬ y < x:=fun e => by have:=UInt8.lt_iff_toNat_lt.1 e;omega
      have h3 : ¬ y = x:=fun e => by subst e;omega
      simp [h1,h2,h3]
    · obtain rfl : x = y:=UInt8.toNat.inj h
      simpa using ih
    · have h1 : y < x:=UInt8.lt_iff_toNat_lt.2 h
      have h2 : ¬ x < y:=fun e => by have:=UInt8.lt_iff_toNat_lt.1 e;omega
      have h3 : ¬ x = y:=fun e => by subst e;omega
      simp [h1,h2,h3]
theorem ret_bool {b b' : Bool} (h : b = b') : Ending.returned (.bool b) = Ending.returned (.bool b'):=by rw [h]
abbrev six (v : V) (sn sk : Value) : List Value:=[.int .i64 v.k,.int .i64 v.n,.int .i64 v.s,.string v.t,sn,sk]
def okN (l : List ByteArray) (i : Nat) : Bool:=isNameB (l.getD i noT) && (decide (i = 0) || Op.bytesLess (l.getD (i - 1) noT).toList (l.getD i noT).toList)
theorem fields_iff (v : V) : fieldsB v = true ↔ (∀ i,i < v.names.length → okN v.names i = true) ∧ v.names.length = v.kids.length:=by
  unfold fieldsB;rw [Bool.and_eq_true,Bool.and_eq_true,rises_iff,List.all_eq_true,decide_eq_true_iff,and_congr_left_iff];intro _
  constructor
  · rintro ⟨h1,h2⟩ i hi
    unfold okN;rw [Bool.and_eq_true,Bool.or_eq_true,decide_eq_true_iff];refine ⟨h1 _ (by simp [hi]),?_⟩;cases i with
    | zero => exact .inl rfl
    | succ i => exact .inr (h2 i hi)
  · intro h
    constructor
    · intro x hx
      obtain ⟨j,hj,rfl⟩:=List.getElem_of_mem hx;have:=h j hj;unfold okN at this;rw [Bool.and_eq_true] at this
      simpa [hj] using this.1
    · intro i hi
      have:=h (i + 1) hi;unfold okN at this;rw [Bool.and_eq_true,Bool.or_eq_true,decide_eq_true_iff] at this;exact this.2.resolve_left (by omega)
set_option maxHeartbeats 8000000 in
theorem fields_any {f : Nat} {w : World} {v : V} {cs : List Value} (h : IsV f w v cs) :
    Calls Tryz.prog 120 #[.agg cs.toArray] w fun e w' => e = .returned (.bool (fieldsB v)) ∧ Below w.heap.size w w':=by
  cases f with
  | zero => exact h.elim
  | succ f =>
  obtain ⟨sn,sk,rfl,-,-,-,-,hn,kp,kc,rfl,kl,kc2,-⟩:=h;have hbel : Below w.heap.size w (w.alloc (.cells (six v sn (.slice kp v.kids.length kc)).toArray 48)):=(Below.refl _ w).alloc (Nat.le_refl _) _;have hR : VBlk 48 (w.alloc (.cells (six v sn (.slice kp v.kids.length kc)).toArray 48)) w.heap.size (six v sn (.slice kp v.kids.length kc)):=VBlk.mk w _ _;have hn1:=hn.below hbel;obtain ⟨np,nc,rfl,nl,nc2,nsz,nr⟩:=hn1;have c4:=hR.cell 4 (by simp);have c5:=hR.cell 5 (by simp);simp only [List.getD_cons_zero,List.getD_cons_succ] at c4 c5;have Hnr:=Hid2.mk nr;have Hsz:=Hid2.mk nsz;have HB:=Hid2.mk hbel;have Hfi:=Hid2.mk (fields_iff v);clear hbel hn hR nr nsz;generalize hN : v.names.length = N at nl c4 c5 HB Hnr Hsz Hfi ⊢;generalize hK : v.kids.length = K at kl c4 c5 Hnr Hsz HB Hfi ⊢;generalize v.names = nm at Hnr Hsz Hfi hN ⊢;clear hN hK
  go_enter Tryz.func120,Tryz.ntmps120
  go_wp2_with fail
  go_loopw [8] (fun i wr => ∃ k : Nat,k ≤ N ∧ i = .int .i64 (k : Nat) ∧ (∃ n,wr = (w.alloc (.cells (six v (.slice np N nc) (.slice kp K kc)).toArray 48)).drewN n) ∧ ∀ j,j < k → okN nm j = true) (fun i _ => N - (intOf i).toNat)
  case atStart => exact ⟨0,Nat.zero_le _,rfl,⟨0,rfl⟩,fun j hj => absurd hj (by omega)⟩
  case round =>
    obtain ⟨k,hk,rfl,⟨n,rfl⟩,hall⟩:=hrel
    by_cases hkN : k < N
    · have hkz : (k : Int) < (N : Int):=by omega
      obtain ⟨b,o,rfl,hb,hr⟩:=Hnr.out (by omega);have ck:=hr k hkN;have hka:=Hsz.out k hkN;have Hok:=Hid2.mk (show okN nm k = (isNameB (nm.getD k noT) && (decide (k = 0) || Op.bytesLess (nm.getD (k - 1) noT).toList (nm.getD k noT).toList)) from rfl);have Hall:=Hid2.mk hall
      by_cases hk0 : k = 0
      · have hk0' : ((k : Int) == 0) = true:=by simp [hk0]
        have hk0'' : ¬ (0 : Int) < (k : Int):=by omega
        have hk00:=decide_eq_true hk0;rw [hk00] at Hok;clear hr hall hk0 hk00;generalize nm.getD k noT = a at ck hka Hok;generalize nm.getD (k - 1) noT = p at Hok;cases ha : isNameB a with
        | true =>
          rw [ha] at Hok;have Ha:=Hid2.mk ha;clear ha
          go_wp2_with (go_fit (isName_any a _);rw [Ha.out];rintro e w' ⟨rfl,rfl⟩)
          refine ⟨⟨k + 1,by omega,rfl,⟨_,rfl⟩,fun j hj => (Nat.lt_succ_iff_lt_or_eq.1 hj).elim (Hall.out j) (fun e => by rw [e,Hok.out];rfl)⟩,by show N - ((k : Int) + 1).toNat < N - ((k : Int)).toNat;omega⟩
        | false =>
          rw [ha] at Hok;have Ha:=Hid2.mk ha;clear ha
          go_wp2_with (go_fit (isName_any a _);rw [Ha.out];rintro e w' ⟨rfl,rfl⟩)
          go_ret
          refine ⟨ret_bool (b:=false) (Bool.eq_false_iff.2 fun h => ?_).symm,belowN HB.out _⟩;have:=(Hfi.out.1 h).1 k hkN;rw [Hok.out] at this;cases this
      · obtain ⟨m,rfl⟩ : ∃ m,k = m + 1:=⟨k - 1,by omega⟩
        have cm:=hr m (by omega);have hkm : IntKind.i64.wrap (((m + 1 : Nat) : Int) - 1) = (m : Nat):=by rw [IntWalk.i64_in _ (by omega)];omega
        have hk0'' : (0 : Int) < ((m + 1 : Nat) : Int):=by omega
        have hk00:=decide_eq_false hk0;rw [hk00,Nat.add_sub_cancel] at Hok;clear hr hall hk0 hk00;generalize nm.getD (m + 1) noT = a at ck hka Hok;generalize nm.getD m noT = p at cm Hok;cases ha : isNameB a with
        | true =>
          cases hp : Op.bytesLess p.toList a.toList with
          | true =>
            have hle : (Op.bytesLess a.toList p.toList || a.toList == p.toList) = false:=by rw [leq_not,hp];rfl
            rw [ha,hp] at Hok;have Ha:=Hid2.mk ha;have Hp:=Hid2.mk hp;clear ha hp
            go_wp2_with (go_fit (isName_any a _);rw [Ha.out];rintro e w' ⟨rfl,rfl⟩)
            refine ⟨⟨m + 2,by omega,rfl,⟨_,rfl⟩,fun j hj => (Nat.lt_succ_iff_lt_or_eq.1 hj).elim (Hall.out j) (fun e => by rw [e,Hok.out];rfl)⟩,by show N - ((m : Int) + 1 + 1).toNat < N - (((m + 1 : Nat) : Int)).toNat;omega⟩
          | false =>
            have hle : (Op.bytesLess a.toList p.toList || a.toList == p.toList) = true:=by rw [leq_not,hp];rfl
            rw [ha,hp] at Hok;have Ha:=Hid2.mk ha;have Hp:=Hid2.mk hp;clear ha hp
            go_wp2_with (go_fit (isName_any a _);rw [Ha.out];rintro e w' ⟨rfl,rfl⟩)
            go_ret
            refine ⟨ret_bool (b:=false) (Bool.eq_false_iff.2 fun h => ?_).symm,belowN HB.out _⟩;have:=(Hfi.out.1 h).1 _ hkN;rw [Hok.out] at this;cases this
        | false =>
          rw [ha] at Hok;have Ha:=Hid2.mk ha;clear ha
          go_wp2_with (go_fit (isName_any a _);rw [Ha.out];rintro e w' ⟨rfl,rfl⟩)
          go_ret
          refine ⟨ret_bool (b:=false) (Bool.eq_false_iff.2 fun h => ?_).symm,belowN HB.out _⟩;have:=(Hfi.out.1 h).1 _ hkN;rw [Hok.out] at this;cases this
    · obtain rfl : k = N:=by omega
      have hd : (k : Int) ≤ k:=by omega
      have Hall:=Hid2.mk hall;clear hall
      go_wp2_with fail
      go_ret
      refine ⟨ret_bool (b:=(k : Int) == K) ?_,belowN HB.out _⟩;cases hf : fieldsB v with
      | true => have:=(Hfi.out.1 hf).2;simp [this]
      | false =>
        refine beq_eq_false_iff_ne.2 fun e => ?_;have:=Hfi.out.2 ⟨Hall.out,by omega⟩;rw [hf] at this;cases this
end Vl
namespace Vl
def formC (k n s : Int) (B P E N0 : Bool) : Bool :=
  if k = 1 then B && P && E
  else if k = 2 then decide (n / 2 = 0) && decide (s = 0) && P && E
  else if k = 3 then decide (s = 0) && P && E
  else if k = 4 then decide (1 ≤ s) && decide (s ≤ 18) && decide (¬ n.tmod 10 = 0) && P && E
  else if k = 5 then decide (0 ≤ n) && decide (n ≤ 9007199254740992) && decide (s = 0) && P && E
  else if k = 6 ∨ k = 7 then B && P
  else if k = 8 then B && N0 && E
  else if k = 9 then B && E
  else false
theorem formB_eq (v : V) : formB v = formC v.k v.n v.s (bareB v) (plainB v) (noTextB v) (decide (v.names.length = 0)):=by
  have h : (decide (0 ≤ v.n) && decide (v.n ≤ 1)) = decide (v.n / 2 = 0):=by
    by_cases h : v.n / 2 = 0
    · simp [h];omega
    · rw [decide_eq_false h,Bool.and_eq_false_iff,decide_eq_false_iff_not,decide_eq_false_iff_not];omega
  unfold formB formC;rw [h]
theorem IsV.open {f : Nat} {w : World} {v : V} {cs : List Value} (h : IsV f w v cs) :
    ∃ np nc kp kc,cs = [.int .i64 v.k,.int .i64 v.n,.int .i64 v.s,.string v.t,.slice np v.names.length nc,.slice kp v.kids.length kc] ∧
      (-9223372036854775808 ≤ v.n ∧ v.n ≤ 9223372036854775807) ∧ v.t.size ≤ 140737488355328 ∧ v.names.length ≤ nc ∧ nc ≤ 9223372036854775807 ∧ v.kids.length ≤ kc ∧ kc ≤ 9223372036854775807:=by
  cases f with
  | zero => exact h.elim
  | succ f =>
    obtain ⟨sn,sk,rfl,-,hn,-,ht,⟨np,nc,rfl,nl,nc2,-⟩,⟨kp,kc,rfl,kl,kc2,-⟩⟩:=h;refine ⟨np,nc,kp,kc,rfl,?_,ht,nl,nc2,kl,kc2⟩;simp [Lit.wf,IntKind.min,IntKind.max,IntKind.bits,IntKind.signed] at hn
    omega
theorem infoValue : (Tryz.prog.info? 48).map (·.size) = some 6:=by kernel_rfl
theorem empty_iff (t : ByteArray) : (t.toList == []) = decide (t.size = 0):=by
  have h : t.toList.length = t.size:=by rw [ByteArray.toList_eq];rfl
  cases hl : t.toList with
  | nil => rw [hl] at h;simp at h;simp [← h]
  | cons a l => rw [hl] at h;simp at h;simp [← h]
set_option maxRecDepth 100000 in
set_option maxHeartbeats 8000000 in
theorem shape_B {f : Nat} {w : World} {v : V} {cs : List Value} (h : IsV f w v cs) (hk : v.k = 1 ∨ v.k = 2 ∨ v.k = 3) :
    Calls Tryz.prog 117 #[.agg cs.toArray] w fun e w' => e = .returned (.int .i64 (shp v)) ∧ Below w.heap.size w w':=by
  obtain ⟨np,nc,kp,kc,hcs,hnn,ht,nl,nc2,kl,kc2⟩:=IsV.open h;have hform:=formB_eq v;have hB : bareB v = (decide (v.n = 0) && decide (v.s = 0)):=rfl;have hP : plainB v = (decide (v.names.length = 0) && decide (v.kids.length = 0)):=rfl;have hE : noTextB v = decide (v.t.size = 0):=rfl;have hem:=empty_iff v.t;have hshp : shp v = if formB v = false then 3 else if 16384 < v.t.size ∨ 200 < v.kids.length then 5 else if v.k = 9 ∧ fieldsB v = false then 3 else 0:=rfl
  rw [← hE] at hem;generalize formB v = F at hform hshp;generalize bareB v = B at hform hB;generalize plainB v = P at hform hP;generalize noTextB v = E at hform hE hem;generalize hG : fieldsB v = G at hshp;generalize shp v = R at hshp ⊢;generalize hN0 : decide (v.names.length = 0) = N0 at hform hP;generalize v.k = k at hk hcs hform hshp;generalize v.n = n at hcs hform hB hnn;generalize v.s = s at hcs hform hB;generalize v.t = t at hcs hE hem ht hshp;generalize v.names.length = N at hcs hN0 nl;generalize v.kids.length = K at hcs hP kl hshp;have hbel : Below w.heap.size w (w.alloc (.cells cs.toArray 48)):=(Below.refl _ w).alloc (Nat.le_refl _) _;have hR : VBlk 48 (w.alloc (.cells cs.toArray 48)) w.heap.size cs:=VBlk.mk w _ _;have h1:=h.below hbel;have HF:=Hid2.mk (fun m => fields_any (f:=f) (v:=v) (h1.below (belowN (Below.refl _ _) m)));rw [hG] at HF;have HR:=Hid2.mk hR;have HB:=Hid2.mk hbel;have Hshp:=Hid2.mk hshp;have Hform:=Hid2.mk hform;have hBv:=Hid2.mk hB;have hPv:=Hid2.mk hP;have hEv:=Hid2.mk hE;have hN0v:=Hid2.mk hN0;have c0:=hR.cell 0 (by subst hcs;simp);have c1:=hR.cell 1 (by subst hcs;simp);have c2:=hR.cell 2 (by subst hcs;simp);have c3:=hR.cell 3 (by subst hcs;simp);have c4:=hR.cell 4 (by subst hcs;simp);have c5:=hR.cell 5 (by subst hcs;simp);clear h hform hB hP hE hshp hG hbel hR h1 hN0;subst hcs;simp only [List.getD_cons_zero,List.getD_cons_succ] at c0 c1 c2 c3 c4 c5;have Hk:=Hid2.mk hk;clear hk
  go_enter Tryz.func117,Tryz.ntmps117
  go_upto_region 1 with fail
  generalize hw1 : World.alloc _ _ = w1 at c0 c1 c2 c3 c4 c5 HF HR HB ⊢
  go_cut [3] (fun b wx => b = .bool B ∧ ∃ m,wx = w1.drewN m)
  case first =>
    by_cases h0 : n = 0
    · obtain rfl:=h0
      go_wp2_with fail
      go_meet
      exact ⟨congrArg Value.bool (by rw [hBv.out];by_cases e : s = 0 <;> simp [e]),0,rfl⟩
    · have h0' : (n == 0) = false:=beq_eq_false_iff_ne.2 h0
      go_wp2_with fail
      go_meet
      exact ⟨congrArg Value.bool (by rw [hBv.out];simp [h0]),0,rfl⟩
  case rest =>
  obtain ⟨rfl,m1,rfl⟩:=hcut
  go_upto_region 2 with fail
  go_cut [4] (fun b wx => b = .bool P ∧ ∃ m,wx = w1.drewN m)
  case first =>
    by_cases h0 : N = 0
    · obtain rfl:=h0
      go_wp2_with fail
      go_meet
      exact ⟨congrArg Value.bool (by rw [hPv.out,← hN0v.out];by_cases e : K = 0 <;> simp [e]),m1,rfl⟩
    · have h0' : ((N : Int) == 0) = false:=beq_eq_false_iff_ne.2 (by omega)
      go_wp2_with fail
      go_meet
      exact ⟨congrArg Value.bool (by rw [hPv.out,← hN0v.out];simp [h0]),m1,rfl⟩
  case rest =>
  obtain ⟨rfl,m2,rfl⟩:=hcut
  go_upto_block 0 with fail
  go_cut [5] (fun b wx => b = .bool F ∧ ∃ m,wx = w1.drewN m)
  case first =>
    clear Hshp HF HR HB hBv hPv hEv hnn
    by_cases k1 : k = 1
    · obtain rfl:=k1
      cases B
      · (go_wp2_with fail;go_meet;exact ⟨congrArg Value.bool (by rw [Hid2.out Hform,← Hid2.out hN0v];simp [formC, *]),m2,rfl⟩)
      ·
        cases P
        · (go_wp2_with fail;go_meet;exact ⟨congrArg Value.bool (by rw [Hid2.out Hform,← Hid2.out hN0v];simp [formC, *]),m2,rfl⟩)
        ·
          (go_wp2_with fail;go_meet;exact ⟨congrArg Value.bool (by rw [Hid2.out Hform,← Hid2.out hN0v];simp [formC, *]),m2,rfl⟩)
    have q1 : (k == 1) = false:=beq_eq_false_iff_ne.2 k1
    by_cases k2 : k = 2
    · obtain rfl:=k2
      by_cases c3 : n / 2 = 0
      ·
        by_cases c2 : s = 0
        · obtain rfl:=c2
          cases P
          · (go_wp2_with fail;go_meet;exact ⟨congrArg Value.bool (by rw [Hid2.out Hform,← Hid2.out hN0v];simp [formC, *]),m2,rfl⟩)
          ·
            (go_wp2_with fail;go_meet;exact ⟨congrArg Value.bool (by rw [Hid2.out Hform,← Hid2.out hN0v];simp [formC, *]),m2,rfl⟩)
        · have : (s == 0) = false:=beq_eq_false_iff_ne.2 c2
          (go_wp2_with fail;go_meet;exact ⟨congrArg Value.bool (by rw [Hid2.out Hform,← Hid2.out hN0v];simp [formC, *]),m2,rfl⟩)
      · have : (n / 2 == 0) = false:=beq_eq_false_iff_ne.2 c3
        (go_wp2_with fail;go_meet;exact ⟨congrArg Value.bool (by rw [Hid2.out Hform,← Hid2.out hN0v];simp [formC, *]),m2,rfl⟩)
    have q2 : (k == 2) = false:=beq_eq_false_iff_ne.2 k2
    by_cases k3 : k = 3
    · obtain rfl:=k3
      by_cases c2 : s = 0
      · obtain rfl:=c2
        cases P
        · (go_wp2_with fail;go_meet;exact ⟨congrArg Value.bool (by rw [Hid2.out Hform,← Hid2.out hN0v];simp [formC, *]),m2,rfl⟩)
        ·
          (go_wp2_with fail;go_meet;exact ⟨congrArg Value.bool (by rw [Hid2.out Hform,← Hid2.out hN0v];simp [formC, *]),m2,rfl⟩)
      · have : (s == 0) = false:=beq_eq_false_iff_ne.2 c2
        (go_wp2_with fail;go_meet;exact ⟨congrArg Value.bool (by rw [Hid2.out Hform,← Hid2.out hN0v];simp [formC, *]),m2,rfl⟩)
    have q3 : (k == 3) = false:=beq_eq_false_iff_ne.2 k3;exact absurd Hk.out (by omega)
  case rest =>
  obtain ⟨rfl,m3,rfl⟩:=hcut;clear Hform hBv hPv hEv hN0v hnn;cases F
  · have Hr:=Hid2.mk (show R = 3 by rw [Hshp.out];rfl)
    clear Hshp
    go_wp2_with fail
    go_ret
    exact ⟨by rw [Hr.out];rfl,belowN HB.out _⟩
  by_cases d1 : 16384 < t.size
  · have d1' : (16384 : Int) < t.size:=by omega
    have Hr:=Hid2.mk (show R = 5 by rw [Hshp.out];simp [d1]);clear Hshp
    go_wp2_with fail
    go_ret
    exact ⟨by rw [Hr.out];rfl,belowN HB.out _⟩
  have d1' : decide ((16384 : Int) < t.size) = false:=decide_eq_false (by omega)
  by_cases d2 : 200 < K
  · have d2' : (200 : Int) < K:=by omega
    have Hr:=Hid2.mk (show R = 5 by rw [Hshp.out];simp [d2]);clear Hshp
    go_wp2_with fail
    go_ret
    exact ⟨by rw [Hr.out];rfl,belowN HB.out _⟩
  have d2' : decide ((200 : Int) < K) = false:=decide_eq_false (by omega)
  by_cases d3 : k = 9
  · have Hr:=Hid2.mk (show R = if G = false then 3 else 0 by rw [Hshp.out];simp [d1,d2,d3])
    clear Hshp;subst d3;exact absurd Hk.out (by omega)
  have d3' : (k == 9) = false:=beq_eq_false_iff_ne.2 d3;have Hr:=Hid2.mk (show R = 0 by rw [Hshp.out];simp [d1,d2,d3]);clear Hshp
  go_wp2_with fail
  go_ret
  exact ⟨by rw [Hr.out];rfl,belowN HB.out _⟩
end Vl
namespace Vl
set_option maxRecDepth 100000 in
set_option maxHeartbeats 8000000 in
theorem shape_C {f : Nat} {w : World} {v : V} {cs : List Value} (h : IsV f w v cs) (hk : v.k = 4) :
    Calls Tryz.prog 117 #[.agg cs.toArray] w fun e w' => e = .returned (.int .i64 (shp v)) ∧ Below w.heap.size w w':=by
  obtain ⟨np,nc,kp,kc,hcs,hnn,ht,nl,nc2,kl,kc2⟩:=IsV.open h;have hform:=formB_eq v;have hB : bareB v = (decide (v.n = 0) && decide (v.s = 0)):=rfl;have hP : plainB v = (decide (v.names.length = 0) && decide (v.kids.length = 0)):=rfl;have hE : noTextB v = decide (v.t.size = 0):=rfl;have hem:=empty_iff v.t;have hshp : shp v = if formB v = false then 3 else if 16384 < v.t.size ∨ 200 < v.kids.length then 5 else if v.k = 9 ∧ fieldsB v = false then 3 else 0:=rfl
  rw [← hE] at hem;generalize formB v = F at hform hshp;generalize bareB v = B at hform hB;generalize plainB v = P at hform hP;generalize noTextB v = E at hform hE hem;generalize hG : fieldsB v = G at hshp;generalize shp v = R at hshp ⊢;generalize hN0 : decide (v.names.length = 0) = N0 at hform hP;generalize v.k = k at hk hcs hform hshp;generalize v.n = n at hcs hform hB hnn;generalize v.s = s at hcs hform hB;generalize v.t = t at hcs hE hem ht hshp;generalize v.names.length = N at hcs hN0 nl;generalize v.kids.length = K at hcs hP kl hshp;have hbel : Below w.heap.size w (w.alloc (.cells cs.toArray 48)):=(Below.refl _ w).alloc (Nat.le_refl _) _;have hR : VBlk 48 (w.alloc (.cells cs.toArray 48)) w.heap.size cs:=VBlk.mk w _ _;have h1:=h.below hbel;have HF:=Hid2.mk (fun m => fields_any (f:=f) (v:=v) (h1.below (belowN (Below.refl _ _) m)));rw [hG] at HF;have HR:=Hid2.mk hR;have HB:=Hid2.mk hbel;have Hshp:=Hid2.mk hshp;have Hform:=Hid2.mk hform;have hBv:=Hid2.mk hB;have hPv:=Hid2.mk hP;have hEv:=Hid2.mk hE;have hN0v:=Hid2.mk hN0;have c0:=hR.cell 0 (by subst hcs;simp);have c1:=hR.cell 1 (by subst hcs;simp);have c2:=hR.cell 2 (by subst hcs;simp);have c3:=hR.cell 3 (by subst hcs;simp);have c4:=hR.cell 4 (by subst hcs;simp);have c5:=hR.cell 5 (by subst hcs;simp);clear h hform hB hP hE hshp hG hbel hR h1 hN0;subst hcs;simp only [List.getD_cons_zero,List.getD_cons_succ] at c0 c1 c2 c3 c4 c5;have q1 : (k == 1) = false:=beq_eq_false_iff_ne.2 (by omega);have q2 : (k == 2) = false:=beq_eq_false_iff_ne.2 (by omega);have q3 : (k == 3) = false:=beq_eq_false_iff_ne.2 (by omega);have Hk:=Hid2.mk hk;clear hk
  go_enter Tryz.func117,Tryz.ntmps117
  go_upto_region 1 with fail
  generalize hw1 : World.alloc _ _ = w1 at c0 c1 c2 c3 c4 c5 HF HR HB ⊢
  go_cut [3] (fun b wx => b = .bool B ∧ ∃ m,wx = w1.drewN m)
  case first =>
    by_cases h0 : n = 0
    · obtain rfl:=h0
      go_wp2_with fail
      go_meet
      exact ⟨congrArg Value.bool (by rw [hBv.out];by_cases e : s = 0 <;> simp [e]),0,rfl⟩
    · have h0' : (n == 0) = false:=beq_eq_false_iff_ne.2 h0
      go_wp2_with fail
      go_meet
      exact ⟨congrArg Value.bool (by rw [hBv.out];simp [h0]),0,rfl⟩
  case rest =>
  obtain ⟨rfl,m1,rfl⟩:=hcut
  go_upto_region 2 with fail
  go_cut [4] (fun b wx => b = .bool P ∧ ∃ m,wx = w1.drewN m)
  case first =>
    by_cases h0 : N = 0
    · obtain rfl:=h0
      go_wp2_with fail
      go_meet
      exact ⟨congrArg Value.bool (by rw [hPv.out,← hN0v.out];by_cases e : K = 0 <;> simp [e]),m1,rfl⟩
    · have h0' : ((N : Int) == 0) = false:=beq_eq_false_iff_ne.2 (by omega)
      go_wp2_with fail
      go_meet
      exact ⟨congrArg Value.bool (by rw [hPv.out,← hN0v.out];simp [h0]),m1,rfl⟩
  case rest =>
  obtain ⟨rfl,m2,rfl⟩:=hcut
  go_upto_block 0 with fail
  go_cut [5] (fun b wx => b = .bool F ∧ ∃ m,wx = w1.drewN m)
  case first =>
    clear Hshp HF HR HB hBv hPv hEv hnn
    by_cases k4 : k = 4
    · obtain rfl:=k4
      by_cases c4 : 1 ≤ s
      ·
        by_cases c3 : s ≤ 18
        ·
          by_cases c2 : n.tmod 10 = 0
          · have : (n.tmod 10 != 0) = false:=by simp [c2]
            (go_wp2_with fail;go_meet;exact ⟨congrArg Value.bool (by rw [Hid2.out Hform,← Hid2.out hN0v];simp [formC, *]),m2,rfl⟩)
          · have : (n.tmod 10 != 0) = true:=by simp [c2]
            cases P
            · (go_wp2_with fail;go_meet;exact ⟨congrArg Value.bool (by rw [Hid2.out Hform,← Hid2.out hN0v];simp [formC, *]),m2,rfl⟩)
            ·
              (go_wp2_with fail;go_meet;exact ⟨congrArg Value.bool (by rw [Hid2.out Hform,← Hid2.out hN0v];simp [formC, *]),m2,rfl⟩)
        · have : decide (s ≤ 18) = false:=decide_eq_false c3
          (go_wp2_with fail;go_meet;exact ⟨congrArg Value.bool (by rw [Hid2.out Hform,← Hid2.out hN0v];simp [formC, *]),m2,rfl⟩)
      · have : decide (1 ≤ s) = false:=decide_eq_false c4
        (go_wp2_with fail;go_meet;exact ⟨congrArg Value.bool (by rw [Hid2.out Hform,← Hid2.out hN0v];simp [formC, *]),m2,rfl⟩)
    have q4 : (k == 4) = false:=beq_eq_false_iff_ne.2 k4;exact absurd Hk.out (by omega)
  case rest =>
  obtain ⟨rfl,m3,rfl⟩:=hcut;clear Hform hBv hPv hEv hN0v hnn;cases F
  · have Hr:=Hid2.mk (show R = 3 by rw [Hshp.out];rfl)
    clear Hshp
    go_wp2_with fail
    go_ret
    exact ⟨by rw [Hr.out];rfl,belowN HB.out _⟩
  by_cases d1 : 16384 < t.size
  · have d1' : (16384 : Int) < t.size:=by omega
    have Hr:=Hid2.mk (show R = 5 by rw [Hshp.out];simp [d1]);clear Hshp
    go_wp2_with fail
    go_ret
    exact ⟨by rw [Hr.out];rfl,belowN HB.out _⟩
  have d1' : decide ((16384 : Int) < t.size) = false:=decide_eq_false (by omega)
  by_cases d2 : 200 < K
  · have d2' : (200 : Int) < K:=by omega
    have Hr:=Hid2.mk (show R = 5 by rw [Hshp.out];simp [d2]);clear Hshp
    go_wp2_with fail
    go_ret
    exact ⟨by rw [Hr.out];rfl,belowN HB.out _⟩
  have d2' : decide ((200 : Int) < K) = false:=decide_eq_false (by omega)
  by_cases d3 : k = 9
  · have Hr:=Hid2.mk (show R = if G = false then 3 else 0 by rw [Hshp.out];simp [d1,d2,d3])
    clear Hshp;subst d3;exact absurd Hk.out (by omega)
  have d3' : (k == 9) = false:=beq_eq_false_iff_ne.2 d3;have Hr:=Hid2.mk (show R = 0 by rw [Hshp.out];simp [d1,d2,d3]);clear Hshp
  go_wp2_with fail
  go_ret
  exact ⟨by rw [Hr.out];rfl,belowN HB.out _⟩
end Vl
namespace Vl
set_option maxRecDepth 100000 in
set_option maxHeartbeats 8000000 in
theorem shape_D {f : Nat} {w : World} {v : V} {cs : List Value} (h : IsV f w v cs) (hk : v.k = 5) :
    Calls Tryz.prog 117 #[.agg cs.toArray] w fun e w' => e = .returned (.int .i64 (shp v)) ∧ Below w.heap.size w w':=by
  obtain ⟨np,nc,kp,kc,hcs,hnn,ht,nl,nc2,kl,kc2⟩:=IsV.open h;have hform:=formB_eq v;have hB : bareB v = (decide (v.n = 0) && decide (v.s = 0)):=rfl;have hP : plainB v = (decide (v.names.length = 0) && decide (v.kids.length = 0)):=rfl;have hE : noTextB v = decide (v.t.size = 0):=rfl;have hem:=empty_iff v.t;have hshp : shp v = if formB v = false then 3 else if 16384 < v.t.size ∨ 200 < v.kids.length then 5 else if v.k = 9 ∧ fieldsB v = false then 3 else 0:=rfl
  rw [← hE] at hem;generalize formB v = F at hform hshp;generalize bareB v = B at hform hB;generalize plainB v = P at hform hP;generalize noTextB v = E at hform hE hem;generalize hG : fieldsB v = G at hshp;generalize shp v = R at hshp ⊢;generalize hN0 : decide (v.names.length = 0) = N0 at hform hP;generalize v.k = k at hk hcs hform hshp;generalize v.n = n at hcs hform hB hnn;generalize v.s = s at hcs hform hB;generalize v.t = t at hcs hE hem ht hshp;generalize v.names.length = N at hcs hN0 nl;generalize v.kids.length = K at hcs hP kl hshp;have hbel : Below w.heap.size w (w.alloc (.cells cs.toArray 48)):=(Below.refl _ w).alloc (Nat.le_refl _) _;have hR : VBlk 48 (w.alloc (.cells cs.toArray 48)) w.heap.size cs:=VBlk.mk w _ _;have h1:=h.below hbel;have HF:=Hid2.mk (fun m => fields_any (f:=f) (v:=v) (h1.below (belowN (Below.refl _ _) m)));rw [hG] at HF;have HR:=Hid2.mk hR;have HB:=Hid2.mk hbel;have Hshp:=Hid2.mk hshp;have Hform:=Hid2.mk hform;have hBv:=Hid2.mk hB;have hPv:=Hid2.mk hP;have hEv:=Hid2.mk hE;have hN0v:=Hid2.mk hN0;have c0:=hR.cell 0 (by subst hcs;simp);have c1:=hR.cell 1 (by subst hcs;simp);have c2:=hR.cell 2 (by subst hcs;simp);have c3:=hR.cell 3 (by subst hcs;simp);have c4:=hR.cell 4 (by subst hcs;simp);have c5:=hR.cell 5 (by subst hcs;simp);clear h hform hB hP hE hshp hG hbel hR h1 hN0;subst hcs;simp only [List.getD_cons_zero,List.getD_cons_succ] at c0 c1 c2 c3 c4 c5;have q1 : (k == 1) = false:=beq_eq_false_iff_ne.2 (by omega);have q2 : (k == 2) = false:=beq_eq_false_iff_ne.2 (by omega);have q3 : (k == 3) = false:=beq_eq_false_iff_ne.2 (by omega);have q4 : (k == 4) = false:=beq_eq_false_iff_ne.2 (by omega);have Hk:=Hid2.mk hk;clear hk
  go_enter Tryz.func117,Tryz.ntmps117
  go_upto_region 1 with fail
  generalize hw1 : World.alloc _ _ = w1 at c0 c1 c2 c3 c4 c5 HF HR HB ⊢
  go_cut [3] (fun b wx => b = .bool B ∧ ∃ m,wx = w1.drewN m)
  case first =>
    by_cases h0 : n = 0
    · obtain rfl:=h0
      go_wp2_with fail
      go_meet
      exact ⟨congrArg Value.bool (by rw [hBv.out];by_cases e : s = 0 <;> simp [e]),0,rfl⟩
    · have h0' : (n == 0) = false:=beq_eq_false_iff_ne.2 h0
      go_wp2_with fail
      go_meet
      exact ⟨congrArg Value.bool (by rw [hBv.out];simp [h0]),0,rfl⟩
  case rest =>
  obtain ⟨rfl,m1,rfl⟩:=hcut
  go_upto_region 2 with fail
  go_cut [4] (fun b wx => b = .bool P ∧ ∃ m,wx = w1.drewN m)
  case first =>
    by_cases h0 : N = 0
    · obtain rfl:=h0
      go_wp2_with fail
      go_meet
      exact ⟨congrArg Value.bool (by rw [hPv.out,← hN0v.out];by_cases e : K = 0 <;> simp [e]),m1,rfl⟩
    · have h0' : ((N : Int) == 0) = false:=beq_eq_false_iff_ne.2 (by omega)
      go_wp2_with fail
      go_meet
      exact ⟨congrArg Value.bool (by rw [hPv.out,← hN0v.out];simp [h0]),m1,rfl⟩
  case rest =>
  obtain ⟨rfl,m2,rfl⟩:=hcut
  go_upto_block 0 with fail
  go_cut [5] (fun b wx => b = .bool F ∧ ∃ m,wx = w1.drewN m)
  case first =>
    clear Hshp HF HR HB hBv hPv hEv hnn
    by_cases k5 : k = 5
    · obtain rfl:=k5
      by_cases c4 : 0 ≤ n
      ·
        by_cases c3 : n ≤ 9007199254740992
        ·
          by_cases c2 : s = 0
          · obtain rfl:=c2
            cases P
            · (go_wp2_with fail;go_meet;exact ⟨congrArg Value.bool (by rw [Hid2.out Hform,← Hid2.out hN0v];simp [formC, *]),m2,rfl⟩)
            ·
              (go_wp2_with fail;go_meet;exact ⟨congrArg Value.bool (by rw [Hid2.out Hform,← Hid2.out hN0v];simp [formC, *]),m2,rfl⟩)
          · have : (s == 0) = false:=beq_eq_false_iff_ne.2 c2
            (go_wp2_with fail;go_meet;exact ⟨congrArg Value.bool (by rw [Hid2.out Hform,← Hid2.out hN0v];simp [formC, *]),m2,rfl⟩)
        · have : decide (n ≤ 9007199254740992) = false:=decide_eq_false c3
          (go_wp2_with fail;go_meet;exact ⟨congrArg Value.bool (by rw [Hid2.out Hform,← Hid2.out hN0v];simp [formC, *]),m2,rfl⟩)
      · have : decide (0 ≤ n) = false:=decide_eq_false c4
        (go_wp2_with fail;go_meet;exact ⟨congrArg Value.bool (by rw [Hid2.out Hform,← Hid2.out hN0v];simp [formC, *]),m2,rfl⟩)
    have q5 : (k == 5) = false:=beq_eq_false_iff_ne.2 k5;exact absurd Hk.out (by omega)
  case rest =>
  obtain ⟨rfl,m3,rfl⟩:=hcut;clear Hform hBv hPv hEv hN0v hnn;cases F
  · have Hr:=Hid2.mk (show R = 3 by rw [Hshp.out];rfl)
    clear Hshp
    go_wp2_with fail
    go_ret
    exact ⟨by rw [Hr.out];rfl,belowN HB.out _⟩
  by_cases d1 : 16384 < t.size
  · have d1' : (16384 : Int) < t.size:=by omega
    have Hr:=Hid2.mk (show R = 5 by rw [Hshp.out];simp [d1]);clear Hshp
    go_wp2_with fail
    go_ret
    exact ⟨by rw [Hr.out];rfl,belowN HB.out _⟩
  have d1' : decide ((16384 : Int) < t.size) = false:=decide_eq_false (by omega)
  by_cases d2 : 200 < K
  · have d2' : (200 : Int) < K:=by omega
    have Hr:=Hid2.mk (show R = 5 by rw [Hshp.out];simp [d2]);clear Hshp
    go_wp2_with fail
    go_ret
    exact ⟨by rw [Hr.out];rfl,belowN HB.out _⟩
  have d2' : decide ((200 : Int) < K) = false:=decide_eq_false (by omega)
  by_cases d3 : k = 9
  · have Hr:=Hid2.mk (show R = if G = false then 3 else 0 by rw [Hshp.out];simp [d1,d2,d3])
    clear Hshp;subst d3;exact absurd Hk.out (by omega)
  have d3' : (k == 9) = false:=beq_eq_false_iff_ne.2 d3;have Hr:=Hid2.mk (show R = 0 by rw [Hshp.out];simp [d1,d2,d3]);clear Hshp
  go_wp2_with fail
  go_ret
  exact ⟨by rw [Hr.out];rfl,belowN HB.out _⟩
end Vl
namespace Vl
set_option maxRecDepth 100000 in
set_option maxHeartbeats 8000000 in
theorem shape_E {f : Nat} {w : World} {v : V} {cs : List Value} (h : IsV f w v cs) (hk : ¬ v.k = 1 ∧ ¬ v.k = 2 ∧ ¬ v.k = 3 ∧ ¬ v.k = 4 ∧ ¬ v.k = 5) :
    Calls Tryz.prog 117 #[.agg cs.toArray] w fun e w' => e = .returned (.int .i64 (shp v)) ∧ Below w.heap.size w w' := by
  obtain ⟨np, nc, kp, kc, hcs, hnn, ht, nl, nc2, kl, kc2⟩ := IsV.open h; have hform := formB_eq v; have hB : bareB v = (decide (v.n = 0) && decide (v.s = 0)) := rfl; have hP : plainB v = (decide (v.names.length = 0) && decide (v.kids.length = 0)) := rfl; have hE : noTextB v = decide (v.t.size = 0) := rfl; have hem := empty_iff v.t; have hshp : shp v = if formB v = false then 3 else if 16384 < v.t.size ∨ 200 < v.kids.length then 5 else if v.k = 9 ∧ fieldsB v = false then 3 else 0 := rfl
  rw [← hE] at hem; generalize formB v = F at hform hshp; generalize bareB v = B at hform hB; generalize plainB v = P at hform hP; generalize noTextB v = E at hform hE hem; generalize hG : fieldsB v = G at hshp; generalize shp v = R at hshp ⊢; generalize hN0 : decide (v.names.length = 0) = N0 at hform hP; generalize v.k = k at hk hcs hform hshp; generalize v.n = n at hcs hform hB hnn; generalize v.s = s at hcs hform hB; generalize v.t = t at hcs hE hem ht hshp; generalize v.names.length = N at hcs hN0 nl; generalize v.kids.length = K at hcs hP kl hshp; have hbel : Below w.heap.size w (w.alloc (.cells cs.toArray 48)) := (Below.refl _ w).alloc (Nat.le_refl _) _; have hR : VBlk 48 (w.alloc (.cells cs.toArray 48)) w.heap.size cs := VBlk.mk w _ _; have h1 := h.below hbel; have HF := Hid2.mk (fun m => fields_any (f := f) (v := v) (h1.below (belowN (Below.refl _ _) m))); rw [hG] at HF; have HR := Hid2.mk hR; have HB := Hid2.mk hbel; have Hshp := Hid2.mk hshp; have Hform := Hid2.mk hform; have hBv := Hid2.mk hB; have hPv := Hid2.mk hP; have hEv := Hid2.mk hE; have hN0v := Hid2.mk hN0; have c0 := hR.cell 0 (by subst hcs; simp); have c1 := hR.cell 1 (by subst hcs; simp); have c2 := hR.cell 2 (by subst hcs; simp); have c3 := hR.cell 3 (by subst hcs; simp); have c4 := hR.cell 4 (by subst hcs; simp); have c5 := hR.cell 5 (by subst hcs; simp); clear h hform hB hP hE hshp hG hbel hR h1 hN0; subst hcs; simp only [List.getD_cons_zero, List.getD_cons_succ] at c0 c1 c2 c3 c4 c5; have q1 : (k == 1) = false := beq_eq_false_iff_ne.2 (by omega); have q2 : (k == 2) = false := beq_eq_false_iff_ne.2 (by omega); have q3 : (k == 3) = false := beq_eq_false_iff_ne.2 (by omega); have q4 : (k == 4) = false := beq_eq_false_iff_ne.2 (by omega); have q5 : (k == 5) = false := beq_eq_false_iff_ne.2 (by omega); have Hk := Hid2.mk hk; clear hk
  go_enter Tryz.func117, Tryz.ntmps117
  go_upto_region 1 with fail
  generalize hw1 : World.alloc _ _ = w1 at c0 c1 c2 c3 c4 c5 HF HR HB ⊢
  go_cut [3] (fun b wx => b = .bool B ∧ ∃ m, wx = w1.drewN m)
  case first =>
    by_cases h0 : n = 0
    · obtain rfl := h0
      go_wp2_with fail
      go_meet
      exact ⟨congrArg Value.bool (by rw [hBv.out]; by_cases e : s = 0 <;> simp [e]), 0, rfl⟩
    · have h0' : (n == 0) = false := beq_eq_false_iff_ne.2 h0
      go_wp2_with fail
      go_meet
      exact ⟨congrArg Value.bool (by rw [hBv.out]; simp [h0]), 0, rfl⟩
  case rest =>
  obtain ⟨rfl, m1, rfl⟩ := hcut
  go_upto_region 2 with fail
  go_cut [4] (fun b wx => b = .bool P ∧ ∃ m, wx = w1.drewN m)
  case first =>
    by_cases h0 : N = 0
    · obtain rfl := h0
      go_wp2_with fail
      go_meet
      exact ⟨congrArg Value.bool (by rw [hPv.out, ← hN0v.out]; by_cases e : K = 0 <;> simp [e]), m1, rfl⟩
    · have h0' : ((N : Int) == 0) = false := beq_eq_false_iff_ne.2 (by omega)
      go_wp2_with fail
      go_meet
      exact ⟨congrArg Value.bool (by rw [hPv.out, ← hN0v.out]; simp [h0]), m1, rfl⟩
  case rest =>
  obtain ⟨rfl, m2, rfl⟩ := hcut
  go_upto_block 0 with fail
  go_cut [5] (fun b wx => b = .bool F ∧ ∃ m, wx = w1.drewN m)
  case first =>
    clear Hshp HF HR HB hBv hPv hEv hnn
    by_cases k6 : k = 6
    · obtain rfl := k6
      cases B
      · (go_wp2_with fail; go_meet; exact ⟨congrArg Value.bool (by rw [Hid2.out Hform, ← Hid2.out hN0v]; simp [formC, *]), m2, rfl⟩)
      ·
        (go_wp2_with fail; go_meet; exact ⟨congrArg Value.bool (by rw [Hid2.out Hform, ← Hid2.out hN0v]; simp [formC, *]), m2, rfl⟩)
    have q6 : (k == 6) = false := beq_eq_false_iff_ne.2 k6
    by_cases k7 : k = 7
    · obtain rfl := k7
      cases B
      · (go_wp2_with fail; go_meet; exact ⟨congrArg Value.bool (by rw [Hid2.out Hform, ← Hid2.out hN0v]; simp [formC, *]), m2, rfl⟩)
      ·
        (go_wp2_with fail; go_meet; exact ⟨congrArg Value.bool (by rw [Hid2.out Hform, ← Hid2.out hN0v]; simp [formC, *]), m2, rfl⟩)
    have q7 : (k == 7) = false := beq_eq_false_iff_ne.2 k7
    by_cases k8 : k = 8
    · obtain rfl := k8
      cases B
      · (go_wp2_with fail; go_meet; exact ⟨congrArg Value.bool (by rw [Hid2.out Hform, ← Hid2.out hN0v]; simp [formC, *]), m2, rfl⟩)
      ·
        by_cases c1 : N = 0
        · obtain rfl := c1
          (go_wp2_with fail; go_meet; exact ⟨congrArg Value.bool (by rw [Hid2.out Hform, ← Hid2.out hN0v]; simp [formC, *]), m2, rfl⟩)
        · have : ((N : Int) == 0) = false := beq_eq_false_iff_ne.2 (by omega)
          (go_wp2_with fail; go_meet; exact ⟨congrArg Value.bool (by rw [Hid2.out Hform, ← Hid2.out hN0v]; simp [formC, *]), m2, rfl⟩)
    have q8 : (k == 8) = false := beq_eq_false_iff_ne.2 k8
    by_cases k9 : k = 9
    · obtain rfl := k9
      cases B
      · (go_wp2_with fail; go_meet; exact ⟨congrArg Value.bool (by rw [Hid2.out Hform, ← Hid2.out hN0v]; simp [formC, *]), m2, rfl⟩)
      ·
        (go_wp2_with fail; go_meet; exact ⟨congrArg Value.bool (by rw [Hid2.out Hform, ← Hid2.out hN0v]; simp [formC, *]), m2, rfl⟩)
    have q9 : (k == 9) = false := beq_eq_false_iff_ne.2 k9
    go_wp2_with fail
    go_meet
    exact ⟨congrArg Value.bool (by rw [Hform.out]; have hk := Hk.out; simp [formC, k6, k7, k8, k9, hk.1, hk.2.1, hk.2.2.1, hk.2.2.2.1, hk.2.2.2.2]), m2, rfl⟩
  case rest =>
  obtain ⟨rfl, m3, rfl⟩ := hcut; clear Hform hBv hPv hEv hN0v hnn; cases F
  · have Hr := Hid2.mk (show R = 3 by rw [Hshp.out]; rfl)
    clear Hshp
    go_wp2_with fail
    go_ret
    exact ⟨by rw [Hr.out]; rfl, belowN HB.out _⟩
  by_cases d1 : 16384 < t.size
  · have d1' : (16384 : Int) < t.size := by omega
    have Hr := Hid2.mk (show R = 5 by rw [Hshp.out]; simp [d1]); clear Hshp
    go_wp2_with fail
    go_ret
    exact ⟨by rw [Hr.out]; rfl, belowN HB.out _⟩
  have d1' : decide ((16384 : Int) < t.size) = false := decide_eq_false (by omega)
  by_cases d2 : 200 < K
  · have d2' : (200 : Int) < K := by omega
    have Hr := Hid2.mk (show R = 5 by rw [Hshp.out]; simp [d2]); clear Hshp
    go_wp2_with fail
    go_ret
    exact ⟨by rw [Hr.out]; rfl, belowN HB.out _⟩
  have d2' : decide ((200 : Int) < K) = false := decide_eq_false (by omega)
  by_cases d3 : k = 9
  · have Hr := Hid2.mk (show R = if G = false then 3 else 0 by rw [Hshp.out]; simp [d1, d2, d3])
    clear Hshp; subst d3; cases G <;>
    (go_wp2_with (first | (refine Ld.load_on (by rfl) 48 (.tmp 1) rfl w.heap.size rfl 48 _ (0, 0) _ HR.out Tryz.underlying48 rfl infoValue ?_) | (go_fit (HF.out _); rintro e w' ⟨rfl, hbw⟩))
     go_ret
     exact ⟨by rw [Hr.out]; rfl, (belowN HB.out _).trans (hbw.mono HB.out.size)⟩)
  have d3' : (k == 9) = false := beq_eq_false_iff_ne.2 d3; have Hr := Hid2.mk (show R = 0 by rw [Hshp.out]; simp [d1, d2, d3]); clear Hshp
  go_wp2_with fail
  go_ret
  exact ⟨by rw [Hr.out]; rfl, belowN HB.out _⟩
end Vl
namespace Vl
theorem shape_any {f : Nat} {w : World} {v : V} {cs : List Value} (h : IsV f w v cs) :
    Calls Tryz.prog 117 #[.agg cs.toArray] w fun e w' => e = .returned (.int .i64 (shp v)) ∧ Below w.heap.size w w':=by
  by_cases h1 : v.k = 1 ∨ v.k = 2 ∨ v.k = 3
  · exact shape_B h h1
  by_cases h4 : v.k = 4
  · exact shape_C h h4
  by_cases h5 : v.k = 5
  · exact shape_D h h5
  exact shape_E h ⟨fun e => h1 (.inl e),fun e => h1 (.inr (.inl e)),fun e => h1 (.inr (.inr e)),h4,h5⟩
theorem IsV.kids {f : Nat} {w : World} {v : V} {cs : List Value} (h : IsV (f + 1) w v cs) :
    ∃ sn kp kc,cs = [.int .i64 v.k,.int .i64 v.n,.int .i64 v.s,.string v.t,sn,.slice kp v.kids.length kc] ∧ v.kids.length ≤ kc ∧ kc ≤ 9223372036854775807 ∧
      (0 < v.kids.length → ∃ b o,kp = some ⟨b,o,none⟩ ∧ b < w.heap.size ∧ ∀ j,j < v.kids.length → ∃ c,c.length = 6 ∧ IsV f w (v.kids.getD j noV) c ∧ w.rangeAt b (o + j * 6) c):=by
  obtain ⟨sn,sk,rfl,-,-,-,-,-,⟨kp,kc,rfl,kl,kc2,kr⟩⟩:=h;exact ⟨sn,kp,kc,rfl,kl,kc2,kr⟩
theorem IsV.ones {f : Nat} {w : World} {v : V} {cs : List Value} (h : IsV f w v cs) : cs.toArray.all (·.oneCell') = true:=by
  obtain ⟨np,nc,kp,kc,rfl,-⟩:=IsV.open h;simp [Value.oneCell']
abbrev zero6 : List Value:=[.int .i64 0,.int .i64 0,.int .i64 0,.string ByteArray.empty,.slice none 0 0,.slice none 0 0]
set_option maxRecDepth 100000 in
set_option maxHeartbeats 8000000 in
theorem check_any : ∀ {f : Nat} {w : World} {v : V} {cs : List Value} (m : Nat) (d : Int),IsV f w v cs → m ≤ 16 → d = 17 - (m : Int) →
    Calls Tryz.prog 111 #[.agg cs.toArray,.int .i64 d] w fun e w' => e = .returned (.int .i64 (chk m v)) ∧ Below w.heap.size w w'
  | 0,_,_,_,_,_,h,_,_ => h.elim
  | f + 1,w,v,cs,m,d,h,hm,hd => by
    have ih : ∀ {w : World} {v : V} {cs : List Value} (m : Nat) (d : Int),IsV f w v cs → m ≤ 16 → d = 17 - (m : Int) → Calls Tryz.prog 111 #[.agg cs.toArray,.int .i64 d] w fun e w' => e = .returned (.int .i64 (chk m v)) ∧ Below w.heap.size w w':=@check_any f;obtain ⟨sn,kp,kc,hcs,kl,kc2,kr⟩:=IsV.kids h;have hlen:=h.len;have hbel : Below w.heap.size w (w.alloc (.cells cs.toArray 48)):=(Below.refl _ w).alloc (Nat.le_refl _) _;have hR : VBlk 48 (w.alloc (.cells cs.toArray 48)) w.heap.size cs:=VBlk.mk w _ _;have h1:=h.below hbel;have HF:=Hid2.mk (shape_any (f:=f + 1) (v:=v) h1);have HR:=Hid2.mk hR;have HB:=Hid2.mk hbel;have Hkr:=Hid2.mk kr;have c5:=hR.cell 5 (by subst hcs;simp);have hinf : (Tryz.prog.info? 48).map (·.size) = some cs.toArray.size:=by rw [infoValue];simp [hlen]
    have Hih:=Hid2.mk @ih;clear h hbel hR h1 kr ih;cases m with
    | zero =>
      have hd1 : 16 < d:=by omega
      clear hd;clear hinf HF Hih;subst hcs;simp only [List.getD_cons_zero,List.getD_cons_succ] at c5
      go_enter Tryz.func111,Tryz.ntmps111
      go_wp2_with fail
      go_ret
      exact ⟨rfl,HB.out⟩
    | succ m =>
      have hd1 : d ≤ 16:=by omega
      have hd2 : 1 ≤ d:=by omega
      have hd3 : d + 1 = 17 - (m : Int):=by omega
      have Hd3:=Hid2.mk hd3;have Hm:=Hid2.mk (show m ≤ 16 by omega);have Hchk:=Hid2.mk (show chk (m + 1) v = if shp v = 0 then firstBad (v.kids.map (chk m)) else shp v from rfl);have Hcl:=Hid2.mk hcs;clear hd hm hd3;subst hcs;simp only [List.getD_cons_zero,List.getD_cons_succ] at c5;generalize hS : shp v = S at HF Hchk;generalize chk (m + 1) v = R at Hchk ⊢;clear hS
      by_cases h0 : S = 0
      · have Hr:=Hid2.mk (show R = firstBad (v.kids.map (chk m)) by rw [Hchk.out,if_pos h0])
        clear Hchk;rw [h0] at HF;clear h0
        go_enter Tryz.func111,Tryz.ntmps111
        generalize hw1 : World.alloc _ _ = w1 at c5 HF HR HB ⊢
        go_wp2_with (first | (refine Ld.load_on (by rfl) 48 (.tmp 2) rfl w.heap.size rfl 48 _ (0,0) _ HR.out Tryz.underlying48 rfl hinf ?_) | (go_fit HF.out;rintro e w' ⟨rfl,hbw⟩;have c5':=(hbw.cell (p:=⟨w.heap.size,5,none⟩) (VBlk.lt HR.out)).trans c5))
        have Hbw:=Hid2.mk (HB.out.trans (hbw.mono HB.out.size));have Hkr1:=Hid2.mk (fun h0 => Hkr.out h0);clear hbw c5 c5' HR hinf
        go_loopw [19] (fun i wr => ∃ k : Nat,k ≤ v.kids.length ∧ i = .int .i64 (k : Nat) ∧ Below w.heap.size w wr ∧ ∀ j,j < k → chk m (v.kids.getD j noV) = 0) (fun i _ => v.kids.length - (intOf i).toNat)
        case atStart => exact ⟨0,Nat.zero_le _,rfl,Hbw.out,fun j hj => absurd hj (by omega)⟩
        case round =>
          clear Hbw;obtain ⟨k,hk,rfl,hbr,hall⟩:=hrel;have Hbr:=Hid2.mk hbr;have Hall:=Hid2.mk hall;clear hbr hall
          by_cases hkN : k < v.kids.length
          · have hkz : (k : Int) < (v.kids.length : Int):=by omega
            obtain ⟨b,o,rfl,hb,hr⟩:=Hkr.out (by omega);obtain ⟨c,hc6,hci,hcr⟩:=hr k hkN;have Hc1:=Hid2.mk (show wr.rangeAt b (o + k * 6) c from fun i u hu => by rw [Hbr.out.cell (p:=⟨b,o + k * 6 + i,none⟩) hb];exact hcr i u hu);have Hci:=Hid2.mk hci;have hic : (Tryz.prog.info? 48).map (·.size) = some c.length:=by rw [infoValue,hc6]
            have hone:=IsV.ones hci;have hinf2 : (Tryz.prog.info? 48).map (·.size) = some c.toArray.size:=by rw [infoValue];simp [hc6]
            have hZ : VBlk 48 (wr.alloc (.cells zero6.toArray 48)) wr.heap.size zero6:=VBlk.mk wr _ _;have hZ2 : VBlk 48 ((wr.alloc (.cells zero6.toArray 48)).setRow wr.heap.size c.toArray) wr.heap.size c:=hZ.setRow c;have hbz : Below w.heap.size w ((wr.alloc (.cells zero6.toArray 48)).setRow wr.heap.size c.toArray):=below_setRow (Hbr.out.alloc Hbr.out.size _) Hbr.out.size _;have Hca:=Hid2.mk (Hih.out m (d + 1) (hci.below hbz) Hm.out Hd3.out);have HZ:=Hid2.mk hZ;have HZ2:=Hid2.mk hZ2;have Hbz:=Hid2.mk hbz;have Hck:=Hid2.mk (show (v.kids.map (chk m)).getD k 0 = chk m (v.kids.getD k noV) from chk_map m v.kids k hkN);generalize hx : chk m (v.kids.getD k noV) = x at Hca Hck;have Hx:=Hid2.mk hx;clear hr hcr hci Hkr Hkr1 hZ hZ2 hbz hx
            by_cases hx0 : x = 0
            · obtain rfl:=hx0
              go_wp2_with (first | (refine wpList_load_mid rfl 48 (.tmp 21) rfl b (o + k * 6) rfl c _ Hc1.out Tryz.underlying48 rfl hic ?_) | (refine wpList_store_row rfl 48 (.tmp 7) (.tmp 22) rfl wr.heap.size c.toArray rfl rfl 48 zero6.toArray HZ.out hinf2 (by simp [hc6]) hone ?_) | (refine Ld.load_on (by rfl) 48 (.tmp 7) rfl wr.heap.size rfl 48 _ (0,0) _ HZ2.out Tryz.underlying48 rfl hinf2 ?_) | (go_fit Hca.out;rintro e w' ⟨rfl,hbw⟩))
              refine ⟨⟨k + 1,by omega,rfl,Hbz.out.trans (hbw.mono Hbz.out.size),fun j hj => (Nat.lt_succ_iff_lt_or_eq.1 hj).elim (Hall.out j) (fun e => by rw [e];exact Hx.out)⟩,?_⟩
              show v.kids.length - ((k : Int) + 1).toNat < v.kids.length - (k : Int).toNat
              omega
            · have hx0' : (x == 0) = false:=beq_eq_false_iff_ne.2 hx0
              go_wp2_with (first | (refine wpList_load_mid rfl 48 (.tmp 21) rfl b (o + k * 6) rfl c _ Hc1.out Tryz.underlying48 rfl hic ?_) | (refine wpList_store_row rfl 48 (.tmp 7) (.tmp 22) rfl wr.heap.size c.toArray rfl rfl 48 zero6.toArray HZ.out hinf2 (by simp [hc6]) hone ?_) | (refine Ld.load_on (by rfl) 48 (.tmp 7) rfl wr.heap.size rfl 48 _ (0,0) _ HZ2.out Tryz.underlying48 rfl hinf2 ?_) | (go_fit Hca.out;rintro e w' ⟨rfl,hbw⟩))
              go_ret
              refine ⟨?_,Hbz.out.trans (hbw.mono Hbz.out.size)⟩;rw [Hr.out,firstBad_take (i:=k) (by rw [List.length_map];exact hkN) (fun j hj => by rw [chk_map m v.kids j (by omega)];exact Hall.out j hj) (by rw [Hck.out];exact hx0),Hck.out]
              rfl
          · obtain rfl : k = v.kids.length:=by omega
            have hkz : (v.kids.length : Int) ≤ (v.kids.length : Int):=by omega
            have Hr2:=Hid2.mk (show R = 0 by rw [Hr.out];exact firstBad_all fun j hj => by rw [List.length_map] at hj;rw [chk_map m v.kids j hj];exact Hall.out j hj)
            go_wp2_with fail
            go_ret
            exact ⟨by rw [Hr2.out];rfl,Hbr.out⟩
      · have Hr:=Hid2.mk (show R = S by rw [Hchk.out,if_neg h0])
        have h0' : (S == 0) = false:=beq_eq_false_iff_ne.2 h0
        go_enter Tryz.func111,Tryz.ntmps111
        go_wp2_with (first | (refine Ld.load_on (by rfl) 48 (.tmp 2) rfl w.heap.size rfl 48 _ (0,0) _ HR.out Tryz.underlying48 rfl hinf ?_) | (go_fit HF.out;rintro e w' ⟨rfl,hbw⟩))
        go_ret
        exact ⟨by rw [Hr.out];rfl,HB.out.trans (hbw.mono HB.out.size)⟩
set_option maxHeartbeats 800000 in
theorem Check_any {f : Nat} {w : World} {v : V} {cs : List Value} (h : IsV f w v cs) :
    Calls Tryz.prog 99 #[.agg cs.toArray] w fun e w' => e = .returned (.int .i64 (chk 16 v)) ∧ Below w.heap.size w w':=by
  have hlen:=h.len;have hbel : Below w.heap.size w (w.alloc (.cells cs.toArray 48)):=(Below.refl _ w).alloc (Nat.le_refl _) _;have hR : VBlk 48 (w.alloc (.cells cs.toArray 48)) w.heap.size cs:=VBlk.mk w _ _;have HF:=Hid2.mk (check_any (f:=f) (v:=v) 16 1 (h.below hbel) (by omega) (by omega));have HR:=Hid2.mk hR;have HB:=Hid2.mk hbel;have hinf : (Tryz.prog.info? 48).map (·.size) = some cs.toArray.size:=by rw [infoValue];simp [hlen]
  clear h hbel hR hlen
  go_enter Tryz.func99,Tryz.ntmps99
  go_wp2_with (first | (refine Ld.load_on (by rfl) 48 (.tmp 1) rfl w.heap.size rfl 48 _ (0,0) _ HR.out Tryz.underlying48 rfl hinf ?_) | (go_fit HF.out;rintro e w' ⟨rfl,hbw⟩))
  go_ret
  exact ⟨rfl,HB.out.trans (hbw.mono HB.out.size)⟩
end Vl
namespace K
section
variable {n : Nat} {l : Env} {w : World} {fn : Func} {R : Ending → World → Prop}
theorem WQ.retCT {kn : Nat} {md : Option (Option Nat)} {p q g T m : Nat} {ty' : TypeId} {cs : List Value} {x : Value} (hr : fn.results = #[.cell p ty',.tmp q]) (hl : look l p = some (.pointer (some ⟨g,0,none⟩))) (hq : look l q = some x) (ht : cellsN (tyOf ty ty') = some m) (hm : cs.length = m) (hb : VBlk T w g cs)
    (h : R (.returned (.tuple #[.agg cs.toArray,x])) w) : WQ ⟨kn,[],md⟩ (bodyPost Tryz.prog fn R) .ret l w :=
  ⟨fun a ha => ⟨ha.defers,_,by
    obtain ⟨_,hu,hdd,hsz⟩:=cellsN_ok tyOk ht;have hp:=ha.getD hl;have hx:=ha.getD hq;simp only [Array.getD_eq_getD_getElem?] at hp hx;have:=run_loadVar_mid (P:=Tryz.prog) w g 0 ty' cs _ (VBlk.rangeAt hb) hu hdd (by rw [hsz,hm]);simp [results,hr,hp,hx,asAddr,this],h⟩⟩
end
section
variable {n : NN} {Q : Exit → Act → World → Prop} {l : Env} {w : World} {ops : Array Oper} {d : Nat} {S : World → Prop} {m fuel : Nat} {listed : Array Bool}
theorem WD.build {oi : Oper} {t : Nat} {parts : List (Nat × Operand)} {ps : List (Nat × Value)} (cells : List Value) (i : Nat) (hi : ops[i]? = some oi) (hs : mayB ops listed i m = true) (hd : oi.dst = some d) (hn : Nat.blt d n.n = true)
    (hQ : Passes Q) (hw : wants ops l oi = some true) (ho : oi.op = .build t parts.toArray) (hp : evlParts l parts = some ps) (hf : Tryz.prog.built t ps = some cells.toArray) (hS : listed.getD m false = true ∨ S w)
    (h : WD n ops Q S m fuel (listed.setIfInBounds i true) ((d,.agg cells.toArray) :: l) w) : WD n ops Q S m (fuel + 1) listed l w :=
  WD.first i hi hs hd hn hQ (fun a ha => .inl ⟨wants_run ha hw,fun w _ => by
    unfold execOp;rw [ho];have:=run_build (P:=Tryz.prog) w t (parts.toArray.map fun (i,x) => (i,a.eval x)) cells.toArray (by
      rw [show (parts.toArray.map fun (x : Nat × Operand) => (x.1,a.eval x.2)).toList = ps by rw [Array.toList_map];exact evlParts_map ha hp];exact hf)
    simp only [Sem.run_bind,this,Result.andThen_ok]
    rfl⟩) hS h
end
def zV : V:=.mk 0 0 0 noT [] []
def zCells : List Value:=[.int .i64 0,.int .i64 0,.int .i64 0,.string ByteArray.empty,.slice none 0 0,.slice none 0 0]
theorem zV_is (O : Nat → Prop) (f : Nat) (w : World) : IsVo O (f + 1) w zV zCells:=isVo_leaf (k:=0) (n:=0) (s:=0) (t:=noT) (by omega) (by omega) (by omega) (by decide)
section
variable {w0 wx wy : World} {vb rb xb : Nat} {l3 : List Int} {x : V} {cs : List Value} {e e' : Int}
end
end K
namespace K
theorem encV_two {m : Nat} {v : V} : encV (m + 1) v = v.k ::
    (if v.k = 2 then [v.n] else if v.k = 3 then uvB (zig v.n) else if v.k = 4 then uvB (zig v.n) ++ [v.s] else if v.k = 5 then uvB v.n.toNat
     else if v.k = 6 ∨ v.k = 7 then uvB v.t.size ++ byI v.t
     else if v.k = 8 ∨ v.k = 9 then uvB v.kids.length ++ (List.range v.kids.length).flatMap (pieceE (encV m) (decide (v.k = 9)) v.names v.kids) else []) := rfl
set_option maxHeartbeats 16000000 in
theorem clay_any (m : Nat) (ih : ∀ {f : Nat} {w0 w : World} {v : V} {cs : List Value} {b : Value} {l : List Int}, IsV f w0 v cs → chk m v = 0 → Bu w b l → Apart w0 w b → l.length + (encV m v).length ≤ 70368744177664 →
      Calls Tryz.prog 100 #[b, .agg cs.toArray] w fun e w' => ∃ b', e = .returned b' ∧ Bu w' b' (l ++ encV m v) ∧ Grow w b w' b') {f : Nat} {w0 w : World} {v : V} {cs : List Value} {b : Value} {l : List Int}
    (hv : IsV f w0 v cs) (hc : chk (m + 1) v = 0) (hb : Bu w b l) (ha : Apart w0 w b) (hm : l.length + (encV (m + 1) v).length ≤ 70368744177664) :
    Calls Tryz.prog 100 #[b, .agg cs.toArray] w fun e w' => ∃ b', e = .returned b' ∧ Bu w' b' (l ++ encV (m + 1) v) ∧ Grow w b w' b' := by
  obtain ⟨hk, f2, f3, f4, f5, fk, ft, f9⟩ := shp_form (chk_shp hc); cases f with
  | zero => exact hv.elim
  | succ f =>
  obtain ⟨sn, sk, rfl, wk, wn, ws, -, hnames, hkids⟩ := hv; have hkey := encV_two (m := m) (v := v); rw [hkey] at hm; have hn : -9223372036854775808 ≤ v.n ∧ v.n ≤ 9223372036854775807 := by simp [Lit.wf, IntKind.min, IntKind.max, IntKind.bits, IntKind.signed] at wn; omega
  have hzl := zig_lt hn; refine enter (args := [b, .agg (six v sn sk).toArray]) Tryz.func100 rfl Tryz.ntmps100 rfl ?_; refine K.kgo ?_; refine WL.box rfl rfl rfl rfl rfl fun bb w1 hf => ?_; have hfb : Fresh w bb w1 119 [b] := by obtain ⟨sp, c, rfl, -, -⟩ := hb.form; exact hf
  clear hf; have hbb : bb = w.heap.size := hfb.eq; refine WL.box rfl rfl rfl rfl rfl fun g w2 hf => ?_; have hfg : Fresh w1 g w2 48 (six v sn sk) := hf; clear hf; have hgb : g = bb + 1 := by rw [hfg.eq, hfb.size, hbb]
  have hbw : ∀ x, b.ownBlock = some x → x < w.heap.size := hb.lt; have hbx : Bx bb w2 b l := ⟨(hfb.blk.below hfg.below hfb.blk.lt), (hb.below hfb.below).below hfg.below, fun e => by have := hbw _ e; omega⟩; have hblk : VBlk 48 w2 g (six v sn sk) := hfg.blk; have hgo : b.ownBlock ≠ some g := fun e => by have := hbw _ e; omega
  have hw12 : Below w.heap.size w w2 := hfb.below.trans (hfg.below.mono hfb.below.size); have hsz2 : w2.heap.size = w.heap.size + 2 := by rw [hfg.size, hfb.size]
  clear hfb hfg
  -- what stands while the own row grows
  have hR : ∀ {wk vk}, GrowB bb w2 b wk vk → VBlk 48 wk g (six v sn sk) := fun h => (Bx.keep h hblk hgo (by omega)).1; have hA : ∀ {wk vk}, GrowB bb w2 b wk vk → Apart w0 wk vk := fun {wk vk} h => by
    refine ⟨?_, fun x hx => (h.2 x hx).elim (fun h2 => ha.own x h2) (fun h2 => by have := ha.below.size; omega)⟩; have h1 : Below w0.heap.size w0 w2 := ha.below.trans (hw12.mono ha.below.size); refine h1.trans ((h.1.mono fun x (hx : x < w0.heap.size) => ⟨Nat.lt_of_lt_of_le hx h1.size, fun e => by have := ha.own x e; omega, by have := ha.below.size; omega⟩).below)
  have hG : ∀ {wk vk}, GrowB bb w2 b wk vk → Grow w b wk vk := fun {wk vk} h => by
    refine ⟨?_, fun x hx => (h.2 x hx).imp id (fun h2 => by omega)⟩; have h1 : Keep (fun x => x < w.heap.size ∧ b.ownBlock ≠ some x) w w2 := (Keep.of_below hw12).mono fun _ h => h.1; exact h1.trans (h.1.mono fun x hx => ⟨by omega, hx.2, by omega⟩)
  have g0 : GrowB bb w2 b w2 b := GrowB.refl _ _ _; have fin : ∀ {b' w' x}, Bu w' b' (l ++ v.k :: x) → GrowB bb w2 b w' b' → (v.k :: x = encV (m + 1) v) → ∃ b'', Ending.returned b' = .returned b'' ∧ Bu w' b'' (l ++ encV (m + 1) v) ∧ Grow w b w' b'' :=
    fun {b' w' x} h1 h2 h3 => ⟨b', rfl, by rw [← h3]; exact h1, hG h2⟩
  have e8 : IntKind.u8.wrap v.k = v.k := by rw [IntKind.wrap_u8]; omega
  have hl1 : l.length + 1 ≤ 70368744177664 := by simp at hm; omega
  refine K.kgo ?_; refine WL.fn (caps := [.tmp 2]) rfl rfl rfl rfl rfl ?_; refine K.kgo ?_; refine WL.load rfl rfl rfl rfl rfl rfl (hbx.blk.cell 0 (by simp)) ?_; refine K.kgo ?_; refine WL.load rfl rfl rfl rfl rfl rfl ((hR g0).cell 0 (by simp)) ?_; refine K.kgo ?_; refine WL.push rfl rfl rfl rfl rfl rfl rfl rfl rfl rfl rfl (fun _ => rfl) rfl hbx.bu (by simp; omega) fun b2 w3 hb2 hg2 => ?_; obtain ⟨hblk3, hbx3, g3⟩ := hbx.put hb2 hg2; refine WL.store rfl rfl rfl rfl rfl hb2.cell1 (by kernel_rfl) (hblk3.cell 0 (by simp)) (hblk3.free 0) ?_; generalize w3.setCell ⟨bb, 0, none⟩ b2 = w4 at hbx3 g3; clear hblk3 hg2 hb2; rw [e8] at hbx3; refine K.kgo ?_; refine WL.load rfl rfl rfl rfl rfl rfl ((hR g3).cell 0 (by simp)) ?_; have hl2 : (l ++ [v.k]).length = l.length + 1 := by simp
  have hL0 : ∀ x, l ++ v.k :: x = (l ++ [v.k]) ++ x := fun x => by simp
  generalize hL : l ++ [v.k] = L at hbx3 hl2 hL0; have hl3 : L.length + (encV (m + 1) v).length ≤ 70368744177664 + 1 := by rw [hkey]; simp at hm ⊢; omega
  by_cases k1 : v.k = 1
  · refine K.kgo ?_
    refine WL.load rfl rfl rfl rfl rfl rfl (hbx3.blk.cell 0 (by simp)) ?_; refine K.kgo ?_; refine WQ.ret1 rfl rfl (fin (x := []) (by rw [hL0, List.append_nil]; exact hbx3.bu) g3 ?_); rw [hkey]; simp [k1]
  by_cases k2 : v.k = 2
  · have hx := f2 k2
    have e8 : IntKind.u8.wrap v.n = v.n := by rw [IntKind.wrap_u8]; omega
    have hkx : encV (m + 1) v = v.k :: [v.n] := by rw [hkey, if_pos k2]
    rw [hkx] at hl3; simp at hl3
    refine K.kgo ?_; refine WL.load rfl rfl rfl rfl rfl rfl (hbx3.blk.cell 0 (by simp)) ?_; refine K.kgo ?_; refine WL.load rfl rfl rfl rfl rfl rfl ((hR g3).cell 1 (by simp)) ?_; refine K.kgo ?_; refine WL.push rfl rfl rfl rfl rfl rfl rfl rfl rfl rfl rfl (fun _ => rfl) rfl hbx3.bu (by simp; omega) fun b3 w5 hb3 hg3 => ?_; obtain ⟨hblk4, hbx4, g4⟩ := hbx3.put hb3 hg3; refine WL.store rfl rfl rfl rfl rfl hb3.cell1 (by kernel_rfl) (hblk4.cell 0 (by simp)) (hblk4.free 0) ?_; generalize w5.setCell ⟨bb, 0, none⟩ b3 = w6 at hbx4 g4; refine K.kgo ?_; refine WL.load rfl rfl rfl rfl rfl rfl (hbx4.blk.cell 0 (by simp)) ?_; refine K.kgo ?_; refine WQ.ret1 rfl rfl (fin (x := [v.n]) ?_ (g3.trans g4) hkx.symm); rw [hL0, ← e8]; exact hbx4.bu
  by_cases k3 : v.k = 3
  · have hkx : encV (m + 1) v = v.k :: uvB (zig v.n) := by rw [hkey, if_neg k2, if_pos k3]
    rw [hkx] at hl3; simp at hl3
    refine K.kgo ?_; refine WL.load rfl rfl rfl rfl rfl rfl ((hR g3).cell 1 (by simp)) ?_; refine K.kgo ?_; refine WL.call rfl rfl rfl rfl rfl Tryz.func113 rfl (by kernel_rfl) (zig_any v.n hn w4) ?_; rintro e _ ⟨rfl, rfl⟩; refine ⟨_, rfl, ?_⟩; refine WL.callF (args := [.tmp 30]) rfl rfl rfl rfl rfl rfl Tryz.func112 rfl (by kernel_rfl) (lay1_any hzl hbx3 (by omega)) ?_; rintro e w6 ⟨rfl, b4, hbx4, g4⟩; refine ⟨_, rfl, ?_⟩; refine K.kgo ?_; refine WL.load rfl rfl rfl rfl rfl rfl (hbx4.blk.cell 0 (by simp)) ?_; refine K.kgo ?_; exact WQ.ret1 rfl rfl (fin (by rw [hL0]; exact hbx4.bu) (g3.trans g4) hkx.symm)
  by_cases k4 : v.k = 4
  · have hx := f4 k4
    have e8 : IntKind.u8.wrap v.s = v.s := by rw [IntKind.wrap_u8]; omega
    have hkx : encV (m + 1) v = v.k :: (uvB (zig v.n) ++ [v.s]) := by rw [hkey, if_neg k2, if_neg k3, if_pos k4]
    rw [hkx] at hl3; simp at hl3
    refine K.kgo ?_; refine WL.load rfl rfl rfl rfl rfl rfl ((hR g3).cell 1 (by simp)) ?_; refine K.kgo ?_; refine WL.call rfl rfl rfl rfl rfl Tryz.func113 rfl (by kernel_rfl) (zig_any v.n hn w4) ?_; rintro e _ ⟨rfl, rfl⟩; refine ⟨_, rfl, ?_⟩; refine WL.callF (args := [.tmp 37]) rfl rfl rfl rfl rfl rfl Tryz.func112 rfl (by kernel_rfl) (lay1_any hzl hbx3 (by omega)) ?_; rintro e w6 ⟨rfl, b4, hbx4, g4⟩; refine ⟨_, rfl, ?_⟩; have g34 := g3.trans g4; refine K.kgo ?_; refine WL.load rfl rfl rfl rfl rfl rfl (hbx4.blk.cell 0 (by simp)) ?_; refine K.kgo ?_; refine WL.load rfl rfl rfl rfl rfl rfl ((hR g34).cell 2 (by simp)) ?_; refine K.kgo ?_; refine WL.push rfl rfl rfl rfl rfl rfl rfl rfl rfl rfl rfl (fun _ => rfl) rfl hbx4.bu (by simp; omega) fun b5 w7 hb5 hg5 => ?_; obtain ⟨hblk5, hbx5, g5⟩ := hbx4.put hb5 hg5; refine WL.store rfl rfl rfl rfl rfl hb5.cell1 (by kernel_rfl) (hblk5.cell 0 (by simp)) (hblk5.free 0) ?_; generalize w7.setCell ⟨bb, 0, none⟩ b5 = w8 at hbx5 g5; refine K.kgo ?_; refine WL.load rfl rfl rfl rfl rfl rfl (hbx5.blk.cell 0 (by simp)) ?_; refine K.kgo ?_; refine WQ.ret1 rfl rfl (fin (x := uvB (zig v.n) ++ [v.s]) ?_ (g34.trans g5) hkx.symm); rw [hL0, ← List.append_assoc, ← e8]; exact hbx5.bu
  by_cases k5 : v.k = 5
  · have hx := f5 k5
    have e8 : IntKind.u64.wrap v.n = (v.n.toNat : Int) := by rw [IntKind.wrap_u64]; omega
    have hkx : encV (m + 1) v = v.k :: uvB v.n.toNat := by rw [hkey, if_neg k2, if_neg k3, if_neg k4, if_pos k5]
    rw [hkx] at hl3; simp at hl3
    refine K.kgo ?_; refine WL.load rfl rfl rfl rfl rfl rfl ((hR g3).cell 1 (by simp)) ?_; refine K.kgo ?_; refine WL.callF (args := [.tmp 50]) rfl rfl rfl rfl rfl rfl Tryz.func112 rfl (by kernel_rfl) (by rw [e8]; exact lay1_any (by omega) hbx3 (by omega)) ?_; rintro e w6 ⟨rfl, b4, hbx4, g4⟩; refine ⟨_, rfl, ?_⟩; refine K.kgo ?_; refine WL.load rfl rfl rfl rfl rfl rfl (hbx4.blk.cell 0 (by simp)) ?_; refine K.kgo ?_; exact WQ.ret1 rfl rfl (fin (by rw [hL0]; exact hbx4.bu) (g3.trans g4) hkx.symm)
  by_cases k67 : v.k = 6 ∨ v.k = 7
  · have e8 : IntKind.u64.wrap (v.t.size : Int) = ((v.t.size : Nat) : Int) := by rw [IntKind.wrap_u64]; omega
    have hkx : encV (m + 1) v = v.k :: (uvB v.t.size ++ byI v.t) := by rw [hkey, if_neg k2, if_neg k3, if_neg k4, if_neg k5, if_pos k67]
    have hbl := byI_len v.t; rw [hkx] at hl3; simp only [List.length_cons, List.length_append] at hl3; rcases k67 with k6 | k7
    all_goals
      refine K.kgo ?_; refine WL.load rfl rfl rfl rfl rfl rfl ((hR g3).cell 3 (by simp)) ?_; refine K.kgo ?_; refine WL.callF (args := [.tmp 59]) rfl rfl rfl rfl rfl rfl Tryz.func112 rfl (by kernel_rfl) (by rw [e8]; exact lay1_any (by omega) hbx3 (by omega)) ?_; rintro e w6 ⟨rfl, b4, hbx4, g4⟩; refine ⟨_, rfl, ?_⟩; have g34 := g3.trans g4; refine K.kgo ?_; refine WL.load rfl rfl rfl rfl rfl rfl (hbx4.blk.cell 0 (by simp)) ?_; refine K.kgo ?_; refine WL.load rfl rfl rfl rfl rfl rfl ((hR g34).cell 3 (by simp)) ?_; refine WL.appS rfl rfl rfl rfl rfl hbx4.bu rfl (by rw [List.length_append]; omega) fun b5 w7 hb5 hg5 => ?_; obtain ⟨hblk5, hbx5, g5⟩ := hbx4.put hb5 hg5; refine WL.store rfl rfl rfl rfl rfl hb5.cell1 (by kernel_rfl) (hblk5.cell 0 (by simp)) (hblk5.free 0) ?_; generalize w7.setCell ⟨bb, 0, none⟩ b5 = w8 at hbx5 g5; refine K.kgo ?_; refine WL.load rfl rfl rfl rfl rfl rfl (hbx5.blk.cell 0 (by simp)) ?_; refine K.kgo ?_; refine WQ.ret1 rfl rfl (fin (x := uvB v.t.size ++ byI v.t) ?_ (g34.trans g5) hkx.symm); rw [hL0, ← List.append_assoc]; exact hbx5.bu
  have k89 : v.k = 8 ∨ v.k = 9 := by omega
  obtain ⟨sp, cap, rfl, hcap1, hcap2, hrow⟩ := hkids; have hkx : encV (m + 1) v = v.k :: (uvB v.kids.length ++ (List.range v.kids.length).flatMap (pieceE (encV m) (decide (v.k = 9)) v.names v.kids)) := by rw [hkey, if_neg k2, if_neg k3, if_neg k4, if_neg k5, if_neg k67, if_pos k89]
  rw [hkx] at hl3; simp only [List.length_cons, List.length_append] at hl3; have hkid : ∀ j, j < v.kids.length → chk m (v.kids.getD j noV) = 0 := fun j hj => chk_kid hc hj; have round : ∀ i, i + 1 ≤ v.kids.length → ((List.range i).flatMap (pieceE (encV m) (decide (v.k = 9)) v.names v.kids)).length + (pieceE (encV m) (decide (v.k = 9)) v.names v.kids i).length ≤ ((List.range v.kids.length).flatMap (pieceE (encV m) (decide (v.k = 9)) v.names v.kids)).length := fun i hi => by
    have := range_len_le (pieceE (encV m) (decide (v.k = 9)) v.names v.kids) hi; rw [range_piece, List.length_append] at this; exact this
  have eK : IntKind.u64.wrap (v.kids.length : Int) = ((v.kids.length : Nat) : Int) := by rw [IntKind.wrap_u64]; omega
  have huk : (uvB v.kids.length).length ≤ 10 := uvF_len 10 _; have hL1 : ∀ x, l ++ v.k :: (uvB v.kids.length ++ x) = (L ++ uvB v.kids.length) ++ x := fun x => by rw [hL0, List.append_assoc]
  rcases k89 with k8 | k9
  · rw [show decide (v.k = 9) = false from decide_eq_false (by omega)] at hkx hl3 round
    refine K.kgo ?_; refine WL.load rfl rfl rfl rfl rfl rfl ((hR g3).cell 5 (by simp)) ?_; refine K.kgo ?_; refine WL.callF (args := [.tmp 72]) rfl rfl rfl rfl rfl rfl Tryz.func112 rfl (by kernel_rfl) (by rw [eK]; exact lay1_any (by omega) hbx3 (by omega)) ?_; rintro e w6 ⟨rfl, b4, hbx4, g4⟩; refine ⟨_, rfl, ?_⟩; have g34 := g3.trans g4; have hLl : (L ++ uvB v.kids.length).length = L.length + (uvB v.kids.length).length := List.length_append; generalize L ++ uvB v.kids.length = M at hbx4 hL1 hLl; refine K.kgo ?_; refine WL.load rfl rfl rfl rfl rfl rfl ((hR g34).cell 5 (by simp)) ?_; refine K.kgo ?_; refine WC.loop (fun i : Nat × Value => [(2, .pointer (some ⟨bb, 0, none⟩)), (3, .pointer (some ⟨g, 0, none⟩)), (5, .func (.func 112) #[] #[.pointer (some ⟨bb, 0, none⟩)]), (75, .slice sp v.kids.length cap), (76, .int .i64 v.kids.length), (77, .int .i64 i.1)])
      (fun i w' => i.1 ≤ v.kids.length ∧ Bx bb w' i.2 (M ++ (List.range i.1).flatMap (pieceE (encV m) false v.names v.kids)) ∧ GrowB bb w2 b w' i.2) (fun i => v.kids.length - i.1) (0, b4)
      ⟨rfl, rfl, rfl, rfl, rfl, rfl, trivial⟩ ⟨Nat.zero_le _, by simpa using hbx4, g34⟩ ?_
    rintro ⟨i, br⟩ wr ⟨hi, hbr, hgr⟩; simp only at hi hbr hgr ⊢
    by_cases hik : i < v.kids.length
    · obtain ⟨kb, ko, rfl, hkb, hcells⟩ := hrow (by omega)
      obtain ⟨c, hc6, hci, hcr⟩ := hcells i hik; have har := hA hgr; have hcr' : wr.rangeAt kb (ko + i * 6) c := fun j u hu => by rw [har.below.cell (p := ⟨kb, ko + i * 6 + j, none⟩) hkb]; exact hcr j u hu
      have hro := round i hik; refine K.kgo ?_; refine WL.idx i (ko + i * 6) rfl rfl rfl rfl rfl rfl rfl rfl hik rfl ?_; refine WL.loadMid rfl rfl rfl rfl rfl rfl hcr' hc6 ?_; refine WL.alloc (z := .agg #[.int .i64 0, .int .i64 0, .int .i64 0, .string ByteArray.empty, .slice none 0 0, .slice none 0 0]) rfl rfl rfl rfl (fun _ => by kernel_rfl) fun g2 w7 hf2 => ?_; refine K.kgo ?_; refine WL.storeRow rfl rfl rfl rfl rfl rfl hf2.blk hc6 rfl (IsV.one hci) ?_; have hb3 : Below wr.heap.size wr (w7.setRow g2 c.toArray) := below_setRow hf2.below (by rw [hf2.eq]; exact Nat.le_refl _) _; have hblk7 : VBlk 48 (w7.setRow g2 c.toArray) g2 c := hf2.blk.setRow c; have hg2e := hf2.eq; generalize w7.setRow g2 c.toArray = w8 at hb3 hblk7; have hbx8 : Bx bb w8 br _ := hbr.below hb3; have hg8 : GrowB bb w2 b w8 br := hgr.below hb3; have hg2o : br.ownBlock ≠ some g2 := fun e => by have := hbr.bu.lt _ e; omega
      have hg2b : g2 ≠ bb := by have := hbr.blk.lt; omega
      refine K.kgo ?_; refine WL.load rfl rfl rfl rfl rfl rfl ((hR hg8).cell 0 (by simp)) ?_; have hpc : pieceE (encV m) false v.names v.kids i = encV m (v.kids.getD i noV) := rfl; rw [hpc] at hro; refine K.kgo ?_; refine WL.load rfl rfl rfl rfl rfl rfl (hbx8.blk.cell 0 (by simp)) ?_; refine WL.loadMid rfl rfl rfl rfl rfl rfl (VBlk.rangeAt hblk7) hc6 ?_; refine WL.call rfl rfl rfl rfl rfl Tryz.func100 rfl (by kernel_rfl) (ih (w0 := w0) hci (hkid i hik) hbx8.bu (hA hg8) (by rw [List.length_append]; omega)) ?_; rintro e w13 ⟨b13, rfl, hb13, hg13⟩; refine ⟨_, rfl, ?_⟩; obtain ⟨hblk13, hbx14, hg14⟩ := hbx8.put hb13 hg13; refine WL.store rfl rfl rfl rfl rfl hb13.cell1 (by kernel_rfl) (hblk13.cell 0 (by simp)) (hblk13.free 0) ?_; generalize w13.setCell ⟨bb, 0, none⟩ b13 = w14 at hbx14 hg14; refine K.kgo ?_; refine WQ.again (i + 1, b13) ⟨rfl, rfl, rfl, rfl, rfl, rfl, trivial⟩ ⟨hik, ?_, hg8.trans hg14⟩ (by show v.kids.length - (i + 1) < v.kids.length - i; omega)
      show Bx bb w14 b13 (M ++ (List.range (i + 1)).flatMap _)
      rw [range_piece, hpc, ← List.append_assoc]; exact hbx14
    · obtain rfl : i = v.kids.length := by omega
      refine K.kgo ?_; refine WL.load rfl rfl rfl rfl rfl rfl (hbr.blk.cell 0 (by simp)) ?_; refine K.kgo ?_; exact WQ.ret1 rfl rfl (fin (by rw [hL1]; exact hbr.bu) hgr hkx.symm)
  · rw [show decide (v.k = 9) = true from decide_eq_true k9] at hkx hl3 round
    obtain ⟨np, nc, rfl, nl, nc2, nsz, nr⟩ := hnames; have hnk := (f9 k9).1; refine K.kgo ?_; refine WL.load rfl rfl rfl rfl rfl rfl ((hR g3).cell 5 (by simp)) ?_; refine K.kgo ?_; refine WL.callF (args := [.tmp 72]) rfl rfl rfl rfl rfl rfl Tryz.func112 rfl (by kernel_rfl) (by rw [eK]; exact lay1_any (by omega) hbx3 (by omega)) ?_; rintro e w6 ⟨rfl, b4, hbx4, g4⟩; refine ⟨_, rfl, ?_⟩; have g34 := g3.trans g4; have hLl : (L ++ uvB v.kids.length).length = L.length + (uvB v.kids.length).length := List.length_append; generalize L ++ uvB v.kids.length = M at hbx4 hL1 hLl; refine K.kgo ?_; refine WL.load rfl rfl rfl rfl rfl rfl ((hR g34).cell 5 (by simp)) ?_; refine K.kgo ?_; refine WC.loop (fun i : Nat × Value => [(2, .pointer (some ⟨bb, 0, none⟩)), (3, .pointer (some ⟨g, 0, none⟩)), (5, .func (.func 112) #[] #[.pointer (some ⟨bb, 0, none⟩)]), (75, .slice sp v.kids.length cap), (76, .int .i64 v.kids.length), (77, .int .i64 i.1)])
      (fun i w' => i.1 ≤ v.kids.length ∧ Bx bb w' i.2 (M ++ (List.range i.1).flatMap (pieceE (encV m) true v.names v.kids)) ∧ GrowB bb w2 b w' i.2) (fun i => v.kids.length - i.1) (0, b4)
      ⟨rfl, rfl, rfl, rfl, rfl, rfl, trivial⟩ ⟨Nat.zero_le _, by simpa using hbx4, g34⟩ ?_
    rintro ⟨i, br⟩ wr ⟨hi, hbr, hgr⟩; simp only at hi hbr hgr ⊢
    by_cases hik : i < v.kids.length
    · obtain ⟨kb, ko, rfl, hkb, hcells⟩ := hrow (by omega)
      obtain ⟨c, hc6, hci, hcr⟩ := hcells i hik; have har := hA hgr; have hcr' : wr.rangeAt kb (ko + i * 6) c := fun j u hu => by rw [har.below.cell (p := ⟨kb, ko + i * 6 + j, none⟩) hkb]; exact hcr j u hu
      have hro := round i hik; refine K.kgo ?_; refine WL.idx i (ko + i * 6) rfl rfl rfl rfl rfl rfl rfl rfl hik rfl ?_; refine WL.loadMid rfl rfl rfl rfl rfl rfl hcr' hc6 ?_; refine WL.alloc (z := .agg #[.int .i64 0, .int .i64 0, .int .i64 0, .string ByteArray.empty, .slice none 0 0, .slice none 0 0]) rfl rfl rfl rfl (fun _ => by kernel_rfl) fun g2 w7 hf2 => ?_; refine K.kgo ?_; refine WL.storeRow rfl rfl rfl rfl rfl rfl hf2.blk hc6 rfl (IsV.one hci) ?_; have hb3 : Below wr.heap.size wr (w7.setRow g2 c.toArray) := below_setRow hf2.below (by rw [hf2.eq]; exact Nat.le_refl _) _; have hblk7 : VBlk 48 (w7.setRow g2 c.toArray) g2 c := hf2.blk.setRow c; have hg2e := hf2.eq; generalize w7.setRow g2 c.toArray = w8 at hb3 hblk7; have hbx8 : Bx bb w8 br _ := hbr.below hb3; have hg8 : GrowB bb w2 b w8 br := hgr.below hb3; have hg2o : br.ownBlock ≠ some g2 := fun e => by have := hbr.bu.lt _ e; omega
      have hg2b : g2 ≠ bb := by have := hbr.blk.lt; omega
      refine K.kgo ?_; refine WL.load rfl rfl rfl rfl rfl rfl ((hR hg8).cell 0 (by simp)) ?_; obtain ⟨nb, no, rfl, hnb, hnr⟩ := nr (by omega); have hnc := hnr i (by omega); have hns : (v.names.getD i noT).size ≤ 40 := (f9 k9).2 _ (by simp [show i < v.names.length by omega]); have hpc : pieceE (encV m) true v.names v.kids i = (uvB (v.names.getD i noT).size ++ byI (v.names.getD i noT)) ++ encV m (v.kids.getD i noV) := rfl; rw [hpc] at hro; have hbl := byI_len (v.names.getD i noT); simp only [List.length_append] at hro; have eN : IntKind.u64.wrap ((v.names.getD i noT).size : Int) = (((v.names.getD i noT).size : Nat) : Int) := by rw [IntKind.wrap_u64]; omega
      have hA8 := hA hg8; refine K.kgo ?_; refine WL.load rfl rfl rfl rfl rfl rfl ((hR hg8).cell 4 (by simp)) ?_; refine K.kgo ?_; refine WL.idx i (no + i) rfl rfl rfl rfl rfl rfl rfl rfl (by omega) (by omega) ?_; refine WL.load rfl rfl rfl rfl rfl rfl ((hA8.below.cell (p := ⟨nb, no + i, none⟩) hnb).trans hnc) ?_; refine K.kgo ?_; refine WL.callF (args := [.tmp 92]) rfl rfl rfl rfl rfl rfl Tryz.func112 rfl (by kernel_rfl) (by rw [eN]; exact lay1_any (by omega) hbx8 (by rw [List.length_append]; omega)) ?_; rintro e w9 ⟨rfl, b9, hbx9, g9⟩; refine ⟨_, rfl, ?_⟩; have hg9 := hg8.trans g9; obtain ⟨hblk9, ho9⟩ := Bx.keep g9 hblk7 hg2o hg2b; have hA9 := hA hg9; refine K.kgo ?_; refine WC.drawn 7 (fun wx => Below w0.heap.size w0 wx ∧ VBlk 119 wx bb [b9] ∧ VBlk 48 wx g (six v (.slice (some ⟨nb, no, none⟩) v.names.length nc) (.slice (some ⟨kb, ko, none⟩) v.kids.length cap))) fun w10 hd10 => ?_; have hS : Below w0.heap.size w0 w10 ∧ VBlk 119 w10 bb [b9] ∧ VBlk 48 w10 g (six v (.slice (some ⟨nb, no, none⟩) v.names.length nc) (.slice (some ⟨kb, ko, none⟩) v.kids.length cap)) :=
        ⟨hA9.below.trans (hd10.below _), hbx9.blk.below (hd10.below _) hbx9.blk.lt, (hR hg9).below (hd10.below _) (hR hg9).lt⟩
      have hbx10 : Bx bb w10 b9 _ := hbx9.below (hd10.below _); have hg10 := hg9.below (hd10.below _); have hblk10 : VBlk 48 w10 g2 c := hblk9.below (hd10.below _) hblk9.lt; refine K.wl 0 [6, 7] rfl rfl rfl rfl rfl rfl rfl (fun wx hx => hx.2.1.cell 0 (by simp)) hS ?_; refine K.fr [1] hS ?_; refine K.wl 2 [4, 5, 6, 7] rfl rfl rfl rfl rfl rfl rfl (fun wx hx => hx.2.2.cell 4 (by simp)) hS ?_; refine K.fr [3] hS ?_; refine K.wi 4 i (no + i) rfl rfl rfl rfl rfl rfl rfl rfl rfl (by omega) (by omega) (.inr hS) ?_; refine K.wl 5 [6, 7] rfl rfl rfl rfl rfl rfl rfl (fun wx hx => (hx.1.cell (p := ⟨nb, no + i, none⟩) hnb).trans hnc) hS ?_; refine K.wo 6 ?_; refine WL.appS rfl rfl rfl rfl rfl hbx10.bu rfl (by rw [List.length_append, List.length_append]; omega) fun b11 w11 hb11 hg11 => ?_; obtain ⟨hblk11, hbx12, hg12⟩ := hbx10.put hb11 hg11; have hg11' : GrowB bb w10 b9 w11 b11 := hg11.box; refine WL.nil (WQ.dk (.inr ⟨(hA (hg10.trans hg11')).below, hblk11, hR (hg10.trans hg11')⟩) ?_); refine K.wo 7 ?_; refine WL.store rfl rfl rfl rfl rfl hb11.cell1 (by kernel_rfl) (hblk11.cell 0 (by simp)) (hblk11.free 0) ?_; refine K.dl ?_; refine WD.done (by kernel_rfl) ?_; obtain ⟨hblk12, ho12⟩ := Bx.keep hg12 hblk10 ho9 hg2b; have hg12' := hg10.trans hg12; generalize w11.setCell ⟨bb, 0, none⟩ b11 = w12 at hbx12 hg12 hblk12 hg12'; refine K.kgo ?_; refine WL.load rfl rfl rfl rfl rfl rfl (hbx12.blk.cell 0 (by simp)) ?_; refine WL.loadMid rfl rfl rfl rfl rfl rfl (VBlk.rangeAt hblk12) hc6 ?_; refine WL.call rfl rfl rfl rfl rfl Tryz.func100 rfl (by kernel_rfl) (ih (w0 := w0) hci (hkid i hik) hbx12.bu (hA hg12') (by rw [List.length_append, List.length_append, List.length_append, bytesI_len]; omega)) ?_; rintro e w13 ⟨b13, rfl, hb13, hg13⟩; refine ⟨_, rfl, ?_⟩; obtain ⟨hblk13, hbx14, hg14⟩ := hbx12.put hb13 hg13; refine WL.store rfl rfl rfl rfl rfl hb13.cell1 (by kernel_rfl) (hblk13.cell 0 (by simp)) (hblk13.free 0) ?_; generalize w13.setCell ⟨bb, 0, none⟩ b13 = w14 at hbx14 hg14; refine K.kgo ?_; refine WQ.again (i + 1, b13) ⟨rfl, rfl, rfl, rfl, rfl, rfl, trivial⟩ ⟨hik, ?_, hg12'.trans hg14⟩ (by show v.kids.length - (i + 1) < v.kids.length - i; omega)
      show Bx bb w14 b13 (M ++ (List.range (i + 1)).flatMap _)
      rw [range_piece, hpc]
      simpa [List.append_assoc, bytesI, byI] using hbx14
    · obtain rfl : i = v.kids.length := by omega
      refine K.kgo ?_; refine WL.load rfl rfl rfl rfl rfl rfl (hbr.blk.cell 0 (by simp)) ?_; refine K.kgo ?_; exact WQ.ret1 rfl rfl (fin (by rw [hL1]; exact hbr.bu) hgr hkx.symm)
theorem clay_all : ∀ (m : Nat) {f : Nat} {w0 w : World} {v : V} {cs : List Value} {b : Value} {l : List Int}, IsV f w0 v cs → chk m v = 0 → Bu w b l → Apart w0 w b → l.length + (encV m v).length ≤ 70368744177664 →
      Calls Tryz.prog 100 #[b, .agg cs.toArray] w fun e w' => ∃ b', e = .returned b' ∧ Bu w' b' (l ++ encV m v) ∧ Grow w b w' b'
  | 0, _, _, _, _, _, _, _, _, h, _, _, _ => by cases h
  | m + 1, _, _, _, _, _, _, _, hv, hc, hb, ha, hm => clay_any m (clay_all m) hv hc hb ha hm
end K
namespace K
def grtK (B : Nat) (g : V → Nat → Nat) : List V → Nat → Nat
  | [],n => n
  | k :: r,n => if n ≤ B then grtK B g r (g k n) else n
def grt (B : Nat) : Nat → V → Nat → Nat
  | 0,_,n => n
  | f + 1,v,n => grtK B (grt B f) v.kids (n + 1 + v.t.size / 20 + v.names.length)
def Sml : Nat → V → Prop
  | 0,_ => False
  | f + 1,v => v.names.length ≤ 140737488355328 ∧ v.kids.length ≤ 140737488355328 ∧ ∀ x ∈ v.kids,Sml f x
theorem grtK_over {B : Nat} {g : V → Nat → Nat} {n : Nat} (l : List V) (h : B < n) : grtK B g l n = n:=by
  cases l with
  | nil => rfl
  | cons k r => unfold grtK;rw [if_neg (by omega)]
end K
end Go.Proofs.YtchgjaaadfjiiaaGreat
