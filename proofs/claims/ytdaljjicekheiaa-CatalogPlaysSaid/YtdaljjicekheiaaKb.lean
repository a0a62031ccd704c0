/- Walks over the slots that are asked for: the moves. -/
import Derived.Test.YtdaljjicekheiaaKm
namespace Go.Proofs.Ytdaljjicekheiaa
open Go.RowKit
namespace K
variable {n : NN} {Q : Exit → Act → World → Prop} {l : Env} {w w' : World} {ops : Array Oper} {o : Oper} {rest : List Oper} {d : Nat}

theorem WL.le {m : Env} (hs : ∀ k v, look m k = some v → look l k = some v) (h : WL n ops Q rest m w) : WL n ops Q rest l w := ⟨fun a ha => h.go a ⟨ha.size, ha.defers, fun k v hk => ha.slot k v (hs k v hk)⟩⟩
/-- A slot's value in other words. -/
theorem WL.as (k : Nat) (v' : Value) {v : Value} (hk : look l k = some v) (e : v = v') (h : WL n ops Q rest ((k, v') :: l) w) : WL n ops Q rest l w :=
  h.le fun j u hj => by
    unfold look at hj
    cases hb : Nat.beq k j with
    | true =>
      rw [hb] at hj
      obtain rfl : k = j := Nat.eq_of_beq_eq_true hb
      obtain rfl : v' = u := Option.some.inj hj
      subst e
      exact hk
    | false => rw [hb] at hj; exact hj
theorem look_free {d d2 : Nat} {u v' : Value} (hf : look l d = none) : ∀ k v, look ((d2, v') :: l) k = some v → look ((d2, v') :: (d, u) :: l) k = some v := by
  intro k v hk
  unfold look at hk ⊢
  cases hb : Nat.beq d2 k with
  | true => rw [hb] at hk; exact hk
  | false =>
    rw [hb] at hk
    unfold look
    cases hb2 : Nat.beq d k with
    | true => obtain rfl : d = k := Nat.eq_of_beq_eq_true hb2; rw [cond_false] at hk; rw [hf] at hk; cases hk
    | false => exact hk
theorem WL.nil (h : WQ n Q .normal l w) : WL n ops Q [] l w := ⟨fun a ha => lw_nil (h.go a ha)⟩
theorem WL.step {v : Value} (hg : o.guard = none) (hd : o.dst = some d) (hn : Nat.blt d n.n = true) (hr : ∀ a, Fr n a l → (execOp a.eval o).run Try.prog w = .ok (.value v) w')
    (h : WL n ops Q rest ((d, v) :: l) w') : WL n ops Q (o :: rest) l w :=
  ⟨fun a ha => lw_value hg (hr a ha) (by rw [hd]; exact h.go _ (ha.put hn v))⟩
theorem WL.stepU (hg : o.guard = none) (hd : o.dst = none) (hr : ∀ a, Fr n a l → (execOp a.eval o).run Try.prog w = .ok .skip w') (h : WL n ops Q rest l w') : WL n ops Q (o :: rest) l w :=
  ⟨fun a ha => lw_skip hg (hr a ha) (by rw [hd]; exact h.go _ (ha.none _))⟩
theorem WL.pure {v : Value} (hg : o.guard = none) (hd : o.dst = some d) (hn : Nat.blt d n.n = true) (hv : pv ty l o.op = some v) (h : WL n ops Q rest ((d, v) :: l) w) : WL n ops Q (o :: rest) l w :=
  WL.step hg hd hn (fun _ ha => pv_run tyOk ha hv w) h
theorem WL.pureAs {v : Value} (v' : Value) (hg : o.guard = none) (hd : o.dst = some d) (hn : Nat.blt d n.n = true) (hv : pv ty l o.op = some v) (e : v = v') (h : WL n ops Q rest ((d, v') :: l) w) : WL n ops Q (o :: rest) l w :=
  WL.step hg hd hn (fun _ ha => pv_run tyOk ha (hv.trans (congrArg some e)) w) h
/-- A sum that stays an int. -/
theorem WL.i64 {x : Int} (hg : o.guard = none) (hd : o.dst = some d) (hn : Nat.blt d n.n = true) (hv : pv ty l o.op = some (.int .i64 (IntKind.wrap .i64 x))) (hx : -9223372036854775808 ≤ x ∧ x ≤ 9223372036854775807)
    (h : WL n ops Q rest ((d, .int .i64 x) :: l) w) : WL n ops Q (o :: rest) l w := WL.pureAs _ hg hd hn hv (congrArg (Value.int .i64) (IntWalk.i64_in _ hx)) h
theorem WL.u64 {x : Int} (hg : o.guard = none) (hd : o.dst = some d) (hn : Nat.blt d n.n = true) (hv : pv ty l o.op = some (.int .u64 (IntKind.wrap .u64 x))) (hx : 0 ≤ x ∧ x ≤ 18446744073709551615)
    (h : WL n ops Q rest ((d, .int .u64 x) :: l) w) : WL n ops Q (o :: rest) l w := WL.pureAs _ hg hd hn hv (congrArg (Value.int .u64) (by rw [IntKind.wrap_u64]; omega)) h
theorem WL.u8 {x : Int} (hg : o.guard = none) (hd : o.dst = some d) (hn : Nat.blt d n.n = true) (hv : pv ty l o.op = some (.int .u8 (IntKind.wrap .u8 x))) (hx : 0 ≤ x ∧ x ≤ 255)
    (h : WL n ops Q rest ((d, .int .u8 x) :: l) w) : WL n ops Q (o :: rest) l w := WL.pureAs _ hg hd hn hv (congrArg (Value.int .u8) (by rw [IntKind.wrap_u8]; omega)) h

/-- A test that is decided. -/
theorem WL.decT {p : Prop} [Decidable p] (hg : o.guard = none) (hd : o.dst = some d) (hn : Nat.blt d n.n = true) (hv : pv ty l o.op = some (.bool (decide p))) (hp : p) (h : WL n ops Q rest ((d, .bool true) :: l) w) : WL n ops Q (o :: rest) l w :=
  WL.pureAs _ hg hd hn hv (congrArg Value.bool (decide_eq_true hp)) h
theorem WL.decF {p : Prop} [Decidable p] (hg : o.guard = none) (hd : o.dst = some d) (hn : Nat.blt d n.n = true) (hv : pv ty l o.op = some (.bool (decide p))) (hp : ¬ p) (h : WL n ops Q rest ((d, .bool false) :: l) w) : WL n ops Q (o :: rest) l w :=
  WL.pureAs _ hg hd hn hv (congrArg Value.bool (decide_eq_false hp)) h
theorem WL.top {v v' : Value} (e : v = v') (h : WL n ops Q rest ((d, v') :: l) w) : WL n ops Q rest ((d, v) :: l) w := by subst e; exact h
theorem WL.topT {p : Prop} [Decidable p] (hp : p) (h : WL n ops Q rest ((d, .bool true) :: l) w) : WL n ops Q rest ((d, .bool (decide p)) :: l) w := WL.top (congrArg Value.bool (decide_eq_true hp)) h
theorem WL.topF {p : Prop} [Decidable p] (hp : ¬ p) (h : WL n ops Q rest ((d, .bool false) :: l) w) : WL n ops Q rest ((d, .bool (decide p)) :: l) w := WL.top (congrArg Value.bool (decide_eq_false hp)) h
theorem WL.top64 {x : Int} (hx : -9223372036854775808 ≤ x ∧ x ≤ 9223372036854775807) (h : WL n ops Q rest ((d, .int .i64 x) :: l) w) : WL n ops Q rest ((d, .int .i64 (IntKind.wrap .i64 x)) :: l) w := WL.top (congrArg (Value.int .i64) (IntWalk.i64_in _ hx)) h
def isB : Value → Option Bool
  | .bool b => some b
  | _ => none
def asked (b : Bool) : Option Bool → Bool
  | some c => c == b
  | none => false
/-- Is an operation asked for, as far as the slots tell? -/
def wants (ops : Array Oper) (l : Env) (o : Oper) : Option Bool :=
  match o.guard with
  | none => some true
  | some (j, b) => match (ops[j]?).bind (·.dst) with
    | some t => match look l t with
      | some v => some (asked b (isB v))
      | none => none
    | none => none
theorem wants_run {a : Act} {b : Bool} (ha : Fr n a l) (h : wants ops l o = some b) : Region.wanted o (yielded ops a.tmps) = b := by
  unfold wants at h
  unfold Region.wanted yielded
  cases hg : o.guard with
  | none => rw [hg] at h; obtain rfl := Option.some.inj h; rfl
  | some x =>
    obtain ⟨j, wt⟩ := x
    rw [hg] at h
    simp only at h ⊢
    cases hj : (ops[j]?).bind (·.dst) with
    | none => rw [hj] at h; cases h
    | some t =>
      rw [hj] at h
      simp only at h
      split at h
      · rename_i v hl
        obtain rfl := Option.some.inj h
        simp only [Option.bind_some, ha.slot t _ hl]
        cases v <;> rfl
      · cases h
/-- A guarded operation that is asked for. -/
theorem WL.on (hw : wants ops l o = some true) (_hg : o.guard.isSome = true) (h : WL n ops Q ({ o with guard := none } :: rest) l w) : WL n ops Q (o :: rest) l w :=
  ⟨fun a ha => lw_on (wants_run ha hw) (h.go a ha)⟩
theorem WL.off (hw : wants ops l o = some false) (hd : o.dst = some d) (hn : Nat.blt d n.n = true) (h : WL n ops Q rest ((d, undef) :: l) w) : WL n ops Q (o :: rest) l w :=
  ⟨fun a ha => lw_off (wants_run ha hw) (by rw [hd]; exact h.go _ (ha.put hn undef))⟩

/-- Does a variable of a type lie in one cell? -/
def scal : Option TyD → Bool
  | some (.struct _ _) | some (.arr _ _ _) | none => false
  | _ => true
theorem scal_run {t : Nat} (h : scal (tyOf ty t) = true) (p : Addr) {v : Value} (hc : w.cell? p = some v) : (loadVar t p).run Try.prog w = .ok v w := by
  cases ht : tyOf ty t with
  | none => rw [ht] at h; cases h
  | some x =>
    rw [ht] at h
    have hagg : (isAgg t).run Try.prog w = .ok false w := by
      unfold isAgg
      rw [Sem.run_bind]
      cases x with
      | int k => have := TyOk.of tyOk ht; rw [run_underlying this w]; rfl
      | str => have := TyOk.of tyOk ht; rw [run_underlying this w]; rfl
      | bool => have := TyOk.of tyOk ht; rw [run_underlying this w]; rfl
      | ptr e => have := TyOk.of tyOk ht; rw [run_underlying this w]; rfl
      | map k e => have := TyOk.of tyOk ht; rw [run_underlying this w]; rfl
      | slice e s => have := TyOk.of tyOk ht; rw [run_underlying this.1 w]; rfl
      | struct m fs => cases h
      | arr m e s => cases h
    simp [loadVar, Sem.run_bind, hagg, hc]
theorem WL.load {t : Nat} {x : Operand} {p : Addr} {v : Value} (hg : o.guard = none) (hd : o.dst = some d) (hn : Nat.blt d n.n = true) (ho : o.op = .load t x) (hx : evl l x = some (.pointer (some p))) (ht : scal (tyOf ty t) = true)
    (hc : w.cell? p = some v) (h : WL n ops Q rest ((d, v) :: l) w) : WL n ops Q (o :: rest) l w :=
  WL.step hg hd hn (fun a ha => by unfold execOp; rw [ho]; simp [ha.eval hx, Instr.loadAt, Instr.sureAddr, scal_run ht p hc]) h
/-- Many cells at once. -/
theorem WL.loadMid {t : Nat} {x : Operand} {b off m : Nat} {cs : List Value} (hg : o.guard = none) (hd : o.dst = some d) (hn : Nat.blt d n.n = true) (ho : o.op = .load t x)
    (hx : evl l x = some (.pointer (some ⟨b, off, none⟩))) (ht : cellsN (tyOf ty t) = some m) (hc : w.rangeAt b off cs) (hm : cs.length = m) (h : WL n ops Q rest ((d, .agg cs.toArray) :: l) w) : WL n ops Q (o :: rest) l w :=
  WL.step hg hd hn (fun a ha => by
    obtain ⟨d, hu, hd, hsz⟩ := cellsN_ok tyOk ht
    unfold execOp
    rw [ho]
    have := run_loadVar_mid (P := Try.prog) w b off t cs _ hc hu hd (by rw [hsz, hm])
    simp [ha.eval hx, Instr.loadAt, Instr.sureAddr, this]) h
theorem WL.store {t : Nat} {x y : Operand} {p : Addr} {v old : Value} (hg : o.guard = none) (hd : o.dst = none) (ho : o.op = .store t x y) (hx : evl l x = some (.pointer (some p))) (hy : evl l y = some v)
    (hv : v.oneCell' = true) (hsz : (Try.prog.info? t).map (·.size) = some 1) (hc : w.cell? p = some old) (hf : w.frozen? p = false) (h : WL n ops Q rest l (w.setCell p v)) : WL n ops Q (o :: rest) l w :=
  WL.stepU hg hd (fun a ha => by
    have hs : (sizeOf t).run Try.prog w = .ok 1 w := by
      cases hq : Try.prog.info? t with
      | none => rw [hq] at hsz; cases hsz
      | some q => rw [hq] at hsz; simp at hsz; simp [sizeOf, typeInfo, hq, hsz]
    have hvc : v.cells = #[v] := by cases v <;> first | rfl | cases hv
    unfold execOp
    rw [ho]
    simp only [ha.eval hx, ha.eval hy, Instr.storeAt, Instr.sureAddr, storeVar, Sem.run_bind, Sem.run_pure, Result.andThen_ok, hs, hvc]
    simp [storeCells, run_store Try.prog w p v _ hv, hc, hf, Addr.add_zero']) h
/-- A whole block anew. -/
theorem WL.storeRow {t m T : Nat} {x y : Operand} {g : Nat} {cs old : List Value} (hg : o.guard = none) (hd : o.dst = none) (ho : o.op = .store t x y) (hx : evl l x = some (.pointer (some ⟨g, 0, none⟩)))
    (hy : evl l y = some (.agg cs.toArray)) (ht : cellsN (tyOf ty t) = some m) (hb : VBlk T w g old) (hm : cs.length = m) (hold : old.length = m) (h1 : Ones cs) (h : WL n ops Q rest l (w.setRow g cs.toArray)) : WL n ops Q (o :: rest) l w :=
  ⟨fun a ha => lw_via hg (by rw [ho]; intro c hc; cases hc) <| wpList_store_rowTo hg t x y ho hd g cs.toArray (ha.eval hx) (ha.eval hy) T old.toArray hb (by obtain ⟨d, -, -, hsz⟩ := cellsN_ok tyOk ht; rw [hsz]; simp [hm]) (by simp [hm, hold])
    (by simp only [List.all_toArray, List.all_eq_true]; exact h1) (h.go a ha)⟩
theorem WL.box {t : Nat} {x : Operand} {v : Value} (hg : o.guard = none) (hd : o.dst = some d) (hn : Nat.blt d n.n = true) (ho : o.op = .box t x) (hx : evl l x = some v)
    (h : ∀ g w', Fresh w g w' t v.cells.toList → WL n ops Q rest ((d, .pointer (some ⟨g, 0, none⟩)) :: l) w') : WL n ops Q (o :: rest) l w :=
  WL.step hg hd hn (fun a ha => by unfold execOp; rw [ho]; simp [ha.eval hx, Instr.box, newVar, newRow]) (h _ _ (Fresh.mk' w t v.cells.toList))
theorem WL.alloc {t : Nat} {z : Value} (hg : o.guard = none) (hd : o.dst = some d) (hn : Nat.blt d n.n = true) (ho : o.op = .alloc t) (hz : ∀ w, (zeroValue t).run Try.prog w = .ok z w)
    (h : ∀ g w', Fresh w g w' t z.cells.toList → WL n ops Q rest ((d, .pointer (some ⟨g, 0, none⟩)) :: l) w') : WL n ops Q (o :: rest) l w :=
  WL.step hg hd hn (fun a ha => by unfold execOp; rw [ho]; simp [Instr.alloc, newVar, newRow, hz]) (h _ _ (Fresh.mk' w t z.cells.toList))
theorem evlAll_map {a : Act} (ha : Fr n a l) : ∀ {xs : List Operand} {vs : List Value}, evlAll l xs = some vs → xs.map a.eval = vs
  | [], vs, h => by cases h; rfl
  | x :: xs, vs, h => by
    unfold evlAll at h
    split at h
    · rename_i v r h1 h2
      obtain rfl := Option.some.inj h
      rw [List.map_cons, ha.eval h1, evlAll_map ha h2]
    · cases h
/-- A call by its contract. -/
theorem WL.call {f : FuncId} {fn : Func} {args : List Operand} {ts : Array TypeId} {vs : List Value} {R : Ending → World → Prop} (hg : o.guard = none) (hd : o.dst = some d) (hn : Nat.blt d n.n = true)
    (ho : o.op = .call { callee := .value (.func f), args := args.toArray, argTypes := ts }) (hv : evlAll l args = some vs) (hf : Try.prog.funcs[f]? = some fn) (hb : fn.body.isNone = false) (hname : (fn.name == "runtime.NumGoroutine") = false)
    (hc : Calls Try.prog f vs.toArray w R) (h : ∀ e w', R e w' → ∃ v, e = .returned v ∧ WL n ops Q rest ((d, v) :: l) w') : WL n ops Q (o :: rest) l w :=
  ⟨fun a ha => by
    have hrun : (execOp a.eval o).run Try.prog w = .ok (.enter f vs.toArray) w := by
      unfold execOp
      rw [ho]
      have := evlAll_map ha hv
      have e1 : (args.toArray.map a.eval) = vs.toArray := by rw [List.map_toArray, this]
      have e2 : a.eval (.func f) = .func (.func f) #[] #[] := rfl
      have hb' : ¬ fn.body = none := fun e => by rw [e] at hb; cases hb
      have hn' : ¬ fn.name = "runtime.NumGoroutine" := by simpa using hname
      simp [resolve, e1, e2, Deferred.ofValue, invoke, callFunc, hf, hb', hn']
    refine lw_enter hg hrun (hc.mono fun e w'' hh => ?_)
    obtain ⟨v, rfl, hwl⟩ := h e w'' hh
    exact ⟨v, rfl, by rw [hd]; exact hwl.go _ (ha.put hn v)⟩⟩
/-- Integers out of slots. -/
def evI (k : IntKind) (l : Env) : List (Nat × Operand) → Nat → Option (List Int)
  | [], _ => some []
  | (j, x) :: r, i => match Nat.beq j i, evl l x, evI k l r (i + 1) with
    | true, some (.int k' z), some zs => if k' = k then some (z :: zs) else none
    | _, _, _ => none
theorem evI_map {a : Act} (ha : Fr n a l) {k : IntKind} : ∀ {xs : List (Nat × Operand)} {i : Nat} {zs : List Int}, evI k l xs i = some zs → (xs.map fun x => (x.1, a.eval x.2)) = (((zs.map (Value.int k)).zipIdx i).map fun x => (x.2, x.1)) ∧ xs.length = zs.length
  | [], _, zs, h => by cases h; exact ⟨rfl, rfl⟩
  | (j, x) :: xs, i, zs, h => by
    unfold evI at h
    split at h
    · rename_i k' z r hb hx hr
      split at h
      · rename_i e
        subst e
        obtain rfl := Option.some.inj h
        obtain ⟨h1, h2⟩ := evI_map ha hr
        obtain rfl : j = i := Nat.eq_of_beq_eq_true hb
        refine ⟨?_, by simp [h2]⟩
        rw [List.map_cons, h1, ha.eval hx]
        rfl
      · cases h
    · cases h
/-- A slice literal of bytes. -/
theorem WL.lit {len : Nat} {parts : List (Nat × Operand)} {zs : List Int} (hg : o.guard = none) (hd : o.dst = some d) (hn : Nat.blt d n.n = true) (ho : o.op = .buildSlice 27 len parts.toArray) (hz : evI .u8 l parts 0 = some zs)
    (hl : Nat.beq len zs.length = true) (hs : (Nat.blt 0 len && Nat.blt len 1000) = true)
    (h : ∀ v w', Bu w' v zs → Below w.heap.size w w' → (∀ g, v.ownBlock = some g → w.heap.size ≤ g) → WL n ops Q rest ((d, v) :: l) w') : WL n ops Q (o :: rest) l w := by
  have hl' : len = zs.length := Nat.eq_of_beq_eq_true hl
  rw [Bool.and_eq_true, Nat.blt_eq, Nat.blt_eq] at hs
  obtain ⟨hs1, hs2⟩ := hs
  have hq : (Try.prog.info? 5).map (fun i => (i.zero, i.size)) = some (some (.int .u8 0), 1) := by kernel_rfl
  obtain ⟨ie, hie, he⟩ := Option.map_eq_some_iff.1 hq
  obtain ⟨hz0, hsz⟩ := Prod.mk.inj he
  refine WL.step hg hd hn (w' := w.alloc (.cells (zs.map (Value.int .u8)).toArray 5)) (v := .slice (some ⟨w.heap.size, 0, none⟩) len len) (fun a ha => ?_) (h _ _ ?_ ?_ ?_)
  · unfold execOp
    rw [ho]
    obtain ⟨h1, h2⟩ := evI_map ha hz
    have hf : Instr.fill (fun i => some (i * ie.size, ie.size)) ((Array.range (len * ie.size)).map ((Value.int .u8 0).cells[· % (Value.int .u8 0).cells.size]!)) (parts.toArray.map fun x => (x.1, a.eval x.2)).toList = some (zs.map (Value.int .u8)).toArray := by
      rw [Array.toList_map, h1, hsz]
      exact Great.fill_flat _ _ (fun v hv => by obtain ⟨m, _, rfl⟩ := List.mem_map.1 hv; rfl) (by simp [hl'])
    have := run_buildSlice (P := Try.prog) w 27 5 len (parts.toArray.map fun x => (x.1, a.eval x.2)) _ ie _ Try.underlying27 hie hz0 (by rw [hsz]; omega) (by rw [hsz]; omega) hf
    simp only [Sem.run_bind, this, Result.andThen_ok]
    rfl
  · rw [hl']; exact Bu.new w zs (by unfold maxLen; omega)
  · exact (Below.refl _ w).alloc (Nat.le_refl _) _
  · intro g hg2; cases hg2; exact Nat.le_refl _
/-- append of what reads as bytes onto an own row. -/
theorem WL.app {s x : Operand} {v xv : Value} {l1 l2 : List Int} (hg : o.guard = none) (hd : o.dst = some d) (hn : Nat.blt d n.n = true)
    (ho : o.op = .call { callee := .builtin .append, args := #[s, x], argTypes := #[27, 27] }) (hs : evl l s = some v) (hown : Bu w v l1) (hx : evl l x = some xv) (hsl : Sl .u8 w xv l2) (hb : l1.length + l2.length ≤ 140737488355328)
    (h : ∀ v' w', Bu w' v' (l1 ++ l2) → Grow w v w' v' → WL n ops Q rest ((d, v') :: l) w') : WL n ops Q (o :: rest) l w :=
  ⟨fun a ha => by
    have ho1 : OwnV 5 1 w (fun g => v.ownBlock = some g) v l1.length (l1.map (Value.int .u8)) := ⟨hown, Ones.int _ _, fun g hg => hg⟩
    refine lw_via hg (by rw [ho]; intro c hc; cases hc) ?_
    refine wpList_appV hg s x 27 ho elemU8 (ha.eval hs) ho1 (ha.eval hx) (Sl.slV hsl) rfl (by unfold maxLen; omega) (by omega) ?_
    intro sp c w' h2 h3 h4
    rw [hd]
    refine (h _ w' ?_ ⟨grown_keep h3, fun g hg => (h4 g hg).imp id (fun e => by omega)⟩).go _ (ha.put hn _)
    have h5 := h2.1
    rw [← List.map_append] at h5
    show World.ownsRow _ _ _ _ _ _ _
    rw [List.length_append]
    exact h5⟩
/-- append(b, x, y ..): the bytes are laid, then appended. -/
theorem WL.push {o2 : Oper} {d2 : Nat} {len : Nat} {parts : List (Nat × Operand)} {zs : List Int} {s : Operand} {v : Value} {l1 : List Int} (hg : o.guard = none) (hd : o.dst = some d) (hn : Nat.blt d n.n = true) (ho : o.op = .buildSlice 27 len parts.toArray)
    (hz : evI .u8 l parts 0 = some zs) (hl : Nat.beq len zs.length = true) (hs : (Nat.blt 0 len && Nat.blt len 1000) = true) (hg2 : o2.guard = none) (hd2 : o2.dst = some d2) (hn2 : Nat.blt d2 n.n = true)
    (ho2 : o2.op = .call { callee := .builtin .append, args := #[s, .tmp d], argTypes := #[27, 27] }) (hsv : ∀ u, evl ((d, u) :: l) s = some v) (hfr : look l d = none) (hown : Bu w v l1) (hb : l1.length + zs.length ≤ 140737488355328)
    (h : ∀ v' w', Bu w' v' (l1 ++ zs) → Grow w v w' v' → WL n ops Q rest ((d2, v') :: l) w') : WL n ops Q (o :: o2 :: rest) l w := by
  refine WL.lit hg hd hn ho hz hl hs fun u w1 hu hb1 _ => ?_
  refine WL.app hg2 hd2 hn2 ho2 (hsv u) (hown.below hb1) (by unfold evl look; simp) hu.sl hb fun v' w2 h2 g2 => ?_
  exact (h v' w2 h2 (((Grow.refl w v).below hb1).trans g2)).le (look_free hfr)
end K
end Go.Proofs.Ytdaljjicekheiaa
