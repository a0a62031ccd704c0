/- Walks over the slots that are asked for: arrays by pointer: elements, parts; copy of anything of one cell. -/
import Derived.Test.YtdaljjicekheiaaKh
namespace Go.Proofs.Ytdaljjicekheiaa
open Go.RowKit
namespace K
variable {n : NN} {Q : Exit → Act → World → Prop} {l : Env} {w w' : World} {ops : Array Oper} {o : Oper} {rest : List Oper} {d : Nat}
theorem arr_facts {t e s m : Nat} (ht : tyOf ty t = some (.arr m e s)) : Try.prog.underlying t = some (.array (Try.prog.arrayLen t) (Try.prog.elem t)) ∧ Try.prog.arrayLen t = m ∧ ∀ w, (sizeOf (Try.prog.elem t)).run Try.prog w = .ok s w := by
  obtain ⟨hu, hse, -⟩ := TyOk.of tyOk ht
  have h1 : Try.prog.elem t = e := by simp [Program.elem, hu]
  have h2 : Try.prog.arrayLen t = m := by simp [Program.arrayLen, hu]
  refine ⟨by rw [h1, h2]; exact hu, h2, fun w => ?_⟩
  rw [h1]
  cases hq : Try.prog.info? e with
  | none => rw [hq] at hse; cases hse
  | some q => rw [hq] at hse; simp at hse; simp [sizeOf, typeInfo, hq, hse]
/-- A part of an array. -/
theorem WL.cutA {t e s m b off : Nat} {x lo hi : Operand} {k1 k2 : IntKind} {y z : Int} (i j q : Nat) (hg : o.guard = none) (hd : o.dst = some d) (hn : Nat.blt d n.n = true) (ho : o.op = .slice t x (some lo) (some hi) none) (ht : tyOf ty t = some (.arr m e s))
    (hx : evl l x = some (.pointer (some ⟨b, off, none⟩))) (hlo : evl l lo = some (.int k1 y)) (hhi : evl l hi = some (.int k2 z)) (hy : y = (i : Int)) (hz : z = (j : Int)) (h1 : i ≤ j) (h2 : j ≤ m) (h3 : i < m) (hq : off + i * s = q)
    (h : WL n ops Q rest ((d, .slice (some ⟨b, q, none⟩) (j - i) (m - i)) :: l) w) : WL n ops Q (o :: rest) l w :=
  WL.step hg hd hn (fun a ha => by
    obtain ⟨hu, hm, hs⟩ := arr_facts ht
    have hr := run_sliceAt_array_lh (P := Try.prog) w t ⟨b, off, none⟩ hu k1 k2 y z (by omega) (by omega) (by rw [hm]; omega)
    unfold execOp
    rw [ho]
    subst hy; subst hz; subst hq
    have hne : ¬ m = i := by omega
    simp [ha.eval hx, ha.eval hlo, ha.eval hhi, hr, hs, hm, slicedAt, hne, Addr.add_mid]) h
theorem idxA_run {a : Act} {t e s m b off : Nat} {x i : Operand} {k : IntKind} {z : Int} {j : Nat} (ho : o.op = .indexAddr t x i) (ht : tyOf ty t = some (.arr m e s)) (hx : a.eval x = .pointer (some ⟨b, off, none⟩)) (hi : a.eval i = .int k z) (hz : z = (j : Int)) (hj : j < m) :
    (execOp a.eval o).run Try.prog w = .ok (.value (.pointer (some ⟨b, off + j * s, none⟩))) w := by
  obtain ⟨hu, hm, hs⟩ := arr_facts ht
  unfold execOp
  rw [ho]
  simp only [hx, hi, Sem.run_bind, run_indexAt_array w t _ k z hu]
  rw [if_pos (by rw [hm]; omega), hs, hz]
  simp [Addr.add_mid]
/-- An element's place in an array. -/
theorem WL.idxA {t e s m b off : Nat} {x i : Operand} {k : IntKind} {z : Int} (j q : Nat) (hg : o.guard = none) (hd : o.dst = some d) (hn : Nat.blt d n.n = true) (ho : o.op = .indexAddr t x i) (ht : tyOf ty t = some (.arr m e s))
    (hx : evl l x = some (.pointer (some ⟨b, off, none⟩))) (hi : evl l i = some (.int k z)) (hz : z = (j : Int)) (hj : j < m) (hq : off + j * s = q) (h : WL n ops Q rest ((d, .pointer (some ⟨b, q, none⟩)) :: l) w) : WL n ops Q (o :: rest) l w :=
  WL.step hg hd hn (fun _ ha => by rw [← hq]; exact idxA_run ho ht (ha.eval hx) (ha.eval hi) hz hj) h
section
variable {S : World → Prop} {m fuel : Nat} {listed : Array Bool}
theorem WD.idxA {oi : Oper} {t e s mm b off : Nat} {x i' : Operand} {k : IntKind} {z : Int} (i j q : Nat) (hi : ops[i]? = some oi) (hs : mayB ops listed i m = true) (hd : oi.dst = some d) (hn : Nat.blt d n.n = true) (hQ : Passes Q) (hw : wants ops l oi = some true)
    (ho : oi.op = .indexAddr t x i') (ht : tyOf ty t = some (.arr mm e s)) (hx : evl l x = some (.pointer (some ⟨b, off, none⟩))) (hi' : evl l i' = some (.int k z)) (hz : z = (j : Int)) (hj : j < mm) (hq : off + j * s = q) (hS : listed.getD m false = true ∨ S w)
    (h : WD n ops Q S m fuel (listed.setIfInBounds i true) ((d, .pointer (some ⟨b, q, none⟩)) :: l) w) : WD n ops Q S m (fuel + 1) listed l w :=
  WD.first i hi hs hd hn hQ (fun _ ha => .inl ⟨wants_run ha hw, fun _ _ => by rw [← hq]; exact idxA_run ho ht (ha.eval hx) (ha.eval hi') hz hj⟩) hS h
end
theorem copyV_run {t e b off dl dc b2 off2 sl sc T : Nat} {cs vs : List Value} (ty' : Nat) (ht : tyOf ty t = some (.slice e 1)) (hb : VBlk T w b cs) (hn : vs.length = min sl dl) (hr : w.rangeAt b2 off2 vs) (hfit : off + vs.length ≤ cs.length) (h1 : Ones vs) :
    (Builtin.copy_ #[t, t] ty' #[.slice (some ⟨b, off, none⟩) dl dc, .slice (some ⟨b2, off2, none⟩) sl sc]).run Try.prog w = .ok (.int .i64 vs.length) (w.setRow b (cs.take off ++ vs ++ cs.drop (off + vs.length)).toArray) := by
  obtain ⟨hu, hsz⟩ := TyOk.of tyOk ht
  have := run_copy_row Try.prog w t t ty' e b off dl dc ⟨b2, off2, none⟩ sl sc cs.toArray T vs hu hsz hb hn (fun j v hj => by
    have := hr j v hj
    simpa [Addr.add_mid] using this) (by simpa using hfit) h1
  refine this.trans ?_
  rfl
/-- copy onto a part of a block. -/
theorem WL.copyV {x y : Operand} {t e b off dl dc b2 off2 sl sc T : Nat} {cs vs : List Value} (hg : o.guard = none) (hd : o.dst = some d) (hn : Nat.blt d n.n = true)
    (ho : o.op = .call { callee := .builtin .copy, args := #[x, y], argTypes := #[t, t] }) (ht : tyOf ty t = some (.slice e 1)) (hx : evl l x = some (.slice (some ⟨b, off, none⟩) dl dc)) (hy : evl l y = some (.slice (some ⟨b2, off2, none⟩) sl sc)) (hb : VBlk T w b cs) (hm : vs.length = min sl dl) (hr : w.rangeAt b2 off2 vs) (hfit : off + vs.length ≤ cs.length) (h1 : Ones vs)
    (h : WL n ops Q rest ((d, .int .i64 vs.length) :: l) (w.setRow b (cs.take off ++ vs ++ cs.drop (off + vs.length)).toArray)) : WL n ops Q (o :: rest) l w := by
  have hrun := copyV_run o.type ht hb hm hr hfit h1 (dc := dc) (sc := sc)
  refine WL.step hg hd hn (fun a ha => ?_) h
  unfold execOp
  simp only [ho, resolve, invoke, builtin, Sem.run_bind, Sem.run_pure, Result.andThen_ok, List.map_toArray, List.map_cons, List.map_nil, ha.eval hx, ha.eval hy, hrun]
end K
end Go.Proofs.Ytdaljjicekheiaa
