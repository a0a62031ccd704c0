/- Walks over the slots that are asked for: parts of arrays in regions that draw their order; the less of two texts. -/
import Derived.Test.YtdaljjicekheiaaKk
import Derived.Test.YtdaljjicekheiaaTreP
namespace Go.Proofs.Ytdaljjicekheiaa
open Go.RowKit
namespace K
variable {n : NN} {Q : Exit → Act → World → Prop} {l : Env} {w w' : World} {ops : Array Oper} {o : Oper} {rest : List Oper} {d : Nat}
/-- Where a part of an array begins: at its end it has no place of its own. -/
def cutOff (m i off s : Nat) : Nat := if m = i then off else off + i * s
theorem cutA_run {a : Act} {t e s m b off : Nat} {x lo hi : Operand} {k1 k2 : IntKind} {y z : Int} {i j : Nat} (ho : o.op = .slice t x (some lo) (some hi) none) (ht : tyOf ty t = some (.arr m e s)) (hx : a.eval x = .pointer (some ⟨b, off, none⟩))
    (hlo : a.eval lo = .int k1 y) (hhi : a.eval hi = .int k2 z) (hy : y = (i : Int)) (hz : z = (j : Int)) (h1 : i ≤ j) (h2 : j ≤ m) : (execOp a.eval o).run Try.prog w = .ok (.value (.slice (some ⟨b, cutOff m i off s, none⟩) (j - i) (m - i))) w := by
  obtain ⟨hu, hm, hs⟩ := arr_facts ht
  have hr := run_sliceAt_array_lh (P := Try.prog) w t ⟨b, off, none⟩ hu k1 k2 y z (by omega) (by omega) (by rw [hm]; omega)
  unfold execOp
  rw [ho]
  subst hy; subst hz
  unfold cutOff
  by_cases hne : m = i
  · subst hne
    simp [hx, hlo, hhi, hr, hs, hm, slicedAt]
  · simp [hx, hlo, hhi, hr, hs, hm, slicedAt, hne, Addr.add_mid]
theorem cutL_run {a : Act} {t e s m b off : Nat} {x lo : Operand} {k1 : IntKind} {y : Int} {i : Nat} (ho : o.op = .slice t x (some lo) none none) (ht : tyOf ty t = some (.arr m e s)) (hx : a.eval x = .pointer (some ⟨b, off, none⟩))
    (hlo : a.eval lo = .int k1 y) (hy : y = (i : Int)) (h1 : i ≤ m) : (execOp a.eval o).run Try.prog w = .ok (.value (.slice (some ⟨b, cutOff m i off s, none⟩) (m - i) (m - i))) w := by
  obtain ⟨hu, hm, hs⟩ := arr_facts ht
  have hr := run_sliceAt_array_l (P := Try.prog) w t ⟨b, off, none⟩ hu k1 y (by omega) (by rw [hm]; omega)
  unfold execOp
  rw [ho]
  subst hy
  unfold cutOff
  by_cases hne : m = i
  · subst hne
    simp [hx, hlo, hr, hs, hm, slicedAt]
  · simp [hx, hlo, hr, hs, hm, slicedAt, hne, Addr.add_mid]
section
variable {S : World → Prop} {m fuel : Nat} {listed : Array Bool}
theorem WD.cutA {oi : Oper} {t e s mm b off : Nat} {x lo hi : Operand} {k1 k2 : IntKind} {y z : Int} (i p q : Nat) (hi0 : ops[i]? = some oi) (hs : mayB ops listed i m = true) (hd : oi.dst = some d) (hn : Nat.blt d n.n = true) (hQ : Passes Q) (hw : wants ops l oi = some true)
    (ho : oi.op = .slice t x (some lo) (some hi) none) (ht : tyOf ty t = some (.arr mm e s)) (hx : evl l x = some (.pointer (some ⟨b, off, none⟩))) (hlo : evl l lo = some (.int k1 y)) (hhi : evl l hi = some (.int k2 z)) (hy : y = (p : Int)) (hz : z = (q : Int)) (h1 : p ≤ q) (h2 : q ≤ mm)
    (hS : listed.getD m false = true ∨ S w) (h : WD n ops Q S m fuel (listed.setIfInBounds i true) ((d, .slice (some ⟨b, cutOff mm p off s, none⟩) (q - p) (mm - p)) :: l) w) : WD n ops Q S m (fuel + 1) listed l w :=
  WD.first i hi0 hs hd hn hQ (fun _ ha => .inl ⟨wants_run ha hw, fun _ _ => cutA_run ho ht (ha.eval hx) (ha.eval hlo) (ha.eval hhi) hy hz h1 h2⟩) hS h
theorem WD.cutL {oi : Oper} {t e s mm b off : Nat} {x lo : Operand} {k1 : IntKind} {y : Int} (i p : Nat) (hi0 : ops[i]? = some oi) (hs : mayB ops listed i m = true) (hd : oi.dst = some d) (hn : Nat.blt d n.n = true) (hQ : Passes Q) (hw : wants ops l oi = some true)
    (ho : oi.op = .slice t x (some lo) none none) (ht : tyOf ty t = some (.arr mm e s)) (hx : evl l x = some (.pointer (some ⟨b, off, none⟩))) (hlo : evl l lo = some (.int k1 y)) (hy : y = (p : Int)) (h1 : p ≤ mm)
    (hS : listed.getD m false = true ∨ S w) (h : WD n ops Q S m fuel (listed.setIfInBounds i true) ((d, .slice (some ⟨b, cutOff mm p off s, none⟩) (mm - p) (mm - p)) :: l) w) : WD n ops Q S m (fuel + 1) listed l w :=
  WD.first i hi0 hs hd hn hQ (fun _ ha => .inl ⟨wants_run ha hw, fun _ _ => cutL_run ho ht (ha.eval hx) (ha.eval hlo) hy h1⟩) hS h
end
theorem leqN : ∀ (a p : List UInt8), (Op.bytesLess a p || a == p) = !Op.bytesLess p a := fun a p => by
  cases h : Op.bytesLess p a with
  | true =>
    have h2 : Op.bytesLess a p = false := by
      cases h3 : Op.bytesLess a p with
      | false => rfl
      | true => have := Tre.bl_trans h h3; rw [Tre.bl_irr] at this; cases this
    have h4 : (a == p) = false := by
      rw [beq_eq_false_iff_ne]
      intro e; subst e; rw [Tre.bl_irr] at h; cases h
    rw [h2, h4]; rfl
  | false =>
    cases h2 : Op.bytesLess a p with
    | true => rfl
    | false => rw [Tre.bl_tri h2 h]; simp
theorem minS_run {P : Program} (ts : Array TypeId) (t : TypeId) (x y : ByteArray) (w : World) : (Builtin.min_ ts t #[.string x, .string y]).run P w = .ok (.string (Tre.kmin x y)) w := by
  unfold Tre.kmin Tre.kl
  have e := leqN x.toList y.toList
  cases h : Op.bytesLess y.toList x.toList with
  | true =>
    rw [h] at e
    simp only [Bool.not_true, Bool.or_eq_false_iff] at e
    simp [Builtin.min_, Builtin.min2, Op.stringOp, asBool, e]
  | false =>
    rw [h] at e
    simp only [Bool.not_false, Bool.or_eq_true] at e
    rcases e with e | e <;> simp [Builtin.min_, Builtin.min2, Op.stringOp, asBool, e]
/-- The less of two texts. -/
theorem WL.minS {x y : Operand} {ts : Array TypeId} {a b : ByteArray} (hg : o.guard = none) (hd : o.dst = some d) (hn : Nat.blt d n.n = true) (ho : o.op = .call { callee := .builtin .min, args := #[x, y], argTypes := ts }) (hx : evl l x = some (.string a)) (hy : evl l y = some (.string b))
    (h : WL n ops Q rest ((d, .string (Tre.kmin a b)) :: l) w) : WL n ops Q (o :: rest) l w :=
  WL.step hg hd hn (fun c hc => by
    unfold execOp
    simp only [ho, resolve, invoke, builtin, Sem.run_bind, Sem.run_pure, Result.andThen_ok, List.map_toArray, List.map_cons, List.map_nil, hc.eval hx, hc.eval hy, minS_run]) h
theorem eqGuard_ptr {P : Program} (op : BinOp) (t : TypeId) (x y : Operand) (p q : Option Addr) (w : World) : (eqGuard op t x y (.pointer p) (.pointer q)).run P w = .ok () w := by
  cases op <;> simp [eqGuard]
/-- Is a pointer nil? -/
theorem WL.nilP {x : Operand} {t t2 e : Nat} {p : Option Addr} (hg : o.guard = none) (hd : o.dst = some d) (hn : Nat.blt d n.n = true) (ho : o.op = .binOp .eql t x (.const (.pointer none)) t2) (ht : tyOf ty t = some (.ptr e)) (hx : evl l x = some (.pointer p)) (_hgd : Try.prog.eqGuardType Try.prog.depth t = false)
    (h : WL n ops Q rest ((d, .bool p.isNone) :: l) w) : WL n ops Q (o :: rest) l w :=
  WL.step hg hd hn (fun a ha => by
    have hu : Try.prog.underlying t = some (.pointer e) := TyOk.of tyOk ht
    have he : Try.prog.pointee t = e := by simp [Program.pointee, hu]
    have hy : a.eval (.const (.pointer none)) = .pointer none := rfl
    unfold execOp
    rw [ho]
    simp [ha.eval hx, hy, eqGuard_ptr _ _ _ _ _ _ _, run_eql_pointer_nil w t p (by rw [he]; exact hu)]) h
theorem WL.notNilP {x : Operand} {t t2 e : Nat} {p : Option Addr} (hg : o.guard = none) (hd : o.dst = some d) (hn : Nat.blt d n.n = true) (ho : o.op = .binOp .neq t x (.const (.pointer none)) t2) (ht : tyOf ty t = some (.ptr e)) (hx : evl l x = some (.pointer p)) (_hgd : Try.prog.eqGuardType Try.prog.depth t = false)
    (h : WL n ops Q rest ((d, .bool (!p.isNone)) :: l) w) : WL n ops Q (o :: rest) l w :=
  WL.step hg hd hn (fun a ha => by
    have hu : Try.prog.underlying t = some (.pointer e) := TyOk.of tyOk ht
    have he : Try.prog.pointee t = e := by simp [Program.pointee, hu]
    have hy : a.eval (.const (.pointer none)) = .pointer none := rfl
    unfold execOp
    rw [ho]
    simp [ha.eval hx, hy, eqGuard_ptr _ _ _ _ _ _ _, run_neq_pointer_nil w t p (by rw [he]; exact hu)]) h
end K
end Go.Proofs.Ytdaljjicekheiaa
