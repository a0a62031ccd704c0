/- Walks over the slots that are asked for: maps. -/
import Derived.Test.YtdaljjicekheiaaKg
import Derived.Test.YtdaljjicekheiaaMapF
import Derived.Shelf.SlMaps.Clone
namespace Go.Proofs.Ytdaljjicekheiaa
open Go.RowKit Go.Maps
namespace K
theorem eqGuard_map {P : Program} (op : BinOp) (t : TypeId) (x y : Operand) (p q : Option Nat) (w : World) : (eqGuard op t x y (.map p) (.map q)).run P w = .ok () w := by
  cases op <;> simp [eqGuard]
section
variable {n : NN} {Q : Exit → Act → World → Prop} {l : Env} {w w' : World} {ops : Array Oper} {o : Oper} {rest : List Oper} {d : Nat} {S : World → Prop} {m fuel : Nat} {listed : Array Bool}
/-- Is a map nil? -/
theorem WL.nilM {x : Operand} {t t2 k e : Nat} {p : Option Nat} (hu : Try.prog.underlying t = some (.map k e)) (hg : o.guard = none) (hd : o.dst = some d) (hn : Nat.blt d n.n = true) (ho : o.op = .binOp .eql t x (.const (.map none)) t2) (hx : evl l x = some (.map p))
    (h : WL n ops Q rest ((d, .bool p.isNone) :: l) w) : WL n ops Q (o :: rest) l w :=
  WL.step hg hd hn (fun a ha => by
    have hy : a.eval (.const (.map none)) = .map none := rfl
    unfold execOp
    rw [ho]
    simp [ha.eval hx, hy, eqGuard_map _ _ _ _ _ _ _, run_eql_map_nil_sl w t k e p hu]) h
theorem look_run {a : Act} {t : Nat} {x y : Operand} {ok : Bool} {mv xv v : Value} {w w' : World} (ha : Fr n a l) (ho : o.op = .lookup t x y ok) (hx : evl l x = some mv) (hy : evl l y = some xv) (hr : (Instr.lookup t mv xv ok).run Try.prog w = .ok v w') : (execOp a.eval o).run Try.prog w = .ok (.value v) w' := by
  unfold execOp
  rw [ho]
  simp [ha.eval hx, ha.eval hy, hr, Result.andThen]
/-- A map is asked. -/
theorem WL.look {t : Nat} {x y : Operand} {ok : Bool} {mv xv v : Value} (hg : o.guard = none) (hd : o.dst = some d) (hn : Nat.blt d n.n = true) (ho : o.op = .lookup t x y ok) (hx : evl l x = some mv) (hy : evl l y = some xv)
    (hr : (Instr.lookup t mv xv ok).run Try.prog w = .ok v w) (h : WL n ops Q rest ((d, v) :: l) w) : WL n ops Q (o :: rest) l w :=
  WL.step hg hd hn (fun _ ha => look_run ha ho hx hy hr) h
/-- The same, taken first. -/
theorem WD.look {oi : Oper} {t : Nat} {x y : Operand} {ok : Bool} {mv xv v : Value} (i : Nat) (us : List Nat) (hi : ops[i]? = some oi) (hs : mayR ops listed i m us = true) (hd : oi.dst = some d) (hn : Nat.blt d n.n = true)
    (hQ : Passes Q) (hw : wants ops l oi = some true) (ho : oi.op = .lookup t x y ok) (hx : evl l x = some mv) (hy : evl l y = some xv) (hr : ∀ w, S w → (Instr.lookup t mv xv ok).run Try.prog w = .ok v w) (hS : S w)
    (h : WD n ops Q S m fuel (listed.setIfInBounds i true) ((d, v) :: l) w) : WD n ops Q S m (fuel + 1) listed l w :=
  WD.read i us hi hs hd hn hQ hw (fun _ ha w hSw => look_run ha ho hx hy (hr w hSw)) hS h
/-- A map is written. -/
theorem WL.upd {t : Nat} {x y z : Operand} {mv xv zv : Value} (hg : o.guard = none) (hd : o.dst = none) (ho : o.op = .mapUpdate t x y z) (hx : evl l x = some mv) (hy : evl l y = some xv) (hz : evl l z = some zv)
    (hr : (Instr.mapUpdate t mv xv zv).run Try.prog w = .ok () w') (h : WL n ops Q rest l w') : WL n ops Q (o :: rest) l w :=
  WL.stepU hg hd (fun _ ha => by
    unfold execOp
    rw [ho]
    simp [ha.eval hx, ha.eval hy, ha.eval hz, hr, Result.andThen]) h
/-- A new map. -/
theorem WL.mkMap {t : Nat} (hg : o.guard = none) (hd : o.dst = some d) (hn : Nat.blt d n.n = true) (ho : o.op = .makeMap t none) (h : WL n ops Q rest ((d, .map (some w.heap.size)) :: l) (w.alloc (.map #[] 0))) : WL n ops Q (o :: rest) l w :=
  WL.step hg hd hn (fun a ha => by
    unfold execOp
    rw [ho]
    simp [go_sem, Instr.makeMap, Result.andThen]) h
end
/-- A clone's block holds what the map's does. -/
theorem MF.clone {κ : Type} {P : Program} {k : TypeId} {mk : κ → Value} {w : World} {b n : Nat} {F : κ → Option Value} (h : MF P k mk w b n F) :
    ∃ es clock, w.heap[b]? = some (.map es clock) ∧ MF P k mk (w.alloc (.map es clock)) w.heap.size n F := by
  obtain ⟨D, ⟨es, clock, h1, h2⟩, hF⟩ := h
  exact ⟨es, clock, h1, D, ⟨es, clock, (MapKept.heap_alloc w _).1, h2⟩, hF⟩
end K
end Go.Proofs.Ytdaljjicekheiaa
