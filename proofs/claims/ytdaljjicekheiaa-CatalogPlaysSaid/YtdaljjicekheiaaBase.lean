/- Small lemmas on rows of cells and worlds, for every walk of this seat. -/
import Derived.Test.YtdaljjicekheiaaRows
import Derived.WalkKit
import Derived.WalkSpells
import Derived.WalkLawsBesides
import Derived.Deep.QuietTactic
import Derived.BigQuiet
import Derived.OneCell
import Derived.Lib.Hide
import Derived.Laws.Rows
namespace Go.Proofs.Ytdaljjicekheiaa
open Go.RowKit

/-- The world is the same but for draws. -/
def Drawn (w w' : World) : Prop := ∃ n, w' = w.drewN n
theorem Drawn.mk (w : World) (n : Nat) : Drawn w (w.drewN n) := ⟨n, rfl⟩

/-- Element j of a list of integers. -/
def nth (l : List Int) (j : Nat) : Int := l.getD j 0

/-- The cells from offset o of block b on read as the integers l. -/
def Row (k : IntKind) (w : World) (b o : Nat) (l : List Int) : Prop :=
  ∀ j, j < l.length → w.cell? ⟨b, o + j, none⟩ = some (.int k (nth l j))

theorem Row.at {k : IntKind} {w : World} {b o : Nat} {l : List Int} (h : Row k w b o l) (j : Nat) (hj : j < l.length) :
    w.cell? ⟨b, o + j, none⟩ = some (.int k (nth l j)) := h j hj
theorem Row.at' {k : IntKind} {w : World} {b o : Nat} {l : List Int} (h : Row k w b o l) (j i : Nat) (hj : j < l.length) (hi : i = o + j) :
    w.cell? ⟨b, i, none⟩ = some (.int k (nth l j)) := by subst hi; exact h j hj
theorem Row.at0 {k : IntKind} {w : World} {b : Nat} {l : List Int} (h : Row k w b 0 l) (j : Nat) (hj : j < l.length) :
    w.cell? ⟨b, j, none⟩ = some (.int k (nth l j)) := h.at' j j hj (by omega)

theorem nth_set_eq (l : List Int) (i : Nat) (x : Int) (h : i < l.length) : nth (l.set i x) i = x := by
  simp [nth, h]
theorem nth_set_ne (l : List Int) (i j : Nat) (x : Int) (h : j ≠ i) : nth (l.set i x) j = nth l j := by
  simp [nth, Ne.symm h]

theorem Row.of_block {k : IntKind} {w w' : World} {b o : Nat} {l : List Int} (h : Row k w b o l) (hb : w'.heap[b]? = w.heap[b]?) : Row k w' b o l := by
  intro j hj; rw [← h j hj]; exact World.cell?_of_block (w := w) hb
theorem Row.below {B : Nat} {k : IntKind} {w w' : World} {b o : Nat} {l : List Int} (h : Row k w b o l) (hb : Below B w w') (hB : b < B) : Row k w' b o l :=
  h.of_block (hb.block b hB)
theorem Row.drewN {k : IntKind} {w : World} {b o : Nat} {l : List Int} (h : Row k w b o l) (n : Nat) : Row k (w.drewN n) b o l := h.of_block rfl

theorem Row.set {k : IntKind} {w : World} {b o : Nat} {l : List Int} (h : Row k w b o l) (i : Nat) (x : Int) :
    Row k (w.setCell ⟨b, o + i, none⟩ (.int k x)) b o (l.set i x) := by
  intro j hj
  simp only [List.length_set] at hj
  by_cases e : j = i
  · subst e; rw [nth_set_eq _ _ _ hj]; exact World.cell?_setCell_same _ _ _ (h j hj)
  · rw [nth_set_ne _ _ _ _ e, World.cell?_setCell_other _ _ _ _ (by intro e'; apply e; have := congrArg Addr.off e'; simp at this; omega)]; exact h j hj
theorem Row.set0 {k : IntKind} {w : World} {b : Nat} {l : List Int} (h : Row k w b 0 l) (i : Nat) (x : Int) :
    Row k (w.setCell ⟨b, i, none⟩ (.int k x)) b 0 (l.set i x) := by
  have := h.set i x; rwa [Nat.zero_add] at this
theorem Row.other {k : IntKind} {w : World} {b o : Nat} {l : List Int} (h : Row k w b o l) (a : Addr) (v : Value) (hb : b ≠ a.block) :
    Row k (w.setCell a v) b o l := h.of_block (Below.heap_setCell w a v b hb)
theorem Row.alloc {k : IntKind} {w : World} {b o : Nat} {l : List Int} (h : Row k w b o l) (ob : Obj) (hb : b < w.heap.size) :
    Row k (w.alloc ob) b o l := h.of_block (Below.heap_alloc w ob b hb)

/-- The whole block b is the integers l. -/
def IBlk (k : IntKind) (T : TypeId) (w : World) (b : Nat) (l : List Int) : Prop :=
  w.heap[b]? = some (.cells (l.map (Value.int k)).toArray T (0, 0))
/-- The whole block b is the values l. -/
def VBlk (T : TypeId) (w : World) (b : Nat) (l : List Value) : Prop := w.heap[b]? = some (.cells l.toArray T (0, 0))

theorem VBlk.lt {T : TypeId} {w : World} {b : Nat} {l : List Value} (h : VBlk T w b l) : b < w.heap.size := lt_of_block h
theorem VBlk.cell {T : TypeId} {w : World} {b : Nat} {l : List Value} (h : VBlk T w b l) (j : Nat) (hj : j < l.length) :
    w.cell? ⟨b, j, none⟩ = some (l.getD j undef) := by
  have h' : w.heap[b]? = some (.cells l.toArray T (0, 0)) := h
  rw [cell_of_row w b j _ _ _ h']; simp [hj]
theorem VBlk.free {T : TypeId} {w : World} {b : Nat} {l : List Value} (h : VBlk T w b l) (j : Nat) : w.frozen? ⟨b, j, none⟩ = false := by
  have h' : w.heap[b]? = some (.cells l.toArray T (0, 0)) := h
  simp [World.frozen?, h']
theorem VBlk.set {T : TypeId} {w : World} {b : Nat} {l : List Value} (h : VBlk T w b l) (j : Nat) (v : Value) :
    VBlk T (w.setCell ⟨b, j, none⟩ v) b (l.set j v) := by
  have hlt := h.lt
  have h' : w.heap[b]? = some (.cells l.toArray T (0, 0)) := h
  have h'' : w.heap[b] = .cells l.toArray T (0, 0) := by simpa [Array.getElem?_eq_getElem hlt] using h'
  show (w.heap.modify b _)[b]? = _
  rw [Array.getElem?_eq_getElem (by simpa using hlt), Array.getElem_modify_self, h'']
  simp
theorem VBlk.of_block {T : TypeId} {w w' : World} {b : Nat} {l : List Value} (h : VBlk T w b l) (hb : w'.heap[b]? = w.heap[b]?) : VBlk T w' b l := hb.trans h
theorem VBlk.other {T : TypeId} {w : World} {b : Nat} {l : List Value} (h : VBlk T w b l) (a : Addr) (v : Value) (hb : b ≠ a.block) : VBlk T (w.setCell a v) b l :=
  h.of_block (Below.heap_setCell w a v b hb)
theorem VBlk.alloc {T : TypeId} {w : World} {b : Nat} {l : List Value} (h : VBlk T w b l) (ob : Obj) : VBlk T (w.alloc ob) b l :=
  h.of_block (Below.heap_alloc w ob b h.lt)
theorem VBlk.drewN {T : TypeId} {w : World} {b : Nat} {l : List Value} (h : VBlk T w b l) (n : Nat) : VBlk T (w.drewN n) b l := h
theorem VBlk.mk (w : World) (l : List Value) (T : TypeId) : VBlk T (w.alloc (.cells l.toArray T)) w.heap.size l := by
  show (w.heap.push _)[w.heap.size]? = _
  simp

theorem IBlk.v {k : IntKind} {T : TypeId} {w : World} {b : Nat} {l : List Int} (h : IBlk k T w b l) : VBlk T w b (l.map (Value.int k)) := h
theorem IBlk.lt {k : IntKind} {T : TypeId} {w : World} {b : Nat} {l : List Int} (h : IBlk k T w b l) : b < w.heap.size := h.v.lt
theorem IBlk.cell {k : IntKind} {T : TypeId} {w : World} {b : Nat} {l : List Int} (h : IBlk k T w b l) (j : Nat) (hj : j < l.length) :
    w.cell? ⟨b, j, none⟩ = some (.int k (nth l j)) := by
  rw [h.v.cell j (by simpa using hj)]; simp [nth, hj]
theorem IBlk.cell' {k : IntKind} {T : TypeId} {w : World} {b : Nat} {l : List Int} (h : IBlk k T w b l) (i j : Nat) (hj : j < l.length) (hi : i = j) :
    w.cell? ⟨b, i, none⟩ = some (.int k (nth l j)) := by subst hi; exact h.cell i hj
theorem IBlk.row {k : IntKind} {T : TypeId} {w : World} {b : Nat} {l : List Int} (h : IBlk k T w b l) : Row k w b 0 l :=
  fun j hj => by rw [Nat.zero_add]; exact h.cell j hj
theorem IBlk.free {k : IntKind} {T : TypeId} {w : World} {b : Nat} {l : List Int} (h : IBlk k T w b l) (j : Nat) : w.frozen? ⟨b, j, none⟩ = false := h.v.free j
theorem IBlk.set {k : IntKind} {T : TypeId} {w : World} {b : Nat} {l : List Int} (h : IBlk k T w b l) (j : Nat) (x : Int) :
    IBlk k T (w.setCell ⟨b, j, none⟩ (.int k x)) b (l.set j x) := by
  have := h.v.set j (.int k x); unfold IBlk; rw [List.map_set]; exact this
theorem IBlk.of_block {k : IntKind} {T : TypeId} {w w' : World} {b : Nat} {l : List Int} (h : IBlk k T w b l) (hb : w'.heap[b]? = w.heap[b]?) : IBlk k T w' b l := hb.trans h
theorem IBlk.other {k : IntKind} {T : TypeId} {w : World} {b : Nat} {l : List Int} (h : IBlk k T w b l) (a : Addr) (v : Value) (hb : b ≠ a.block) : IBlk k T (w.setCell a v) b l :=
  h.of_block (Below.heap_setCell w a v b hb)
theorem IBlk.alloc {k : IntKind} {T : TypeId} {w : World} {b : Nat} {l : List Int} (h : IBlk k T w b l) (ob : Obj) : IBlk k T (w.alloc ob) b l :=
  h.of_block (Below.heap_alloc w ob b h.lt)
theorem IBlk.drewN {k : IntKind} {T : TypeId} {w : World} {b : Nat} {l : List Int} (h : IBlk k T w b l) (n : Nat) : IBlk k T (w.drewN n) b l := h

/-- The blocks in K are as they were; the streams too; no block has gone. -/
structure Keep (K : Nat → Prop) (w w' : World) : Prop where
  os : w'.os = w.os
  tape : w'.tape = w.tape
  output : w'.output = w.output
  size : w.heap.size ≤ w'.heap.size
  block : ∀ k, K k → w'.heap[k]? = w.heap[k]?

theorem Keep.refl (K : Nat → Prop) (w : World) : Keep K w w := ⟨rfl, rfl, rfl, Nat.le_refl _, fun _ _ => rfl⟩
theorem Keep.trans {K : Nat → Prop} {a b c : World} (h : Keep K a b) (k : Keep K b c) : Keep K a c :=
  ⟨k.os.trans h.os, k.tape.trans h.tape, k.output.trans h.output, Nat.le_trans h.size k.size, fun i hi => (k.block i hi).trans (h.block i hi)⟩
theorem Keep.mono {K K' : Nat → Prop} {w w' : World} (h : Keep K w w') (hK : ∀ k, K' k → K k) : Keep K' w w' := ⟨h.os, h.tape, h.output, h.size, fun k hk => h.block k (hK k hk)⟩
theorem Keep.drewN {K : Nat → Prop} {a w : World} (h : Keep K a w) (n : Nat) : Keep K a (w.drewN n) := ⟨h.os, h.tape, h.output, h.size, h.block⟩
theorem Keep.alloc {K : Nat → Prop} {a w : World} (h : Keep K a w) (hK : ∀ k, K k → k < w.heap.size) (o : Obj) : Keep K a (w.alloc o) :=
  h.trans ⟨rfl, rfl, rfl, by simp, fun k hk => Below.heap_alloc _ _ _ (hK k hk)⟩
theorem Keep.setCell {K : Nat → Prop} {a w : World} (h : Keep K a w) {p : Addr} (hp : ¬ K p.block) (u : Value) : Keep K a (w.setCell p u) :=
  h.trans ⟨rfl, rfl, rfl, by simp [World.setCell], fun k hk => Below.heap_setCell _ _ _ _ (fun e => hp (e ▸ hk))⟩
theorem Keep.of_below {B : Nat} {w w' : World} (h : Below B w w') : Keep (fun k => k < B) w w' := ⟨h.os, h.tape, h.output, h.size, h.block⟩
theorem Keep.below {B : Nat} {w w' : World} (h : Keep (fun k => k < B) w w') : Below B w w' := ⟨h.os, h.tape, h.output, h.size, h.block⟩
theorem Keep.cell {K : Nat → Prop} {w w' : World} (h : Keep K w w') {p : Addr} (hp : K p.block) : w'.cell? p = w.cell? p := World.cell?_of_block (w := w) (h.block p.block hp)
theorem Row.keep {K : Nat → Prop} {k : IntKind} {w w' : World} {b o : Nat} {l : List Int} (h : Row k w b o l) (hb : Keep K w w') (hB : K b) : Row k w' b o l := h.of_block (hb.block b hB)
theorem IBlk.keep {K : Nat → Prop} {k : IntKind} {T : TypeId} {w w' : World} {b : Nat} {l : List Int} (h : IBlk k T w b l) (hb : Keep K w w') (hB : K b) : IBlk k T w' b l := h.of_block (hb.block b hB)
theorem VBlk.keep {K : Nat → Prop} {T : TypeId} {w w' : World} {b : Nat} {l : List Value} (h : VBlk T w b l) (hb : Keep K w w') (hB : K b) : VBlk T w' b l := h.of_block (hb.block b hB)
theorem IBlk.below {B : Nat} {k : IntKind} {T : TypeId} {w w' : World} {b : Nat} {l : List Int} (h : IBlk k T w b l) (hb : Below B w w') (hB : b < B) : IBlk k T w' b l := h.of_block (hb.block b hB)
theorem VBlk.below {B : Nat} {T : TypeId} {w w' : World} {b : Nat} {l : List Value} (h : VBlk T w b l) (hb : Below B w w') (hB : b < B) : VBlk T w' b l := h.of_block (hb.block b hB)

section
variable {P : Program} {f : FuncId} {args : Array Value} {w : World} {a n : Nat} {v : Value}
/-- A callee that leaves the world alone, met in a quiet region. -/
theorem quiet_left (h : Calls P f args (w.drewN n) fun e w' => e = .returned v ∧ w.drewN n = w') : Calls P f args (w.drewN n) fun e w'' => e = .returned v ∧ ∃ m, w'' = w.drewN m :=
  h.mono fun _ _ ⟨he, hm⟩ => ⟨he, n, hm.symm⟩
theorem quiet_add_left (h : Calls P f args (w.drewN (a + n)) fun e w' => e = .returned v ∧ w.drewN (a + n) = w') : Calls P f args (w.drewN (a + n)) fun e w'' => e = .returned v ∧ ∃ m, w'' = w.drewN (a + m) :=
  h.mono fun _ _ ⟨he, hm⟩ => ⟨he, n, hm.symm⟩
/-- A callee that only draws, met in a quiet region. -/
theorem quiet_drawn (h : Calls P f args (w.drewN n) fun e w' => e = .returned v ∧ Drawn (w.drewN n) w') : Calls P f args (w.drewN n) fun e w'' => e = .returned v ∧ ∃ m, w'' = w.drewN m :=
  h.mono fun _ _ ⟨he, m, hm⟩ => ⟨he, n + m, by rw [hm, World.drewN_drewN]⟩
theorem quiet_add_drawn (h : Calls P f args (w.drewN (a + n)) fun e w' => e = .returned v ∧ Drawn (w.drewN (a + n)) w') : Calls P f args (w.drewN (a + n)) fun e w'' => e = .returned v ∧ ∃ m, w'' = w.drewN (a + m) :=
  h.mono fun _ _ ⟨he, m, hm⟩ => ⟨he, n + m, by rw [hm, World.drewN_drewN, Nat.add_assoc]⟩
end

/-- An array or struct built of constants, its cells told. -/
theorem wpList_build_to {P : Program} {ops : Array Oper} {rest : List Oper} {o : Oper} {a : Act} {w : World} {Q : Exit → Act → World → Prop} (hg : o.guard = none) (t : TypeId) (parts : Array (Nat × Operand)) (ho : o.op = .build t parts)
    (cells : Array Value) (hf : P.built t (parts.map fun (i, x) => (i, a.eval x)).toList = some cells)
    (h : wpList P ops Q rest (a.put o.dst (.agg cells)) w) : wpList P ops Q (o :: rest) a w :=
  wpList_build hg t parts ho (by rw [hf]; rfl) (by rw [hf]; exact h)
theorem below_setRow {B : Nat} {a w : World} (h : Below B a w) {g : Nat} (hg : B ≤ g) (cs : Array Value) : Below B a (w.setRow g cs) :=
  h.trans ⟨rfl, rfl, rfl, by simp, fun k hk => setRow_other w g k cs (by omega)⟩
theorem VBlk.setRow {T : TypeId} {w : World} {b : Nat} {l : List Value} (h : VBlk T w b l) (cs : List Value) : VBlk T (w.setRow b cs.toArray) b cs :=
  setRow_heap w b _ _ _ _ h
theorem VBlk.setRow_other {T : TypeId} {w : World} {b g : Nat} {l : List Value} (h : VBlk T w b l) (cs : Array Value) (hb : b ≠ g) : VBlk T (w.setRow g cs) b l :=
  h.of_block (Go.setRow_other w g b cs hb)
theorem IBlk.setRow_other {k : IntKind} {T : TypeId} {w : World} {b g : Nat} {l : List Int} (h : IBlk k T w b l) (cs : Array Value) (hb : b ≠ g) : IBlk k T (w.setRow g cs) b l :=
  h.of_block (Go.setRow_other w g b cs hb)

end Go.Proofs.Ytdaljjicekheiaa
