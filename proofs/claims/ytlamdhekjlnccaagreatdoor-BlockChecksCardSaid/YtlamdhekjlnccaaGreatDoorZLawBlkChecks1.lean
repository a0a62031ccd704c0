/- Texts for LawBlkChecks, part 1 of 5. -/
import Derived.Test.YtlamdhekjlnccaaGreatDoorRows
import Derived.WalkKit
import Derived.WalkSpells
import Derived.WalkLawsBesides
import Derived.Deep.QuietTactic
import Derived.BigQuiet
import Derived.OneCell
import Derived.Lib.Hide
import Derived.Laws.Rows
import Derived.Laws.CopyOwn
import Derived.Laws.AppendOwnNone
import Derived.Deep.AppendLies
import Derived.Deep.RegionLawGrows
import Derived.Deep.RegionHeld3
import Derived.ArgAppend
import Derived.WideShapes
import Derived.Deep.Onto
import Derived.Deep.MidRow
import Derived.Deep.DeepFit
import Derived.Deep.CutBlock
import Derived.Deep.DeepCutAuto
import Derived.IntWalk
import Derived.Lib.ConvBytes
import Derived.Great.BuildSlice
import Derived.OrdersHeld
import Derived.RegionTactic
import Derived.Lib.AppendStr
import Derived.ProofKit
import Derived.OpenShut
import Derived.ShutString
import Derived.ChangeOld
import Derived.Below
import Derived.Deep.Slices
import Derived.Laws.Bits64b
import Derived.Laws.BitsLemmas
import Derived.Laws.BitsAllLaws
/- Small lemmas on rows of cells and worlds, for every walk of this seat. -/
namespace Go.Proofs.YtlamdhekjlnccaaGreatDoor
open Go.RowKit

/-- The world is the same but for draws. -/
def Drawn (w w' : World) : Prop := ∃ n, w' = w.drewN n
theorem Drawn.mk (w : World) (n : Nat) : Drawn w (w.drewN n) := ⟨n, rfl⟩

/-- Element j of a list of integers. -/
def nth (l : List Int) (j : Nat) : Int := l.getD j 0

/-- The cells from offset o of block b on read as the integers l. -/
def Row (k : IntKind) (w : World) (b o : Nat) (l : List Int) : Prop :=
  ∀ j, j < l.length → w.cell? ⟨b, o + j, none⟩ = some (.int k (nth l j))

theorem Row.at {k : IntKind} {w : World} {b o : Nat} {l : List Int} (h : Row k w b o l) (j : Nat) (hj : j < l.length) :
    w.cell? ⟨b, o + j, none⟩ = some (.int k (nth l j)) := h j hj
theorem Row.at' {k : IntKind} {w : World} {b o : Nat} {l : List Int} (h : Row k w b o l) (j i : Nat) (hj : j < l.length) (hi : i = o + j) :
    w.cell? ⟨b, i, none⟩ = some (.int k (nth l j)) := by subst hi; exact h j hj
theorem Row.at0 {k : IntKind} {w : World} {b : Nat} {l : List Int} (h : Row k w b 0 l) (j : Nat) (hj : j < l.length) :
    w.cell? ⟨b, j, none⟩ = some (.int k (nth l j)) := h.at' j j hj (by omega)

theorem nth_set_eq (l : List Int) (i : Nat) (x : Int) (h : i < l.length) : nth (l.set i x) i = x := by
  simp [nth, h]
theorem nth_set_ne (l : List Int) (i j : Nat) (x : Int) (h : j ≠ i) : nth (l.set i x) j = nth l j := by
  simp [nth, Ne.symm h]

theorem Row.of_block {k : IntKind} {w w' : World} {b o : Nat} {l : List Int} (h : Row k w b o l) (hb : w'.heap[b]? = w.heap[b]?) : Row k w' b o l := by
  intro j hj; rw [← h j hj]; exact World.cell?_of_block (w := w) hb
theorem Row.below {B : Nat} {k : IntKind} {w w' : World} {b o : Nat} {l : List Int} (h : Row k w b o l) (hb : Below B w w') (hB : b < B) : Row k w' b o l :=
  h.of_block (hb.block b hB)
theorem Row.drewN {k : IntKind} {w : World} {b o : Nat} {l : List Int} (h : Row k w b o l) (n : Nat) : Row k (w.drewN n) b o l := h.of_block rfl

theorem Row.set {k : IntKind} {w : World} {b o : Nat} {l : List Int} (h : Row k w b o l) (i : Nat) (x : Int) :
    Row k (w.setCell ⟨b, o + i, none⟩ (.int k x)) b o (l.set i x) := by
  intro j hj
  simp only [List.length_set] at hj
  by_cases e : j = i
  · subst e; rw [nth_set_eq _ _ _ hj]; exact World.cell?_setCell_same _ _ _ (h j hj)
  · rw [nth_set_ne _ _ _ _ e, World.cell?_setCell_other _ _ _ _ (by intro e'; apply e; have := congrArg Addr.off e'; simp at this; omega)]; exact h j hj
theorem Row.set0 {k : IntKind} {w : World} {b : Nat} {l : List Int} (h : Row k w b 0 l) (i : Nat) (x : Int) :
    Row k (w.setCell ⟨b, i, none⟩ (.int k x)) b 0 (l.set i x) := by
  have := h.set i x; rwa [Nat.zero_add] at this
theorem Row.other {k : IntKind} {w : World} {b o : Nat} {l : List Int} (h : Row k w b o l) (a : Addr) (v : Value) (hb : b ≠ a.block) :
    Row k (w.setCell a v) b o l := h.of_block (Below.heap_setCell w a v b hb)
theorem Row.alloc {k : IntKind} {w : World} {b o : Nat} {l : List Int} (h : Row k w b o l) (ob : Obj) (hb : b < w.heap.size) :
    Row k (w.alloc ob) b o l := h.of_block (Below.heap_alloc w ob b hb)

/-- The whole block b is the integers l. -/
def IBlk (k : IntKind) (T : TypeId) (w : World) (b : Nat) (l : List Int) : Prop :=
  w.heap[b]? = some (.cells (l.map (Value.int k)).toArray T (0, 0))
/-- The whole block b is the values l. -/
def VBlk (T : TypeId) (w : World) (b : Nat) (l : List Value) : Prop := w.heap[b]? = some (.cells l.toArray T (0, 0))

theorem VBlk.lt {T : TypeId} {w : World} {b : Nat} {l : List Value} (h : VBlk T w b l) : b < w.heap.size := lt_of_block h
theorem VBlk.cell {T : TypeId} {w : World} {b : Nat} {l : List Value} (h : VBlk T w b l) (j : Nat) (hj : j < l.length) :
    w.cell? ⟨b, j, none⟩ = some (l.getD j undef) := by
  have h' : w.heap[b]? = some (.cells l.toArray T (0, 0)) := h
  rw [cell_of_row w b j _ _ _ h']; simp [hj]
theorem VBlk.free {T : TypeId} {w : World} {b : Nat} {l : List Value} (h : VBlk T w b l) (j : Nat) : w.frozen? ⟨b, j, none⟩ = false := by
  have h' : w.heap[b]? = some (.cells l.toArray T (0, 0)) := h
  simp [World.frozen?, h']
theorem VBlk.set {T : TypeId} {w : World} {b : Nat} {l : List Value} (h : VBlk T w b l) (j : Nat) (v : Value) :
    VBlk T (w.setCell ⟨b, j, none⟩ v) b (l.set j v) := by
  have hlt := h.lt
  have h' : w.heap[b]? = some (.cells l.toArray T (0, 0)) := h
  have h'' : w.heap[b] = .cells l.toArray T (0, 0) := by simpa [Array.getElem?_eq_getElem hlt] using h'
  show (w.heap.modify b _)[b]? = _
  rw [Array.getElem?_eq_getElem (by simpa using hlt), Array.getElem_modify_self, h'']
  simp
theorem VBlk.of_block {T : TypeId} {w w' : World} {b : Nat} {l : List Value} (h : VBlk T w b l) (hb : w'.heap[b]? = w.heap[b]?) : VBlk T w' b l := hb.trans h
theorem VBlk.other {T : TypeId} {w : World} {b : Nat} {l : List Value} (h : VBlk T w b l) (a : Addr) (v : Value) (hb : b ≠ a.block) : VBlk T (w.setCell a v) b l :=
  h.of_block (Below.heap_setCell w a v b hb)
theorem VBlk.alloc {T : TypeId} {w : World} {b : Nat} {l : List Value} (h : VBlk T w b l) (ob : Obj) : VBlk T (w.alloc ob) b l :=
  h.of_block (Below.heap_alloc w ob b h.lt)
theorem VBlk.drewN {T : TypeId} {w : World} {b : Nat} {l : List Value} (h : VBlk T w b l) (n : Nat) : VBlk T (w.drewN n) b l := h
theorem VBlk.mk (w : World) (l : List Value) (T : TypeId) : VBlk T (w.alloc (.cells l.toArray T)) w.heap.size l := by
  show (w.heap.push _)[w.heap.size]? = _
  simp

theorem IBlk.v {k : IntKind} {T : TypeId} {w : World} {b : Nat} {l : List Int} (h : IBlk k T w b l) : VBlk T w b (l.map (Value.int k)) := h
theorem IBlk.lt {k : IntKind} {T : TypeId} {w : World} {b : Nat} {l : List Int} (h : IBlk k T w b l) : b < w.heap.size := h.v.lt
theorem IBlk.cell {k : IntKind} {T : TypeId} {w : World} {b : Nat} {l : List Int} (h : IBlk k T w b l) (j : Nat) (hj : j < l.length) :
    w.cell? ⟨b, j, none⟩ = some (.int k (nth l j)) := by
  rw [h.v.cell j (by simpa using hj)]; simp [nth, hj]
theorem IBlk.cell' {k : IntKind} {T : TypeId} {w : World} {b : Nat} {l : List Int} (h : IBlk k T w b l) (i j : Nat) (hj : j < l.length) (hi : i = j) :
    w.cell? ⟨b, i, none⟩ = some (.int k (nth l j)) := by subst hi; exact h.cell i hj
theorem IBlk.row {k : IntKind} {T : TypeId} {w : World} {b : Nat} {l : List Int} (h : IBlk k T w b l) : Row k w b 0 l :=
  fun j hj => by rw [Nat.zero_add]; exact h.cell j hj
theorem IBlk.free {k : IntKind} {T : TypeId} {w : World} {b : Nat} {l : List Int} (h : IBlk k T w b l) (j : Nat) : w.frozen? ⟨b, j, none⟩ = false := h.v.free j
theorem IBlk.set {k : IntKind} {T : TypeId} {w : World} {b : Nat} {l : List Int} (h : IBlk k T w b l) (j : Nat) (x : Int) :
    IBlk k T (w.setCell ⟨b, j, none⟩ (.int k x)) b (l.set j x) := by
  have := h.v.set j (.int k x); unfold IBlk; rw [List.map_set]; exact this
theorem IBlk.of_block {k : IntKind} {T : TypeId} {w w' : World} {b : Nat} {l : List Int} (h : IBlk k T w b l) (hb : w'.heap[b]? = w.heap[b]?) : IBlk k T w' b l := hb.trans h
theorem IBlk.other {k : IntKind} {T : TypeId} {w : World} {b : Nat} {l : List Int} (h : IBlk k T w b l) (a : Addr) (v : Value) (hb : b ≠ a.block) : IBlk k T (w.setCell a v) b l :=
  h.of_block (Below.heap_setCell w a v b hb)
theorem IBlk.alloc {k : IntKind} {T : TypeId} {w : World} {b : Nat} {l : List Int} (h : IBlk k T w b l) (ob : Obj) : IBlk k T (w.alloc ob) b l :=
  h.of_block (Below.heap_alloc w ob b h.lt)
theorem IBlk.drewN {k : IntKind} {T : TypeId} {w : World} {b : Nat} {l : List Int} (h : IBlk k T w b l) (n : Nat) : IBlk k T (w.drewN n) b l := h

/-- The blocks in K are as they were; the streams too; no block has gone. -/
structure Keep (K : Nat → Prop) (w w' : World) : Prop where
  os : w'.os = w.os
  tape : w'.tape = w.tape
  output : w'.output = w.output
  size : w.heap.size ≤ w'.heap.size
  block : ∀ k, K k → w'.heap[k]? = w.heap[k]?

theorem Keep.refl (K : Nat → Prop) (w : World) : Keep K w w := ⟨rfl, rfl, rfl, Nat.le_refl _, fun _ _ => rfl⟩
theorem Keep.trans {K : Nat → Prop} {a b c : World} (h : Keep K a b) (k : Keep K b c) : Keep K a c :=
  ⟨k.os.trans h.os, k.tape.trans h.tape, k.output.trans h.output, Nat.le_trans h.size k.size, fun i hi => (k.block i hi).trans (h.block i hi)⟩
theorem Keep.mono {K K' : Nat → Prop} {w w' : World} (h : Keep K w w') (hK : ∀ k, K' k → K k) : Keep K' w w' := ⟨h.os, h.tape, h.output, h.size, fun k hk => h.block k (hK k hk)⟩
theorem Keep.drewN {K : Nat → Prop} {a w : World} (h : Keep K a w) (n : Nat) : Keep K a (w.drewN n) := ⟨h.os, h.tape, h.output, h.size, h.block⟩
theorem Keep.alloc {K : Nat → Prop} {a w : World} (h : Keep K a w) (hK : ∀ k, K k → k < w.heap.size) (o : Obj) : Keep K a (w.alloc o) :=
  h.trans ⟨rfl, rfl, rfl, by simp, fun k hk => Below.heap_alloc _ _ _ (hK k hk)⟩
theorem Keep.setCell {K : Nat → Prop} {a w : World} (h : Keep K a w) {p : Addr} (hp : ¬ K p.block) (u : Value) : Keep K a (w.setCell p u) :=
  h.trans ⟨rfl, rfl, rfl, by simp [World.setCell], fun k hk => Below.heap_setCell _ _ _ _ (fun e => hp (e ▸ hk))⟩
theorem Keep.of_below {B : Nat} {w w' : World} (h : Below B w w') : Keep (fun k => k < B) w w' := ⟨h.os, h.tape, h.output, h.size, h.block⟩
theorem Keep.below {B : Nat} {w w' : World} (h : Keep (fun k => k < B) w w') : Below B w w' := ⟨h.os, h.tape, h.output, h.size, h.block⟩
theorem Keep.cell {K : Nat → Prop} {w w' : World} (h : Keep K w w') {p : Addr} (hp : K p.block) : w'.cell? p = w.cell? p := World.cell?_of_block (w := w) (h.block p.block hp)
theorem Row.keep {K : Nat → Prop} {k : IntKind} {w w' : World} {b o : Nat} {l : List Int} (h : Row k w b o l) (hb : Keep K w w') (hB : K b) : Row k w' b o l := h.of_block (hb.block b hB)
theorem IBlk.keep {K : Nat → Prop} {k : IntKind} {T : TypeId} {w w' : World} {b : Nat} {l : List Int} (h : IBlk k T w b l) (hb : Keep K w w') (hB : K b) : IBlk k T w' b l := h.of_block (hb.block b hB)
theorem VBlk.keep {K : Nat → Prop} {T : TypeId} {w w' : World} {b : Nat} {l : List Value} (h : VBlk T w b l) (hb : Keep K w w') (hB : K b) : VBlk T w' b l := h.of_block (hb.block b hB)
theorem IBlk.below {B : Nat} {k : IntKind} {T : TypeId} {w w' : World} {b : Nat} {l : List Int} (h : IBlk k T w b l) (hb : Below B w w') (hB : b < B) : IBlk k T w' b l := h.of_block (hb.block b hB)
theorem VBlk.below {B : Nat} {T : TypeId} {w w' : World} {b : Nat} {l : List Value} (h : VBlk T w b l) (hb : Below B w w') (hB : b < B) : VBlk T w' b l := h.of_block (hb.block b hB)

section
variable {P : Program} {f : FuncId} {args : Array Value} {w : World} {a n : Nat} {v : Value}
/-- A callee that leaves the world alone, met in a quiet region. -/
theorem quiet_left (h : Calls P f args (w.drewN n) fun e w' => e = .returned v ∧ w.drewN n = w') : Calls P f args (w.drewN n) fun e w'' => e = .returned v ∧ ∃ m, w'' = w.drewN m :=
  h.mono fun _ _ ⟨he, hm⟩ => ⟨he, n, hm.symm⟩
theorem quiet_add_left (h : Calls P f args (w.drewN (a + n)) fun e w' => e = .returned v ∧ w.drewN (a + n) = w') : Calls P f args (w.drewN (a + n)) fun e w'' => e = .returned v ∧ ∃ m, w'' = w.drewN (a + m) :=
  h.mono fun _ _ ⟨he, hm⟩ => ⟨he, n, hm.symm⟩
/-- A callee that only draws, met in a quiet region. -/
theorem quiet_drawn (h : Calls P f args (w.drewN n) fun e w' => e = .returned v ∧ Drawn (w.drewN n) w') : Calls P f args (w.drewN n) fun e w'' => e = .returned v ∧ ∃ m, w'' = w.drewN m :=
  h.mono fun _ _ ⟨he, m, hm⟩ => ⟨he, n + m, by rw [hm, World.drewN_drewN]⟩
theorem quiet_add_drawn (h : Calls P f args (w.drewN (a + n)) fun e w' => e = .returned v ∧ Drawn (w.drewN (a + n)) w') : Calls P f args (w.drewN (a + n)) fun e w'' => e = .returned v ∧ ∃ m, w'' = w.drewN (a + m) :=
  h.mono fun _ _ ⟨he, m, hm⟩ => ⟨he, n + m, by rw [hm, World.drewN_drewN, Nat.add_assoc]⟩
end

/-- An array or struct built of constants, its cells told. -/
theorem wpList_build_to {P : Program} {ops : Array Oper} {rest : List Oper} {o : Oper} {a : Act} {w : World} {Q : Exit → Act → World → Prop} (hg : o.guard = none) (t : TypeId) (parts : Array (Nat × Operand)) (ho : o.op = .build t parts)
    (cells : Array Value) (hf : P.built t (parts.map fun (i, x) => (i, a.eval x)).toList = some cells)
    (h : wpList P ops Q rest (a.put o.dst (.agg cells)) w) : wpList P ops Q (o :: rest) a w :=
  wpList_build hg t parts ho (by rw [hf]; rfl) (by rw [hf]; exact h)
theorem below_setRow {B : Nat} {a w : World} (h : Below B a w) {g : Nat} (hg : B ≤ g) (cs : Array Value) : Below B a (w.setRow g cs) :=
  h.trans ⟨rfl, rfl, rfl, by simp, fun k hk => setRow_other w g k cs (by omega)⟩
theorem VBlk.setRow {T : TypeId} {w : World} {b : Nat} {l : List Value} (h : VBlk T w b l) (cs : List Value) : VBlk T (w.setRow b cs.toArray) b cs :=
  setRow_heap w b _ _ _ _ h
theorem VBlk.setRow_other {T : TypeId} {w : World} {b g : Nat} {l : List Value} (h : VBlk T w b l) (cs : Array Value) (hb : b ≠ g) : VBlk T (w.setRow g cs) b l :=
  h.of_block (Go.setRow_other w g b cs hb)
theorem IBlk.setRow_other {k : IntKind} {T : TypeId} {w : World} {b g : Nat} {l : List Int} (h : IBlk k T w b l) (cs : Array Value) (hb : b ≠ g) : IBlk k T (w.setRow g cs) b l :=
  h.of_block (Go.setRow_other w g b cs hb)

end Go.Proofs.YtlamdhekjlnccaaGreatDoor

/- More small lemmas: slices that read as lists, an array's element, blocks behind two allocations. -/
namespace Go.Proofs.YtlamdhekjlnccaaGreatDoor
open Go.RowKit

/-- A fact kept from the walk and from contradiction alike. -/
def Hid2 (p : Prop) : Prop := ∀ q : Prop, (p → q) → q
theorem Hid2.mk {p : Prop} (h : p) : Hid2 p := fun _ f => f h
theorem Hid2.out {p : Prop} (h : Hid2 p) : p := h p id

/-- The slice value v reads as the integers l (nil too). -/
def Sl (k : IntKind) (w : World) (v : Value) (l : List Int) : Prop :=
  ∃ sp cap, v = .slice sp l.length cap ∧ l.length ≤ cap ∧ cap ≤ 9223372036854775807 ∧ (0 < l.length → ∃ b o, sp = some ⟨b, o, none⟩ ∧ b < w.heap.size ∧ Row k w b o l) ∧ (sp = none → cap = 0)

theorem Sl.of_below {k : IntKind} {w w' : World} {v : Value} {l : List Int} (h : Sl k w v l) (hb : Below w.heap.size w w') : Sl k w' v l := by
  obtain ⟨sp, cap, rfl, h1, h2, h3, h4⟩ := h
  exact ⟨sp, cap, rfl, h1, h2, fun h0 => let ⟨b, o, e, hl, hr⟩ := h3 h0; ⟨b, o, e, Nat.lt_of_lt_of_le hl hb.size, hr.below hb hl⟩, h4⟩
theorem Sl.keep {K : Nat → Prop} {k : IntKind} {w w' : World} {v : Value} {l : List Int} (h : Sl k w v l) (hb : Keep K w w') (hK : ∀ b o n c, v = .slice (some ⟨b, o, none⟩) n c → b < w.heap.size → K b) : Sl k w' v l := by
  obtain ⟨sp, cap, rfl, h1, h2, h3, h4⟩ := h
  exact ⟨sp, cap, rfl, h1, h2, fun h0 => let ⟨b, o, e, hl, hr⟩ := h3 h0; ⟨b, o, e, Nat.lt_of_lt_of_le hl hb.size, hr.keep hb (hK b o _ _ (by rw [e]) hl)⟩, h4⟩
theorem Sl.nil (k : IntKind) (w : World) : Sl k w (.slice none 0 0) [] := ⟨none, 0, rfl, by simp, by omega, fun h => by simp at h, fun _ => rfl⟩
theorem Sl.mk {k : IntKind} {w : World} {b o cap : Nat} {l : List Int} (hl : l.length ≤ cap) (hc : cap ≤ 9223372036854775807) (hb : b < w.heap.size) (h : Row k w b o l) :
    Sl k w (.slice (some ⟨b, o, none⟩) l.length cap) l := ⟨_, _, rfl, hl, hc, fun _ => ⟨b, o, rfl, hb, h⟩, fun h => by cases h⟩

/-- The length in a slot that holds a slice: for a loop's measure. -/
def lenOf : Value → Nat | .slice _ n _ => n | _ => 0

theorem row_drop {k : IntKind} {w : World} {b o : Nat} {l : List Int} (h : Row k w b o l) (n : Nat) : Row k w b (o + n) (l.drop n) := by
  intro j hj
  simp only [List.length_drop] at hj
  have := h (n + j) (by omega)
  rw [show o + n + j = o + (n + j) by omega, this]
  simp [nth]

theorem two_alloc {w w1 : World} {A B : Obj} (hb : Below ((w.alloc A).alloc B).heap.size ((w.alloc A).alloc B) w1) :
    w1.heap[w.heap.size]? = some A ∧ w1.heap[w.heap.size + 1]? = some B ∧ Below w.heap.size w w1 ∧ w.heap.size + 2 ≤ w1.heap.size := by
  have hs : ((w.alloc A).alloc B).heap.size = w.heap.size + 2 := by simp
  refine ⟨?_, ?_, ?_, ?_⟩
  · rw [hb.block _ (by rw [hs]; omega), heap_alloc2_old]
  · rw [hb.block _ (by rw [hs]; omega), heap_alloc2_new]
  · exact (((Below.refl _ _).alloc (Nat.le_refl _) _).alloc (by simp) _).trans (hb.mono (by rw [hs]; omega))
  · rw [← hs]; exact hb.size

theorem run_index_arr {P : Program} (w : World) (t e : TypeId) (n : Nat) (d : TypeDesc) (i : TypeInfo) (hu : P.underlying t = some (.array n e)) (hi : P.info? e = some i) (hs : i.size = 1)
    (he : P.underlying e = some d) (hd : (match d with | .struct _ | .array _ _ => false | _ => true) = true) (cs : Array Value) (k : IntKind) (j : Nat) (h1 : j < n) (v : Value) (hv : cs[j]? = some v) :
    (Instr.index t (.agg cs) (.int k j)).run P w = .ok v w := by
  have hagg : (isAgg e).run P w = .ok false w := by
    unfold isAgg
    rw [Sem.run_bind, run_underlying he w]
    cases d <;> simp_all
  have h0 : (0 : Int) ≤ j ∧ (j : Int) < n := by omega
  simp [Instr.index, run_underlying hu, asIntOf, h0, sizeOf, typeInfo, hi, hs, part, hagg, hv, Sem.run_bind]
  omega

theorem splice_zero {α : Type} (Z X : List α) (_h : X.length ≤ Z.length) : splice Z 0 X = X ++ Z.drop X.length := by simp [splice]
theorem addr_add (b o i : Nat) : (⟨b, o, none⟩ : Addr).add i = ⟨b, o + i, none⟩ := by
  unfold Addr.add
  by_cases h : i = 0
  · subst h; rfl
  · rw [if_neg h]

end Go.Proofs.YtlamdhekjlnccaaGreatDoor

/- Slices of elements of several cells: what they read as, and slices of the program's own. -/
namespace Go.Proofs.YtlamdhekjlnccaaGreatDoor
open Go.RowKit

/-- The cells from offset o of block b on are l. -/
def RowV (w : World) (b o : Nat) (l : List Value) : Prop := ∀ j, j < l.length → w.cell? ⟨b, o + j, none⟩ = some (l.getD j undef)
theorem RowV.of_block {w w' : World} {b o : Nat} {l : List Value} (h : RowV w b o l) (hb : w'.heap[b]? = w.heap[b]?) : RowV w' b o l := by
  intro j hj; rw [← h j hj]; exact World.cell?_of_block (w := w) hb
theorem RowV.at {w : World} {b o : Nat} {l : List Value} (h : RowV w b o l) (j i : Nat) (hj : j < l.length) (hi : i = o + j) : w.cell? ⟨b, i, none⟩ = some (l.getD j undef) := by subst hi; exact h j hj
theorem RowV.of_vblk {T : TypeId} {w : World} {b : Nat} {l : List Value} (h : VBlk T w b l) : RowV w b 0 l := fun j hj => by rw [Nat.zero_add]; exact h.cell j hj

/-- All of one cell. -/
def Ones (l : List Value) : Prop := ∀ u ∈ l, u.oneCell' = true
theorem Ones.append {l l' : List Value} (h : Ones l) (h' : Ones l') : Ones (l ++ l') := fun u hu => (List.mem_append.1 hu).elim (h u) (h' u)
theorem Ones.str (l : List ByteArray) : Ones (l.map Value.string) := fun u hu => by obtain ⟨_, _, rfl⟩ := List.mem_map.1 hu; rfl
theorem Ones.int (k : IntKind) (l : List Int) : Ones (l.map (Value.int k)) := fun u hu => by obtain ⟨_, _, rfl⟩ := List.mem_map.1 hu; rfl

/-- The slice v of n elements of m cells each reads as the cells l, out of blocks of O. -/
def SlV (w : World) (O : Nat → Prop) (m : Nat) (v : Value) (n : Nat) (l : List Value) : Prop :=
  l.length = n * m ∧ Ones l ∧ ∃ sp cap, v = .slice sp n cap ∧ n ≤ cap ∧ cap ≤ 9223372036854775807 ∧ (sp = none → cap = 0) ∧ (0 < n → ∃ b o, sp = some ⟨b, o, none⟩ ∧ b < w.heap.size ∧ O b ∧ RowV w b o l)

theorem SlV.nil (w : World) (O : Nat → Prop) (m : Nat) : SlV w O m (.slice none 0 0) 0 [] :=
  ⟨by simp, fun _ h => (List.not_mem_nil h).elim, none, 0, rfl, by omega, by omega, fun _ => rfl, fun h => by omega⟩
theorem SlV.keep {w w' : World} {O : Nat → Prop} {m n : Nat} {v : Value} {l : List Value} (h : SlV w O m v n l) {K : Nat → Prop} (hk : Keep K w w') (hK : ∀ b, O b → b < w.heap.size → K b) : SlV w' O m v n l := by
  obtain ⟨h1, h2, sp, cap, h3, h4, h5, h6, h7⟩ := h
  exact ⟨h1, h2, sp, cap, h3, h4, h5, h6, fun hn => let ⟨b, o, e, hb, hO, hr⟩ := h7 hn; ⟨b, o, e, Nat.lt_of_lt_of_le hb hk.size, hO, hr.of_block (hk.block b (hK b hO hb))⟩⟩
theorem SlV.mono {w : World} {O O' : Nat → Prop} {m n : Nat} {v : Value} {l : List Value} (h : SlV w O m v n l) (hO : ∀ b, O b → O' b) : SlV w O' m v n l := by
  obtain ⟨h1, h2, sp, cap, h3, h4, h5, h6, h7⟩ := h
  exact ⟨h1, h2, sp, cap, h3, h4, h5, h6, fun hn => let ⟨b, o, e, hb, hO', hr⟩ := h7 hn; ⟨b, o, e, hb, hO b hO', hr⟩⟩
theorem SlV.below {w w' : World} {O : Nat → Prop} {m n : Nat} {v : Value} {l : List Value} (h : SlV w O m v n l) {B : Nat} (hk : Below B w w') (hB : w.heap.size ≤ B) : SlV w' O m v n l :=
  h.keep (Keep.of_below hk) (fun _ _ hb => Nat.lt_of_lt_of_le hb hB)

/-- The program's own slice, at the head of its block. -/
def OwnV (e : TypeId) (m : Nat) (w : World) (O : Nat → Prop) (v : Value) (n : Nat) (l : List Value) : Prop :=
  w.ownsRow 0 e m v n l ∧ Ones l ∧ ∀ g, v.ownBlock = some g → O g

theorem OwnV.nil (e : TypeId) (m : Nat) (w : World) (O : Nat → Prop) : OwnV e m w O (.slice none 0 0) 0 [] := ⟨World.ownsRow_nil _ _ _ _, fun _ h => (List.not_mem_nil h).elim, fun g h => by cases h⟩
theorem OwnV.len {e : TypeId} {m : Nat} {w : World} {O : Nat → Prop} {v : Value} {n : Nat} {l : List Value} (h : OwnV e m w O v n l) : l.length = n * m := h.1.1
theorem OwnV.form {e : TypeId} {m : Nat} {w : World} {O : Nat → Prop} {v : Value} {n : Nat} {l : List Value} (h : OwnV e m w O v n l) :
    (v = .slice none 0 0 ∧ n = 0 ∧ l = []) ∨ ∃ g cap cur, v = .slice (some ⟨g, 0, none⟩) n cap ∧ O g ∧ g < w.heap.size ∧ w.heap[g]? = some (.cells cur e (0, 0)) ∧ n ≤ cap ∧ cap ≤ maxLen ∧ cur.size = cap * m ∧ cur.toList.take (n * m) = l := by
  obtain ⟨⟨h1, h2⟩, -, h3⟩ := h
  rcases h2 with ⟨rfl, rfl⟩ | ⟨g, cap, cur, rfl, -, hg, h4, h5, h6, h7⟩
  · exact .inl ⟨rfl, rfl, List.eq_nil_of_length_eq_zero (by simpa using h1)⟩
  · exact .inr ⟨g, cap, cur, rfl, h3 g rfl, lt_of_block hg, hg, h4, h5, h6, h7⟩
theorem OwnV.slV {e : TypeId} {m : Nat} {w : World} {O : Nat → Prop} {v : Value} {n : Nat} {l : List Value} (h : OwnV e m w O v n l) : SlV w O m v n l := by
  refine ⟨h.1.1, h.2.1, ?_⟩
  have hc := h
  rcases h.form with ⟨rfl, rfl, rfl⟩ | ⟨g, cap, cur, rfl, hO, hlt, hg, h4, h5, h6, h7⟩
  · exact ⟨none, 0, rfl, by omega, by omega, fun _ => rfl, fun h => by omega⟩
  · refine ⟨_, cap, rfl, h4, h5, (fun h => by cases h), fun _ => ⟨g, 0, rfl, hlt, hO, fun j hj => ?_⟩⟩
    rw [Nat.zero_add]
    have := World.ownsRow.cellAt hc.1 j (by rw [← hc.1.1]; exact hj)
    rw [this]; simp [hj]
theorem OwnV.slice {e : TypeId} {m : Nat} {w : World} {O : Nat → Prop} {v : Value} {n : Nat} {l : List Value} (h : OwnV e m w O v n l) : ∃ sp cap, v = .slice sp n cap ∧ n ≤ cap ∧ cap ≤ 9223372036854775807 := by
  rcases h.form with ⟨rfl, rfl, -⟩ | ⟨g, cap, cur, rfl, -, -, -, h4, h5, -⟩
  · exact ⟨none, 0, rfl, by omega, by omega⟩
  · exact ⟨_, _, rfl, h4, by unfold maxLen at h5; exact h5⟩

theorem OwnV.of_block {e : TypeId} {m : Nat} {w w' : World} {O : Nat → Prop} {v : Value} {n : Nat} {l : List Value} (h : OwnV e m w O v n l) (hb : ∀ g, v.ownBlock = some g → w'.heap[g]? = w.heap[g]?) : OwnV e m w' O v n l := by
  refine ⟨⟨h.1.1, ?_⟩, h.2⟩
  rcases h.1.2 with hn | ⟨g, cap, cur, rfl, hb', hg, r⟩
  · exact .inl hn
  · exact .inr ⟨g, cap, cur, rfl, hb', by rw [hb g rfl]; exact hg, r⟩
theorem OwnV.lt {e : TypeId} {m : Nat} {w : World} {O : Nat → Prop} {v : Value} {n : Nat} {l : List Value} (h : OwnV e m w O v n l) {g : Nat} (hg : v.ownBlock = some g) : g < w.heap.size := (World.ownsRow.lt h.1 g hg).2
theorem OwnV.own {e : TypeId} {m : Nat} {w : World} {O : Nat → Prop} {v : Value} {n : Nat} {l : List Value} (h : OwnV e m w O v n l) {g : Nat} (hg : v.ownBlock = some g) : O g := h.2.2 g hg
theorem OwnV.keep {e : TypeId} {m : Nat} {w w' : World} {O : Nat → Prop} {v : Value} {n : Nat} {l : List Value} (h : OwnV e m w O v n l) {K : Nat → Prop} (hk : Keep K w w') (hK : ∀ g, v.ownBlock = some g → K g) : OwnV e m w' O v n l :=
  h.of_block fun g hg => hk.block g (hK g hg)
theorem OwnV.mono {e : TypeId} {m : Nat} {w : World} {O O' : Nat → Prop} {v : Value} {n : Nat} {l : List Value} (h : OwnV e m w O v n l) (hO : ∀ b, O b → O' b) : OwnV e m w O' v n l := ⟨h.1, h.2.1, fun g hg => hO g (h.2.2 g hg)⟩
theorem OwnV.alloc {e : TypeId} {m : Nat} {w : World} {O : Nat → Prop} {v : Value} {n : Nat} {l : List Value} (h : OwnV e m w O v n l) (o : Obj) : OwnV e m (w.alloc o) O v n l :=
  h.of_block fun g hg => Below.heap_alloc w o g (h.lt hg)
/-- The type of its block. -/
theorem OwnV.tag {e : TypeId} {m : Nat} {w : World} {O : Nat → Prop} {v : Value} {n : Nat} {l : List Value} (h : OwnV e m w O v n l) {g : Nat} (hg : v.ownBlock = some g) : ∃ cur, w.heap[g]? = some (.cells cur e (0, 0)) := by
  rcases h.form with ⟨rfl, -⟩ | ⟨g', cap, cur, rfl, -, -, hg', -⟩
  · cases hg
  · cases hg; exact ⟨cur, hg'⟩

theorem OwnV.stored {e : TypeId} {m : Nat} {w : World} {O : Nat → Prop} {g n cap : Nat} {l : List Value} (h : OwnV e m w O (.slice (some ⟨g, 0, none⟩) n cap) n l) (j : Nat) {u : Value} (hu : u.oneCell' = true) :
    OwnV e m (w.setCell ⟨g, j, none⟩ u) O (.slice (some ⟨g, 0, none⟩) n cap) n (l.set j u) :=
  ⟨(World.ownsRow.stored h.1 j u).1, fun x hx => by
    rcases List.mem_or_eq_of_mem_set hx with h1 | rfl
    · exact h.2.1 x h1
    · exact hu, h.2.2⟩
theorem OwnV.free {e : TypeId} {m : Nat} {w : World} {O : Nat → Prop} {g n cap : Nat} {l : List Value} (h : OwnV e m w O (.slice (some ⟨g, 0, none⟩) n cap) n l) (j : Nat) : w.frozen? ⟨g, j, none⟩ = false := World.ownsRow.frozenAt h.1 j
theorem OwnV.at {e : TypeId} {m : Nat} {w : World} {O : Nat → Prop} {g n cap : Nat} {l : List Value} (h : OwnV e m w O (.slice (some ⟨g, 0, none⟩) n cap) n l) (j : Nat) (hj : j < l.length) : w.cell? ⟨g, j, none⟩ = some (l.getD j undef) := by
  rw [World.ownsRow.cellAt h.1 j (by rw [← h.1.1]; exact hj)]
  simp [hj]

/-- What append asks of the element type. -/
structure ElemV (P : Program) (t e : TypeId) (m bytes : Nat) : Prop where
  ht : P.underlying t = some (.slice e)
  pos : 0 < m
  ex : ∃ i z, P.info? e = some i ∧ i.zero = some z ∧ i.size = m ∧ i.bytes = bytes ∧ z.cells.size = m
theorem ElemV.mk' {P : Program} {t e : TypeId} {m bytes : Nat} {z : Value} (ht : P.underlying t = some (.slice e)) (hi : (P.info? e).map (fun i => (i.zero, i.size, i.bytes)) = some (some z, m, bytes)) (hz : z.cells.size = m) (hp : 0 < m) : ElemV P t e m bytes :=
  ⟨ht, hp, let ⟨i, h1, h2, h3, h4⟩ := info_parts hi; ⟨i, _, h1, h2, h3, h4, hz⟩⟩

theorem grown_keep {w w' : World} {r : Option Nat} (hg : w.grownBy w' r) : Keep (fun b => b < w.heap.size ∧ r ≠ some b) w w' :=
  ⟨hg.os, hg.tape, hg.output, hg.size, fun k hk => hg.block k hk.1 (fun e => hk.2 e.symm)⟩

/-- What a source of an append reads as. -/
theorem SlV.news {w : World} {O : Nat → Prop} {m n : Nat} {v : Value} {l : List Value} (h : SlV w O m v n l) :
    (v = .slice none 0 0 ∧ n = 0 ∧ l = []) ∨ ∃ ad cap, v = .slice (some ad) n cap ∧ n ≤ cap ∧ ∀ j u, l[j]? = some u → w.cell? (ad.add j) = some u := by
  obtain ⟨h1, h2, sp, cap, h3, h4, h5, h6, h7⟩ := h
  cases hsp : sp with
  | none =>
    have := h6 hsp
    have hn : n = 0 := by omega
    subst hn
    exact .inl ⟨by rw [h3, hsp, this], rfl, List.eq_nil_of_length_eq_zero (by simpa using h1)⟩
  | some ad =>
    refine .inr ⟨ad, cap, by rw [h3, hsp], h4, fun j u hu => ?_⟩
    have hj : j < l.length := by
      rcases Nat.lt_or_ge j l.length with h | h
      · exact h
      · simp [h] at hu
    have hn : 0 < n := by
      rcases Nat.eq_zero_or_pos n with h0 | h0
      · subst h0; simp at h1; rw [h1] at hj; cases hj
      · exact h0
    obtain ⟨b, o, e, -, -, hr⟩ := h7 hn
    rw [hsp] at e
    cases e
    rw [addr_add, hr j hj]
    simpa [hj] using hu

/-- append of a slice onto an own one: the run. -/
theorem run_appV {P : Program} {w : World} {t ty e : TypeId} {m bytes : Nat} (E : ElemV P t e m bytes) {O O2 : Nat → Prop} {v : Value} {n : Nat} {l : List Value} (hown : OwnV e m w O v n l)
    {x : Value} {n2 : Nat} {l2 : List Value} (hx : SlV w O2 m x n2 l2) (h63 : n + n2 ≤ maxLen) (hby : (n + n2) * bytes ≤ 140737488355328) :
    ∃ v' w', (Builtin.append_ #[t, t] ty #[v, x]).run P w = .ok v' w' ∧ OwnV e m w' (fun g => O g ∨ g = w.heap.size) v' (n + n2) (l ++ l2) ∧ w.grownBy w' v.ownBlock ∧ (∀ g, v'.ownBlock = some g → v.ownBlock = some g ∨ g = w.heap.size) := by
  obtain ⟨i, z, hi, hz, hz1, hz2, hz3⟩ := E.ex
  rcases hx.news with ⟨rfl, rfl, rfl⟩ | ⟨ad, cap, rfl, hc, hn⟩
  · refine ⟨v, w, run_append_owned_none (P := P) (w := w) 0 t ty e i m E.ht hi v n _ hown.1, ?_, World.grownBy.refl _ _, fun g hg => .inl hg⟩
    rw [List.append_nil]
    exact hown.mono (fun _ h => .inl h)
  · rcases Nat.eq_zero_or_pos n2 with h0 | h0
    · subst h0
      have hl2 : l2 = [] := List.eq_nil_of_length_eq_zero (by simpa using hx.1)
      subst hl2
      obtain ⟨v', w', hr, h2, h3, h4, h5⟩ := run_append_own_at (P := P) w 0 t ty e i z m bytes E.ht hi hz hz1 hz2 hz3 E.pos v n l hown.1 ad 0 cap [] (by simp) (by simp) (by simp) h63 hby (Nat.zero_le _)
      have h6 : ∀ g, v'.ownBlock = some g → v.ownBlock = some g ∨ g = w.heap.size := by
        intro g hg
        rcases h5 with h5 | h5
        · exact .inl (by rw [← h5]; exact hg)
        · rw [h5] at hg; cases hg; exact .inr rfl
      exact ⟨v', w', hr, ⟨h2, hown.2.1.append hx.2.1, fun g hg => (h6 g hg).imp (hown.2.2 g) id⟩, h3, h6⟩
    · obtain ⟨g, c, w', hr, h2, h3, h4, h5⟩ := run_append_lies (P := P) w t ty 0 e i z m bytes E.ht hi hz hz1 hz2 hz3 E.pos v n l hown.1 ad n2 cap l2 hx.1 hn hx.2.1 h0 h63 hby (Nat.zero_le _) w.heap.size rfl
      have h6 : ∀ g', (Value.slice (some ⟨g, 0, none⟩) (n + n2) c).ownBlock = some g' → v.ownBlock = some g' ∨ g' = w.heap.size := by
        intro g' hg; cases hg; exact h4
      exact ⟨_, w', hr, ⟨h2, hown.2.1.append hx.2.1, fun g hg => (h6 g hg).imp (hown.2.2 g) id⟩, h3, h6⟩

theorem wp_appV {P : Program} {w : World} {o : Oper} {a : Act} {K : Act → World → Prop} {Q : Exit → Act → World → Prop} (s x : Operand) (t : TypeId)
    (ho : o.op = .call { callee := .builtin .append, args := #[s, x], argTypes := #[t, t] }) {e : TypeId} {m bytes : Nat} (E : ElemV P t e m bytes) {O O2 : Nat → Prop} {v : Value} {n : Nat} {l : List Value} (hs : a.eval s = v) (hown : OwnV e m w O v n l)
    {xv : Value} {n2 : Nat} {l2 : List Value} (hx : a.eval x = xv) (hsl : SlV w O2 m xv n2 l2) {n' : Nat} (hn : n + n2 = n') (h63 : n' ≤ maxLen) (hby : n' * bytes ≤ 140737488355328)
    (h : ∀ sp c w', OwnV e m w' (fun g => O g ∨ g = w.heap.size) (.slice sp n' c) n' (l ++ l2) → w.grownBy w' v.ownBlock → (∀ g, (Value.slice sp n' c).ownBlock = some g → v.ownBlock = some g ∨ g = w.heap.size) → K (a.put o.dst (.slice sp n' c)) w') : o.wp P a w K Q := by
  subst hn
  obtain ⟨v', w', hr, h2, h3, h4⟩ := run_appV (P := P) (ty := o.type) E hown hsl h63 hby
  have hv : ∃ sp c, v' = .slice sp (n + n2) c := by
    rcases h2.form with ⟨rfl, h0, -⟩ | ⟨g, cap, cur, rfl, -⟩
    · exact ⟨none, 0, by rw [h0]⟩
    · exact ⟨_, _, rfl⟩
  obtain ⟨sp, c, rfl⟩ := hv
  unfold Oper.wp execOp
  simp only [ho, resolve, invoke, builtin, Sem.run_bind, Sem.run_pure, Result.andThen_ok, List.map_toArray, List.map_cons, List.map_nil, hs, hx, hr]
  exact h sp c w' h2 h3 h4

/-- At a plain region's operations. -/
theorem wpList_appV {P : Program} {w : World} {ops : Array Oper} {rest : List Oper} {o : Oper} {a : Act} {Q : Exit → Act → World → Prop} (hgd : o.guard = none) (s x : Operand) (t : TypeId)
    (ho : o.op = .call { callee := .builtin .append, args := #[s, x], argTypes := #[t, t] }) {e : TypeId} {m bytes : Nat} (E : ElemV P t e m bytes) {O O2 : Nat → Prop} {v : Value} {n : Nat} {l : List Value} (hs : a.eval s = v) (hown : OwnV e m w O v n l)
    {xv : Value} {n2 : Nat} {l2 : List Value} (hx : a.eval x = xv) (hsl : SlV w O2 m xv n2 l2) {n' : Nat} (hn : n + n2 = n') (h63 : n' ≤ maxLen) (hby : n' * bytes ≤ 140737488355328)
    (h : ∀ sp c w', OwnV e m w' (fun g => O g ∨ g = w.heap.size) (.slice sp n' c) n' (l ++ l2) → w.grownBy w' v.ownBlock → (∀ g, (Value.slice sp n' c).ownBlock = some g → v.ownBlock = some g ∨ g = w.heap.size) → wpList P ops Q rest (a.put o.dst (.slice sp n' c)) w') : wpList P ops Q (o :: rest) a w :=
  wpList_plain hgd fun _ hK => wp_appV s x t ho E hs hown hx hsl hn h63 hby fun sp c w' h2 h3 h4 => hK _ _ (h sp c w' h2 h3 h4)

/-- At a step of a region that draws its order. -/
theorem step_appV {P : Program} {w : World} {ops : Array Oper} {o : Oper} {a : Act} {K : Act → World → Prop} {Q : Exit → Act → World → Prop} {F : Prop} (hgd : o.guard = none) (s x : Operand) (t : TypeId)
    (ho : o.op = .call { callee := .builtin .append, args := #[s, x], argTypes := #[t, t] }) {e : TypeId} {m bytes : Nat} (E : ElemV P t e m bytes) {O O2 : Nat → Prop} {v : Value} {n : Nat} {l : List Value} (hs : a.eval s = v) (hown : OwnV e m w O v n l)
    {xv : Value} {n2 : Nat} {l2 : List Value} (hx : a.eval x = xv) (hsl : SlV w O2 m xv n2 l2) {n' : Nat} (hn : n + n2 = n') (h63 : n' ≤ maxLen) (hby : n' * bytes ≤ 140737488355328)
    (h : ∀ sp c w', OwnV e m w' (fun g => O g ∨ g = w.heap.size) (.slice sp n' c) n' (l ++ l2) → w.grownBy w' v.ownBlock → (∀ g, (Value.slice sp n' c).ownBlock = some g → v.ownBlock = some g ∨ g = w.heap.size) → K (a.put o.dst (.slice sp n' c)) w') :
    if Region.wanted o (yielded ops a.tmps) = true then Oper.wp P o a w K Q else F := by
  rw [if_pos (by simp [Region.wanted, hgd])]
  exact wp_appV s x t ho E hs hown hx hsl hn h63 hby h

/-- append onto a full slice: a new block. -/
theorem step_growV {P : Program} {w : World} {ops : Array Oper} {o : Oper} {a : Act} {K : Act → World → Prop} {Q : Exit → Act → World → Prop} {F : Prop} (hgd : o.guard = none) (s x : Operand) (t : TypeId)
    (ho : o.op = .call { callee := .builtin .append, args := #[s, x], argTypes := #[t, t] }) {e : TypeId} {m bytes : Nat} (E : ElemV P t e m bytes) {O O2 : Nat → Prop} {sp : Option Addr} {n cc : Nat} {l : List Value} (hs : a.eval s = .slice sp n n) (hown : SlV w O m (.slice sp n cc) n l)
    {xv : Value} {n2 : Nat} {l2 : List Value} (hx : a.eval x = xv) (hsl : SlV w O2 m xv n2 l2) (h0 : 0 < n2) {n' : Nat} (hn : n + n2 = n') (h63 : n' ≤ maxLen) (hby : n' * bytes ≤ 140737488355328)
    (h : ∀ sp c w', OwnV e m w' (fun g => w.heap.size ≤ g) (.slice sp n' c) n' (l ++ l2) → w.grownBy w' none → K (a.put o.dst (.slice sp n' c)) w') :
    if Region.wanted o (yielded ops a.tmps) = true then Oper.wp P o a w K Q else F := by
  subst hn
  obtain ⟨i, z, hi, hz, hz1, hz2, hz3⟩ := E.ex
  rcases hsl.news with ⟨rfl, rfl, -⟩ | ⟨ad, cap, rfl, hc, hnw⟩
  · omega
  · refine step_append_grows hgd s x t ho e i z m bytes E.ht hi hz hz1 hz2 hz3 E.pos sp n n l hs ?_ hown.1 ?_ ad n2 cap l2 hx hsl.1 hnw hsl.2.1 (by omega) h63 hby ?_
    · intro e0; subst e0
      rcases hown.news with ⟨-, h1, -⟩ | ⟨_, _, h1, _⟩
      · exact ⟨h1, h1⟩
      · cases h1
    · intro b hb; subst hb
      rcases hown.news with ⟨h1, -, -⟩ | ⟨ad', cp, h1, -, h2⟩
      · cases h1
      · injection h1 with h1 _ _; cases h1; exact h2
    · intro v' w' h1 h2
      rcases h1.2 with ⟨-, h3⟩ | ⟨g, cap', cur, rfl, hb, r⟩
      · omega
      · exact h _ _ w' ⟨⟨h1.1, .inr ⟨g, cap', cur, rfl, Nat.zero_le _, r⟩⟩, hown.2.1.append hsl.2.1, fun g' e => by cases e; exact hb⟩ h2

/-- A new block of cells as a slice that reads. -/
theorem SlV.fresh (w : World) (O : Nat → Prop) (T : TypeId) {m n : Nat} {l : List Value} (hl : l.length = n * m) (h1 : Ones l) (hO : O w.heap.size) (hn : n ≤ maxLen) :
    SlV (w.alloc (.cells l.toArray T)) O m (.slice (some ⟨w.heap.size, 0, none⟩) n n) n l :=
  ⟨hl, h1, _, n, rfl, Nat.le_refl _, by unfold maxLen at hn; exact hn, (fun h => by cases h), fun _ => ⟨_, 0, rfl, by simp, hO, RowV.of_vblk (VBlk.mk w l T)⟩⟩
theorem OwnV.empty (w : World) (e : TypeId) (m : Nat) : OwnV e m (w.alloc (.cells #[] e)) (fun g => g = w.heap.size) (.slice (some ⟨w.heap.size, 0, none⟩) 0 0) 0 [] :=
  ⟨⟨by simp, .inr ⟨w.heap.size, 0, #[], rfl, Nat.zero_le _, heap_alloc_new _ _, by omega, by unfold maxLen; omega, by simp, by simp⟩⟩, fun _ h => (List.not_mem_nil h).elim, fun g h => by cases h; rfl⟩

theorem belowN {B : Nat} {w w' : World} (h : Below B w w') (n : Nat) : Below B w (w'.drewN n) := ((Keep.of_below h).drewN n).below

theorem str_eq {a b : ByteArray} (h : a.toList = b.toList) : a = b := by
  rw [ByteArray.toList_eq, ByteArray.toList_eq] at h
  exact WideShapes.bytes_inj h
theorem str_ne {a b : ByteArray} (h : a ≠ b) : ¬ a.toList = b.toList := fun e => h (str_eq e)

/-- Two results: a whole block and a slot. -/
theorem results_cell_tmp {P : Program} {fn : Func} {p q : Tmp} {ty : TypeId} (h : fn.results = #[.cell p ty, .tmp q]) (tmps : Array Value) (w : World) (g : Nat) (t : TypeId) (cs : Array Value) (fr : Nat × Nat) (d : TypeDesc) (x : Value)
    (hp : tmps.getD p undef = .pointer (some ⟨g, 0, none⟩)) (hg : w.heap[g]? = some (.cells cs t fr))
    (hu : P.underlying ty = some d) (hd : (match d with | .struct _ | .array _ _ => true | _ => false) = true) (hi : (P.info? ty).map (·.size) = some cs.size) (hx : tmps.getD q undef = x) :
    (results fn tmps).run P w = .ok (.tuple #[.agg cs, x]) w := by
  have hp' : tmps[p]?.getD undef = .pointer (some ⟨g, 0, none⟩) := by simpa using hp
  have hx' : tmps[q]?.getD undef = x := by simpa using hx
  simp [results, h, hp', hx', asAddr, run_loadVar_row w g t ty cs fr d hg hu hd hi]

end Go.Proofs.YtlamdhekjlnccaaGreatDoor

/- Slices of the call's own that grow: append of whatever reads as a list. -/
namespace Go.Proofs.YtlamdhekjlnccaaGreatDoor
open Go.RowKit

/-- The slice v is the call's own, from block base on, and holds the integers l. -/
def Buf (k : IntKind) (e : TypeId) (w : World) (base : Nat) (v : Value) (l : List Int) : Prop := w.ownsRow base e 1 v l.length (l.map (Value.int k))

theorem Buf.nil (k : IntKind) (e : TypeId) (w : World) (base : Nat) : Buf k e w base (.slice none 0 0) [] := World.ownsRow_nil _ _ _ _

theorem Buf.block {k : IntKind} {e : TypeId} {w : World} {base : Nat} {v : Value} {l : List Int} (h : Buf k e w base v l) :
    (v = .slice none 0 0 ∧ l = []) ∨ ∃ g cap rest, v = .slice (some ⟨g, 0, none⟩) l.length cap ∧ base ≤ g ∧ l.length ≤ cap ∧ cap ≤ maxLen ∧ VBlk e w g (l.map (Value.int k) ++ rest) ∧ (l.map (Value.int k) ++ rest).length = cap := by
  obtain ⟨h1, h2⟩ := h
  rcases h2 with ⟨h2, h3⟩ | ⟨g, cap, cur, hv, hg, hh, r1, r2, r3, r4⟩
  · exact .inl ⟨h2, List.eq_nil_of_length_eq_zero h3⟩
  · refine .inr ⟨g, cap, cur.toList.drop l.length, hv, hg, r1, r2, ?_, ?_⟩
    · rw [Nat.mul_one] at r4
      rw [← r4, List.take_append_drop]
      simpa [VBlk] using hh
    · rw [Nat.mul_one] at r3
      simp; omega

theorem Buf.row {k : IntKind} {e : TypeId} {w : World} {base g cap : Nat} {l : List Int} (h : Buf k e w base (.slice (some ⟨g, 0, none⟩) l.length cap) l) : Row k w g 0 l := by
  intro j hj
  have := World.ownsRow.cellAt h j (by simpa using hj)
  rw [Nat.zero_add, this]; simp [nth, hj]

theorem Buf.sl {k : IntKind} {e : TypeId} {w : World} {base : Nat} {v : Value} {l : List Int} (h : Buf k e w base v l) : Sl k w v l := by
  rcases h.block with ⟨rfl, rfl⟩ | ⟨g, cap, rest, rfl, hg, h1, h2, hb, -⟩
  · exact Sl.nil k w
  · exact Sl.mk h1 (by unfold maxLen at h2; exact h2) hb.lt h.row

theorem Buf.alloc {k : IntKind} {e : TypeId} {w : World} {base : Nat} {v : Value} {l : List Int} (h : Buf k e w base v l) (o : Obj) : Buf k e (w.alloc o) base v l := World.ownsRow.alloc h o
theorem Buf.mono {k : IntKind} {e : TypeId} {w : World} {base base' : Nat} {v : Value} {l : List Int} (h : Buf k e w base v l) (hb : base' ≤ base) : Buf k e w base' v l := World.ownsRow.mono h hb
theorem Buf.keep {K : Nat → Prop} {k : IntKind} {e : TypeId} {w w' : World} {base : Nat} {v : Value} {l : List Int} (h : Buf k e w base v l) (hk : Keep K w w') (hK : ∀ g, base ≤ g → g < w.heap.size → v.ownBlock = some g → K g) : Buf k e w' base v l := by
  refine ⟨h.1, ?_⟩
  rcases h.2 with hn | ⟨g, cap, cur, rfl, hb, hgg, rest⟩
  · exact .inl hn
  · refine .inr ⟨g, cap, cur, rfl, hb, ?_, rest⟩
    rw [hk.block g (hK g hb (lt_of_block hgg) rfl)]
    exact hgg
theorem Buf.below {B : Nat} {k : IntKind} {e : TypeId} {w w' : World} {base : Nat} {v : Value} {l : List Int} (h : Buf k e w base v l) (hk : Below B w w') (hB : w.heap.size ≤ B) : Buf k e w' base v l :=
  h.keep (Keep.of_below hk) (fun _ _ hg _ => Nat.lt_of_lt_of_le hg hB)
theorem Buf.own {k : IntKind} {e : TypeId} {w : World} {base : Nat} {v : Value} {l : List Int} (h : Buf k e w base v l) : ∀ g, v.ownBlock = some g → base ≤ g ∧ g < w.heap.size := fun g hg => World.ownsRow.lt h g hg
/-- A block of the call's own that has just been laid. -/
theorem Buf.mk {k : IntKind} {e : TypeId} {w : World} {base : Nat} (l rest : List Int) (hb : base ≤ w.heap.size) (hm : l.length + rest.length ≤ maxLen) :
    Buf k e (w.alloc (.cells ((l ++ rest).map (Value.int k)).toArray e)) base (.slice (some ⟨w.heap.size, 0, none⟩) l.length (l.length + rest.length)) l := by
  refine ⟨by simp, .inr ⟨w.heap.size, l.length + rest.length, _, rfl, hb, heap_alloc_new _ _, by omega, hm, by simp, ?_⟩⟩
  simp
theorem Buf.empty {k : IntKind} {e : TypeId} {w : World} {base : Nat} (hb : base ≤ w.heap.size) : Buf k e (w.alloc (.cells #[] e)) base (.slice (some ⟨w.heap.size, 0, none⟩) 0 0) [] := Buf.mk [] [] hb (by unfold maxLen; simp)

/-- One new cell as a slice. -/
theorem Sl.one (k : IntKind) (w : World) (x : Int) (T : TypeId) : Sl k (w.alloc (.cells #[.int k x] T)) (.slice (some ⟨w.heap.size, 0, none⟩) 1 1) [x] :=
  Sl.mk (l := [x]) (Nat.le_refl _) (by decide) (by simp) (IBlk.row (T := T) (VBlk.mk w [.int k x] T))

/-- What append asks of the element type. -/
structure Elem (P : Program) (t e : TypeId) (bytes : Nat) : Prop where
  ht : P.underlying t = some (.slice e)
  ex : ∃ i z, P.info? e = some i ∧ i.zero = some z ∧ i.size = 1 ∧ i.bytes = bytes ∧ z.cells.size = 1
theorem Elem.mk' {P : Program} {t e : TypeId} {bytes : Nat} {k : IntKind} {x : Int} (ht : P.underlying t = some (.slice e)) (hi : (P.info? e).map (fun i => (i.zero, i.size, i.bytes)) = some (some (.int k x), 1, bytes)) : Elem P t e bytes :=
  ⟨ht, let ⟨i, h1, h2, h3, h4⟩ := info_parts hi; ⟨i, _, h1, h2, h3, h4, rfl⟩⟩

theorem keep_grown {w w' : World} {base : Nat} {v : Value} (hg : w.grownBy w' v.ownBlock) (ho : ∀ g, v.ownBlock = some g → base ≤ g) (hb : base ≤ w.heap.size) : Keep (fun b => b < base) w w' :=
  ⟨hg.os, hg.tape, hg.output, hg.size, fun k hk => hg.block k (Nat.lt_of_lt_of_le hk hb) (fun e => absurd (ho k e.symm) (Nat.not_le.2 hk))⟩

/-- append of whatever reads as a list onto a slice of the call's own. -/
theorem wpList_app {P : Program} {w : World} {ops : Array Oper} {rest : List Oper} {o : Oper} {a : Act} {Q : Exit → Act → World → Prop} (hgd : o.guard = none) (s x : Operand) (t : TypeId)
    (ho : o.op = .call { callee := .builtin .append, args := #[s, x], argTypes := #[t, t] }) {e : TypeId} {k : IntKind} {bytes : Nat} (E : Elem P t e bytes)
    (base : Nat) (v : Value) (l : List Int) (hs : a.eval s = v) (hown : Buf k e w base v l) (xv : Value) (l2 : List Int) (hx : a.eval x = xv) (hsl : Sl k w xv l2)
    (n : Nat) (hn : l.length + l2.length = n) (hb1 : n ≤ maxLen) (hb2 : n * bytes ≤ 140737488355328) (hbase : base ≤ w.heap.size)
    (h : ∀ sp c w', Buf k e w' base (.slice sp n c) (l ++ l2) → Keep (fun b => b < base) w w' → wpList P ops Q rest (a.put o.dst (.slice sp n c)) w') : wpList P ops Q (o :: rest) a w := by
  subst hn
  obtain ⟨i, z, hi, hz, hz1, hz2, hz3⟩ := E.ex
  obtain ⟨sp, cap, rfl, hc1, hc2, hrow, hnil⟩ := hsl
  have go : ∀ v' w', w'.ownsRow base e 1 v' (l.length + l2.length) (l.map (Value.int k) ++ l2.map (Value.int k)) → w.grownBy w' v.ownBlock → wpList P ops Q rest (a.put o.dst v') w' := by
    intro v' w' h1 h2
    have h1' : Buf k e w' base v' (l ++ l2) := by
      unfold Buf; rw [List.map_append, List.length_append]; exact h1
    have hk := keep_grown h2 (fun g hg => (hown.own g hg).1) hbase
    rcases h1'.block with ⟨e1, e2⟩ | ⟨g, c, r, e1, -⟩
    · subst e1
      have e3 : l.length + l2.length = 0 := by rw [← List.length_append, e2]; rfl
      rw [e3] at h
      exact h none 0 w' h1' hk
    · subst e1
      rw [List.length_append] at h1' ⊢
      exact h _ c w' h1' hk
  by_cases h0 : sp = none
  · subst h0
    have hc0 := hnil rfl
    subst hc0
    have hl2 : l2 = [] := List.eq_nil_of_length_eq_zero (by omega)
    subst hl2
    refine wpList_append_own_none hgd s x t ho base e i 1 E.ht hi v l.length _ hs hown hx (go v w ?_ (World.grownBy.refl _ _))
    unfold Buf at hown; simpa using hown
  · obtain ⟨ad, had⟩ := Option.ne_none_iff_exists'.1 h0
    refine wpList_append_own w hgd s x t ho base e i z 1 bytes E.ht hi hz hz1 hz2 hz3 (by decide) v l.length _ hs hown ad l2.length cap (l2.map (Value.int k)) (by rw [hx, had]) (by simp) ?_ ?_ hb1 hb2 hbase (fun v' w' h1 h2 _ => go v' w' h1 h2)
    · intro j u hu
      have hj : j < l2.length := by
        rcases Nat.lt_or_ge j l2.length with h | h
        · exact h
        · simp [h] at hu
      obtain ⟨b, o, e1, hlt, hr⟩ := hrow (by omega)
      rw [e1] at had
      cases had
      rw [addr_add, hr j hj]
      simpa [nth, hj] using hu
    · intro u hu
      obtain ⟨_, _, rfl⟩ := List.mem_map.1 hu
      rfl

theorem three_alloc (w : World) (A B C : Obj) :
    (((w.alloc A).alloc B).alloc C).heap[w.heap.size]? = some A ∧ (((w.alloc A).alloc B).alloc C).heap[w.heap.size + 1]? = some B ∧ (((w.alloc A).alloc B).alloc C).heap[w.heap.size + 1 + 1]? = some C ∧
      Below w.heap.size w (((w.alloc A).alloc B).alloc C) ∧ (((w.alloc A).alloc B).alloc C).heap.size = w.heap.size + 3 := by
  have hs : ((w.alloc A).alloc B).heap.size = w.heap.size + 1 + 1 := by simp
  have hs1 : (w.alloc A).heap.size = w.heap.size + 1 := by simp
  refine ⟨?_, ?_, ?_, ?_, ?_⟩
  · rw [Below.heap_alloc _ _ _ (by rw [hs]; omega), heap_alloc2_old]
  · rw [Below.heap_alloc _ _ _ (by rw [hs]; omega), heap_alloc2_new]
  · rw [← hs, heap_alloc_new]
  · exact (((Below.refl _ w).alloc (Nat.le_refl _) A).alloc (by rw [hs1]; omega) B).alloc (by rw [hs]; omega) C
  · simp

end Go.Proofs.YtlamdhekjlnccaaGreatDoor

/- A region that draws its order, whose operations read old memory only and whose callees leave old memory as it was: one walk, in the order of the text. -/
namespace Go.Proofs.YtlamdhekjlnccaaGreatDoor
open Go.RowKit BigFrame

theorem wp_region_quietB {P : Program} {id : Nat} {Q : Exit → Act → World → Prop} {a : Act} {w : World} {l : List Oper} (hm : P.follows .mixedOrders = true) (hB : Region.lexB .any l.toArray = true)
    (h : wpQuiet P l.toArray (fun w' => Below w.heap.size w w') (fun a' => ∀ w', Below w.heap.size w w' → Q .normal a' w') l a) : (Code.region id l.toArray true).wp P Q a w :=
  wp_region_quiet (C := fun w' => Below w.heap.size w w') hm hB ((Below.refl _ w).drew) (by simpa using h)

/-- A whole array out of an old block. -/
theorem quiet_loadB {P : Program} {o : Oper} {a : Act} {w : World} {K : Act → Prop} (ty : TypeId) (x : Operand) (ho : o.op = .load ty x)
    (g : Nat) (hx : a.eval x = .pointer (some ⟨g, 0, none⟩)) (t : TypeId) (cs : Array Value) (fr : Nat × Nat) (d : TypeDesc) (hg : w.heap[g]? = some (.cells cs t fr))
    (hu : P.underlying ty = some d) (hd : (match d with | .struct _ | .array _ _ => true | _ => false) = true) (hi : (P.info? ty).map (·.size) = some cs.size)
    (hk : K (a.put o.dst (.agg cs))) : o.quiet P a (fun w' => Below w.heap.size w w') K := by
  refine ⟨_, fun w' hw' => ?_, hk⟩
  have hg' : w'.heap[g]? = some (.cells cs t fr) := (hw'.block g (lt_of_block hg)).trans hg
  unfold Oper.quietAt execOp
  simp only [ho, hx, Instr.loadAt, Instr.sureAddr, Sem.run_bind, Sem.run_pure, Result.andThen_ok, run_loadVar_row w' g t ty cs fr d hg' hu hd hi]
  exact ⟨rfl, rfl⟩

/-- A callee that leaves old memory as it was. -/
theorem callB {P : Program} {f : FuncId} {args : Array Value} {w w' : World} {v : Value} (hw : Below w.heap.size w w')
    (h : Calls P f args w' fun e w'' => e = .returned v ∧ Below w'.heap.size w' w'') : Calls P f args w' fun e w'' => e = .returned v ∧ Below w.heap.size w w'' :=
  h.mono fun _ _ ⟨he, hb⟩ => ⟨he, hw.trans (hb.mono hw.size)⟩
theorem callD {P : Program} {f : FuncId} {args : Array Value} {w w' : World} {v : Value} (hw : Below w.heap.size w w')
    (h : Calls P f args w' fun e w'' => e = .returned v ∧ Drawn w' w'') : Calls P f args w' fun e w'' => e = .returned v ∧ Below w.heap.size w w'' :=
  h.mono fun _ _ ⟨he, n, hb⟩ => ⟨he, by subst hb; exact ((Keep.of_below hw).drewN n).below⟩

end Go.Proofs.YtlamdhekjlnccaaGreatDoor

/- Loads of many cells at once, under a guard; of a place inside a row. -/
namespace Go.Proofs.YtlamdhekjlnccaaGreatDoor
open Go.RowKit
namespace Ld

theorem exec_blk {P : Program} {o : Oper} {a : Act} {w : World} (ty : TypeId) (x : Operand) (ho : o.op = .load ty x)
    (b i : Nat) (hx : a.eval x = .pointer (some ⟨b, i, none⟩)) (cs : List Value) (d : TypeDesc) (hc : w.rangeAt b i cs)
    (hu : P.underlying ty = some d) (hd : d.isRow = true) (hi : (P.info? ty).map (·.size) = some cs.length) : (execOp a.eval o).run P w = .ok (.value (.agg cs.toArray)) w := by
  unfold execOp
  simp only [ho, hx, Instr.loadAt, Instr.sureAddr, Sem.run_bind, Sem.run_pure, Result.andThen_ok, run_loadVar_mid w b i ty cs d hc hu hd hi]

/-- Many cells at once, if a test asks for it, as it does. -/
theorem load_on {P : Program} {ops : Array Oper} {rest : List Oper} {o : Oper} {a : Act} {w : World} {Q : Exit → Act → World → Prop} (hw : Region.wanted o (yielded ops a.tmps) = true) (ty : TypeId) (x : Operand) (ho : o.op = .load ty x)
    (g : Nat) (hx : a.eval x = .pointer (some ⟨g, 0, none⟩)) (t : TypeId) (cs : Array Value) (fr : Nat × Nat) (d : TypeDesc) (hg : w.heap[g]? = some (.cells cs t fr))
    (hu : P.underlying ty = some d) (hd : (match d with | .struct _ | .array _ _ => true | _ => false) = true) (hi : (P.info? ty).map (·.size) = some cs.size)
    (h : wpList P ops Q rest (a.put o.dst (.agg cs)) w) : wpList P ops Q (o :: rest) a w :=
  wpList_step fun _ hK => by rw [if_pos hw]; exact wp_load_row ty x ho g hx t cs fr d hg hu hd hi (hK _ _ h)
end Ld
end Go.Proofs.YtlamdhekjlnccaaGreatDoor

/- Walks over those slots alone that are asked for again: the slots as a list, each pure operation reckoned by the kernel. -/
namespace Go.Proofs.YtlamdhekjlnccaaGreatDoor
open Go.RowKit
namespace K

abbrev Env := List (Nat × Value)
def look : Env → Nat → Option Value
  | [], _ => none
  | (j, v) :: r, k => bif Nat.beq j k then some v else look r k
def evl (l : Env) : Operand → Option Value
  | .tmp t => look l t
  | .const v => some v
  | .global g => some (.pointer (some ⟨g, 0, none⟩))
  | .func f => some (.func (.func f) #[] #[])

/-- What the slots hold, as far as it is said. -/
structure Fr (n : Nat) (a : Act) (l : Env) : Prop where
  size : a.tmps.size = n
  defers : a.defers = []
  slot : ∀ k v, look l k = some v → a.tmps[k]? = some v
theorem Fr.eval {n : Nat} {a : Act} {l : Env} (h : Fr n a l) {x : Operand} {v : Value} (hx : evl l x = some v) : a.eval x = v := by
  cases x with
  | tmp t => have := h.slot t v hx; show a.tmps.getD t undef = v; rw [Array.getD_eq_getD_getElem?, this]; rfl
  | const u => exact Option.some.inj hx
  | global g => exact Option.some.inj hx
  | func f => exact Option.some.inj hx
theorem Fr.put {n : Nat} {a : Act} {l : Env} (h : Fr n a l) {d : Nat} (hd : Nat.blt d n = true) (v : Value) : Fr n (a.put (some d) v) ((d, v) :: l) := by
  have hd' : d < n := by rw [Nat.blt_eq] at hd; exact hd
  refine ⟨by show (a.tmps.setIfInBounds d v).size = n; rw [Array.size_setIfInBounds]; exact h.size, h.defers, fun k u hk => ?_⟩
  show (a.tmps.setIfInBounds d v)[k]? = some u
  have hs := h.size
  unfold look at hk
  cases hb : Nat.beq d k with
  | true =>
    rw [hb] at hk
    obtain rfl : d = k := Nat.eq_of_beq_eq_true hb
    obtain rfl : v = u := Option.some.inj hk
    simp [hs, hd']
  | false =>
    rw [hb] at hk
    have hne : d ≠ k := Nat.ne_of_beq_eq_false hb
    rw [Array.getElem?_setIfInBounds_ne hne]
    exact h.slot k u hk
theorem Fr.none {n : Nat} {a : Act} {l : Env} (h : Fr n a l) (v : Value) : Fr n (a.put none v) l := h
/-- The same slots, or fewer of them. -/
def Sub (l : Env) : Env → Prop
  | [] => True
  | (k, v) :: r => look l k = some v ∧ Sub l r
theorem Sub.look {l : Env} : ∀ {m : Env} {k : Nat} {v : Value}, Sub l m → look m k = some v → K.look l k = some v
  | [], _, _, _, h => by cases h
  | (j, u) :: r, k, v, h, hk => by
    unfold K.look at hk
    cases hb : Nat.beq j k with
    | true =>
      rw [hb] at hk
      obtain rfl : j = k := Nat.eq_of_beq_eq_true hb
      obtain rfl : u = v := Option.some.inj hk
      exact h.1
    | false => rw [hb] at hk; exact Sub.look h.2 hk
theorem Fr.sub {n : Nat} {a : Act} {l m : Env} (h : Fr n a l) (hs : Sub l m) : Fr n a m := ⟨h.size, h.defers, fun k v hk => h.slot k v (hs.look hk)⟩
def argsEnv : Nat → List Value → Env
  | _, [] => []
  | i, v :: r => (i, v) :: argsEnv (i + 1) r
theorem look_args : ∀ (l : List Value) (i k : Nat) (v : Value), look (argsEnv i l) k = some v → i ≤ k ∧ l[k - i]? = some v
  | [], _, _, _, h => by cases h
  | u :: r, i, k, v, h => by
    unfold argsEnv look at h
    cases hb : Nat.beq i k with
    | true =>
      rw [hb] at h
      obtain rfl : i = k := Nat.eq_of_beq_eq_true hb
      exact ⟨Nat.le_refl _, by simpa using h⟩
    | false =>
      rw [hb] at h
      have hne : i ≠ k := Nat.ne_of_beq_eq_false hb
      obtain ⟨h1, h2⟩ := look_args r (i + 1) k v h
      refine ⟨by omega, ?_⟩
      have : k - i = (k - (i + 1)) + 1 := by omega
      rw [this]
      simpa using h2

section
variable {n : Nat} {Q : Exit → Act → World → Prop} {l : Env} {w : World}

structure WC (n : Nat) (c : Code) (Q : Exit → Act → World → Prop) (l : Env) (w : World) : Prop where
  go : ∀ a, Fr n a l → c.wp Tryz.prog Q a w
structure WL (n : Nat) (ops : Array Oper) (Q : Exit → Act → World → Prop) (rest : List Oper) (l : Env) (w : World) : Prop where
  go : ∀ a, Fr n a l → wpList Tryz.prog ops Q rest a w
structure WQ (n : Nat) (Q : Exit → Act → World → Prop) (e : Exit) (l : Env) (w : World) : Prop where
  go : ∀ a, Fr n a l → Q e a w

theorem enter {f : FuncId} {fn : Func} {c : Code} {args : List Value} {R : Ending → World → Prop} (hf : Tryz.prog.funcs[f]? = some fn) (hb : fn.body = some c) (hn : fn.ntmps = n) (hs : Nat.ble args.length n = true)
    (h : WC n c (bodyPost Tryz.prog fn R) (argsEnv 0 args) w) : Calls Tryz.prog f args.toArray w R := by
  refine calls_of_wp hf hb (h.go _ ?_)
  subst hn
  have hs' : args.length ≤ fn.ntmps := Nat.le_of_ble_eq_true hs
  refine ⟨by simp; omega, rfl, fun k v hk => ?_⟩
  obtain ⟨-, h2⟩ := look_args _ _ _ _ hk
  rw [Nat.sub_zero] at h2
  have hlt : k < args.length := by
    rcases Nat.lt_or_ge k args.length with h | h
    · exact h
    · rw [List.getElem?_eq_none h] at h2; cases h2
  rw [Array.getElem?_append_left (by simpa using hlt)]
  simpa using h2

theorem WC.seq {x y : Code} (h : WC n x (Exit.then (y.wp Tryz.prog Q) Q) l w) : WC n (.seq x y) Q l w := ⟨fun a ha => wp_seq (h.go a ha)⟩
theorem WC.block {id : Nat} {c : Code} (h : WC n c (Exit.inBlock id Q) l w) : WC n (.block id c) Q l w := ⟨fun a ha => wp_block (h.go a ha)⟩
theorem WC.skip (h : WQ n Q .normal l w) : WC n .skip Q l w := ⟨fun a ha => wp_skip (h.go a ha)⟩
theorem WC.exit {id : Nat} (h : WQ n Q (.exit id) l w) : WC n (.exit id) Q l w := ⟨fun a ha => wp_exit (h.go a ha)⟩
theorem WC.ret (h : WQ n Q .ret l w) : WC n .ret Q l w := ⟨fun a ha => wp_ret (h.go a ha)⟩
theorem WC.region {id : Nat} {ops : List Oper} (h : WL n ops.toArray Q ops l w) : WC n (.region id ops.toArray false) Q l w := ⟨fun a ha => wp_region_lit (h.go a ha)⟩
theorem WC.condB {c : Operand} {x y : Code} {b : Bool} (hc : evl l c = some (.bool b)) (h1 : b = true → WC n x Q l w) (h2 : b = false → WC n y Q l w) : WC n (.cond c x y) Q l w :=
  ⟨fun a ha => wp_cond_split (ha.eval hc) (fun e => (h1 e).go a ha) (fun e => (h2 e).go a ha)⟩
theorem WC.condTrue {c : Operand} {x y : Code} (hc : evl l c = some (.bool true)) (h : WC n x Q l w) : WC n (.cond c x y) Q l w := WC.condB hc (fun _ => h) (fun e => by cases e)
theorem WC.condFalse {c : Operand} {x y : Code} (hc : evl l c = some (.bool false)) (h : WC n y Q l w) : WC n (.cond c x y) Q l w := WC.condB hc (fun e => by cases e) (fun _ => h)
theorem WC.condT {c : Operand} {x y : Code} {p : Prop} [Decidable p] (hc : evl l c = some (.bool (decide p))) (hp : p) (h : WC n x Q l w) : WC n (.cond c x y) Q l w := WC.condTrue (by rw [hc, decide_eq_true hp]) h
theorem WC.condF {c : Operand} {x y : Code} {p : Prop} [Decidable p] (hc : evl l c = some (.bool (decide p))) (hp : ¬ p) (h : WC n y Q l w) : WC n (.cond c x y) Q l w := WC.condFalse (by rw [hc, decide_eq_false hp]) h
theorem WC.condS {c : Operand} {x y : Code} {p : Prop} [Decidable p] (hc : evl l c = some (.bool (decide p))) (h1 : p → WC n x Q l w) (h2 : ¬ p → WC n y Q l w) : WC n (.cond c x y) Q l w :=
  WC.condB hc (fun e => h1 (of_decide_eq_true e)) (fun e => h2 (of_decide_eq_false e))
theorem WC.sub {c : Code} {m : Env} (hs : Sub l m) (h : WC n c Q m w) : WC n c Q l w := ⟨fun a ha => h.go a (ha.sub hs)⟩
theorem WL.sub {ops : Array Oper} {rest : List Oper} {m : Env} (hs : Sub l m) (h : WL n ops Q rest m w) : WL n ops Q rest l w := ⟨fun a ha => h.go a (ha.sub hs)⟩
/-- A slot's value in other words. -/
theorem WC.as {c : Code} (k : Nat) (v' : Value) {v : Value} (hk : look l k = some v) (e : v = v') (h : WC n c Q ((k, v') :: l) w) : WC n c Q l w :=
  ⟨fun a ha => h.go a ⟨ha.size, ha.defers, fun j u hj => by
    unfold look at hj
    cases hb : Nat.beq k j with
    | true =>
      rw [hb] at hj
      obtain rfl : k = j := Nat.eq_of_beq_eq_true hb
      obtain rfl : v' = u := Option.some.inj hj
      subst e
      exact ha.slot _ _ hk
    | false => rw [hb] at hj; exact ha.slot _ _ hj⟩⟩
/-- The round's end: a round of a lower rank begins. -/
def Again (n : Nat) {ι : Type} (L : ι → Env) (W : ι → World → Prop) (μ : ι → Nat) (i : ι) (a : Act) (w : World) : Prop := ∃ j, Fr n a (L j) ∧ W j w ∧ μ j < μ i
/-- Where ways meet. -/
def Meet (n : Nat) {ι : Type} (L : ι → Env) (W : ι → World → Prop) (a : Act) (w : World) : Prop := ∃ i, Fr n a (L i) ∧ W i w
/-- A loop: its rounds begin at L i, i of what rank soever. -/
theorem WC.loop {ι : Type} {c : Code} (L : ι → Env) (W : ι → World → Prop) (μ : ι → Nat) (i : ι) (hs : Sub l (L i)) (hw : W i w)
    (round : ∀ i w, W i w → WC n c (Exit.then (Again n L W μ i) Q) (L i) w) : WC n (.loop c) Q l w := by
  refine ⟨fun a ha => ?_⟩
  intro b k cs
  have key : ∀ m (i : ι), μ i = m → ∀ a w, Fr n a (L i) → W i w →
      ∃ e a' w', Q e a' w' ∧ Arrives Tryz.prog (lone (b.at a (.code c :: .inLoop c :: k)) cs w) b k cs e a' w' := by
    intro m
    induction m using Nat.strongRecOn with
    | _ m ih =>
      intro i hm a w ha hw
      obtain ⟨e, a₁, w₁, hq, harr⟩ := (round i w hw).go a ha b (.inLoop c :: k) cs
      cases e with
      | normal =>
        obtain ⟨j, hf, hw1, hlt⟩ := hq
        obtain ⟨e₂, a₂, w₂, hq₂, harr₂⟩ := ih (μ j) (hm ▸ hlt) j rfl a₁ w₁ hf hw1
        exact ⟨e₂, a₂, w₂, hq₂, .of_steps (Steps.trans harr (.one step_inLoop)) harr₂⟩
      | exit id => exact ⟨_, a₁, w₁, hq, .pass (x := .inLoop c) rfl (fun _ _ => .inl (by simp)) harr⟩
      | goto l => exact ⟨_, a₁, w₁, hq, .pass (x := .inLoop c) rfl (fun _ _ => .inl (by simp)) harr⟩
      | ret => exact ⟨_, a₁, w₁, hq, .pass (x := .inLoop c) rfl (fun _ _ => .inl (by simp)) harr⟩
      | panic ch => exact ⟨_, a₁, w₁, hq, .pass (x := .inLoop c) rfl (fun _ _ => .inl (by simp)) harr⟩
      | outgrown => exact ⟨_, a₁, w₁, hq, .pass (x := .inLoop c) rfl (fun _ _ => .inl (by simp)) harr⟩
  obtain ⟨e, a', w', hq, harr⟩ := key _ i rfl a w (ha.sub hs) hw
  exact ⟨e, a', w', hq, .of_steps (.one step_loop) harr⟩

end
end K
end Go.Proofs.YtlamdhekjlnccaaGreatDoor

/- Walks over the slots that are asked for: pure operations, reckoned out of the list of slots. -/
namespace Go.Proofs.YtlamdhekjlnccaaGreatDoor
open Go.RowKit
namespace K

inductive TyD where
  | int (k : IntKind) | str | bool | ptr (e : Nat) | slice (e s : Nat) | struct (n : Nat) (fs : List (Nat × Nat × Nat)) | arr (n e s : Nat)
def TyD.ok (P : Program) (t : Nat) : TyD → Prop
  | .int k => P.underlying t = some (.int k)
  | .str => P.underlying t = some .string
  | .bool => P.underlying t = some .bool
  | .ptr e => P.underlying t = some (.pointer e)
  | .slice e s => P.underlying t = some (.slice e) ∧ (P.info? e).map (·.size) = some s
  | .arr n e s => P.underlying t = some (.array n e) ∧ (P.info? e).map (·.size) = some s ∧ (P.info? t).map (·.size) = some (n * s)
  | .struct n fs => (∃ us, P.underlying t = some (.struct us)) ∧ (P.info? t).map (·.size) = some n ∧
      (match P.underlying t with | some (.struct us) => (us.toList.map fun f => (f.type, f.offset, ((P.info? f.type).map (·.size)).getD 0)) == fs | _ => false) = true
def TyOk (P : Program) : List (Nat × TyD) → Prop
  | [] => True
  | (t, d) :: r => d.ok P t ∧ TyOk P r
def tyOf : List (Nat × TyD) → Nat → Option TyD
  | [], _ => none
  | (t, d) :: r, k => bif Nat.beq t k then some d else tyOf r k
theorem TyOk.of {P : Program} : ∀ {T : List (Nat × TyD)} {t : Nat} {d : TyD}, TyOk P T → tyOf T t = some d → d.ok P t
  | [], _, _, _, h => by cases h
  | (j, u) :: r, t, d, h, hk => by
    unfold tyOf at hk
    cases hb : Nat.beq j t with
    | true =>
      rw [hb] at hk
      obtain rfl : j = t := Nat.eq_of_beq_eq_true hb
      obtain rfl : u = d := Option.some.inj hk
      exact h.1
    | false => rw [hb] at hk; exact TyOk.of h.2 hk

/-- Of how many cells is a type that does not lie in one? -/
def cellsN : Option TyD → Option Nat
  | some (.struct m _) => some m
  | some (.arr n _ s) => some (n * s)
  | _ => none
theorem cellsN_ok {P : Program} {T : List (Nat × TyD)} (hT : TyOk P T) {t m : Nat} (h : cellsN (tyOf T t) = some m) :
    ∃ d, P.underlying t = some d ∧ (match d with | .struct _ | .array _ _ => true | _ => false) = true ∧ (P.info? t).map (·.size) = some m := by
  unfold cellsN at h
  split at h
  · rename_i m' fs he
    obtain rfl := Option.some.inj h
    obtain ⟨⟨us, hu⟩, hsz, -⟩ := TyOk.of hT he
    exact ⟨_, hu, rfl, hsz⟩
  · rename_i n e s he
    obtain rfl := Option.some.inj h
    obtain ⟨hu, -, hsz⟩ := TyOk.of hT he
    exact ⟨_, hu, rfl, hsz⟩
  · cases h

def quoI (k : IntKind) (a b : Int) : Option Value :=
  match b with
  | .ofNat (_ + 1) => some (.int k (k.wrap (a.tdiv b)))
  | _ => none
def remI (k : IntKind) (a b : Int) : Option Value :=
  match b with
  | .ofNat (_ + 1) => some (.int k (a.tmod b))
  | _ => none
def shlI (k : IntKind) (a : Int) : Int → Option Value
  | .ofNat m => some (.int k (k.wrap (a * ((2 ^ min m k.bits : Nat) : Int))))
  | _ => none
def shrI (k : IntKind) (a : Int) : Int → Option Value
  | .ofNat m => some (.int k (a / ((2 ^ min m k.bits : Nat) : Int)))
  | _ => none
/-- Two integers. -/
def binI (k : IntKind) (a b : Int) : BinOp → Option Value
  | .add => some (.int k (k.wrap (a + b)))
  | .sub => some (.int k (k.wrap (a - b)))
  | .mul => some (.int k (k.wrap (a * b)))
  | .eql => some (.bool (decide (a = b)))
  | .neq => some (.bool (decide (a ≠ b)))
  | .lss => some (.bool (decide (a < b)))
  | .leq => some (.bool (decide (a ≤ b)))
  | .gtr => some (.bool (decide (b < a)))
  | .geq => some (.bool (decide (b ≤ a)))
  | .and => some (.int k (bits .and k a b))
  | .or => some (.int k (bits .or k a b))
  | .xor => some (.int k (bits .xor k a b))
  | .quo => quoI k a b
  | .rem => remI k a b
  | _ => none
def shI (k : IntKind) (a b : Int) : BinOp → Option Value
  | .shl => shlI k a b
  | .shr => shrI k a b
  | _ => none
/-- Two texts. -/
def binS (a b : ByteArray) : BinOp → Option Value
  | .eql => some (.bool (a.toList == b.toList))
  | .neq => some (.bool (!(a.toList == b.toList)))
  | .lss => some (.bool (Op.bytesLess a.toList b.toList))
  | .leq => some (.bool (Op.bytesLess a.toList b.toList || a.toList == b.toList))
  | .gtr => some (.bool !(Op.bytesLess a.toList b.toList || a.toList == b.toList))
  | .geq => some (.bool !(Op.bytesLess a.toList b.toList))
  | _ => none
def isSh : BinOp → Bool
  | .shl | .shr => true
  | _ => false
def evlAll (l : Env) : List Operand → Option (List Value)
  | [] => some []
  | x :: r => match evl l x, evlAll l r with
    | some v, some vs => some (v :: vs)
    | _, _ => none
def pvPick (l : Env) (a b : Operand) : Option Value → Option Value
  | some (.bool true) => evl l a
  | some (.bool false) => evl l b
  | _ => none
def pvBool (a b : Bool) : Option TyD → BinOp → Option Value
  | some .bool, .eql => some (.bool (a == b))
  | some .bool, .neq => some (.bool (!(a == b)))
  | _, _ => none
def pvBin (op : BinOp) (ty : Option TyD) : Option Value → Option Value → Option Value
  | some (.int k a), some (.int k' b) => bif isSh op then shI k a b op else if k = k' then binI k a b op else none
  | some (.string a), some (.string b) => binS a b op
  | some (.bool a), some (.bool b) => pvBool a b ty op
  | _, _ => none
def pvUn : UnOp → Option Value → Option Value
  | .neg, some (.int k a) => some (.int k (k.wrap (0 - a)))
  | .not, some (.bool b) => some (.bool (!b))
  | .xor, some (.int k a) => some (.int k (bits .xor k (if k.signed then -1 else k.max) a))
  | _, _ => none
def pvConv : Option TyD → Option TyD → Option Value → Option Value
  | some (.int _), some (.int k), some (.int _ a) => some (.int k (k.wrap a))
  | some .str, some .str, some (.string s) => some (.string s)
  | _, _, _ => none
def pvExt (i : Nat) : Option Value → Option Value
  | some (.tuple vs) => vs[i]?
  | _ => none
def pvNil : Option Value → Option Value
  | some (.pointer (some p)) => some (.pointer (some p))
  | _ => none
def pvOff (b o : Nat) : Option (Nat × Nat × Nat) → Option Value
  | some (_, off, _ + 1) => some (.pointer (some ⟨b, o + off, none⟩))
  | _ => none
def pvField (i : Nat) : Option TyD → Option Value → Option Value
  | some (.struct _ fs), some (.pointer (some ⟨b, o, none⟩)) => pvOff b o fs[i]?
  | _, _ => none
def pvLen : Option TyD → Option Value → Option Value
  | some (.slice _ _), some (.slice _ n _) => some (.int .i64 n)
  | some .str, some (.string s) => some (.int .i64 s.size)
  | _, _ => none
def pvMin (less : Bool) : Option Value → Option Value → Option Value
  | some (.int k a), some (.int _ b) => some (.int k (bif less then (if b < a then b else a) else (if b > a then b else a)))
  | _, _ => none
def pvCall (T : List (Nat × TyD)) (l : Env) (c : Call) : Option Value :=
  match c.callee, c.args.toList, c.argTypes.toList with
  | .builtin .len, [x], [t] => pvLen (tyOf T t) (evl l x)
  | .builtin .min, [x, y], _ => pvMin true (evl l x) (evl l y)
  | .builtin .max, [x, y], _ => pvMin false (evl l x) (evl l y)
  | _, _, _ => none
/-- What a pure operation yields. -/
def pv (T : List (Nat × TyD)) (l : Env) : Op → Option Value
  | .move x => evl l x
  | .assign x => evl l x
  | .pick c a b => pvPick l a b (evl l c)
  | .binOp op t x y _ => pvBin op (tyOf T t) (evl l x) (evl l y)
  | .unOp op _ x => pvUn op (evl l x)
  | .convert s d x => pvConv (tyOf T s) (tyOf T d) (evl l x)
  | .extract t i => pvExt i (evl l t)
  | .nilCheck x => pvNil (evl l x)
  | .fieldAddr t x i => pvField i (tyOf T t) (evl l x)
  | .call c => pvCall T l c
  | _ => none

theorem binI_run {P : Program} {k : IntKind} {a b : Int} {op : BinOp} {v : Value} (h : binI k a b op = some v) (t : TypeId) (w : World) : (binOp op t (.int k a) (.int k b)).run P w = .ok v w := by
  cases op
  case quo =>
    simp only [binI] at h
    unfold quoI at h
    split at h
    · rename_i m
      obtain rfl := Option.some.inj h
      simp only [binOp_quo, Op.intDiv]
      rw [if_neg (by show ¬ ((m + 1 : Nat) : Int) = 0; omega)]
      rfl
    · cases h
  case rem =>
    simp only [binI] at h
    unfold remI at h
    split at h
    · rename_i m
      obtain rfl := Option.some.inj h
      simp only [binOp_rem, Op.intDiv]
      rw [if_neg (by show ¬ ((m + 1 : Nat) : Int) = 0; omega)]
      rfl
    · cases h
  case eql => simp only [binI, Option.some.injEq] at h; subst h; rw [binOp_eql]; exact congrArg (fun b => Result.ok (Value.bool b) w) (by by_cases e : a = b <;> simp [e])
  case neq => simp only [binI, Option.some.injEq] at h; subst h; rw [binOp_neq]; exact congrArg (fun b => Result.ok (Value.bool b) w) (by by_cases e : a = b <;> simp [e])
  all_goals simp only [binI, Option.some.injEq, reduceCtorEq] at h
  all_goals (subst h; simp [go_sem])
theorem shI_run {P : Program} {k k' : IntKind} {a b : Int} {op : BinOp} {v : Value} (h : shI k a b op = some v) (t : TypeId) (w : World) : (binOp op t (.int k a) (.int k' b)).run P w = .ok v w := by
  cases op
  case shl =>
    simp only [shI] at h
    unfold shlI at h
    split at h
    · rename_i m
      obtain rfl := Option.some.inj h
      have h0 : (0 : Int) ≤ Int.ofNat m := Int.natCast_nonneg m
      simp only [binOp_shl, shift_shl_any _ _ _ _ h0]
      simp
    · cases h
  case shr =>
    simp only [shI] at h
    unfold shrI at h
    split at h
    · rename_i m
      obtain rfl := Option.some.inj h
      have h0 : (0 : Int) ≤ Int.ofNat m := Int.natCast_nonneg m
      simp only [binOp_shr, shift_shr_any _ _ _ _ h0]
      simp
    · cases h
  all_goals cases h
theorem binS_run {P : Program} {a b : ByteArray} {op : BinOp} {v : Value} (h : binS a b op = some v) (t : TypeId) (w : World) : (binOp op t (.string a) (.string b)).run P w = .ok v w := by
  cases op <;> simp only [binS, Option.some.injEq, reduceCtorEq] at h
  all_goals (subst h; simp [go_sem])

theorem field_run {P : Program} {t n b o i off s ft : Nat} {fs : List (Nat × Nat × Nat)} (h : (TyD.struct n fs).ok P t) (hi : fs[i]? = some (ft, off, s + 1)) (w : World) :
    (Instr.fieldAt t (.pointer (some ⟨b, o, none⟩)) i).run P w = .ok (.pointer (some ⟨b, o + off, none⟩)) w := by
  obtain ⟨⟨us, hu⟩, -, hf⟩ := h
  rw [hu] at hf
  simp only [beq_iff_eq] at hf
  rw [← hf, List.getElem?_map] at hi
  cases hx : us.toList[i]? with
  | none => rw [hx] at hi; cases hi
  | some f =>
    rw [hx] at hi
    simp only [Option.map_some, Option.some.injEq, Prod.mk.injEq] at hi
    obtain ⟨-, rfl, hs⟩ := hi
    have hx' : us[i]? = some f := by simpa using hx
    have hsz : (sizeOf f.type).run P w = .ok (s + 1) w := by
      cases hq : P.info? f.type with
      | none => rw [hq] at hs; simp at hs
      | some q => rw [hq] at hs; simp at hs; simp [sizeOf, typeInfo, hq, hs]
    simp [Instr.fieldAt, run_underlying hu, hx', Instr.sureAddr, fieldPlace, hsz, Addr.add_mid]

theorem pv_run {P : Program} {T : List (Nat × TyD)} (hT : TyOk P T) {n : Nat} {a : Act} {l : Env} (ha : Fr n a l) {o : Oper} {v : Value} (h : pv T l o.op = some v) (w : World) :
    (execOp a.eval o).run P w = .ok (.value v) w := by
  unfold execOp
  revert h
  cases o.op with
  | move x => intro h; simp [ha.eval h]
  | assign x => intro h; simp [ha.eval h]
  | pick c x y =>
    intro h
    simp only [pv] at h
    generalize hc : evl l c = cv at h
    unfold pvPick at h
    split at h
    · simp [ha.eval hc, ha.eval h, asBool]
    · simp [ha.eval hc, ha.eval h, asBool]
    · cases h
  | binOp op t x y t2 =>
    intro h
    simp only [pv] at h
    generalize hx : evl l x = xv at h
    generalize hy : evl l y = yv at h
    unfold pvBin at h
    split at h
    · rename_i k p k' q
      cases hs : isSh op with
      | true =>
        rw [hs] at h
        simp only [cond_true] at h
        have := shI_run (P := P) (k' := k') h t w
        simp [ha.eval hx, ha.eval hy, eqGuard_at_int, this]
      | false =>
        rw [hs] at h
        simp only [cond_false] at h
        split at h
        · rename_i e; subst e
          have := binI_run (P := P) h t w
          simp [ha.eval hx, ha.eval hy, eqGuard_at_int, this]
        · cases h
    · have := binS_run (P := P) h t w
      simp [ha.eval hx, ha.eval hy, eqGuard_at_string, this]
    · rename_i p q
      generalize ht : tyOf T t = tv at h
      unfold pvBool at h
      split at h
      · obtain rfl := Option.some.inj h
        simp [ha.eval hx, ha.eval hy, eqGuard_at_bool, run_eql_bool w t p q (hT.of ht)]
      · obtain rfl := Option.some.inj h
        simp [ha.eval hx, ha.eval hy, eqGuard_at_bool, run_neq_bool w t p q (hT.of ht)]
      · cases h
    · cases h
  | unOp op t x =>
    intro h
    simp only [pv] at h
    generalize hx : evl l x = xv at h
    unfold pvUn at h
    split at h <;> first | (cases h; done) | (obtain rfl := Option.some.inj h; have e := ha.eval hx; simp only [e]; simp [go_sem])
  | convert s d x =>
    intro h
    simp only [pv] at h
    generalize h1 : tyOf T s = sv at h
    generalize h2 : tyOf T d = dv at h
    generalize h3 : evl l x = xv at h
    unfold pvConv at h
    split at h
    · rename_i k1 k2 k3 m
      obtain rfl := Option.some.inj h
      have e1 : P.underlying s = some (.int k1) := hT.of h1
      have e2 : P.underlying d = some (.int k2) := hT.of h2
      simp [ha.eval h3, convert, run_underlying e1, run_underlying e2, Conv.intToInt]
    · obtain rfl := Option.some.inj h
      have e1 : P.underlying s = some .string := hT.of h1
      have e2 : P.underlying d = some .string := hT.of h2
      simp [ha.eval h3, convert, run_underlying e1, run_underlying e2]
    · cases h
  | extract t i =>
    intro h
    simp only [pv] at h
    generalize hx : evl l t = xv at h
    unfold pvExt at h
    split at h
    · simp [ha.eval hx, Instr.extract, h]
    · cases h
  | nilCheck x =>
    intro h
    simp only [pv] at h
    generalize hx : evl l x = xv at h
    unfold pvNil at h
    split at h
    · obtain rfl := Option.some.inj h
      simp [ha.eval hx]
    · cases h
  | fieldAddr t x i =>
    intro h
    simp only [pv] at h
    generalize ht : tyOf T t = tv at h
    generalize hx : evl l x = xv at h
    unfold pvField at h
    split at h
    · rename_i m fs b off0
      generalize hi : fs[i]? = fv at h
      unfold pvOff at h
      split at h
      · obtain rfl := Option.some.inj h
        have := field_run (b := b) (o := off0) (hT.of ht) hi w
        simp [ha.eval hx, this]
      · cases h
    · cases h
  | call c =>
    intro h
    simp only [pv] at h
    obtain ⟨callee, ⟨args⟩, ⟨argTypes⟩⟩ := c
    unfold pvCall at h
    simp only at h
    split at h
    · rename_i x t
      generalize ht : tyOf T t = tv at h
      generalize hx : evl l x = xv at h
      unfold pvLen at h
      split at h
      · rename_i e s b m c
        obtain rfl := Option.some.inj h
        have e1 : P.underlying t = some (.slice e) := (hT.of ht).1
        simp [resolve, invoke, builtin, ha.eval hx, Builtin.len_, run_underlying e1, goInt]
      · obtain rfl := Option.some.inj h
        have e1 : P.underlying t = some .string := hT.of ht
        simp [resolve, invoke, builtin, ha.eval hx, Builtin.len_, run_underlying e1, goInt]
      · cases h
    · rename_i x y
      generalize hx : evl l x = xv at h
      generalize hy : evl l y = yv at h
      unfold pvMin at h
      split at h
      · obtain rfl := Option.some.inj h
        simp [resolve, invoke, builtin, ha.eval hx, ha.eval hy, run_min_int2]
      · cases h
    · rename_i x y
      generalize hx : evl l x = xv at h
      generalize hy : evl l y = yv at h
      unfold pvMin at h
      split at h
      · obtain rfl := Option.some.inj h
        simp [resolve, invoke, builtin, ha.eval hx, ha.eval hy, run_max_int2]
      · cases h
    · cases h
  | _ => intro h; cases h
end K
end Go.Proofs.YtlamdhekjlnccaaGreatDoor

/- The types of this seat's program, as far as walks ask for them: printed by gen_ty.py. -/
namespace Go.Proofs.YtlamdhekjlnccaaGreatDoor
namespace K

def ty : List (Nat × TyD) := [(2, .int .i64), (3, .int .i64), (4, .bool), (5, .int .u8), (6, .int .u8), (7, .struct 4 [(2, 0, 1), (3, 1, 1), (4, 2, 1), (6, 3, 1)]), (8, .struct 4 [(2, 0, 1), (3, 1, 1), (4, 2, 1), (6, 3, 1)]), (9, .str), (10, .str), (11, .str), (12, .int .u64), (13, .struct 2 [(9, 0, 1), (12, 1, 1)]), (14, .struct 2 [(9, 0, 1), (12, 1, 1)]), (15, .ptr 149), (16, .ptr 152), (17, .ptr 160), (18, .struct 1 [(17, 0, 1)]), (19, .struct 1 [(17, 0, 1)]), (21, .int .i32), (22, .arr 32 5 1), (23, .arr 32 5 1), (24, .slice 45 46), (25, .struct 36 [(3, 0, 1), (3, 1, 1), (3, 2, 1), (23, 3, 32), (24, 35, 1)]), (26, .struct 36 [(3, 0, 1), (3, 1, 1), (3, 2, 1), (23, 3, 32), (24, 35, 1)]), (29, .int .i64), (38, .slice 9 1), (39, .slice 41 6), (40, .struct 6 [(3, 0, 1), (3, 1, 1), (3, 2, 1), (9, 3, 1), (38, 4, 1), (39, 5, 1)]), (41, .struct 6 [(3, 0, 1), (3, 1, 1), (3, 2, 1), (9, 3, 1), (38, 4, 1), (39, 5, 1)]), (42, .struct 2 [(3, 0, 1), (3, 1, 1)]), (43, .struct 2 [(3, 0, 1), (3, 1, 1)]), (44, .struct 46 [(3, 0, 1), (9, 1, 1), (3, 2, 1), (3, 3, 1), (3, 4, 1), (41, 5, 6), (23, 11, 32), (4, 43, 1), (43, 44, 2)]), (45, .struct 46 [(3, 0, 1), (9, 1, 1), (3, 2, 1), (3, 3, 1), (3, 4, 1), (41, 5, 6), (23, 11, 32), (4, 43, 1), (43, 44, 2)]), (56, .ptr 3), (58, .ptr 82), (65, .slice 23 32), (69, .slice 5 1), (81, .struct 2 [(3, 0, 1), (80, 1, 1)]), (82, .struct 2 [(3, 0, 1), (80, 1, 1)]), (83, .arr 2 3 1), (84, .int .u64), (88, .int .u64), (97, .int .u32), (98, .arr 8 97 1), (99, .arr 8 97 1), (100, .arr 64 97 1), (103, .ptr 100), (104, .arr 128 5 1), (106, .slice 3 1), (107, .arr 4 3 1), (108, .ptr 110), (109, .struct 2 [(69, 0, 1), (29, 1, 1)]), (110, .struct 2 [(69, 0, 1), (29, 1, 1)]), (123, .ptr 99), (132, .arr 64 5 1), (140, .ptr 142), (141, .struct 2 [(69, 0, 1), (29, 1, 1)]), (142, .struct 2 [(69, 0, 1), (29, 1, 1)]), (148, .struct 4 [(17, 0, 1), (17, 1, 1), (17, 2, 1), (9, 3, 1)]), (149, .struct 4 [(17, 0, 1), (17, 1, 1), (17, 2, 1), (9, 3, 1)]), (151, .struct 0 [(150, 0, 0)]), (152, .struct 0 [(150, 0, 0)]), (153, .int .u8), (154, .int .u8), (156, .ptr 5), (157, .int .i32), (158, .int .i32), (159, .struct 11 [(12, 0, 1), (12, 1, 1), (97, 2, 1), (153, 3, 1), (5, 4, 1), (5, 5, 1), (154, 6, 1), (155, 7, 1), (156, 8, 1), (157, 9, 1), (158, 10, 1)]), (160, .struct 11 [(12, 0, 1), (12, 1, 1), (97, 2, 1), (153, 3, 1), (5, 4, 1), (5, 5, 1), (154, 6, 1), (155, 7, 1), (156, 8, 1), (157, 9, 1), (158, 10, 1)])]
theorem tyOk2 : (.int .i64 : TyD).ok Tryz.prog 2 := Tryz.underlying2
theorem tyOk3 : (.int .i64 : TyD).ok Tryz.prog 3 := Tryz.underlying3
theorem tyOk4 : (.bool : TyD).ok Tryz.prog 4 := Tryz.underlying4
theorem tyOk5 : (.int .u8 : TyD).ok Tryz.prog 5 := Tryz.underlying5
theorem tyOk6 : (.int .u8 : TyD).ok Tryz.prog 6 := Tryz.underlying6
theorem tyOk7 : (.struct 4 [(2, 0, 1), (3, 1, 1), (4, 2, 1), (6, 3, 1)] : TyD).ok Tryz.prog 7 := ⟨⟨_, Tryz.underlying7⟩, by kernel_rfl, by kernel_rfl⟩
theorem tyOk8 : (.struct 4 [(2, 0, 1), (3, 1, 1), (4, 2, 1), (6, 3, 1)] : TyD).ok Tryz.prog 8 := ⟨⟨_, Tryz.underlying8⟩, by kernel_rfl, by kernel_rfl⟩
theorem tyOk9 : (.str : TyD).ok Tryz.prog 9 := Tryz.underlying9
theorem tyOk10 : (.str : TyD).ok Tryz.prog 10 := Tryz.underlying10
theorem tyOk11 : (.str : TyD).ok Tryz.prog 11 := Tryz.underlying11
theorem tyOk12 : (.int .u64 : TyD).ok Tryz.prog 12 := Tryz.underlying12
theorem tyOk13 : (.struct 2 [(9, 0, 1), (12, 1, 1)] : TyD).ok Tryz.prog 13 := ⟨⟨_, Tryz.underlying13⟩, by kernel_rfl, by kernel_rfl⟩
theorem tyOk14 : (.struct 2 [(9, 0, 1), (12, 1, 1)] : TyD).ok Tryz.prog 14 := ⟨⟨_, Tryz.underlying14⟩, by kernel_rfl, by kernel_rfl⟩
theorem tyOk15 : (.ptr 149 : TyD).ok Tryz.prog 15 := Tryz.underlying15
theorem tyOk16 : (.ptr 152 : TyD).ok Tryz.prog 16 := Tryz.underlying16
theorem tyOk17 : (.ptr 160 : TyD).ok Tryz.prog 17 := Tryz.underlying17
theorem tyOk18 : (.struct 1 [(17, 0, 1)] : TyD).ok Tryz.prog 18 := ⟨⟨_, Tryz.underlying18⟩, by kernel_rfl, by kernel_rfl⟩
theorem tyOk19 : (.struct 1 [(17, 0, 1)] : TyD).ok Tryz.prog 19 := ⟨⟨_, Tryz.underlying19⟩, by kernel_rfl, by kernel_rfl⟩
theorem tyOk21 : (.int .i32 : TyD).ok Tryz.prog 21 := Tryz.underlying21
theorem tyOk22 : (.arr 32 5 1 : TyD).ok Tryz.prog 22 := ⟨Tryz.underlying22, by kernel_rfl, by kernel_rfl⟩
theorem tyOk23 : (.arr 32 5 1 : TyD).ok Tryz.prog 23 := ⟨Tryz.underlying23, by kernel_rfl, by kernel_rfl⟩
theorem tyOk24 : (.slice 45 46 : TyD).ok Tryz.prog 24 := ⟨Tryz.underlying24, by kernel_rfl⟩
theorem tyOk25 : (.struct 36 [(3, 0, 1), (3, 1, 1), (3, 2, 1), (23, 3, 32), (24, 35, 1)] : TyD).ok Tryz.prog 25 := ⟨⟨_, Tryz.underlying25⟩, by kernel_rfl, by kernel_rfl⟩
theorem tyOk26 : (.struct 36 [(3, 0, 1), (3, 1, 1), (3, 2, 1), (23, 3, 32), (24, 35, 1)] : TyD).ok Tryz.prog 26 := ⟨⟨_, Tryz.underlying26⟩, by kernel_rfl, by kernel_rfl⟩
theorem tyOk29 : (.int .i64 : TyD).ok Tryz.prog 29 := Tryz.underlying29
theorem tyOk38 : (.slice 9 1 : TyD).ok Tryz.prog 38 := ⟨Tryz.underlying38, by kernel_rfl⟩
theorem tyOk39 : (.slice 41 6 : TyD).ok Tryz.prog 39 := ⟨Tryz.underlying39, by kernel_rfl⟩
theorem tyOk40 : (.struct 6 [(3, 0, 1), (3, 1, 1), (3, 2, 1), (9, 3, 1), (38, 4, 1), (39, 5, 1)] : TyD).ok Tryz.prog 40 := ⟨⟨_, Tryz.underlying40⟩, by kernel_rfl, by kernel_rfl⟩
theorem tyOk41 : (.struct 6 [(3, 0, 1), (3, 1, 1), (3, 2, 1), (9, 3, 1), (38, 4, 1), (39, 5, 1)] : TyD).ok Tryz.prog 41 := ⟨⟨_, Tryz.underlying41⟩, by kernel_rfl, by kernel_rfl⟩
theorem tyOk42 : (.struct 2 [(3, 0, 1), (3, 1, 1)] : TyD).ok Tryz.prog 42 := ⟨⟨_, Tryz.underlying42⟩, by kernel_rfl, by kernel_rfl⟩
theorem tyOk43 : (.struct 2 [(3, 0, 1), (3, 1, 1)] : TyD).ok Tryz.prog 43 := ⟨⟨_, Tryz.underlying43⟩, by kernel_rfl, by kernel_rfl⟩
theorem tyOk44 : (.struct 46 [(3, 0, 1), (9, 1, 1), (3, 2, 1), (3, 3, 1), (3, 4, 1), (41, 5, 6), (23, 11, 32), (4, 43, 1), (43, 44, 2)] : TyD).ok Tryz.prog 44 := ⟨⟨_, Tryz.underlying44⟩, by kernel_rfl, by kernel_rfl⟩
theorem tyOk45 : (.struct 46 [(3, 0, 1), (9, 1, 1), (3, 2, 1), (3, 3, 1), (3, 4, 1), (41, 5, 6), (23, 11, 32), (4, 43, 1), (43, 44, 2)] : TyD).ok Tryz.prog 45 := ⟨⟨_, Tryz.underlying45⟩, by kernel_rfl, by kernel_rfl⟩
theorem tyOk56 : (.ptr 3 : TyD).ok Tryz.prog 56 := Tryz.underlying56
theorem tyOk58 : (.ptr 82 : TyD).ok Tryz.prog 58 := Tryz.underlying58
theorem tyOk65 : (.slice 23 32 : TyD).ok Tryz.prog 65 := ⟨Tryz.underlying65, by kernel_rfl⟩
theorem tyOk69 : (.slice 5 1 : TyD).ok Tryz.prog 69 := ⟨Tryz.underlying69, by kernel_rfl⟩
theorem tyOk81 : (.struct 2 [(3, 0, 1), (80, 1, 1)] : TyD).ok Tryz.prog 81 := ⟨⟨_, Tryz.underlying81⟩, by kernel_rfl, by kernel_rfl⟩
theorem tyOk82 : (.struct 2 [(3, 0, 1), (80, 1, 1)] : TyD).ok Tryz.prog 82 := ⟨⟨_, Tryz.underlying82⟩, by kernel_rfl, by kernel_rfl⟩
theorem tyOk83 : (.arr 2 3 1 : TyD).ok Tryz.prog 83 := ⟨Tryz.underlying83, by kernel_rfl, by kernel_rfl⟩
theorem tyOk84 : (.int .u64 : TyD).ok Tryz.prog 84 := Tryz.underlying84
theorem tyOk88 : (.int .u64 : TyD).ok Tryz.prog 88 := Tryz.underlying88
theorem tyOk97 : (.int .u32 : TyD).ok Tryz.prog 97 := Tryz.underlying97
theorem tyOk98 : (.arr 8 97 1 : TyD).ok Tryz.prog 98 := ⟨Tryz.underlying98, by kernel_rfl, by kernel_rfl⟩
theorem tyOk99 : (.arr 8 97 1 : TyD).ok Tryz.prog 99 := ⟨Tryz.underlying99, by kernel_rfl, by kernel_rfl⟩
theorem tyOk100 : (.arr 64 97 1 : TyD).ok Tryz.prog 100 := ⟨Tryz.underlying100, by kernel_rfl, by kernel_rfl⟩
theorem tyOk103 : (.ptr 100 : TyD).ok Tryz.prog 103 := Tryz.underlying103
theorem tyOk104 : (.arr 128 5 1 : TyD).ok Tryz.prog 104 := ⟨Tryz.underlying104, by kernel_rfl, by kernel_rfl⟩
theorem tyOk106 : (.slice 3 1 : TyD).ok Tryz.prog 106 := ⟨Tryz.underlying106, by kernel_rfl⟩
theorem tyOk107 : (.arr 4 3 1 : TyD).ok Tryz.prog 107 := ⟨Tryz.underlying107, by kernel_rfl, by kernel_rfl⟩
theorem tyOk108 : (.ptr 110 : TyD).ok Tryz.prog 108 := Tryz.underlying108
theorem tyOk109 : (.struct 2 [(69, 0, 1), (29, 1, 1)] : TyD).ok Tryz.prog 109 := ⟨⟨_, Tryz.underlying109⟩, by kernel_rfl, by kernel_rfl⟩
theorem tyOk110 : (.struct 2 [(69, 0, 1), (29, 1, 1)] : TyD).ok Tryz.prog 110 := ⟨⟨_, Tryz.underlying110⟩, by kernel_rfl, by kernel_rfl⟩
theorem tyOk123 : (.ptr 99 : TyD).ok Tryz.prog 123 := Tryz.underlying123
theorem tyOk132 : (.arr 64 5 1 : TyD).ok Tryz.prog 132 := ⟨Tryz.underlying132, by kernel_rfl, by kernel_rfl⟩
theorem tyOk140 : (.ptr 142 : TyD).ok Tryz.prog 140 := Tryz.underlying140
theorem tyOk141 : (.struct 2 [(69, 0, 1), (29, 1, 1)] : TyD).ok Tryz.prog 141 := ⟨⟨_, Tryz.underlying141⟩, by kernel_rfl, by kernel_rfl⟩
theorem tyOk142 : (.struct 2 [(69, 0, 1), (29, 1, 1)] : TyD).ok Tryz.prog 142 := ⟨⟨_, Tryz.underlying142⟩, by kernel_rfl, by kernel_rfl⟩
theorem tyOk148 : (.struct 4 [(17, 0, 1), (17, 1, 1), (17, 2, 1), (9, 3, 1)] : TyD).ok Tryz.prog 148 := ⟨⟨_, Tryz.underlying148⟩, by kernel_rfl, by kernel_rfl⟩
theorem tyOk149 : (.struct 4 [(17, 0, 1), (17, 1, 1), (17, 2, 1), (9, 3, 1)] : TyD).ok Tryz.prog 149 := ⟨⟨_, Tryz.underlying149⟩, by kernel_rfl, by kernel_rfl⟩
theorem tyOk151 : (.struct 0 [(150, 0, 0)] : TyD).ok Tryz.prog 151 := ⟨⟨_, Tryz.underlying151⟩, by kernel_rfl, by kernel_rfl⟩
theorem tyOk152 : (.struct 0 [(150, 0, 0)] : TyD).ok Tryz.prog 152 := ⟨⟨_, Tryz.underlying152⟩, by kernel_rfl, by kernel_rfl⟩
theorem tyOk153 : (.int .u8 : TyD).ok Tryz.prog 153 := Tryz.underlying153
theorem tyOk154 : (.int .u8 : TyD).ok Tryz.prog 154 := Tryz.underlying154
theorem tyOk156 : (.ptr 5 : TyD).ok Tryz.prog 156 := Tryz.underlying156
theorem tyOk157 : (.int .i32 : TyD).ok Tryz.prog 157 := Tryz.underlying157
theorem tyOk158 : (.int .i32 : TyD).ok Tryz.prog 158 := Tryz.underlying158
theorem tyOk159 : (.struct 11 [(12, 0, 1), (12, 1, 1), (97, 2, 1), (153, 3, 1), (5, 4, 1), (5, 5, 1), (154, 6, 1), (155, 7, 1), (156, 8, 1), (157, 9, 1), (158, 10, 1)] : TyD).ok Tryz.prog 159 := ⟨⟨_, Tryz.underlying159⟩, by kernel_rfl, by kernel_rfl⟩
theorem tyOk160 : (.struct 11 [(12, 0, 1), (12, 1, 1), (97, 2, 1), (153, 3, 1), (5, 4, 1), (5, 5, 1), (154, 6, 1), (155, 7, 1), (156, 8, 1), (157, 9, 1), (158, 10, 1)] : TyD).ok Tryz.prog 160 := ⟨⟨_, Tryz.underlying160⟩, by kernel_rfl, by kernel_rfl⟩
theorem tyOk : TyOk Tryz.prog ty := ⟨tyOk2, tyOk3, tyOk4, tyOk5, tyOk6, tyOk7, tyOk8, tyOk9, tyOk10, tyOk11, tyOk12, tyOk13, tyOk14, tyOk15, tyOk16, tyOk17, tyOk18, tyOk19, tyOk21, tyOk22, tyOk23, tyOk24, tyOk25, tyOk26, tyOk29, tyOk38, tyOk39, tyOk40, tyOk41, tyOk42, tyOk43, tyOk44, tyOk45, tyOk56, tyOk58, tyOk65, tyOk69, tyOk81, tyOk82, tyOk83, tyOk84, tyOk88, tyOk97, tyOk98, tyOk99, tyOk100, tyOk103, tyOk104, tyOk106, tyOk107, tyOk108, tyOk109, tyOk110, tyOk123, tyOk132, tyOk140, tyOk141, tyOk142, tyOk148, tyOk149, tyOk151, tyOk152, tyOk153, tyOk154, tyOk156, tyOk157, tyOk158, tyOk159, tyOk160, trivial⟩
end K
end Go.Proofs.YtlamdhekjlnccaaGreatDoor

/- Memory of walks: own rows of bytes that grow; new blocks; texts' bytes. -/
namespace Go.Proofs.YtlamdhekjlnccaaGreatDoor
open Go.RowKit
namespace K

/-- The slice v is the call's own, and reads as the bytes l. -/
def Bu (w : World) (v : Value) (l : List Int) : Prop := Buf .u8 5 w 0 v l
/-- What becomes of memory when the own slice v becomes v'. -/
def Grow (w : World) (v : Value) (w' : World) (v' : Value) : Prop :=
  Keep (fun b => b < w.heap.size ∧ v.ownBlock ≠ some b) w w' ∧ ∀ g, v'.ownBlock = some g → v.ownBlock = some g ∨ w.heap.size ≤ g

theorem Grow.refl (w : World) (v : Value) : Grow w v w v := ⟨Keep.refl _ _, fun _ h => .inl h⟩
theorem Grow.trans {w w1 w2 : World} {v v1 v2 : Value} (h : Grow w v w1 v1) (k : Grow w1 v1 w2 v2) : Grow w v w2 v2 :=
  ⟨h.1.trans (k.1.mono fun b hb => ⟨Nat.lt_of_lt_of_le hb.1 h.1.size, fun e => (h.2 b e).elim hb.2 (fun h2 => absurd hb.1 (by omega))⟩),
   fun g hg => (k.2 g hg).elim (h.2 g) (fun h2 => .inr (Nat.le_trans h.1.size h2))⟩
theorem Grow.alloc {w w1 : World} {v v1 : Value} (h : Grow w v w1 v1) (o : Obj) : Grow w v (w1.alloc o) v1 :=
  ⟨h.1.trans ((Keep.refl _ w1).alloc (fun _ hk => Nat.lt_of_lt_of_le hk.1 h.1.size) o), h.2⟩
theorem Grow.below {w w1 w2 : World} {v v1 : Value} (h : Grow w v w1 v1) (k : Below w1.heap.size w1 w2) : Grow w v w2 v1 :=
  ⟨h.1.trans ((Keep.of_below k).mono fun _ hb => Nat.lt_of_lt_of_le hb.1 h.1.size), h.2⟩
theorem Grow.drewN {w w1 : World} {v v1 : Value} (h : Grow w v w1 v1) (n : Nat) : Grow w v (w1.drewN n) v1 := ⟨h.1.drewN n, h.2⟩
/-- What lies below where the own slices begin stays. -/
theorem Grow.old {w w' : World} {v v' : Value} (h : Grow w v w' v') {B : Nat} (hB : B ≤ w.heap.size) (hv : ∀ g, v.ownBlock = some g → B ≤ g) : Below B w w' :=
  (h.1.mono fun b (hb : b < B) => ⟨Nat.lt_of_lt_of_le hb hB, fun e => absurd (hv b e) (by omega)⟩).below
theorem Grow.own {w w' : World} {v v' : Value} (h : Grow w v w' v') {B : Nat} (hB : B ≤ w.heap.size) (hv : ∀ g, v.ownBlock = some g → B ≤ g) : ∀ g, v'.ownBlock = some g → B ≤ g :=
  fun g hg => (h.2 g hg).elim (hv g) (fun h2 => Nat.le_trans hB h2)

theorem Bu.nil (w : World) : Bu w (.slice none 0 0) [] := Buf.nil _ _ _ _
theorem Bu.lt {w : World} {v : Value} {l : List Int} (h : Bu w v l) : ∀ g, v.ownBlock = some g → g < w.heap.size := fun g hg => (Buf.own h g hg).2
theorem Bu.keep {K : Nat → Prop} {w w' : World} {v : Value} {l : List Int} (h : Bu w v l) (hk : Keep K w w') (hK : ∀ g, v.ownBlock = some g → K g) : Bu w' v l :=
  Buf.keep h hk fun g _ _ hg => hK g hg
theorem Bu.alloc {w : World} {v : Value} {l : List Int} (h : Bu w v l) (o : Obj) : Bu (w.alloc o) v l := Buf.alloc h o
theorem Bu.below {w w' : World} {v : Value} {l : List Int} (h : Bu w v l) (hk : Below w.heap.size w w') : Bu w' v l := Buf.below h hk (Nat.le_refl _)
theorem Bu.drewN {w : World} {v : Value} {l : List Int} (h : Bu w v l) (n : Nat) : Bu (w.drewN n) v l := h.below (((Keep.of_below (Below.refl _ w)).drewN n).below)
theorem Bu.sl {w : World} {v : Value} {l : List Int} (h : Bu w v l) : Sl .u8 w v l := Buf.sl h
/-- A row of bytes that has just been laid. -/
theorem Bu.new (w : World) (l : List Int) (hm : l.length ≤ maxLen) : Bu (w.alloc (.cells (l.map (Value.int .u8)).toArray 5)) (.slice (some ⟨w.heap.size, 0, none⟩) l.length l.length) l := by
  have := Buf.mk (k := .u8) (e := 5) (w := w) (base := 0) l [] (Nat.zero_le _) (by simpa using hm)
  simpa [Bu] using this

theorem Sl.slV {w : World} {v : Value} {l : List Int} (h : Sl .u8 w v l) : SlV w (fun _ => True) 1 v l.length (l.map (Value.int .u8)) := by
  obtain ⟨sp, cap, rfl, h1, h2, h3, h4⟩ := h
  refine ⟨by simp, Ones.int _ _, sp, cap, rfl, h1, h2, h4, fun h0 => ?_⟩
  obtain ⟨b, o, e, hb, hr⟩ := h3 h0
  refine ⟨b, o, e, hb, trivial, fun j hj => ?_⟩
  rw [List.length_map] at hj
  rw [hr j hj]
  simp [nth, hj]

theorem elemU8 : ElemV Tryz.prog 69 5 1 1 := ElemV.mk' (z := .int .u8 0) Tryz.underlying69 (by kernel_rfl) rfl (by omega)

theorem bytesWorld_below (w : World) (e : TypeId) (s : ByteArray) : Below w.heap.size w (Lib.bytesWorld w e s) :=
  ⟨rfl, rfl, rfl, by rw [Lib.bytesWorld_size]; omega, fun k hk => Lib.bytesWorld_at_old w e s k hk⟩

theorem Bu.form {w : World} {v : Value} {l : List Int} (h : Bu w v l) : ∃ sp c, v = .slice sp l.length c ∧ l.length ≤ c ∧ c ≤ 9223372036854775807 := by
  obtain ⟨sp, c, h1, h2, h3, -⟩ := Bu.sl h
  exact ⟨sp, c, h1, h2, h3⟩
theorem Bu.fresh {w w' : World} {v : Value} {l : List Int} (h : Bu w v l) (hk : Keep (fun b => b < w.heap.size) w w') : Bu w' v l := h.keep hk fun g hg => h.lt g hg

/-- A byte of an own row: where it lies; it may be written. -/
theorem Bu.at {w : World} {v : Value} {l : List Int} (h : Bu w v l) {j : Nat} (hj : j < l.length) : ∃ g c, v = .slice (some ⟨g, 0, none⟩) l.length c ∧ v.ownBlock = some g ∧ w.cell? ⟨g, j, none⟩ = some (.int .u8 (nth l j)) ∧ w.frozen? ⟨g, j, none⟩ = false ∧
    ∀ x, Bu (w.setCell ⟨g, j, none⟩ (.int .u8 x)) v (l.set j x) ∧ Grow w v (w.setCell ⟨g, j, none⟩ (.int .u8 x)) v := by
  have ho : OwnV 5 1 w (fun g => v.ownBlock = some g) v l.length (l.map (Value.int .u8)) := ⟨h, Ones.int _ _, fun g hg => hg⟩
  rcases Buf.block h with ⟨-, rfl⟩ | ⟨g, c, rest, rfl, -⟩
  · simp at hj
  · have hat := ho.at j (by simpa using hj)
    have hnth : (l.map (Value.int .u8)).getD j undef = .int .u8 (nth l j) := by simp [nth, hj]
    rw [hnth] at hat
    refine ⟨g, c, rfl, rfl, hat, ho.free j, fun x => ⟨?_, ?_, fun g2 hg2 => .inl hg2⟩⟩
    · have := (ho.stored j (u := .int .u8 x) rfl).1
      rw [← List.map_set] at this
      show World.ownsRow _ _ _ _ _ _ _
      rw [List.length_set]
      exact this
    · exact (Keep.refl _ w).setCell (fun hk => hk.2 rfl) _

/-- A new block. -/
structure Fresh (w : World) (g : Nat) (w' : World) (T : TypeId) (cs : List Value) : Prop where
  eq : g = w.heap.size
  blk : VBlk T w' g cs
  below : Below w.heap.size w w'
  size : w'.heap.size = w.heap.size + 1
theorem Fresh.mk' (w : World) (T : TypeId) (cs : List Value) : Fresh w w.heap.size (w.alloc (.cells cs.toArray T)) T cs :=
  ⟨rfl, VBlk.mk w cs T, (Below.refl _ w).alloc (Nat.le_refl _) _, by show (w.heap.push _).size = _; simp⟩

theorem VBlk.rangeAt {T : TypeId} {w : World} {b : Nat} {cs : List Value} (h : VBlk T w b cs) : w.rangeAt b 0 cs := by
  intro j v hj
  have hlt : j < cs.length := by
    rcases Nat.lt_or_ge j cs.length with h | h
    · exact h
    · rw [List.getElem?_eq_none h] at hj; cases hj
  have := h.cell j hlt
  rw [Nat.zero_add]
  rw [this]
  simp [List.getD_eq_getElem?_getD, hj]
end K
end Go.Proofs.YtlamdhekjlnccaaGreatDoor

/- Walks over the slots that are asked for: the moves. -/
namespace Go.Proofs.YtlamdhekjlnccaaGreatDoor
open Go.RowKit
namespace K
variable {n : Nat} {Q : Exit → Act → World → Prop} {l : Env} {w w' : World} {ops : Array Oper} {o : Oper} {rest : List Oper} {d : Nat}

theorem WL.le {m : Env} (hs : ∀ k v, look m k = some v → look l k = some v) (h : WL n ops Q rest m w) : WL n ops Q rest l w := ⟨fun a ha => h.go a ⟨ha.size, ha.defers, fun k v hk => ha.slot k v (hs k v hk)⟩⟩
/-- A slot's value in other words. -/
theorem WL.as (k : Nat) (v' : Value) {v : Value} (hk : look l k = some v) (e : v = v') (h : WL n ops Q rest ((k, v') :: l) w) : WL n ops Q rest l w :=
  h.le fun j u hj => by
    unfold look at hj
    cases hb : Nat.beq k j with
    | true =>
      rw [hb] at hj
      obtain rfl : k = j := Nat.eq_of_beq_eq_true hb
      obtain rfl : v' = u := Option.some.inj hj
      subst e
      exact hk
    | false => rw [hb] at hj; exact hj
theorem look_free {d d2 : Nat} {u v' : Value} (hf : look l d = none) : ∀ k v, look ((d2, v') :: l) k = some v → look ((d2, v') :: (d, u) :: l) k = some v := by
  intro k v hk
  unfold look at hk ⊢
  cases hb : Nat.beq d2 k with
  | true => rw [hb] at hk; exact hk
  | false =>
    rw [hb] at hk
    unfold look
    cases hb2 : Nat.beq d k with
    | true => obtain rfl : d = k := Nat.eq_of_beq_eq_true hb2; rw [cond_false] at hk; rw [hf] at hk; cases hk
    | false => exact hk
theorem WL.nil (h : WQ n Q .normal l w) : WL n ops Q [] l w := ⟨fun a ha => wpList_nil (h.go a ha)⟩
theorem WL.step {v : Value} (hg : o.guard = none) (hd : o.dst = some d) (hn : Nat.blt d n = true) (hr : ∀ a, Fr n a l → (execOp a.eval o).run Tryz.prog w = .ok (.value v) w')
    (h : WL n ops Q rest ((d, v) :: l) w') : WL n ops Q (o :: rest) l w :=
  ⟨fun a ha => wpList_plain hg fun K hK => by
    unfold Oper.wp
    rw [hr a ha, Oper.upon_value, hd]
    exact hK _ _ (h.go _ (ha.put hn v))⟩
theorem WL.stepU (hg : o.guard = none) (hd : o.dst = none) (hr : ∀ a, Fr n a l → (execOp a.eval o).run Tryz.prog w = .ok .skip w') (h : WL n ops Q rest l w') : WL n ops Q (o :: rest) l w :=
  ⟨fun a ha => wpList_plain hg fun K hK => by
    unfold Oper.wp
    rw [hr a ha, Oper.upon_skip, hd]
    exact hK _ _ (h.go _ (ha.none _))⟩
theorem WL.pure {v : Value} (hg : o.guard = none) (hd : o.dst = some d) (hn : Nat.blt d n = true) (hv : pv ty l o.op = some v) (h : WL n ops Q rest ((d, v) :: l) w) : WL n ops Q (o :: rest) l w :=
  WL.step hg hd hn (fun _ ha => pv_run tyOk ha hv w) h
theorem WL.pureAs {v : Value} (v' : Value) (hg : o.guard = none) (hd : o.dst = some d) (hn : Nat.blt d n = true) (hv : pv ty l o.op = some v) (e : v = v') (h : WL n ops Q rest ((d, v') :: l) w) : WL n ops Q (o :: rest) l w :=
  WL.step hg hd hn (fun _ ha => pv_run tyOk ha (hv.trans (congrArg some e)) w) h
/-- A sum that stays an int. -/
theorem WL.i64 {x : Int} (hg : o.guard = none) (hd : o.dst = some d) (hn : Nat.blt d n = true) (hv : pv ty l o.op = some (.int .i64 (IntKind.wrap .i64 x))) (hx : -9223372036854775808 ≤ x ∧ x ≤ 9223372036854775807)
    (h : WL n ops Q rest ((d, .int .i64 x) :: l) w) : WL n ops Q (o :: rest) l w := WL.pureAs _ hg hd hn hv (congrArg (Value.int .i64) (IntWalk.i64_in _ hx)) h
theorem WL.u64 {x : Int} (hg : o.guard = none) (hd : o.dst = some d) (hn : Nat.blt d n = true) (hv : pv ty l o.op = some (.int .u64 (IntKind.wrap .u64 x))) (hx : 0 ≤ x ∧ x ≤ 18446744073709551615)
    (h : WL n ops Q rest ((d, .int .u64 x) :: l) w) : WL n ops Q (o :: rest) l w := WL.pureAs _ hg hd hn hv (congrArg (Value.int .u64) (by rw [IntKind.wrap_u64]; omega)) h
theorem WL.u8 {x : Int} (hg : o.guard = none) (hd : o.dst = some d) (hn : Nat.blt d n = true) (hv : pv ty l o.op = some (.int .u8 (IntKind.wrap .u8 x))) (hx : 0 ≤ x ∧ x ≤ 255)
    (h : WL n ops Q rest ((d, .int .u8 x) :: l) w) : WL n ops Q (o :: rest) l w := WL.pureAs _ hg hd hn hv (congrArg (Value.int .u8) (by rw [IntKind.wrap_u8]; omega)) h

/-- A test that is decided. -/
theorem WL.decT {p : Prop} [Decidable p] (hg : o.guard = none) (hd : o.dst = some d) (hn : Nat.blt d n = true) (hv : pv ty l o.op = some (.bool (decide p))) (hp : p) (h : WL n ops Q rest ((d, .bool true) :: l) w) : WL n ops Q (o :: rest) l w :=
  WL.pureAs _ hg hd hn hv (congrArg Value.bool (decide_eq_true hp)) h
theorem WL.decF {p : Prop} [Decidable p] (hg : o.guard = none) (hd : o.dst = some d) (hn : Nat.blt d n = true) (hv : pv ty l o.op = some (.bool (decide p))) (hp : ¬ p) (h : WL n ops Q rest ((d, .bool false) :: l) w) : WL n ops Q (o :: rest) l w :=
  WL.pureAs _ hg hd hn hv (congrArg Value.bool (decide_eq_false hp)) h
theorem WL.top {v v' : Value} (e : v = v') (h : WL n ops Q rest ((d, v') :: l) w) : WL n ops Q rest ((d, v) :: l) w := by subst e; exact h
theorem WL.topT {p : Prop} [Decidable p] (hp : p) (h : WL n ops Q rest ((d, .bool true) :: l) w) : WL n ops Q rest ((d, .bool (decide p)) :: l) w := WL.top (congrArg Value.bool (decide_eq_true hp)) h
theorem WL.topF {p : Prop} [Decidable p] (hp : ¬ p) (h : WL n ops Q rest ((d, .bool false) :: l) w) : WL n ops Q rest ((d, .bool (decide p)) :: l) w := WL.top (congrArg Value.bool (decide_eq_false hp)) h
theorem WL.top64 {x : Int} (hx : -9223372036854775808 ≤ x ∧ x ≤ 9223372036854775807) (h : WL n ops Q rest ((d, .int .i64 x) :: l) w) : WL n ops Q rest ((d, .int .i64 (IntKind.wrap .i64 x)) :: l) w := WL.top (congrArg (Value.int .i64) (IntWalk.i64_in _ hx)) h
def isB : Value → Option Bool
  | .bool b => some b
  | _ => none
def asked (b : Bool) : Option Bool → Bool
  | some c => c == b
  | none => false
/-- Is an operation asked for, as far as the slots tell? -/
def wants (ops : Array Oper) (l : Env) (o : Oper) : Option Bool :=
  match o.guard with
  | none => some true
  | some (j, b) => match (ops[j]?).bind (·.dst) with
    | some t => match look l t with
      | some v => some (asked b (isB v))
      | none => none
    | none => none
theorem wants_run {a : Act} {b : Bool} (ha : Fr n a l) (h : wants ops l o = some b) : Region.wanted o (yielded ops a.tmps) = b := by
  unfold wants at h
  unfold Region.wanted yielded
  cases hg : o.guard with
  | none => rw [hg] at h; obtain rfl := Option.some.inj h; rfl
  | some x =>
    obtain ⟨j, wt⟩ := x
    rw [hg] at h
    simp only at h ⊢
    cases hj : (ops[j]?).bind (·.dst) with
    | none => rw [hj] at h; cases h
    | some t =>
      rw [hj] at h
      simp only at h
      split at h
      · rename_i v hl
        obtain rfl := Option.some.inj h
        simp only [Option.bind_some, ha.slot t _ hl]
        cases v <;> rfl
      · cases h
/-- A guarded operation that is asked for. -/
theorem WL.on (hw : wants ops l o = some true) (_hg : o.guard.isSome = true) (h : WL n ops Q ({ o with guard := none } :: rest) l w) : WL n ops Q (o :: rest) l w :=
  ⟨fun a ha => by
    have h1 := h.go a ha
    have hw1 := wants_run ha hw
    have hw2 : Region.wanted { o with guard := none } (yielded ops a.tmps) = true := rfl
    unfold wpList at h1 ⊢
    rw [if_pos hw2] at h1
    rw [if_pos hw1]
    exact h1⟩
theorem WL.off (hw : wants ops l o = some false) (hd : o.dst = some d) (hn : Nat.blt d n = true) (h : WL n ops Q rest ((d, undef) :: l) w) : WL n ops Q (o :: rest) l w :=
  ⟨fun a ha => by
    have hw1 := wants_run ha hw
    unfold wpList
    rw [if_neg (by rw [hw1]; exact Bool.false_ne_true), hd]
    exact h.go _ (ha.put hn undef)⟩

/-- Does a variable of a type lie in one cell? -/
def scal : Option TyD → Bool
  | some (.struct _ _) | some (.arr _ _ _) | none => false
  | _ => true
theorem scal_run {t : Nat} (h : scal (tyOf ty t) = true) (p : Addr) {v : Value} (hc : w.cell? p = some v) : (loadVar t p).run Tryz.prog w = .ok v w := by
  cases ht : tyOf ty t with
  | none => rw [ht] at h; cases h
  | some x =>
    rw [ht] at h
    have hagg : (isAgg t).run Tryz.prog w = .ok false w := by
      unfold isAgg
      rw [Sem.run_bind]
      cases x with
      | int k => have := TyOk.of tyOk ht; rw [run_underlying this w]; rfl
      | str => have := TyOk.of tyOk ht; rw [run_underlying this w]; rfl
      | bool => have := TyOk.of tyOk ht; rw [run_underlying this w]; rfl
      | ptr e => have := TyOk.of tyOk ht; rw [run_underlying this w]; rfl
      | slice e s => have := TyOk.of tyOk ht; rw [run_underlying this.1 w]; rfl
      | struct m fs => cases h
      | arr m e s => cases h
    simp [loadVar, Sem.run_bind, hagg, hc]
theorem WL.load {t : Nat} {x : Operand} {p : Addr} {v : Value} (hg : o.guard = none) (hd : o.dst = some d) (hn : Nat.blt d n = true) (ho : o.op = .load t x) (hx : evl l x = some (.pointer (some p))) (ht : scal (tyOf ty t) = true)
    (hc : w.cell? p = some v) (h : WL n ops Q rest ((d, v) :: l) w) : WL n ops Q (o :: rest) l w :=
  WL.step hg hd hn (fun a ha => by unfold execOp; rw [ho]; simp [ha.eval hx, Instr.loadAt, Instr.sureAddr, scal_run ht p hc]) h
/-- Many cells at once. -/
theorem WL.loadMid {t : Nat} {x : Operand} {b off m : Nat} {cs : List Value} (hg : o.guard = none) (hd : o.dst = some d) (hn : Nat.blt d n = true) (ho : o.op = .load t x)
    (hx : evl l x = some (.pointer (some ⟨b, off, none⟩))) (ht : cellsN (tyOf ty t) = some m) (hc : w.rangeAt b off cs) (hm : cs.length = m) (h : WL n ops Q rest ((d, .agg cs.toArray) :: l) w) : WL n ops Q (o :: rest) l w :=
  WL.step hg hd hn (fun a ha => by
    obtain ⟨d, hu, hd, hsz⟩ := cellsN_ok tyOk ht
    unfold execOp
    rw [ho]
    have := run_loadVar_mid (P := Tryz.prog) w b off t cs _ hc hu hd (by rw [hsz, hm])
    simp [ha.eval hx, Instr.loadAt, Instr.sureAddr, this]) h
theorem WL.store {t : Nat} {x y : Operand} {p : Addr} {v old : Value} (hg : o.guard = none) (hd : o.dst = none) (ho : o.op = .store t x y) (hx : evl l x = some (.pointer (some p))) (hy : evl l y = some v)
    (hv : v.oneCell' = true) (hsz : (Tryz.prog.info? t).map (·.size) = some 1) (hc : w.cell? p = some old) (hf : w.frozen? p = false) (h : WL n ops Q rest l (w.setCell p v)) : WL n ops Q (o :: rest) l w :=
  WL.stepU hg hd (fun a ha => by
    have hs : (sizeOf t).run Tryz.prog w = .ok 1 w := by
      cases hq : Tryz.prog.info? t with
      | none => rw [hq] at hsz; cases hsz
      | some q => rw [hq] at hsz; simp at hsz; simp [sizeOf, typeInfo, hq, hsz]
    have hvc : v.cells = #[v] := by cases v <;> first | rfl | cases hv
    unfold execOp
    rw [ho]
    simp only [ha.eval hx, ha.eval hy, Instr.storeAt, Instr.sureAddr, storeVar, Sem.run_bind, Sem.run_pure, Result.andThen_ok, hs, hvc]
    simp [storeCells, run_store Tryz.prog w p v _ hv, hc, hf, Addr.add_zero']) h
/-- A whole block anew. -/
theorem WL.storeRow {t m T : Nat} {x y : Operand} {g : Nat} {cs old : List Value} (hg : o.guard = none) (hd : o.dst = none) (ho : o.op = .store t x y) (hx : evl l x = some (.pointer (some ⟨g, 0, none⟩)))
    (hy : evl l y = some (.agg cs.toArray)) (ht : cellsN (tyOf ty t) = some m) (hb : VBlk T w g old) (hm : cs.length = m) (hold : old.length = m) (h1 : Ones cs) (h : WL n ops Q rest l (w.setRow g cs.toArray)) : WL n ops Q (o :: rest) l w :=
  ⟨fun a ha => wpList_store_rowTo hg t x y ho hd g cs.toArray (ha.eval hx) (ha.eval hy) T old.toArray hb (by obtain ⟨d, -, -, hsz⟩ := cellsN_ok tyOk ht; rw [hsz]; simp [hm]) (by simp [hm, hold])
    (by simp only [List.all_toArray, List.all_eq_true]; exact h1) (h.go a ha)⟩
theorem WL.box {t : Nat} {x : Operand} {v : Value} (hg : o.guard = none) (hd : o.dst = some d) (hn : Nat.blt d n = true) (ho : o.op = .box t x) (hx : evl l x = some v)
    (h : ∀ g w', Fresh w g w' t v.cells.toList → WL n ops Q rest ((d, .pointer (some ⟨g, 0, none⟩)) :: l) w') : WL n ops Q (o :: rest) l w :=
  WL.step hg hd hn (fun a ha => by unfold execOp; rw [ho]; simp [ha.eval hx, Instr.box, newVar, newRow]) (h _ _ (Fresh.mk' w t v.cells.toList))
theorem WL.alloc {t : Nat} {z : Value} (hg : o.guard = none) (hd : o.dst = some d) (hn : Nat.blt d n = true) (ho : o.op = .alloc t) (hz : ∀ w, (zeroValue t).run Tryz.prog w = .ok z w)
    (h : ∀ g w', Fresh w g w' t z.cells.toList → WL n ops Q rest ((d, .pointer (some ⟨g, 0, none⟩)) :: l) w') : WL n ops Q (o :: rest) l w :=
  WL.step hg hd hn (fun a ha => by unfold execOp; rw [ho]; simp [Instr.alloc, newVar, newRow, hz]) (h _ _ (Fresh.mk' w t z.cells.toList))
theorem evlAll_map {a : Act} (ha : Fr n a l) : ∀ {xs : List Operand} {vs : List Value}, evlAll l xs = some vs → xs.map a.eval = vs
  | [], vs, h => by cases h; rfl
  | x :: xs, vs, h => by
    unfold evlAll at h
    split at h
    · rename_i v r h1 h2
      obtain rfl := Option.some.inj h
      rw [List.map_cons, ha.eval h1, evlAll_map ha h2]
    · cases h
/-- A call by its contract. -/
theorem WL.call {f : FuncId} {fn : Func} {args : List Operand} {ts : Array TypeId} {vs : List Value} {R : Ending → World → Prop} (hg : o.guard = none) (hd : o.dst = some d) (hn : Nat.blt d n = true)
    (ho : o.op = .call { callee := .value (.func f), args := args.toArray, argTypes := ts }) (hv : evlAll l args = some vs) (hf : Tryz.prog.funcs[f]? = some fn) (hb : fn.body.isNone = false) (hname : (fn.name == "runtime.NumGoroutine") = false)
    (hc : Calls Tryz.prog f vs.toArray w R) (h : ∀ e w', R e w' → ∃ v, e = .returned v ∧ WL n ops Q rest ((d, v) :: l) w') : WL n ops Q (o :: rest) l w :=
  ⟨fun a ha => wpList_plain hg fun K hK => by
    have hrun : (execOp a.eval o).run Tryz.prog w = .ok (.enter f vs.toArray) w := by
      unfold execOp
      rw [ho]
      have := evlAll_map ha hv
      have e1 : (args.toArray.map a.eval) = vs.toArray := by rw [List.map_toArray, this]
      have e2 : a.eval (.func f) = .func (.func f) #[] #[] := rfl
      have hb' : ¬ fn.body = none := fun e => by rw [e] at hb; cases hb
      have hn' : ¬ fn.name = "runtime.NumGoroutine" := by simpa using hname
      simp [resolve, e1, e2, Deferred.ofValue, invoke, callFunc, hf, hb', hn']
    unfold Oper.wp
    rw [hrun, Oper.upon_enter, hd]
    refine hc.mono fun e w'' hh => ?_
    obtain ⟨v, rfl, hwl⟩ := h e w'' hh
    exact hK _ _ (hwl.go _ (ha.put hn v))⟩
/-- Integers out of slots. -/
def evI (k : IntKind) (l : Env) : List (Nat × Operand) → Nat → Option (List Int)
  | [], _ => some []
  | (j, x) :: r, i => match Nat.beq j i, evl l x, evI k l r (i + 1) with
    | true, some (.int k' z), some zs => if k' = k then some (z :: zs) else none
    | _, _, _ => none
theorem evI_map {a : Act} (ha : Fr n a l) {k : IntKind} : ∀ {xs : List (Nat × Operand)} {i : Nat} {zs : List Int}, evI k l xs i = some zs → (xs.map fun x => (x.1, a.eval x.2)) = (((zs.map (Value.int k)).zipIdx i).map fun x => (x.2, x.1)) ∧ xs.length = zs.length
  | [], _, zs, h => by cases h; exact ⟨rfl, rfl⟩
  | (j, x) :: xs, i, zs, h => by
    unfold evI at h
    split at h
    · rename_i k' z r hb hx hr
      split at h
      · rename_i e
        subst e
        obtain rfl := Option.some.inj h
        obtain ⟨h1, h2⟩ := evI_map ha hr
        obtain rfl : j = i := Nat.eq_of_beq_eq_true hb
        refine ⟨?_, by simp [h2]⟩
        rw [List.map_cons, h1, ha.eval hx]
        rfl
      · cases h
    · cases h
/-- A slice literal of bytes. -/
theorem WL.lit {len : Nat} {parts : List (Nat × Operand)} {zs : List Int} (hg : o.guard = none) (hd : o.dst = some d) (hn : Nat.blt d n = true) (ho : o.op = .buildSlice 69 len parts.toArray) (hz : evI .u8 l parts 0 = some zs)
    (hl : Nat.beq len zs.length = true) (hs : (Nat.blt 0 len && Nat.blt len 1000) = true)
    (h : ∀ v w', Bu w' v zs → Below w.heap.size w w' → (∀ g, v.ownBlock = some g → w.heap.size ≤ g) → WL n ops Q rest ((d, v) :: l) w') : WL n ops Q (o :: rest) l w := by
  have hl' : len = zs.length := Nat.eq_of_beq_eq_true hl
  rw [Bool.and_eq_true, Nat.blt_eq, Nat.blt_eq] at hs
  obtain ⟨hs1, hs2⟩ := hs
  have hq : (Tryz.prog.info? 5).map (fun i => (i.zero, i.size)) = some (some (.int .u8 0), 1) := by kernel_rfl
  obtain ⟨ie, hie, he⟩ := Option.map_eq_some_iff.1 hq
  obtain ⟨hz0, hsz⟩ := Prod.mk.inj he
  refine WL.step hg hd hn (w' := w.alloc (.cells (zs.map (Value.int .u8)).toArray 5)) (v := .slice (some ⟨w.heap.size, 0, none⟩) len len) (fun a ha => ?_) (h _ _ ?_ ?_ ?_)
  · unfold execOp
    rw [ho]
    obtain ⟨h1, h2⟩ := evI_map ha hz
    have hf : Instr.fill (fun i => some (i * ie.size, ie.size)) ((Array.range (len * ie.size)).map ((Value.int .u8 0).cells[· % (Value.int .u8 0).cells.size]!)) (parts.toArray.map fun x => (x.1, a.eval x.2)).toList = some (zs.map (Value.int .u8)).toArray := by
      rw [Array.toList_map, h1, hsz]
      exact Great.fill_flat _ _ (fun v hv => by obtain ⟨m, _, rfl⟩ := List.mem_map.1 hv; rfl) (by simp [hl'])
    have := run_buildSlice (P := Tryz.prog) w 69 5 len (parts.toArray.map fun x => (x.1, a.eval x.2)) _ ie _ Tryz.underlying69 hie hz0 (by rw [hsz]; omega) (by rw [hsz]; omega) hf
    simp only [Sem.run_bind, this, Result.andThen_ok]
    rfl
  · rw [hl']; exact Bu.new w zs (by unfold maxLen; omega)
  · exact (Below.refl _ w).alloc (Nat.le_refl _) _
  · intro g hg2; cases hg2; exact Nat.le_refl _
/-- append of what reads as bytes onto an own row. -/
theorem WL.app {s x : Operand} {v xv : Value} {l1 l2 : List Int} (hg : o.guard = none) (hd : o.dst = some d) (hn : Nat.blt d n = true)
    (ho : o.op = .call { callee := .builtin .append, args := #[s, x], argTypes := #[69, 69] }) (hs : evl l s = some v) (hown : Bu w v l1) (hx : evl l x = some xv) (hsl : Sl .u8 w xv l2) (hb : l1.length + l2.length ≤ 140737488355328)
    (h : ∀ v' w', Bu w' v' (l1 ++ l2) → Grow w v w' v' → WL n ops Q rest ((d, v') :: l) w') : WL n ops Q (o :: rest) l w :=
  ⟨fun a ha => by
    have ho1 : OwnV 5 1 w (fun g => v.ownBlock = some g) v l1.length (l1.map (Value.int .u8)) := ⟨hown, Ones.int _ _, fun g hg => hg⟩
    refine wpList_appV hg s x 69 ho elemU8 (ha.eval hs) ho1 (ha.eval hx) (Sl.slV hsl) rfl (by unfold maxLen; omega) (by omega) ?_
    intro sp c w' h2 h3 h4
    rw [hd]
    refine (h _ w' ?_ ⟨grown_keep h3, fun g hg => (h4 g hg).imp id (fun e => by omega)⟩).go _ (ha.put hn _)
    have h5 := h2.1
    rw [← List.map_append] at h5
    show World.ownsRow _ _ _ _ _ _ _
    rw [List.length_append]
    exact h5⟩
/-- append(b, x, y ..): the bytes are laid, then appended. -/
theorem WL.push {o2 : Oper} {d2 : Nat} {len : Nat} {parts : List (Nat × Operand)} {zs : List Int} {s : Operand} {v : Value} {l1 : List Int} (hg : o.guard = none) (hd : o.dst = some d) (hn : Nat.blt d n = true) (ho : o.op = .buildSlice 69 len parts.toArray)
    (hz : evI .u8 l parts 0 = some zs) (hl : Nat.beq len zs.length = true) (hs : (Nat.blt 0 len && Nat.blt len 1000) = true) (hg2 : o2.guard = none) (hd2 : o2.dst = some d2) (hn2 : Nat.blt d2 n = true)
    (ho2 : o2.op = .call { callee := .builtin .append, args := #[s, .tmp d], argTypes := #[69, 69] }) (hsv : ∀ u, evl ((d, u) :: l) s = some v) (hfr : look l d = none) (hown : Bu w v l1) (hb : l1.length + zs.length ≤ 140737488355328)
    (h : ∀ v' w', Bu w' v' (l1 ++ zs) → Grow w v w' v' → WL n ops Q rest ((d2, v') :: l) w') : WL n ops Q (o :: o2 :: rest) l w := by
  refine WL.lit hg hd hn ho hz hl hs fun u w1 hu hb1 _ => ?_
  refine WL.app hg2 hd2 hn2 ho2 (hsv u) (hown.below hb1) (by unfold evl look; simp) hu.sl hb fun v' w2 h2 g2 => ?_
  exact (h v' w2 h2 (((Grow.refl w v).below hb1).trans g2)).le (look_free hfr)
end K
end Go.Proofs.YtlamdhekjlnccaaGreatDoor

/- Walks over the slots that are asked for: ends of code, texts, indexes, results. -/
namespace Go.Proofs.YtlamdhekjlnccaaGreatDoor
open Go.RowKit
namespace K
variable {n : Nat} {Q : Exit → Act → World → Prop} {l : Env} {w w' : World} {ops : Array Oper} {o : Oper} {rest : List Oper} {d : Nat}

theorem WQ.then {K : Act → World → Prop} {c : Code} (hK : K = c.wp Tryz.prog Q) (h : WC n c Q l w) : WQ n (Exit.then K Q) .normal l w := ⟨fun a ha => by subst hK; exact h.go a ha⟩
theorem WQ.thenExit {K : Act → World → Prop} {id : Nat} (h : WQ n Q (.exit id) l w) : WQ n (Exit.then K Q) (.exit id) l w := ⟨fun a ha => h.go a ha⟩
theorem WQ.thenRet {K : Act → World → Prop} (h : WQ n Q .ret l w) : WQ n (Exit.then K Q) .ret l w := ⟨fun a ha => h.go a ha⟩
theorem WQ.blk {id : Nat} (h : WQ n Q .normal l w) : WQ n (Exit.inBlock id Q) .normal l w := ⟨fun a ha => h.go a ha⟩
theorem WQ.blkRet {id : Nat} (h : WQ n Q .ret l w) : WQ n (Exit.inBlock id Q) .ret l w := ⟨fun a ha => h.go a ha⟩
theorem WQ.blkHere {id id' : Nat} (hi : Nat.beq id' id = true) (h : WQ n Q .normal l w) : WQ n (Exit.inBlock id Q) (.exit id') l w :=
  ⟨fun a ha => by show if id' = id then Q .normal a w else Q (.exit id') a w; rw [if_pos (Nat.eq_of_beq_eq_true hi)]; exact h.go a ha⟩
theorem WQ.blkOther {id id' : Nat} (hi : Nat.beq id' id = false) (h : WQ n Q (.exit id') l w) : WQ n (Exit.inBlock id Q) (.exit id') l w :=
  ⟨fun a ha => by show if id' = id then Q .normal a w else Q (.exit id') a w; rw [if_neg (Nat.ne_of_beq_eq_false hi)]; exact h.go a ha⟩
/-- The round's end. -/
theorem WQ.again {ι : Type} {L : ι → Env} {W : ι → World → Prop} {μ : ι → Nat} {i : ι} (j : ι) (hs : Sub l (L j)) (hw : W j w) (hm : μ j < μ i) : WQ n (Exit.then (Again n L W μ i) Q) .normal l w :=
  ⟨fun _ ha => ⟨j, ha.sub hs, hw, hm⟩⟩
/-- Ways meet. -/
theorem WC.cut {ι : Type} {x y : Code} (L : ι → Env) (W : ι → World → Prop) (h1 : WC n x (Exit.then (Meet n L W) Q) l w) (h2 : ∀ i w', W i w' → WC n y Q (L i) w') : WC n (.seq x y) Q l w :=
  ⟨fun a ha => wp_seq (Code.wp_mono (fun e a w q => by
    cases e with
    | normal => obtain ⟨i, hf, hw⟩ := q; exact (h2 i w hw).go a hf
    | exit id => exact q
    | goto l => exact q
    | ret => exact q
    | panic ch => exact q
    | outgrown => exact q) (h1.go a ha))⟩
theorem wpOper_mono {P : Program} {Q Q' : Exit → Act → World → Prop} {K K' : Act → World → Prop} {o : Oper} {a : Act} {w : World} (hq : ∀ e a w, Q e a w → Q' e a w) (hk : ∀ a w, K a w → K' a w) (h : o.wp P a w K Q) : o.wp P a w K' Q' := by
  unfold Oper.wp at h ⊢
  revert h
  generalize (execOp a.eval o).run P w = r
  intro h
  cases r with
  | ok x w2 =>
    cases x <;> first | exact hk _ _ h | exact h | skip
    all_goals first
      | (refine Calls.mono h fun e w3 h3 => ?_
         cases e with
         | returned v => exact hk _ _ h3
         | panicked ch => exact hq _ _ _ h3
         | outgrown => obtain ⟨a4, w4, h4⟩ := h3; exact ⟨a4, w4, hq _ _ _ h4⟩)
      | exact Rows.mono h fun v w3 h3 => hk _ _ h3
  | halt x w2 => cases x <;> first | exact hq _ _ _ h | exact h | skip
theorem wpList_mono' {P : Program} {ops : Array Oper} {Q Q' : Exit → Act → World → Prop} (hq : ∀ e a w, Q e a w → Q' e a w) (hl : LetsOut Q → LetsOut Q') : ∀ (rest : List Oper) (a : Act) (w : World), wpList P ops Q rest a w → wpList P ops Q' rest a w
  | [], a, w, h => hq _ _ _ h
  | o :: rest, a, w, h => by
    unfold wpList at h ⊢
    split
    · rename_i hw
      rw [if_pos hw] at h
      rcases h with h | h
      · exact .inl (wpOper_mono hq (fun a w h => wpList_mono' hq hl rest a w h) h)
      · exact .inr ⟨h.1, hl h.2⟩
    · rename_i hw
      rw [if_neg hw] at h
      exact wpList_mono' hq hl rest _ w h
/-- Ways meet behind a piece. -/
theorem WC.mid {ι : Type} {x y : Code} {K : Act → World → Prop} (L : ι → Env) (W : ι → World → Prop) (hK : K = y.wp Tryz.prog Q) (h1 : WC n x (Exit.then (Meet n L W) Q) l w) (h2 : ∀ i w', W i w' → WC n y Q (L i) w') : WC n x (Exit.then K Q) l w :=
  ⟨fun a ha => Code.wp_mono (fun e a w q => by
    subst hK
    cases e with
    | normal => obtain ⟨i, hf, hw⟩ := q; exact (h2 i w hw).go a hf
    | exit id => exact q
    | goto l => exact q
    | ret => exact q
    | panic ch => exact q
    | outgrown => exact q) (h1.go a ha)⟩
theorem WL.mid {ι : Type} {y : Code} {K : Act → World → Prop} (L : ι → Env) (W : ι → World → Prop) (hK : K = y.wp Tryz.prog Q) (h1 : WL n ops (Exit.then (Meet n L W) Q) rest l w) (h2 : ∀ i w', W i w' → WC n y Q (L i) w') : WL n ops (Exit.then K Q) rest l w :=
  ⟨fun a ha => wpList_mono' (fun e a w q => by
    subst hK
    cases e with
    | normal => obtain ⟨i, hf, hw⟩ := q; exact (h2 i w hw).go a hf
    | exit id => exact q
    | goto l => exact q
    | ret => exact q
    | panic ch => exact q
    | outgrown => exact q) (fun ⟨a, w, q⟩ => ⟨a, w, q⟩) rest a w (h1.go a ha)⟩
theorem WQ.meet {ι : Type} {L : ι → Env} {W : ι → World → Prop} (i : ι) (hs : Sub l (L i)) (hw : W i w) : WQ n (Exit.then (Meet n L W) Q) .normal l w := ⟨fun _ ha => ⟨i, ha.sub hs, hw⟩⟩
section
variable {fn : Func} {R : Ending → World → Prop}
theorem Fr.getD {a : Act} (ha : Fr n a l) {t : Nat} {v : Value} (h : look l t = some v) : a.tmps.getD t undef = v := by have := ha.slot t v h; rw [Array.getD_eq_getD_getElem?, this]; rfl
theorem WQ.ret1 {t : Nat} {v : Value} (hr : fn.results = #[.tmp t]) (hl : look l t = some v) (h : R (.returned v) w) : WQ n (bodyPost Tryz.prog fn R) .ret l w :=
  ⟨fun a ha => ⟨ha.defers, v, by have := ha.getD hl; simp only [Array.getD_eq_getD_getElem?] at this; simp [results, hr, this], h⟩⟩
theorem WQ.end1 {t : Nat} {v : Value} (hr : fn.results = #[.tmp t]) (hl : look l t = some v) (h : R (.returned v) w) : WQ n (bodyPost Tryz.prog fn R) .normal l w := ⟨fun a ha => (WQ.ret1 hr hl h).go a ha⟩
theorem WQ.ret2 {t t2 : Nat} {v v2 : Value} (hr : fn.results = #[.tmp t, .tmp t2]) (hl : look l t = some v) (hl2 : look l t2 = some v2) (h : R (.returned (.tuple #[v, v2])) w) : WQ n (bodyPost Tryz.prog fn R) .ret l w :=
  ⟨fun a ha => ⟨ha.defers, _, by rw [results_tmp2 hr, ha.getD hl, ha.getD hl2], h⟩⟩
theorem WQ.end2 {t t2 : Nat} {v v2 : Value} (hr : fn.results = #[.tmp t, .tmp t2]) (hl : look l t = some v) (hl2 : look l t2 = some v2) (h : R (.returned (.tuple #[v, v2])) w) : WQ n (bodyPost Tryz.prog fn R) .normal l w := ⟨fun a ha => (WQ.ret2 hr hl hl2 h).go a ha⟩
end

theorem idx_run {a : Act} {t e s : Nat} {x i : Operand} {b off len cap : Nat} {k : IntKind} {z : Int} {j : Nat} (ho : o.op = .indexAddr t x i) (ht : tyOf ty t = some (.slice e s))
    (hx : a.eval x = .slice (some ⟨b, off, none⟩) len cap) (hi : a.eval i = .int k z) (hz : z = (j : Int)) (hj : j < len) : (execOp a.eval o).run Tryz.prog w = .ok (.value (.pointer (some ⟨b, off + j * s, none⟩))) w := by
  obtain ⟨hu, hsz⟩ := TyOk.of tyOk ht
  have he : Tryz.prog.elem t = e := by simp [Program.elem, hu]
  have hs : (sizeOf e).run Tryz.prog w = .ok s w := by
    cases hq : Tryz.prog.info? e with
    | none => rw [hq] at hsz; cases hsz
    | some q => rw [hq] at hsz; simp at hsz; simp [sizeOf, typeInfo, hq, hsz]
  unfold execOp
  rw [ho]
  simp only [hx, hi, Sem.run_bind, run_indexAt_slice w t _ len cap k z (by rw [he]; exact hu)]
  rw [if_pos (by omega), he, hs, hz]
  simp [Addr.add_mid]
/-- An element's place in a slice. -/
theorem WL.idx {t e s : Nat} {x i : Operand} {b off len cap : Nat} {k : IntKind} {z : Int} (j q : Nat) (hg : o.guard = none) (hd : o.dst = some d) (hn : Nat.blt d n = true) (ho : o.op = .indexAddr t x i) (ht : tyOf ty t = some (.slice e s))
    (hx : evl l x = some (.slice (some ⟨b, off, none⟩) len cap)) (hi : evl l i = some (.int k z)) (hz : z = (j : Int)) (hj : j < len) (hq : off + j * s = q) (h : WL n ops Q rest ((d, .pointer (some ⟨b, q, none⟩)) :: l) w) : WL n ops Q (o :: rest) l w :=
  WL.step hg hd hn (fun _ ha => by rw [← hq]; exact idx_run ho ht (ha.eval hx) (ha.eval hi) hz hj) h
/-- A byte's, or any integer's, place and what lies there. -/
theorem WL.idxI {t e : Nat} {x i : Operand} {v : Value} {k kk : IntKind} {z : Int} {zs : List Int} (j : Nat) (hg : o.guard = none) (hd : o.dst = some d) (hn : Nat.blt d n = true) (ho : o.op = .indexAddr t x i) (ht : tyOf ty t = some (.slice e 1))
    (hx : evl l x = some v) (hsl : Sl kk w v zs) (hi : evl l i = some (.int k z)) (hz : z = (j : Int)) (hj : j < zs.length) (h : ∀ p, w.cell? p = some (.int kk (nth zs j)) → WL n ops Q rest ((d, .pointer (some p)) :: l) w) : WL n ops Q (o :: rest) l w := by
  obtain ⟨sp, cap, rfl, -, -, h3, -⟩ := hsl
  obtain ⟨b, off, rfl, -, hr⟩ := h3 (by omega)
  exact WL.idx j (off + j) hg hd hn ho ht hx hi hz hj (by rw [Nat.mul_one]) (h _ (hr.at j hj))
theorem byte_run {a : Act} {t : Nat} {x i : Operand} {s : ByteArray} {k : IntKind} {z : Int} {j : Nat} (ho : o.op = .index t x i) (ht : tyOf ty t = some .str)
    (hx : a.eval x = .string s) (hi : a.eval i = .int k z) (hz : z = (j : Int)) (hj : j < s.size) : (execOp a.eval o).run Tryz.prog w = .ok (.value (.int .u8 (s.toList.getD j 0).toNat)) w := by
  unfold execOp
  rw [ho]
  simp only [hx, hi, Sem.run_bind, run_index_string w t s k z (TyOk.of tyOk ht)]
  subst hz
  rw [dif_pos (by omega)]
  have : (s.toList.getD j 0) = s[j] := by
    rw [ByteArray.toList_eq]
    have : j < s.data.toList.length := by rw [Array.length_toList]; exact hj
    rw [List.getD_eq_getElem?_getD, List.getElem?_eq_getElem this]
    rfl
  rw [this]
  rfl
/-- A byte of a text. -/
theorem WL.byte {t : Nat} {x i : Operand} {s : ByteArray} {k : IntKind} {z : Int} (j : Nat) (hg : o.guard = none) (hd : o.dst = some d) (hn : Nat.blt d n = true) (ho : o.op = .index t x i) (ht : tyOf ty t = some .str)
    (hx : evl l x = some (.string s)) (hi : evl l i = some (.int k z)) (hz : z = (j : Int)) (hj : j < s.size) (h : WL n ops Q rest ((d, .int .u8 (s.toList.getD j 0).toNat) :: l) w) : WL n ops Q (o :: rest) l w :=
  WL.step hg hd hn (fun _ ha => byte_run ho ht (ha.eval hx) (ha.eval hi) hz hj) h
/-- A text's bytes in memory. -/
def bytesI (s : ByteArray) : List Int := s.toList.map fun c => (c.toNat : Int)
theorem bytesI_len (s : ByteArray) : (bytesI s).length = s.size := by unfold bytesI; rw [List.length_map, ByteArray.toList_eq]; rfl
theorem nth_bytesI (s : ByteArray) {j : Nat} (hj : j < s.size) : nth (bytesI s) j = (s.toList.getD j 0).toNat := by
  have h : j < s.toList.length := by rw [ByteArray.toList_eq, Array.length_toList]; exact hj
  unfold bytesI nth
  simp [h]
theorem WL.bytesOf {t t2 e : Nat} {x : Operand} {s : ByteArray} (hg : o.guard = none) (hd : o.dst = some d) (hn : Nat.blt d n = true) (ho : o.op = .convert t t2 x) (ht : tyOf ty t = some .str) (ht2 : tyOf ty t2 = some (.slice e 1)) (he : tyOf ty e = some (.int .u8))
    (hx : evl l x = some (.string s)) (hsz : s.size ≤ 140737488355328) (h : ∀ g c w', Sl .u8 w' (.slice (some ⟨g, 0, none⟩) s.size c) (bytesI s) → Below w.heap.size w w' → w.heap.size = g → WL n ops Q rest ((d, .slice (some ⟨g, 0, none⟩) s.size c) :: l) w') : WL n ops Q (o :: rest) l w := by
  have hl := bytesI_len s
  have hb := bytesWorld_below w e s
  refine WL.step hg hd hn (fun a ha => ?_) (h w.heap.size (grownCap w s.size 0 e) (Lib.bytesWorld w e s) ?_ hb rfl)
  · unfold execOp
    rw [ho]
    have := Lib.run_convert_string_bytes (P := Tryz.prog) w t t2 e s (TyOk.of tyOk ht) (TyOk.of tyOk ht2).1 (TyOk.of tyOk he)
    simp [ha.eval hx, this]
  · have hm := grownCap_le_maxLen w s.size 0 e (by unfold maxLen; omega)
    unfold maxLen at hm
    have hr : Row .u8 (Lib.bytesWorld w e s) w.heap.size 0 (bytesI s) := by
      intro j hj
      rw [hl] at hj
      rw [Nat.zero_add, Lib.bytesWorld_cell w e s j hj, nth_bytesI s hj, ByteArray.toList_eq]
    have := Sl.mk (cap := grownCap w s.size 0 e) (by rw [hl]; exact grownCap_ge _ _ _ _) (by omega) (by rw [Lib.bytesWorld_size]; omega) hr
    rw [hl] at this
    exact this
theorem WL.strOf {t t2 e : Nat} {x : Operand} {v : Value} {zs : List Int} (hg : o.guard = none) (hd : o.dst = some d) (hn : Nat.blt d n = true) (ho : o.op = .convert t t2 x) (ht : tyOf ty t = some (.slice e 1)) (ht2 : tyOf ty t2 = some .str) (he : tyOf ty e = some (.int .u8))
    (hx : evl l x = some v) (hs : Sl .u8 w v zs) (h : WL n ops Q rest ((d, .string (strOfNums zs)) :: l) w) : WL n ops Q (o :: rest) l w :=
  WL.step hg hd hn (fun a ha => by
    unfold execOp
    rw [ho]
    have hu := (TyOk.of tyOk ht).1
    have hi := TyOk.of tyOk he
    have hd := TyOk.of tyOk ht2
    obtain ⟨sp, cap, rfl, -, -, h3, -⟩ := hs
    have hrun : (convert t t2 (.slice sp zs.length cap)).run Tryz.prog w = .ok (.string (strOfNums zs)) w := by
      cases hz : zs with
      | nil =>
        cases sp with
        | none => rw [run_convert_bytes_nil w t e hu hi _ _ t2 hd]; rfl
        | some p =>
          have hl0 : (loadCells p 0).run Tryz.prog w = .ok (([] : List Int).map (Value.int .u8)).toArray w := by rfl
          rw [run_convert_bytes_string w t t2 e _ _ _ hu hi hd, List.length_nil, run_bytesToString w _ 0 cap [] hl0]
          rfl
      | cons z r =>
        obtain ⟨b, off, rfl, -, hr⟩ := h3 (by rw [hz]; simp)
        rw [← hz]
        exact run_convert_bytes_arg w t e hu hi b off zs.length cap zs rfl (fun i hi => hr i hi) t2 hd
    simp [ha.eval hx, hrun]) h
theorem WL.substr {t : Nat} {x lo hi : Operand} {s : ByteArray} {k k' : IntKind} {y z : Int} (hg : o.guard = none) (hd : o.dst = some d) (hn : Nat.blt d n = true) (ho : o.op = .slice t x (some lo) (some hi) none) (ht : tyOf ty t = some .str)
    (hx : evl l x = some (.string s)) (hlo : evl l lo = some (.int k y)) (hhi : evl l hi = some (.int k' z)) (h0 : 0 ≤ y) (h1 : y ≤ z) (h2 : z ≤ s.size) (h : WL n ops Q rest ((d, .string (s.extract y.toNat z.toNat)) :: l) w) : WL n ops Q (o :: rest) l w :=
  WL.step hg hd hn (fun a ha => by
    unfold execOp
    rw [ho]
    have hu := TyOk.of tyOk ht
    simp [ha.eval hx, ha.eval hlo, ha.eval hhi, run_sliceAt_string w t _ _ _ _ hu, run_slice_string w t s k k' y z hu h0 h1 h2]) h
theorem WL.substrTo {t : Nat} {x hi : Operand} {s : ByteArray} {k' : IntKind} {z : Int} (hg : o.guard = none) (hd : o.dst = some d) (hn : Nat.blt d n = true) (ho : o.op = .slice t x none (some hi) none) (ht : tyOf ty t = some .str)
    (hx : evl l x = some (.string s)) (hhi : evl l hi = some (.int k' z)) (h0 : 0 ≤ z) (h2 : z ≤ s.size) (h : WL n ops Q rest ((d, .string (s.extract 0 z.toNat)) :: l) w) : WL n ops Q (o :: rest) l w :=
  WL.step hg hd hn (fun a ha => by
    unfold execOp
    rw [ho]
    have hu := TyOk.of tyOk ht
    have := run_slice_string_to_if (P := Tryz.prog) w t s k' z hu
    rw [if_pos ⟨h0, h2⟩] at this
    simp [ha.eval hx, ha.eval hhi, run_sliceAt_string w t _ _ _ _ hu, this]) h
/-- Two texts, one behind the other. -/
theorem WL.concat {t t2 : Nat} {x y : Operand} {a b : ByteArray} (hg : o.guard = none) (hd : o.dst = some d) (hn : Nat.blt d n = true) (ho : o.op = .binOp .add t x y t2) (hx : evl l x = some (.string a)) (hy : evl l y = some (.string b))
    (hb : a.size + b.size ≤ 140737488355328) (h : WL n ops Q rest ((d, .string (a ++ b)) :: l) w) : WL n ops Q (o :: rest) l w :=
  WL.step hg hd hn (fun c hc => by
    unfold execOp
    rw [ho]
    have := run_string_add_if (P := Tryz.prog) w a b
    rw [if_neg (by omega)] at this
    simp [hc.eval hx, hc.eval hy, eqGuard_add, binOp_string_add, this]) h
def evlParts (l : Env) : List (Nat × Operand) → Option (List (Nat × Value))
  | [] => some []
  | (i, x) :: r => match evl l x, evlParts l r with
    | some v, some vs => some ((i, v) :: vs)
    | _, _ => none
theorem evlParts_map {a : Act} (ha : Fr n a l) : ∀ {xs : List (Nat × Operand)} {vs : List (Nat × Value)}, evlParts l xs = some vs → (xs.map fun x => (x.1, a.eval x.2)) = vs
  | [], vs, h => by cases h; rfl
  | (i, x) :: xs, vs, h => by
    unfold evlParts at h
    split at h
    · rename_i v r h1 h2
      obtain rfl := Option.some.inj h
      rw [List.map_cons, ha.eval h1, evlParts_map ha h2]
    · cases h
/-- A struct or an array of parts. -/
theorem WL.build {t : Nat} {parts : List (Nat × Operand)} {ps : List (Nat × Value)} (cells : List Value) (hg : o.guard = none) (hd : o.dst = some d) (hn : Nat.blt d n = true) (ho : o.op = .build t parts.toArray) (hp : evlParts l parts = some ps)
    (hf : Tryz.prog.built t ps = some cells.toArray) (h : WL n ops Q rest ((d, .agg cells.toArray) :: l) w) : WL n ops Q (o :: rest) l w :=
  ⟨fun a ha => wpList_buildTo hg t parts.toArray ho (some d) hd cells.toArray (by
    rw [show (parts.toArray.map fun x => (x.1, a.eval x.2)).toList = ps by rw [Array.toList_map]; exact evlParts_map ha hp]
    exact hf) (h.go _ (ha.put hn _))⟩
/-- What a slice literal's cells are. -/
def litCells (P : Program) (e len : Nat) (ps : List (Nat × Value)) : Option (Array Value) :=
  match P.info? e with
  | some ie => match ie.zero with
    | some z => if 0 < len * ie.size ∧ len * ie.size ≤ 1000 then Instr.fill (fun i => some (i * ie.size, ie.size)) ((Array.range (len * ie.size)).map (z.cells[· % z.cells.size]!)) ps else none
    | none => none
  | none => none
theorem WL.litV {t e s len : Nat} {parts : List (Nat × Operand)} {ps : List (Nat × Value)} (cells : List Value) (hg : o.guard = none) (hd : o.dst = some d) (hn : Nat.blt d n = true) (ho : o.op = .buildSlice t len parts.toArray) (ht : tyOf ty t = some (.slice e s))
    (hp : evlParts l parts = some ps) (hf : litCells Tryz.prog e len ps = some cells.toArray) (h : ∀ g w', Fresh w g w' e cells → WL n ops Q rest ((d, .slice (some ⟨g, 0, none⟩) len len) :: l) w') : WL n ops Q (o :: rest) l w :=
  WL.step hg hd hn (fun a ha => by
    unfold litCells at hf
    cases hie : Tryz.prog.info? e with
    | none => rw [hie] at hf; cases hf
    | some ie =>
      rw [hie] at hf
      simp only at hf
      cases hz : ie.zero with
      | none => rw [hz] at hf; cases hf
      | some z =>
        rw [hz] at hf
        simp only at hf
        split at hf
        · rename_i hlen
          unfold execOp
          rw [ho]
          have hpm := evlParts_map ha hp
          have := run_buildSlice (P := Tryz.prog) w t e len (parts.toArray.map fun x => (x.1, a.eval x.2)) cells.toArray ie z (TyOk.of tyOk ht).1 hie hz (by omega) (by omega) (by rw [Array.toList_map]; simp only; rw [hpm]; exact hf)
          simp only [Sem.run_bind, this, Result.andThen_ok]
          rfl
        · cases hf) (h _ _ (Fresh.mk' w e cells))
end K
end Go.Proofs.YtlamdhekjlnccaaGreatDoor

namespace Go.Proofs.YtlamdhekjlnccaaGreatDoor
open Go.RowKit
namespace K
structure Hold (Q : Prop) : Prop where
  out : Q
/-- Goes on by the script that is its default argument. -/
theorem kgo {P Q : Prop} (q : Q) (h : Hold Q → P := by intro q; (repeat (first | ((with_reducible refine WL.topT ?_ ?_); omega) | ((with_reducible refine WL.topF ?_ ?_); omega) | ((with_reducible refine WL.top64 ?_ ?_); omega) | refine WC.seq ?_ | refine WC.block ?_ | refine WC.region ?_ | refine WL.nil ?_ | refine WC.skip ?_ | refine WC.exit ?_ | refine WC.ret ?_ | refine WQ.then rfl ?_ | refine WQ.thenExit ?_ | refine WQ.thenRet ?_ | refine WQ.blk ?_ | refine WQ.blkRet ?_ | refine WQ.blkHere rfl ?_ | refine WQ.blkOther rfl ?_ | refine WL.pure rfl rfl rfl rfl ?_ | refine WL.on rfl rfl ?_ | refine WL.off rfl rfl rfl ?_ | refine WC.condTrue rfl ?_ | refine WC.condFalse rfl ?_)); exact q.out) : P := h ⟨q⟩
/-- Goes on, loads too. -/
theorem kgl {P Q : Prop} (q : Q) (h : Hold Q → P := by intro q; (repeat (first | ((with_reducible refine WL.topT ?_ ?_); omega) | ((with_reducible refine WL.topF ?_ ?_); omega) | ((with_reducible refine WL.top64 ?_ ?_); omega) | refine WC.seq ?_ | refine WC.block ?_ | refine WC.region ?_ | refine WL.nil ?_ | refine WC.skip ?_ | refine WC.exit ?_ | refine WC.ret ?_ | refine WQ.then rfl ?_ | refine WQ.thenExit ?_ | refine WQ.thenRet ?_ | refine WQ.blk ?_ | refine WQ.blkRet ?_ | refine WQ.blkHere rfl ?_ | refine WQ.blkOther rfl ?_ | refine WL.pure rfl rfl rfl rfl ?_ | refine WL.on rfl rfl ?_ | refine WL.off rfl rfl rfl ?_ | refine WL.load rfl rfl rfl rfl rfl rfl (by assumption) ?_ | refine WC.condTrue rfl ?_ | refine WC.condFalse rfl ?_)); exact q.out) : P := h ⟨q⟩
end K
end Go.Proofs.YtlamdhekjlnccaaGreatDoor

/- Regions that draw their order, in which what is read is read ahead of the operation number n: reads are taken first, though n overwrites them. -/
namespace Go.Proofs.YtlamdhekjlnccaaGreatDoor
open Go.RowKit

section
variable {P : Program} {ops : Array Oper} {Q : Exit → Act → World → Prop} {md : Region.Mode} {S : World → Prop} {n : Nat}

/-- Whatever order is picked, and till n has come up S holds. -/
def wpTill (P : Program) (md : Region.Mode) (ops : Array Oper) (Q : Exit → Act → World → Prop) (S : World → Prop) (n : Nat) : Nat → Array Bool → Act → World → Prop
  | 0, listed, a, w => Region.ready md ops listed = [] ∧ Q .normal a w
  | fuel + 1, listed, a, w =>
    (Region.ready md ops listed = [] → Q .normal a w) ∧
    ∀ i ∈ Region.ready md ops listed, wpOp P ops Q i (fun a' w' => ((listed.setIfInBounds i true).getD n false = true ∨ S w') ∧ wpTill P md ops Q S n fuel (listed.setIfInBounds i true) a' w') a w

theorem wpAny_of_till : ∀ (fuel : Nat) (listed : Array Bool) (a : Act) (w : World), wpTill P md ops Q S n fuel listed a w → wpAny P md ops Q fuel listed a w
  | 0, _, _, _, h => h
  | fuel + 1, _, _, _, h => ⟨h.1, fun i hi => wpOp_mono (fun a' w' h' => wpAny_of_till fuel _ a' w' h'.2) (h.2 i hi)⟩

/-- The numbers of us wait for i, directly or through others of us; n is among them. -/
def waitB (md : Region.Mode) (ops : Array Oper) (listed : Array Bool) (i n : Nat) (us : List Nat) : Bool :=
  us.contains n && us.all fun q => !listed.getD q true && ((ops[q]?).map (·.after.any fun e => Region.binds md e && (e.on == i || us.contains e.on))).getD false

theorem waitB_n {listed : Array Bool} {i : Nat} {us : List Nat} (h : waitB md ops listed i n us = true) : listed.getD n true = false := by
  unfold waitB at h
  simp only [Bool.and_eq_true, List.all_eq_true] at h
  have := h.2 n (by simpa using h.1)
  simpa using this.1
theorem waitB_not {listed : Array Bool} {i j : Nat} {us : List Nat} (h : waitB md ops listed i n us = true) (hi : listed.getD i true = false) (hj : j ∈ Region.ready md ops listed) : j ∉ us := by
  intro hju
  unfold waitB at h
  simp only [Bool.and_eq_true, List.all_eq_true] at h
  obtain ⟨-, h2⟩ := h
  obtain ⟨-, oj, hoj, hall⟩ := mem_ready.1 hj
  have h3 := (h2 j hju).2
  rw [hoj] at h3
  simp only [Option.map_some, Option.getD_some] at h3
  obtain ⟨e, he, hb⟩ := Array.any_eq_true'.1 h3
  simp only [Bool.and_eq_true, Bool.or_eq_true, beq_iff_eq] at hb
  have h4 := hall e he hb.1
  have h5 : listed.getD e.on true = false := by
    rcases hb.2 with e1 | e1
    · rw [e1]; exact hi
    · have := (h2 e.on (by simpa using e1)).1
      simpa using this
  rcases Nat.lt_or_ge e.on listed.size with h' | h'
  · simp [h'] at h4 h5; rw [h5] at h4; cases h4
  · simp [Array.getElem?_eq_none h'] at h4
theorem waitB_set {listed : Array Bool} {i j : Nat} {us : List Nat} (h : waitB md ops listed i n us = true) (hj : j ∉ us) : waitB md ops (listed.setIfInBounds j true) i n us = true := by
  unfold waitB at *
  simp only [Bool.and_eq_true, List.all_eq_true] at *
  refine ⟨h.1, fun q hq => ⟨?_, (h.2 q hq).2⟩⟩
  rw [getD_set_ne true (by intro e; subst e; exact hj hq)]
  exact (h.2 q hq).1
theorem getD_both' {listed : Array Bool} {j : Nat} (h : listed.getD j true = false) : listed.getD j false = false := by
  rcases Nat.lt_or_ge j listed.size with h' | h'
  · simp [h'] at h ⊢; exact h
  · simp [Array.getElem?_eq_none h'] at h

theorem wpTill_first {i : Nat} {oi : Oper} {v : Value} {us : List Nat} (hi : ops[i]? = some oi) (hsel : ∀ (j : Nat) (o : Oper) cs b, ops[j]? = some o → o.op ≠ .select cs b)
    (hQ : ∀ c a w, Q (.panic c) (a.put oi.dst v) w → Q (.panic c) a w) :
    ∀ (fuel : Nat) (listed : Array Bool) (a : Act) (w : World),
      (∀ j oj, ops[j]? = some oj → j ≠ i → listed.getD j true = false → (∀ e ∈ oj.after, Region.binds md e = true → e.on ≠ i) → oi.apart ops oj = true) →
      waitB md ops listed i n us = true → i ∉ us →
      i ∈ Region.ready md ops listed → YieldsIf P ops S oi v a → S w →
      wpTill P md ops Q S n fuel (listed.setIfInBounds i true) (a.put oi.dst v) w → wpTill P md ops Q S n (fuel + 1) listed a w := by
  intro fuel
  induction fuel with
  | zero =>
    intro listed a w _ _ _ hr hy hS H
    refine ⟨fun h => (by rw [h] at hr; cases hr), fun j hj => ?_⟩
    by_cases hji : j = i
    · subst hji; exact hy.wpOp hi hS ⟨.inr hS, H⟩
    · have := ready_mono hj hji
      rw [H.1] at this
      cases this
  | succ fuel ih =>
    intro listed a w hfree hw hiu hr hy hS H
    refine ⟨fun h => (by rw [h] at hr; cases hr), fun j hj => ?_⟩
    by_cases hji : j = i
    · subst hji; exact hy.wpOp hi hS ⟨.inr hS, H⟩
    · have h1 := H.2 j (ready_mono hj hji)
      have hiun := (mem_ready.1 hr).1
      have hju : j ∉ us := waitB_not hw hiun hj
      have hnu : n ∈ us := by unfold waitB at hw; simp only [Bool.and_eq_true] at hw; simpa using hw.1
      have hjn : j ≠ n := fun e => hju (e ▸ hnu)
      have hin : i ≠ n := fun e => hiu (e ▸ hnu)
      obtain ⟨hjun, oj, hoj, hall⟩ := mem_ready.1 hj
      have hnot : ∀ e ∈ oj.after, Region.binds md e = true → e.on ≠ i := fun e he hb heq => by
        have h1 := hall e he hb
        rw [heq, getD_both' hiun] at h1
        cases h1
      have h2 := wpOp_putIf hoj (hfree j oj hoj hji hjun hnot) (fun cs b => hsel i oi cs b hi) (fun cs b => hsel j oj cs b hoj) hQ hy h1
      have hfree' : ∀ k ok, ops[k]? = some ok → k ≠ i → (listed.setIfInBounds j true).getD k true = false →
          (∀ e ∈ ok.after, Region.binds md e = true → e.on ≠ i) → oi.apart ops ok = true := fun k ok hk hki hun hno => by
        refine hfree k ok hk hki ?_ hno
        by_cases hjk : j = k
        · subst hjk; exact hjun
        · rw [getD_set_ne true hjk] at hun; exact hun
      have hnf : ∀ x, (((listed.setIfInBounds i true).setIfInBounds j true).getD n false = true ∨ x) → x := fun x h => by
        rcases h with h | h
        · rw [getD_set_ne false hjn, getD_set_ne false hin, getD_both' (waitB_n hw)] at h; cases h
        · exact h
      refine wpOp_mono (fun a' w' h3 => ⟨.inr (hnf _ h3.2.1), ih (listed.setIfInBounds j true) a' w' hfree' (waitB_set hw hju) hiu (ready_mono hr (Ne.symm hji)) h3.1 (hnf _ h3.2.1) ?_⟩) h2
      rw [Array.setIfInBounds_comm _ _ hji]
      exact h3.2.2

theorem wpTill_free {i : Nat} {oi : Oper} {v : Value} (hi : ops[i]? = some oi) (hsel : ∀ (j : Nat) (o : Oper) cs b, ops[j]? = some o → o.op ≠ .select cs b)
    (hQ : ∀ c a w, Q (.panic c) (a.put oi.dst v) w → Q (.panic c) a w) (hin : i ≠ n) :
    ∀ (fuel : Nat) (listed : Array Bool) (a : Act) (w : World),
      (∀ j oj, ops[j]? = some oj → j ≠ i → listed.getD j true = false → (∀ e ∈ oj.after, Region.binds md e = true → e.on ≠ i) → oi.apart ops oj = true) →
      i ∈ Region.ready md ops listed → YieldsIf P ops (fun _ => True) oi v a → (listed.getD n false = true ∨ S w) →
      wpTill P md ops Q S n fuel (listed.setIfInBounds i true) (a.put oi.dst v) w → wpTill P md ops Q S n (fuel + 1) listed a w := by
  intro fuel
  induction fuel with
  | zero =>
    intro listed a w _ hr hy hS H
    refine ⟨fun h => (by rw [h] at hr; cases hr), fun j hj => ?_⟩
    by_cases hji : j = i
    · subst hji; exact hy.wpOp hi trivial ⟨by rw [getD_set_ne false hin]; exact hS, H⟩
    · have := ready_mono hj hji
      rw [H.1] at this
      cases this
  | succ fuel ih =>
    intro listed a w hfree hr hy hS H
    refine ⟨fun h => (by rw [h] at hr; cases hr), fun j hj => ?_⟩
    by_cases hji : j = i
    · subst hji; exact hy.wpOp hi trivial ⟨by rw [getD_set_ne false hin]; exact hS, H⟩
    · have h1 := H.2 j (ready_mono hj hji)
      have hiun := (mem_ready.1 hr).1
      obtain ⟨hjun, oj, hoj, hall⟩ := mem_ready.1 hj
      have hnot : ∀ e ∈ oj.after, Region.binds md e = true → e.on ≠ i := fun e he hb heq => by
        have h1 := hall e he hb
        rw [heq, getD_both' hiun] at h1
        cases h1
      have h2 := wpOp_putIf hoj (hfree j oj hoj hji hjun hnot) (fun cs b => hsel i oi cs b hi) (fun cs b => hsel j oj cs b hoj) hQ hy h1
      have hfree' : ∀ k ok, ops[k]? = some ok → k ≠ i → (listed.setIfInBounds j true).getD k true = false →
          (∀ e ∈ ok.after, Region.binds md e = true → e.on ≠ i) → oi.apart ops ok = true := fun k ok hk hki hun hno => by
        refine hfree k ok hk hki ?_ hno
        by_cases hjk : j = k
        · subst hjk; exact hjun
        · rw [getD_set_ne true hjk] at hun; exact hun
      have hT : ∀ x, (((listed.setIfInBounds i true).setIfInBounds j true).getD n false = true ∨ x) → ((listed.setIfInBounds j true).getD n false = true ∨ x) := fun x h => by
        rw [Array.setIfInBounds_comm _ _ (Ne.symm hji), getD_set_ne false hin] at h; exact h
      refine wpOp_mono (fun a' w' h3 => ⟨hT _ h3.2.1, ih (listed.setIfInBounds j true) a' w' hfree' (ready_mono hr (Ne.symm hji)) h3.1 (hT _ h3.2.1) ?_⟩) h2
      rw [Array.setIfInBounds_comm _ _ hji]
      exact h3.2.2

/-- A read, taken first. -/
theorem till_read {i : Nat} {oi : Oper} {v : Value} {fuel : Nat} {listed : Array Bool} {a : Act} {w : World} (us : List Nat) (hi : ops[i]? = some oi)
    (hs : Region.noSelect ops = true) (hf : Region.free md ops listed i = true) (hr : (Region.ready md ops listed).contains i = true) (hu : waitB md ops listed i n us = true) (hiu : us.contains i = false)
    (hQ : ∀ c a w, Q (.panic c) (a.put oi.dst v) w → Q (.panic c) a w) (hw : Region.wanted oi (yielded ops a.tmps) = true) (hy : ∀ w, S w → (execOp a.eval oi).run P w = .ok (.value v) w) (hS : S w)
    (h : wpTill P md ops Q S n fuel (listed.setIfInBounds i true) (a.put oi.dst v) w) : wpTill P md ops Q S n (fuel + 1) listed a w :=
  wpTill_first hi (Region.noSelect_spec hs) hQ fuel listed a w (Region.free_spec hi hf) hu (by simpa using hiu) (by simpa using hr) (.inl ⟨hw, hy⟩) hS h
/-- What needs no memory, taken first. -/
theorem till_free {i : Nat} {oi : Oper} {v : Value} {fuel : Nat} {listed : Array Bool} {a : Act} {w : World} (hi : ops[i]? = some oi)
    (hs : Region.noSelect ops = true) (hf : Region.free md ops listed i = true) (hr : (Region.ready md ops listed).contains i = true) (hin : (i == n) = false)
    (hQ : ∀ c a w, Q (.panic c) (a.put oi.dst v) w → Q (.panic c) a w) (hS : listed.getD n false = true ∨ S w) (hw : Region.wanted oi (yielded ops a.tmps) = true) (hy : ∀ w, (execOp a.eval oi).run P w = .ok (.value v) w)
    (h : wpTill P md ops Q S n fuel (listed.setIfInBounds i true) (a.put oi.dst v) w) : wpTill P md ops Q S n (fuel + 1) listed a w :=
  wpTill_free hi (Region.noSelect_spec hs) hQ (by simpa using hin) fuel listed a w (Region.free_spec hi hf) (by simpa using hr) (.inl ⟨hw, fun w _ => hy w⟩) hS h
/-- The only one that may come up. -/
theorem till_one {i : Nat} {oi : Oper} {fuel : Nat} {listed : Array Bool} {a : Act} {w : World} (hr : Region.ready md ops listed = [i]) (hi : ops[i]? = some oi)
    (h : ∀ K' : Act → World → Prop, (∀ a w, ((listed.setIfInBounds i true).getD n false = true ∨ S w) → wpTill P md ops Q S n fuel (listed.setIfInBounds i true) a w → K' a w) → if Region.wanted oi (yielded ops a.tmps) = true then Oper.wp P oi a w K' Q else K' (a.put oi.dst undef) w) :
    wpTill P md ops Q S n (fuel + 1) listed a w :=
  ⟨(fun h0 => by rw [h0] at hr; cases hr), fun j hj => by
    rw [hr] at hj
    obtain rfl : j = i := by simpa using hj
    have := h (fun a' w' => ((listed.setIfInBounds j true).getD n false = true ∨ S w') ∧ wpTill P md ops Q S n fuel (listed.setIfInBounds j true) a' w') (fun a w h1 h2 => ⟨h1, h2⟩)
    unfold wpOp
    simp only [hi]
    by_cases hw : Region.wanted oi (yielded ops a.tmps) = true
    · rw [if_pos hw] at this ⊢; exact .inl this
    · rw [if_neg hw] at this ⊢; exact this⟩
theorem till_done {listed : Array Bool} {a : Act} {w : World} (hr : Region.ready md ops listed = []) (h : Q .normal a w) : ∀ fuel, wpTill P md ops Q S n fuel listed a w
  | 0 => ⟨hr, h⟩
  | _ + 1 => ⟨fun _ => h, by rw [hr]; simp⟩
/-- The beginning. -/
theorem wp_region_till {id : Nat} {a : Act} {w : World} (n : Nat) (S : World → Prop) (hm : P.follows .mixedOrders = true)
    (h : wpTill P .any ops Q S n ops.size (Array.replicate ops.size false) a w.drew) : (Code.region id ops true).wp P Q a w :=
  wp_region_any hm (wpAny_of_till _ _ _ _ h)

end
end Go.Proofs.YtlamdhekjlnccaaGreatDoor

/- Walks over the slots that are asked for: regions that draw their order. -/
namespace Go.Proofs.YtlamdhekjlnccaaGreatDoor
open Go.RowKit
namespace K
variable {n : Nat} {Q : Exit → Act → World → Prop} {l : Env} {w w' : World} {ops : Array Oper} {o : Oper} {rest : List Oper} {d : Nat} {S : World → Prop} {m fuel : Nat} {listed : Array Bool}

/-- What goes on behind a step of such a region. -/
def DK (ops : Array Oper) (Q : Exit → Act → World → Prop) (S : World → Prop) (m fuel : Nat) (listed : Array Bool) (a : Act) (w : World) : Prop :=
  (listed.getD m false = true ∨ S w) ∧ wpTill Tryz.prog .any ops Q S m fuel listed a w
structure WD (n : Nat) (ops : Array Oper) (Q : Exit → Act → World → Prop) (S : World → Prop) (m fuel : Nat) (listed : Array Bool) (l : Env) (w : World) : Prop where
  go : ∀ a, Fr n a l → wpTill Tryz.prog .any ops Q S m fuel listed a w

/-- Nothing but a draw. -/
structure Drew (w w' : World) : Prop where
  below : ∀ B, Below B w w'
  heap : w'.heap = w.heap
theorem Drew.mk' (w : World) : Drew w w.drew := ⟨fun B => ((Keep.of_below (Below.refl B w)).drewN 1).below, rfl⟩

theorem WC.drawn {id : Nat} {ops : List Oper} (m : Nat) (S : World → Prop) (h : ∀ w', Drew w w' → WD n ops.toArray Q S m ops.length (Array.replicate ops.length false) l w') : WC n (.region id ops.toArray true) Q l w :=
  ⟨fun a ha => wp_region_till m S (by kernel_rfl) ((h _ (Drew.mk' w)).go a ha)⟩
theorem wpOp_of_list {K : Act → World → Prop} {i : Nat} {oi : Oper} {a : Act} (hi : ops[i]? = some oi) (h : wpList Tryz.prog ops (Exit.then K Q) [oi] a w) : wpOp Tryz.prog ops Q i K a w := by
  unfold wpOp
  simp only [hi]
  unfold wpList at h
  by_cases hw : Region.wanted oi (yielded ops a.tmps) = true
  · rw [if_pos hw] at h ⊢
    rcases h with h | ⟨h1, a2, w2, h2⟩
    · left
      unfold Oper.wp at h ⊢
      revert h
      generalize (execOp a.eval oi).run Tryz.prog w = r
      intro h
      cases r with
      | ok x w2 =>
        cases x <;> first | exact h | skip
        all_goals first
          | exact h
          | (refine Calls.mono h fun e w3 h3 => ?_
             cases e with
             | returned v => exact h3
             | panicked ch => exact h3
             | outgrown => obtain ⟨a4, w4, h4⟩ := h3; exact ⟨a4, w4, h4⟩)
      | halt x w2 => cases x <;> first | exact h | skip
    · exact .inr ⟨h1, a2, w2, h2⟩
  · rw [if_neg hw] at h ⊢
    exact h
theorem WD.one {oi : Oper} (i : Nat) (hr : Region.ready .any ops listed = [i]) (hi : ops[i]? = some oi) (h : WL n ops (Exit.then (DK ops Q S m fuel (listed.setIfInBounds i true)) Q) [oi] l w) : WD n ops Q S m (fuel + 1) listed l w :=
  ⟨fun a ha => ⟨(fun h0 => by rw [h0] at hr; cases hr), fun j hj => by
    rw [hr] at hj
    obtain rfl : j = i := by simpa using hj
    exact wpOp_of_list hi (h.go a ha)⟩⟩
/-- Two may come up. -/
theorem WD.two {oi oj : Oper} (i j : Nat) (hr : Region.ready .any ops listed = [i, j]) (hi : ops[i]? = some oi) (hj : ops[j]? = some oj) (h1 : WL n ops (Exit.then (DK ops Q S m fuel (listed.setIfInBounds i true)) Q) [oi] l w)
    (h2 : WL n ops (Exit.then (DK ops Q S m fuel (listed.setIfInBounds j true)) Q) [oj] l w) : WD n ops Q S m (fuel + 1) listed l w :=
  ⟨fun a ha => ⟨(fun h0 => by rw [h0] at hr; cases hr), fun k hk => by
    rw [hr] at hk
    rcases List.mem_cons.1 hk with e | e
    · subst e; exact wpOp_of_list hi (h1.go a ha)
    · obtain rfl : k = j := by simpa using e
      exact wpOp_of_list hj (h2.go a ha)⟩⟩
theorem WQ.dk (hS : listed.getD m false = true ∨ S w) (h : WD n ops Q S m fuel listed l w) : WQ n (Exit.then (DK ops Q S m fuel listed) Q) .normal l w := ⟨fun a ha => ⟨hS, h.go a ha⟩⟩
theorem WD.done (hr : Region.ready .any ops listed = []) (h : WQ n Q .normal l w) : WD n ops Q S m fuel listed l w := ⟨fun a ha => till_done hr (h.go a ha) fuel⟩
/-- May the operation i be taken first (it waits for nothing; what else may come up is apart from it)? m: the last one. -/
def mayB (ops : Array Oper) (listed : Array Bool) (i m : Nat) : Bool := Region.noSelect ops && Region.free .any ops listed i && (Region.ready .any ops listed).contains i && !(i == m)
def mayR (ops : Array Oper) (listed : Array Bool) (i m : Nat) (us : List Nat) : Bool := Region.noSelect ops && Region.free .any ops listed i && (Region.ready .any ops listed).contains i && waitB .any ops listed i m us && !(us.contains i)
/-- Panics pass. -/
def Passes (Q : Exit → Act → World → Prop) : Prop := ∀ c (a : Act) d v w, Q (.panic c) (a.put (some d) v) w → Q (.panic c) a w
theorem WD.first {oi : Oper} {v : Value} (i : Nat) (hi : ops[i]? = some oi) (hs : mayB ops listed i m = true) (hd : oi.dst = some d) (hn : Nat.blt d n = true) (hQ : Passes Q)
    (hy : ∀ a, Fr n a l → YieldsIf Tryz.prog ops (fun _ => True) oi v a) (hS : listed.getD m false = true ∨ S w) (h : WD n ops Q S m fuel (listed.setIfInBounds i true) ((d, v) :: l) w) : WD n ops Q S m (fuel + 1) listed l w :=
  ⟨fun a ha => by
    unfold mayB at hs
    simp only [Bool.and_eq_true, Bool.not_eq_true'] at hs
    exact wpTill_free hi (Region.noSelect_spec hs.1.1.1) (by rw [hd]; exact fun c a w => hQ c a d v w) (by simpa using hs.2) fuel listed a w (Region.free_spec hi hs.1.1.2) (by simpa using hs.1.2) (hy a ha) hS (by rw [hd]; exact h.go _ (ha.put hn v))⟩
/-- A pure operation, taken first. -/
theorem WD.free {oi : Oper} {v : Value} (i : Nat) (hi : ops[i]? = some oi) (hs : mayB ops listed i m = true) (hd : oi.dst = some d) (hn : Nat.blt d n = true)
    (hQ : Passes Q) (hw : wants ops l oi = some true) (hv : pv ty l oi.op = some v) (hS : listed.getD m false = true ∨ S w) (h : WD n ops Q S m fuel (listed.setIfInBounds i true) ((d, v) :: l) w) : WD n ops Q S m (fuel + 1) listed l w :=
  WD.first i hi hs hd hn hQ (fun _ ha => .inl ⟨wants_run ha hw, fun w _ => pv_run tyOk ha hv w⟩) hS h
/-- The same, its value in other words. -/
theorem WD.freeAs {oi : Oper} {v : Value} (i : Nat) (v' : Value) (hi : ops[i]? = some oi) (hs : mayB ops listed i m = true) (hd : oi.dst = some d) (hn : Nat.blt d n = true)
    (hQ : Passes Q) (hw : wants ops l oi = some true) (hv : pv ty l oi.op = some v) (e : v = v') (hS : listed.getD m false = true ∨ S w) (h : WD n ops Q S m fuel (listed.setIfInBounds i true) ((d, v') :: l) w) : WD n ops Q S m (fuel + 1) listed l w :=
  WD.first i hi hs hd hn hQ (fun _ ha => .inl ⟨wants_run ha hw, fun w _ => pv_run tyOk ha (hv.trans (congrArg some e)) w⟩) hS h
theorem WD.top {v v' : Value} (e : v = v') (h : WD n ops Q S m fuel listed ((d, v') :: l) w) : WD n ops Q S m fuel listed ((d, v) :: l) w := by subst e; exact h
theorem WD.topT {p : Prop} [Decidable p] (hp : p) (h : WD n ops Q S m fuel listed ((d, .bool true) :: l) w) : WD n ops Q S m fuel listed ((d, .bool (decide p)) :: l) w := WD.top (congrArg Value.bool (decide_eq_true hp)) h
theorem WD.topF {p : Prop} [Decidable p] (hp : ¬ p) (h : WD n ops Q S m fuel listed ((d, .bool false) :: l) w) : WD n ops Q S m fuel listed ((d, .bool (decide p)) :: l) w := WD.top (congrArg Value.bool (decide_eq_false hp)) h
theorem WD.top64 {x : Int} (hx : -9223372036854775808 ≤ x ∧ x ≤ 9223372036854775807) (h : WD n ops Q S m fuel listed ((d, .int .i64 x) :: l) w) : WD n ops Q S m fuel listed ((d, .int .i64 (IntKind.wrap .i64 x)) :: l) w := WD.top (congrArg (Value.int .i64) (IntWalk.i64_in _ hx)) h
/-- An operation that is not asked for. -/
theorem WD.skip {oi : Oper} (i : Nat) (hi : ops[i]? = some oi) (hs : mayB ops listed i m = true) (hd : oi.dst = some d) (hn : Nat.blt d n = true)
    (hQ : Passes Q) (hw : wants ops l oi = some false) (hS : listed.getD m false = true ∨ S w) (h : WD n ops Q S m fuel (listed.setIfInBounds i true) ((d, undef) :: l) w) : WD n ops Q S m (fuel + 1) listed l w :=
  WD.first i hi hs hd hn hQ (fun _ ha => .inr ⟨wants_run ha hw, rfl⟩) hS h
/-- What is read, taken first: its value is the same whatever comes ahead of it. -/
theorem WD.read {oi : Oper} {v : Value} (i : Nat) (us : List Nat) (hi : ops[i]? = some oi) (hs : mayR ops listed i m us = true) (hd : oi.dst = some d) (hn : Nat.blt d n = true)
    (hQ : Passes Q) (hw : wants ops l oi = some true) (hv : ∀ a, Fr n a l → ∀ w, S w → (execOp a.eval oi).run Tryz.prog w = .ok (.value v) w) (hS : S w) (h : WD n ops Q S m fuel (listed.setIfInBounds i true) ((d, v) :: l) w) : WD n ops Q S m (fuel + 1) listed l w :=
  ⟨fun a ha => by
    unfold mayR at hs
    simp only [Bool.and_eq_true, Bool.not_eq_true'] at hs
    exact wpTill_first hi (Region.noSelect_spec hs.1.1.1.1) (by rw [hd]; exact fun c a w => hQ c a d v w) fuel listed a w (Region.free_spec hi hs.1.1.1.2) hs.1.2 (by simpa using hs.2) (by simpa using hs.1.1.2) (.inl ⟨wants_run ha hw, hv a ha⟩) hS (by rw [hd]; exact h.go _ (ha.put hn v))⟩
theorem WD.load {oi : Oper} {t : Nat} {x : Operand} {p : Addr} {v : Value} (i : Nat) (us : List Nat) (hi : ops[i]? = some oi) (hs : mayR ops listed i m us = true) (hd : oi.dst = some d) (hn : Nat.blt d n = true)
    (hQ : Passes Q) (hw : wants ops l oi = some true) (ho : oi.op = .load t x) (hx : evl l x = some (.pointer (some p))) (ht : scal (tyOf ty t) = true) (hc : ∀ w, S w → w.cell? p = some v) (hS : S w)
    (h : WD n ops Q S m fuel (listed.setIfInBounds i true) ((d, v) :: l) w) : WD n ops Q S m (fuel + 1) listed l w :=
  WD.read i us hi hs hd hn hQ hw (fun a ha w hw => by unfold execOp; rw [ho]; simp [ha.eval hx, Instr.loadAt, Instr.sureAddr, scal_run ht p (hc w hw)]) hS h
theorem WD.loadMid {oi : Oper} {t b off mm : Nat} {x : Operand} {cs : List Value} (i : Nat) (us : List Nat) (hi : ops[i]? = some oi) (hs : mayR ops listed i m us = true) (hd : oi.dst = some d) (hn : Nat.blt d n = true)
    (hQ : Passes Q) (hw : wants ops l oi = some true) (ho : oi.op = .load t x) (hx : evl l x = some (.pointer (some ⟨b, off, none⟩))) (ht : cellsN (tyOf ty t) = some mm) (hc : ∀ w, S w → w.rangeAt b off cs) (hm : cs.length = mm) (hS : S w)
    (h : WD n ops Q S m fuel (listed.setIfInBounds i true) ((d, .agg cs.toArray) :: l) w) : WD n ops Q S m (fuel + 1) listed l w :=
  WD.read i us hi hs hd hn hQ hw (fun a ha w hw => by
    obtain ⟨_, hu, hdd, hsz⟩ := cellsN_ok tyOk ht
    unfold execOp
    rw [ho]
    have := run_loadVar_mid (P := Tryz.prog) w b off t cs _ (hc w hw) hu hdd (by rw [hsz, hm])
    simp [ha.eval hx, Instr.loadAt, Instr.sureAddr, this]) hS h
/-- An element's place, taken first. -/
theorem WD.idx {oi : Oper} {t e s : Nat} {x i' : Operand} {b off len cap : Nat} {k : IntKind} {z : Int} (i j q : Nat) (hi : ops[i]? = some oi) (hs : mayB ops listed i m = true) (hd : oi.dst = some d) (hn : Nat.blt d n = true)
    (hQ : Passes Q) (hw : wants ops l oi = some true) (ho : oi.op = .indexAddr t x i') (ht : tyOf ty t = some (.slice e s))
    (hx : evl l x = some (.slice (some ⟨b, off, none⟩) len cap)) (hi' : evl l i' = some (.int k z)) (hz : z = (j : Int)) (hj : j < len) (hq : off + j * s = q) (hS : listed.getD m false = true ∨ S w)
    (h : WD n ops Q S m fuel (listed.setIfInBounds i true) ((d, .pointer (some ⟨b, q, none⟩)) :: l) w) : WD n ops Q S m (fuel + 1) listed l w :=
  WD.first i hi hs hd hn hQ (fun _ ha => .inl ⟨wants_run ha hw, fun w _ => by rw [← hq]; exact idx_run ho ht (ha.eval hx) (ha.eval hi') hz hj⟩) hS h
/-- A byte of a text, taken first. -/
theorem WD.byte {oi : Oper} {t : Nat} {x i' : Operand} {s : ByteArray} {k : IntKind} {z : Int} (i j : Nat) (hi : ops[i]? = some oi) (hs : mayB ops listed i m = true) (hd : oi.dst = some d) (hn : Nat.blt d n = true)
    (hQ : Passes Q) (hw : wants ops l oi = some true) (ho : oi.op = .index t x i') (ht : tyOf ty t = some .str)
    (hx : evl l x = some (.string s)) (hi' : evl l i' = some (.int k z)) (hz : z = (j : Int)) (hj : j < s.size) (hS : listed.getD m false = true ∨ S w)
    (h : WD n ops Q S m fuel (listed.setIfInBounds i true) ((d, .int .u8 (s.toList.getD j 0).toNat) :: l) w) : WD n ops Q S m (fuel + 1) listed l w :=
  WD.first i hi hs hd hn hQ (fun _ ha => .inl ⟨wants_run ha hw, fun _ _ => byte_run ho ht (ha.eval hx) (ha.eval hi') hz hj⟩) hS h
end K
end Go.Proofs.YtlamdhekjlnccaaGreatDoor

/- Walks over the slots that are asked for: closures; append of anything; parts of slices; a result that is a block. -/
namespace Go.Proofs.YtlamdhekjlnccaaGreatDoor
open Go.RowKit
namespace K
variable {n : Nat} {Q : Exit → Act → World → Prop} {l : Env} {w w' : World} {ops : Array Oper} {o : Oper} {rest : List Oper} {d : Nat}

/-- A function with what it holds of its surroundings. -/
theorem WL.fn {f : FuncId} {caps : List Operand} {cs : List Value} (hg : o.guard = none) (hd : o.dst = some d) (hn : Nat.blt d n = true) (ho : o.op = .makeFunc (.func f) #[] caps.toArray) (hv : evlAll l caps = some cs)
    (h : WL n ops Q rest ((d, .func (.func f) #[] cs.toArray) :: l) w) : WL n ops Q (o :: rest) l w :=
  WL.step hg hd hn (fun a ha => by
    unfold execOp
    rw [ho]
    have := evlAll_map ha hv
    have e1 : (caps.toArray.map a.eval) = cs.toArray := by rw [List.map_toArray, this]
    simp [Instr.makeFunc, e1]) h
/-- Such a function is called. -/
theorem WL.callF {f : FuncId} {fn : Func} {x : Operand} {args : List Operand} {ts : Array TypeId} {vs cs : List Value} {R : Ending → World → Prop} (hg : o.guard = none) (hd : o.dst = some d) (hn : Nat.blt d n = true)
    (ho : o.op = .call { callee := .value x, args := args.toArray, argTypes := ts }) (hx : evl l x = some (.func (.func f) #[] cs.toArray)) (hv : evlAll l args = some vs) (hf : Tryz.prog.funcs[f]? = some fn) (hb : fn.body.isNone = false) (hname : (fn.name == "runtime.NumGoroutine") = false)
    (hc : Calls Tryz.prog f (vs ++ cs).toArray w R) (h : ∀ e w', R e w' → ∃ v, e = .returned v ∧ WL n ops Q rest ((d, v) :: l) w') : WL n ops Q (o :: rest) l w :=
  ⟨fun a ha => wpList_plain hg fun K hK => by
    have hrun : (execOp a.eval o).run Tryz.prog w = .ok (.enter f (vs ++ cs).toArray) w := by
      unfold execOp
      rw [ho]
      have := evlAll_map ha hv
      have e1 : (args.toArray.map a.eval) = vs.toArray := by rw [List.map_toArray, this]
      have e2 : a.eval x = .func (.func f) #[] cs.toArray := ha.eval hx
      have hb' : ¬ fn.body = none := fun e => by rw [e] at hb; cases hb
      have hn' : ¬ fn.name = "runtime.NumGoroutine" := by simpa using hname
      simp [resolve, e1, e2, Deferred.ofValue, invoke, callFunc, hf, hb', hn']
    unfold Oper.wp
    rw [hrun, Oper.upon_enter, hd]
    refine hc.mono fun e w'' hh => ?_
    obtain ⟨v, rfl, hwl⟩ := h e w'' hh
    exact hK _ _ (hwl.go _ (ha.put hn v))⟩
/-- append of anything onto an own slice. -/
theorem WL.appV {s x : Operand} {t e : TypeId} {m bytes : Nat} {v xv : Value} {k k2 : Nat} {l1 l2 : List Value} {O O2 : Nat → Prop} (hg : o.guard = none) (hd : o.dst = some d) (hn : Nat.blt d n = true)
    (ho : o.op = .call { callee := .builtin .append, args := #[s, x], argTypes := #[t, t] }) (E : ElemV Tryz.prog t e m bytes) (hs : evl l s = some v) (hown : OwnV e m w O v k l1) (hx : evl l x = some xv) (hsl : SlV w O2 m xv k2 l2) (hb : (k + k2) * bytes ≤ 140737488355328) (hb1 : k + k2 ≤ 140737488355328)
    (h : ∀ v' w', OwnV e m w' (fun g => O g ∨ g = w.heap.size) v' (k + k2) (l1 ++ l2) → Grow w v w' v' → WL n ops Q rest ((d, v') :: l) w') : WL n ops Q (o :: rest) l w :=
  ⟨fun a ha => by
    refine wpList_appV hg s x t ho E (ha.eval hs) hown (ha.eval hx) hsl rfl (by unfold maxLen; omega) hb ?_
    intro sp c w' h2 h3 h4
    rw [hd]
    exact (h _ w' h2 ⟨grown_keep h3, fun g hg => (h4 g hg).imp id (fun e => by omega)⟩).go _ (ha.put hn _)⟩

theorem sl_from {w0 : World} {sp : Option Addr} {cap : Nat} {k : IntKind} {zs : List Int} (h : Sl k w0 (.slice sp zs.length cap) zs) {j : Nat} (hj : j ≤ zs.length) : Sl k w0 (sliced sp j zs.length cap 1) (zs.drop j) := by
  obtain ⟨sp', cap', he, hc, hm, hr, h0⟩ := h
  obtain ⟨rfl, -, rfl⟩ : sp = sp' ∧ zs.length = zs.length ∧ cap = cap' := by injection he with a b c; exact ⟨a, b, c⟩
  unfold sliced
  refine ⟨if cap = j then sp else sp.map (·.add (j * 1)), cap - j, by rw [List.length_drop], by rw [List.length_drop]; omega, by omega, fun hl => ?_, fun hn => ?_⟩
  · rw [List.length_drop] at hl
    obtain ⟨b, o, rfl, hb, hrow⟩ := hr (by omega)
    rw [if_neg (by omega)]
    refine ⟨b, o + j, by simp [Addr.add_mid], hb, fun i hi => ?_⟩
    rw [List.length_drop] at hi
    have := hrow (j + i) (by omega)
    rw [show o + j + i = o + (j + i) by omega, this]
    simp [nth, List.getD_eq_getElem?_getD, List.getElem?_drop]
  · by_cases e : cap = j
    · omega
    · rw [if_neg e] at hn
      cases sp with
      | none => have := h0 rfl; omega
      | some p => cases hn
/-- A slice from a place on. -/
theorem WL.from {t e : Nat} {x lo : Operand} {v : Value} {k kk : IntKind} {z : Int} {zs : List Int} {w0 : World} (hg : o.guard = none) (hd : o.dst = some d) (hn : Nat.blt d n = true) (ho : o.op = .slice t x (some lo) none none) (ht : tyOf ty t = some (.slice e 1))
    (hx : evl l x = some v) (hlo : evl l lo = some (.int kk z)) (h0 : 0 ≤ z) (h1 : z ≤ zs.length) (hs : Sl k w0 v zs) (h : ∀ v', Sl k w0 v' (zs.drop z.toNat) → WL n ops Q rest ((d, v') :: l) w) : WL n ops Q (o :: rest) l w := by
  have hs0 := hs
  obtain ⟨sp, cap, rfl, hc, hm, hr, hn0⟩ := hs
  refine WL.step hg hd hn (v := sliced sp z.toNat zs.length cap 1) (fun a ha => ?_) (h _ (sl_from hs0 (by omega)))
  obtain ⟨hu, hsz⟩ := TyOk.of tyOk ht
  have he : Tryz.prog.elem t = e := by simp [Program.elem, hu]
  have hu' : Tryz.prog.underlying t = some (.slice (Tryz.prog.elem t)) := by rw [he]; exact hu
  have hs : (sizeOf e).run Tryz.prog w = .ok 1 w := by
    cases hq : Tryz.prog.info? e with
    | none => rw [hq] at hsz; cases hsz
    | some q => rw [hq] at hsz; simp at hsz; simp [sizeOf, typeInfo, hq, hsz]
  unfold execOp
  rw [ho]
  simp [ha.eval hx, ha.eval hlo, run_sliceAt_slice w t _ _ _ _ hu', run_slice_l w t sp zs.length cap hu' kk z h0 (by omega), he, hs]
theorem sl_to {w0 : World} {sp : Option Addr} {cap : Nat} {k : IntKind} {zs : List Int} (h : Sl k w0 (.slice sp zs.length cap) zs) {j : Nat} (hj : j ≤ zs.length) : Sl k w0 (sliced sp 0 j cap 1) (zs.take j) := by
  obtain ⟨sp', cap', he, hc, hm, hr, h0⟩ := h
  obtain ⟨rfl, -, rfl⟩ : sp = sp' ∧ zs.length = zs.length ∧ cap = cap' := by injection he with a b c; exact ⟨a, b, c⟩
  unfold sliced
  have hl : (zs.take j).length = j := by rw [List.length_take]; omega
  refine ⟨if cap = 0 then sp else sp.map (·.add (0 * 1)), cap - 0, by rw [hl]; rfl, by rw [hl]; omega, by omega, fun h1 => ?_, fun hn => ?_⟩
  · rw [hl] at h1
    obtain ⟨b, o, rfl, hb, hrow⟩ := hr (by omega)
    rw [if_neg (by omega)]
    refine ⟨b, o, by simp [Addr.add_mid], hb, fun i hi => ?_⟩
    rw [hl] at hi
    rw [hrow i (by omega)]
    simp [nth, List.getD_eq_getElem?_getD, hi]
  · by_cases e : cap = 0
    · omega
    · rw [if_neg e] at hn
      cases sp with
      | none => have := h0 rfl; omega
      | some p => cases hn
/-- A slice up to a place. -/
theorem WL.upto {t e : Nat} {x hi : Operand} {v : Value} {k kk : IntKind} {z : Int} {zs : List Int} {w0 : World} (hg : o.guard = none) (hd : o.dst = some d) (hn : Nat.blt d n = true) (ho : o.op = .slice t x none (some hi) none) (ht : tyOf ty t = some (.slice e 1))
    (hx : evl l x = some v) (hhi : evl l hi = some (.int kk z)) (h0 : 0 ≤ z) (h1 : z ≤ zs.length) (hs : Sl k w0 v zs) (h : ∀ v', Sl k w0 v' (zs.take z.toNat) → WL n ops Q rest ((d, v') :: l) w) : WL n ops Q (o :: rest) l w := by
  have hs0 := hs
  obtain ⟨sp, cap, rfl, hc, hm, hr, hn0⟩ := hs
  refine WL.step hg hd hn (v := sliced sp 0 z.toNat cap 1) (fun a ha => ?_) (h _ (sl_to hs0 (by omega)))
  obtain ⟨hu, hsz⟩ := TyOk.of tyOk ht
  have he : Tryz.prog.elem t = e := by simp [Program.elem, hu]
  have hu' : Tryz.prog.underlying t = some (.slice (Tryz.prog.elem t)) := by rw [he]; exact hu
  have hs : (sizeOf e).run Tryz.prog w = .ok 1 w := by
    cases hq : Tryz.prog.info? e with
    | none => rw [hq] at hsz; cases hsz
    | some q => rw [hq] at hsz; simp at hsz; simp [sizeOf, typeInfo, hq, hsz]
  unfold execOp
  rw [ho]
  simp [ha.eval hx, ha.eval hhi, run_sliceAt_slice w t _ _ _ _ hu', run_slice_h w t sp zs.length cap hu' kk z h0 (by omega), he, hs]
section
variable {fn : Func} {R : Ending → World → Prop}
theorem WQ.ret0 (hr : fn.results = #[]) (h : R (.returned (.tuple #[])) w) : WQ n (bodyPost Tryz.prog fn R) .ret l w := ⟨fun _ ha => ⟨ha.defers, _, results_none hr _ _ _, h⟩⟩
theorem WQ.end0 (hr : fn.results = #[]) (h : R (.returned (.tuple #[])) w) : WQ n (bodyPost Tryz.prog fn R) .normal l w := ⟨fun _ ha => ⟨ha.defers, _, results_none hr _ _ _, h⟩⟩
/-- The result is a whole block. -/
theorem WQ.retC {p g T m : Nat} {ty' : TypeId} {cs : List Value} (hr : fn.results = #[.cell p ty']) (hl : look l p = some (.pointer (some ⟨g, 0, none⟩))) (ht : cellsN (tyOf ty ty') = some m) (hm : cs.length = m) (hb : VBlk T w g cs)
    (h : R (.returned (.agg cs.toArray)) w) : WQ n (bodyPost Tryz.prog fn R) .ret l w :=
  ⟨fun a ha => ⟨ha.defers, _, by
    obtain ⟨_, hu, hdd, hsz⟩ := cellsN_ok tyOk ht
    have hp := ha.getD hl
    simp only [Array.getD_eq_getD_getElem?] at hp
    have := run_loadVar_mid (P := Tryz.prog) w g 0 ty' cs _ (VBlk.rangeAt hb) hu hdd (by rw [hsz, hm])
    simp [results, hr, hp, asAddr, this], h⟩⟩
end
end K
end Go.Proofs.YtlamdhekjlnccaaGreatDoor

/- Walks over the slots that are asked for: append of a text; an own row in a box. -/
namespace Go.Proofs.YtlamdhekjlnccaaGreatDoor
open Go.RowKit
namespace K
variable {n : Nat} {Q : Exit → Act → World → Prop} {l : Env} {w w' : World} {ops : Array Oper} {o : Oper} {rest : List Oper} {d : Nat}

theorem strCells_bytes (s : ByteArray) : Lib.strCells s = (bytesI s).map (Value.int .u8) := by
  unfold Lib.strCells bytesI
  rw [ByteArray.toList_eq, List.map_map]
  rfl
/-- append of a text's bytes onto an own row. -/
theorem appS_run {v : Value} {l1 : List Int} {s : ByteArray} (ty' : Nat) (hown : Bu w v l1) (hb : l1.length + s.size ≤ 140737488355328) :
    ∃ v' w', (Builtin.append_ #[69, 9] ty' #[v, .string s]).run Tryz.prog w = .ok v' w' ∧ Bu w' v' (l1 ++ bytesI s) ∧ Grow w v w' v' := by
  have hq : (Tryz.prog.info? 5).map (fun i => (i.zero, i.size, i.bytes)) = some (some (.int .u8 0), 1, 1) := by kernel_rfl
  obtain ⟨ie, hie, he⟩ := Option.map_eq_some_iff.1 hq
  obtain ⟨hz0, he2⟩ := Prod.mk.inj he
  obtain ⟨hsz, hby⟩ := Prod.mk.inj he2
  have hown' : w.ownsRow 0 5 1 v l1.length (l1.map (Value.int .u8)) := hown
  obtain ⟨v', w', hr, h2, h3, -⟩ := Lib.run_append_own_string (P := Tryz.prog) w 0 69 9 ty' 5 ie Tryz.underlying69 Tryz.underlying9 hie hz0 hsz hby v l1.length _ hown' s (by unfold maxLen; omega) hb (Nat.zero_le _)
  refine ⟨v', w', hr, ?_, grown_keep h3, ?_⟩
  · rw [strCells_bytes, ← List.map_append] at h2
    show World.ownsRow _ _ _ _ _ _ _
    rw [List.length_append, bytesI_len]
    exact h2
  · intro g hg
    rcases hown'.2 with ⟨rfl, h0⟩ | ⟨g0, cap, cur, rfl, hbg, hgc, hnc, hcm, hcs, htake⟩
    · have hown2 : w.ownsRow w.heap.size 5 1 (.slice none 0 0) l1.length (l1.map (Value.int .u8)) := ⟨hown'.1, .inl ⟨rfl, h0⟩⟩
      obtain ⟨v2, w2, hr2, h22, -, -⟩ := Lib.run_append_own_string (P := Tryz.prog) w w.heap.size 69 9 ty' 5 ie Tryz.underlying69 Tryz.underlying9 hie hz0 hsz hby _ l1.length _ hown2 s (by unfold maxLen; omega) hb (Nat.le_refl _)
      rw [hr] at hr2
      injection hr2 with e1 e2
      subst e1
      right
      rcases h22.2 with ⟨rfl, -⟩ | ⟨g1, _, _, rfl, h, -⟩
      · cases hg
      · cases hg; exact h
    · by_cases hroom : l1.length + s.size ≤ cap
      · have hcs' : cur.size = cap := by simpa using hcs
        have hr2 := Lib.run_append_room_string (P := Tryz.prog) w 69 9 ty' 5 ie Tryz.underlying69 Tryz.underlying9 hie hsz g0 l1.length cap cur hgc s hroom (by omega)
        rw [hr] at hr2
        injection hr2 with e1 e2
        subst e1
        cases hg
        exact .inl rfl
      · have hr2 := Lib.run_append_grow_string (P := Tryz.prog) w 69 9 ty' 5 ie (.int .u8 0) Tryz.underlying69 Tryz.underlying9 hie hz0 ⟨g0, 0, none⟩ l1.length cap (l1.map (Value.int .u8)) (by rw [hsz]; simp) (hown'.cells (g := g0) rfl) s (by omega) (by omega)
          (by rw [hby]; exact growslice_fits (by omega) (by omega))
        rw [hr] at hr2
        injection hr2 with e1 e2
        subst e1
        cases hg
        exact .inr (Nat.le_refl _)
theorem WL.appS {s x : Operand} {v : Value} {t : ByteArray} {l1 : List Int} (hg : o.guard = none) (hd : o.dst = some d) (hn : Nat.blt d n = true)
    (ho : o.op = .call { callee := .builtin .append, args := #[s, x], argTypes := #[69, 9] }) (hs : evl l s = some v) (hown : Bu w v l1) (hx : evl l x = some (.string t)) (hb : l1.length + t.size ≤ 140737488355328)
    (h : ∀ v' w', Bu w' v' (l1 ++ bytesI t) → Grow w v w' v' → WL n ops Q rest ((d, v') :: l) w') : WL n ops Q (o :: rest) l w := by
  obtain ⟨v', w', hr, h2, h3⟩ := appS_run o.type hown hb
  refine WL.step hg hd hn (fun a ha => ?_) (h v' w' h2 h3)
  unfold execOp
  simp only [ho, resolve, invoke, builtin, Sem.run_bind, Sem.run_pure, Result.andThen_ok, List.map_toArray, List.map_cons, List.map_nil, ha.eval hs, ha.eval hx, hr]

/-- What becomes of memory when the own slice v, that lies in the box bb, becomes v'. -/
def GrowB (bb : Nat) (w : World) (v : Value) (w' : World) (v' : Value) : Prop :=
  Keep (fun b => b < w.heap.size ∧ v.ownBlock ≠ some b ∧ b ≠ bb) w w' ∧ ∀ g, v'.ownBlock = some g → v.ownBlock = some g ∨ w.heap.size ≤ g
theorem GrowB.refl (bb : Nat) (w : World) (v : Value) : GrowB bb w v w v := ⟨Keep.refl _ _, fun _ h => .inl h⟩
theorem GrowB.trans {bb : Nat} {w w1 w2 : World} {v v1 v2 : Value} (h : GrowB bb w v w1 v1) (k : GrowB bb w1 v1 w2 v2) : GrowB bb w v w2 v2 :=
  ⟨h.1.trans (k.1.mono fun b hb => ⟨Nat.lt_of_lt_of_le hb.1 h.1.size, fun e => (h.2 b e).elim hb.2.1 (fun h2 => absurd hb.1 (by omega)), hb.2.2⟩),
   fun g hg => (k.2 g hg).elim (h.2 g) (fun h2 => .inr (Nat.le_trans h.1.size h2))⟩
theorem Grow.box {bb : Nat} {w w' : World} {v v' : Value} (h : Grow w v w' v') : GrowB bb w v w' v' := ⟨h.1.mono fun _ hb => ⟨hb.1, hb.2.1⟩, h.2⟩
theorem GrowB.below {bb : Nat} {w w1 w2 : World} {v v1 : Value} (h : GrowB bb w v w1 v1) (k : Below w1.heap.size w1 w2) : GrowB bb w v w2 v1 :=
  ⟨h.1.trans ((Keep.of_below k).mono fun _ hb => Nat.lt_of_lt_of_le hb.1 h.1.size), h.2⟩
/-- The own row of the box. -/
structure Bx (bb : Nat) (w : World) (v : Value) (l : List Int) : Prop where
  blk : VBlk 69 w bb [v]
  bu : Bu w v l
  ne : v.ownBlock ≠ some bb
theorem Bx.below {bb : Nat} {w w' : World} {v : Value} {l : List Int} (h : Bx bb w v l) (hk : Below w.heap.size w w') : Bx bb w' v l := ⟨h.blk.below hk h.blk.lt, h.bu.below hk, h.ne⟩
/-- The own slice that has grown is laid into its box. -/
theorem Bx.put {bb : Nat} {w w' : World} {v v' : Value} {l l' : List Int} (h : Bx bb w v l) (hb : Bu w' v' l') (hg : Grow w v w' v') :
    VBlk 69 w' bb [v] ∧ Bx bb (w'.setCell ⟨bb, 0, none⟩ v') v' l' ∧ GrowB bb w v (w'.setCell ⟨bb, 0, none⟩ v') v' := by
  have hblk : VBlk 69 w' bb [v] := h.blk.keep hg.1 ⟨h.blk.lt, h.ne⟩
  have hne : v'.ownBlock ≠ some bb := fun e => (hg.2 _ e).elim h.ne (fun h2 => absurd h.blk.lt (by omega))
  refine ⟨hblk, ⟨hblk.set 0 v', hb.keep (K := fun b => b ≠ bb) ((Keep.refl _ w').setCell (fun hk => hk rfl) _) (fun g hg2 e => hne (by rw [hg2, e])), hne⟩, ?_, hg.2⟩
  exact (hg.1.mono fun _ hb => ⟨hb.1, hb.2.1⟩ : Keep (fun b => b < w.heap.size ∧ v.ownBlock ≠ some b ∧ b ≠ bb) w w').setCell (fun hk => hk.2.2 rfl) _
theorem Bx.keep {bb g T : Nat} {w w' : World} {v v' : Value} {cs : List Value} (hg : GrowB bb w v w' v') (h : VBlk T w g cs) (h1 : v.ownBlock ≠ some g) (h2 : g ≠ bb) : VBlk T w' g cs ∧ v'.ownBlock ≠ some g :=
  ⟨h.keep hg.1 ⟨h.lt, h1, h2⟩, fun e => (hg.2 _ e).elim h1 (fun h3 => absurd h.lt (by omega))⟩
/-- A slice is one cell. -/
theorem Bu.cell1 {w : World} {v : Value} {l : List Int} (h : Bu w v l) : v.oneCell' = true := by obtain ⟨sp, c, rfl, -, -⟩ := h.form; rfl
section
variable {S : World → Prop} {m fuel : Nat} {listed : Array Bool}
/-- A byte's, or any integer's, place, taken first, and what lies there. -/
theorem WD.idxI {oi : Oper} {t e : Nat} {x i' : Operand} {v : Value} {k kk : IntKind} {z : Int} {zs : List Int} {w0 : World} (i j : Nat) (hi : ops[i]? = some oi) (hs : mayB ops listed i m = true) (hd : oi.dst = some d) (hn : Nat.blt d n = true)
    (hQ : Passes Q) (hw : wants ops l oi = some true) (ho : oi.op = .indexAddr t x i') (ht : tyOf ty t = some (.slice e 1)) (hx : evl l x = some v) (hsl : Sl kk w0 v zs) (hi' : evl l i' = some (.int k z)) (hz : z = (j : Int)) (hj : j < zs.length)
    (hS : listed.getD m false = true ∨ S w) (h : ∀ p, w0.cell? p = some (.int kk (nth zs j)) → WD n ops Q S m fuel (listed.setIfInBounds i true) ((d, .pointer (some p)) :: l) w) : WD n ops Q S m (fuel + 1) listed l w := by
  obtain ⟨sp, cap, rfl, -, -, h3, -⟩ := hsl
  obtain ⟨b, off, rfl, -, hr⟩ := h3 (by omega)
  exact WD.idx i j (off + j) hi hs hd hn hQ hw ho ht hx hi' hz hj (by rw [Nat.mul_one]) hS (h _ (hr.at j hj))
end
theorem heap_cell {w w' : World} (h : w'.heap = w.heap) (p : Addr) : w'.cell? p = w.cell? p := World.cell?_of_block (by rw [h])
end K
end Go.Proofs.YtlamdhekjlnccaaGreatDoor

/- Rows of elements of several cells that say what lies in them, with the blocks that they lie in; own rows of these. -/
namespace Go.Proofs.YtlamdhekjlnccaaGreatDoor
open Go.RowKit
namespace K
variable {n : Nat} {Q : Exit → Act → World → Prop} {l : Env} {w w' : World} {ops : Array Oper} {o : Oper} {rest : List Oper} {d : Nat}

/-- The slice v reads as the elements l of m cells each, which P says of; its block is one of O. -/
def Els {α : Type} (m : Nat) (z : α) (P : α → List Value → Prop) (O : Nat → Prop) (w : World) (v : Value) (l : List α) : Prop :=
  ∃ sp cap, v = .slice sp l.length cap ∧ l.length ≤ cap ∧ cap ≤ 9223372036854775807 ∧ (sp = none → cap = 0) ∧
    (0 < l.length → ∃ b o, sp = some ⟨b, o, none⟩ ∧ b < w.heap.size ∧ O b ∧ ∀ j, j < l.length → ∃ cs, cs.length = m ∧ P (l.getD j z) cs ∧ w.rangeAt b (o + j * m) cs)
theorem Els.nil {α : Type} (m : Nat) (z : α) (P : α → List Value → Prop) (O : Nat → Prop) (w : World) : Els m z P O w (.slice none 0 0) [] :=
  ⟨none, 0, rfl, Nat.le_refl _, by omega, fun _ => rfl, fun h => absurd h (by simp)⟩
theorem Els.keep {α : Type} {m : Nat} {z : α} {P P' : α → List Value → Prop} {O O' : Nat → Prop} {w w' : World} {v : Value} {l : List α} (h : Els m z P O w v l) {K : Nat → Prop} (hk : Keep K w w') (hK : ∀ b, O b → b < w.heap.size → K b)
    (hO : ∀ b, O b → O' b) (hP : ∀ x cs, P x cs → P' x cs) : Els m z P' O' w' v l := by
  obtain ⟨sp, cap, h1, h2, h3, h5, h4⟩ := h
  refine ⟨sp, cap, h1, h2, h3, h5, fun h0 => ?_⟩
  obtain ⟨b, o, e, hlt, hOb, hr⟩ := h4 h0
  refine ⟨b, o, e, Nat.lt_of_lt_of_le hlt hk.size, hO b hOb, fun j hj => ?_⟩
  obtain ⟨cs, hc, hp, hat⟩ := hr j hj
  exact ⟨cs, hc, hP _ _ hp, fun i u hu => by rw [hk.cell (p := ⟨b, o + j * m + i, none⟩) (hK b hOb hlt)]; exact hat i u hu⟩
theorem Els.mono {α : Type} {m : Nat} {z : α} {P P' : α → List Value → Prop} {O O' : Nat → Prop} {w : World} {v : Value} {l : List α} (h : Els m z P O w v l) (hO : ∀ b, O b → O' b) (hP : ∀ x cs, P x cs → P' x cs) : Els m z P' O' w v l :=
  h.keep (Keep.refl (fun _ => True) w) (fun _ _ _ => trivial) hO hP

/-- An own row of such elements. -/
def OwnE {α : Type} (e : TypeId) (m : Nat) (z : α) (P : α → List Value → Prop) (O : Nat → Prop) (w : World) (v : Value) (l : List α) : Prop :=
  ∃ kcs : List (List Value), kcs.length = l.length ∧ (∀ j, j < l.length → (kcs.getD j []).length = m ∧ P (l.getD j z) (kcs.getD j [])) ∧ OwnV e m w O v l.length kcs.flatten
theorem OwnE.nil {α : Type} (e : TypeId) (m : Nat) (z : α) (P : α → List Value → Prop) (O : Nat → Prop) (w : World) : OwnE e m z P O w (.slice none 0 0) [] := ⟨[], rfl, fun j hj => absurd hj (by simp), OwnV.nil _ _ _ _⟩
theorem OwnE.keep {α : Type} {e : TypeId} {m : Nat} {z : α} {P P' : α → List Value → Prop} {O O' : Nat → Prop} {w w' : World} {v : Value} {l : List α} (h : OwnE e m z P O w v l) {K : Nat → Prop} (hk : Keep K w w') (hK : ∀ g, v.ownBlock = some g → K g)
    (hO : ∀ b, O b → O' b) (hP : ∀ x cs, P x cs → P' x cs) : OwnE e m z P' O' w' v l := by
  obtain ⟨kcs, h1, h2, h3⟩ := h
  exact ⟨kcs, h1, fun j hj => ⟨(h2 j hj).1, hP _ _ (h2 j hj).2⟩, (h3.keep hk hK).mono hO⟩
theorem OwnE.lt {α : Type} {e : TypeId} {m : Nat} {z : α} {P : α → List Value → Prop} {O : Nat → Prop} {w : World} {v : Value} {l : List α} (h : OwnE e m z P O w v l) {g : Nat} (hg : v.ownBlock = some g) : g < w.heap.size := by
  obtain ⟨kcs, -, -, h3⟩ := h; exact h3.lt hg
theorem OwnE.own {α : Type} {e : TypeId} {m : Nat} {z : α} {P : α → List Value → Prop} {O : Nat → Prop} {w : World} {v : Value} {l : List α} (h : OwnE e m z P O w v l) {g : Nat} (hg : v.ownBlock = some g) : O g := by
  obtain ⟨kcs, -, -, h3⟩ := h; exact h3.own hg
theorem OwnE.one {α : Type} {e : TypeId} {m : Nat} {z : α} {P : α → List Value → Prop} {O : Nat → Prop} {w : World} {v : Value} {l : List α} (h : OwnE e m z P O w v l) : v.oneCell' = true := by
  obtain ⟨kcs, -, -, h3⟩ := h; obtain ⟨sp, c, rfl, -⟩ := h3.slice; rfl
theorem flatten_get {m : Nat} : ∀ (k : List (List Value)), (∀ x ∈ k, x.length = m) → ∀ j i, j < k.length → i < m → k.flatten[j * m + i]? = (k.getD j [])[i]?
  | [], _, j, i, hj, _ => by simp at hj
  | x :: k, hx, j, i, hj, hi => by
    have h0 := hx x (by simp)
    cases j with
    | zero => simp only [List.flatten_cons, List.getD_cons_zero, Nat.zero_mul, Nat.zero_add]; rw [List.getElem?_append_left (by omega)]
    | succ j =>
      simp only [List.flatten_cons, List.getD_cons_succ]
      rw [List.getElem?_append_right (by rw [h0, Nat.succ_mul]; omega), h0, show (j + 1) * m + i - m = j * m + i by rw [Nat.succ_mul]; omega]
      exact flatten_get k (fun y hy => hx y (by simp [hy])) j i (by simpa using hj) hi
theorem all_of_getD {m : Nat} {k : List (List Value)} (h : ∀ j, j < k.length → (k.getD j []).length = m) : ∀ x ∈ k, x.length = m := by
  intro x hx
  obtain ⟨j, hj, rfl⟩ := List.getElem_of_mem hx
  have := h j hj
  simpa [hj] using this
/-- It reads so. -/
theorem OwnE.els {α : Type} {e : TypeId} {m : Nat} {z : α} {P : α → List Value → Prop} {O : Nat → Prop} {w : World} {v : Value} {l : List α} (h : OwnE e m z P O w v l) : Els m z P O w v l := by
  obtain ⟨kcs, h1, h2, h3⟩ := h
  obtain ⟨q1, q2, sp, cap, rfl, h4, h5, h6, h7⟩ := h3.slV
  refine ⟨sp, cap, rfl, h4, h5, h6, fun h0 => ?_⟩
  obtain ⟨b, o, e, hb, hO, hr⟩ := h7 h0
  have hall := all_of_getD (k := kcs) (m := m) fun j hj => (h2 j (by omega)).1
  refine ⟨b, o, e, hb, hO, fun j hj => ⟨kcs.getD j [], (h2 j hj).1, (h2 j hj).2, fun i u hu => ?_⟩⟩
  have him : i < m := by
    rcases Nat.lt_or_ge i m with h | h
    · exact h
    · rw [List.getElem?_eq_none (by rw [(h2 j hj).1]; exact h)] at hu; cases hu
  have hg := flatten_get kcs hall j i (by omega) him
  have hlt : j * m + i < kcs.flatten.length := by
    rcases Nat.lt_or_ge (j * m + i) kcs.flatten.length with h | h
    · exact h
    · rw [List.getElem?_eq_none h, hu] at hg; cases hg
  have := hr (j * m + i) hlt
  rw [Nat.add_assoc, this, List.getD_eq_getElem?_getD, hg, hu]
  rfl
/-- One more. -/
theorem OwnE.snoc {α : Type} {e : TypeId} {m : Nat} {z : α} {P : α → List Value → Prop} {O : Nat → Prop} {w' : World} {v' : Value} {l : List α} {kcs : List (List Value)} {x : α} {cs : List Value} (h1 : kcs.length = l.length) (h2 : ∀ j, j < l.length → (kcs.getD j []).length = m ∧ P (l.getD j z) (kcs.getD j []))
    (hc : cs.length = m) (hp : P x cs) (h : OwnV e m w' O v' (l.length + 1) (kcs.flatten ++ cs)) : OwnE e m z P O w' v' (l ++ [x]) := by
  refine ⟨kcs ++ [cs], by simp [h1], fun j hj => ?_, ?_⟩
  · rcases Nat.lt_or_ge j l.length with hl | hl
    · have := h2 j hl
      simp only [List.getD_eq_getElem?_getD] at this ⊢
      rw [List.getElem?_append_left (by omega), List.getElem?_append_left (by omega)]
      exact this
    · obtain rfl : j = l.length := by simp at hj; omega
      simp only [List.getD_eq_getElem?_getD]
      rw [List.getElem?_append_right (by omega), List.getElem?_append_right (by omega), h1]
      simp [hc, hp]
  · rw [List.length_append, List.length_singleton, List.flatten_append]
    simpa using h

/-- A literal of one element. -/
theorem WL.lit1 {t e s : Nat} {x : Operand} {u : Value} {cs : List Value} (hg : o.guard = none) (hd : o.dst = some d) (hn : Nat.blt d n = true) (ho : o.op = .buildSlice t 1 #[(0, x)]) (ht : tyOf ty t = some (.slice e s))
    (hx : evl l x = some u) (hu : u.cells = cs.toArray) (hcs : cs.length = s) (hs : 0 < s ∧ s ≤ 1000) (hz : (Tryz.prog.info? e).bind (fun i => i.zero.map fun _ => i.size) = some s) (h : ∀ g w', Fresh w g w' e cs → WL n ops Q rest ((d, .slice (some ⟨g, 0, none⟩) 1 1) :: l) w') : WL n ops Q (o :: rest) l w :=
  WL.step hg hd hn (fun a ha => by
    obtain ⟨ie, hie, hz⟩ := Option.bind_eq_some_iff.1 hz
    obtain ⟨z, hz, hsz⟩ := Option.map_eq_some_iff.1 hz
    unfold execOp
    rw [ho]
    have e2 := Great.fill_whole (s := s) hs.1 [u] ((Array.range (1 * s)).map (z.cells[· % z.cells.size]!)) (by intro v hv; simp at hv; rw [hv, hu]; simpa using hcs) (by simp)
    have := run_buildSlice (P := Tryz.prog) w t e 1 (#[(0, x)].map fun (p : Nat × Operand) => (p.1, a.eval p.2)) cs.toArray ie z (TyOk.of tyOk ht).1 hie hz (by rw [hsz]; omega) (by rw [hsz]; omega) (by
      rw [hsz]
      simp only [List.map_toArray, List.map_cons, List.map_nil, ha.eval hx]
      refine Eq.trans e2 ?_
      simp [hu])
    simp only [Sem.run_bind, this, Result.andThen_ok]
    rfl) (h _ _ (Fresh.mk' w e cs))
/-- A literal of nothing. -/
theorem WL.empty {t e s : Nat} (hg : o.guard = none) (hd : o.dst = some d) (hn : Nat.blt d n = true) (ho : o.op = .buildSlice t 0 #[]) (ht : tyOf ty t = some (.slice e s))
    (h : ∀ g w', Fresh w g w' e [] → WL n ops Q rest ((d, .slice (some ⟨g, 0, none⟩) 0 0) :: l) w') : WL n ops Q (o :: rest) l w :=
  WL.step hg hd hn (fun a _ => by
    obtain ⟨hu, hsz⟩ := TyOk.of tyOk ht
    have hs : (sizeOf e).run Tryz.prog w = .ok s w := by
      cases hq : Tryz.prog.info? e with
      | none => rw [hq] at hsz; cases hsz
      | some q => rw [hq] at hsz; simp at hsz; simp [sizeOf, typeInfo, hq, hsz]
    unfold execOp
    rw [ho]
    simp [Instr.buildSlice, run_underlying hu, hs, Instr.fill, newRow]
    rw [show (Array.range 0) = #[] from by decide]
    simp) (h _ _ (Fresh.mk' w e []))
theorem Bu.ofFresh {w w' : World} {g : Nat} (h : Fresh w g w' 5 []) : Bu w' (.slice (some ⟨g, 0, none⟩) 0 0) [] :=
  ⟨by simp, .inr ⟨g, 0, #[], rfl, Nat.zero_le _, h.blk, Nat.le_refl _, by unfold maxLen; omega, by simp, by simp⟩⟩
theorem SlV.fresh1 {w w' : World} {g T : Nat} {cs : List Value} (h : Fresh w g w' T cs) (h1 : Ones cs) : SlV w' (fun b => b = g) cs.length (.slice (some ⟨g, 0, none⟩) 1 1) 1 cs :=
  ⟨by simp, h1, _, 1, rfl, Nat.le_refl _, by omega, (fun h => by cases h), fun _ => ⟨g, 0, rfl, h.blk.lt, rfl, RowV.of_vblk h.blk⟩⟩
/-- append of one element, that lies in a literal of its own, onto an own row. -/
theorem WL.snoc {α : Type} {s x : Operand} {t e : TypeId} {m bytes : Nat} {z : α} {P : α → List Value → Prop} {O : Nat → Prop} {v : Value} {k : List α} {y : α} {cs : List Value} {g : Nat} (hg : o.guard = none) (hd : o.dst = some d) (hn : Nat.blt d n = true)
    (ho : o.op = .call { callee := .builtin .append, args := #[s, x], argTypes := #[t, t] }) (E : ElemV Tryz.prog t e m bytes) (hs : evl l s = some v) (hown : OwnE e m z P O w v k) (hx : evl l x = some (.slice (some ⟨g, 0, none⟩) 1 1))
    (hf : VBlk e w g cs) (h1 : Ones cs) (hc : cs.length = m) (hp : P y cs) (hb : (k.length + 1) * bytes ≤ 140737488355328) (hb1 : k.length + 1 ≤ 140737488355328)
    (h : ∀ v' w', OwnE e m z P (fun b => O b ∨ b = w.heap.size) w' v' (k ++ [y]) → Grow w v w' v' → WL n ops Q rest ((d, v') :: l) w') : WL n ops Q (o :: rest) l w := by
  obtain ⟨kcs, h2, h3, h4⟩ := hown
  have hsl : SlV w (fun b => b = g) m (.slice (some ⟨g, 0, none⟩) 1 1) 1 cs := ⟨by rw [hc, Nat.one_mul], h1, _, 1, rfl, Nat.le_refl _, by omega, (fun h => by cases h), fun _ => ⟨g, 0, rfl, hf.lt, rfl, RowV.of_vblk hf⟩⟩
  refine WL.appV hg hd hn ho E hs h4 hx hsl hb hb1 fun v' w' h5 h6 => h v' w' ?_ h6
  exact OwnE.snoc h2 h3 hc hp h5
end K
end Go.Proofs.YtlamdhekjlnccaaGreatDoor

/- How arguments that came in read. -/
namespace Go.Proofs.YtlamdhekjlnccaaGreatDoor
open Go.ChangeShapes Go.WideShapes Go.ChangeAt Go.RowKit

theorem Tryz.ownKnob : ownKnob Tryz.prog.godebug = none := by kernel_rfl
theorem Tryz.laid : laidOutB Tryz.prog = true := by kernel_rfl

/-- What a slice of integers that came in reads as: nil, or a row of cells. -/
def IsRow (k : IntKind) (w : World) (a : Option Addr) (len cap : Nat) (zs : List Int) : Prop :=
  (a = none ∧ len = 0 ∧ cap = 0 ∧ zs = []) ∨
  ∃ x, a = some x ∧ len ≤ cap ∧ cap ≤ maxLen ∧ zs.length = cap ∧ (∀ i, i < zs.length → w.cell? (x.add i) = some (.int k (zs.getD i 0))) ∧ ∀ n ∈ zs, (Lit.int k n).wf = true

theorem cell_spot {w : World} {x : Addr} {v : Value} (h : w.cell? x = some v) : x.spot = none := by
  unfold World.cell? at h
  split at h
  · cases hs : x.spot with
    | none => rfl
    | some _ => simp [hs] at h
  · cases h
theorem IsRow.sl {k : IntKind} {w : World} {a : Option Addr} {len cap : Nat} {zs : List Int} (h : IsRow k w a len cap zs) :
    ∃ l : List Int, l.length = len ∧ Sl k w (.slice a len cap) l ∧ ∀ n ∈ l, (Lit.int k n).wf = true := by
  rcases h with ⟨rfl, rfl, rfl, rfl⟩ | ⟨x, rfl, h1, h2, h3, h4, h5⟩
  · exact ⟨[], rfl, Sl.nil k w, by simp⟩
  · have hl : (zs.take len).length = len := by rw [List.length_take]; omega
    refine ⟨zs.take len, hl, ⟨some x, cap, by rw [hl], by omega, by unfold maxLen at h2; exact h2, fun h0 => ?_, fun h => by cases h⟩, fun n hn => h5 n (List.mem_of_mem_take hn)⟩
    have h40 := h4 0 (by omega)
    have hx0 : x.add 0 = x := rfl
    rw [hx0] at h40
    have hsp := cell_spot h40
    obtain ⟨b, o, s⟩ := x
    simp only at hsp
    subst hsp
    refine ⟨b, o, rfl, block_lt_of_cell h40, fun j hj => ?_⟩
    have := h4 j (by omega)
    rw [addr_add] at this
    rw [this]
    have hj2 : j < len := by omega
    simp [nth, hj2]

/-- A slice of integers that came in. -/
theorem open_sl {H : Type} {enc : TypeId × Value → H} {P : Program} {W : World} {base b0 : Nat} {held : Bool} {r : Reach} {t e : TypeId} {k : IntKind} {v : Value} {d : DataW H} {p : List MemPlace}
    (hu : P.underlying t = some (.slice e)) (he : P.underlying e = some (.int k)) (hc : P.cellsOf e = 1)
    (hval : Value.okWide P W r b0 t v) (h : DataW.Trod enc P W base (fun _ => true) held t v d p) :
    ∃ l : List Int, Sl k W v l ∧ ∀ n ∈ l, (Lit.int k n).wf = true := by
  obtain ⟨a, len, cap, rfl⟩ := okWide_slice hu hval
  obtain ⟨fuel, hf⟩ := h
  have key : ∃ zs, IsRow k W a len cap zs := by
    rcases open_ints hu he hc hf with ⟨hcs, _⟩ | ⟨x, l, c, zs, hcs, _, hl, hm, hz, _, hcell, hwz⟩
    · simp [Value.cells] at hcs
      obtain ⟨rfl, rfl, rfl⟩ := hcs
      exact ⟨[], .inl ⟨rfl, rfl, rfl, rfl⟩⟩
    · simp [Value.cells] at hcs
      obtain ⟨rfl, rfl, rfl⟩ := hcs
      exact ⟨zs, .inr ⟨_, rfl, hl, hm, by simpa using hz, hcell, hwz⟩⟩
  obtain ⟨zs, hz⟩ := key
  obtain ⟨l, -, h1, h2⟩ := hz.sl
  exact ⟨l, h1, h2⟩

/-- The number in a cell. -/
def numOf : Option Value → Int
  | some (.int _ q) => q
  | _ => 0

/-- An array of integers that came in, by value. -/
theorem open_arr {H : Type} {enc : TypeId × Value → H} {P : Program} {W : World} {base b0 : Nat} {spare : Nat → Bool} {held : Bool} {r : Reach} {t e : TypeId} {n : Nat} {k : IntKind} {v : Value} {d : DataW H} {p : List MemPlace}
    (hu : P.underlying t = some (.array n e)) (he : P.underlying e = some (.int k)) (hc : P.cellsOf e = 1) (hct : P.cellsOf t = n)
    (hval : Value.okWide P W r b0 t v) (h : DataW.Trod enc P W base spare held t v d p) :
    ∃ l : List Int, v = .agg (l.map (Value.int k)).toArray ∧ l.length = n ∧ ∀ x ∈ l, (Lit.int k x).wf = true := by
  simp only [Value.okWide, hu] at hval
  obtain ⟨cs, rfl, hsz, -⟩ := hval
  obtain ⟨fuel, hf⟩ := h
  obtain ⟨xs, m, -, -, -, hxl, hx⟩ := DataW.trod_array hu hf
  have hel : ∀ i, i < n → ∃ q, cs[i]? = some (.int k q) ∧ (Lit.int k q).wf = true := by
    intro i hi
    have h1 := hx i hi
    rw [hc, Nat.mul_one, List.getElem?_eq_getElem (by omega)] at h1
    obtain ⟨q, e1, -, e2⟩ := DataW.trod_int he h1
    refine ⟨q, ?_, e2⟩
    have h2 : ((Value.agg cs).cells.toList.drop i)[0]? = some (.int k q) := by
      have := congrArg (fun l => l[0]?) e1
      simpa using this
    simpa [Value.cells] using h2
  refine ⟨(List.range n).map fun i => numOf cs[i]?, ?_, by simp, ?_⟩
  · congr 1
    apply Array.ext
    · simp; omega
    · intro i h1 h2
      have hi : i < n := by omega
      obtain ⟨q, e1, -⟩ := hel i hi
      have e2 : cs[i] = .int k q := by simpa [Array.getElem?_eq_getElem h1] using e1
      simp [e2, numOf, h1]
  · intro x hx'
    obtain ⟨i, hi, rfl⟩ := List.mem_map.1 hx'
    obtain ⟨q, e1, e2⟩ := hel i (List.mem_range.1 hi)
    rw [e1]; exact e2

end Go.Proofs.YtlamdhekjlnccaaGreatDoor

/- Values (chapter 5), nested: how they lie in memory, and what is wrong with one. -/
namespace Go.Proofs.YtlamdhekjlnccaaGreatDoor
open Go.ChangeShapes Go.WideShapes Go.ChangeAt Go.RowKit

inductive V where
  | mk (k n s : Int) (t : ByteArray) (names : List ByteArray) (kids : List V)
namespace V
def k : V → Int | .mk k _ _ _ _ _ => k
def n : V → Int | .mk _ n _ _ _ _ => n
def s : V → Int | .mk _ _ s _ _ _ => s
def t : V → ByteArray | .mk _ _ _ t _ _ => t
def names : V → List ByteArray | .mk _ _ _ _ l _ => l
def kids : V → List V | .mk _ _ _ _ _ l => l
end V
def noV : V := .mk 0 0 0 ByteArray.empty [] []
instance : Inhabited V := ⟨noV⟩
def noT : ByteArray := ByteArray.empty

/-- The slice v reads as the texts l. -/
def Strs (w : World) (v : Value) (l : List ByteArray) : Prop :=
  ∃ sp cap, v = .slice sp l.length cap ∧ l.length ≤ cap ∧ cap ≤ 9223372036854775807 ∧ (∀ j, j < l.length → (l.getD j noT).size ≤ 140737488355328) ∧
    (0 < l.length → ∃ b o, sp = some ⟨b, o, none⟩ ∧ b < w.heap.size ∧ ∀ j, j < l.length → w.cell? ⟨b, o + j, none⟩ = some (.string (l.getD j noT)))
theorem Strs.below {w w' : World} {v : Value} {l : List ByteArray} (h : Strs w v l) (hb : Below w.heap.size w w') : Strs w' v l := by
  obtain ⟨sp, cap, h1, h2, h3, h4, h5⟩ := h
  refine ⟨sp, cap, h1, h2, h3, h4, fun h0 => ?_⟩
  obtain ⟨b, o, e, hlt, hr⟩ := h5 h0
  exact ⟨b, o, e, Nat.lt_of_lt_of_le hlt hb.size, fun j hj => by rw [hb.cell (p := ⟨b, o + j, none⟩) hlt]; exact hr j hj⟩

/-- The slice v reads as l values of six cells each, which P says of. -/
def Six (P : V → List Value → Prop) (w : World) (v : Value) (l : List V) : Prop :=
  ∃ sp cap, v = .slice sp l.length cap ∧ l.length ≤ cap ∧ cap ≤ 9223372036854775807 ∧
    (0 < l.length → ∃ b o, sp = some ⟨b, o, none⟩ ∧ b < w.heap.size ∧ ∀ j, j < l.length → ∃ cs, cs.length = 6 ∧ P (l.getD j noV) cs ∧ w.rangeAt b (o + j * 6) cs)

/-- The six cells of a value that is f deep at most. -/
def IsV : Nat → World → V → List Value → Prop
  | 0, _, _, _ => False
  | f + 1, w, v, cs => ∃ sn sk, cs = [.int .i64 v.k, .int .i64 v.n, .int .i64 v.s, .string v.t, sn, sk] ∧
      (Lit.int .i64 v.k).wf = true ∧ (Lit.int .i64 v.n).wf = true ∧ (Lit.int .i64 v.s).wf = true ∧ v.t.size ≤ 140737488355328 ∧ Strs w sn v.names ∧ Six (IsV f w) w sk v.kids
/-- A row of values. -/
def IsVs (f : Nat) (w : World) (v : Value) (l : List V) : Prop := Six (IsV f w) w v l

theorem Six.below {P P' : V → List Value → Prop} {w w' : World} {v : Value} {l : List V} (h : Six P w v l) (hb : Below w.heap.size w w') (hP : ∀ x cs, P x cs → P' x cs) : Six P' w' v l := by
  obtain ⟨sp, cap, h1, h2, h3, h4⟩ := h
  refine ⟨sp, cap, h1, h2, h3, fun h0 => ?_⟩
  obtain ⟨b, o, e, hlt, hr⟩ := h4 h0
  refine ⟨b, o, e, Nat.lt_of_lt_of_le hlt hb.size, fun j hj => ?_⟩
  obtain ⟨cs, hc, hp, hat⟩ := hr j hj
  exact ⟨cs, hc, hP _ _ hp, fun i u hu => by rw [hb.cell (p := ⟨b, o + j * 6 + i, none⟩) hlt]; exact hat i u hu⟩
theorem IsV.below {w w' : World} (hb : Below w.heap.size w w') : ∀ {f : Nat} {v : V} {cs : List Value}, IsV f w v cs → IsV f w' v cs
  | 0, _, _, h => h
  | _ + 1, _, _, ⟨sn, sk, h1, h2, h3, h4, h5, h6, h7⟩ => ⟨sn, sk, h1, h2, h3, h4, h5, h6.below hb, h7.below hb fun _ _ hp => IsV.below hb hp⟩
theorem IsVs.below {f : Nat} {w w' : World} {v : Value} {l : List V} (h : IsVs f w v l) (hb : Below w.heap.size w w') : IsVs f w' v l := Six.below h hb fun _ _ hp => IsV.below hb hp
theorem IsV.len {f : Nat} {w : World} {v : V} {cs : List Value} (h : IsV f w v cs) : cs.length = 6 := by
  cases f with
  | zero => exact h.elim
  | succ f => obtain ⟨_, _, rfl, _⟩ := h; rfl

/-- What is wrong with a value, but for its kids. -/
def isNameB (s : ByteArray) : Bool := decide (1 ≤ s.size) && decide (s.size ≤ 40)
/-- The names from the second on are each above the one ahead. -/
def risesB : List ByteArray → Bool
  | [] => true
  | [_] => true
  | a :: b :: l => Op.bytesLess a.toList b.toList && risesB (b :: l)
def fieldsB (v : V) : Bool := v.names.all isNameB && risesB v.names && decide (v.names.length = v.kids.length)
def bareB (v : V) : Bool := decide (v.n = 0) && decide (v.s = 0)
def plainB (v : V) : Bool := decide (v.names.length = 0) && decide (v.kids.length = 0)
def noTextB (v : V) : Bool := decide (v.t.size = 0)
def formB (v : V) : Bool :=
  if v.k = 1 then bareB v && plainB v && noTextB v
  else if v.k = 2 then decide (0 ≤ v.n) && decide (v.n ≤ 1) && decide (v.s = 0) && plainB v && noTextB v
  else if v.k = 3 then decide (v.s = 0) && plainB v && noTextB v
  else if v.k = 4 then decide (1 ≤ v.s) && decide (v.s ≤ 18) && decide (¬ v.n.tmod 10 = 0) && plainB v && noTextB v
  else if v.k = 5 then decide (0 ≤ v.n) && decide (v.n ≤ 9007199254740992) && decide (v.s = 0) && plainB v && noTextB v
  else if v.k = 6 ∨ v.k = 7 then bareB v && plainB v
  else if v.k = 8 then bareB v && decide (v.names.length = 0) && noTextB v
  else if v.k = 9 then bareB v && noTextB v
  else false
def shp (v : V) : Int :=
  if formB v = false then 3
  else if 16384 < v.t.size ∨ 200 < v.kids.length then 5
  else if v.k = 9 ∧ fieldsB v = false then 3
  else 0
/-- The first of some that is not 0. -/
def firstBad : List Int → Int
  | [] => 0
  | e :: l => if e = 0 then firstBad l else e
/-- What is wrong with a value, with so many levels left. -/
def chk : Nat → V → Int
  | 0, _ => 9
  | m + 1, v => if shp v = 0 then firstBad (v.kids.map (chk m)) else shp v

theorem firstBad_zero {l : List Int} : firstBad l = 0 ↔ ∀ e ∈ l, e = 0 := by
  induction l with
  | nil => simp [firstBad]
  | cons a l ih =>
    unfold firstBad
    by_cases h : a = 0
    · rw [if_pos h, ih]; simp [h]
    · rw [if_neg h]; simp [h]
theorem firstBad_take {l : List Int} {i : Nat} (hi : i < l.length) (h : ∀ j, j < i → l.getD j 0 = 0) (hn : ¬ l.getD i 0 = 0) : firstBad l = l.getD i 0 := by
  induction l generalizing i with
  | nil => simp at hi
  | cons a l ih =>
    cases i with
    | zero => unfold firstBad; rw [if_neg (by simpa using hn)]; simp
    | succ i =>
      have h0 := h 0 (by omega)
      simp only [List.getD_cons_zero] at h0
      unfold firstBad
      rw [if_pos h0]
      simp only [List.getD_cons_succ] at hn ⊢
      exact ih (by simpa using hi) (fun j hj => by simpa using h (j + 1) (by omega)) hn
theorem firstBad_all {l : List Int} (h : ∀ j, j < l.length → l.getD j 0 = 0) : firstBad l = 0 := by
  rw [firstBad_zero]
  intro e he
  obtain ⟨j, hj, rfl⟩ := List.getElem_of_mem he
  simpa [hj] using h j hj
theorem chk_kid {m : Nat} {v : V} {j : Nat} (h : chk (m + 1) v = 0) (hj : j < v.kids.length) : chk m (v.kids.getD j noV) = 0 := by
  unfold chk at h
  by_cases hs : shp v = 0
  · rw [if_pos hs, firstBad_zero] at h
    exact h _ (List.mem_map.2 ⟨v.kids[j], List.getElem_mem hj, by simp [hj]⟩)
  · rw [if_neg hs] at h; exact (hs h).elim
theorem chk_shp {m : Nat} {v : V} (h : chk (m + 1) v = 0) : shp v = 0 := by
  unfold chk at h
  by_cases hs : shp v = 0
  · exact hs
  · rw [if_neg hs] at h; exact h
theorem chk_map (m : Nat) (l : List V) (j : Nat) (hj : j < l.length) : (l.map (chk m)).getD j 0 = chk m (l.getD j noV) := by simp [hj]

/-- The names rise: the i-th is below the one behind it. -/
theorem rises_iff : ∀ {l : List ByteArray}, risesB l = true ↔ ∀ i, i + 1 < l.length → Op.bytesLess (l.getD i noT).toList (l.getD (i + 1) noT).toList = true
  | [] => by simp [risesB]
  | [a] => by simp [risesB]
  | a :: b :: l => by
    unfold risesB
    rw [Bool.and_eq_true, rises_iff (l := b :: l)]
    constructor
    · rintro ⟨h1, h2⟩ i hi
      cases i with
      | zero => simpa using h1
      | succ i => simpa using h2 i (by simp at hi ⊢; omega)
    · intro h
      exact ⟨by simpa using h 0 (by simp), fun i hi => by simpa using h (i + 1) (by simp at hi ⊢; omega)⟩
end Go.Proofs.YtlamdhekjlnccaaGreatDoor

/- The six cells of a value; what is apart from old memory. -/
namespace Go.Proofs.YtlamdhekjlnccaaGreatDoor
open Go.RowKit
namespace K

/-- What comes behind is apart from what was there ahead of w0. -/
structure Apart (w0 w : World) (b : Value) : Prop where
  below : Below w0.heap.size w0 w
  own : ∀ g, b.ownBlock = some g → w0.heap.size ≤ g
theorem Apart.grow {w0 w w' : World} {b b' : Value} (h : Apart w0 w b) (g : Grow w b w' b') : Apart w0 w' b' := ⟨h.below.trans (g.old h.below.size h.own), g.own h.below.size h.own⟩
abbrev six (v : V) (sn sk : Value) : List Value := [.int .i64 v.k, .int .i64 v.n, .int .i64 v.s, .string v.t, sn, sk]
theorem IsV.one {f : Nat} {w : World} {v : V} {cs : List Value} (h : IsV f w v cs) : Ones cs := by
  cases f with
  | zero => exact h.elim
  | succ f =>
    obtain ⟨sn, sk, rfl, -, -, -, -, ⟨_, _, rfl, -⟩, ⟨_, _, rfl, -⟩⟩ := h
    intro u hu
    simp at hu
    rcases hu with rfl | rfl | rfl | rfl | rfl | rfl <;> rfl
/-- A box that stands while an own row grows. -/
theorem Fresh.stand {w w1 wk : World} {g T : Nat} {cs : List Value} {b vk : Value} {l : List Int} (h : Fresh w g w1 T cs) (hb : Bu w b l) (hg : Grow w1 b wk vk) : VBlk T wk g cs :=
  h.blk.keep hg.1 ⟨by rw [h.size, h.eq]; omega, fun e => by have := hb.lt _ e; rw [h.eq] at this; omega⟩
end K
end Go.Proofs.YtlamdhekjlnccaaGreatDoor

/- Values as bytes (chapter 7): what is laid and what is read; no program in sight. -/
namespace Go.Proofs.YtlamdhekjlnccaaGreatDoor
namespace K

/-- A Uvarint's bytes. -/
def uvF : Nat → Nat → List Int
  | 0, _ => []
  | f + 1, u => if u < 128 then [(u : Int)] else ((u % 128 + 128 : Nat) : Int) :: uvF f (u / 128)
def uvB (u : Nat) : List Int := uvF 10 u
/-- A number of both signs as one of none, and back. -/
def zig (v : Int) : Nat := if 0 ≤ v then (2 * v).toNat else (-2 * v - 1).toNat
def zag (u : Nat) : Int := if u % 2 = 0 then ((u / 2 : Nat) : Int) else -((u / 2 : Nat) : Int) - 1
def byI (s : ByteArray) : List Int := s.toList.map fun c => (c.toNat : Int)
def pieceE (ky : V → List Int) (st : Bool) (names : List ByteArray) (kids : List V) (j : Nat) : List Int :=
  (if st then uvB (names.getD j noT).size ++ byI (names.getD j noT) else []) ++ ky (kids.getD j noV)
/-- A value's bytes. -/
def encV : Nat → V → List Int
  | 0, _ => []
  | m + 1, v => v.k ::
    (if v.k = 2 then [v.n] else if v.k = 3 then uvB (zig v.n) else if v.k = 4 then uvB (zig v.n) ++ [v.s] else if v.k = 5 then uvB v.n.toNat
     else if v.k = 6 ∨ v.k = 7 then uvB v.t.size ++ byI v.t
     else if v.k = 8 ∨ v.k = 9 then uvB v.kids.length ++ (List.range v.kids.length).flatMap (pieceE (encV m) (decide (v.k = 9)) v.names v.kids) else [])

/-- What is read: a thing and what is left, or the first error. -/
inductive Rd (α : Type) where
  | ok (a : α) (r : List Int)
  | bad (e : Int)
def Rd.bind {α β : Type} : Rd α → (α → List Int → Rd β) → Rd β
  | .ok a r, f => f a r
  | .bad e, _ => .bad e
/-- A byte. -/
def rdB : List Int → Rd Int
  | [] => .bad 2
  | c :: r => .ok c r
/-- A Uvarint. -/
def rdUF : Nat → Bool → List Int → Rd Nat
  | 0, _, _ => .bad 3
  | _ + 1, _, [] => .bad 2
  | f + 1, st, c :: r => if (f = 0 ∧ 1 < c) ∨ (st = true ∧ c = 0) then .bad 3 else if c < 128 then .ok c.toNat r else (rdUF f true r).bind fun v r' => .ok (c.toNat - 128 + 128 * v) r'
def rdU (l : List Int) : Rd Nat := rdUF 10 false l
def rdC (l : List Int) : Rd Nat := (rdU l).bind fun n r => if 65536 < n then .bad 3 else .ok n r
def rdT (l : List Int) : Rd ByteArray := (rdC l).bind fun n r => if r.length < n then .bad 2 else .ok ⟨((r.take n).map fun c => UInt8.ofNat c.toNat).toArray⟩ (r.drop n)
def rdK (rd : List Int → Rd V) (st : Bool) : Nat → List ByteArray → List V → List Int → Rd (List ByteArray × List V)
  | 0, ns, ks, l => .ok (ns, ks) l
  | n + 1, ns, ks, l =>
    if st = true then (rdT l).bind fun s r => (rd r).bind fun v r' => rdK rd st n (ns ++ [s]) (ks ++ [v]) r'
    else (rd l).bind fun v r' => rdK rd st n ns (ks ++ [v]) r'
/-- A value, so many levels deep. -/
def rdV : Nat → List Int → Rd V
  | 0, _ => .bad 9
  | m + 1, l => (rdB l).bind fun k r =>
    if k = 1 then .ok (.mk 1 0 0 noT [] []) r
    else if k = 2 then (rdB r).bind fun c r => if 1 < c then .bad 3 else .ok (.mk 2 c 0 noT [] []) r
    else if k = 3 then (rdU r).bind fun u r => .ok (.mk 3 (zag u) 0 noT [] []) r
    else if k = 4 then (rdU r).bind fun u r => (rdB r).bind fun s r => .ok (.mk 4 (zag u) s noT [] []) r
    else if k = 5 then (rdU r).bind fun u r => .ok (.mk 5 (IntKind.i64.wrap (u : Int)) 0 noT [] []) r
    else if k = 6 ∨ k = 7 then (rdT r).bind fun t r => .ok (.mk k 0 0 t [] []) r
    else if k = 8 ∨ k = 9 then (rdC r).bind fun n r => (rdK (rdV m) (decide (k = 9)) n [] [] r).bind fun p r => .ok (.mk k 0 0 noT p.1 p.2) r
    else .bad 3

/-- What stands behind changes nothing, but for an error that more bytes could mend. -/
def Ext {α : Type} (f : List Int → Rd α) : Prop := ∀ l s, match f l with
  | .ok a r => f (l ++ s) = .ok a (r ++ s)
  | .bad e => e = 2 ∨ f (l ++ s) = .bad e
theorem Ext.bind {α β : Type} {f : List Int → Rd α} {g : α → List Int → Rd β} (hf : Ext f) (hg : ∀ a, Ext (g a)) : Ext fun l => (f l).bind g := by
  intro l s
  have h1 := hf l s
  cases h : f l with
  | ok a r =>
    rw [h] at h1
    simp only at h1
    have h2 := hg a r s
    simp only [Rd.bind, h, h1]
    exact h2
  | bad e =>
    rw [h] at h1
    simp only at h1
    simp only [Rd.bind, h]
    rcases h1 with h1 | h1
    · exact .inl h1
    · right; rw [h1]
theorem Ext.ok {α : Type} (a : α) : Ext fun l => Rd.ok a l := fun _ _ => rfl
theorem Ext.bad {α : Type} (e : Int) : Ext fun _ => (Rd.bad e : Rd α) := fun _ _ => .inr rfl
theorem Ext.ite {α : Type} {p : Prop} [Decidable p] {f g : List Int → Rd α} (hf : Ext f) (hg : Ext g) : Ext fun l => if p then f l else g l := by
  by_cases h : p
  · simp only [if_pos h]; exact hf
  · simp only [if_neg h]; exact hg
theorem ext_rdB : Ext rdB := by
  intro l s
  cases l with
  | nil => exact .inl rfl
  | cons c r => rfl
theorem ext_rdUF : ∀ (f : Nat) (st : Bool), Ext (rdUF f st)
  | 0, _ => Ext.bad 3
  | f + 1, st => by
    intro l s
    cases l with
    | nil => exact .inl rfl
    | cons c r =>
      have h := (Ext.ite (p := (f = 0 ∧ 1 < c) ∨ (st = true ∧ c = 0)) (Ext.bad 3) (Ext.ite (p := c < 128) (Ext.ok c.toNat) (Ext.bind (ext_rdUF f true) fun v => Ext.ok (c.toNat - 128 + 128 * v)))) r s
      exact h
theorem ext_rdU : Ext rdU := ext_rdUF 10 false
theorem ext_rdC : Ext rdC := Ext.bind ext_rdU fun n => Ext.ite (Ext.bad 3) (Ext.ok n)
theorem ext_rdT : Ext rdT := Ext.bind ext_rdC fun n => by
  intro r s
  by_cases h : r.length < n
  · simp only [if_pos h]; exact .inl trivial
  · simp only [if_neg h]
    rw [if_neg (by rw [List.length_append]; omega), List.take_append_of_le_length (by omega), List.drop_append_of_le_length (by omega)]
theorem ext_rdK {rd : List Int → Rd V} (h : Ext rd) (st : Bool) : ∀ (n : Nat) (ns : List ByteArray) (ks : List V), Ext (rdK rd st n ns ks)
  | 0, ns, ks => Ext.ok (ns, ks)
  | n + 1, ns, ks => Ext.ite (Ext.bind ext_rdT fun s => Ext.bind h fun v => ext_rdK h st n (ns ++ [s]) (ks ++ [v])) (Ext.bind h fun v => ext_rdK h st n ns (ks ++ [v]))
theorem ext_rdV : ∀ (m : Nat), Ext (rdV m)
  | 0 => Ext.bad 9
  | m + 1 => Ext.bind ext_rdB fun _ => Ext.ite (Ext.ok _) (Ext.ite (Ext.bind ext_rdB fun _ => Ext.ite (Ext.bad 3) (Ext.ok _)) (Ext.ite (Ext.bind ext_rdU fun _ => Ext.ok _) (Ext.ite (Ext.bind ext_rdU fun _ => Ext.bind ext_rdB fun _ => Ext.ok _)
      (Ext.ite (Ext.bind ext_rdU fun _ => Ext.ok _) (Ext.ite (Ext.bind ext_rdT fun _ => Ext.ok _) (Ext.ite (Ext.bind ext_rdC fun n => Ext.bind (ext_rdK (ext_rdV m) _ n [] []) fun _ => Ext.ok _) (Ext.bad 3)))))))
end K
end Go.Proofs.YtlamdhekjlnccaaGreatDoor

/- Values as bytes (chapter 7): what was laid is read as it was, and what is read is laid so; no program in sight. -/
namespace Go.Proofs.YtlamdhekjlnccaaGreatDoor
namespace K

/-- Bytes. -/
def Byt (l : List Int) : Prop := ∀ c ∈ l, 0 ≤ c ∧ c ≤ 255
theorem Byt.tail {c : Int} {l : List Int} (h : Byt (c :: l)) : Byt l := fun x hx => h x (List.mem_cons_of_mem _ hx)
theorem Byt.right {k l : List Int} (h : Byt (k ++ l)) : Byt l := fun x hx => h x (List.mem_append_right _ hx)
theorem Byt.left {k l : List Int} (h : Byt (k ++ l)) : Byt k := fun x hx => h x (List.mem_append_left _ hx)
theorem Byt.app {k l : List Int} (h : Byt k) (h' : Byt l) : Byt (k ++ l) := fun x hx => (List.mem_append.1 hx).elim (h x) (h' x)

/-- What is left is an end of what was there. -/
def Suf {α : Type} (f : List Int → Rd α) : Prop := ∀ l a r, f l = .ok a r → ∃ p, l = p ++ r
theorem Suf.bind {α β : Type} {f : List Int → Rd α} {g : α → List Int → Rd β} (hf : Suf f) (hg : ∀ a, Suf (g a)) : Suf fun l => (f l).bind g := by
  intro l b r h
  cases h1 : f l with
  | ok a r1 =>
    simp only [Rd.bind, h1] at h
    obtain ⟨p, rfl⟩ := hf l a r1 h1
    obtain ⟨q, rfl⟩ := hg a r1 b r h
    exact ⟨p ++ q, by rw [List.append_assoc]⟩
  | bad e => simp only [Rd.bind, h1] at h; cases h
theorem Suf.ok {α : Type} (a : α) : Suf fun l => Rd.ok a l := fun l b r h => by cases h; exact ⟨[], rfl⟩
theorem Suf.bad {α : Type} (e : Int) : Suf fun _ => (Rd.bad e : Rd α) := fun _ _ _ h => by cases h
theorem Suf.ite {α : Type} {p : Prop} [Decidable p] {f g : List Int → Rd α} (hf : Suf f) (hg : Suf g) : Suf fun l => if p then f l else g l := by
  by_cases h : p
  · simp only [if_pos h]; exact hf
  · simp only [if_neg h]; exact hg

theorem rdUF_enc : ∀ (f u : Nat) (st : Bool) (r : List Int), u < 2 * 128 ^ f → (st = true → u ≠ 0) → rdUF (f + 1) st (uvF (f + 1) u ++ r) = .ok u r
  | 0, u, st, r, h, hs => by
    simp at h
    unfold uvF
    rw [if_pos (by omega), List.singleton_append]
    unfold rdUF
    rw [if_neg (fun h1 => h1.elim (fun h => by omega) (fun h => by have := hs h.1; omega)), if_pos (by omega)]
    simp
  | f + 1, u, st, r, h, hs => by
    unfold uvF
    by_cases hu : u < 128
    · rw [if_pos hu, List.singleton_append]
      unfold rdUF
      rw [if_neg (fun h1 => h1.elim (fun h => by omega) (fun h => by have := hs h.1; omega)), if_pos (by omega)]
      simp
    · rw [if_neg hu, List.cons_append]
      unfold rdUF
      rw [Nat.pow_succ] at h
      rw [if_neg (by rintro (h1 | h1) <;> omega), if_neg (by omega), rdUF_enc f (u / 128) true r (by omega) (fun _ => by omega)]
      simp only [Rd.bind]
      rw [show (((u % 128 + 128 : Nat) : Int)).toNat - 128 + 128 * (u / 128) = u by omega]
theorem uvF_big {f u : Nat} (h : 128 ≤ u) : uvF (f + 1) u = ((u % 128 + 128 : Nat) : Int) :: uvF f (u / 128) := by rw [uvF, if_neg (by omega)]
theorem rdUF_can : ∀ (f u : Nat) (st : Bool) (l r : List Int), Byt l → rdUF (f + 1) st l = .ok u r → l = uvF (f + 1) u ++ r ∧ u < 2 * 128 ^ f ∧ (st = true → u ≠ 0)
  | f, u, st, [], r, _, h => by simp [rdUF] at h
  | f, u, st, c :: t, r, hb, h => by
    unfold rdUF at h
    have hc := hb c (by simp)
    by_cases h1 : (f = 0 ∧ 1 < c) ∨ (st = true ∧ c = 0)
    · rw [if_pos h1] at h; cases h
    rw [if_neg h1] at h
    by_cases h2 : c < 128
    · rw [if_pos h2] at h
      cases h
      unfold uvF
      rw [if_pos (by omega), List.singleton_append]
      refine ⟨by rw [Int.toNat_of_nonneg hc.1], ?_, fun hs e => h1 (.inr ⟨hs, by omega⟩)⟩
      cases f with
      | zero => simp; have : ¬ 1 < c := fun e => h1 (.inl ⟨rfl, e⟩); omega
      | succ f => have := Nat.pos_of_ne_zero (show 128 ^ f ≠ 0 by simp); rw [Nat.pow_succ]; omega
    · rw [if_neg h2] at h
      cases hr : rdUF f true t with
      | bad e => rw [hr] at h; cases h
      | ok v r' =>
        rw [hr] at h
        simp only [Rd.bind] at h
        cases h
        cases f with
        | zero => cases hr
        | succ f =>
          obtain ⟨rfl, h3, h4⟩ := rdUF_can f v true t r hb.tail hr
          have h5 := h4 rfl
          rw [uvF_big (show 128 ≤ c.toNat - 128 + 128 * v by omega), List.cons_append, show (c.toNat - 128 + 128 * v) / 128 = v by omega, show (c.toNat - 128 + 128 * v) % 128 + 128 = c.toNat by omega]
          refine ⟨by rw [Int.toNat_of_nonneg hc.1], by rw [Nat.pow_succ]; omega, fun _ => by omega⟩
theorem rdU_enc {u : Nat} (h : u < 18446744073709551616) (r : List Int) : rdU (uvB u ++ r) = .ok u r := rdUF_enc 9 u false r (by omega) (fun h => by cases h)
theorem rdU_can {u : Nat} {l r : List Int} (hb : Byt l) (h : rdU l = .ok u r) : l = uvB u ++ r ∧ u < 18446744073709551616 := by
  obtain ⟨h1, h2, -⟩ := rdUF_can 9 u false l r hb h
  exact ⟨h1, by omega⟩
theorem zag_zig (v : Int) : zag (zig v) = v := by unfold zag zig; split <;> split <;> omega
theorem zig_zag (u : Nat) : zig (zag u) = u := by unfold zag zig; split <;> split <;> omega
theorem zig_lt {v : Int} (h : -9223372036854775808 ≤ v ∧ v ≤ 9223372036854775807) : zig v < 18446744073709551616 := by unfold zig; split <;> omega
theorem rdC_enc {n : Nat} (h : n ≤ 65536) (r : List Int) : rdC (uvB n ++ r) = .ok n r := by
  unfold rdC
  rw [rdU_enc (by omega)]
  simp only [Rd.bind]
  rw [if_neg (by omega)]
theorem rdC_can {n : Nat} {l r : List Int} (hb : Byt l) (h : rdC l = .ok n r) : l = uvB n ++ r ∧ n ≤ 65536 := by
  unfold rdC at h
  cases h1 : rdU l with
  | bad e => rw [h1] at h; cases h
  | ok u r' =>
    rw [h1] at h
    simp only [Rd.bind] at h
    split at h
    · cases h
    · cases h
      exact ⟨(rdU_can hb h1).1, by omega⟩
theorem byI_len (s : ByteArray) : (byI s).length = s.size := by
  unfold byI
  rw [List.length_map, ByteArray.toList_eq]; rfl
theorem byI_mk {l : List Int} (h : Byt l) : byI ⟨(l.map fun c => UInt8.ofNat c.toNat).toArray⟩ = l := by
  unfold byI
  rw [ByteArray.toList_eq]
  simp only [List.map_map]
  refine (List.map_congr_left fun c hc => ?_).trans (List.map_id l)
  have := h c hc
  simp only [Function.comp_apply, UInt8.toNat_ofNat', id]
  omega
theorem mk_byI (s : ByteArray) : (⟨((byI s).map fun c => UInt8.ofNat c.toNat).toArray⟩ : ByteArray) = s := by
  unfold byI
  rw [ByteArray.toList_eq]
  apply ByteArray.ext
  apply Array.ext'
  simp only [List.map_map]
  refine (List.map_congr_left fun c _ => ?_).trans (List.map_id _)
  simp
theorem rdT_enc {s : ByteArray} (h : s.size ≤ 65536) (r : List Int) : rdT (uvB s.size ++ (byI s ++ r)) = .ok s r := by
  unfold rdT
  rw [rdC_enc h]
  simp only [Rd.bind]
  have hl := byI_len s
  rw [if_neg (by rw [List.length_append]; omega), ← hl, List.take_left', List.drop_left', mk_byI]
  · rfl
  · rfl
theorem rdT_can {s : ByteArray} {l r : List Int} (hb : Byt l) (h : rdT l = .ok s r) : l = uvB s.size ++ (byI s ++ r) ∧ s.size ≤ 65536 := by
  unfold rdT at h
  cases h1 : rdC l with
  | bad e => rw [h1] at h; cases h
  | ok n t =>
    rw [h1] at h
    simp only [Rd.bind] at h
    obtain ⟨rfl, h2⟩ := rdC_can hb h1
    split at h
    · cases h
    · rename_i h3
      cases h
      have hby : byI ⟨((t.take n).map fun c => UInt8.ofNat c.toNat).toArray⟩ = t.take n := byI_mk fun c hc => hb.right c (List.mem_of_mem_take hc)
      have hsz := byI_len ⟨((t.take n).map fun c => UInt8.ofNat c.toNat).toArray⟩
      rw [hby, List.length_take] at hsz
      rw [hby, ← hsz, show min n t.length = n by omega, List.take_append_drop]
      exact ⟨rfl, h2⟩

theorem suf_rdB : Suf rdB := fun l a r h => by
  cases l with
  | nil => cases h
  | cons c t => cases h; exact ⟨[a], rfl⟩
theorem suf_rdUF : ∀ (f : Nat) (st : Bool), Suf (rdUF f st)
  | 0, _ => Suf.bad 3
  | f + 1, st => by
    intro l a r h
    cases l with
    | nil => cases h
    | cons c t =>
      obtain ⟨p, rfl⟩ := (Suf.ite (p := (f = 0 ∧ 1 < c) ∨ (st = true ∧ c = 0)) (Suf.bad 3) (Suf.ite (p := c < 128) (Suf.ok c.toNat) (Suf.bind (suf_rdUF f true) fun v => Suf.ok (c.toNat - 128 + 128 * v)))) t a r h
      exact ⟨c :: p, rfl⟩
theorem suf_rdU : Suf rdU := suf_rdUF 10 false
theorem suf_rdC : Suf rdC := Suf.bind suf_rdU fun n => Suf.ite (Suf.bad 3) (Suf.ok n)
theorem suf_rdT : Suf rdT := Suf.bind suf_rdC fun n => by
  intro l a r h
  by_cases h1 : l.length < n
  · simp only [if_pos h1] at h; cases h
  · simp only [if_neg h1] at h; cases h; exact ⟨l.take n, (List.take_append_drop _ _).symm⟩
theorem suf_rdK {rd : List Int → Rd V} (h : Suf rd) (st : Bool) : ∀ (n : Nat) (ns : List ByteArray) (ks : List V), Suf (rdK rd st n ns ks)
  | 0, ns, ks => Suf.ok (ns, ks)
  | n + 1, ns, ks => Suf.ite (Suf.bind suf_rdT fun s => Suf.bind h fun v => suf_rdK h st n (ns ++ [s]) (ks ++ [v])) (Suf.bind h fun v => suf_rdK h st n ns (ks ++ [v]))
theorem suf_rdV : ∀ (m : Nat), Suf (rdV m)
  | 0 => Suf.bad 9
  | m + 1 => Suf.bind suf_rdB fun _ => Suf.ite (Suf.ok _) (Suf.ite (Suf.bind suf_rdB fun _ => Suf.ite (Suf.bad 3) (Suf.ok _)) (Suf.ite (Suf.bind suf_rdU fun _ => Suf.ok _) (Suf.ite (Suf.bind suf_rdU fun _ => Suf.bind suf_rdB fun _ => Suf.ok _)
      (Suf.ite (Suf.bind suf_rdU fun _ => Suf.ok _) (Suf.ite (Suf.bind suf_rdT fun _ => Suf.ok _) (Suf.ite (Suf.bind suf_rdC fun n => Suf.bind (suf_rdK (suf_rdV m) _ n [] []) fun _ => Suf.ok _) (Suf.bad 3)))))))
end K
end Go.Proofs.YtlamdhekjlnccaaGreatDoor

/- Values as bytes (chapter 7): a value that was laid is read as it was, and what is read is laid so; no program in sight. -/
namespace Go.Proofs.YtlamdhekjlnccaaGreatDoor
namespace K

/-- Pieces, by the lists themselves. -/
def encK (ky : V → List Int) (st : Bool) : List ByteArray → List V → List Int
  | _, [] => []
  | ns, k :: ks => (if st then uvB (ns.headD noT).size ++ byI (ns.headD noT) else []) ++ (ky k ++ encK ky st ns.tail ks)
theorem encK_range (ky : V → List Int) (st : Bool) : ∀ (ks : List V) (ns : List ByteArray), (List.range ks.length).flatMap (pieceE ky st ns ks) = encK ky st ns ks
  | [], ns => rfl
  | k :: ks, ns => by
    rw [List.length_cons, List.range_succ_eq_map, List.flatMap_cons, List.flatMap_map]
    have : (fun j => pieceE ky st ns (k :: ks) (Nat.succ j)) = pieceE ky st ns.tail ks := by
      funext j
      unfold pieceE
      cases ns <;> simp
    rw [this, encK_range ky st ks ns.tail]
    show _ = (if st then uvB (ns.headD noT).size ++ byI (ns.headD noT) else []) ++ (ky k ++ encK ky st ns.tail ks)
    unfold pieceE
    cases ns <;> simp
theorem rdK_enc {rd : List Int → Rd V} {ky : V → List Int} (st : Bool) : ∀ (ks : List V) (ns : List ByteArray) (ns0 : List ByteArray) (ks0 : List V) (r : List Int), (∀ k ∈ ks, ∀ r, rd (ky k ++ r) = .ok k r) → (st = true → ns.length = ks.length ∧ ∀ s ∈ ns, s.size ≤ 65536) →
    rdK rd st ks.length ns0 ks0 (encK ky st ns ks ++ r) = .ok (if st = true then ns0 ++ ns else ns0, ks0 ++ ks) r
  | [], ns, ns0, ks0, r, _, hn => by
    cases st with
    | true => have := (hn rfl).1; obtain rfl := List.eq_nil_of_length_eq_zero this; simp [rdK, encK]
    | false => simp [rdK, encK]
  | k :: ks, ns, ns0, ks0, r, hk, hn => by
    unfold encK
    rw [List.length_cons, rdK]
    cases st with
    | true =>
      obtain ⟨h1, h2⟩ := hn rfl
      cases ns with
      | nil => cases h1
      | cons s ns =>
        simp only [if_true, List.headD_cons, List.tail_cons, List.append_assoc]
        rw [rdT_enc (h2 s (by simp))]
        simp only [Rd.bind]
        rw [hk k (by simp)]
        simp only
        rw [rdK_enc true ks ns (ns0 ++ [s]) (ks0 ++ [k]) r (fun k hk' => hk k (List.mem_cons_of_mem _ hk')) (fun _ => ⟨by simpa using h1, fun s hs => h2 s (List.mem_cons_of_mem _ hs)⟩)]
        simp
    | false =>
      simp only [Bool.false_eq_true, if_false, List.nil_append, List.append_assoc]
      rw [hk k (by simp)]
      simp only [Rd.bind]
      rw [rdK_enc false ks ns.tail ns0 (ks0 ++ [k]) r (fun k hk' => hk k (List.mem_cons_of_mem _ hk')) (fun h => by cases h)]
      simp
theorem rdK_can {rd : List Int → Rd V} {ky : V → List Int} {good : V → Prop} (st : Bool) (hrd : ∀ v l r, rd l = .ok v r → good v → Byt l → l = ky v ++ r) (hsuf : Suf rd) : ∀ (n : Nat) (ns0 : List ByteArray) (ks0 : List V) (l r : List Int) (p : List ByteArray × List V), Byt l → rdK rd st n ns0 ks0 l = .ok p r →
    ∃ ns ks, p = (ns0 ++ ns, ks0 ++ ks) ∧ ks.length = n ∧ (st = true → ns.length = n) ∧ (st = false → ns = []) ∧ ((∀ k ∈ ks, good k) → l = encK ky st ns ks ++ r)
  | 0, ns0, ks0, l, r, p, _, h => by cases h; exact ⟨[], [], by simp, rfl, fun _ => rfl, fun _ => rfl, fun _ => rfl⟩
  | n + 1, ns0, ks0, l, r, p, hb, h => by
    rw [rdK] at h
    cases st with
    | true =>
      rw [if_pos rfl] at h
      cases h1 : rdT l with
      | bad e => rw [h1] at h; cases h
      | ok s r1 =>
        rw [h1] at h
        simp only [Rd.bind] at h
        obtain ⟨hl, -⟩ := rdT_can hb h1
        subst hl
        have hb1 : Byt r1 := hb.right.right
        cases h2 : rd r1 with
        | bad e => rw [h2] at h; cases h
        | ok v r2 =>
          rw [h2] at h
          simp only at h
          obtain ⟨q, hq⟩ := hsuf r1 v r2 h2
          have hb2 : Byt r2 := by rw [hq] at hb1; exact hb1.right
          obtain ⟨ns, ks, rfl, e1, e2, e3, e4⟩ := rdK_can true hrd hsuf n (ns0 ++ [s]) (ks0 ++ [v]) r2 r p hb2 h
          refine ⟨s :: ns, v :: ks, by simp, by simp [e1], fun _ => by simp [e2 rfl], fun h => (by cases h), fun hg => ?_⟩
          rw [hrd v r1 r2 h2 (hg v (by simp)) hb1, e4 fun k hk => hg k (List.mem_cons_of_mem _ hk)]
          simp [encK]
    | false =>
      rw [if_neg Bool.false_ne_true] at h
      cases h2 : rd l with
      | bad e => rw [h2] at h; cases h
      | ok v r2 =>
        rw [h2] at h
        simp only [Rd.bind] at h
        obtain ⟨q, hq⟩ := hsuf l v r2 h2
        have hb2 : Byt r2 := by rw [hq] at hb; exact hb.right
        obtain ⟨ns, ks, rfl, e1, e2, e3, e4⟩ := rdK_can false hrd hsuf n ns0 (ks0 ++ [v]) r2 r p hb2 h
        refine ⟨ns, v :: ks, by simp, by simp [e1], fun h => (by cases h), e3, fun hg => ?_⟩
        rw [hrd v l r2 h2 (hg v (by simp)) hb, e4 fun k hk => hg k (List.mem_cons_of_mem _ hk)]
        obtain rfl := e3 rfl
        simp [encK]
end K
end Go.Proofs.YtlamdhekjlnccaaGreatDoor

/- Values as bytes (chapter 7): the laws of values; no program in sight. -/
namespace Go.Proofs.YtlamdhekjlnccaaGreatDoor
namespace K

theorem noT_of {t : ByteArray} (h : t.size = 0) : t = noT := by
  apply ByteArray.ext
  apply Array.eq_empty_of_size_eq_zero h
/-- A value's form, by its kind. -/
theorem shp_full {v : V} (h : shp v = 0) :
    (v.k = 1 ∧ v = .mk 1 0 0 noT [] []) ∨ (v.k = 2 ∧ v = .mk 2 v.n 0 noT [] [] ∧ 0 ≤ v.n ∧ v.n ≤ 1) ∨ (v.k = 3 ∧ v = .mk 3 v.n 0 noT [] []) ∨ (v.k = 4 ∧ v = .mk 4 v.n v.s noT [] [] ∧ 1 ≤ v.s ∧ v.s ≤ 18) ∨
    (v.k = 5 ∧ v = .mk 5 v.n 0 noT [] [] ∧ 0 ≤ v.n ∧ v.n ≤ 9007199254740992) ∨ ((v.k = 6 ∨ v.k = 7) ∧ v = .mk v.k 0 0 v.t [] [] ∧ v.t.size ≤ 16384) ∨
    (v.k = 8 ∧ v = .mk 8 0 0 noT [] v.kids ∧ v.kids.length ≤ 200) ∨ (v.k = 9 ∧ v = .mk 9 0 0 noT v.names v.kids ∧ v.kids.length ≤ 200 ∧ v.names.length = v.kids.length ∧ ∀ s ∈ v.names, s.size ≤ 40) := by
  obtain ⟨k, n, s, t, names, kids⟩ := v
  unfold shp at h
  by_cases h1 : formB (.mk k n s t names kids) = false
  · rw [if_pos h1] at h; cases h
  rw [if_neg h1] at h
  by_cases h2 : 16384 < (V.mk k n s t names kids).t.size ∨ 200 < (V.mk k n s t names kids).kids.length
  · rw [if_pos h2] at h; cases h
  rw [if_neg h2] at h
  by_cases h3 : (V.mk k n s t names kids).k = 9 ∧ fieldsB (.mk k n s t names kids) = false
  · rw [if_pos h3] at h; cases h
  have hf : formB (.mk k n s t names kids) = true := by simpa using h1
  clear h h1
  simp only [V.k, V.t, V.kids] at h2 h3
  unfold formB at hf
  simp only [V.k, V.n, V.s, V.t, V.names, V.kids]
  by_cases a1 : k = 1
  · subst a1; left
    rw [if_pos (show (V.mk 1 n s t names kids).k = 1 from rfl)] at hf
    simp only [bareB, plainB, noTextB, Bool.and_eq_true, decide_eq_true_eq, List.length_eq_zero_iff] at hf
    simp only [V.n, V.s, V.t, V.names, V.kids] at hf
    obtain ⟨⟨⟨rfl, rfl⟩, rfl, rfl⟩, ht⟩ := hf
    exact ⟨rfl, by rw [noT_of ht]⟩
  rw [if_neg (show ¬ (V.mk k n s t names kids).k = 1 from a1)] at hf; right
  by_cases a2 : k = 2
  · subst a2; left
    rw [if_pos (show (V.mk 2 n s t names kids).k = 2 from rfl)] at hf
    simp only [plainB, noTextB, Bool.and_eq_true, decide_eq_true_eq, List.length_eq_zero_iff] at hf
    simp only [V.n, V.s, V.t, V.names, V.kids] at hf
    obtain ⟨⟨⟨⟨b1, b2⟩, rfl⟩, rfl, rfl⟩, ht⟩ := hf
    exact ⟨rfl, by rw [noT_of ht], b1, b2⟩
  rw [if_neg (show ¬ (V.mk k n s t names kids).k = 2 from a2)] at hf; right
  by_cases a3 : k = 3
  · subst a3; left
    rw [if_pos (show (V.mk 3 n s t names kids).k = 3 from rfl)] at hf
    simp only [plainB, noTextB, Bool.and_eq_true, decide_eq_true_eq, List.length_eq_zero_iff] at hf
    simp only [V.s, V.t, V.names, V.kids] at hf
    obtain ⟨⟨rfl, rfl, rfl⟩, ht⟩ := hf
    exact ⟨rfl, by rw [noT_of ht]⟩
  rw [if_neg (show ¬ (V.mk k n s t names kids).k = 3 from a3)] at hf; right
  by_cases a4 : k = 4
  · subst a4; left
    rw [if_pos (show (V.mk 4 n s t names kids).k = 4 from rfl)] at hf
    simp only [plainB, noTextB, Bool.and_eq_true, decide_eq_true_eq, List.length_eq_zero_iff] at hf
    simp only [V.n, V.s, V.t, V.names, V.kids] at hf
    obtain ⟨⟨⟨⟨b1, b2⟩, -⟩, rfl, rfl⟩, ht⟩ := hf
    exact ⟨rfl, by rw [noT_of ht], b1, b2⟩
  rw [if_neg (show ¬ (V.mk k n s t names kids).k = 4 from a4)] at hf; right
  by_cases a5 : k = 5
  · subst a5; left
    rw [if_pos (show (V.mk 5 n s t names kids).k = 5 from rfl)] at hf
    simp only [plainB, noTextB, Bool.and_eq_true, decide_eq_true_eq, List.length_eq_zero_iff] at hf
    simp only [V.n, V.s, V.t, V.names, V.kids] at hf
    obtain ⟨⟨⟨⟨b1, b2⟩, rfl⟩, rfl, rfl⟩, ht⟩ := hf
    exact ⟨rfl, by rw [noT_of ht], b1, b2⟩
  rw [if_neg (show ¬ (V.mk k n s t names kids).k = 5 from a5)] at hf; right
  by_cases a6 : k = 6 ∨ k = 7
  · left
    rw [if_pos (show (V.mk k n s t names kids).k = 6 ∨ (V.mk k n s t names kids).k = 7 from a6)] at hf
    simp only [bareB, plainB, Bool.and_eq_true, decide_eq_true_eq, List.length_eq_zero_iff] at hf
    simp only [V.n, V.s, V.names, V.kids] at hf
    obtain ⟨⟨rfl, rfl⟩, rfl, rfl⟩ := hf
    exact ⟨a6, rfl, by omega⟩
  rw [if_neg (show ¬ ((V.mk k n s t names kids).k = 6 ∨ (V.mk k n s t names kids).k = 7) from a6)] at hf; right
  by_cases a8 : k = 8
  · subst a8; left
    rw [if_pos (show (V.mk 8 n s t names kids).k = 8 from rfl)] at hf
    simp only [bareB, noTextB, Bool.and_eq_true, decide_eq_true_eq, List.length_eq_zero_iff] at hf
    simp only [V.n, V.s, V.t, V.names] at hf
    obtain ⟨⟨⟨rfl, rfl⟩, rfl⟩, ht⟩ := hf
    exact ⟨rfl, by rw [noT_of ht], by omega⟩
  rw [if_neg (show ¬ (V.mk k n s t names kids).k = 8 from a8)] at hf; right
  by_cases a9 : k = 9
  · subst a9
    rw [if_pos (show (V.mk 9 n s t names kids).k = 9 from rfl)] at hf
    simp only [bareB, noTextB, Bool.and_eq_true, decide_eq_true_eq] at hf
    simp only [V.n, V.s, V.t] at hf
    obtain ⟨⟨rfl, rfl⟩, ht⟩ := hf
    have h4 : fieldsB (.mk 9 0 0 t names kids) = true := by
      cases hb : fieldsB (.mk 9 0 0 t names kids) with
      | true => rfl
      | false => exact (h3 ⟨rfl, hb⟩).elim
    unfold fieldsB at h4
    simp only [Bool.and_eq_true, List.all_eq_true, decide_eq_true_eq] at h4
    refine ⟨rfl, by rw [noT_of ht], by omega, h4.2, fun s hs => ?_⟩
    have := h4.1.1 s hs
    unfold isNameB at this
    simp at this
    omega
  · rw [if_neg (show ¬ (V.mk k n s t names kids).k = 9 from a9)] at hf; cases hf

/-- Its numbers are as great as a number can be. -/
def Rng : Nat → V → Prop
  | 0, _ => False
  | f + 1, v => (-9223372036854775808 ≤ v.n ∧ v.n ≤ 9223372036854775807) ∧ ∀ x ∈ v.kids, Rng f x
theorem chk_mem {m : Nat} {v x : V} (h : chk (m + 1) v = 0) (hx : x ∈ v.kids) : chk m x = 0 := by
  obtain ⟨j, hj, rfl⟩ := List.getElem_of_mem hx
  have := chk_kid h hj
  rwa [List.getD_eq_getElem?_getD, List.getElem?_eq_getElem hj] at this

theorem rdV_enc : ∀ (m : Nat) {f : Nat} {v : V} (r : List Int), chk m v = 0 → Rng f v → rdV m (encV m v ++ r) = .ok v r
  | 0, _, _, _, h, _ => by cases h
  | _ + 1, 0, _, _, _, h => h.elim
  | m + 1, f + 1, v, r, hc, hr => by
    have hk : ∀ x ∈ v.kids, ∀ r, rdV m (encV m x ++ r) = .ok x r := fun x hx r => rdV_enc m r (chk_mem hc hx) (hr.2 x hx)
    have hn := zig_lt hr.1
    have hn0 := hr.1
    clear hr
    rcases shp_full (chk_shp hc) with ⟨h1, e⟩ | ⟨h1, e, h2, h3⟩ | ⟨h1, e⟩ | ⟨h1, e, h2, h3⟩ | ⟨h1, e, h2, h3⟩ | ⟨h1, e, h2⟩ | ⟨h1, e, h2⟩ | ⟨h1, e, h2, h3, h4⟩ <;> clear hc
    · rw [e]; rfl
    · obtain ⟨n, hn⟩ : ∃ n, v.n = n := ⟨_, rfl⟩
      rw [hn] at e h3
      rw [e]
      show (if 1 < n then Rd.bad 3 else Rd.ok (V.mk 2 n 0 noT [] []) r) = _
      rw [if_neg (by omega)]
    · obtain ⟨n, hv⟩ : ∃ n, v.n = n := ⟨_, rfl⟩
      rw [hv] at e hn
      rw [e]
      show (rdU (uvB (zig n) ++ r)).bind (fun u r => .ok (V.mk 3 (zag u) 0 noT [] []) r) = _
      rw [rdU_enc hn]
      show Rd.ok (V.mk 3 (zag (zig n)) 0 noT [] []) r = _
      rw [zag_zig]
    · obtain ⟨n, hv⟩ : ∃ n, v.n = n := ⟨_, rfl⟩
      obtain ⟨s, hs⟩ : ∃ s, v.s = s := ⟨_, rfl⟩
      rw [hv, hs] at e
      rw [hv] at hn
      rw [e]
      show (rdU ((uvB (zig n) ++ [s]) ++ r)).bind (fun u r => (rdB r).bind fun s r => .ok (V.mk 4 (zag u) s noT [] []) r) = _
      rw [List.append_assoc, rdU_enc hn]
      show Rd.ok (V.mk 4 (zag (zig n)) s noT [] []) r = _
      rw [zag_zig]
    · obtain ⟨n, hv⟩ : ∃ n, v.n = n := ⟨_, rfl⟩
      rw [hv] at e h2 h3
      rw [e]
      show (rdU (uvB n.toNat ++ r)).bind (fun u r => .ok (V.mk 5 (IntKind.i64.wrap (u : Int)) 0 noT [] []) r) = _
      rw [rdU_enc (by omega)]
      show Rd.ok (V.mk 5 (IntKind.i64.wrap (n.toNat : Int)) 0 noT [] []) r = _
      rw [Int.toNat_of_nonneg h2, IntKind.wrap_i64, show (n + 9223372036854775808) % 18446744073709551616 - 9223372036854775808 = n by omega]
    · obtain ⟨k, hk⟩ : ∃ k, v.k = k := ⟨_, rfl⟩
      obtain ⟨t, ht⟩ : ∃ t, v.t = t := ⟨_, rfl⟩
      rw [hk, ht] at e
      rw [ht] at h2
      rw [hk] at h1
      rw [e]
      have he : encV (m + 1) (.mk k 0 0 t [] []) = k :: (uvB t.size ++ byI t) := by
        rcases h1 with rfl | rfl <;> rfl
      rw [he]
      have hd : rdV (m + 1) (k :: (uvB t.size ++ byI t) ++ r) = (rdT ((uvB t.size ++ byI t) ++ r)).bind fun t r => .ok (.mk k 0 0 t [] []) r := by
        rcases h1 with rfl | rfl <;> rfl
      rw [hd, List.append_assoc, rdT_enc (by omega)]
      rfl
    · obtain ⟨ks, hks⟩ : ∃ ks, v.kids = ks := ⟨_, rfl⟩
      rw [hks] at e h2 hk
      rw [e]
      show (rdC ((uvB ks.length ++ (List.range ks.length).flatMap (pieceE (encV m) false [] ks)) ++ r)).bind (fun n r => (rdK (rdV m) false n [] [] r).bind fun p r => .ok (V.mk 8 0 0 noT p.1 p.2) r) = _
      rw [List.append_assoc, rdC_enc (by omega), encK_range]
      simp only [Rd.bind]
      rw [rdK_enc false ks [] [] [] r hk (fun h => by cases h)]
      simp
    · obtain ⟨ks, hks⟩ : ∃ ks, v.kids = ks := ⟨_, rfl⟩
      obtain ⟨ns, hns⟩ : ∃ ns, v.names = ns := ⟨_, rfl⟩
      rw [hks, hns] at e h3
      rw [hks] at h2 hk
      rw [hns] at h4
      rw [e]
      show (rdC ((uvB ks.length ++ (List.range ks.length).flatMap (pieceE (encV m) true ns ks)) ++ r)).bind (fun n r => (rdK (rdV m) true n [] [] r).bind fun p r => .ok (V.mk 9 0 0 noT p.1 p.2) r) = _
      rw [List.append_assoc, rdC_enc (by omega), encK_range]
      simp only [Rd.bind]
      rw [rdK_enc true ks ns [] [] r hk (fun _ => ⟨h3, fun s hs => Nat.le_trans (h4 s hs) (by decide)⟩)]
      simp

theorem rdV_can : ∀ (m : Nat) {v : V} {l r : List Int}, rdV m l = .ok v r → chk m v = 0 → Byt l → l = encV m v ++ r
  | 0, _, _, _, h, _, _ => by cases h
  | m + 1, v, l, r, h, hc, hb => by
    have ih : ∀ v l r, rdV m l = .ok v r → chk m v = 0 → Byt l → l = encV m v ++ r := fun v l r h1 h2 h3 => rdV_can m h1 h2 h3
    cases l with
    | nil => cases h
    | cons k l =>
      have hb1 := hb.tail
      have hsh := shp_form_k (chk_shp hc)
      have hkid : ∀ x ∈ v.kids, chk m x = 0 := fun x hx => chk_mem hc hx
      clear hc hb
      unfold rdV at h
      simp only [rdB, Rd.bind] at h
      by_cases k1 : k = 1
      · rw [if_pos k1] at h; cases h; subst k1; rfl
      rw [if_neg k1] at h
      by_cases k2 : k = 2
      · rw [if_pos k2] at h
        cases l with
        | nil => cases h
        | cons c l =>
          simp only at h
          split at h
          · cases h
          · cases h; subst k2; rfl
      rw [if_neg k2] at h
      by_cases k3 : k = 3
      · rw [if_pos k3] at h
        cases hu : rdU l with
        | bad e => rw [hu] at h; cases h
        | ok u r' =>
          rw [hu] at h; cases h; subst k3
          obtain ⟨rfl, -⟩ := rdU_can hb1 hu
          show _ = 3 :: uvB (zig (zag u)) ++ r
          rw [zig_zag]; rfl
      rw [if_neg k3] at h
      by_cases k4 : k = 4
      · rw [if_pos k4] at h
        cases hu : rdU l with
        | bad e => rw [hu] at h; cases h
        | ok u r' =>
          rw [hu] at h
          simp only at h
          cases r' with
          | nil => cases h
          | cons s r' =>
            cases h; subst k4
            obtain ⟨rfl, -⟩ := rdU_can hb1 hu
            show _ = 4 :: (uvB (zig (zag u)) ++ [s]) ++ r
            rw [zig_zag]; simp
      rw [if_neg k4] at h
      by_cases k5 : k = 5
      · rw [if_pos k5] at h
        cases hu : rdU l with
        | bad e => rw [hu] at h; cases h
        | ok u r' =>
          rw [hu] at h; cases h; subst k5
          obtain ⟨rfl, hlt⟩ := rdU_can hb1 hu
          have h5 := hsh.1 rfl
          have : (IntKind.i64.wrap (u : Int)).toNat = u := by
            simp only [V.n] at h5
            rw [IntKind.wrap_i64] at h5 ⊢; omega
          show _ = 5 :: uvB (IntKind.i64.wrap (u : Int)).toNat ++ r
          rw [this]; rfl
      rw [if_neg k5] at h
      by_cases k6 : k = 6 ∨ k = 7
      · rw [if_pos k6] at h
        cases hu : rdT l with
        | bad e => rw [hu] at h; cases h
        | ok t r' =>
          rw [hu] at h; cases h
          obtain ⟨rfl, -⟩ := rdT_can hb1 hu
          rcases k6 with rfl | rfl
          · show _ = 6 :: (uvB t.size ++ byI t) ++ r
            simp
          · show _ = 7 :: (uvB t.size ++ byI t) ++ r
            simp
      rw [if_neg k6] at h
      by_cases k8 : k = 8 ∨ k = 9
      · rw [if_pos k8] at h
        cases hu : rdC l with
        | bad e => rw [hu] at h; cases h
        | ok n r' =>
          rw [hu] at h
          simp only at h
          obtain ⟨rfl, -⟩ := rdC_can hb1 hu
          cases hk : rdK (rdV m) (decide (k = 9)) n [] [] r' with
          | bad e => rw [hk] at h; cases h
          | ok p r2 =>
            rw [hk] at h
            cases h
            obtain ⟨ns, ks, rfl, e1, e2, e3, e4⟩ := rdK_can (decide (k = 9)) ih (suf_rdV m) n [] [] r' r p hb1.right hk
            simp only [List.nil_append, V.kids] at hkid ⊢
            rw [e4 hkid]
            subst e1
            have he : encV (m + 1) (.mk k 0 0 noT ns ks) = k :: (uvB ks.length ++ (List.range ks.length).flatMap (pieceE (encV m) (decide (k = 9)) ns ks)) := by
              rcases k8 with rfl | rfl <;> rfl
            rw [he, encK_range]
            simp
      · rw [if_neg k8] at h; cases h
where
  shp_form_k {v : V} (h : shp v = 0) : (v.k = 5 → 0 ≤ v.n ∧ v.n ≤ 9007199254740992) ∧ True := by
    refine ⟨fun e => ?_, trivial⟩
    rcases shp_full h with ⟨h1, _⟩ | ⟨h1, _, _⟩ | ⟨h1, _⟩ | ⟨h1, _, _⟩ | ⟨h1, _, h2, h3⟩ | ⟨h1, _⟩ | ⟨h1, _⟩ | ⟨h1, _⟩
    all_goals first | exact ⟨h2, h3⟩ | omega
end K
end Go.Proofs.YtlamdhekjlnccaaGreatDoor

/- Values that are read (chapter 7): in memory of their own; the reader. -/
namespace Go.Proofs.YtlamdhekjlnccaaGreatDoor
open Go.RowKit
namespace K
variable {n : Nat} {Q : Exit → Act → World → Prop} {l : Env} {w w' : World} {ops : Array Oper} {o : Oper} {rest : List Oper} {d : Nat}

/-- The cell of a text. -/
def strP (s : ByteArray) (cs : List Value) : Prop := cs = [.string s] ∧ s.size ≤ 140737488355328
/-- The six cells of a value, whose rows lie in blocks of O. -/
def IsVo (O : Nat → Prop) : Nat → World → V → List Value → Prop
  | 0, _, _, _ => False
  | f + 1, w, v, cs => ∃ sn sk, cs = [.int .i64 v.k, .int .i64 v.n, .int .i64 v.s, .string v.t, sn, sk] ∧
      (Lit.int .i64 v.k).wf = true ∧ (Lit.int .i64 v.n).wf = true ∧ (Lit.int .i64 v.s).wf = true ∧ v.t.size ≤ 140737488355328 ∧ Els 1 noT strP O w sn v.names ∧ Els 6 noV (IsVo O f w) O w sk v.kids
theorem IsVo.keep {O O' : Nat → Prop} {K : Nat → Prop} {w w' : World} (hk : Keep K w w') (hK : ∀ b, O b → b < w.heap.size → K b) (hO : ∀ b, O b → O' b) : ∀ {f : Nat} {v : V} {cs : List Value}, IsVo O f w v cs → IsVo O' f w' v cs
  | 0, _, _, h => h
  | _ + 1, _, _, ⟨sn, sk, h1, h2, h3, h4, h5, h6, h7⟩ => ⟨sn, sk, h1, h2, h3, h4, h5, h6.keep hk hK hO fun _ _ h => h, h7.keep hk hK hO fun _ _ h => IsVo.keep hk hK hO h⟩
theorem IsVo.mono {O O' : Nat → Prop} {w : World} (hO : ∀ b, O b → O' b) {f : Nat} {v : V} {cs : List Value} (h : IsVo O f w v cs) : IsVo O' f w v cs := h.keep (Keep.refl (fun _ => True) w) (fun _ _ _ => trivial) hO
/-- The blocks are there. -/
theorem Els.there {α : Type} {m : Nat} {z : α} {P P' : α → List Value → Prop} {O : Nat → Prop} {w : World} {v : Value} {l : List α} (h : Els m z P O w v l) (hP : ∀ x cs, P x cs → P' x cs) : Els m z P' (fun b => O b ∧ b < w.heap.size) w v l := by
  obtain ⟨sp, cap, h1, h2, h3, h5, h4⟩ := h
  refine ⟨sp, cap, h1, h2, h3, h5, fun h0 => ?_⟩
  obtain ⟨b, o, e, hlt, hOb, hr⟩ := h4 h0
  refine ⟨b, o, e, hlt, ⟨hOb, hlt⟩, fun j hj => ?_⟩
  obtain ⟨cs, hc, hp, hat⟩ := hr j hj
  exact ⟨cs, hc, hP _ _ hp, hat⟩
theorem IsVo.there {O : Nat → Prop} {w : World} : ∀ {f : Nat} {v : V} {cs : List Value}, IsVo O f w v cs → IsVo (fun b => O b ∧ b < w.heap.size) f w v cs
  | 0, _, _, h => h
  | _ + 1, _, _, ⟨sn, sk, h1, h2, h3, h4, h5, h6, h7⟩ => ⟨sn, sk, h1, h2, h3, h4, h5, h6.there fun _ _ h => h, h7.there fun _ _ h => IsVo.there h⟩
theorem Els.strs {O : Nat → Prop} {w : World} {v : Value} {l : List ByteArray} (h : Els 1 noT strP O w v l) : Strs w v l := by
  obtain ⟨sp, cap, h1, h2, h3, -, h4⟩ := h
  refine ⟨sp, cap, h1, h2, h3, fun j hj => ?_, fun h0 => ?_⟩
  · obtain ⟨b, o, -, -, -, hr⟩ := h4 (by omega)
    obtain ⟨cs, -, ⟨-, hp⟩, -⟩ := hr j hj
    exact hp
  · obtain ⟨b, o, e, hb, -, hr⟩ := h4 h0
    refine ⟨b, o, e, hb, fun j hj => ?_⟩
    obtain ⟨cs, -, ⟨rfl, -⟩, hat⟩ := hr j hj
    have := hat 0 _ rfl
    rw [Nat.mul_one] at this
    exact this
theorem IsVo.isV {O : Nat → Prop} {w : World} : ∀ {f : Nat} {v : V} {cs : List Value}, IsVo O f w v cs → IsV f w v cs
  | 0, _, _, h => h
  | _ + 1, _, _, ⟨sn, sk, h1, h2, h3, h4, h5, h6, h7⟩ => ⟨sn, sk, h1, h2, h3, h4, h5, h6.strs, by
      obtain ⟨sp, cap, k1, k2, k3, -, k4⟩ := h7
      refine ⟨sp, cap, k1, k2, k3, fun h0 => ?_⟩
      obtain ⟨b, o, e, hb, -, hr⟩ := k4 h0
      refine ⟨b, o, e, hb, fun j hj => ?_⟩
      obtain ⟨cs, hc, hp, hat⟩ := hr j hj
      exact ⟨cs, hc, IsVo.isV hp, hat⟩⟩
theorem IsVo.len {O : Nat → Prop} {f : Nat} {w : World} {v : V} {cs : List Value} (h : IsVo O f w v cs) : cs.length = 6 := h.isV.len
theorem IsVo.one {O : Nat → Prop} {f : Nat} {w : World} {v : V} {cs : List Value} (h : IsVo O f w v cs) : Ones cs := IsV.one h.isV

/-- Bytes, in a block of O. -/
structure SlB (O : Nat → Prop) (w : World) (v : Value) (l : List Int) : Prop where
  sl : Sl .u8 w v l
  lt : 0 < l.length → ∀ b o s n c, v = .slice (some ⟨b, o, s⟩) n c → O b
theorem SlB.keep {O : Nat → Prop} {w w' : World} {v : Value} {l : List Int} (h : SlB O w v l) {K : Nat → Prop} (hk : Keep K w w') (hK : ∀ b, O b → K b) : SlB O w' v l := by
  refine ⟨?_, h.lt⟩
  rcases Nat.eq_zero_or_pos l.length with h0 | h0
  · obtain ⟨sp, cap, rfl, h2, h3, h4, h5⟩ := h.sl
    exact ⟨sp, cap, rfl, h2, h3, fun h1 => absurd h1 (by omega), h5⟩
  · exact h.sl.keep hk fun b o n c e _ => hK b (h.lt h0 b o none n c e)
theorem SlB.mono {O O' : Nat → Prop} {w : World} {v : Value} {l : List Int} (h : SlB O w v l) (hO : ∀ b, O b → O' b) : SlB O' w v l := ⟨h.sl, fun h0 b o s n c e => hO b (h.lt h0 b o s n c e)⟩
theorem SlB.of_sl {w : World} {v : Value} {l : List Int} (h : Sl .u8 w v l) : SlB (fun b => b < w.heap.size) w v l :=
  ⟨h, fun h0 b o s n c e => by
    obtain ⟨sp, cap, rfl, -, -, h3, -⟩ := h
    obtain ⟨b', o', rfl, hb, -⟩ := h3 h0
    injection e with e1 _ _; cases e1; exact hb⟩
/-- A slice from a place on. -/
theorem WL.fromB {O : Nat → Prop} {t e : Nat} {x lo : Operand} {v : Value} {kk : IntKind} {z : Int} {zs : List Int} {w0 : World} (hg : o.guard = none) (hd : o.dst = some d) (hn : Nat.blt d n = true) (ho : o.op = .slice t x (some lo) none none) (ht : tyOf ty t = some (.slice e 1))
    (hx : evl l x = some v) (hlo : evl l lo = some (.int kk z)) (h0 : 0 ≤ z) (h1 : z ≤ zs.length) (hs : SlB O w0 v zs) (h : ∀ v', SlB O w0 v' (zs.drop z.toNat) → WL n ops Q rest ((d, v') :: l) w) : WL n ops Q (o :: rest) l w := by
  have hs0 := hs.sl
  have hlt := hs.lt
  obtain ⟨sp, cap, rfl, hc, hm, hr, hn0⟩ := hs.sl
  refine WL.step hg hd hn (v := sliced sp z.toNat zs.length cap 1) (fun a ha => ?_) (h _ ⟨sl_from hs0 (by omega), fun hl0 b o s m c e => ?_⟩)
  · obtain ⟨hu, hsz⟩ := TyOk.of tyOk ht
    have he : Tryz.prog.elem t = e := by simp [Program.elem, hu]
    have hu' : Tryz.prog.underlying t = some (.slice (Tryz.prog.elem t)) := by rw [he]; exact hu
    have hs : (sizeOf e).run Tryz.prog w = .ok 1 w := by
      cases hq : Tryz.prog.info? e with
      | none => rw [hq] at hsz; cases hsz
      | some q => rw [hq] at hsz; simp at hsz; simp [sizeOf, typeInfo, hq, hsz]
    unfold execOp
    rw [ho]
    simp [ha.eval hx, ha.eval hlo, run_sliceAt_slice w t _ _ _ _ hu', run_slice_l w t sp zs.length cap hu' kk z h0 (by omega), he, hs]
  · unfold sliced at e
    injection e with e1 _ _
    cases sp with
    | none => split at e1 <;> cases e1
    | some p =>
      obtain ⟨pb, po, ps⟩ := p
      have := hlt (by rw [List.length_drop] at hl0; omega) pb po ps _ _ rfl
      split at e1
      · cases e1; exact this
      · have e2 := congrArg (fun q => q.map Addr.block) e1
        have e3 : ((⟨pb, po, ps⟩ : Addr).add (z.toNat * 1)).block = pb := by unfold Addr.add; split <;> rfl
        simp only [Option.map_some, Option.some.injEq, e3] at e2
        rw [← e2]; exact this

/-- The reader lies in block rb: what is left, and its error. -/
structure RS (B : Nat) (w : World) (rb : Nat) (l : List Int) (e : Int) : Prop where
  rlt : rb < B
  byt : Byt l
  ex : ∃ sp cap, VBlk 142 w rb [.slice sp l.length cap, .int .i64 e] ∧ SlB (fun b => b < B ∧ b ≠ rb) w (.slice sp l.length cap) l
theorem RS.keep {B : Nat} {w w' : World} {rb : Nat} {l : List Int} {e : Int} (h : RS B w rb l e) {K : Nat → Prop} (hk : Keep K w w') (hK : ∀ b, b < B → K b) : RS B w' rb l e := by
  obtain ⟨sp, cap, h1, h2⟩ := h.ex
  exact ⟨h.rlt, h.byt, sp, cap, h1.keep hk (hK _ h.rlt), h2.keep hk fun b hb => hK b hb.1⟩
theorem RS.mono {B B' : Nat} {w : World} {rb : Nat} {l : List Int} {e : Int} (h : RS B w rb l e) (hB : B ≤ B') : RS B' w rb l e := by
  obtain ⟨sp, cap, h1, h2⟩ := h.ex
  exact ⟨Nat.lt_of_lt_of_le h.rlt hB, h.byt, sp, cap, h1, h2.mono fun b hb => ⟨Nat.lt_of_lt_of_le hb.1 hB, hb.2⟩⟩
/-- Its error becomes another one. -/
theorem RS.setE {B : Nat} {w : World} {rb : Nat} {l : List Int} {e : Int} (h : RS B w rb l e) (x : Int) : RS B (w.setCell ⟨rb, 1, none⟩ (.int .i64 x)) rb l x := by
  obtain ⟨sp, cap, h1, h2⟩ := h.ex
  exact ⟨h.rlt, h.byt, sp, cap, h1.set 1 (.int .i64 x), h2.keep (K := fun b => b ≠ rb) ((Keep.refl _ w).setCell (fun hk => hk rfl) _) fun b hb => hb.2⟩
/-- What is left becomes an end of it. -/
theorem RS.setL {B : Nat} {w : World} {rb : Nat} {l l' : List Int} {e : Int} {v' : Value} (h : RS B w rb l e) (hb : Byt l') (hv : SlB (fun b => b < B ∧ b ≠ rb) w v' l') : RS B (w.setCell ⟨rb, 0, none⟩ v') rb l' e := by
  obtain ⟨sp, cap, h1, h2⟩ := h.ex
  obtain ⟨sp', cap', rfl, -⟩ := hv.sl
  exact ⟨h.rlt, hb, sp', cap', h1.set 0 (.slice sp' l'.length cap'), hv.keep (K := fun b => b ≠ rb) ((Keep.refl _ w).setCell (fun hk => hk rfl) _) fun b hb => hb.2⟩
/-- All stands but a block. -/
def KeepR (rb : Nat) (w w' : World) : Prop := Keep (fun b => b < w.heap.size ∧ b ≠ rb) w w'
theorem KeepR.refl (rb : Nat) (w : World) : KeepR rb w w := Keep.refl _ _
theorem KeepR.trans {rb : Nat} {w w1 w2 : World} (h : KeepR rb w w1) (k : KeepR rb w1 w2) : KeepR rb w w2 := Keep.trans h (Keep.mono k fun _ hb => ⟨Nat.lt_of_lt_of_le hb.1 h.size, hb.2⟩)
theorem KeepR.below {rb : Nat} {w w1 : World} (h : Below w.heap.size w w1) : KeepR rb w w1 := (Keep.of_below h).mono fun _ hb => hb.1
theorem KeepR.set (rb i : Nat) (w : World) (v : Value) : KeepR rb w (w.setCell ⟨rb, i, none⟩ v) := (Keep.refl _ w).setCell (fun h => h.2 rfl) _
/-- What is read, behind a first error nothing. -/
structure Out {α : Type} (f : List Int → Rd α) (l : List Int) (e : Int) (a : α) (l' : List Int) (e' : Int) : Prop where
  len : l'.length ≤ l.length
  bad : e ≠ 0 → e' = e
  ok : e = 0 → match f l with | .ok x r => a = x ∧ l' = r ∧ e' = 0 | .bad x => e' = x ∧ x ≠ 0
end K
end Go.Proofs.YtlamdhekjlnccaaGreatDoor

/- Numbers as bytes (chapter 1): Uvarint and Zig, the program's and the document's. -/
namespace Go.Proofs.YtlamdhekjlnccaaGreatDoor
open Go.RowKit
namespace K

theorem uvF_len : ∀ (f u : Nat), (uvF f u).length ≤ f
  | 0, _ => by simp [uvF]
  | f + 1, u => by
    unfold uvF
    split
    · simp
    · simp [uvF_len f (u / 128)]
theorem or128 : ∀ x : Nat, x < 256 → bits .or .u8 (x : Int) 128 = ((x % 128 + 128 : Nat) : Int) := by decide +kernel
theorem and127 (u : Nat) (h : u < 18446744073709551616) : bits .and .u64 (u : Int) 127 = ((u % 128 : Nat) : Int) := by
  have h := bits_and_u64_nat u 127 h (by omega)
  have e : u &&& 127 = u % 128 := Nat.and_two_pow_sub_one_eq_mod u 7
  rw [e] at h
  exact h
theorem shr7 (u : Nat) : (u : Int) / ((2 ^ min 7 IntKind.u64.bits : Nat) : Int) = ((u / 128 : Nat) : Int) := by
  rw [show ((2 ^ min 7 IntKind.u64.bits : Nat) : Int) = 128 from rfl]; omega

theorem uvarint_any (u : Nat) (hu : u < 18446744073709551616) (w : World) :
    Calls Tryz.prog 53 #[.int .u64 u] w fun e w' => ∃ b, e = .returned b ∧ Bu w' b (uvB u) ∧ Below w.heap.size w w' ∧ ∀ g, b.ownBlock = some g → w.heap.size ≤ g := by
  refine enter (args := [.int .u64 u]) Tryz.func53 rfl Tryz.ntmps53 rfl ?_
  have h1 : u < 2 * 128 ^ 9 := by omega
  have h2 : uvB u = [] ++ uvF (9 + 1) u := by rw [List.nil_append]; rfl
  refine kgo ?_
  refine WC.loop (fun i : Nat × Nat × List Int × Value => [(0, .int .u64 i.2.1), (3, i.2.2.2)])
    (fun i w' => i.2.1 < 2 * 128 ^ i.1 ∧ i.1 ≤ 9 ∧ uvB u = i.2.2.1 ++ uvF (i.1 + 1) i.2.1 ∧ i.2.2.1.length ≤ 9 ∧ Bu w' i.2.2.2 i.2.2.1 ∧ Grow w (.slice none 0 0) w' i.2.2.2) (fun i => i.1) (9, u, [], .slice none 0 0) ⟨rfl, rfl, trivial⟩ ⟨h1, Nat.le_refl 9, h2, Nat.zero_le 9, Bu.nil w, Grow.refl _ _⟩ ?_
  rintro ⟨f, c, A, v⟩ wr ⟨hc, hf, hA, hl, hb, hg⟩
  simp only at hc hf hA hl hb hg ⊢
  have hle : (128 : Nat) ^ f ≤ 128 ^ 9 := Nat.pow_le_pow_right (by decide) hf
  by_cases h : c < 128
  · have hw : IntKind.u8.wrap (c : Int) = (c : Int) := by rw [IntKind.wrap_u8]; omega
    have hfin : uvF (f + 1) c = [(c : Int)] := by rw [uvF, if_pos h]
    refine kgo ?_
    refine WL.push rfl rfl rfl rfl rfl rfl rfl rfl rfl rfl rfl (fun _ => rfl) rfl hb (by simp only [List.length_cons, List.length_nil]; omega) fun b2 w2 hb2 hg2 => ?_
    refine kgo ?_
    have hg3 := hg.trans hg2
    refine WQ.ret1 rfl rfl ⟨b2, rfl, ?_, hg3.old (Nat.le_refl _) (fun g h => by cases h), hg3.own (Nat.le_refl _) (fun g h => by cases h)⟩
    rw [hw] at hb2
    rw [hA, hfin]
    exact hb2
  · obtain ⟨f, rfl⟩ : ∃ f', f = f' + 1 := ⟨f - 1, by
      cases f with
      | zero => simp at hc; omega
      | succ f => rfl⟩
    have hbig : uvF (f + 1 + 1) c = ((c % 128 + 128 : Nat) : Int) :: uvF (f + 1) (c / 128) := uvF_big (by omega)
    have hw : bits .or .u8 (IntKind.u8.wrap (c : Int)) 128 = ((c % 128 + 128 : Nat) : Int) := by
      have := or128 (c % 256) (by omega)
      rw [IntKind.wrap_u8, show (c : Int) % 256 = ((c % 256 : Nat) : Int) by omega, this]; omega
    refine kgo ?_
    refine WL.push rfl rfl rfl rfl rfl rfl rfl rfl rfl rfl rfl (fun _ => rfl) rfl hb (by simp only [List.length_cons, List.length_nil]; omega) fun b2 w2 hb2 hg2 => ?_
    rw [hw] at hb2
    refine kgo ?_
    refine WQ.again (f, c / 128, A ++ [((c % 128 + 128 : Nat) : Int)], b2) ⟨congrArg (fun z => some (Value.int .u64 z)) (shr7 c), rfl, trivial⟩
      ⟨by rw [Nat.pow_succ] at hc; show c / 128 < 2 * 128 ^ f; omega, by show f ≤ 9; omega, by show uvB u = A ++ [((c % 128 + 128 : Nat) : Int)] ++ uvF (f + 1) (c / 128); rw [hA, hbig]; simp, ?_, hb2, hg.trans hg2⟩ (by show f < f + 1; omega)
    show (A ++ [((c % 128 + 128 : Nat) : Int)]).length ≤ 9
    have := congrArg List.length hA
    rw [List.length_append, hbig, List.length_cons] at this
    have h10 : (uvB u).length ≤ 10 := uvF_len 10 u
    have h1 : 1 ≤ (uvF (f + 1) (c / 128)).length := by unfold uvF; split <;> simp
    rw [List.length_append]; simp only [List.length_cons, List.length_nil]; omega
end K
end Go.Proofs.YtlamdhekjlnccaaGreatDoor

/- Values' forms, and rows of pieces; no program in sight. -/
namespace Go.Proofs.YtlamdhekjlnccaaGreatDoor
namespace K
theorem range_piece (g : Nat → List Int) (i : Nat) : (List.range (i + 1)).flatMap g = (List.range i).flatMap g ++ g i := by
  rw [List.range_succ, List.flatMap_append]; simp
theorem range_len_le (g : Nat → List Int) {i n : Nat} (h : i ≤ n) : ((List.range i).flatMap g).length ≤ ((List.range n).flatMap g).length := by
  induction n with
  | zero => obtain rfl : i = 0 := by omega
            exact Nat.le_refl _
  | succ n ih =>
    rcases Nat.lt_or_ge n i with h' | h'
    · obtain rfl : i = n + 1 := by omega
      exact Nat.le_refl _
    · rw [range_piece, List.length_append]; have := ih h'; omega
/-- What a value's form is, by its kind. -/
theorem shp_form {v : V} (h : shp v = 0) : (1 ≤ v.k ∧ v.k ≤ 9) ∧ (v.k = 2 → 0 ≤ v.n ∧ v.n ≤ 1) ∧ (v.k = 3 → v.s = 0) ∧ (v.k = 4 → 1 ≤ v.s ∧ v.s ≤ 18 ∧ ¬ v.n.tmod 10 = 0) ∧ (v.k = 5 → 0 ≤ v.n ∧ v.n ≤ 9007199254740992) ∧
    v.kids.length ≤ 200 ∧ v.t.size ≤ 16384 ∧ (v.k = 9 → v.names.length = v.kids.length ∧ ∀ s ∈ v.names, s.size ≤ 40) := by
  unfold shp at h
  by_cases h1 : formB v = false
  · rw [if_pos h1] at h; cases h
  rw [if_neg h1] at h
  by_cases h2 : 16384 < v.t.size ∨ 200 < v.kids.length
  · rw [if_pos h2] at h; cases h
  rw [if_neg h2] at h
  by_cases h3 : v.k = 9 ∧ fieldsB v = false
  · rw [if_pos h3] at h; cases h
  have hf : formB v = true := by simpa using h1
  clear h h1
  refine ⟨?_, ?_, ?_, ?_, ?_, by omega, by omega, ?_⟩
  · unfold formB at hf
    by_cases a1 : v.k = 1
    · omega
    by_cases a2 : v.k = 2
    · omega
    by_cases a3 : v.k = 3
    · omega
    by_cases a4 : v.k = 4
    · omega
    by_cases a5 : v.k = 5
    · omega
    by_cases a6 : v.k = 6 ∨ v.k = 7
    · omega
    by_cases a8 : v.k = 8
    · omega
    by_cases a9 : v.k = 9
    · omega
    rw [if_neg a1, if_neg a2, if_neg a3, if_neg a4, if_neg a5, if_neg a6, if_neg a8, if_neg a9] at hf
    cases hf
  · intro e; unfold formB at hf; simp [e] at hf; omega
  · intro e; unfold formB at hf; simp [e] at hf; omega
  · intro e; unfold formB at hf; simp [e] at hf; exact ⟨hf.1.1.1.1, hf.1.1.1.2, hf.1.1.2⟩
  · intro e; unfold formB at hf; simp [e] at hf; omega
  · intro e
    have h4 : fieldsB v = true := by
      cases hb : fieldsB v with
      | true => rfl
      | false => exact (h3 ⟨e, hb⟩).elim
    unfold fieldsB at h4
    simp only [Bool.and_eq_true, List.all_eq_true, decide_eq_true_eq] at h4
    refine ⟨h4.2, fun s hs => ?_⟩
    have := h4.1.1 s hs
    unfold isNameB at this
    simp at this
    omega
end K
end Go.Proofs.YtlamdhekjlnccaaGreatDoor

/- Values as bytes (chapter 7): Zig, lay$1, lay. -/
namespace Go.Proofs.YtlamdhekjlnccaaGreatDoor
open Go.RowKit
namespace K

theorem xor_ones (x : Nat) (h : x < 18446744073709551616) : x ^^^ 18446744073709551615 = 18446744073709551615 - x := by
  have e := congrArg BitVec.toNat (BitVec.xor_allOnes (x := BitVec.ofNat 64 x))
  rw [BitVec.toNat_xor, BitVec.toNat_not, BitVec.toNat_ofNat, BitVec.toNat_allOnes, Nat.mod_eq_of_lt (by omega)] at e
  simpa using e
theorem zig_xor (v : Int) (h : -9223372036854775808 ≤ v ∧ v ≤ 9223372036854775807) :
    bits .xor .u64 (IntKind.u64.wrap (IntKind.i64.wrap (v * ((2 ^ min 1 IntKind.i64.bits : Nat) : Int)))) (IntKind.u64.wrap (v / ((2 ^ min 63 IntKind.i64.bits : Nat) : Int))) = zig v := by
  rw [show ((2 ^ min 1 IntKind.i64.bits : Nat) : Int) = 2 from rfl, show ((2 ^ min 63 IntKind.i64.bits : Nat) : Int) = 9223372036854775808 from rfl]
  unfold zig
  by_cases hv : 0 ≤ v
  · rw [if_pos hv, show v / 9223372036854775808 = 0 by omega, show IntKind.u64.wrap 0 = ((0 : Nat) : Int) by rw [IntKind.wrap_u64]; omega,
      show IntKind.u64.wrap (IntKind.i64.wrap (v * 2)) = (((2 * v).toNat : Nat) : Int) by rw [IntKind.wrap_u64, IntKind.wrap_i64]; omega, bits_xor_u64_nat _ _ (by omega) (by omega), Nat.xor_zero]
  · rw [if_neg hv, show v / 9223372036854775808 = -1 by omega, show IntKind.u64.wrap (-1) = ((18446744073709551615 : Nat) : Int) by rw [IntKind.wrap_u64]; omega,
      show IntKind.u64.wrap (IntKind.i64.wrap (v * 2)) = (((2 * v + 18446744073709551616).toNat : Nat) : Int) by rw [IntKind.wrap_u64, IntKind.wrap_i64]; omega, bits_xor_u64_nat _ _ (by omega) (by omega), xor_ones _ (by omega)]
    omega
theorem zig_any (v : Int) (h : -9223372036854775808 ≤ v ∧ v ≤ 9223372036854775807) (w : World) : Calls Tryz.prog 98 #[.int .i64 v] w fun e w' => e = .returned (.int .u64 (zig v : Nat)) ∧ w' = w := by
  refine enter (args := [.int .i64 v]) Tryz.func98 rfl Tryz.ntmps98 rfl ?_
  have hz := zig_xor v h
  generalize (zig v : Nat) = z at hz ⊢
  repeat (first | refine WC.seq ?_ | refine WC.block ?_ | refine WC.region ?_ | refine WL.nil ?_ | refine WC.skip ?_ | refine WC.exit ?_ | refine WC.ret ?_ | refine WQ.then rfl ?_ | refine WQ.thenExit ?_ | refine WQ.thenRet ?_ | refine WQ.blk ?_ | refine WQ.blkRet ?_ | refine WQ.blkHere rfl ?_ | refine WQ.blkOther rfl ?_)
  refine WL.pure rfl rfl rfl rfl ?_
  repeat (first | refine WC.seq ?_ | refine WC.block ?_ | refine WC.region ?_ | refine WL.nil ?_ | refine WC.skip ?_ | refine WC.exit ?_ | refine WC.ret ?_ | refine WQ.then rfl ?_ | refine WQ.thenExit ?_ | refine WQ.thenRet ?_ | refine WQ.blk ?_ | refine WQ.blkRet ?_ | refine WQ.blkHere rfl ?_ | refine WQ.blkOther rfl ?_)
  refine WL.pure rfl rfl rfl rfl ?_
  refine WL.pure rfl rfl rfl rfl ?_
  refine WL.pure rfl rfl rfl rfl ?_
  refine WL.pure rfl rfl rfl rfl ?_
  refine WL.pure rfl rfl rfl rfl ?_
  refine WL.pure rfl rfl rfl rfl ?_
  refine WL.pure rfl rfl rfl rfl ?_
  refine WL.pure rfl rfl rfl rfl ?_
  repeat (first | refine WC.seq ?_ | refine WC.block ?_ | refine WC.region ?_ | refine WL.nil ?_ | refine WC.skip ?_ | refine WC.exit ?_ | refine WC.ret ?_ | refine WQ.then rfl ?_ | refine WQ.thenExit ?_ | refine WQ.thenRet ?_ | refine WQ.blk ?_ | refine WQ.blkRet ?_ | refine WQ.blkHere rfl ?_ | refine WQ.blkOther rfl ?_)
  exact WQ.ret1 rfl rfl ⟨congrArg (fun z => Ending.returned (Value.int .u64 z)) hz, rfl⟩

/-- The closure number: a number's bytes, onto the own row in the box. -/
theorem lay1_any {w : World} {bb u : Nat} {v : Value} {l : List Int} (hu : u < 18446744073709551616) (hb : Bx bb w v l) (hl : l.length ≤ 70368744177664) :
    Calls Tryz.prog 97 #[.int .u64 u, .pointer (some ⟨bb, 0, none⟩)] w fun e w' => e = .returned (.tuple #[]) ∧ ∃ v', Bx bb w' v' (l ++ uvB u) ∧ GrowB bb w v w' v' := by
  refine enter (args := [.int .u64 u, .pointer (some ⟨bb, 0, none⟩)]) Tryz.func97 rfl Tryz.ntmps97 rfl ?_
  refine kgo ?_
  refine WC.drawn 4 (fun wx => VBlk 69 wx bb [v]) fun w2 hd2 => ?_
  have hb2 : Bx bb w2 v l := hb.below (hd2.below _)
  have hS : VBlk 69 w2 bb [v] := hb2.blk
  have hgd : GrowB bb w v w2 v := (GrowB.refl bb w v).below (hd2.below _)
  have hul : (uvB u).length ≤ 10 := uvF_len 10 u
  refine WD.load 0 [3, 4] rfl (by kernel_rfl) rfl rfl (fun _ _ _ _ _ h => h) rfl rfl rfl rfl (fun wx hx => hx.cell 0 (by simp)) hS ?_
  (((first | refine WD.free 1 rfl (by kernel_rfl) rfl rfl (fun _ _ _ _ _ h => h) rfl rfl (.inr hS) ?_ | refine WD.skip 1 rfl (by kernel_rfl) rfl rfl (fun _ _ _ _ _ h => h) rfl (.inr hS) ?_); try (first | ((with_reducible refine WD.topT ?_ ?_); omega) | ((with_reducible refine WD.topF ?_ ?_); omega) | ((with_reducible refine WD.top64 ?_ ?_); omega))))
  refine WD.one 2 (by kernel_rfl) rfl ?_
  refine WL.call rfl rfl rfl rfl rfl Tryz.func53 rfl (by kernel_rfl) (uvarint_any u hu w2) ?_
  rintro e w3 ⟨b3, rfl, hb3, k3, g3⟩
  refine ⟨_, rfl, ?_⟩
  have hbx3 : Bx bb w3 v l := hb2.below k3
  refine WL.nil (WQ.dk (.inr hbx3.blk) ?_)
  refine WD.one 3 (by kernel_rfl) rfl ?_
  refine WL.app rfl rfl rfl rfl rfl hbx3.bu rfl hb3.sl (by omega) fun b4 w4 hb4 hg4 => ?_
  obtain ⟨hblk, hbx, hgb⟩ := hbx3.put hb4 hg4
  refine WL.nil (WQ.dk (.inr hblk) ?_)
  refine WD.one 4 (by kernel_rfl) rfl ?_
  refine WL.store rfl rfl rfl rfl rfl hb4.cell1 (by kernel_rfl) (hblk.cell 0 (by simp)) (hblk.free 0) ?_
  refine WL.nil (WQ.dk (.inl rfl) ?_)
  refine WD.done (by kernel_rfl) ?_
  exact WQ.end0 rfl ⟨rfl, b4, hbx, (hgd.below k3).trans hgb⟩
end K
end Go.Proofs.YtlamdhekjlnccaaGreatDoor

/- Reading (chapters 1, 7): ReadUvarint, Zag; the reader's fail, byte, number, count, text. -/
namespace Go.Proofs.YtlamdhekjlnccaaGreatDoor
open Go.RowKit
namespace K
section
variable {n : Nat} {l : Env} {w : World} {fn : Func} {R : Ending → World → Prop}
theorem WQ.ret3 {t t2 t3 : Nat} {v v2 v3 : Value} (hr : fn.results = #[.tmp t, .tmp t2, .tmp t3]) (hl : look l t = some v) (hl2 : look l t2 = some v2) (hl3 : look l t3 = some v3) (h : R (.returned (.tuple #[v, v2, v3])) w) : WQ n (bodyPost Tryz.prog fn R) .ret l w :=
  ⟨fun a ha => ⟨ha.defers, _, by rw [results_tmp3 hr, ha.getD hl, ha.getD hl2, ha.getD hl3], h⟩⟩
end

theorem and127b : ∀ x : Nat, x < 256 → bits .and .u8 (x : Int) 127 = ((x % 128 : Nat) : Int) := by decide +kernel
theorem or_shl (a c i : Nat) (ha : a < 128 ^ i) (h : c * 128 ^ i < 18446744073709551616) (h2 : a < 18446744073709551616) : bits .or .u64 (a : Int) ((c * 128 ^ i : Nat) : Int) = ((a + 128 ^ i * c : Nat) : Int) := by
  rw [bits_or_u64_nat _ _ h2 h, Nat.or_comm, Nat.mul_comm c]
  rw [show 128 ^ i = 2 ^ (7 * i) by rw [Nat.pow_mul]] at ha ⊢
  rw [← Nat.two_pow_add_eq_or_of_lt ha, Nat.add_comm]
theorem zag_xor (u : Nat) (h : u < 18446744073709551616) :
    bits .xor .i64 (IntKind.i64.wrap ((u : Int) / ((2 ^ min 1 IntKind.u64.bits : Nat) : Int))) (IntKind.i64.wrap (0 - IntKind.i64.wrap (bits .and .u64 (u : Int) 1))) = zag u := by
  have e1 : bits .and .u64 (u : Int) 1 = ((u % 2 : Nat) : Int) := by
    have := bits_and_u64_nat u 1 h (by omega)
    rw [show u &&& 1 = u % 2 from Nat.and_two_pow_sub_one_eq_mod u 1] at this
    exact this
  rw [e1, show ((2 ^ min 1 IntKind.u64.bits : Nat) : Int) = 2 from rfl]
  unfold zag
  have ea : IntKind.i64.wrap ((u : Int) / 2) = ((u / 2 : Nat) : Int) := by rw [IntKind.wrap_i64]; omega
  rw [ea]
  by_cases hu : u % 2 = 0
  · rw [if_pos hu, hu, show IntKind.i64.wrap (0 - IntKind.i64.wrap ((0 : Nat) : Int)) = 0 by rw [IntKind.wrap_i64, IntKind.wrap_i64]; omega]
    show IntKind.i64.wrap ((BitVec.ofInt 64 ((u / 2 : Nat) : Int) ^^^ BitVec.ofInt 64 0).toNat : Nat) = _
    rw [show BitVec.ofInt 64 0 = 0#64 from rfl, BitVec.xor_zero, BitVec.ofInt_natCast, BitVec.toNat_ofNat, Nat.mod_eq_of_lt (by omega), IntKind.wrap_i64]; omega
  · rw [if_neg hu, show u % 2 = 1 by omega, show IntKind.i64.wrap (0 - IntKind.i64.wrap ((1 : Nat) : Int)) = -1 by rw [IntKind.wrap_i64, IntKind.wrap_i64]; omega]
    show IntKind.i64.wrap ((BitVec.ofInt 64 ((u / 2 : Nat) : Int) ^^^ BitVec.ofInt 64 (-1)).toNat : Nat) = _
    rw [show BitVec.ofInt 64 (-1) = BitVec.allOnes 64 from by decide, BitVec.xor_allOnes, BitVec.toNat_not, BitVec.ofInt_natCast, BitVec.toNat_ofNat, Nat.mod_eq_of_lt (by omega), IntKind.wrap_i64]; omega
theorem zag_any (u : Nat) (h : u < 18446744073709551616) (w : World) : Calls Tryz.prog 108 #[.int .u64 u] w fun e w' => e = .returned (.int .i64 (zag u)) ∧ w' = w := by
  refine enter (args := [.int .u64 u]) Tryz.func108 rfl Tryz.ntmps108 rfl ?_
  have hz := zag_xor u h
  generalize zag u = z at hz ⊢
  repeat (first | refine WC.seq ?_ | refine WC.block ?_ | refine WC.region ?_ | refine WL.nil ?_ | refine WC.skip ?_ | refine WC.exit ?_ | refine WC.ret ?_ | refine WQ.then rfl ?_ | refine WQ.thenExit ?_ | refine WQ.thenRet ?_ | refine WQ.blk ?_ | refine WQ.blkRet ?_ | refine WQ.blkHere rfl ?_ | refine WQ.blkOther rfl ?_)
  refine WL.pure rfl rfl rfl rfl ?_
  repeat (first | refine WC.seq ?_ | refine WC.block ?_ | refine WC.region ?_ | refine WL.nil ?_ | refine WC.skip ?_ | refine WC.exit ?_ | refine WC.ret ?_ | refine WQ.then rfl ?_ | refine WQ.thenExit ?_ | refine WQ.thenRet ?_ | refine WQ.blk ?_ | refine WQ.blkRet ?_ | refine WQ.blkHere rfl ?_ | refine WQ.blkOther rfl ?_)
  iterate 8 refine WL.pure rfl rfl rfl rfl ?_
  refine WL.pure rfl rfl rfl rfl ?_
  repeat (first | refine WC.seq ?_ | refine WC.block ?_ | refine WC.region ?_ | refine WL.nil ?_ | refine WC.skip ?_ | refine WC.exit ?_ | refine WC.ret ?_ | refine WQ.then rfl ?_ | refine WQ.thenExit ?_ | refine WQ.thenRet ?_ | refine WQ.blk ?_ | refine WQ.blkRet ?_ | refine WQ.blkHere rfl ?_ | refine WQ.blkOther rfl ?_)
  exact WQ.ret1 rfl rfl ⟨congrArg (fun z => Ending.returned (Value.int .i64 z)) hz, rfl⟩

/-- What ReadUvarint tells. -/
def ruV (l : List Int) : List Value := match rdU l with
  | .ok u r => [.int .u64 (u : Nat), .int .i64 ((l.length - r.length : Nat) : Int), .int .i64 0]
  | .bad e => [.int .u64 0, .int .i64 0, .int .i64 e]
theorem rdUF_bad : ∀ (f : Nat) (st : Bool) (l : List Int) (e : Int), rdUF f st l = .bad e → e = 2 ∨ e = 3
  | 0, _, _, e, h => by cases h; exact .inr rfl
  | f + 1, st, [], e, h => by cases h; exact .inl rfl
  | f + 1, st, c :: t, e, h => by
    unfold rdUF at h
    split at h
    · cases h; exact .inr rfl
    split at h
    · cases h
    cases hr : rdUF f true t with
    | ok v r => rw [hr] at h; cases h
    | bad x => rw [hr] at h; cases h; exact rdUF_bad f true t _ hr

set_option maxHeartbeats 1000000 in
theorem readUvarint_any {w : World} {v : Value} {l : List Int} (hs : Sl .u8 w v l) (hb : Byt l) :
    Calls Tryz.prog 91 #[v] w fun e w' => e = .returned (.tuple (ruV l).toArray) ∧ w' = w := by
  refine enter (args := [v]) Tryz.func91 rfl Tryz.ntmps91 rfl ?_
  have hs0 := hs
  obtain ⟨sp, cap, rfl, hc1, hc2, -, -⟩ := hs
  refine kgo ?_
  refine WC.loop (fun i : Nat × Nat => [(8, .slice sp l.length cap), (9, .int .i64 l.length), (10, .int .i64 i.1), (5, .int .u64 i.2)])
    (fun i w' => w' = w ∧ i.1 ≤ 9 ∧ i.1 ≤ l.length ∧ i.2 < 128 ^ i.1 ∧ rdU l = (rdUF (10 - i.1) (decide (0 < i.1)) (l.drop i.1)).bind fun v r => .ok (i.2 + 128 ^ i.1 * v) r) (fun i => l.length - i.1) (0, 0) ⟨rfl, rfl, rfl, rfl, trivial⟩
    ⟨rfl, by omega, by omega, by simp, by
      show rdUF 10 false l = _
      cases h : rdUF 10 false l with
      | ok a r => simp [Rd.bind, h]
      | bad e => simp [Rd.bind, h]⟩ ?_
  rintro ⟨i, a⟩ wr ⟨rfl, hi9, hil, ha, hR⟩
  simp only at hi9 hil ha hR ⊢
  by_cases hik : i < l.length
  · have hdr : l.drop i = nth l i :: l.drop (i + 1) := by rw [List.drop_eq_getElem_cons hik]; simp [nth, hik]
    have hc := hb (nth l i) (by unfold nth; simp [hik])
    rw [hdr] at hR
    generalize hcc : nth l i = c at hR hc
    rw [show 10 - i = (9 - i) + 1 by omega] at hR
    unfold rdUF at hR
    refine kgo ?_
    refine WL.idxI i rfl rfl rfl rfl rfl rfl hs0 rfl rfl hik fun p hp => ?_
    rw [hcc] at hp
    refine WL.load rfl rfl rfl rfl rfl rfl hp ?_
    by_cases hbad : (9 - i = 0 ∧ 1 < c) ∨ (decide (0 < i) = true ∧ c = 0)
    · rw [if_pos hbad] at hR
      have hfin : ruV l = [.int .u64 0, .int .i64 0, .int .i64 3] := by unfold ruV; rw [hR]; rfl
      by_cases h1 : i = 9
      · subst h1
        by_cases h2 : 1 < c
        · refine kgo ?_
          refine WQ.ret3 rfl rfl rfl rfl ⟨by rw [hfin], rfl⟩
        · obtain rfl : c = 0 := by simp at hbad; omega
          refine kgo ?_
          refine WQ.ret3 rfl rfl rfl rfl ⟨by rw [hfin], rfl⟩
      · obtain ⟨h2, rfl⟩ : 0 < i ∧ c = 0 := by simp at hbad; omega
        refine kgo ?_
        refine WQ.ret3 rfl rfl rfl rfl ⟨by rw [hfin], rfl⟩
    · rw [if_neg hbad] at hR
      simp only [decide_eq_true_eq, not_or, not_and] at hbad
      have e1 : bits .and .u8 c 127 = ((c.toNat % 128 : Nat) : Int) := by
        have := and127b c.toNat (by omega)
        rwa [Int.toNat_of_nonneg hc.1] at this
      have hle : 128 ^ i ≤ 128 ^ 9 := Nat.pow_le_pow_right (by decide) hi9
      have hcm : c.toNat % 128 * 128 ^ i < 18446744073709551616 := by
        by_cases h9 : i = 9
        · subst h9
          have : c ≤ 1 := by have := hbad.1 (by omega); omega
          have : c.toNat % 128 ≤ 1 := by omega
          generalize c.toNat % 128 = q at this
          omega
        · have : 128 ^ i ≤ 128 ^ 8 := Nat.pow_le_pow_right (by decide) (by omega)
          have h2 : c.toNat % 128 < 128 := Nat.mod_lt _ (by decide)
          generalize c.toNat % 128 = q at h2
          generalize 128 ^ i = r at this
          have := Nat.mul_le_mul (Nat.le_of_lt h2) this
          omega
      have e2 : IntKind.u64.wrap (((c.toNat % 128 : Nat) : Int) * ((2 ^ min (7 * i) IntKind.u64.bits : Nat) : Int)) = ((c.toNat % 128 * 128 ^ i : Nat) : Int) := by
        rw [show min (7 * i) IntKind.u64.bits = 7 * i from Nat.min_eq_left (by show 7 * i ≤ 64; omega), Nat.pow_mul, ← Int.natCast_mul, IntKind.wrap_u64]
        generalize c.toNat % 128 * 128 ^ i = q at hcm
        omega
      have e3 := or_shl a (c.toNat % 128) i ha hcm (by omega)
      have e5 : IntKind.u64.wrap ((c.toNat % 128 : Nat) : Int) = ((c.toNat % 128 : Nat) : Int) := by rw [IntKind.wrap_u64]; omega
      have e6 : i % (2 ^ IntKind.u64.bits : Int).natAbs * 7 % (2 ^ IntKind.u64.bits : Int).natAbs = 7 * i := by
        rw [show (2 ^ IntKind.u64.bits : Int).natAbs = 18446744073709551616 from rfl]; omega
      have E : bits .or .u64 (a : Int) (IntKind.u64.wrap (IntKind.u64.wrap (bits .and .u8 c 127) * ((2 ^ min (i % (2 ^ IntKind.u64.bits : Int).natAbs * 7 % (2 ^ IntKind.u64.bits : Int).natAbs) IntKind.u64.bits : Nat) : Int))) = ((a + 128 ^ i * (c.toNat % 128) : Nat) : Int) := by
        rw [e6, e1, e5, e2, e3]
      clear e1 e2 e3 e5 e6
      by_cases hc8 : c < 128
      · rw [if_pos hc8] at hR
        have hfin : ruV l = [.int .u64 ((a + 128 ^ i * (c.toNat % 128) : Nat) : Int), .int .i64 ((i : Int) + 1), .int .i64 0] := by
          unfold ruV
          rw [hR]
          simp only [Rd.bind, List.length_drop]
          rw [show c.toNat % 128 = c.toNat by omega, show ((l.length - (l.length - (i + 1)) : Nat) : Int) = (i : Int) + 1 by omega]
        have hcase : (i = 9 ∧ ¬ c = 0 ∧ ¬ 1 < c) ∨ (¬ i = 9 ∧ ¬ c = 0) ∨ (i = 0 ∧ c = 0) := by omega
        rcases hcase with ⟨h9, hc0, hc1⟩ | ⟨h9, hc0⟩ | ⟨h9, hc0⟩
        all_goals
          refine kgo ?_
          refine WQ.ret3 rfl rfl rfl rfl ⟨by rw [hfin, ← E], rfl⟩
      · rw [if_neg hc8] at hR
        have h9 : ¬ i = 9 := fun h => by have := hbad.1 (by omega); omega
        have hc0 : ¬ c = 0 := by omega
        refine kgo ?_
        refine WQ.again (i + 1, a + 128 ^ i * (c.toNat % 128)) ⟨rfl, rfl, rfl, congrArg (fun z => some (Value.int .u64 z)) E, trivial⟩ ⟨rfl, by show i + 1 ≤ 9; omega, hik, ?_, ?_⟩ (by show l.length - (i + 1) < l.length - i; omega)
        · show a + 128 ^ i * (c.toNat % 128) < 128 ^ (i + 1)
          have h2 : c.toNat % 128 < 128 := Nat.mod_lt _ (by decide)
          rw [Nat.pow_succ]
          generalize c.toNat % 128 = q at h2
          have := Nat.mul_le_mul_left (128 ^ i) (show q + 1 ≤ 128 by omega)
          rw [Nat.mul_add] at this
          omega
        · show rdU l = (rdUF (10 - (i + 1)) (decide (0 < i + 1)) (l.drop (i + 1))).bind fun v r => .ok (a + 128 ^ i * (c.toNat % 128) + 128 ^ (i + 1) * v) r
          rw [hR, show 10 - (i + 1) = 9 - i by omega, show decide (0 < i + 1) = true from decide_eq_true (by omega)]
          cases rdUF (9 - i) true (l.drop (i + 1)) with
          | bad e => rfl
          | ok v r =>
            simp only [Rd.bind]
            rw [show c.toNat % 128 = c.toNat - 128 by omega, Nat.pow_succ, Nat.mul_add, Nat.mul_assoc (128 ^ i) 128 v, Nat.add_assoc]
  · obtain rfl : i = l.length := by omega
    rw [List.drop_length, show 10 - l.length = (9 - l.length) + 1 by omega] at hR
    have hfin : ruV l = [.int .u64 0, .int .i64 0, .int .i64 2] := by unfold ruV; rw [hR]; rfl
    refine kgo ?_
    refine WQ.ret3 rfl rfl rfl rfl ⟨by rw [hfin], rfl⟩
end K
end Go.Proofs.YtlamdhekjlnccaaGreatDoor

/- Reading (chapter 7): the reader's fail, byte, number, count, text. -/
namespace Go.Proofs.YtlamdhekjlnccaaGreatDoor
open Go.RowKit
namespace K
variable {B rb : Nat} {w : World} {l : List Int} {e : Int}

theorem fail_any (h : RS B w rb l e) (x : Int) :
    Calls Tryz.prog 105 #[.pointer (some ⟨rb, 0, none⟩), .int .i64 x] w fun r w' => r = .returned (.tuple #[]) ∧ RS B w' rb l (if e = 0 then x else e) ∧ KeepR rb w w' := by
  refine enter (args := [.pointer (some ⟨rb, 0, none⟩), .int .i64 x]) Tryz.func105 rfl Tryz.ntmps105 rfl ?_
  obtain ⟨sp, cap, h1, h2⟩ := h.ex
  refine kgo ?_
  refine WL.load rfl rfl rfl rfl rfl rfl (h1.cell 1 (by simp)) ?_
  by_cases he : e = 0
  · rw [if_pos he]
    refine kgo ?_
    refine WL.store rfl rfl rfl rfl rfl rfl (by kernel_rfl) (h1.cell 1 (by simp)) (h1.free 1) ?_
    refine kgo ?_
    exact WQ.end0 rfl ⟨rfl, h.setE x, KeepR.set _ _ _ _⟩
  · rw [if_neg he]
    refine kgo ?_
    exact WQ.end0 rfl ⟨rfl, h, KeepR.refl _ _⟩
theorem Out.ofBad {α : Type} {f : List Int → Rd α} {a : α} (he : ¬ e = 0) : Out f l e a l e := ⟨Nat.le_refl _, fun _ => rfl, fun h => absurd h he⟩

theorem byte_any (h : RS B w rb l e) :
    Calls Tryz.prog 107 #[.pointer (some ⟨rb, 0, none⟩)] w fun r w' => ∃ c l' e', r = .returned (.int .u8 c) ∧ 0 ≤ c ∧ c ≤ 255 ∧ RS B w' rb l' e' ∧ KeepR rb w w' ∧ Out rdB l e c l' e' := by
  refine enter (args := [.pointer (some ⟨rb, 0, none⟩)]) Tryz.func107 rfl Tryz.ntmps107 rfl ?_
  obtain ⟨sp, cap, h1, h2⟩ := h.ex
  refine kgo ?_
  refine WL.load rfl rfl rfl rfl rfl rfl (h1.cell 1 (by simp)) ?_
  by_cases he : e = 0
  · subst he
    cases l with
    | nil =>
      simp only [List.length_nil] at h1 h2
      refine kgo ?_
      refine WL.load rfl rfl rfl rfl rfl rfl (h1.cell 0 (by simp)) ?_
      refine kgo ?_
      refine WL.call rfl rfl rfl rfl rfl Tryz.func105 rfl (by kernel_rfl) (fail_any h 2) ?_
      rintro _ w2 ⟨rfl, hr, hk⟩
      refine ⟨_, rfl, ?_⟩
      rw [if_pos rfl] at hr
      obtain ⟨sp2, cap2, h3, h4⟩ := hr.ex
      refine kgo ?_
      refine WL.load rfl rfl rfl rfl rfl rfl (h3.cell 1 (by simp)) ?_
      refine kgo ?_
      exact WQ.ret1 rfl rfl ⟨0, [], 2, rfl, by omega, by omega, hr, hk, Nat.le_refl _, fun h => absurd rfl h, fun _ => ⟨rfl, by omega⟩⟩
    | cons c r =>
      have hc := h.byt c (by simp)
      have hlen : ((c :: r).length : Int) = (r.length : Int) + 1 := by simp
      refine kgo ?_
      refine WL.load rfl rfl rfl rfl rfl rfl (h1.cell 0 (by simp)) ?_
      refine kgo ?_
      refine WL.load rfl rfl rfl rfl rfl rfl (h1.cell 1 (by simp)) ?_
      refine kgo ?_
      refine WL.load rfl rfl rfl rfl rfl rfl (h1.cell 0 (by simp)) ?_
      refine WL.idxI 0 rfl rfl rfl rfl rfl rfl h2.sl rfl rfl (by simp) fun p hp => ?_
      refine WL.load rfl rfl rfl rfl rfl rfl hp ?_
      refine kgo ?_
      refine WL.load rfl rfl rfl rfl rfl rfl (h1.cell 0 (by simp)) ?_
      refine WL.fromB (z := 1) rfl rfl rfl rfl rfl rfl rfl (by omega) (by omega) h2 fun v' hv' => ?_
      have hv : v'.oneCell' = true := by obtain ⟨_, _, rfl, -⟩ := hv'.sl; rfl
      refine kgo ?_
      refine WL.store rfl rfl rfl rfl rfl hv (by kernel_rfl) (h1.cell 0 (by simp)) (h1.free 0) ?_
      refine kgo ?_
      exact WQ.ret1 rfl rfl ⟨c, r, 0, rfl, hc.1, hc.2, h.setL h.byt.tail hv', KeepR.set _ _ _ _, by simp, fun h => absurd rfl h, fun _ => ⟨rfl, rfl, rfl⟩⟩
  · refine kgo ?_
    refine WL.load rfl rfl rfl rfl rfl rfl (h1.cell 1 (by simp)) ?_
    refine kgo ?_
    exact WQ.ret1 rfl rfl ⟨0, l, e, rfl, by omega, by omega, h, KeepR.refl _ _, .ofBad he⟩

theorem number_any (h : RS B w rb l e) :
    Calls Tryz.prog 109 #[.pointer (some ⟨rb, 0, none⟩)] w fun r w' => ∃ (u : Nat) (l' : List Int) (e' : Int), r = .returned (.int .u64 u) ∧ u < 18446744073709551616 ∧ RS B w' rb l' e' ∧ KeepR rb w w' ∧ Out rdU l e u l' e' := by
  refine enter (args := [.pointer (some ⟨rb, 0, none⟩)]) Tryz.func109 rfl Tryz.ntmps109 rfl ?_
  obtain ⟨sp, cap, h1, h2⟩ := h.ex
  refine kgo ?_
  refine WL.load rfl rfl rfl rfl rfl rfl (h1.cell 1 (by simp)) ?_
  by_cases he : e = 0
  · subst he
    refine kgo ?_
    refine WL.load rfl rfl rfl rfl rfl rfl (h1.cell 0 (by simp)) ?_
    refine WL.call rfl rfl rfl rfl rfl Tryz.func91 rfl (by kernel_rfl) (readUvarint_any h2.sl h.byt) ?_
    rintro _ _ ⟨rfl, rfl⟩
    refine ⟨_, rfl, ?_⟩
    unfold ruV
    cases hr : rdU l with
    | bad x =>
      have hx := rdUF_bad 10 false l x hr
      refine kgo ?_
      refine WL.call rfl rfl rfl rfl rfl Tryz.func105 rfl (by kernel_rfl) (fail_any h x) ?_
      rintro _ w2 ⟨rfl, hr2, hk⟩
      refine ⟨_, rfl, ?_⟩
      rw [if_pos rfl] at hr2
      refine kgo ?_
      exact WQ.ret1 rfl rfl ⟨0, l, x, rfl, by omega, hr2, hk, Nat.le_refl _, fun h => absurd rfl h, fun _ => by rw [hr]; exact ⟨rfl, by omega⟩⟩
    | ok u r =>
      obtain ⟨hcan, hu⟩ := rdU_can h.byt hr
      have hdrop : l.drop (((l.length - r.length : Nat) : Int).toNat) = r := by rw [hcan]; simp
      have hlr : r.length ≤ l.length := by rw [hcan]; simp
      refine kgo ?_
      refine WL.load rfl rfl rfl rfl rfl rfl (h1.cell 0 (by simp)) ?_
      refine kgo ?_
      refine WL.fromB (z := ((l.length - r.length : Nat) : Int)) rfl rfl rfl rfl rfl rfl rfl (by omega) (by omega) h2 fun v' hv' => ?_
      rw [hdrop] at hv'
      have hv : v'.oneCell' = true := by obtain ⟨_, _, rfl, -⟩ := hv'.sl; rfl
      refine kgo ?_
      refine WL.store rfl rfl rfl rfl rfl hv (by kernel_rfl) (h1.cell 0 (by simp)) (h1.free 0) ?_
      refine kgo ?_
      exact WQ.ret1 rfl rfl ⟨u, r, 0, rfl, hu, h.setL (by have := h.byt; rw [hcan] at this; exact this.right) hv', KeepR.set _ _ _ _, hlr, fun h => absurd rfl h, fun _ => by rw [hr]; exact ⟨rfl, rfl, rfl⟩⟩
  · refine kgo ?_
    exact WQ.ret1 rfl rfl ⟨0, l, e, rfl, by omega, h, KeepR.refl _ _, .ofBad he⟩

theorem count_any (h : RS B w rb l e) :
    Calls Tryz.prog 111 #[.pointer (some ⟨rb, 0, none⟩)] w fun r w' => ∃ (u : Nat) (l' : List Int) (e' : Int), r = .returned (.int .i64 u) ∧ u ≤ 65536 ∧ RS B w' rb l' e' ∧ KeepR rb w w' ∧ Out rdC l e u l' e' := by
  refine enter (args := [.pointer (some ⟨rb, 0, none⟩)]) Tryz.func111 rfl Tryz.ntmps111 rfl ?_
  refine kgo ?_
  refine WL.call rfl rfl rfl rfl rfl Tryz.func109 rfl (by kernel_rfl) (number_any h) ?_
  rintro _ w2 ⟨u, l2, e2, rfl, hu, hr, hk, ho⟩
  refine ⟨_, rfl, ?_⟩
  by_cases hbig : 65536 < u
  · refine kgo ?_
    refine WL.call rfl rfl rfl rfl rfl Tryz.func105 rfl (by kernel_rfl) (fail_any hr 3) ?_
    rintro _ w3 ⟨rfl, hr3, hk3⟩
    refine ⟨_, rfl, ?_⟩
    refine kgo ?_
    refine WQ.ret1 rfl rfl ⟨0, l2, if e2 = 0 then 3 else e2, rfl, by omega, hr3, hk.trans hk3, ho.len, fun h0 => ?_, fun h0 => ?_⟩
    · rw [ho.bad h0, if_neg h0]
    · have h1 := ho.ok h0
      unfold rdC
      cases hq : rdU l with
      | bad x =>
        rw [hq] at h1
        obtain ⟨rfl, hx⟩ := h1
        simp only [Rd.bind]
        rw [if_neg hx]
        exact ⟨rfl, hx⟩
      | ok x r =>
        rw [hq] at h1
        obtain ⟨rfl, rfl, rfl⟩ := h1
        simp only [Rd.bind]
        rw [if_pos hbig]
        exact ⟨rfl, by omega⟩
  · have e8 : IntKind.i64.wrap (u : Int) = (u : Int) := by rw [IntKind.wrap_i64]; omega
    refine kgo ?_
    refine WQ.ret1 rfl rfl ⟨u, l2, e2, rfl, by omega, hr, hk, ho.len, ho.bad, fun h0 => ?_⟩
    have h1 := ho.ok h0
    unfold rdC
    cases hq : rdU l with
    | bad x => rw [hq] at h1; exact h1
    | ok x r =>
      rw [hq] at h1
      obtain ⟨rfl, rfl, rfl⟩ := h1
      simp only [Rd.bind]
      rw [if_neg hbig]
      simp
theorem strOfNums_mk (zs : List Int) : strOfNums zs = ⟨(zs.map fun c => UInt8.ofNat c.toNat).toArray⟩ := rfl
theorem text_any (h : RS B w rb l e) :
    Calls Tryz.prog 110 #[.pointer (some ⟨rb, 0, none⟩)] w fun r w' => ∃ (s : ByteArray) (l' : List Int) (e' : Int), r = .returned (.string s) ∧ s.size ≤ 65536 ∧ RS B w' rb l' e' ∧ KeepR rb w w' ∧ Out rdT l e s l' e' := by
  refine enter (args := [.pointer (some ⟨rb, 0, none⟩)]) Tryz.func110 rfl Tryz.ntmps110 rfl ?_
  refine kgo ?_
  refine WL.call rfl rfl rfl rfl rfl Tryz.func111 rfl (by kernel_rfl) (count_any h) ?_
  rintro _ w2 ⟨u, l2, e2, rfl, hu, hr, hk, ho⟩
  refine ⟨_, rfl, ?_⟩
  obtain ⟨sp, cap, h1, h2⟩ := hr.ex
  have hle := ho.len
  refine kgo ?_
  refine WL.load rfl rfl rfl rfl rfl rfl (h1.cell 1 (by simp)) ?_
  by_cases he : e2 = 0
  · subst he
    by_cases hshort : l2.length < u
    · refine kgo ?_
      refine WL.load rfl rfl rfl rfl rfl rfl (h1.cell 0 (by simp)) ?_
      refine kgo ?_
      refine WL.call rfl rfl rfl rfl rfl Tryz.func105 rfl (by kernel_rfl) (fail_any hr 2) ?_
      rintro _ w3 ⟨rfl, hr3, hk3⟩
      refine ⟨_, rfl, ?_⟩
      rw [if_pos rfl] at hr3
      obtain ⟨sp3, cap3, h3, h4⟩ := hr3.ex
      refine kgo ?_
      refine WL.load rfl rfl rfl rfl rfl rfl (h3.cell 1 (by simp)) ?_
      refine kgo ?_
      refine WQ.ret1 rfl rfl ⟨ByteArray.empty, l2, 2, rfl, by decide, hr3, hk.trans hk3, ho.len, fun h0 => absurd (ho.bad h0).symm h0, fun h0 => ?_⟩
      have h5 := ho.ok h0
      unfold rdT
      cases hq : rdC l with
      | bad x => rw [hq] at h5; exact absurd h5.1.symm h5.2
      | ok x r =>
        rw [hq] at h5
        obtain ⟨rfl, rfl, -⟩ := h5
        simp only [Rd.bind]
        rw [if_pos hshort]
        exact ⟨rfl, by omega⟩
    · have htl : (l2.take ((u : Int).toNat)) = l2.take u := by simp
      have hdl : (l2.drop ((u : Int).toNat)) = l2.drop u := by simp
      refine kgo ?_
      refine WL.load rfl rfl rfl rfl rfl rfl (h1.cell 0 (by simp)) ?_
      refine kgo ?_
      refine WL.load rfl rfl rfl rfl rfl rfl (h1.cell 1 (by simp)) ?_
      refine kgo ?_
      refine WL.load rfl rfl rfl rfl rfl rfl (h1.cell 0 (by simp)) ?_
      refine kgo ?_
      refine WL.upto (z := (u : Int)) rfl rfl rfl rfl rfl rfl rfl (by omega) (by omega) h2.sl fun v3 hv3 => ?_
      rw [htl] at hv3
      refine WL.strOf rfl rfl rfl rfl rfl rfl rfl rfl hv3 ?_
      refine kgo ?_
      refine WL.load rfl rfl rfl rfl rfl rfl (h1.cell 0 (by simp)) ?_
      refine kgo ?_
      refine WL.fromB (z := (u : Int)) rfl rfl rfl rfl rfl rfl rfl (by omega) (by omega) h2 fun v' hv' => ?_
      rw [hdl] at hv'
      have hv : v'.oneCell' = true := by obtain ⟨_, _, rfl, -⟩ := hv'.sl; rfl
      refine kgo ?_
      refine WL.store rfl rfl rfl rfl rfl hv (by kernel_rfl) (h1.cell 0 (by simp)) (h1.free 0) ?_
      refine kgo ?_
      refine WQ.ret1 rfl rfl ⟨strOfNums (l2.take u), l2.drop u, 0, rfl, ?_, hr.setL (fun c hc => hr.byt c (List.mem_of_mem_drop hc)) hv', hk.trans (KeepR.set _ _ _ _), by rw [List.length_drop]; omega, fun h0 => absurd (ho.bad h0).symm h0, fun h0 => ?_⟩
      · rw [strOfNums_mk]
        show ((l2.take u).map _).toArray.size ≤ _
        simp
        omega
      · have h5 := ho.ok h0
        unfold rdT
        cases hq : rdC l with
        | bad x => rw [hq] at h5; exact absurd h5.1.symm h5.2
        | ok x r =>
          rw [hq] at h5
          obtain ⟨rfl, rfl, -⟩ := h5
          simp only [Rd.bind]
          rw [if_neg hshort, strOfNums_mk]
          simp
  · refine kgo ?_
    refine WL.load rfl rfl rfl rfl rfl rfl (h1.cell 1 (by simp)) ?_
    refine kgo ?_
    refine WQ.ret1 rfl rfl ⟨ByteArray.empty, l2, e2, rfl, by decide, hr, hk, ho.len, ho.bad, fun h0 => ?_⟩
    have h5 := ho.ok h0
    unfold rdT
    cases hq : rdC l with
    | bad x => rw [hq] at h5; exact h5
    | ok x r => rw [hq] at h5; exact absurd h5.2.2 he
end K
end Go.Proofs.YtlamdhekjlnccaaGreatDoor
