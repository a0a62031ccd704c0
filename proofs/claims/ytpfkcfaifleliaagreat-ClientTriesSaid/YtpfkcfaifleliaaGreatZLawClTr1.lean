/- Texts for LawClTr, part 1 of 6. -/
import Derived.Test.YtpfkcfaifleliaaGreatRows
import Derived.WalkKit
import Derived.WalkSpells
import Derived.WalkLawsBesides
import Derived.Deep.QuietTactic
import Derived.BigQuiet
import Derived.OneCell
import Derived.Lib.Hide
import Derived.Laws.Rows
import Derived.Laws.CopyOwn
import Derived.Laws.AppendOwnNone
import Derived.Deep.AppendLies
import Derived.Deep.RegionLawGrows
import Derived.Deep.RegionHeld3
import Derived.ArgAppend
import Derived.WideShapes
import Derived.Deep.Onto
import Derived.Deep.MidRow
import Derived.Deep.DeepFit
import Derived.Deep.CutBlock
import Derived.Deep.DeepCutAuto
import Derived.RangeFuncNested
import Derived.RangeFuncLeaves
import Derived.Sort.LoopGhostIn
import Derived.IntWalk
import Derived.Lib.ConvBytes
import Derived.Great.BuildSlice
import Derived.OrdersHeld
import Derived.RegionTactic
import Derived.Lib.AppendStr
namespace Go.Proofs.YtpfkcfaifleliaaGreat
open Go.RowKit

def Drawn (w w' : World) : Prop := ∃ n, w' = w.drewN n
theorem Drawn.mk (w : World) (n : Nat) : Drawn w (w.drewN n) := ⟨n, rfl⟩

def nth (l : List Int) (j : Nat) : Int := l.getD j 0

def Row (k : IntKind) (w : World) (b o : Nat) (l : List Int) : Prop :=
  ∀ j, j < l.length → w.cell? ⟨b, o + j, none⟩ = some (.int k (nth l j))

theorem Row.at {k : IntKind} {w : World} {b o : Nat} {l : List Int} (h : Row k w b o l) (j : Nat) (hj : j < l.length) :
    w.cell? ⟨b, o + j, none⟩ = some (.int k (nth l j)) := h j hj
theorem Row.at' {k : IntKind} {w : World} {b o : Nat} {l : List Int} (h : Row k w b o l) (j i : Nat) (hj : j < l.length) (hi : i = o + j) :
    w.cell? ⟨b, i, none⟩ = some (.int k (nth l j)) := by subst hi; exact h j hj
theorem nth_set_eq (l : List Int) (i : Nat) (x : Int) (h : i < l.length) : nth (l.set i x) i = x := by
  simp [nth, h]
theorem nth_set_ne (l : List Int) (i j : Nat) (x : Int) (h : j ≠ i) : nth (l.set i x) j = nth l j := by
  simp [nth, Ne.symm h]

theorem Row.of_block {k : IntKind} {w w' : World} {b o : Nat} {l : List Int} (h : Row k w b o l) (hb : w'.heap[b]? = w.heap[b]?) : Row k w' b o l := by
  intro j hj; rw [← h j hj]; exact World.cell?_of_block (w := w) hb
theorem Row.below {B : Nat} {k : IntKind} {w w' : World} {b o : Nat} {l : List Int} (h : Row k w b o l) (hb : Below B w w') (hB : b < B) : Row k w' b o l :=
  h.of_block (hb.block b hB)
def IBlk (k : IntKind) (T : TypeId) (w : World) (b : Nat) (l : List Int) : Prop :=
  w.heap[b]? = some (.cells (l.map (Value.int k)).toArray T (0, 0))
def VBlk (T : TypeId) (w : World) (b : Nat) (l : List Value) : Prop := w.heap[b]? = some (.cells l.toArray T (0, 0))

theorem VBlk.lt {T : TypeId} {w : World} {b : Nat} {l : List Value} (h : VBlk T w b l) : b < w.heap.size := lt_of_block h
theorem VBlk.cell {T : TypeId} {w : World} {b : Nat} {l : List Value} (h : VBlk T w b l) (j : Nat) (hj : j < l.length) :
    w.cell? ⟨b, j, none⟩ = some (l.getD j undef) := by
  have h' : w.heap[b]? = some (.cells l.toArray T (0, 0)) := h; rw [cell_of_row w b j _ _ _ h']; simp [hj]
theorem VBlk.free {T : TypeId} {w : World} {b : Nat} {l : List Value} (h : VBlk T w b l) (j : Nat) : w.frozen? ⟨b, j, none⟩ = false := by
  have h' : w.heap[b]? = some (.cells l.toArray T (0, 0)) := h; simp [World.frozen?, h']
theorem VBlk.set {T : TypeId} {w : World} {b : Nat} {l : List Value} (h : VBlk T w b l) (j : Nat) (v : Value) :
    VBlk T (w.setCell ⟨b, j, none⟩ v) b (l.set j v) := by
  have hlt := h.lt; have h' : w.heap[b]? = some (.cells l.toArray T (0, 0)) := h; have h'' : w.heap[b] = .cells l.toArray T (0, 0) := by simpa [Array.getElem?_eq_getElem hlt] using h'
  show (w.heap.modify b _)[b]? = _
  rw [Array.getElem?_eq_getElem (by simpa using hlt), Array.getElem_modify_self, h'']; simp
theorem VBlk.of_block {T : TypeId} {w w' : World} {b : Nat} {l : List Value} (h : VBlk T w b l) (hb : w'.heap[b]? = w.heap[b]?) : VBlk T w' b l := hb.trans h
theorem VBlk.other {T : TypeId} {w : World} {b : Nat} {l : List Value} (h : VBlk T w b l) (a : Addr) (v : Value) (hb : b ≠ a.block) : VBlk T (w.setCell a v) b l :=
  h.of_block (Below.heap_setCell w a v b hb)
theorem VBlk.mk (w : World) (l : List Value) (T : TypeId) : VBlk T (w.alloc (.cells l.toArray T)) w.heap.size l := by
  show (w.heap.push _)[w.heap.size]? = _
  simp

theorem IBlk.v {k : IntKind} {T : TypeId} {w : World} {b : Nat} {l : List Int} (h : IBlk k T w b l) : VBlk T w b (l.map (Value.int k)) := h
theorem IBlk.lt {k : IntKind} {T : TypeId} {w : World} {b : Nat} {l : List Int} (h : IBlk k T w b l) : b < w.heap.size := h.v.lt
theorem IBlk.cell {k : IntKind} {T : TypeId} {w : World} {b : Nat} {l : List Int} (h : IBlk k T w b l) (j : Nat) (hj : j < l.length) :
    w.cell? ⟨b, j, none⟩ = some (.int k (nth l j)) := by
  rw [h.v.cell j (by simpa using hj)]; simp [nth, hj]
theorem IBlk.cell' {k : IntKind} {T : TypeId} {w : World} {b : Nat} {l : List Int} (h : IBlk k T w b l) (i j : Nat) (hj : j < l.length) (hi : i = j) :
    w.cell? ⟨b, i, none⟩ = some (.int k (nth l j)) := by subst hi; exact h.cell i hj
theorem IBlk.row {k : IntKind} {T : TypeId} {w : World} {b : Nat} {l : List Int} (h : IBlk k T w b l) : Row k w b 0 l :=
  fun j hj => by rw [Nat.zero_add]; exact h.cell j hj
theorem IBlk.free {k : IntKind} {T : TypeId} {w : World} {b : Nat} {l : List Int} (h : IBlk k T w b l) (j : Nat) : w.frozen? ⟨b, j, none⟩ = false := h.v.free j
theorem IBlk.set {k : IntKind} {T : TypeId} {w : World} {b : Nat} {l : List Int} (h : IBlk k T w b l) (j : Nat) (x : Int) :
    IBlk k T (w.setCell ⟨b, j, none⟩ (.int k x)) b (l.set j x) := by
  have := h.v.set j (.int k x); unfold IBlk; rw [List.map_set]; exact this
theorem IBlk.of_block {k : IntKind} {T : TypeId} {w w' : World} {b : Nat} {l : List Int} (h : IBlk k T w b l) (hb : w'.heap[b]? = w.heap[b]?) : IBlk k T w' b l := hb.trans h
theorem IBlk.other {k : IntKind} {T : TypeId} {w : World} {b : Nat} {l : List Int} (h : IBlk k T w b l) (a : Addr) (v : Value) (hb : b ≠ a.block) : IBlk k T (w.setCell a v) b l :=
  h.of_block (Below.heap_setCell w a v b hb)
theorem IBlk.alloc {k : IntKind} {T : TypeId} {w : World} {b : Nat} {l : List Int} (h : IBlk k T w b l) (ob : Obj) : IBlk k T (w.alloc ob) b l :=
  h.of_block (Below.heap_alloc w ob b h.lt)
theorem IBlk.drewN {k : IntKind} {T : TypeId} {w : World} {b : Nat} {l : List Int} (h : IBlk k T w b l) (n : Nat) : IBlk k T (w.drewN n) b l := h

structure Keep (K : Nat → Prop) (w w' : World) : Prop where
  os : w'.os = w.os
  tape : w'.tape = w.tape
  output : w'.output = w.output
  size : w.heap.size ≤ w'.heap.size
  block : ∀ k, K k → w'.heap[k]? = w.heap[k]?

theorem Keep.refl (K : Nat → Prop) (w : World) : Keep K w w := ⟨rfl, rfl, rfl, Nat.le_refl _, fun _ _ => rfl⟩
theorem Keep.trans {K : Nat → Prop} {a b c : World} (h : Keep K a b) (k : Keep K b c) : Keep K a c :=
  ⟨k.os.trans h.os, k.tape.trans h.tape, k.output.trans h.output, Nat.le_trans h.size k.size, fun i hi => (k.block i hi).trans (h.block i hi)⟩
theorem Keep.mono {K K' : Nat → Prop} {w w' : World} (h : Keep K w w') (hK : ∀ k, K' k → K k) : Keep K' w w' := ⟨h.os, h.tape, h.output, h.size, fun k hk => h.block k (hK k hk)⟩
theorem Keep.drewN {K : Nat → Prop} {a w : World} (h : Keep K a w) (n : Nat) : Keep K a (w.drewN n) := ⟨h.os, h.tape, h.output, h.size, h.block⟩
theorem Keep.alloc {K : Nat → Prop} {a w : World} (h : Keep K a w) (hK : ∀ k, K k → k < w.heap.size) (o : Obj) : Keep K a (w.alloc o) :=
  h.trans ⟨rfl, rfl, rfl, by simp, fun k hk => Below.heap_alloc _ _ _ (hK k hk)⟩
theorem Keep.setCell {K : Nat → Prop} {a w : World} (h : Keep K a w) {p : Addr} (hp : ¬ K p.block) (u : Value) : Keep K a (w.setCell p u) :=
  h.trans ⟨rfl, rfl, rfl, by simp [World.setCell], fun k hk => Below.heap_setCell _ _ _ _ (fun e => hp (e ▸ hk))⟩
theorem Keep.of_below {B : Nat} {w w' : World} (h : Below B w w') : Keep (fun k => k < B) w w' := ⟨h.os, h.tape, h.output, h.size, h.block⟩
theorem Keep.below {B : Nat} {w w' : World} (h : Keep (fun k => k < B) w w') : Below B w w' := ⟨h.os, h.tape, h.output, h.size, h.block⟩
theorem Keep.cell {K : Nat → Prop} {w w' : World} (h : Keep K w w') {p : Addr} (hp : K p.block) : w'.cell? p = w.cell? p := World.cell?_of_block (w := w) (h.block p.block hp)
theorem Row.keep {K : Nat → Prop} {k : IntKind} {w w' : World} {b o : Nat} {l : List Int} (h : Row k w b o l) (hb : Keep K w w') (hB : K b) : Row k w' b o l := h.of_block (hb.block b hB)
theorem IBlk.keep {K : Nat → Prop} {k : IntKind} {T : TypeId} {w w' : World} {b : Nat} {l : List Int} (h : IBlk k T w b l) (hb : Keep K w w') (hB : K b) : IBlk k T w' b l := h.of_block (hb.block b hB)
theorem VBlk.keep {K : Nat → Prop} {T : TypeId} {w w' : World} {b : Nat} {l : List Value} (h : VBlk T w b l) (hb : Keep K w w') (hB : K b) : VBlk T w' b l := h.of_block (hb.block b hB)
theorem IBlk.below {B : Nat} {k : IntKind} {T : TypeId} {w w' : World} {b : Nat} {l : List Int} (h : IBlk k T w b l) (hb : Below B w w') (hB : b < B) : IBlk k T w' b l := h.of_block (hb.block b hB)
theorem VBlk.below {B : Nat} {T : TypeId} {w w' : World} {b : Nat} {l : List Value} (h : VBlk T w b l) (hb : Below B w w') (hB : b < B) : VBlk T w' b l := h.of_block (hb.block b hB)

section
variable {P : Program} {f : FuncId} {args : Array Value} {w : World} {a n : Nat} {v : Value}
theorem quiet_add_left (h : Calls P f args (w.drewN (a + n)) fun e w' => e = .returned v ∧ w.drewN (a + n) = w') : Calls P f args (w.drewN (a + n)) fun e w'' => e = .returned v ∧ ∃ m, w'' = w.drewN (a + m) :=
  h.mono fun _ _ ⟨he, hm⟩ => ⟨he, n, hm.symm⟩
end

theorem wpList_build_to {P : Program} {ops : Array Oper} {rest : List Oper} {o : Oper} {a : Act} {w : World} {Q : Exit → Act → World → Prop} (hg : o.guard = none) (t : TypeId) (parts : Array (Nat × Operand)) (ho : o.op = .build t parts)
    (cells : Array Value) (hf : P.built t (parts.map fun (i, x) => (i, a.eval x)).toList = some cells)
    (h : wpList P ops Q rest (a.put o.dst (.agg cells)) w) : wpList P ops Q (o :: rest) a w :=
  wpList_build hg t parts ho (by rw [hf]; rfl) (by rw [hf]; exact h)
theorem below_setRow {B : Nat} {a w : World} (h : Below B a w) {g : Nat} (hg : B ≤ g) (cs : Array Value) : Below B a (w.setRow g cs) :=
  h.trans ⟨rfl, rfl, rfl, by simp, fun k hk => setRow_other w g k cs (by omega)⟩
theorem VBlk.setRow {T : TypeId} {w : World} {b : Nat} {l : List Value} (h : VBlk T w b l) (cs : List Value) : VBlk T (w.setRow b cs.toArray) b cs :=
  setRow_heap w b _ _ _ _ h
theorem VBlk.setRow_other {T : TypeId} {w : World} {b g : Nat} {l : List Value} (h : VBlk T w b l) (cs : Array Value) (hb : b ≠ g) : VBlk T (w.setRow g cs) b l :=
  h.of_block (Go.setRow_other w g b cs hb)
end Go.Proofs.YtpfkcfaifleliaaGreat

namespace Go.Proofs.YtpfkcfaifleliaaGreat
open Go.RowKit

def Hid2 (p : Prop) : Prop := ∀ q : Prop, (p → q) → q
theorem Hid2.mk {p : Prop} (h : p) : Hid2 p := fun _ f => f h
theorem Hid2.out {p : Prop} (h : Hid2 p) : p := h p id

def Sl (k : IntKind) (w : World) (v : Value) (l : List Int) : Prop :=
  ∃ sp cap, v = .slice sp l.length cap ∧ l.length ≤ cap ∧ cap ≤ 9223372036854775807 ∧ (0 < l.length → ∃ b o, sp = some ⟨b, o, none⟩ ∧ b < w.heap.size ∧ Row k w b o l) ∧ (sp = none → cap = 0)

theorem Sl.of_below {k : IntKind} {w w' : World} {v : Value} {l : List Int} (h : Sl k w v l) (hb : Below w.heap.size w w') : Sl k w' v l := by
  obtain ⟨sp, cap, rfl, h1, h2, h3, h4⟩ := h; exact ⟨sp, cap, rfl, h1, h2, fun h0 => let ⟨b, o, e, hl, hr⟩ := h3 h0; ⟨b, o, e, Nat.lt_of_lt_of_le hl hb.size, hr.below hb hl⟩, h4⟩
theorem Sl.keep {K : Nat → Prop} {k : IntKind} {w w' : World} {v : Value} {l : List Int} (h : Sl k w v l) (hb : Keep K w w') (hK : ∀ b o n c, v = .slice (some ⟨b, o, none⟩) n c → b < w.heap.size → K b) : Sl k w' v l := by
  obtain ⟨sp, cap, rfl, h1, h2, h3, h4⟩ := h; exact ⟨sp, cap, rfl, h1, h2, fun h0 => let ⟨b, o, e, hl, hr⟩ := h3 h0; ⟨b, o, e, Nat.lt_of_lt_of_le hl hb.size, hr.keep hb (hK b o _ _ (by rw [e]) hl)⟩, h4⟩
theorem Sl.nil (k : IntKind) (w : World) : Sl k w (.slice none 0 0) [] := ⟨none, 0, rfl, by simp, by omega, fun h => by simp at h, fun _ => rfl⟩
theorem Sl.mk {k : IntKind} {w : World} {b o cap : Nat} {l : List Int} (hl : l.length ≤ cap) (hc : cap ≤ 9223372036854775807) (hb : b < w.heap.size) (h : Row k w b o l) :
    Sl k w (.slice (some ⟨b, o, none⟩) l.length cap) l := ⟨_, _, rfl, hl, hc, fun _ => ⟨b, o, rfl, hb, h⟩, fun h => by cases h⟩

def lenOf : Value → Nat | .slice _ n _ => n | _ => 0

theorem row_drop {k : IntKind} {w : World} {b o : Nat} {l : List Int} (h : Row k w b o l) (n : Nat) : Row k w b (o + n) (l.drop n) := by
  intro j hj; simp only [List.length_drop] at hj; have := h (n + j) (by omega); rw [show o + n + j = o + (n + j) by omega, this]; simp [nth]

theorem two_alloc {w w1 : World} {A B : Obj} (hb : Below ((w.alloc A).alloc B).heap.size ((w.alloc A).alloc B) w1) :
    w1.heap[w.heap.size]? = some A ∧ w1.heap[w.heap.size + 1]? = some B ∧ Below w.heap.size w w1 ∧ w.heap.size + 2 ≤ w1.heap.size := by
  have hs : ((w.alloc A).alloc B).heap.size = w.heap.size + 2 := by simp
  refine ⟨?_, ?_, ?_, ?_⟩
  · rw [hb.block _ (by rw [hs]; omega), heap_alloc2_old]
  · rw [hb.block _ (by rw [hs]; omega), heap_alloc2_new]
  · exact (((Below.refl _ _).alloc (Nat.le_refl _) _).alloc (by simp) _).trans (hb.mono (by rw [hs]; omega))
  · rw [← hs]; exact hb.size

theorem run_index_arr {P : Program} (w : World) (t e : TypeId) (n : Nat) (d : TypeDesc) (i : TypeInfo) (hu : P.underlying t = some (.array n e)) (hi : P.info? e = some i) (hs : i.size = 1)
    (he : P.underlying e = some d) (hd : (match d with | .struct _ | .array _ _ => false | _ => true) = true) (cs : Array Value) (k : IntKind) (j : Nat) (h1 : j < n) (v : Value) (hv : cs[j]? = some v) :
    (Instr.index t (.agg cs) (.int k j)).run P w = .ok v w := by
  have hagg : (isAgg e).run P w = .ok false w := by
    unfold isAgg; rw [Sem.run_bind, run_underlying he w]; cases d <;> simp_all
  have h0 : (0 : Int) ≤ j ∧ (j : Int) < n := by omega
  simp [Instr.index, run_underlying hu, asIntOf, h0, sizeOf, typeInfo, hi, hs, part, hagg, hv, Sem.run_bind]
  omega

theorem splice_zero {α : Type} (Z X : List α) (_h : X.length ≤ Z.length) : splice Z 0 X = X ++ Z.drop X.length := by simp [splice]
theorem addr_add (b o i : Nat) : (⟨b, o, none⟩ : Addr).add i = ⟨b, o + i, none⟩ := by
  unfold Addr.add
  by_cases h : i = 0
  · subst h; rfl
  · rw [if_neg h]

end Go.Proofs.YtpfkcfaifleliaaGreat

namespace Go.Proofs.YtpfkcfaifleliaaGreat
open Go.RowKit

def RowV (w : World) (b o : Nat) (l : List Value) : Prop := ∀ j, j < l.length → w.cell? ⟨b, o + j, none⟩ = some (l.getD j undef)
theorem RowV.of_vblk {T : TypeId} {w : World} {b : Nat} {l : List Value} (h : VBlk T w b l) : RowV w b 0 l := fun j hj => by rw [Nat.zero_add]; exact h.cell j hj

def Ones (l : List Value) : Prop := ∀ u ∈ l, u.oneCell' = true
theorem Ones.append {l l' : List Value} (h : Ones l) (h' : Ones l') : Ones (l ++ l') := fun u hu => (List.mem_append.1 hu).elim (h u) (h' u)
theorem Ones.int (k : IntKind) (l : List Int) : Ones (l.map (Value.int k)) := fun u hu => by obtain ⟨_, _, rfl⟩ := List.mem_map.1 hu; rfl

def SlV (w : World) (O : Nat → Prop) (m : Nat) (v : Value) (n : Nat) (l : List Value) : Prop :=
  l.length = n * m ∧ Ones l ∧ ∃ sp cap, v = .slice sp n cap ∧ n ≤ cap ∧ cap ≤ 9223372036854775807 ∧ (sp = none → cap = 0) ∧ (0 < n → ∃ b o, sp = some ⟨b, o, none⟩ ∧ b < w.heap.size ∧ O b ∧ RowV w b o l)

def OwnV (e : TypeId) (m : Nat) (w : World) (O : Nat → Prop) (v : Value) (n : Nat) (l : List Value) : Prop :=
  w.ownsRow 0 e m v n l ∧ Ones l ∧ ∀ g, v.ownBlock = some g → O g

theorem OwnV.nil (e : TypeId) (m : Nat) (w : World) (O : Nat → Prop) : OwnV e m w O (.slice none 0 0) 0 [] := ⟨World.ownsRow_nil _ _ _ _, fun _ h => (List.not_mem_nil h).elim, fun g h => by cases h⟩
theorem OwnV.form {e : TypeId} {m : Nat} {w : World} {O : Nat → Prop} {v : Value} {n : Nat} {l : List Value} (h : OwnV e m w O v n l) :
    (v = .slice none 0 0 ∧ n = 0 ∧ l = []) ∨ ∃ g cap cur, v = .slice (some ⟨g, 0, none⟩) n cap ∧ O g ∧ g < w.heap.size ∧ w.heap[g]? = some (.cells cur e (0, 0)) ∧ n ≤ cap ∧ cap ≤ maxLen ∧ cur.size = cap * m ∧ cur.toList.take (n * m) = l := by
  obtain ⟨⟨h1, h2⟩, -, h3⟩ := h; rcases h2 with ⟨rfl, rfl⟩ | ⟨g, cap, cur, rfl, -, hg, h4, h5, h6, h7⟩
  · exact .inl ⟨rfl, rfl, List.eq_nil_of_length_eq_zero (by simpa using h1)⟩
  · exact .inr ⟨g, cap, cur, rfl, h3 g rfl, lt_of_block hg, hg, h4, h5, h6, h7⟩
theorem OwnV.slV {e : TypeId} {m : Nat} {w : World} {O : Nat → Prop} {v : Value} {n : Nat} {l : List Value} (h : OwnV e m w O v n l) : SlV w O m v n l := by
  refine ⟨h.1.1, h.2.1, ?_⟩; have hc := h; rcases h.form with ⟨rfl, rfl, rfl⟩ | ⟨g, cap, cur, rfl, hO, hlt, hg, h4, h5, h6, h7⟩
  · exact ⟨none, 0, rfl, by omega, by omega, fun _ => rfl, fun h => by omega⟩
  · refine ⟨_, cap, rfl, h4, h5, (fun h => by cases h), fun _ => ⟨g, 0, rfl, hlt, hO, fun j hj => ?_⟩⟩
    rw [Nat.zero_add]; have := World.ownsRow.cellAt hc.1 j (by rw [← hc.1.1]; exact hj); rw [this]; simp [hj]
theorem OwnV.slice {e : TypeId} {m : Nat} {w : World} {O : Nat → Prop} {v : Value} {n : Nat} {l : List Value} (h : OwnV e m w O v n l) : ∃ sp cap, v = .slice sp n cap ∧ n ≤ cap ∧ cap ≤ 9223372036854775807 := by
  rcases h.form with ⟨rfl, rfl, -⟩ | ⟨g, cap, cur, rfl, -, -, -, h4, h5, -⟩
  · exact ⟨none, 0, rfl, by omega, by omega⟩
  · exact ⟨_, _, rfl, h4, by unfold maxLen at h5; exact h5⟩

theorem OwnV.of_block {e : TypeId} {m : Nat} {w w' : World} {O : Nat → Prop} {v : Value} {n : Nat} {l : List Value} (h : OwnV e m w O v n l) (hb : ∀ g, v.ownBlock = some g → w'.heap[g]? = w.heap[g]?) : OwnV e m w' O v n l := by
  refine ⟨⟨h.1.1, ?_⟩, h.2⟩; rcases h.1.2 with hn | ⟨g, cap, cur, rfl, hb', hg, r⟩
  · exact .inl hn
  · exact .inr ⟨g, cap, cur, rfl, hb', by rw [hb g rfl]; exact hg, r⟩
theorem OwnV.lt {e : TypeId} {m : Nat} {w : World} {O : Nat → Prop} {v : Value} {n : Nat} {l : List Value} (h : OwnV e m w O v n l) {g : Nat} (hg : v.ownBlock = some g) : g < w.heap.size := (World.ownsRow.lt h.1 g hg).2
theorem OwnV.own {e : TypeId} {m : Nat} {w : World} {O : Nat → Prop} {v : Value} {n : Nat} {l : List Value} (h : OwnV e m w O v n l) {g : Nat} (hg : v.ownBlock = some g) : O g := h.2.2 g hg
theorem OwnV.keep {e : TypeId} {m : Nat} {w w' : World} {O : Nat → Prop} {v : Value} {n : Nat} {l : List Value} (h : OwnV e m w O v n l) {K : Nat → Prop} (hk : Keep K w w') (hK : ∀ g, v.ownBlock = some g → K g) : OwnV e m w' O v n l :=
  h.of_block fun g hg => hk.block g (hK g hg)
theorem OwnV.mono {e : TypeId} {m : Nat} {w : World} {O O' : Nat → Prop} {v : Value} {n : Nat} {l : List Value} (h : OwnV e m w O v n l) (hO : ∀ b, O b → O' b) : OwnV e m w O' v n l := ⟨h.1, h.2.1, fun g hg => hO g (h.2.2 g hg)⟩
theorem OwnV.stored {e : TypeId} {m : Nat} {w : World} {O : Nat → Prop} {g n cap : Nat} {l : List Value} (h : OwnV e m w O (.slice (some ⟨g, 0, none⟩) n cap) n l) (j : Nat) {u : Value} (hu : u.oneCell' = true) :
    OwnV e m (w.setCell ⟨g, j, none⟩ u) O (.slice (some ⟨g, 0, none⟩) n cap) n (l.set j u) :=
  ⟨(World.ownsRow.stored h.1 j u).1, fun x hx => by
    rcases List.mem_or_eq_of_mem_set hx with h1 | rfl
    · exact h.2.1 x h1
    · exact hu, h.2.2⟩
theorem OwnV.free {e : TypeId} {m : Nat} {w : World} {O : Nat → Prop} {g n cap : Nat} {l : List Value} (h : OwnV e m w O (.slice (some ⟨g, 0, none⟩) n cap) n l) (j : Nat) : w.frozen? ⟨g, j, none⟩ = false := World.ownsRow.frozenAt h.1 j
theorem OwnV.at {e : TypeId} {m : Nat} {w : World} {O : Nat → Prop} {g n cap : Nat} {l : List Value} (h : OwnV e m w O (.slice (some ⟨g, 0, none⟩) n cap) n l) (j : Nat) (hj : j < l.length) : w.cell? ⟨g, j, none⟩ = some (l.getD j undef) := by
  rw [World.ownsRow.cellAt h.1 j (by rw [← h.1.1]; exact hj)]; simp [hj]

structure ElemV (P : Program) (t e : TypeId) (m bytes : Nat) : Prop where
  ht : P.underlying t = some (.slice e)
  pos : 0 < m
  ex : ∃ i z, P.info? e = some i ∧ i.zero = some z ∧ i.size = m ∧ i.bytes = bytes ∧ z.cells.size = m
theorem ElemV.mk' {P : Program} {t e : TypeId} {m bytes : Nat} {z : Value} (ht : P.underlying t = some (.slice e)) (hi : (P.info? e).map (fun i => (i.zero, i.size, i.bytes)) = some (some z, m, bytes)) (hz : z.cells.size = m) (hp : 0 < m) : ElemV P t e m bytes :=
  ⟨ht, hp, let ⟨i, h1, h2, h3, h4⟩ := info_parts hi; ⟨i, _, h1, h2, h3, h4, hz⟩⟩

theorem grown_keep {w w' : World} {r : Option Nat} (hg : w.grownBy w' r) : Keep (fun b => b < w.heap.size ∧ r ≠ some b) w w' :=
  ⟨hg.os, hg.tape, hg.output, hg.size, fun k hk => hg.block k hk.1 (fun e => hk.2 e.symm)⟩

theorem SlV.news {w : World} {O : Nat → Prop} {m n : Nat} {v : Value} {l : List Value} (h : SlV w O m v n l) :
    (v = .slice none 0 0 ∧ n = 0 ∧ l = []) ∨ ∃ ad cap, v = .slice (some ad) n cap ∧ n ≤ cap ∧ ∀ j u, l[j]? = some u → w.cell? (ad.add j) = some u := by
  obtain ⟨h1, h2, sp, cap, h3, h4, h5, h6, h7⟩ := h; cases hsp : sp with
  | none =>
    have := h6 hsp; have hn : n = 0 := by omega
    subst hn; exact .inl ⟨by rw [h3, hsp, this], rfl, List.eq_nil_of_length_eq_zero (by simpa using h1)⟩
  | some ad =>
    refine .inr ⟨ad, cap, by rw [h3, hsp], h4, fun j u hu => ?_⟩; have hj : j < l.length := by
      rcases Nat.lt_or_ge j l.length with h | h
      · exact h
      · simp [h] at hu
    have hn : 0 < n := by
      rcases Nat.eq_zero_or_pos n with h0 | h0
      · subst h0; simp at h1; rw [h1] at hj; cases hj
      · exact h0
    obtain ⟨b, o, e, -, -, hr⟩ := h7 hn; rw [hsp] at e; cases e
    rw [addr_add, hr j hj]
    simpa [hj] using hu

theorem run_appV {P : Program} {w : World} {t ty e : TypeId} {m bytes : Nat} (E : ElemV P t e m bytes) {O O2 : Nat → Prop} {v : Value} {n : Nat} {l : List Value} (hown : OwnV e m w O v n l)
    {x : Value} {n2 : Nat} {l2 : List Value} (hx : SlV w O2 m x n2 l2) (h63 : n + n2 ≤ maxLen) (hby : (n + n2) * bytes ≤ 140737488355328) :
    ∃ v' w', (Builtin.append_ #[t, t] ty #[v, x]).run P w = .ok v' w' ∧ OwnV e m w' (fun g => O g ∨ g = w.heap.size) v' (n + n2) (l ++ l2) ∧ w.grownBy w' v.ownBlock ∧ (∀ g, v'.ownBlock = some g → v.ownBlock = some g ∨ g = w.heap.size) := by
  obtain ⟨i, z, hi, hz, hz1, hz2, hz3⟩ := E.ex; rcases hx.news with ⟨rfl, rfl, rfl⟩ | ⟨ad, cap, rfl, hc, hn⟩
  · refine ⟨v, w, run_append_owned_none (P := P) (w := w) 0 t ty e i m E.ht hi v n _ hown.1, ?_, World.grownBy.refl _ _, fun g hg => .inl hg⟩
    rw [List.append_nil]; exact hown.mono (fun _ h => .inl h)
  · rcases Nat.eq_zero_or_pos n2 with h0 | h0
    · subst h0
      have hl2 : l2 = [] := List.eq_nil_of_length_eq_zero (by simpa using hx.1); subst hl2; obtain ⟨v', w', hr, h2, h3, h4, h5⟩ := run_append_own_at (P := P) w 0 t ty e i z m bytes E.ht hi hz hz1 hz2 hz3 E.pos v n l hown.1 ad 0 cap [] (by simp) (by simp) (by simp) h63 hby (Nat.zero_le _); have h6 : ∀ g, v'.ownBlock = some g → v.ownBlock = some g ∨ g = w.heap.size := by
        intro g hg; rcases h5 with h5 | h5
        · exact .inl (by rw [← h5]; exact hg)
        · rw [h5] at hg; cases hg; exact .inr rfl
      exact ⟨v', w', hr, ⟨h2, hown.2.1.append hx.2.1, fun g hg => (h6 g hg).imp (hown.2.2 g) id⟩, h3, h6⟩
    · obtain ⟨g, c, w', hr, h2, h3, h4, h5⟩ := run_append_lies (P := P) w t ty 0 e i z m bytes E.ht hi hz hz1 hz2 hz3 E.pos v n l hown.1 ad n2 cap l2 hx.1 hn hx.2.1 h0 h63 hby (Nat.zero_le _) w.heap.size rfl
      have h6 : ∀ g', (Value.slice (some ⟨g, 0, none⟩) (n + n2) c).ownBlock = some g' → v.ownBlock = some g' ∨ g' = w.heap.size := by
        intro g' hg; cases hg; exact h4
      exact ⟨_, w', hr, ⟨h2, hown.2.1.append hx.2.1, fun g hg => (h6 g hg).imp (hown.2.2 g) id⟩, h3, h6⟩

theorem wp_appV {P : Program} {w : World} {o : Oper} {a : Act} {K : Act → World → Prop} {Q : Exit → Act → World → Prop} (s x : Operand) (t : TypeId)
    (ho : o.op = .call { callee := .builtin .append, args := #[s, x], argTypes := #[t, t] }) {e : TypeId} {m bytes : Nat} (E : ElemV P t e m bytes) {O O2 : Nat → Prop} {v : Value} {n : Nat} {l : List Value} (hs : a.eval s = v) (hown : OwnV e m w O v n l)
    {xv : Value} {n2 : Nat} {l2 : List Value} (hx : a.eval x = xv) (hsl : SlV w O2 m xv n2 l2) {n' : Nat} (hn : n + n2 = n') (h63 : n' ≤ maxLen) (hby : n' * bytes ≤ 140737488355328)
    (h : ∀ sp c w', OwnV e m w' (fun g => O g ∨ g = w.heap.size) (.slice sp n' c) n' (l ++ l2) → w.grownBy w' v.ownBlock → (∀ g, (Value.slice sp n' c).ownBlock = some g → v.ownBlock = some g ∨ g = w.heap.size) → K (a.put o.dst (.slice sp n' c)) w') : o.wp P a w K Q := by
  subst hn; obtain ⟨v', w', hr, h2, h3, h4⟩ := run_appV (P := P) (ty := o.type) E hown hsl h63 hby; have hv : ∃ sp c, v' = .slice sp (n + n2) c := by
    rcases h2.form with ⟨rfl, h0, -⟩ | ⟨g, cap, cur, rfl, -⟩
    · exact ⟨none, 0, by rw [h0]⟩
    · exact ⟨_, _, rfl⟩
  obtain ⟨sp, c, rfl⟩ := hv; unfold Oper.wp execOp; simp only [ho, resolve, invoke, builtin, Sem.run_bind, Sem.run_pure, Result.andThen_ok, List.map_toArray, List.map_cons, List.map_nil, hs, hx, hr]; exact h sp c w' h2 h3 h4

theorem wpList_appV {P : Program} {w : World} {ops : Array Oper} {rest : List Oper} {o : Oper} {a : Act} {Q : Exit → Act → World → Prop} (hgd : o.guard = none) (s x : Operand) (t : TypeId)
    (ho : o.op = .call { callee := .builtin .append, args := #[s, x], argTypes := #[t, t] }) {e : TypeId} {m bytes : Nat} (E : ElemV P t e m bytes) {O O2 : Nat → Prop} {v : Value} {n : Nat} {l : List Value} (hs : a.eval s = v) (hown : OwnV e m w O v n l)
    {xv : Value} {n2 : Nat} {l2 : List Value} (hx : a.eval x = xv) (hsl : SlV w O2 m xv n2 l2) {n' : Nat} (hn : n + n2 = n') (h63 : n' ≤ maxLen) (hby : n' * bytes ≤ 140737488355328)
    (h : ∀ sp c w', OwnV e m w' (fun g => O g ∨ g = w.heap.size) (.slice sp n' c) n' (l ++ l2) → w.grownBy w' v.ownBlock → (∀ g, (Value.slice sp n' c).ownBlock = some g → v.ownBlock = some g ∨ g = w.heap.size) → wpList P ops Q rest (a.put o.dst (.slice sp n' c)) w') : wpList P ops Q (o :: rest) a w :=
  wpList_plain hgd fun _ hK => wp_appV s x t ho E hs hown hx hsl hn h63 hby fun sp c w' h2 h3 h4 => hK _ _ (h sp c w' h2 h3 h4)

theorem step_growV {P : Program} {w : World} {ops : Array Oper} {o : Oper} {a : Act} {K : Act → World → Prop} {Q : Exit → Act → World → Prop} {F : Prop} (hgd : o.guard = none) (s x : Operand) (t : TypeId)
    (ho : o.op = .call { callee := .builtin .append, args := #[s, x], argTypes := #[t, t] }) {e : TypeId} {m bytes : Nat} (E : ElemV P t e m bytes) {O O2 : Nat → Prop} {sp : Option Addr} {n cc : Nat} {l : List Value} (hs : a.eval s = .slice sp n n) (hown : SlV w O m (.slice sp n cc) n l)
    {xv : Value} {n2 : Nat} {l2 : List Value} (hx : a.eval x = xv) (hsl : SlV w O2 m xv n2 l2) (h0 : 0 < n2) {n' : Nat} (hn : n + n2 = n') (h63 : n' ≤ maxLen) (hby : n' * bytes ≤ 140737488355328)
    (h : ∀ sp c w', OwnV e m w' (fun g => w.heap.size ≤ g) (.slice sp n' c) n' (l ++ l2) → w.grownBy w' none → K (a.put o.dst (.slice sp n' c)) w') :
    if Region.wanted o (yielded ops a.tmps) = true then Oper.wp P o a w K Q else F := by
  subst hn; obtain ⟨i, z, hi, hz, hz1, hz2, hz3⟩ := E.ex; rcases hsl.news with ⟨rfl, rfl, -⟩ | ⟨ad, cap, rfl, hc, hnw⟩
  · omega
  · refine step_append_grows hgd s x t ho e i z m bytes E.ht hi hz hz1 hz2 hz3 E.pos sp n n l hs ?_ hown.1 ?_ ad n2 cap l2 hx hsl.1 hnw hsl.2.1 (by omega) h63 hby ?_
    · intro e0; subst e0
      rcases hown.news with ⟨-, h1, -⟩ | ⟨_, _, h1, _⟩
      · exact ⟨h1, h1⟩
      · cases h1
    · intro b hb; subst hb
      rcases hown.news with ⟨h1, -, -⟩ | ⟨ad', cp, h1, -, h2⟩
      · cases h1
      · injection h1 with h1 _ _; cases h1; exact h2
    · intro v' w' h1 h2
      rcases h1.2 with ⟨-, h3⟩ | ⟨g, cap', cur, rfl, hb, r⟩
      · omega
      · exact h _ _ w' ⟨⟨h1.1, .inr ⟨g, cap', cur, rfl, Nat.zero_le _, r⟩⟩, hown.2.1.append hsl.2.1, fun g' e => by cases e; exact hb⟩ h2

theorem belowN {B : Nat} {w w' : World} (h : Below B w w') (n : Nat) : Below B w (w'.drewN n) := ((Keep.of_below h).drewN n).below

end Go.Proofs.YtpfkcfaifleliaaGreat

namespace Go.Proofs.YtpfkcfaifleliaaGreat
open Go.RowKit

def Buf (k : IntKind) (e : TypeId) (w : World) (base : Nat) (v : Value) (l : List Int) : Prop := w.ownsRow base e 1 v l.length (l.map (Value.int k))

theorem Buf.nil (k : IntKind) (e : TypeId) (w : World) (base : Nat) : Buf k e w base (.slice none 0 0) [] := World.ownsRow_nil _ _ _ _

theorem Buf.block {k : IntKind} {e : TypeId} {w : World} {base : Nat} {v : Value} {l : List Int} (h : Buf k e w base v l) :
    (v = .slice none 0 0 ∧ l = []) ∨ ∃ g cap rest, v = .slice (some ⟨g, 0, none⟩) l.length cap ∧ base ≤ g ∧ l.length ≤ cap ∧ cap ≤ maxLen ∧ VBlk e w g (l.map (Value.int k) ++ rest) ∧ (l.map (Value.int k) ++ rest).length = cap := by
  obtain ⟨h1, h2⟩ := h; rcases h2 with ⟨h2, h3⟩ | ⟨g, cap, cur, hv, hg, hh, r1, r2, r3, r4⟩
  · exact .inl ⟨h2, List.eq_nil_of_length_eq_zero h3⟩
  · refine .inr ⟨g, cap, cur.toList.drop l.length, hv, hg, r1, r2, ?_, ?_⟩
    · rw [Nat.mul_one] at r4
      rw [← r4, List.take_append_drop]
      simpa [VBlk] using hh
    · rw [Nat.mul_one] at r3
      simp; omega

theorem Buf.row {k : IntKind} {e : TypeId} {w : World} {base g cap : Nat} {l : List Int} (h : Buf k e w base (.slice (some ⟨g, 0, none⟩) l.length cap) l) : Row k w g 0 l := by
  intro j hj; have := World.ownsRow.cellAt h j (by simpa using hj); rw [Nat.zero_add, this]; simp [nth, hj]

theorem Buf.sl {k : IntKind} {e : TypeId} {w : World} {base : Nat} {v : Value} {l : List Int} (h : Buf k e w base v l) : Sl k w v l := by
  rcases h.block with ⟨rfl, rfl⟩ | ⟨g, cap, rest, rfl, hg, h1, h2, hb, -⟩
  · exact Sl.nil k w
  · exact Sl.mk h1 (by unfold maxLen at h2; exact h2) hb.lt h.row

theorem Buf.keep {K : Nat → Prop} {k : IntKind} {e : TypeId} {w w' : World} {base : Nat} {v : Value} {l : List Int} (h : Buf k e w base v l) (hk : Keep K w w') (hK : ∀ g, base ≤ g → g < w.heap.size → v.ownBlock = some g → K g) : Buf k e w' base v l := by
  refine ⟨h.1, ?_⟩; rcases h.2 with hn | ⟨g, cap, cur, rfl, hb, hgg, rest⟩
  · exact .inl hn
  · refine .inr ⟨g, cap, cur, rfl, hb, ?_, rest⟩
    rw [hk.block g (hK g hb (lt_of_block hgg) rfl)]; exact hgg
theorem Buf.below {B : Nat} {k : IntKind} {e : TypeId} {w w' : World} {base : Nat} {v : Value} {l : List Int} (h : Buf k e w base v l) (hk : Below B w w') (hB : w.heap.size ≤ B) : Buf k e w' base v l :=
  h.keep (Keep.of_below hk) (fun _ _ hg _ => Nat.lt_of_lt_of_le hg hB)
theorem Buf.own {k : IntKind} {e : TypeId} {w : World} {base : Nat} {v : Value} {l : List Int} (h : Buf k e w base v l) : ∀ g, v.ownBlock = some g → base ≤ g ∧ g < w.heap.size := fun g hg => World.ownsRow.lt h g hg
theorem Buf.mk {k : IntKind} {e : TypeId} {w : World} {base : Nat} (l rest : List Int) (hb : base ≤ w.heap.size) (hm : l.length + rest.length ≤ maxLen) :
    Buf k e (w.alloc (.cells ((l ++ rest).map (Value.int k)).toArray e)) base (.slice (some ⟨w.heap.size, 0, none⟩) l.length (l.length + rest.length)) l := by
  refine ⟨by simp, .inr ⟨w.heap.size, l.length + rest.length, _, rfl, hb, heap_alloc_new _ _, by omega, hm, by simp, ?_⟩⟩; simp
end Go.Proofs.YtpfkcfaifleliaaGreat

namespace Go.Proofs.YtpfkcfaifleliaaGreat
open Go.RowKit BigFrame

end Go.Proofs.YtpfkcfaifleliaaGreat

namespace Go.Proofs.YtpfkcfaifleliaaGreat
open Go.RowKit
namespace Ld

theorem load_on {P : Program} {ops : Array Oper} {rest : List Oper} {o : Oper} {a : Act} {w : World} {Q : Exit → Act → World → Prop} (hw : Region.wanted o (yielded ops a.tmps) = true) (ty : TypeId) (x : Operand) (ho : o.op = .load ty x)
    (g : Nat) (hx : a.eval x = .pointer (some ⟨g, 0, none⟩)) (t : TypeId) (cs : Array Value) (fr : Nat × Nat) (d : TypeDesc) (hg : w.heap[g]? = some (.cells cs t fr))
    (hu : P.underlying ty = some d) (hd : (match d with | .struct _ | .array _ _ => true | _ => false) = true) (hi : (P.info? ty).map (·.size) = some cs.size)
    (h : wpList P ops Q rest (a.put o.dst (.agg cs)) w) : wpList P ops Q (o :: rest) a w :=
  wpList_step fun _ hK => by rw [if_pos hw]; exact wp_load_row ty x ho g hx t cs fr d hg hu hd hi (hK _ _ h)
end Ld
end Go.Proofs.YtpfkcfaifleliaaGreat

namespace Go.Proofs.YtpfkcfaifleliaaGreat
open Go.RowKit
namespace K

def FF (r : Option Nat) : Fence := { Fence.wide with round := r }
def cw (md : Option (Option Nat)) (P : Program) (c : Code) (Q : Exit → Act → World → Prop) (a : Act) (w : World) : Prop :=
  match md with
  | none => c.wp P Q a w
  | some r => c.wpIn (FF r) 1 P Q a w
def lw (md : Option (Option Nat)) (P : Program) (ops : Array Oper) (Q : Exit → Act → World → Prop) (rest : List Oper) (a : Act) (w : World) : Prop :=
  match md with
  | none => wpList P ops Q rest a w
  | some r => wpListIn (FF r) 1 P ops Q rest a w
section
variable {md : Option (Option Nat)} {P : Program} {Q Q' : Exit → Act → World → Prop} {a : Act} {w w' : World} {ops : Array Oper} {rest : List Oper} {o : Oper} {K K' : Act → World → Prop} {r : Option Nat}

theorem cw_mono {c : Code} (hq : ∀ e a w, Q e a w → Q' e a w) (h : cw md P c Q a w) : cw md P c Q' a w := by
  cases md with
  | none => exact Code.wp_mono hq h
  | some r => exact Go.wpIn_mono h hq
theorem cw_seq {x y : Code} (h : cw md P x (Exit.then (cw md P y Q) Q) a w) : cw md P (.seq x y) Q a w := by
  cases md with
  | none => exact wp_seq h
  | some r => exact wpIn_seq h
theorem cw_block {id : Nat} {c : Code} (h : cw md P c (Exit.inBlock id Q) a w) : cw md P (.block id c) Q a w := by
  cases md with
  | none => exact wp_block h
  | some r => exact wpIn_block h
theorem cw_skip (h : Q .normal a w) : cw md P .skip Q a w := by
  cases md with
  | none => exact wp_skip h
  | some r => exact wpIn_skip h
theorem cw_exit {id : Nat} (h : Q (.exit id) a w) : cw md P (.exit id) Q a w := by
  cases md with
  | none => exact wp_exit h
  | some r => exact wpIn_exit h
theorem cw_ret (h : Q .ret a w) : cw md P .ret Q a w := by
  cases md with
  | none => exact wp_ret h
  | some r => exact wpIn_ret h
theorem cw_region {id : Nat} {l : List Oper} (h : lw md P l.toArray Q l a w) : cw md P (.region id l.toArray false) Q a w := by
  cases md with
  | none => exact wp_region_lit h
  | some r => exact wpIn_region_lit h
theorem cw_cond {c : Operand} {x y : Code} {t : Bool} (hc : a.eval c = .bool t) (ht : t = true → cw md P x Q a w) (hf : t = false → cw md P y Q a w) : cw md P (.cond c x y) Q a w := by
  cases md with
  | none => exact wp_cond_split hc ht hf
  | some r => exact wpIn_cond_split hc ht hf
theorem cw_loop {c : Code} (I : Nat → Act → World → Prop) (n₀ : Nat) (h₀ : I n₀ a w)
    (round : ∀ n a w, I n a w → cw md P c (Exit.then (fun a' w' => ∃ n', n' < n ∧ I n' a' w') Q) a w) : cw md P (.loop c) Q a w := by
  cases md with
  | none => exact wp_loop_ghost I n₀ h₀ round
  | some r => exact wpIn_loop_ghost I n₀ h₀ round
theorem lw_nil {P : Program} (h : Q .normal a w) : lw md P ops Q [] a w := by
  cases md with
  | none => exact h
  | some r => exact h
theorem not_defer {v : Next} (hv : ∀ d, v ≠ .defer d) (hr : (execOp a.eval o).run P w = .ok v w') : ∀ c, o.op ≠ .defer c := by
  intro c hc; unfold execOp at hr; rw [hc] at hr; simp only [Sem.run_bind] at hr; cases h : (resolve a.eval c o.type).run P w with
  | ok d w2 => rw [h] at hr; simp at hr; exact hv _ hr.1.symm
  | halt x w2 => rw [h] at hr; cases hr
theorem semAt_run {v : Next} (hv : ∀ d, v ≠ .defer d) (hr : (execOp a.eval o).run P w = .ok v w') : (o.semAt r a.eval).run P w = .ok v w' := by
  rw [Oper.semAt_eq r a.eval o (not_defer hv hr)]; exact hr
theorem lw_value {v : Value} (hg : o.guard = none) (hr : (execOp a.eval o).run P w = .ok (.value v) w') (h : lw md P ops Q rest (a.put o.dst v) w') : lw md P ops Q (o :: rest) a w := by
  cases md with
  | none => exact wpList_plain hg fun K hK => by unfold Oper.wp; rw [hr, Oper.upon_value]; exact hK _ _ h
  | some r => exact wpListIn_plain hg fun K hK => ⟨fun _ _ => trivial, by show o.uponIn (FF r) 1 P a K Q ((o.semAt r a.eval).run P w); rw [semAt_run (by intro d hd; cases hd) hr, Oper.uponIn_value]; exact hK _ _ h⟩
theorem lw_skip (hg : o.guard = none) (hr : (execOp a.eval o).run P w = .ok .skip w') (h : lw md P ops Q rest (a.put o.dst undef) w') : lw md P ops Q (o :: rest) a w := by
  cases md with
  | none => exact wpList_plain hg fun K hK => by unfold Oper.wp; rw [hr, Oper.upon_skip]; exact hK _ _ h
  | some r => exact wpListIn_plain hg fun K hK => ⟨fun _ _ => trivial, by show o.uponIn (FF r) 1 P a K Q ((o.semAt r a.eval).run P w); rw [semAt_run (by intro d hd; cases hd) hr, Oper.uponIn_skip]; exact hK _ _ h⟩
theorem callsFF {n f : Nat} {args : Array Value} {R : Ending → World → Prop} (h : Calls P f args w R) : CallsIn (FF r) n P f args w R := by
  cases r with
  | none => exact callsIn_wide.2 h
  | some l => exact CallsIn.inRound l (callsIn_wide.2 h)
theorem lw_enter {f : Nat} {args : Array Value} (hg : o.guard = none) (hr : (execOp a.eval o).run P w = .ok (.enter f args) w')
    (h : Calls P f args w' fun e w2 => ∃ v, e = .returned v ∧ lw md P ops Q rest (a.put o.dst v) w2) : lw md P ops Q (o :: rest) a w := by
  cases md with
  | none =>
    exact wpList_plain hg fun K hK => by
      unfold Oper.wp; rw [hr, Oper.upon_enter]; refine h.mono fun e w2 hh => ?_; obtain ⟨v, rfl, h2⟩ := hh; exact hK _ _ h2
  | some r =>
    refine wpListIn_plain hg fun K hK => ⟨fun _ _ => trivial, ?_⟩
    show o.uponIn (FF r) 1 P a K Q ((o.semAt r a.eval).run P w)
    rw [semAt_run (by intro d hd; cases hd) hr, Oper.uponIn_enter]; refine ⟨fun _ => Nat.le_refl 1, (callsFF h).mono fun e w2 hh => ?_⟩; obtain ⟨v, rfl, h2⟩ := hh; exact hK _ _ h2
theorem lw_on (hw : Region.wanted o (yielded ops a.tmps) = true) (h : lw md P ops Q ({ o with guard := none } :: rest) a w) : lw md P ops Q (o :: rest) a w := by
  have hw2 : Region.wanted { o with guard := none } (yielded ops a.tmps) = true := rfl; cases md with
  | none =>
    change wpList P ops Q _ a w at h
    show wpList P ops Q _ a w
    unfold wpList at h ⊢; rw [if_pos hw2] at h; rw [if_pos hw]; exact h
  | some r =>
    change wpListIn (FF r) 1 P ops Q _ a w at h
    show wpListIn (FF r) 1 P ops Q _ a w
    unfold wpListIn at h ⊢; rw [if_pos hw2] at h; rw [if_pos hw]; exact h
theorem lw_off (hw : Region.wanted o (yielded ops a.tmps) = false) (h : lw md P ops Q rest (a.put o.dst undef) w) : lw md P ops Q (o :: rest) a w := by
  have hw2 : ¬ Region.wanted o (yielded ops a.tmps) = true := by rw [hw]; exact Bool.false_ne_true
  cases md with
  | none => show wpList P ops Q _ a w; unfold wpList; rw [if_neg hw2]; exact h
  | some r => show wpListIn (FF r) 1 P ops Q _ a w; unfold wpListIn; rw [if_neg hw2]; exact ⟨fun _ _ => trivial, h⟩
def NoOut (Q : Exit → Act → World → Prop) : Exit → Act → World → Prop
  | .outgrown, _, _ => False
  | e, a, w => Q e a w
theorem rowsFF {n : Nat} {row : String} {args : Array Value} {R : Value → World → Prop} (h : Rows P row args w R) : RowsIn (FF r) n P row args w R := by
  have h1 : RowsIn Fence.wide n P row args w R := fun c cs _ => let ⟨v, w', hR, hs⟩ := h c cs; ⟨v, w', hR, stepsIn_wide.2 hs⟩
  exact h1
theorem wp_noOut (hk : ∀ a w, K a w → K' a w) (h : o.wp P a w K (Exit.then K (NoOut Q))) : o.wp P a w K' Q := by
  unfold Oper.wp at h ⊢
  revert h
  generalize (execOp a.eval o).run P w = x; intro h; cases x with
  | ok x w2 =>
    cases x <;> first | exact hk _ _ h | exact h | skip
    all_goals first
      | (refine Calls.mono h fun e w3 h3 => ?_
         cases e with
         | returned v => exact hk _ _ h3
         | panicked ch => exact h3
         | outgrown => obtain ⟨a4, w4, h4⟩ := h3; exact h4.elim)
      | exact Rows.mono h fun v w3 h3 => hk _ _ h3
  | halt x w2 => cases x <;> first | exact h | skip
theorem wpIn_noOut (hd : ∀ c, o.op ≠ .defer c) (hk : ∀ a w, K a w → K' a w) (h : o.wp P a w K (Exit.then K (NoOut Q))) : o.wpIn (FF r) 1 P a w K' Q := by
  refine ⟨fun _ _ => trivial, ?_⟩
  show o.uponIn (FF r) 1 P a K' Q ((o.semAt r a.eval).run P w)
  rw [Oper.semAt_eq r a.eval o hd]; unfold Oper.wp at h
  revert h
  generalize (execOp a.eval o).run P w = x; intro h; cases x with
  | ok x w2 =>
    cases x <;> first | exact hk _ _ h | exact h.elim | skip
    all_goals first
      | (refine ⟨fun _ => Nat.le_refl 1, (callsFF h).mono fun e w3 h3 => ?_⟩
         cases e with
         | returned v => exact hk _ _ h3
         | panicked ch => exact h3
         | outgrown => obtain ⟨a4, w4, h4⟩ := h3; exact h4.elim)
      | exact ⟨fun _ => Nat.le_refl 1, (rowsFF h).mono fun v w3 h3 => hk _ _ h3⟩
  | halt x w2 => cases x <;> first | exact h | exact h.elim | skip
theorem lw_via (hg : o.guard = none) (hd : ∀ c, o.op ≠ .defer c) (h : wpList P ops (Exit.then (lw md P ops Q rest) (NoOut Q)) [o] a w) : lw md P ops Q (o :: rest) a w := by
  have hw : Region.wanted o (yielded ops a.tmps) = true := by simp [Region.wanted, hg]
  unfold wpList at h; rw [if_pos hw] at h; have h1 : o.wp P a w (lw md P ops Q rest) (Exit.then (lw md P ops Q rest) (NoOut Q)) := by
    rcases h with h | ⟨-, a2, w2, h2⟩
    · exact h
    · exact h2.elim
  cases md with
  | none => exact wpList_plain hg fun K hK => wp_noOut hK h1
  | some r => exact wpListIn_plain hg fun K hK => wpIn_noOut hd hK h1
theorem wpOper_mono {o : Oper} (hq : ∀ e a w, Q e a w → Q' e a w) (hk : ∀ a w, K a w → K' a w) (h : o.wp P a w K Q) : o.wp P a w K' Q' := by
  unfold Oper.wp at h ⊢
  revert h
  generalize (execOp a.eval o).run P w = r; intro h; cases r with
  | ok x w2 =>
    cases x <;> first | exact hk _ _ h | exact h | skip
    all_goals first
      | (refine Calls.mono h fun e w3 h3 => ?_
         cases e with
         | returned v => exact hk _ _ h3
         | panicked ch => exact hq _ _ _ h3
         | outgrown => obtain ⟨a4, w4, h4⟩ := h3; exact ⟨a4, w4, hq _ _ _ h4⟩)
      | exact Rows.mono h fun v w3 h3 => hk _ _ h3
  | halt x w2 => cases x <;> first | exact hq _ _ _ h | exact h | skip
theorem wpOperIn_mono {F : Fence} {n : Nat} {o : Oper} (hq : ∀ e a w, Q e a w → Q' e a w) (hk : ∀ a w, K a w → K' a w) (h : o.wpIn F n P a w K Q) : o.wpIn F n P a w K' Q' := by
  refine ⟨h.1, ?_⟩; have h := h.2
  revert h
  generalize (o.semAt F.round a.eval).run P w = r; intro h; cases r with
  | ok x w2 =>
    cases x <;> first | exact hk _ _ h | exact h | skip
    all_goals first
      | (refine ⟨h.1, CallsIn.mono h.2 fun e w3 h3 => ?_⟩
         cases e with
         | returned v => exact hk _ _ h3
         | panicked ch => exact hq _ _ _ h3
         | outgrown => obtain ⟨a4, w4, h4⟩ := h3; exact ⟨a4, w4, hq _ _ _ h4⟩)
      | exact ⟨h.1, RowsIn.mono h.2 fun v w3 h3 => hk _ _ h3⟩
      | (refine ⟨h.1, RoundIn.mono h.2 fun e w3 h3 => ?_⟩
         cases e with
         | returned v => exact hk _ _ h3
         | panicked ch => exact hq _ _ _ h3
         | outgrown => obtain ⟨a4, w4, h4⟩ := h3; exact ⟨a4, w4, hq _ _ _ h4⟩)
  | halt x w2 => cases x <;> first | exact hq _ _ _ h | exact h | skip
theorem wpList_mono' (hq : ∀ e a w, Q e a w → Q' e a w) (hl : LetsOut Q → LetsOut Q') : ∀ (rest : List Oper) (a : Act) (w : World), wpList P ops Q rest a w → wpList P ops Q' rest a w
  | [], a, w, h => hq _ _ _ h
  | o :: rest, a, w, h => by
    unfold wpList at h ⊢
    split
    · rename_i hw
      rw [if_pos hw] at h; rcases h with h | h
      · exact .inl (wpOper_mono hq (fun a w h => wpList_mono' hq hl rest a w h) h)
      · exact .inr ⟨h.1, hl h.2⟩
    · rename_i hw
      rw [if_neg hw] at h; exact wpList_mono' hq hl rest _ w h
theorem wpListIn_mono' {F : Fence} {n : Nat} (hq : ∀ e a w, Q e a w → Q' e a w) : ∀ (rest : List Oper) (a : Act) (w : World), wpListIn F n P ops Q rest a w → wpListIn F n P ops Q' rest a w
  | [], a, w, h => hq _ _ _ h
  | o :: rest, a, w, h => by
    unfold wpListIn at h ⊢
    split
    · rename_i hw
      rw [if_pos hw] at h; exact wpOperIn_mono hq (fun a w h => wpListIn_mono' hq rest a w h) h
    · rename_i hw
      rw [if_neg hw] at h; exact ⟨h.1, wpListIn_mono' hq rest _ w h.2⟩
theorem lw_mono (hq : ∀ e a w, Q e a w → Q' e a w) (h : lw md P ops Q rest a w) : lw md P ops Q' rest a w := by
  cases md with
  | none => exact wpList_mono' hq (fun ⟨a, w, q⟩ => ⟨a, w, hq _ _ _ q⟩) rest a w h
  | some r => exact wpListIn_mono' hq rest a w h
end
end K
end Go.Proofs.YtpfkcfaifleliaaGreat

namespace Go.Proofs.YtpfkcfaifleliaaGreat
open Go.RowKit
namespace K

abbrev Env := List (Nat × Value)
def look : Env → Nat → Option Value
  | [], _ => none
  | (j, v) :: r, k => bif Nat.beq j k then some v else look r k
def evl (l : Env) : Operand → Option Value
  | .tmp t => look l t
  | .const v => some v
  | .global g => some (.pointer (some ⟨g, 0, none⟩))
  | .func f => some (.func (.func f) #[] #[])

structure NN where
  n : Nat
  ds : List Deferred := []
  md : Option (Option Nat) := none
structure Fr (n : NN) (a : Act) (l : Env) : Prop where
  size : a.tmps.size = n.n
  defers : a.defers = n.ds
  slot : ∀ k v, look l k = some v → a.tmps[k]? = some v
theorem Fr.eval {n : NN} {a : Act} {l : Env} (h : Fr n a l) {x : Operand} {v : Value} (hx : evl l x = some v) : a.eval x = v := by
  cases x with
  | tmp t => have := h.slot t v hx; show a.tmps.getD t undef = v; rw [Array.getD_eq_getD_getElem?, this]; rfl
  | const u => exact Option.some.inj hx
  | global g => exact Option.some.inj hx
  | func f => exact Option.some.inj hx
theorem Fr.put {n : NN} {a : Act} {l : Env} (h : Fr n a l) {d : Nat} (hd : Nat.blt d n.n = true) (v : Value) : Fr n (a.put (some d) v) ((d, v) :: l) := by
  have hd' : d < n.n := by rw [Nat.blt_eq] at hd; exact hd
  refine ⟨by show (a.tmps.setIfInBounds d v).size = n.n; rw [Array.size_setIfInBounds]; exact h.size, h.defers, fun k u hk => ?_⟩
  show (a.tmps.setIfInBounds d v)[k]? = some u
  have hs := h.size; unfold look at hk; cases hb : Nat.beq d k with
  | true =>
    rw [hb] at hk; obtain rfl : d = k := Nat.eq_of_beq_eq_true hb; obtain rfl : v = u := Option.some.inj hk; simp [hs, hd']
  | false =>
    rw [hb] at hk; have hne : d ≠ k := Nat.ne_of_beq_eq_false hb; rw [Array.getElem?_setIfInBounds_ne hne]; exact h.slot k u hk
theorem Fr.none {n : NN} {a : Act} {l : Env} (h : Fr n a l) (v : Value) : Fr n (a.put none v) l := h
def Sub (l : Env) : Env → Prop
  | [] => True
  | (k, v) :: r => look l k = some v ∧ Sub l r
theorem Sub.look {l : Env} : ∀ {m : Env} {k : Nat} {v : Value}, Sub l m → look m k = some v → K.look l k = some v
  | [], _, _, _, h => by cases h
  | (j, u) :: r, k, v, h, hk => by
    unfold K.look at hk; cases hb : Nat.beq j k with
    | true =>
      rw [hb] at hk; obtain rfl : j = k := Nat.eq_of_beq_eq_true hb; obtain rfl : u = v := Option.some.inj hk; exact h.1
    | false => rw [hb] at hk; exact Sub.look h.2 hk
theorem Fr.sub {n : NN} {a : Act} {l m : Env} (h : Fr n a l) (hs : Sub l m) : Fr n a m := ⟨h.size, h.defers, fun k v hk => h.slot k v (hs.look hk)⟩
def argsEnv : Nat → List Value → Env
  | _, [] => []
  | i, v :: r => (i, v) :: argsEnv (i + 1) r
theorem look_args : ∀ (l : List Value) (i k : Nat) (v : Value), look (argsEnv i l) k = some v → i ≤ k ∧ l[k - i]? = some v
  | [], _, _, _, h => by cases h
  | u :: r, i, k, v, h => by
    unfold argsEnv look at h; cases hb : Nat.beq i k with
    | true =>
      rw [hb] at h; obtain rfl : i = k := Nat.eq_of_beq_eq_true hb; exact ⟨Nat.le_refl _, by simpa using h⟩
    | false =>
      rw [hb] at h; have hne : i ≠ k := Nat.ne_of_beq_eq_false hb; obtain ⟨h1, h2⟩ := look_args r (i + 1) k v h; refine ⟨by omega, ?_⟩; have : k - i = (k - (i + 1)) + 1 := by omega
      rw [this]
      simpa using h2

section
variable {n : NN} {Q : Exit → Act → World → Prop} {l : Env} {w : World}

structure WC (n : NN) (c : Code) (Q : Exit → Act → World → Prop) (l : Env) (w : World) : Prop where
  go : ∀ a, Fr n a l → cw n.md Tryz.prog c Q a w
structure WL (n : NN) (ops : Array Oper) (Q : Exit → Act → World → Prop) (rest : List Oper) (l : Env) (w : World) : Prop where
  go : ∀ a, Fr n a l → lw n.md Tryz.prog ops Q rest a w
structure WQ (n : NN) (Q : Exit → Act → World → Prop) (e : Exit) (l : Env) (w : World) : Prop where
  go : ∀ a, Fr n a l → Q e a w

theorem enter {f : FuncId} {fn : Func} {c : Code} {args : List Value} {n : Nat} {R : Ending → World → Prop} (hf : Tryz.prog.funcs[f]? = some fn) (hb : fn.body = some c) (hn : fn.ntmps = n) (hs : Nat.ble args.length n = true)
    (h : WC ⟨n, [], none⟩ c (bodyPost Tryz.prog fn R) (argsEnv 0 args) w) : Calls Tryz.prog f args.toArray w R := by
  refine calls_of_wp hf hb (h.go _ ?_); subst hn; have hs' : args.length ≤ fn.ntmps := Nat.le_of_ble_eq_true hs; refine ⟨by simp; omega, rfl, fun k v hk => ?_⟩; obtain ⟨-, h2⟩ := look_args _ _ _ _ hk; rw [Nat.sub_zero] at h2; have hlt : k < args.length := by
    rcases Nat.lt_or_ge k args.length with h | h
    · exact h
    · rw [List.getElem?_eq_none h] at h2; cases h2
  rw [Array.getElem?_append_left (by simpa using hlt)]
  simpa using h2

theorem WC.seq {x y : Code} (h : WC n x (Exit.then (cw n.md Tryz.prog y Q) Q) l w) : WC n (.seq x y) Q l w := ⟨fun a ha => cw_seq (h.go a ha)⟩
theorem WC.block {id : Nat} {c : Code} (h : WC n c (Exit.inBlock id Q) l w) : WC n (.block id c) Q l w := ⟨fun a ha => cw_block (h.go a ha)⟩
theorem WC.skip (h : WQ n Q .normal l w) : WC n .skip Q l w := ⟨fun a ha => cw_skip (h.go a ha)⟩
theorem WC.exit {id : Nat} (h : WQ n Q (.exit id) l w) : WC n (.exit id) Q l w := ⟨fun a ha => cw_exit (h.go a ha)⟩
theorem WC.ret (h : WQ n Q .ret l w) : WC n .ret Q l w := ⟨fun a ha => cw_ret (h.go a ha)⟩
theorem WC.region {id : Nat} {ops : List Oper} (h : WL n ops.toArray Q ops l w) : WC n (.region id ops.toArray false) Q l w := ⟨fun a ha => cw_region (h.go a ha)⟩
theorem WC.condB {c : Operand} {x y : Code} {b : Bool} (hc : evl l c = some (.bool b)) (h1 : b = true → WC n x Q l w) (h2 : b = false → WC n y Q l w) : WC n (.cond c x y) Q l w :=
  ⟨fun a ha => cw_cond (ha.eval hc) (fun e => (h1 e).go a ha) (fun e => (h2 e).go a ha)⟩
theorem WC.condTrue {c : Operand} {x y : Code} (hc : evl l c = some (.bool true)) (h : WC n x Q l w) : WC n (.cond c x y) Q l w := WC.condB hc (fun _ => h) (fun e => by cases e)
theorem WC.condFalse {c : Operand} {x y : Code} (hc : evl l c = some (.bool false)) (h : WC n y Q l w) : WC n (.cond c x y) Q l w := WC.condB hc (fun e => by cases e) (fun _ => h)
theorem WC.condT {c : Operand} {x y : Code} {p : Prop} [Decidable p] (hc : evl l c = some (.bool (decide p))) (hp : p) (h : WC n x Q l w) : WC n (.cond c x y) Q l w := WC.condTrue (by rw [hc, decide_eq_true hp]) h
theorem WC.condF {c : Operand} {x y : Code} {p : Prop} [Decidable p] (hc : evl l c = some (.bool (decide p))) (hp : ¬ p) (h : WC n y Q l w) : WC n (.cond c x y) Q l w := WC.condFalse (by rw [hc, decide_eq_false hp]) h
theorem WC.as {c : Code} (k : Nat) (v' : Value) {v : Value} (hk : look l k = some v) (e : v = v') (h : WC n c Q ((k, v') :: l) w) : WC n c Q l w :=
  ⟨fun a ha => h.go a ⟨ha.size, ha.defers, fun j u hj => by
    unfold look at hj; cases hb : Nat.beq k j with
    | true =>
      rw [hb] at hj; obtain rfl : k = j := Nat.eq_of_beq_eq_true hb; obtain rfl : v' = u := Option.some.inj hj; subst e; exact ha.slot _ _ hk
    | false => rw [hb] at hj; exact ha.slot _ _ hj⟩⟩
def Again (n : NN) {ι : Type} (L : ι → Env) (W : ι → World → Prop) (μ : ι → Nat) (i : ι) (a : Act) (w : World) : Prop := ∃ j, Fr n a (L j) ∧ W j w ∧ μ j < μ i
def Meet (n : NN) {ι : Type} (L : ι → Env) (W : ι → World → Prop) (a : Act) (w : World) : Prop := ∃ i, Fr n a (L i) ∧ W i w
theorem WC.loop {ι : Type} {c : Code} (L : ι → Env) (W : ι → World → Prop) (μ : ι → Nat) (i : ι) (hs : Sub l (L i)) (hw : W i w)
    (round : ∀ i w, W i w → WC n c (Exit.then (Again n L W μ i) Q) (L i) w) : WC n (.loop c) Q l w := by
  refine ⟨fun a ha => cw_loop (fun m a w => ∃ i, Fr n a (L i) ∧ W i w ∧ μ i = m) (μ i) ⟨i, ha.sub hs, hw, rfl⟩ ?_⟩; rintro m a w ⟨i, hf, hw, rfl⟩; refine cw_mono (fun e a w q => ?_) ((round i w hw).go a hf); cases e with
  | normal => obtain ⟨j, h1, h2, h3⟩ := q; exact ⟨μ j, h3, j, h1, h2, rfl⟩
  | exit id => exact q
  | goto l => exact q
  | ret => exact q
  | panic ch => exact q
  | outgrown => exact q

end
end K
end Go.Proofs.YtpfkcfaifleliaaGreat

namespace Go.Proofs.YtpfkcfaifleliaaGreat
open Go.RowKit
namespace K

inductive TyD where
  | int (k : IntKind) | str | bool | ptr (e : Nat) | slice (e s : Nat) | struct (n : Nat) (fs : List (Nat × Nat × Nat)) | arr (n e s : Nat) | map (k e : Nat)
def TyD.ok (P : Program) (t : Nat) : TyD → Prop
  | .int k => P.underlying t = some (.int k)
  | .str => P.underlying t = some .string
  | .bool => P.underlying t = some .bool
  | .ptr e => P.underlying t = some (.pointer e)
  | .slice e s => P.underlying t = some (.slice e) ∧ (P.info? e).map (·.size) = some s
  | .map k e => P.underlying t = some (.map k e)
  | .arr n e s => P.underlying t = some (.array n e) ∧ (P.info? e).map (·.size) = some s ∧ (P.info? t).map (·.size) = some (n * s)
  | .struct n fs => (∃ us, P.underlying t = some (.struct us)) ∧ (P.info? t).map (·.size) = some n ∧
      (match P.underlying t with | some (.struct us) => (us.toList.map fun f => (f.type, f.offset, ((P.info? f.type).map (·.size)).getD 0)) == fs | _ => false) = true
def TyOk (P : Program) : List (Nat × TyD) → Prop
  | [] => True
  | (t, d) :: r => d.ok P t ∧ TyOk P r
def tyOf : List (Nat × TyD) → Nat → Option TyD
  | [], _ => none
  | (t, d) :: r, k => bif Nat.beq t k then some d else tyOf r k
theorem TyOk.of {P : Program} : ∀ {T : List (Nat × TyD)} {t : Nat} {d : TyD}, TyOk P T → tyOf T t = some d → d.ok P t
  | [], _, _, _, h => by cases h
  | (j, u) :: r, t, d, h, hk => by
    unfold tyOf at hk; cases hb : Nat.beq j t with
    | true =>
      rw [hb] at hk; obtain rfl : j = t := Nat.eq_of_beq_eq_true hb; obtain rfl : u = d := Option.some.inj hk; exact h.1
    | false => rw [hb] at hk; exact TyOk.of h.2 hk

def cellsN : Option TyD → Option Nat
  | some (.struct m _) => some m
  | some (.arr n _ s) => some (n * s)
  | _ => none
theorem cellsN_ok {P : Program} {T : List (Nat × TyD)} (hT : TyOk P T) {t m : Nat} (h : cellsN (tyOf T t) = some m) :
    ∃ d, P.underlying t = some d ∧ (match d with | .struct _ | .array _ _ => true | _ => false) = true ∧ (P.info? t).map (·.size) = some m := by
  unfold cellsN at h
  split at h
  · rename_i m' fs he
    obtain rfl := Option.some.inj h; obtain ⟨⟨us, hu⟩, hsz, -⟩ := TyOk.of hT he; exact ⟨_, hu, rfl, hsz⟩
  · rename_i n e s he
    obtain rfl := Option.some.inj h; obtain ⟨hu, -, hsz⟩ := TyOk.of hT he; exact ⟨_, hu, rfl, hsz⟩
  · cases h

def quoI (k : IntKind) (a b : Int) : Option Value :=
  match b with
  | .ofNat (_ + 1) => some (.int k (k.wrap (a.tdiv b)))
  | _ => none
def remI (k : IntKind) (a b : Int) : Option Value :=
  match b with
  | .ofNat (_ + 1) => some (.int k (a.tmod b))
  | _ => none
def shlI (k : IntKind) (a : Int) : Int → Option Value
  | .ofNat m => some (.int k (k.wrap (a * ((2 ^ min m k.bits : Nat) : Int))))
  | _ => none
def shrI (k : IntKind) (a : Int) : Int → Option Value
  | .ofNat m => some (.int k (a / ((2 ^ min m k.bits : Nat) : Int)))
  | _ => none
def binI (k : IntKind) (a b : Int) : BinOp → Option Value
  | .add => some (.int k (k.wrap (a + b)))
  | .sub => some (.int k (k.wrap (a - b)))
  | .mul => some (.int k (k.wrap (a * b)))
  | .eql => some (.bool (decide (a = b)))
  | .neq => some (.bool (decide (a ≠ b)))
  | .lss => some (.bool (decide (a < b)))
  | .leq => some (.bool (decide (a ≤ b)))
  | .gtr => some (.bool (decide (b < a)))
  | .geq => some (.bool (decide (b ≤ a)))
  | .and => some (.int k (bits .and k a b))
  | .or => some (.int k (bits .or k a b))
  | .xor => some (.int k (bits .xor k a b))
  | .quo => quoI k a b
  | .rem => remI k a b
  | _ => none
def shI (k : IntKind) (a b : Int) : BinOp → Option Value
  | .shl => shlI k a b
  | .shr => shrI k a b
  | _ => none
def binS (a b : ByteArray) : BinOp → Option Value
  | .eql => some (.bool (a.toList == b.toList))
  | .neq => some (.bool (!(a.toList == b.toList)))
  | .lss => some (.bool (Op.bytesLess a.toList b.toList))
  | .leq => some (.bool (Op.bytesLess a.toList b.toList || a.toList == b.toList))
  | .gtr => some (.bool !(Op.bytesLess a.toList b.toList || a.toList == b.toList))
  | .geq => some (.bool !(Op.bytesLess a.toList b.toList))
  | _ => none
def isSh : BinOp → Bool
  | .shl | .shr => true
  | _ => false
def evlAll (l : Env) : List Operand → Option (List Value)
  | [] => some []
  | x :: r => match evl l x, evlAll l r with
    | some v, some vs => some (v :: vs)
    | _, _ => none
def pvPick (l : Env) (a b : Operand) : Option Value → Option Value
  | some (.bool true) => evl l a
  | some (.bool false) => evl l b
  | _ => none
def pvBool (a b : Bool) : Option TyD → BinOp → Option Value
  | some .bool, .eql => some (.bool (a == b))
  | some .bool, .neq => some (.bool (!(a == b)))
  | _, _ => none
def pvBin (op : BinOp) (ty : Option TyD) : Option Value → Option Value → Option Value
  | some (.int k a), some (.int k' b) => bif isSh op then shI k a b op else if k = k' then binI k a b op else none
  | some (.string a), some (.string b) => binS a b op
  | some (.bool a), some (.bool b) => pvBool a b ty op
  | _, _ => none
def pvUn : UnOp → Option Value → Option Value
  | .neg, some (.int k a) => some (.int k (k.wrap (0 - a)))
  | .not, some (.bool b) => some (.bool (!b))
  | .xor, some (.int k a) => some (.int k (bits .xor k (if k.signed then -1 else k.max) a))
  | _, _ => none
def pvConv : Option TyD → Option TyD → Option Value → Option Value
  | some (.int _), some (.int k), some (.int _ a) => some (.int k (k.wrap a))
  | some .str, some .str, some (.string s) => some (.string s)
  | _, _, _ => none
def pvExt (i : Nat) : Option Value → Option Value
  | some (.tuple vs) => vs[i]?
  | _ => none
def pvNil : Option Value → Option Value
  | some (.pointer (some p)) => some (.pointer (some p))
  | _ => none
def pvOff (b o : Nat) : Option (Nat × Nat × Nat) → Option Value
  | some (_, off, _ + 1) => some (.pointer (some ⟨b, o + off, none⟩))
  | _ => none
def pvField (i : Nat) : Option TyD → Option Value → Option Value
  | some (.struct _ fs), some (.pointer (some ⟨b, o, none⟩)) => pvOff b o fs[i]?
  | _, _ => none
def pvLen : Option TyD → Option Value → Option Value
  | some (.slice _ _), some (.slice _ n _) => some (.int .i64 n)
  | some .str, some (.string s) => some (.int .i64 s.size)
  | _, _ => none
def pvMin (less : Bool) : Option Value → Option Value → Option Value
  | some (.int k a), some (.int _ b) => some (.int k (bif less then (if b < a then b else a) else (if b > a then b else a)))
  | _, _ => none
def pvCall (T : List (Nat × TyD)) (l : Env) (c : Call) : Option Value :=
  match c.callee, c.args.toList, c.argTypes.toList with
  | .builtin .len, [x], [t] => pvLen (tyOf T t) (evl l x)
  | .builtin .min, [x, y], _ => pvMin true (evl l x) (evl l y)
  | .builtin .max, [x, y], _ => pvMin false (evl l x) (evl l y)
  | _, _, _ => none
def pv (T : List (Nat × TyD)) (l : Env) : Op → Option Value
  | .move x => evl l x
  | .assign x => evl l x
  | .pick c a b => pvPick l a b (evl l c)
  | .binOp op t x y _ => pvBin op (tyOf T t) (evl l x) (evl l y)
  | .unOp op _ x => pvUn op (evl l x)
  | .convert s d x => pvConv (tyOf T s) (tyOf T d) (evl l x)
  | .extract t i => pvExt i (evl l t)
  | .nilCheck x => pvNil (evl l x)
  | .fieldAddr t x i => pvField i (tyOf T t) (evl l x)
  | .call c => pvCall T l c
  | _ => none

theorem binI_run {P : Program} {k : IntKind} {a b : Int} {op : BinOp} {v : Value} (h : binI k a b op = some v) (t : TypeId) (w : World) : (binOp op t (.int k a) (.int k b)).run P w = .ok v w := by
  cases op
  case quo =>
    simp only [binI] at h; unfold quoI at h
    split at h
    · rename_i m
      obtain rfl := Option.some.inj h; simp only [binOp_quo, Op.intDiv]; rw [if_neg (by show ¬ ((m + 1 : Nat) : Int) = 0; omega)]
      rfl
    · cases h
  case rem =>
    simp only [binI] at h; unfold remI at h
    split at h
    · rename_i m
      obtain rfl := Option.some.inj h; simp only [binOp_rem, Op.intDiv]; rw [if_neg (by show ¬ ((m + 1 : Nat) : Int) = 0; omega)]
      rfl
    · cases h
  case eql => simp only [binI, Option.some.injEq] at h; subst h; rw [binOp_eql]; exact congrArg (fun b => Result.ok (Value.bool b) w) (by by_cases e : a = b <;> simp [e])
  case neq => simp only [binI, Option.some.injEq] at h; subst h; rw [binOp_neq]; exact congrArg (fun b => Result.ok (Value.bool b) w) (by by_cases e : a = b <;> simp [e])
  all_goals simp only [binI, Option.some.injEq, reduceCtorEq] at h
  all_goals (subst h; simp [go_sem])
theorem shI_run {P : Program} {k k' : IntKind} {a b : Int} {op : BinOp} {v : Value} (h : shI k a b op = some v) (t : TypeId) (w : World) : (binOp op t (.int k a) (.int k' b)).run P w = .ok v w := by
  cases op
  case shl =>
    simp only [shI] at h; unfold shlI at h
    split at h
    · rename_i m
      obtain rfl := Option.some.inj h; have h0 : (0 : Int) ≤ Int.ofNat m := Int.natCast_nonneg m; simp only [binOp_shl, shift_shl_any _ _ _ _ h0]; simp
    · cases h
  case shr =>
    simp only [shI] at h; unfold shrI at h
    split at h
    · rename_i m
      obtain rfl := Option.some.inj h; have h0 : (0 : Int) ≤ Int.ofNat m := Int.natCast_nonneg m; simp only [binOp_shr, shift_shr_any _ _ _ _ h0]; simp
    · cases h
  all_goals cases h
theorem binS_run {P : Program} {a b : ByteArray} {op : BinOp} {v : Value} (h : binS a b op = some v) (t : TypeId) (w : World) : (binOp op t (.string a) (.string b)).run P w = .ok v w := by
  cases op <;> simp only [binS, Option.some.injEq, reduceCtorEq] at h
  all_goals (subst h; simp [go_sem])

theorem field_run {P : Program} {t n b o i off s ft : Nat} {fs : List (Nat × Nat × Nat)} (h : (TyD.struct n fs).ok P t) (hi : fs[i]? = some (ft, off, s + 1)) (w : World) :
    (Instr.fieldAt t (.pointer (some ⟨b, o, none⟩)) i).run P w = .ok (.pointer (some ⟨b, o + off, none⟩)) w := by
  obtain ⟨⟨us, hu⟩, -, hf⟩ := h; rw [hu] at hf; simp only [beq_iff_eq] at hf; rw [← hf, List.getElem?_map] at hi; cases hx : us.toList[i]? with
  | none => rw [hx] at hi; cases hi
  | some f =>
    rw [hx] at hi; simp only [Option.map_some, Option.some.injEq, Prod.mk.injEq] at hi; obtain ⟨-, rfl, hs⟩ := hi; have hx' : us[i]? = some f := by simpa using hx
    have hsz : (sizeOf f.type).run P w = .ok (s + 1) w := by
      cases hq : P.info? f.type with
      | none => rw [hq] at hs; simp at hs
      | some q => rw [hq] at hs; simp at hs; simp [sizeOf, typeInfo, hq, hs]
    simp [Instr.fieldAt, run_underlying hu, hx', Instr.sureAddr, fieldPlace, hsz, Addr.add_mid]

theorem pv_run {P : Program} {T : List (Nat × TyD)} (hT : TyOk P T) {n : NN} {a : Act} {l : Env} (ha : Fr n a l) {o : Oper} {v : Value} (h : pv T l o.op = some v) (w : World) :
    (execOp a.eval o).run P w = .ok (.value v) w := by
  unfold execOp
  revert h
  cases o.op with
  | move x => intro h; simp [ha.eval h]
  | assign x => intro h; simp [ha.eval h]
  | pick c x y =>
    intro h; simp only [pv] at h; generalize hc : evl l c = cv at h; unfold pvPick at h
    split at h
    · simp [ha.eval hc, ha.eval h, asBool]
    · simp [ha.eval hc, ha.eval h, asBool]
    · cases h
  | binOp op t x y t2 =>
    intro h; simp only [pv] at h; generalize hx : evl l x = xv at h; generalize hy : evl l y = yv at h; unfold pvBin at h
    split at h
    · rename_i k p k' q
      cases hs : isSh op with
      | true =>
        rw [hs] at h; simp only [cond_true] at h; have := shI_run (P := P) (k' := k') h t w; simp [ha.eval hx, ha.eval hy, eqGuard_at_int, this]
      | false =>
        rw [hs] at h; simp only [cond_false] at h
        split at h
        · rename_i e; subst e
          have := binI_run (P := P) h t w; simp [ha.eval hx, ha.eval hy, eqGuard_at_int, this]
        · cases h
    · have := binS_run (P := P) h t w
      simp [ha.eval hx, ha.eval hy, eqGuard_at_string, this]
    · rename_i p q
      generalize ht : tyOf T t = tv at h; unfold pvBool at h
      split at h
      · obtain rfl := Option.some.inj h
        simp [ha.eval hx, ha.eval hy, eqGuard_at_bool, run_eql_bool w t p q (hT.of ht)]
      · obtain rfl := Option.some.inj h
        simp [ha.eval hx, ha.eval hy, eqGuard_at_bool, run_neq_bool w t p q (hT.of ht)]
      · cases h
    · cases h
  | unOp op t x =>
    intro h; simp only [pv] at h; generalize hx : evl l x = xv at h; unfold pvUn at h
    split at h <;> first | (cases h; done) | (obtain rfl := Option.some.inj h; have e := ha.eval hx; simp only [e]; simp [go_sem])
  | convert s d x =>
    intro h; simp only [pv] at h; generalize h1 : tyOf T s = sv at h; generalize h2 : tyOf T d = dv at h; generalize h3 : evl l x = xv at h; unfold pvConv at h
    split at h
    · rename_i k1 k2 k3 m
      obtain rfl := Option.some.inj h; have e1 : P.underlying s = some (.int k1) := hT.of h1; have e2 : P.underlying d = some (.int k2) := hT.of h2; simp [ha.eval h3, convert, run_underlying e1, run_underlying e2, Conv.intToInt]
    · obtain rfl := Option.some.inj h
      have e1 : P.underlying s = some .string := hT.of h1; have e2 : P.underlying d = some .string := hT.of h2; simp [ha.eval h3, convert, run_underlying e1, run_underlying e2]
    · cases h
  | extract t i =>
    intro h; simp only [pv] at h; generalize hx : evl l t = xv at h; unfold pvExt at h
    split at h
    · simp [ha.eval hx, Instr.extract, h]
    · cases h
  | nilCheck x =>
    intro h; simp only [pv] at h; generalize hx : evl l x = xv at h; unfold pvNil at h
    split at h
    · obtain rfl := Option.some.inj h
      simp [ha.eval hx]
    · cases h
  | fieldAddr t x i =>
    intro h; simp only [pv] at h; generalize ht : tyOf T t = tv at h; generalize hx : evl l x = xv at h; unfold pvField at h
    split at h
    · rename_i m fs b off0
      generalize hi : fs[i]? = fv at h; unfold pvOff at h
      split at h
      · obtain rfl := Option.some.inj h
        have := field_run (b := b) (o := off0) (hT.of ht) hi w; simp [ha.eval hx, this]
      · cases h
    · cases h
  | call c =>
    intro h; simp only [pv] at h; obtain ⟨callee, ⟨args⟩, ⟨argTypes⟩⟩ := c; unfold pvCall at h; simp only at h
    split at h
    · rename_i x t
      generalize ht : tyOf T t = tv at h; generalize hx : evl l x = xv at h; unfold pvLen at h
      split at h
      · rename_i e s b m c
        obtain rfl := Option.some.inj h; have e1 : P.underlying t = some (.slice e) := (hT.of ht).1; simp [resolve, invoke, builtin, ha.eval hx, Builtin.len_, run_underlying e1, goInt]
      · obtain rfl := Option.some.inj h
        have e1 : P.underlying t = some .string := hT.of ht; simp [resolve, invoke, builtin, ha.eval hx, Builtin.len_, run_underlying e1, goInt]
      · cases h
    · rename_i x y
      generalize hx : evl l x = xv at h; generalize hy : evl l y = yv at h; unfold pvMin at h
      split at h
      · obtain rfl := Option.some.inj h
        simp [resolve, invoke, builtin, ha.eval hx, ha.eval hy, run_min_int2]
      · cases h
    · rename_i x y
      generalize hx : evl l x = xv at h; generalize hy : evl l y = yv at h; unfold pvMin at h
      split at h
      · obtain rfl := Option.some.inj h
        simp [resolve, invoke, builtin, ha.eval hx, ha.eval hy, run_max_int2]
      · cases h
    · cases h
  | _ => intro h; cases h
end K
end Go.Proofs.YtpfkcfaifleliaaGreat

namespace Go.Proofs.YtpfkcfaifleliaaGreat
namespace K

def ty : List (Nat × TyD) := [(2, .int .i64), (3, .int .i64), (4, .bool), (5, .int .u8), (6, .int .u8), (7, .struct 4 [(2, 0, 1), (3, 1, 1), (4, 2, 1), (6, 3, 1)]), (8, .struct 4 [(2, 0, 1), (3, 1, 1), (4, 2, 1), (6, 3, 1)]), (9, .str), (10, .str), (11, .str), (12, .int .u64), (13, .struct 2 [(9, 0, 1), (12, 1, 1)]), (14, .struct 2 [(9, 0, 1), (12, 1, 1)]), (15, .ptr 323), (16, .ptr 326), (17, .ptr 334), (18, .struct 1 [(17, 0, 1)]), (19, .struct 1 [(17, 0, 1)]), (21, .int .i32), (22, .slice 39 1), (23, .slice 49 7), (27, .ptr 35), (30, .ptr 100), (31, .ptr 105), (32, .ptr 139), (33, .slice 57 3), (34, .struct 4 [(30, 0, 1), (31, 1, 1), (32, 2, 1), (33, 3, 1)]), (35, .struct 4 [(30, 0, 1), (31, 1, 1), (32, 2, 1), (33, 3, 1)]), (36, .int .i64), (39, .slice 67 2), (42, .slice 102 2), (44, .slice 61 5), (45, .slice 3 1), (46, .slice 82 6), (47, .slice 5 1), (48, .struct 7 [(3, 0, 1), (3, 1, 1), (3, 2, 1), (39, 3, 1), (45, 4, 1), (46, 5, 1), (47, 6, 1)]), (49, .struct 7 [(3, 0, 1), (3, 1, 1), (3, 2, 1), (39, 3, 1), (45, 4, 1), (46, 5, 1), (47, 6, 1)]), (52, .struct 5 [(3, 0, 1), (36, 1, 1), (45, 2, 1), (46, 3, 1), (47, 4, 1)]), (53, .struct 5 [(3, 0, 1), (36, 1, 1), (45, 2, 1), (46, 3, 1), (47, 4, 1)]), (56, .struct 3 [(3, 0, 1), (3, 1, 1), (47, 2, 1)]), (57, .struct 3 [(3, 0, 1), (3, 1, 1), (47, 2, 1)]), (59, .slice 46 1), (60, .struct 5 [(3, 0, 1), (36, 1, 1), (59, 2, 1), (3, 3, 1), (3, 4, 1)]), (61, .struct 5 [(3, 0, 1), (36, 1, 1), (59, 2, 1), (3, 3, 1), (3, 4, 1)]), (66, .struct 2 [(9, 0, 1), (46, 1, 1)]), (67, .struct 2 [(9, 0, 1), (46, 1, 1)]), (68, .arr 32 5 1), (69, .arr 32 5 1), (70, .struct 37 [(3, 0, 1), (3, 1, 1), (45, 2, 1), (9, 3, 1), (46, 4, 1), (69, 5, 32)]), (71, .struct 37 [(3, 0, 1), (3, 1, 1), (45, 2, 1), (9, 3, 1), (46, 4, 1), (69, 5, 32)]), (75, .struct 33 [(3, 0, 1), (69, 1, 32)]), (76, .struct 33 [(3, 0, 1), (69, 1, 32)]), (80, .slice 9 1), (81, .struct 6 [(3, 0, 1), (3, 1, 1), (3, 2, 1), (9, 3, 1), (80, 4, 1), (46, 5, 1)]), (82, .struct 6 [(3, 0, 1), (3, 1, 1), (3, 2, 1), (9, 3, 1), (80, 4, 1), (46, 5, 1)]), (83, .ptr 3), (86, .ptr 132), (91, .struct 2 [(3, 0, 1), (3, 1, 1)]), (92, .struct 2 [(3, 0, 1), (3, 1, 1)]), (95, .struct 37 [(3, 0, 1), (3, 1, 1), (45, 2, 1), (9, 3, 1), (46, 4, 1), (69, 5, 32)]), (97, .int .u64), (98, .ptr 116), (99, .struct 45 [(3, 0, 1), (3, 1, 1), (97, 2, 1), (3, 3, 1), (4, 4, 1), (22, 5, 1), (3, 6, 1), (98, 7, 1), (47, 8, 1), (3, 9, 1), (3, 10, 1), (76, 11, 33), (44, 44, 1)]), (100, .struct 45 [(3, 0, 1), (3, 1, 1), (97, 2, 1), (3, 3, 1), (4, 4, 1), (22, 5, 1), (3, 6, 1), (98, 7, 1), (47, 8, 1), (3, 9, 1), (3, 10, 1), (76, 11, 33), (44, 44, 1)]), (102, .struct 2 [(9, 0, 1), (46, 1, 1)]), (103, .slice 42 1), (104, .struct 114 [(3, 0, 1), (3, 1, 1), (103, 2, 1), (3, 3, 1), (3, 4, 1), (3, 5, 1), (3, 6, 1), (4, 7, 1), (3, 8, 1), (69, 9, 32), (59, 41, 1), (3, 42, 1), (3, 43, 1), (3, 44, 1), (47, 45, 1), (3, 46, 1), (3, 47, 1), (76, 48, 33), (76, 81, 33)]), (105, .struct 114 [(3, 0, 1), (3, 1, 1), (103, 2, 1), (3, 3, 1), (3, 4, 1), (3, 5, 1), (3, 6, 1), (4, 7, 1), (3, 8, 1), (69, 9, 32), (59, 41, 1), (3, 42, 1), (3, 43, 1), (3, 44, 1), (47, 45, 1), (3, 46, 1), (3, 47, 1), (76, 48, 33), (76, 81, 33)]), (111, .struct 5 [(3, 0, 1), (36, 1, 1), (45, 2, 1), (46, 3, 1), (47, 4, 1)]), (115, .struct 74 [(3, 0, 1), (39, 1, 1), (3, 2, 1), (3, 3, 1), (69, 4, 32), (59, 36, 1), (4, 37, 1), (3, 38, 1), (76, 39, 33), (36, 72, 1), (114, 73, 1)]), (116, .struct 74 [(3, 0, 1), (39, 1, 1), (3, 2, 1), (3, 3, 1), (69, 4, 32), (59, 36, 1), (4, 37, 1), (3, 38, 1), (76, 39, 33), (36, 72, 1), (114, 73, 1)]), (120, .ptr 129), (128, .struct 2 [(47, 0, 1), (4, 1, 1)]), (129, .struct 2 [(47, 0, 1), (4, 1, 1)]), (130, .slice 232 3), (131, .struct 3 [(3, 0, 1), (130, 1, 1), (3, 2, 1)]), (132, .struct 3 [(3, 0, 1), (130, 1, 1), (3, 2, 1)]), (133, .ptr 173), (136, .map 3 3), (137, .slice 339 3), (138, .struct 4 [(133, 0, 1), (33, 1, 1), (137, 2, 1), (136, 3, 1)]), (139, .struct 4 [(133, 0, 1), (33, 1, 1), (137, 2, 1), (136, 3, 1)]), (148, .int .u32), (150, .ptr 155), (154, .struct 2 [(47, 0, 1), (4, 1, 1)]), (155, .struct 2 [(47, 0, 1), (4, 1, 1)]), (165, .ptr 177), (168, .ptr 220), (170, .slice 168 1), (171, .slice 340 1), (172, .struct 9 [(165, 0, 1), (168, 1, 1), (170, 2, 1), (92, 3, 2), (171, 5, 1), (3, 6, 1), (3, 7, 1), (3, 8, 1)]), (173, .struct 9 [(165, 0, 1), (168, 1, 1), (170, 2, 1), (92, 3, 2), (171, 5, 1), (3, 6, 1), (3, 7, 1), (3, 8, 1)]), (174, .slice 181 36), (175, .slice 69 32), (176, .struct 4 [(86, 0, 1), (174, 1, 1), (175, 2, 1), (4, 3, 1)]), (177, .struct 4 [(86, 0, 1), (174, 1, 1), (175, 2, 1), (4, 3, 1)]), (179, .slice 251 46), (180, .struct 36 [(3, 0, 1), (3, 1, 1), (3, 2, 1), (69, 3, 32), (179, 35, 1)]), (181, .struct 36 [(3, 0, 1), (3, 1, 1), (3, 2, 1), (69, 3, 32), (179, 35, 1)]), (186, .int .u64), (202, .ptr 204), (203, .struct 2 [(47, 0, 1), (3, 1, 1)]), (204, .struct 2 [(47, 0, 1), (3, 1, 1)]), (207, .slice 47 1), (213, .ptr 216), (214, .slice 260 4), (215, .struct 1 [(214, 0, 1)]), (216, .struct 1 [(214, 0, 1)]), (217, .map 224 3), (218, .slice 222 14), (219, .struct 4 [(213, 0, 1), (218, 1, 1), (3, 2, 1), (217, 3, 1)]), (220, .struct 4 [(213, 0, 1), (218, 1, 1), (3, 2, 1), (217, 3, 1)]), (221, .struct 14 [(3, 0, 1), (3, 1, 1), (3, 2, 1), (82, 3, 6), (4, 9, 1), (4, 10, 1), (3, 11, 1), (3, 12, 1), (3, 13, 1)]), (222, .struct 14 [(3, 0, 1), (3, 1, 1), (3, 2, 1), (82, 3, 6), (4, 9, 1), (4, 10, 1), (3, 11, 1), (3, 12, 1), (3, 13, 1)]), (223, .struct 2 [(3, 0, 1), (3, 1, 1)]), (224, .struct 2 [(3, 0, 1), (3, 1, 1)]), (231, .struct 3 [(9, 0, 1), (47, 1, 1), (3, 2, 1)]), (232, .struct 3 [(9, 0, 1), (47, 1, 1), (3, 2, 1)]), (236, .arr 16 148 1), (250, .struct 46 [(3, 0, 1), (9, 1, 1), (3, 2, 1), (3, 3, 1), (3, 4, 1), (82, 5, 6), (69, 11, 32), (4, 43, 1), (224, 44, 2)]), (251, .struct 46 [(3, 0, 1), (9, 1, 1), (3, 2, 1), (3, 3, 1), (3, 4, 1), (82, 5, 6), (69, 11, 32), (4, 43, 1), (224, 44, 2)]), (256, .map 3 181), (259, .struct 4 [(3, 0, 1), (9, 1, 1), (4, 2, 1), (80, 3, 1)]), (260, .struct 4 [(3, 0, 1), (9, 1, 1), (4, 2, 1), (80, 3, 1)]), (267, .ptr 222), (270, .ptr 272), (271, .struct 2 [(47, 0, 1), (36, 1, 1)]), (272, .struct 2 [(47, 0, 1), (36, 1, 1)]), (273, .arr 8 148 1), (274, .arr 8 148 1), (275, .arr 64 148 1), (278, .ptr 275), (279, .arr 128 5 1), (282, .ptr 284), (283, .struct 2 [(47, 0, 1), (3, 1, 1)]), (284, .struct 2 [(47, 0, 1), (3, 1, 1)]), (291, .map 3 47), (292, .ptr 251), (301, .ptr 260), (304, .ptr 274), (310, .struct 1 [(175, 0, 1)]), (311, .struct 1 [(175, 0, 1)]), (316, .ptr 318), (317, .struct 2 [(175, 0, 1), (4, 1, 1)]), (318, .struct 2 [(175, 0, 1), (4, 1, 1)]), (322, .struct 4 [(17, 0, 1), (17, 1, 1), (17, 2, 1), (9, 3, 1)]), (323, .struct 4 [(17, 0, 1), (17, 1, 1), (17, 2, 1), (9, 3, 1)]), (325, .struct 0 [(324, 0, 0)]), (326, .struct 0 [(324, 0, 0)]), (327, .int .u8), (328, .int .u8), (330, .ptr 5), (331, .int .i32), (332, .int .i32), (333, .struct 11 [(12, 0, 1), (12, 1, 1), (148, 2, 1), (327, 3, 1), (5, 4, 1), (5, 5, 1), (328, 6, 1), (329, 7, 1), (330, 8, 1), (331, 9, 1), (332, 10, 1)]), (334, .struct 11 [(12, 0, 1), (12, 1, 1), (148, 2, 1), (327, 3, 1), (5, 4, 1), (5, 5, 1), (328, 6, 1), (329, 7, 1), (330, 8, 1), (331, 9, 1), (332, 10, 1)]), (338, .struct 3 [(3, 0, 1), (3, 1, 1), (47, 2, 1)]), (339, .struct 3 [(3, 0, 1), (3, 1, 1), (47, 2, 1)]), (340, .ptr 344), (342, .ptr 348), (343, .struct 39 [(3, 0, 1), (3, 1, 1), (3, 2, 1), (342, 3, 1), (3, 4, 1), (3, 5, 1), (80, 6, 1), (69, 7, 32)]), (344, .struct 39 [(3, 0, 1), (3, 1, 1), (3, 2, 1), (342, 3, 1), (3, 4, 1), (3, 5, 1), (80, 6, 1), (69, 7, 32)]), (346, .slice 350 5), (347, .struct 5 [(168, 0, 1), (3, 1, 1), (179, 2, 1), (346, 3, 1), (4, 4, 1)]), (348, .struct 5 [(168, 0, 1), (3, 1, 1), (179, 2, 1), (346, 3, 1), (4, 4, 1)]), (349, .struct 5 [(3, 0, 1), (3, 1, 1), (3, 2, 1), (9, 3, 1), (9, 4, 1)]), (350, .struct 5 [(3, 0, 1), (3, 1, 1), (3, 2, 1), (9, 3, 1), (9, 4, 1)])]
theorem tyOk2 : (.int .i64 : TyD).ok Tryz.prog 2 := Tryz.underlying2
theorem tyOk3 : (.int .i64 : TyD).ok Tryz.prog 3 := Tryz.underlying3
theorem tyOk4 : (.bool : TyD).ok Tryz.prog 4 := Tryz.underlying4
theorem tyOk5 : (.int .u8 : TyD).ok Tryz.prog 5 := Tryz.underlying5
theorem tyOk6 : (.int .u8 : TyD).ok Tryz.prog 6 := Tryz.underlying6
theorem tyOk7 : (.struct 4 [(2, 0, 1), (3, 1, 1), (4, 2, 1), (6, 3, 1)] : TyD).ok Tryz.prog 7 := ⟨⟨_, Tryz.underlying7⟩, by kernel_rfl, by kernel_rfl⟩
theorem tyOk8 : (.struct 4 [(2, 0, 1), (3, 1, 1), (4, 2, 1), (6, 3, 1)] : TyD).ok Tryz.prog 8 := ⟨⟨_, Tryz.underlying8⟩, by kernel_rfl, by kernel_rfl⟩
theorem tyOk9 : (.str : TyD).ok Tryz.prog 9 := Tryz.underlying9
theorem tyOk10 : (.str : TyD).ok Tryz.prog 10 := Tryz.underlying10
theorem tyOk11 : (.str : TyD).ok Tryz.prog 11 := Tryz.underlying11
theorem tyOk12 : (.int .u64 : TyD).ok Tryz.prog 12 := Tryz.underlying12
theorem tyOk13 : (.struct 2 [(9, 0, 1), (12, 1, 1)] : TyD).ok Tryz.prog 13 := ⟨⟨_, Tryz.underlying13⟩, by kernel_rfl, by kernel_rfl⟩
theorem tyOk14 : (.struct 2 [(9, 0, 1), (12, 1, 1)] : TyD).ok Tryz.prog 14 := ⟨⟨_, Tryz.underlying14⟩, by kernel_rfl, by kernel_rfl⟩
theorem tyOk15 : (.ptr 323 : TyD).ok Tryz.prog 15 := Tryz.underlying15
theorem tyOk16 : (.ptr 326 : TyD).ok Tryz.prog 16 := Tryz.underlying16
theorem tyOk17 : (.ptr 334 : TyD).ok Tryz.prog 17 := Tryz.underlying17
theorem tyOk18 : (.struct 1 [(17, 0, 1)] : TyD).ok Tryz.prog 18 := ⟨⟨_, Tryz.underlying18⟩, by kernel_rfl, by kernel_rfl⟩
theorem tyOk19 : (.struct 1 [(17, 0, 1)] : TyD).ok Tryz.prog 19 := ⟨⟨_, Tryz.underlying19⟩, by kernel_rfl, by kernel_rfl⟩
theorem tyOk21 : (.int .i32 : TyD).ok Tryz.prog 21 := Tryz.underlying21
theorem tyOk22 : (.slice 39 1 : TyD).ok Tryz.prog 22 := ⟨Tryz.underlying22, by kernel_rfl⟩
theorem tyOk23 : (.slice 49 7 : TyD).ok Tryz.prog 23 := ⟨Tryz.underlying23, by kernel_rfl⟩
theorem tyOk27 : (.ptr 35 : TyD).ok Tryz.prog 27 := Tryz.underlying27
theorem tyOk30 : (.ptr 100 : TyD).ok Tryz.prog 30 := Tryz.underlying30
theorem tyOk31 : (.ptr 105 : TyD).ok Tryz.prog 31 := Tryz.underlying31
theorem tyOk32 : (.ptr 139 : TyD).ok Tryz.prog 32 := Tryz.underlying32
theorem tyOk33 : (.slice 57 3 : TyD).ok Tryz.prog 33 := ⟨Tryz.underlying33, by kernel_rfl⟩
theorem tyOk34 : (.struct 4 [(30, 0, 1), (31, 1, 1), (32, 2, 1), (33, 3, 1)] : TyD).ok Tryz.prog 34 := ⟨⟨_, Tryz.underlying34⟩, by kernel_rfl, by kernel_rfl⟩
theorem tyOk35 : (.struct 4 [(30, 0, 1), (31, 1, 1), (32, 2, 1), (33, 3, 1)] : TyD).ok Tryz.prog 35 := ⟨⟨_, Tryz.underlying35⟩, by kernel_rfl, by kernel_rfl⟩
theorem tyOk36 : (.int .i64 : TyD).ok Tryz.prog 36 := Tryz.underlying36
theorem tyOk39 : (.slice 67 2 : TyD).ok Tryz.prog 39 := ⟨Tryz.underlying39, by kernel_rfl⟩
theorem tyOk42 : (.slice 102 2 : TyD).ok Tryz.prog 42 := ⟨Tryz.underlying42, by kernel_rfl⟩
theorem tyOk44 : (.slice 61 5 : TyD).ok Tryz.prog 44 := ⟨Tryz.underlying44, by kernel_rfl⟩
theorem tyOk45 : (.slice 3 1 : TyD).ok Tryz.prog 45 := ⟨Tryz.underlying45, by kernel_rfl⟩
theorem tyOk46 : (.slice 82 6 : TyD).ok Tryz.prog 46 := ⟨Tryz.underlying46, by kernel_rfl⟩
theorem tyOk47 : (.slice 5 1 : TyD).ok Tryz.prog 47 := ⟨Tryz.underlying47, by kernel_rfl⟩
theorem tyOk48 : (.struct 7 [(3, 0, 1), (3, 1, 1), (3, 2, 1), (39, 3, 1), (45, 4, 1), (46, 5, 1), (47, 6, 1)] : TyD).ok Tryz.prog 48 := ⟨⟨_, Tryz.underlying48⟩, by kernel_rfl, by kernel_rfl⟩
theorem tyOk49 : (.struct 7 [(3, 0, 1), (3, 1, 1), (3, 2, 1), (39, 3, 1), (45, 4, 1), (46, 5, 1), (47, 6, 1)] : TyD).ok Tryz.prog 49 := ⟨⟨_, Tryz.underlying49⟩, by kernel_rfl, by kernel_rfl⟩
theorem tyOk52 : (.struct 5 [(3, 0, 1), (36, 1, 1), (45, 2, 1), (46, 3, 1), (47, 4, 1)] : TyD).ok Tryz.prog 52 := ⟨⟨_, Tryz.underlying52⟩, by kernel_rfl, by kernel_rfl⟩
theorem tyOk53 : (.struct 5 [(3, 0, 1), (36, 1, 1), (45, 2, 1), (46, 3, 1), (47, 4, 1)] : TyD).ok Tryz.prog 53 := ⟨⟨_, Tryz.underlying53⟩, by kernel_rfl, by kernel_rfl⟩
theorem tyOk56 : (.struct 3 [(3, 0, 1), (3, 1, 1), (47, 2, 1)] : TyD).ok Tryz.prog 56 := ⟨⟨_, Tryz.underlying56⟩, by kernel_rfl, by kernel_rfl⟩
theorem tyOk57 : (.struct 3 [(3, 0, 1), (3, 1, 1), (47, 2, 1)] : TyD).ok Tryz.prog 57 := ⟨⟨_, Tryz.underlying57⟩, by kernel_rfl, by kernel_rfl⟩
theorem tyOk59 : (.slice 46 1 : TyD).ok Tryz.prog 59 := ⟨Tryz.underlying59, by kernel_rfl⟩
theorem tyOk60 : (.struct 5 [(3, 0, 1), (36, 1, 1), (59, 2, 1), (3, 3, 1), (3, 4, 1)] : TyD).ok Tryz.prog 60 := ⟨⟨_, Tryz.underlying60⟩, by kernel_rfl, by kernel_rfl⟩
theorem tyOk61 : (.struct 5 [(3, 0, 1), (36, 1, 1), (59, 2, 1), (3, 3, 1), (3, 4, 1)] : TyD).ok Tryz.prog 61 := ⟨⟨_, Tryz.underlying61⟩, by kernel_rfl, by kernel_rfl⟩
theorem tyOk66 : (.struct 2 [(9, 0, 1), (46, 1, 1)] : TyD).ok Tryz.prog 66 := ⟨⟨_, Tryz.underlying66⟩, by kernel_rfl, by kernel_rfl⟩
theorem tyOk67 : (.struct 2 [(9, 0, 1), (46, 1, 1)] : TyD).ok Tryz.prog 67 := ⟨⟨_, Tryz.underlying67⟩, by kernel_rfl, by kernel_rfl⟩
theorem tyOk68 : (.arr 32 5 1 : TyD).ok Tryz.prog 68 := ⟨Tryz.underlying68, by kernel_rfl, by kernel_rfl⟩
theorem tyOk69 : (.arr 32 5 1 : TyD).ok Tryz.prog 69 := ⟨Tryz.underlying69, by kernel_rfl, by kernel_rfl⟩
theorem tyOk70 : (.struct 37 [(3, 0, 1), (3, 1, 1), (45, 2, 1), (9, 3, 1), (46, 4, 1), (69, 5, 32)] : TyD).ok Tryz.prog 70 := ⟨⟨_, Tryz.underlying70⟩, by kernel_rfl, by kernel_rfl⟩
theorem tyOk71 : (.struct 37 [(3, 0, 1), (3, 1, 1), (45, 2, 1), (9, 3, 1), (46, 4, 1), (69, 5, 32)] : TyD).ok Tryz.prog 71 := ⟨⟨_, Tryz.underlying71⟩, by kernel_rfl, by kernel_rfl⟩
theorem tyOk75 : (.struct 33 [(3, 0, 1), (69, 1, 32)] : TyD).ok Tryz.prog 75 := ⟨⟨_, Tryz.underlying75⟩, by kernel_rfl, by kernel_rfl⟩
theorem tyOk76 : (.struct 33 [(3, 0, 1), (69, 1, 32)] : TyD).ok Tryz.prog 76 := ⟨⟨_, Tryz.underlying76⟩, by kernel_rfl, by kernel_rfl⟩
theorem tyOk80 : (.slice 9 1 : TyD).ok Tryz.prog 80 := ⟨Tryz.underlying80, by kernel_rfl⟩
theorem tyOk81 : (.struct 6 [(3, 0, 1), (3, 1, 1), (3, 2, 1), (9, 3, 1), (80, 4, 1), (46, 5, 1)] : TyD).ok Tryz.prog 81 := ⟨⟨_, Tryz.underlying81⟩, by kernel_rfl, by kernel_rfl⟩
theorem tyOk82 : (.struct 6 [(3, 0, 1), (3, 1, 1), (3, 2, 1), (9, 3, 1), (80, 4, 1), (46, 5, 1)] : TyD).ok Tryz.prog 82 := ⟨⟨_, Tryz.underlying82⟩, by kernel_rfl, by kernel_rfl⟩
theorem tyOk83 : (.ptr 3 : TyD).ok Tryz.prog 83 := Tryz.underlying83
theorem tyOk86 : (.ptr 132 : TyD).ok Tryz.prog 86 := Tryz.underlying86
theorem tyOk91 : (.struct 2 [(3, 0, 1), (3, 1, 1)] : TyD).ok Tryz.prog 91 := ⟨⟨_, Tryz.underlying91⟩, by kernel_rfl, by kernel_rfl⟩
theorem tyOk92 : (.struct 2 [(3, 0, 1), (3, 1, 1)] : TyD).ok Tryz.prog 92 := ⟨⟨_, Tryz.underlying92⟩, by kernel_rfl, by kernel_rfl⟩
theorem tyOk95 : (.struct 37 [(3, 0, 1), (3, 1, 1), (45, 2, 1), (9, 3, 1), (46, 4, 1), (69, 5, 32)] : TyD).ok Tryz.prog 95 := ⟨⟨_, Tryz.underlying95⟩, by kernel_rfl, by kernel_rfl⟩
theorem tyOk97 : (.int .u64 : TyD).ok Tryz.prog 97 := Tryz.underlying97
theorem tyOk98 : (.ptr 116 : TyD).ok Tryz.prog 98 := Tryz.underlying98
theorem tyOk99 : (.struct 45 [(3, 0, 1), (3, 1, 1), (97, 2, 1), (3, 3, 1), (4, 4, 1), (22, 5, 1), (3, 6, 1), (98, 7, 1), (47, 8, 1), (3, 9, 1), (3, 10, 1), (76, 11, 33), (44, 44, 1)] : TyD).ok Tryz.prog 99 := ⟨⟨_, Tryz.underlying99⟩, by kernel_rfl, by kernel_rfl⟩
theorem tyOk100 : (.struct 45 [(3, 0, 1), (3, 1, 1), (97, 2, 1), (3, 3, 1), (4, 4, 1), (22, 5, 1), (3, 6, 1), (98, 7, 1), (47, 8, 1), (3, 9, 1), (3, 10, 1), (76, 11, 33), (44, 44, 1)] : TyD).ok Tryz.prog 100 := ⟨⟨_, Tryz.underlying100⟩, by kernel_rfl, by kernel_rfl⟩
theorem tyOk102 : (.struct 2 [(9, 0, 1), (46, 1, 1)] : TyD).ok Tryz.prog 102 := ⟨⟨_, Tryz.underlying102⟩, by kernel_rfl, by kernel_rfl⟩
theorem tyOk103 : (.slice 42 1 : TyD).ok Tryz.prog 103 := ⟨Tryz.underlying103, by kernel_rfl⟩
theorem tyOk104 : (.struct 114 [(3, 0, 1), (3, 1, 1), (103, 2, 1), (3, 3, 1), (3, 4, 1), (3, 5, 1), (3, 6, 1), (4, 7, 1), (3, 8, 1), (69, 9, 32), (59, 41, 1), (3, 42, 1), (3, 43, 1), (3, 44, 1), (47, 45, 1), (3, 46, 1), (3, 47, 1), (76, 48, 33), (76, 81, 33)] : TyD).ok Tryz.prog 104 := ⟨⟨_, Tryz.underlying104⟩, by kernel_rfl, by kernel_rfl⟩
theorem tyOk105 : (.struct 114 [(3, 0, 1), (3, 1, 1), (103, 2, 1), (3, 3, 1), (3, 4, 1), (3, 5, 1), (3, 6, 1), (4, 7, 1), (3, 8, 1), (69, 9, 32), (59, 41, 1), (3, 42, 1), (3, 43, 1), (3, 44, 1), (47, 45, 1), (3, 46, 1), (3, 47, 1), (76, 48, 33), (76, 81, 33)] : TyD).ok Tryz.prog 105 := ⟨⟨_, Tryz.underlying105⟩, by kernel_rfl, by kernel_rfl⟩
theorem tyOk111 : (.struct 5 [(3, 0, 1), (36, 1, 1), (45, 2, 1), (46, 3, 1), (47, 4, 1)] : TyD).ok Tryz.prog 111 := ⟨⟨_, Tryz.underlying111⟩, by kernel_rfl, by kernel_rfl⟩
theorem tyOk115 : (.struct 74 [(3, 0, 1), (39, 1, 1), (3, 2, 1), (3, 3, 1), (69, 4, 32), (59, 36, 1), (4, 37, 1), (3, 38, 1), (76, 39, 33), (36, 72, 1), (114, 73, 1)] : TyD).ok Tryz.prog 115 := ⟨⟨_, Tryz.underlying115⟩, by kernel_rfl, by kernel_rfl⟩
theorem tyOk116 : (.struct 74 [(3, 0, 1), (39, 1, 1), (3, 2, 1), (3, 3, 1), (69, 4, 32), (59, 36, 1), (4, 37, 1), (3, 38, 1), (76, 39, 33), (36, 72, 1), (114, 73, 1)] : TyD).ok Tryz.prog 116 := ⟨⟨_, Tryz.underlying116⟩, by kernel_rfl, by kernel_rfl⟩
theorem tyOk120 : (.ptr 129 : TyD).ok Tryz.prog 120 := Tryz.underlying120
theorem tyOk128 : (.struct 2 [(47, 0, 1), (4, 1, 1)] : TyD).ok Tryz.prog 128 := ⟨⟨_, Tryz.underlying128⟩, by kernel_rfl, by kernel_rfl⟩
theorem tyOk129 : (.struct 2 [(47, 0, 1), (4, 1, 1)] : TyD).ok Tryz.prog 129 := ⟨⟨_, Tryz.underlying129⟩, by kernel_rfl, by kernel_rfl⟩
theorem tyOk130 : (.slice 232 3 : TyD).ok Tryz.prog 130 := ⟨Tryz.underlying130, by kernel_rfl⟩
theorem tyOk131 : (.struct 3 [(3, 0, 1), (130, 1, 1), (3, 2, 1)] : TyD).ok Tryz.prog 131 := ⟨⟨_, Tryz.underlying131⟩, by kernel_rfl, by kernel_rfl⟩
theorem tyOk132 : (.struct 3 [(3, 0, 1), (130, 1, 1), (3, 2, 1)] : TyD).ok Tryz.prog 132 := ⟨⟨_, Tryz.underlying132⟩, by kernel_rfl, by kernel_rfl⟩
theorem tyOk133 : (.ptr 173 : TyD).ok Tryz.prog 133 := Tryz.underlying133
theorem tyOk136 : (.map 3 3 : TyD).ok Tryz.prog 136 := Tryz.underlying136
theorem tyOk137 : (.slice 339 3 : TyD).ok Tryz.prog 137 := ⟨Tryz.underlying137, by kernel_rfl⟩
theorem tyOk138 : (.struct 4 [(133, 0, 1), (33, 1, 1), (137, 2, 1), (136, 3, 1)] : TyD).ok Tryz.prog 138 := ⟨⟨_, Tryz.underlying138⟩, by kernel_rfl, by kernel_rfl⟩
theorem tyOk139 : (.struct 4 [(133, 0, 1), (33, 1, 1), (137, 2, 1), (136, 3, 1)] : TyD).ok Tryz.prog 139 := ⟨⟨_, Tryz.underlying139⟩, by kernel_rfl, by kernel_rfl⟩
theorem tyOk148 : (.int .u32 : TyD).ok Tryz.prog 148 := Tryz.underlying148
theorem tyOk150 : (.ptr 155 : TyD).ok Tryz.prog 150 := Tryz.underlying150
theorem tyOk154 : (.struct 2 [(47, 0, 1), (4, 1, 1)] : TyD).ok Tryz.prog 154 := ⟨⟨_, Tryz.underlying154⟩, by kernel_rfl, by kernel_rfl⟩
theorem tyOk155 : (.struct 2 [(47, 0, 1), (4, 1, 1)] : TyD).ok Tryz.prog 155 := ⟨⟨_, Tryz.underlying155⟩, by kernel_rfl, by kernel_rfl⟩
theorem tyOk165 : (.ptr 177 : TyD).ok Tryz.prog 165 := Tryz.underlying165
theorem tyOk168 : (.ptr 220 : TyD).ok Tryz.prog 168 := Tryz.underlying168
theorem tyOk170 : (.slice 168 1 : TyD).ok Tryz.prog 170 := ⟨Tryz.underlying170, by kernel_rfl⟩
theorem tyOk171 : (.slice 340 1 : TyD).ok Tryz.prog 171 := ⟨Tryz.underlying171, by kernel_rfl⟩
theorem tyOk172 : (.struct 9 [(165, 0, 1), (168, 1, 1), (170, 2, 1), (92, 3, 2), (171, 5, 1), (3, 6, 1), (3, 7, 1), (3, 8, 1)] : TyD).ok Tryz.prog 172 := ⟨⟨_, Tryz.underlying172⟩, by kernel_rfl, by kernel_rfl⟩
theorem tyOk173 : (.struct 9 [(165, 0, 1), (168, 1, 1), (170, 2, 1), (92, 3, 2), (171, 5, 1), (3, 6, 1), (3, 7, 1), (3, 8, 1)] : TyD).ok Tryz.prog 173 := ⟨⟨_, Tryz.underlying173⟩, by kernel_rfl, by kernel_rfl⟩
theorem tyOk174 : (.slice 181 36 : TyD).ok Tryz.prog 174 := ⟨Tryz.underlying174, by kernel_rfl⟩
theorem tyOk175 : (.slice 69 32 : TyD).ok Tryz.prog 175 := ⟨Tryz.underlying175, by kernel_rfl⟩
theorem tyOk176 : (.struct 4 [(86, 0, 1), (174, 1, 1), (175, 2, 1), (4, 3, 1)] : TyD).ok Tryz.prog 176 := ⟨⟨_, Tryz.underlying176⟩, by kernel_rfl, by kernel_rfl⟩
theorem tyOk177 : (.struct 4 [(86, 0, 1), (174, 1, 1), (175, 2, 1), (4, 3, 1)] : TyD).ok Tryz.prog 177 := ⟨⟨_, Tryz.underlying177⟩, by kernel_rfl, by kernel_rfl⟩
theorem tyOk179 : (.slice 251 46 : TyD).ok Tryz.prog 179 := ⟨Tryz.underlying179, by kernel_rfl⟩
theorem tyOk180 : (.struct 36 [(3, 0, 1), (3, 1, 1), (3, 2, 1), (69, 3, 32), (179, 35, 1)] : TyD).ok Tryz.prog 180 := ⟨⟨_, Tryz.underlying180⟩, by kernel_rfl, by kernel_rfl⟩
theorem tyOk181 : (.struct 36 [(3, 0, 1), (3, 1, 1), (3, 2, 1), (69, 3, 32), (179, 35, 1)] : TyD).ok Tryz.prog 181 := ⟨⟨_, Tryz.underlying181⟩, by kernel_rfl, by kernel_rfl⟩
theorem tyOk186 : (.int .u64 : TyD).ok Tryz.prog 186 := Tryz.underlying186
theorem tyOk202 : (.ptr 204 : TyD).ok Tryz.prog 202 := Tryz.underlying202
theorem tyOk203 : (.struct 2 [(47, 0, 1), (3, 1, 1)] : TyD).ok Tryz.prog 203 := ⟨⟨_, Tryz.underlying203⟩, by kernel_rfl, by kernel_rfl⟩
theorem tyOk204 : (.struct 2 [(47, 0, 1), (3, 1, 1)] : TyD).ok Tryz.prog 204 := ⟨⟨_, Tryz.underlying204⟩, by kernel_rfl, by kernel_rfl⟩
theorem tyOk207 : (.slice 47 1 : TyD).ok Tryz.prog 207 := ⟨Tryz.underlying207, by kernel_rfl⟩
theorem tyOk213 : (.ptr 216 : TyD).ok Tryz.prog 213 := Tryz.underlying213
theorem tyOk214 : (.slice 260 4 : TyD).ok Tryz.prog 214 := ⟨Tryz.underlying214, by kernel_rfl⟩
theorem tyOk215 : (.struct 1 [(214, 0, 1)] : TyD).ok Tryz.prog 215 := ⟨⟨_, Tryz.underlying215⟩, by kernel_rfl, by kernel_rfl⟩
theorem tyOk216 : (.struct 1 [(214, 0, 1)] : TyD).ok Tryz.prog 216 := ⟨⟨_, Tryz.underlying216⟩, by kernel_rfl, by kernel_rfl⟩
theorem tyOk217 : (.map 224 3 : TyD).ok Tryz.prog 217 := Tryz.underlying217
theorem tyOk218 : (.slice 222 14 : TyD).ok Tryz.prog 218 := ⟨Tryz.underlying218, by kernel_rfl⟩
theorem tyOk219 : (.struct 4 [(213, 0, 1), (218, 1, 1), (3, 2, 1), (217, 3, 1)] : TyD).ok Tryz.prog 219 := ⟨⟨_, Tryz.underlying219⟩, by kernel_rfl, by kernel_rfl⟩
theorem tyOk220 : (.struct 4 [(213, 0, 1), (218, 1, 1), (3, 2, 1), (217, 3, 1)] : TyD).ok Tryz.prog 220 := ⟨⟨_, Tryz.underlying220⟩, by kernel_rfl, by kernel_rfl⟩
theorem tyOk221 : (.struct 14 [(3, 0, 1), (3, 1, 1), (3, 2, 1), (82, 3, 6), (4, 9, 1), (4, 10, 1), (3, 11, 1), (3, 12, 1), (3, 13, 1)] : TyD).ok Tryz.prog 221 := ⟨⟨_, Tryz.underlying221⟩, by kernel_rfl, by kernel_rfl⟩
theorem tyOk222 : (.struct 14 [(3, 0, 1), (3, 1, 1), (3, 2, 1), (82, 3, 6), (4, 9, 1), (4, 10, 1), (3, 11, 1), (3, 12, 1), (3, 13, 1)] : TyD).ok Tryz.prog 222 := ⟨⟨_, Tryz.underlying222⟩, by kernel_rfl, by kernel_rfl⟩
theorem tyOk223 : (.struct 2 [(3, 0, 1), (3, 1, 1)] : TyD).ok Tryz.prog 223 := ⟨⟨_, Tryz.underlying223⟩, by kernel_rfl, by kernel_rfl⟩
theorem tyOk224 : (.struct 2 [(3, 0, 1), (3, 1, 1)] : TyD).ok Tryz.prog 224 := ⟨⟨_, Tryz.underlying224⟩, by kernel_rfl, by kernel_rfl⟩
theorem tyOk231 : (.struct 3 [(9, 0, 1), (47, 1, 1), (3, 2, 1)] : TyD).ok Tryz.prog 231 := ⟨⟨_, Tryz.underlying231⟩, by kernel_rfl, by kernel_rfl⟩
theorem tyOk232 : (.struct 3 [(9, 0, 1), (47, 1, 1), (3, 2, 1)] : TyD).ok Tryz.prog 232 := ⟨⟨_, Tryz.underlying232⟩, by kernel_rfl, by kernel_rfl⟩
theorem tyOk236 : (.arr 16 148 1 : TyD).ok Tryz.prog 236 := ⟨Tryz.underlying236, by kernel_rfl, by kernel_rfl⟩
theorem tyOk250 : (.struct 46 [(3, 0, 1), (9, 1, 1), (3, 2, 1), (3, 3, 1), (3, 4, 1), (82, 5, 6), (69, 11, 32), (4, 43, 1), (224, 44, 2)] : TyD).ok Tryz.prog 250 := ⟨⟨_, Tryz.underlying250⟩, by kernel_rfl, by kernel_rfl⟩
theorem tyOk251 : (.struct 46 [(3, 0, 1), (9, 1, 1), (3, 2, 1), (3, 3, 1), (3, 4, 1), (82, 5, 6), (69, 11, 32), (4, 43, 1), (224, 44, 2)] : TyD).ok Tryz.prog 251 := ⟨⟨_, Tryz.underlying251⟩, by kernel_rfl, by kernel_rfl⟩
theorem tyOk256 : (.map 3 181 : TyD).ok Tryz.prog 256 := Tryz.underlying256
theorem tyOk259 : (.struct 4 [(3, 0, 1), (9, 1, 1), (4, 2, 1), (80, 3, 1)] : TyD).ok Tryz.prog 259 := ⟨⟨_, Tryz.underlying259⟩, by kernel_rfl, by kernel_rfl⟩
theorem tyOk260 : (.struct 4 [(3, 0, 1), (9, 1, 1), (4, 2, 1), (80, 3, 1)] : TyD).ok Tryz.prog 260 := ⟨⟨_, Tryz.underlying260⟩, by kernel_rfl, by kernel_rfl⟩
theorem tyOk267 : (.ptr 222 : TyD).ok Tryz.prog 267 := Tryz.underlying267
theorem tyOk270 : (.ptr 272 : TyD).ok Tryz.prog 270 := Tryz.underlying270
theorem tyOk271 : (.struct 2 [(47, 0, 1), (36, 1, 1)] : TyD).ok Tryz.prog 271 := ⟨⟨_, Tryz.underlying271⟩, by kernel_rfl, by kernel_rfl⟩
theorem tyOk272 : (.struct 2 [(47, 0, 1), (36, 1, 1)] : TyD).ok Tryz.prog 272 := ⟨⟨_, Tryz.underlying272⟩, by kernel_rfl, by kernel_rfl⟩
theorem tyOk273 : (.arr 8 148 1 : TyD).ok Tryz.prog 273 := ⟨Tryz.underlying273, by kernel_rfl, by kernel_rfl⟩
theorem tyOk274 : (.arr 8 148 1 : TyD).ok Tryz.prog 274 := ⟨Tryz.underlying274, by kernel_rfl, by kernel_rfl⟩
theorem tyOk275 : (.arr 64 148 1 : TyD).ok Tryz.prog 275 := ⟨Tryz.underlying275, by kernel_rfl, by kernel_rfl⟩
theorem tyOk278 : (.ptr 275 : TyD).ok Tryz.prog 278 := Tryz.underlying278
theorem tyOk279 : (.arr 128 5 1 : TyD).ok Tryz.prog 279 := ⟨Tryz.underlying279, by kernel_rfl, by kernel_rfl⟩
theorem tyOk282 : (.ptr 284 : TyD).ok Tryz.prog 282 := Tryz.underlying282
theorem tyOk283 : (.struct 2 [(47, 0, 1), (3, 1, 1)] : TyD).ok Tryz.prog 283 := ⟨⟨_, Tryz.underlying283⟩, by kernel_rfl, by kernel_rfl⟩
theorem tyOk284 : (.struct 2 [(47, 0, 1), (3, 1, 1)] : TyD).ok Tryz.prog 284 := ⟨⟨_, Tryz.underlying284⟩, by kernel_rfl, by kernel_rfl⟩
theorem tyOk291 : (.map 3 47 : TyD).ok Tryz.prog 291 := Tryz.underlying291
theorem tyOk292 : (.ptr 251 : TyD).ok Tryz.prog 292 := Tryz.underlying292
theorem tyOk301 : (.ptr 260 : TyD).ok Tryz.prog 301 := Tryz.underlying301
theorem tyOk304 : (.ptr 274 : TyD).ok Tryz.prog 304 := Tryz.underlying304
theorem tyOk310 : (.struct 1 [(175, 0, 1)] : TyD).ok Tryz.prog 310 := ⟨⟨_, Tryz.underlying310⟩, by kernel_rfl, by kernel_rfl⟩
theorem tyOk311 : (.struct 1 [(175, 0, 1)] : TyD).ok Tryz.prog 311 := ⟨⟨_, Tryz.underlying311⟩, by kernel_rfl, by kernel_rfl⟩
theorem tyOk316 : (.ptr 318 : TyD).ok Tryz.prog 316 := Tryz.underlying316
theorem tyOk317 : (.struct 2 [(175, 0, 1), (4, 1, 1)] : TyD).ok Tryz.prog 317 := ⟨⟨_, Tryz.underlying317⟩, by kernel_rfl, by kernel_rfl⟩
theorem tyOk318 : (.struct 2 [(175, 0, 1), (4, 1, 1)] : TyD).ok Tryz.prog 318 := ⟨⟨_, Tryz.underlying318⟩, by kernel_rfl, by kernel_rfl⟩
theorem tyOk322 : (.struct 4 [(17, 0, 1), (17, 1, 1), (17, 2, 1), (9, 3, 1)] : TyD).ok Tryz.prog 322 := ⟨⟨_, Tryz.underlying322⟩, by kernel_rfl, by kernel_rfl⟩
theorem tyOk323 : (.struct 4 [(17, 0, 1), (17, 1, 1), (17, 2, 1), (9, 3, 1)] : TyD).ok Tryz.prog 323 := ⟨⟨_, Tryz.underlying323⟩, by kernel_rfl, by kernel_rfl⟩
theorem tyOk325 : (.struct 0 [(324, 0, 0)] : TyD).ok Tryz.prog 325 := ⟨⟨_, Tryz.underlying325⟩, by kernel_rfl, by kernel_rfl⟩
theorem tyOk326 : (.struct 0 [(324, 0, 0)] : TyD).ok Tryz.prog 326 := ⟨⟨_, Tryz.underlying326⟩, by kernel_rfl, by kernel_rfl⟩
theorem tyOk327 : (.int .u8 : TyD).ok Tryz.prog 327 := Tryz.underlying327
theorem tyOk328 : (.int .u8 : TyD).ok Tryz.prog 328 := Tryz.underlying328
theorem tyOk330 : (.ptr 5 : TyD).ok Tryz.prog 330 := Tryz.underlying330
theorem tyOk331 : (.int .i32 : TyD).ok Tryz.prog 331 := Tryz.underlying331
theorem tyOk332 : (.int .i32 : TyD).ok Tryz.prog 332 := Tryz.underlying332
theorem tyOk333 : (.struct 11 [(12, 0, 1), (12, 1, 1), (148, 2, 1), (327, 3, 1), (5, 4, 1), (5, 5, 1), (328, 6, 1), (329, 7, 1), (330, 8, 1), (331, 9, 1), (332, 10, 1)] : TyD).ok Tryz.prog 333 := ⟨⟨_, Tryz.underlying333⟩, by kernel_rfl, by kernel_rfl⟩
theorem tyOk334 : (.struct 11 [(12, 0, 1), (12, 1, 1), (148, 2, 1), (327, 3, 1), (5, 4, 1), (5, 5, 1), (328, 6, 1), (329, 7, 1), (330, 8, 1), (331, 9, 1), (332, 10, 1)] : TyD).ok Tryz.prog 334 := ⟨⟨_, Tryz.underlying334⟩, by kernel_rfl, by kernel_rfl⟩
theorem tyOk338 : (.struct 3 [(3, 0, 1), (3, 1, 1), (47, 2, 1)] : TyD).ok Tryz.prog 338 := ⟨⟨_, Tryz.underlying338⟩, by kernel_rfl, by kernel_rfl⟩
theorem tyOk339 : (.struct 3 [(3, 0, 1), (3, 1, 1), (47, 2, 1)] : TyD).ok Tryz.prog 339 := ⟨⟨_, Tryz.underlying339⟩, by kernel_rfl, by kernel_rfl⟩
theorem tyOk340 : (.ptr 344 : TyD).ok Tryz.prog 340 := Tryz.underlying340
theorem tyOk342 : (.ptr 348 : TyD).ok Tryz.prog 342 := Tryz.underlying342
theorem tyOk343 : (.struct 39 [(3, 0, 1), (3, 1, 1), (3, 2, 1), (342, 3, 1), (3, 4, 1), (3, 5, 1), (80, 6, 1), (69, 7, 32)] : TyD).ok Tryz.prog 343 := ⟨⟨_, Tryz.underlying343⟩, by kernel_rfl, by kernel_rfl⟩
theorem tyOk344 : (.struct 39 [(3, 0, 1), (3, 1, 1), (3, 2, 1), (342, 3, 1), (3, 4, 1), (3, 5, 1), (80, 6, 1), (69, 7, 32)] : TyD).ok Tryz.prog 344 := ⟨⟨_, Tryz.underlying344⟩, by kernel_rfl, by kernel_rfl⟩
theorem tyOk346 : (.slice 350 5 : TyD).ok Tryz.prog 346 := ⟨Tryz.underlying346, by kernel_rfl⟩
theorem tyOk347 : (.struct 5 [(168, 0, 1), (3, 1, 1), (179, 2, 1), (346, 3, 1), (4, 4, 1)] : TyD).ok Tryz.prog 347 := ⟨⟨_, Tryz.underlying347⟩, by kernel_rfl, by kernel_rfl⟩
theorem tyOk348 : (.struct 5 [(168, 0, 1), (3, 1, 1), (179, 2, 1), (346, 3, 1), (4, 4, 1)] : TyD).ok Tryz.prog 348 := ⟨⟨_, Tryz.underlying348⟩, by kernel_rfl, by kernel_rfl⟩
theorem tyOk349 : (.struct 5 [(3, 0, 1), (3, 1, 1), (3, 2, 1), (9, 3, 1), (9, 4, 1)] : TyD).ok Tryz.prog 349 := ⟨⟨_, Tryz.underlying349⟩, by kernel_rfl, by kernel_rfl⟩
theorem tyOk350 : (.struct 5 [(3, 0, 1), (3, 1, 1), (3, 2, 1), (9, 3, 1), (9, 4, 1)] : TyD).ok Tryz.prog 350 := ⟨⟨_, Tryz.underlying350⟩, by kernel_rfl, by kernel_rfl⟩
theorem tyOk : TyOk Tryz.prog ty := ⟨tyOk2, tyOk3, tyOk4, tyOk5, tyOk6, tyOk7, tyOk8, tyOk9, tyOk10, tyOk11, tyOk12, tyOk13, tyOk14, tyOk15, tyOk16, tyOk17, tyOk18, tyOk19, tyOk21, tyOk22, tyOk23, tyOk27, tyOk30, tyOk31, tyOk32, tyOk33, tyOk34, tyOk35, tyOk36, tyOk39, tyOk42, tyOk44, tyOk45, tyOk46, tyOk47, tyOk48, tyOk49, tyOk52, tyOk53, tyOk56, tyOk57, tyOk59, tyOk60, tyOk61, tyOk66, tyOk67, tyOk68, tyOk69, tyOk70, tyOk71, tyOk75, tyOk76, tyOk80, tyOk81, tyOk82, tyOk83, tyOk86, tyOk91, tyOk92, tyOk95, tyOk97, tyOk98, tyOk99, tyOk100, tyOk102, tyOk103, tyOk104, tyOk105, tyOk111, tyOk115, tyOk116, tyOk120, tyOk128, tyOk129, tyOk130, tyOk131, tyOk132, tyOk133, tyOk136, tyOk137, tyOk138, tyOk139, tyOk148, tyOk150, tyOk154, tyOk155, tyOk165, tyOk168, tyOk170, tyOk171, tyOk172, tyOk173, tyOk174, tyOk175, tyOk176, tyOk177, tyOk179, tyOk180, tyOk181, tyOk186, tyOk202, tyOk203, tyOk204, tyOk207, tyOk213, tyOk214, tyOk215, tyOk216, tyOk217, tyOk218, tyOk219, tyOk220, tyOk221, tyOk222, tyOk223, tyOk224, tyOk231, tyOk232, tyOk236, tyOk250, tyOk251, tyOk256, tyOk259, tyOk260, tyOk267, tyOk270, tyOk271, tyOk272, tyOk273, tyOk274, tyOk275, tyOk278, tyOk279, tyOk282, tyOk283, tyOk284, tyOk291, tyOk292, tyOk301, tyOk304, tyOk310, tyOk311, tyOk316, tyOk317, tyOk318, tyOk322, tyOk323, tyOk325, tyOk326, tyOk327, tyOk328, tyOk330, tyOk331, tyOk332, tyOk333, tyOk334, tyOk338, tyOk339, tyOk340, tyOk342, tyOk343, tyOk344, tyOk346, tyOk347, tyOk348, tyOk349, tyOk350, trivial⟩
end K
end Go.Proofs.YtpfkcfaifleliaaGreat

namespace Go.Proofs.YtpfkcfaifleliaaGreat
open Go.RowKit
namespace K

def Bu (w : World) (v : Value) (l : List Int) : Prop := Buf .u8 5 w 0 v l
def Grow (w : World) (v : Value) (w' : World) (v' : Value) : Prop :=
  Keep (fun b => b < w.heap.size ∧ v.ownBlock ≠ some b) w w' ∧ ∀ g, v'.ownBlock = some g → v.ownBlock = some g ∨ w.heap.size ≤ g

theorem Grow.refl (w : World) (v : Value) : Grow w v w v := ⟨Keep.refl _ _, fun _ h => .inl h⟩
theorem Grow.trans {w w1 w2 : World} {v v1 v2 : Value} (h : Grow w v w1 v1) (k : Grow w1 v1 w2 v2) : Grow w v w2 v2 :=
  ⟨h.1.trans (k.1.mono fun b hb => ⟨Nat.lt_of_lt_of_le hb.1 h.1.size, fun e => (h.2 b e).elim hb.2 (fun h2 => absurd hb.1 (by omega))⟩),
   fun g hg => (k.2 g hg).elim (h.2 g) (fun h2 => .inr (Nat.le_trans h.1.size h2))⟩
theorem Grow.below {w w1 w2 : World} {v v1 : Value} (h : Grow w v w1 v1) (k : Below w1.heap.size w1 w2) : Grow w v w2 v1 :=
  ⟨h.1.trans ((Keep.of_below k).mono fun _ hb => Nat.lt_of_lt_of_le hb.1 h.1.size), h.2⟩
theorem Grow.old {w w' : World} {v v' : Value} (h : Grow w v w' v') {B : Nat} (hB : B ≤ w.heap.size) (hv : ∀ g, v.ownBlock = some g → B ≤ g) : Below B w w' :=
  (h.1.mono fun b (hb : b < B) => ⟨Nat.lt_of_lt_of_le hb hB, fun e => absurd (hv b e) (by omega)⟩).below
theorem Grow.own {w w' : World} {v v' : Value} (h : Grow w v w' v') {B : Nat} (hB : B ≤ w.heap.size) (hv : ∀ g, v.ownBlock = some g → B ≤ g) : ∀ g, v'.ownBlock = some g → B ≤ g :=
  fun g hg => (h.2 g hg).elim (hv g) (fun h2 => Nat.le_trans hB h2)

theorem Bu.nil (w : World) : Bu w (.slice none 0 0) [] := Buf.nil _ _ _ _
theorem Bu.lt {w : World} {v : Value} {l : List Int} (h : Bu w v l) : ∀ g, v.ownBlock = some g → g < w.heap.size := fun g hg => (Buf.own h g hg).2
theorem Bu.keep {K : Nat → Prop} {w w' : World} {v : Value} {l : List Int} (h : Bu w v l) (hk : Keep K w w') (hK : ∀ g, v.ownBlock = some g → K g) : Bu w' v l :=
  Buf.keep h hk fun g _ _ hg => hK g hg
theorem Bu.below {w w' : World} {v : Value} {l : List Int} (h : Bu w v l) (hk : Below w.heap.size w w') : Bu w' v l := Buf.below h hk (Nat.le_refl _)
theorem Bu.sl {w : World} {v : Value} {l : List Int} (h : Bu w v l) : Sl .u8 w v l := Buf.sl h
theorem Bu.new (w : World) (l : List Int) (hm : l.length ≤ maxLen) : Bu (w.alloc (.cells (l.map (Value.int .u8)).toArray 5)) (.slice (some ⟨w.heap.size, 0, none⟩) l.length l.length) l := by
  have := Buf.mk (k := .u8) (e := 5) (w := w) (base := 0) l [] (Nat.zero_le _) (by simpa using hm)
  simpa [Bu] using this

theorem Sl.slV {w : World} {v : Value} {l : List Int} (h : Sl .u8 w v l) : SlV w (fun _ => True) 1 v l.length (l.map (Value.int .u8)) := by
  obtain ⟨sp, cap, rfl, h1, h2, h3, h4⟩ := h; refine ⟨by simp, Ones.int _ _, sp, cap, rfl, h1, h2, h4, fun h0 => ?_⟩; obtain ⟨b, o, e, hb, hr⟩ := h3 h0; refine ⟨b, o, e, hb, trivial, fun j hj => ?_⟩; rw [List.length_map] at hj; rw [hr j hj]; simp [nth, hj]

theorem elemU8 : ElemV Tryz.prog 47 5 1 1 := ElemV.mk' (z := .int .u8 0) Tryz.underlying47 (by kernel_rfl) rfl (by omega)

theorem Bu.form {w : World} {v : Value} {l : List Int} (h : Bu w v l) : ∃ sp c, v = .slice sp l.length c ∧ l.length ≤ c ∧ c ≤ 9223372036854775807 := by
  obtain ⟨sp, c, h1, h2, h3, -⟩ := Bu.sl h; exact ⟨sp, c, h1, h2, h3⟩
theorem Bu.at {w : World} {v : Value} {l : List Int} (h : Bu w v l) {j : Nat} (hj : j < l.length) : ∃ g c, v = .slice (some ⟨g, 0, none⟩) l.length c ∧ v.ownBlock = some g ∧ w.cell? ⟨g, j, none⟩ = some (.int .u8 (nth l j)) ∧ w.frozen? ⟨g, j, none⟩ = false ∧
    ∀ x, Bu (w.setCell ⟨g, j, none⟩ (.int .u8 x)) v (l.set j x) ∧ Grow w v (w.setCell ⟨g, j, none⟩ (.int .u8 x)) v := by
  have ho : OwnV 5 1 w (fun g => v.ownBlock = some g) v l.length (l.map (Value.int .u8)) := ⟨h, Ones.int _ _, fun g hg => hg⟩; rcases Buf.block h with ⟨-, rfl⟩ | ⟨g, c, rest, rfl, -⟩
  · simp at hj
  · have hat := ho.at j (by simpa using hj)
    have hnth : (l.map (Value.int .u8)).getD j undef = .int .u8 (nth l j) := by simp [nth, hj]
    rw [hnth] at hat; refine ⟨g, c, rfl, rfl, hat, ho.free j, fun x => ⟨?_, ?_, fun g2 hg2 => .inl hg2⟩⟩
    · have := (ho.stored j (u := .int .u8 x) rfl).1
      rw [← List.map_set] at this
      show World.ownsRow _ _ _ _ _ _ _
      rw [List.length_set]; exact this
    · exact (Keep.refl _ w).setCell (fun hk => hk.2 rfl) _

structure Fresh (w : World) (g : Nat) (w' : World) (T : TypeId) (cs : List Value) : Prop where
  eq : g = w.heap.size
  blk : VBlk T w' g cs
  below : Below w.heap.size w w'
  size : w'.heap.size = w.heap.size + 1
theorem Fresh.mk' (w : World) (T : TypeId) (cs : List Value) : Fresh w w.heap.size (w.alloc (.cells cs.toArray T)) T cs :=
  ⟨rfl, VBlk.mk w cs T, (Below.refl _ w).alloc (Nat.le_refl _) _, by show (w.heap.push _).size = _; simp⟩

theorem VBlk.rangeAt {T : TypeId} {w : World} {b : Nat} {cs : List Value} (h : VBlk T w b cs) : w.rangeAt b 0 cs := by
  intro j v hj; have hlt : j < cs.length := by
    rcases Nat.lt_or_ge j cs.length with h | h
    · exact h
    · rw [List.getElem?_eq_none h] at hj; cases hj
  have := h.cell j hlt; rw [Nat.zero_add]; rw [this]; simp [List.getD_eq_getElem?_getD, hj]
end K
end Go.Proofs.YtpfkcfaifleliaaGreat

namespace Go.Proofs.YtpfkcfaifleliaaGreat
open Go.RowKit
namespace K
variable {n : NN} {Q : Exit → Act → World → Prop} {l : Env} {w w' : World} {ops : Array Oper} {o : Oper} {rest : List Oper} {d : Nat}

theorem WL.le {m : Env} (hs : ∀ k v, look m k = some v → look l k = some v) (h : WL n ops Q rest m w) : WL n ops Q rest l w := ⟨fun a ha => h.go a ⟨ha.size, ha.defers, fun k v hk => ha.slot k v (hs k v hk)⟩⟩
theorem WL.as (k : Nat) (v' : Value) {v : Value} (hk : look l k = some v) (e : v = v') (h : WL n ops Q rest ((k, v') :: l) w) : WL n ops Q rest l w :=
  h.le fun j u hj => by
    unfold look at hj; cases hb : Nat.beq k j with
    | true =>
      rw [hb] at hj; obtain rfl : k = j := Nat.eq_of_beq_eq_true hb; obtain rfl : v' = u := Option.some.inj hj; subst e; exact hk
    | false => rw [hb] at hj; exact hj
theorem look_free {d d2 : Nat} {u v' : Value} (hf : look l d = none) : ∀ k v, look ((d2, v') :: l) k = some v → look ((d2, v') :: (d, u) :: l) k = some v := by
  intro k v hk; unfold look at hk ⊢; cases hb : Nat.beq d2 k with
  | true => rw [hb] at hk; exact hk
  | false =>
    rw [hb] at hk; unfold look; cases hb2 : Nat.beq d k with
    | true => obtain rfl : d = k := Nat.eq_of_beq_eq_true hb2; rw [cond_false] at hk; rw [hf] at hk; cases hk
    | false => exact hk
theorem WL.nil (h : WQ n Q .normal l w) : WL n ops Q [] l w := ⟨fun a ha => lw_nil (h.go a ha)⟩
theorem WL.step {v : Value} (hg : o.guard = none) (hd : o.dst = some d) (hn : Nat.blt d n.n = true) (hr : ∀ a, Fr n a l → (execOp a.eval o).run Tryz.prog w = .ok (.value v) w')
    (h : WL n ops Q rest ((d, v) :: l) w') : WL n ops Q (o :: rest) l w :=
  ⟨fun a ha => lw_value hg (hr a ha) (by rw [hd]; exact h.go _ (ha.put hn v))⟩
theorem WL.stepU (hg : o.guard = none) (hd : o.dst = none) (hr : ∀ a, Fr n a l → (execOp a.eval o).run Tryz.prog w = .ok .skip w') (h : WL n ops Q rest l w') : WL n ops Q (o :: rest) l w :=
  ⟨fun a ha => lw_skip hg (hr a ha) (by rw [hd]; exact h.go _ (ha.none _))⟩
theorem WL.pure {v : Value} (hg : o.guard = none) (hd : o.dst = some d) (hn : Nat.blt d n.n = true) (hv : pv ty l o.op = some v) (h : WL n ops Q rest ((d, v) :: l) w) : WL n ops Q (o :: rest) l w :=
  WL.step hg hd hn (fun _ ha => pv_run tyOk ha hv w) h
theorem WL.pureAs {v : Value} (v' : Value) (hg : o.guard = none) (hd : o.dst = some d) (hn : Nat.blt d n.n = true) (hv : pv ty l o.op = some v) (e : v = v') (h : WL n ops Q rest ((d, v') :: l) w) : WL n ops Q (o :: rest) l w :=
  WL.step hg hd hn (fun _ ha => pv_run tyOk ha (hv.trans (congrArg some e)) w) h
theorem WL.top {v v' : Value} (e : v = v') (h : WL n ops Q rest ((d, v') :: l) w) : WL n ops Q rest ((d, v) :: l) w := by subst e; exact h
theorem WL.topT {p : Prop} [Decidable p] (hp : p) (h : WL n ops Q rest ((d, .bool true) :: l) w) : WL n ops Q rest ((d, .bool (decide p)) :: l) w := WL.top (congrArg Value.bool (decide_eq_true hp)) h
theorem WL.topF {p : Prop} [Decidable p] (hp : ¬ p) (h : WL n ops Q rest ((d, .bool false) :: l) w) : WL n ops Q rest ((d, .bool (decide p)) :: l) w := WL.top (congrArg Value.bool (decide_eq_false hp)) h
theorem WL.top64 {x : Int} (hx : -9223372036854775808 ≤ x ∧ x ≤ 9223372036854775807) (h : WL n ops Q rest ((d, .int .i64 x) :: l) w) : WL n ops Q rest ((d, .int .i64 (IntKind.wrap .i64 x)) :: l) w := WL.top (congrArg (Value.int .i64) (IntWalk.i64_in _ hx)) h
def isB : Value → Option Bool
  | .bool b => some b
  | _ => none
def asked (b : Bool) : Option Bool → Bool
  | some c => c == b
  | none => false
def wants (ops : Array Oper) (l : Env) (o : Oper) : Option Bool :=
  match o.guard with
  | none => some true
  | some (j, b) => match (ops[j]?).bind (·.dst) with
    | some t => match look l t with
      | some v => some (asked b (isB v))
      | none => none
    | none => none
theorem wants_run {a : Act} {b : Bool} (ha : Fr n a l) (h : wants ops l o = some b) : Region.wanted o (yielded ops a.tmps) = b := by
  unfold wants at h; unfold Region.wanted yielded; cases hg : o.guard with
  | none => rw [hg] at h; obtain rfl := Option.some.inj h; rfl
  | some x =>
    obtain ⟨j, wt⟩ := x; rw [hg] at h; simp only at h ⊢; cases hj : (ops[j]?).bind (·.dst) with
    | none => rw [hj] at h; cases h
    | some t =>
      rw [hj] at h; simp only at h
      split at h
      · rename_i v hl
        obtain rfl := Option.some.inj h; simp only [Option.bind_some, ha.slot t _ hl]; cases v <;> rfl
      · cases h
theorem WL.on (hw : wants ops l o = some true) (_hg : o.guard.isSome = true) (h : WL n ops Q ({ o with guard := none } :: rest) l w) : WL n ops Q (o :: rest) l w :=
  ⟨fun a ha => lw_on (wants_run ha hw) (h.go a ha)⟩
theorem WL.off (hw : wants ops l o = some false) (hd : o.dst = some d) (hn : Nat.blt d n.n = true) (h : WL n ops Q rest ((d, undef) :: l) w) : WL n ops Q (o :: rest) l w :=
  ⟨fun a ha => lw_off (wants_run ha hw) (by rw [hd]; exact h.go _ (ha.put hn undef))⟩

def scal : Option TyD → Bool
  | some (.struct _ _) | some (.arr _ _ _) | none => false
  | _ => true
theorem scal_run {t : Nat} (h : scal (tyOf ty t) = true) (p : Addr) {v : Value} (hc : w.cell? p = some v) : (loadVar t p).run Tryz.prog w = .ok v w := by
  cases ht : tyOf ty t with
  | none => rw [ht] at h; cases h
  | some x =>
    rw [ht] at h; have hagg : (isAgg t).run Tryz.prog w = .ok false w := by
      unfold isAgg; rw [Sem.run_bind]; cases x with
      | int k => have := TyOk.of tyOk ht; rw [run_underlying this w]; rfl
      | str => have := TyOk.of tyOk ht; rw [run_underlying this w]; rfl
      | bool => have := TyOk.of tyOk ht; rw [run_underlying this w]; rfl
      | ptr e => have := TyOk.of tyOk ht; rw [run_underlying this w]; rfl
      | map k e => have := TyOk.of tyOk ht; rw [run_underlying this w]; rfl
      | slice e s => have := TyOk.of tyOk ht; rw [run_underlying this.1 w]; rfl
      | struct m fs => cases h
      | arr m e s => cases h
    simp [loadVar, Sem.run_bind, hagg, hc]
theorem WL.load {t : Nat} {x : Operand} {p : Addr} {v : Value} (hg : o.guard = none) (hd : o.dst = some d) (hn : Nat.blt d n.n = true) (ho : o.op = .load t x) (hx : evl l x = some (.pointer (some p))) (ht : scal (tyOf ty t) = true)
    (hc : w.cell? p = some v) (h : WL n ops Q rest ((d, v) :: l) w) : WL n ops Q (o :: rest) l w :=
  WL.step hg hd hn (fun a ha => by unfold execOp; rw [ho]; simp [ha.eval hx, Instr.loadAt, Instr.sureAddr, scal_run ht p hc]) h
theorem WL.loadMid {t : Nat} {x : Operand} {b off m : Nat} {cs : List Value} (hg : o.guard = none) (hd : o.dst = some d) (hn : Nat.blt d n.n = true) (ho : o.op = .load t x)
    (hx : evl l x = some (.pointer (some ⟨b, off, none⟩))) (ht : cellsN (tyOf ty t) = some m) (hc : w.rangeAt b off cs) (hm : cs.length = m) (h : WL n ops Q rest ((d, .agg cs.toArray) :: l) w) : WL n ops Q (o :: rest) l w :=
  WL.step hg hd hn (fun a ha => by
    obtain ⟨d, hu, hd, hsz⟩ := cellsN_ok tyOk ht; unfold execOp; rw [ho]; have := run_loadVar_mid (P := Tryz.prog) w b off t cs _ hc hu hd (by rw [hsz, hm]); simp [ha.eval hx, Instr.loadAt, Instr.sureAddr, this]) h
theorem WL.store {t : Nat} {x y : Operand} {p : Addr} {v old : Value} (hg : o.guard = none) (hd : o.dst = none) (ho : o.op = .store t x y) (hx : evl l x = some (.pointer (some p))) (hy : evl l y = some v)
    (hv : v.oneCell' = true) (hsz : (Tryz.prog.info? t).map (·.size) = some 1) (hc : w.cell? p = some old) (hf : w.frozen? p = false) (h : WL n ops Q rest l (w.setCell p v)) : WL n ops Q (o :: rest) l w :=
  WL.stepU hg hd (fun a ha => by
    have hs : (sizeOf t).run Tryz.prog w = .ok 1 w := by
      cases hq : Tryz.prog.info? t with
      | none => rw [hq] at hsz; cases hsz
      | some q => rw [hq] at hsz; simp at hsz; simp [sizeOf, typeInfo, hq, hsz]
    have hvc : v.cells = #[v] := by cases v <;> first | rfl | cases hv
    unfold execOp; rw [ho]; simp only [ha.eval hx, ha.eval hy, Instr.storeAt, Instr.sureAddr, storeVar, Sem.run_bind, Sem.run_pure, Result.andThen_ok, hs, hvc]; simp [storeCells, run_store Tryz.prog w p v _ hv, hc, hf, Addr.add_zero']) h
theorem WL.storeRow {t m T : Nat} {x y : Operand} {g : Nat} {cs old : List Value} (hg : o.guard = none) (hd : o.dst = none) (ho : o.op = .store t x y) (hx : evl l x = some (.pointer (some ⟨g, 0, none⟩)))
    (hy : evl l y = some (.agg cs.toArray)) (ht : cellsN (tyOf ty t) = some m) (hb : VBlk T w g old) (hm : cs.length = m) (hold : old.length = m) (h1 : Ones cs) (h : WL n ops Q rest l (w.setRow g cs.toArray)) : WL n ops Q (o :: rest) l w :=
  ⟨fun a ha => lw_via hg (by rw [ho]; intro c hc; cases hc) <| wpList_store_rowTo hg t x y ho hd g cs.toArray (ha.eval hx) (ha.eval hy) T old.toArray hb (by obtain ⟨d, -, -, hsz⟩ := cellsN_ok tyOk ht; rw [hsz]; simp [hm]) (by simp [hm, hold])
    (by simp only [List.all_toArray, List.all_eq_true]; exact h1) (h.go a ha)⟩
theorem WL.box {t : Nat} {x : Operand} {v : Value} (hg : o.guard = none) (hd : o.dst = some d) (hn : Nat.blt d n.n = true) (ho : o.op = .box t x) (hx : evl l x = some v)
    (h : ∀ g w', Fresh w g w' t v.cells.toList → WL n ops Q rest ((d, .pointer (some ⟨g, 0, none⟩)) :: l) w') : WL n ops Q (o :: rest) l w :=
  WL.step hg hd hn (fun a ha => by unfold execOp; rw [ho]; simp [ha.eval hx, Instr.box, newVar, newRow]) (h _ _ (Fresh.mk' w t v.cells.toList))
theorem WL.alloc {t : Nat} {z : Value} (hg : o.guard = none) (hd : o.dst = some d) (hn : Nat.blt d n.n = true) (ho : o.op = .alloc t) (hz : ∀ w, (zeroValue t).run Tryz.prog w = .ok z w)
    (h : ∀ g w', Fresh w g w' t z.cells.toList → WL n ops Q rest ((d, .pointer (some ⟨g, 0, none⟩)) :: l) w') : WL n ops Q (o :: rest) l w :=
  WL.step hg hd hn (fun a ha => by unfold execOp; rw [ho]; simp [Instr.alloc, newVar, newRow, hz]) (h _ _ (Fresh.mk' w t z.cells.toList))
theorem evlAll_map {a : Act} (ha : Fr n a l) : ∀ {xs : List Operand} {vs : List Value}, evlAll l xs = some vs → xs.map a.eval = vs
  | [], vs, h => by cases h; rfl
  | x :: xs, vs, h => by
    unfold evlAll at h
    split at h
    · rename_i v r h1 h2
      obtain rfl := Option.some.inj h; rw [List.map_cons, ha.eval h1, evlAll_map ha h2]
    · cases h
theorem WL.call {f : FuncId} {fn : Func} {args : List Operand} {ts : Array TypeId} {vs : List Value} {R : Ending → World → Prop} (hg : o.guard = none) (hd : o.dst = some d) (hn : Nat.blt d n.n = true)
    (ho : o.op = .call { callee := .value (.func f), args := args.toArray, argTypes := ts }) (hv : evlAll l args = some vs) (hf : Tryz.prog.funcs[f]? = some fn) (hb : fn.body.isNone = false) (hname : (fn.name == "runtime.NumGoroutine") = false)
    (hc : Calls Tryz.prog f vs.toArray w R) (h : ∀ e w', R e w' → ∃ v, e = .returned v ∧ WL n ops Q rest ((d, v) :: l) w') : WL n ops Q (o :: rest) l w :=
  ⟨fun a ha => by
    have hrun : (execOp a.eval o).run Tryz.prog w = .ok (.enter f vs.toArray) w := by
      unfold execOp; rw [ho]; have := evlAll_map ha hv; have e1 : (args.toArray.map a.eval) = vs.toArray := by rw [List.map_toArray, this]
      have e2 : a.eval (.func f) = .func (.func f) #[] #[] := rfl; have hb' : ¬ fn.body = none := fun e => by rw [e] at hb; cases hb
      have hn' : ¬ fn.name = "runtime.NumGoroutine" := by simpa using hname
      simp [resolve, e1, e2, Deferred.ofValue, invoke, callFunc, hf, hb', hn']
    refine lw_enter hg hrun (hc.mono fun e w'' hh => ?_); obtain ⟨v, rfl, hwl⟩ := h e w'' hh; exact ⟨v, rfl, by rw [hd]; exact hwl.go _ (ha.put hn v)⟩⟩
def evI (k : IntKind) (l : Env) : List (Nat × Operand) → Nat → Option (List Int)
  | [], _ => some []
  | (j, x) :: r, i => match Nat.beq j i, evl l x, evI k l r (i + 1) with
    | true, some (.int k' z), some zs => if k' = k then some (z :: zs) else none
    | _, _, _ => none
theorem evI_map {a : Act} (ha : Fr n a l) {k : IntKind} : ∀ {xs : List (Nat × Operand)} {i : Nat} {zs : List Int}, evI k l xs i = some zs → (xs.map fun x => (x.1, a.eval x.2)) = (((zs.map (Value.int k)).zipIdx i).map fun x => (x.2, x.1)) ∧ xs.length = zs.length
  | [], _, zs, h => by cases h; exact ⟨rfl, rfl⟩
  | (j, x) :: xs, i, zs, h => by
    unfold evI at h
    split at h
    · rename_i k' z r hb hx hr
      split at h
      · rename_i e
        subst e; obtain rfl := Option.some.inj h; obtain ⟨h1, h2⟩ := evI_map ha hr; obtain rfl : j = i := Nat.eq_of_beq_eq_true hb; refine ⟨?_, by simp [h2]⟩; rw [List.map_cons, h1, ha.eval hx]
        rfl
      · cases h
    · cases h
theorem WL.lit {len : Nat} {parts : List (Nat × Operand)} {zs : List Int} (hg : o.guard = none) (hd : o.dst = some d) (hn : Nat.blt d n.n = true) (ho : o.op = .buildSlice 47 len parts.toArray) (hz : evI .u8 l parts 0 = some zs)
    (hl : Nat.beq len zs.length = true) (hs : (Nat.blt 0 len && Nat.blt len 1000) = true)
    (h : ∀ v w', Bu w' v zs → Below w.heap.size w w' → (∀ g, v.ownBlock = some g → w.heap.size ≤ g) → WL n ops Q rest ((d, v) :: l) w') : WL n ops Q (o :: rest) l w := by
  have hl' : len = zs.length := Nat.eq_of_beq_eq_true hl; rw [Bool.and_eq_true, Nat.blt_eq, Nat.blt_eq] at hs; obtain ⟨hs1, hs2⟩ := hs; have hq : (Tryz.prog.info? 5).map (fun i => (i.zero, i.size)) = some (some (.int .u8 0), 1) := by kernel_rfl
  obtain ⟨ie, hie, he⟩ := Option.map_eq_some_iff.1 hq; obtain ⟨hz0, hsz⟩ := Prod.mk.inj he; refine WL.step hg hd hn (w' := w.alloc (.cells (zs.map (Value.int .u8)).toArray 5)) (v := .slice (some ⟨w.heap.size, 0, none⟩) len len) (fun a ha => ?_) (h _ _ ?_ ?_ ?_)
  · unfold execOp
    rw [ho]; obtain ⟨h1, h2⟩ := evI_map ha hz; have hf : Instr.fill (fun i => some (i * ie.size, ie.size)) ((Array.range (len * ie.size)).map ((Value.int .u8 0).cells[· % (Value.int .u8 0).cells.size]!)) (parts.toArray.map fun x => (x.1, a.eval x.2)).toList = some (zs.map (Value.int .u8)).toArray := by
      rw [Array.toList_map, h1, hsz]; exact Great.fill_flat _ _ (fun v hv => by obtain ⟨m, _, rfl⟩ := List.mem_map.1 hv; rfl) (by simp [hl'])
    have := run_buildSlice (P := Tryz.prog) w 47 5 len (parts.toArray.map fun x => (x.1, a.eval x.2)) _ ie _ Tryz.underlying47 hie hz0 (by rw [hsz]; omega) (by rw [hsz]; omega) hf; simp only [Sem.run_bind, this, Result.andThen_ok]
    rfl
  · rw [hl']; exact Bu.new w zs (by unfold maxLen; omega)
  · exact (Below.refl _ w).alloc (Nat.le_refl _) _
  · intro g hg2; cases hg2; exact Nat.le_refl _
theorem WL.app {s x : Operand} {v xv : Value} {l1 l2 : List Int} (hg : o.guard = none) (hd : o.dst = some d) (hn : Nat.blt d n.n = true)
    (ho : o.op = .call { callee := .builtin .append, args := #[s, x], argTypes := #[47, 47] }) (hs : evl l s = some v) (hown : Bu w v l1) (hx : evl l x = some xv) (hsl : Sl .u8 w xv l2) (hb : l1.length + l2.length ≤ 140737488355328)
    (h : ∀ v' w', Bu w' v' (l1 ++ l2) → Grow w v w' v' → WL n ops Q rest ((d, v') :: l) w') : WL n ops Q (o :: rest) l w :=
  ⟨fun a ha => by
    have ho1 : OwnV 5 1 w (fun g => v.ownBlock = some g) v l1.length (l1.map (Value.int .u8)) := ⟨hown, Ones.int _ _, fun g hg => hg⟩; refine lw_via hg (by rw [ho]; intro c hc; cases hc) ?_; refine wpList_appV hg s x 47 ho elemU8 (ha.eval hs) ho1 (ha.eval hx) (Sl.slV hsl) rfl (by unfold maxLen; omega) (by omega) ?_; intro sp c w' h2 h3 h4; rw [hd]; refine (h _ w' ?_ ⟨grown_keep h3, fun g hg => (h4 g hg).imp id (fun e => by omega)⟩).go _ (ha.put hn _); have h5 := h2.1; rw [← List.map_append] at h5
    show World.ownsRow _ _ _ _ _ _ _
    rw [List.length_append]; exact h5⟩
theorem WL.push {o2 : Oper} {d2 : Nat} {len : Nat} {parts : List (Nat × Operand)} {zs : List Int} {s : Operand} {v : Value} {l1 : List Int} (hg : o.guard = none) (hd : o.dst = some d) (hn : Nat.blt d n.n = true) (ho : o.op = .buildSlice 47 len parts.toArray)
    (hz : evI .u8 l parts 0 = some zs) (hl : Nat.beq len zs.length = true) (hs : (Nat.blt 0 len && Nat.blt len 1000) = true) (hg2 : o2.guard = none) (hd2 : o2.dst = some d2) (hn2 : Nat.blt d2 n.n = true)
    (ho2 : o2.op = .call { callee := .builtin .append, args := #[s, .tmp d], argTypes := #[47, 47] }) (hsv : ∀ u, evl ((d, u) :: l) s = some v) (hfr : look l d = none) (hown : Bu w v l1) (hb : l1.length + zs.length ≤ 140737488355328)
    (h : ∀ v' w', Bu w' v' (l1 ++ zs) → Grow w v w' v' → WL n ops Q rest ((d2, v') :: l) w') : WL n ops Q (o :: o2 :: rest) l w := by
  refine WL.lit hg hd hn ho hz hl hs fun u w1 hu hb1 _ => ?_; refine WL.app hg2 hd2 hn2 ho2 (hsv u) (hown.below hb1) (by unfold evl look; simp) hu.sl hb fun v' w2 h2 g2 => ?_; exact (h v' w2 h2 (((Grow.refl w v).below hb1).trans g2)).le (look_free hfr)
end K
end Go.Proofs.YtpfkcfaifleliaaGreat

namespace Go.Proofs.YtpfkcfaifleliaaGreat
open Go.RowKit
namespace K
variable {n : NN} {Q : Exit → Act → World → Prop} {l : Env} {w w' : World} {ops : Array Oper} {o : Oper} {rest : List Oper} {d : Nat}

theorem WQ.then {K : Act → World → Prop} {c : Code} (hK : K = cw n.md Tryz.prog c Q) (h : WC n c Q l w) : WQ n (Exit.then K Q) .normal l w := ⟨fun a ha => by subst hK; exact h.go a ha⟩
theorem WQ.thenExit {K : Act → World → Prop} {id : Nat} (h : WQ n Q (.exit id) l w) : WQ n (Exit.then K Q) (.exit id) l w := ⟨fun a ha => h.go a ha⟩
theorem WQ.thenRet {K : Act → World → Prop} (h : WQ n Q .ret l w) : WQ n (Exit.then K Q) .ret l w := ⟨fun a ha => h.go a ha⟩
theorem WQ.blk {id : Nat} (h : WQ n Q .normal l w) : WQ n (Exit.inBlock id Q) .normal l w := ⟨fun a ha => h.go a ha⟩
theorem WQ.blkRet {id : Nat} (h : WQ n Q .ret l w) : WQ n (Exit.inBlock id Q) .ret l w := ⟨fun a ha => h.go a ha⟩
theorem WQ.blkHere {id id' : Nat} (hi : Nat.beq id' id = true) (h : WQ n Q .normal l w) : WQ n (Exit.inBlock id Q) (.exit id') l w :=
  ⟨fun a ha => by show if id' = id then Q .normal a w else Q (.exit id') a w; rw [if_pos (Nat.eq_of_beq_eq_true hi)]; exact h.go a ha⟩
theorem WQ.blkOther {id id' : Nat} (hi : Nat.beq id' id = false) (h : WQ n Q (.exit id') l w) : WQ n (Exit.inBlock id Q) (.exit id') l w :=
  ⟨fun a ha => by show if id' = id then Q .normal a w else Q (.exit id') a w; rw [if_neg (Nat.ne_of_beq_eq_false hi)]; exact h.go a ha⟩
theorem WQ.again {ι : Type} {L : ι → Env} {W : ι → World → Prop} {μ : ι → Nat} {i : ι} (j : ι) (hs : Sub l (L j)) (hw : W j w) (hm : μ j < μ i) : WQ n (Exit.then (Again n L W μ i) Q) .normal l w :=
  ⟨fun _ ha => ⟨j, ha.sub hs, hw, hm⟩⟩
theorem WC.mid {ι : Type} {x y : Code} {K : Act → World → Prop} (L : ι → Env) (W : ι → World → Prop) (hK : K = cw n.md Tryz.prog y Q) (h1 : WC n x (Exit.then (Meet n L W) Q) l w) (h2 : ∀ i w', W i w' → WC n y Q (L i) w') : WC n x (Exit.then K Q) l w :=
  ⟨fun a ha => cw_mono (fun e a w q => by
    subst hK; cases e with
    | normal => obtain ⟨i, hf, hw⟩ := q; exact (h2 i w hw).go a hf
    | exit id => exact q
    | goto l => exact q
    | ret => exact q
    | panic ch => exact q
    | outgrown => exact q) (h1.go a ha)⟩
theorem WL.mid {ι : Type} {y : Code} {K : Act → World → Prop} (L : ι → Env) (W : ι → World → Prop) (hK : K = cw n.md Tryz.prog y Q) (h1 : WL n ops (Exit.then (Meet n L W) Q) rest l w) (h2 : ∀ i w', W i w' → WC n y Q (L i) w') : WL n ops (Exit.then K Q) rest l w :=
  ⟨fun a ha => lw_mono (fun e a w q => by
    subst hK; cases e with
    | normal => obtain ⟨i, hf, hw⟩ := q; exact (h2 i w hw).go a hf
    | exit id => exact q
    | goto l => exact q
    | ret => exact q
    | panic ch => exact q
    | outgrown => exact q) (h1.go a ha)⟩
theorem WQ.meet {ι : Type} {L : ι → Env} {W : ι → World → Prop} (i : ι) (hs : Sub l (L i)) (hw : W i w) : WQ n (Exit.then (Meet n L W) Q) .normal l w := ⟨fun _ ha => ⟨i, ha.sub hs, hw⟩⟩
section
variable {fn : Func} {R : Ending → World → Prop}
theorem Fr.getD {a : Act} (ha : Fr n a l) {t : Nat} {v : Value} (h : look l t = some v) : a.tmps.getD t undef = v := by have := ha.slot t v h; rw [Array.getD_eq_getD_getElem?, this]; rfl
theorem WQ.ret1 {kn : Nat} {md : Option (Option Nat)} {t : Nat} {v : Value} (hr : fn.results = #[.tmp t]) (hl : look l t = some v) (h : R (.returned v) w) : WQ ⟨kn, [], md⟩ (bodyPost Tryz.prog fn R) .ret l w :=
  ⟨fun a ha => ⟨ha.defers, v, by have := ha.getD hl; simp only [Array.getD_eq_getD_getElem?] at this; simp [results, hr, this], h⟩⟩
theorem WQ.ret2 {kn : Nat} {md : Option (Option Nat)} {t t2 : Nat} {v v2 : Value} (hr : fn.results = #[.tmp t, .tmp t2]) (hl : look l t = some v) (hl2 : look l t2 = some v2) (h : R (.returned (.tuple #[v, v2])) w) : WQ ⟨kn, [], md⟩ (bodyPost Tryz.prog fn R) .ret l w :=
  ⟨fun a ha => ⟨ha.defers, _, by rw [results_tmp2 hr, ha.getD hl, ha.getD hl2], h⟩⟩
end

theorem idx_run {a : Act} {t e s : Nat} {x i : Operand} {b off len cap : Nat} {k : IntKind} {z : Int} {j : Nat} (ho : o.op = .indexAddr t x i) (ht : tyOf ty t = some (.slice e s))
    (hx : a.eval x = .slice (some ⟨b, off, none⟩) len cap) (hi : a.eval i = .int k z) (hz : z = (j : Int)) (hj : j < len) : (execOp a.eval o).run Tryz.prog w = .ok (.value (.pointer (some ⟨b, off + j * s, none⟩))) w := by
  obtain ⟨hu, hsz⟩ := TyOk.of tyOk ht; have he : Tryz.prog.elem t = e := by simp [Program.elem, hu]
  have hs : (sizeOf e).run Tryz.prog w = .ok s w := by
    cases hq : Tryz.prog.info? e with
    | none => rw [hq] at hsz; cases hsz
    | some q => rw [hq] at hsz; simp at hsz; simp [sizeOf, typeInfo, hq, hsz]
  unfold execOp; rw [ho]; simp only [hx, hi, Sem.run_bind, run_indexAt_slice w t _ len cap k z (by rw [he]; exact hu)]; rw [if_pos (by omega), he, hs, hz]; simp [Addr.add_mid]
theorem WL.idx {t e s : Nat} {x i : Operand} {b off len cap : Nat} {k : IntKind} {z : Int} (j q : Nat) (hg : o.guard = none) (hd : o.dst = some d) (hn : Nat.blt d n.n = true) (ho : o.op = .indexAddr t x i) (ht : tyOf ty t = some (.slice e s))
    (hx : evl l x = some (.slice (some ⟨b, off, none⟩) len cap)) (hi : evl l i = some (.int k z)) (hz : z = (j : Int)) (hj : j < len) (hq : off + j * s = q) (h : WL n ops Q rest ((d, .pointer (some ⟨b, q, none⟩)) :: l) w) : WL n ops Q (o :: rest) l w :=
  WL.step hg hd hn (fun _ ha => by rw [← hq]; exact idx_run ho ht (ha.eval hx) (ha.eval hi) hz hj) h
theorem WL.idxI {t e : Nat} {x i : Operand} {v : Value} {k kk : IntKind} {z : Int} {zs : List Int} (j : Nat) (hg : o.guard = none) (hd : o.dst = some d) (hn : Nat.blt d n.n = true) (ho : o.op = .indexAddr t x i) (ht : tyOf ty t = some (.slice e 1))
    (hx : evl l x = some v) (hsl : Sl kk w v zs) (hi : evl l i = some (.int k z)) (hz : z = (j : Int)) (hj : j < zs.length) (h : ∀ p, w.cell? p = some (.int kk (nth zs j)) → WL n ops Q rest ((d, .pointer (some p)) :: l) w) : WL n ops Q (o :: rest) l w := by
  obtain ⟨sp, cap, rfl, -, -, h3, -⟩ := hsl; obtain ⟨b, off, rfl, -, hr⟩ := h3 (by omega); exact WL.idx j (off + j) hg hd hn ho ht hx hi hz hj (by rw [Nat.mul_one]) (h _ (hr.at j hj))
def bytesI (s : ByteArray) : List Int := s.toList.map fun c => (c.toNat : Int)
theorem bytesI_len (s : ByteArray) : (bytesI s).length = s.size := by unfold bytesI; rw [List.length_map, ByteArray.toList_eq]; rfl
theorem WL.strOf {t t2 e : Nat} {x : Operand} {v : Value} {zs : List Int} (hg : o.guard = none) (hd : o.dst = some d) (hn : Nat.blt d n.n = true) (ho : o.op = .convert t t2 x) (ht : tyOf ty t = some (.slice e 1)) (ht2 : tyOf ty t2 = some .str) (he : tyOf ty e = some (.int .u8))
    (hx : evl l x = some v) (hs : Sl .u8 w v zs) (h : WL n ops Q rest ((d, .string (strOfNums zs)) :: l) w) : WL n ops Q (o :: rest) l w :=
  WL.step hg hd hn (fun a ha => by
    unfold execOp; rw [ho]; have hu := (TyOk.of tyOk ht).1; have hi := TyOk.of tyOk he; have hd := TyOk.of tyOk ht2; obtain ⟨sp, cap, rfl, -, -, h3, -⟩ := hs; have hrun : (convert t t2 (.slice sp zs.length cap)).run Tryz.prog w = .ok (.string (strOfNums zs)) w := by
      cases hz : zs with
      | nil =>
        cases sp with
        | none => rw [run_convert_bytes_nil w t e hu hi _ _ t2 hd]; rfl
        | some p =>
          have hl0 : (loadCells p 0).run Tryz.prog w = .ok (([] : List Int).map (Value.int .u8)).toArray w := by rfl
          rw [run_convert_bytes_string w t t2 e _ _ _ hu hi hd, List.length_nil, run_bytesToString w _ 0 cap [] hl0]
          rfl
      | cons z r =>
        obtain ⟨b, off, rfl, -, hr⟩ := h3 (by rw [hz]; simp); rw [← hz]; exact run_convert_bytes_arg w t e hu hi b off zs.length cap zs rfl (fun i hi => hr i hi) t2 hd
    simp [ha.eval hx, hrun]) h
theorem WL.concat {t t2 : Nat} {x y : Operand} {a b : ByteArray} (hg : o.guard = none) (hd : o.dst = some d) (hn : Nat.blt d n.n = true) (ho : o.op = .binOp .add t x y t2) (hx : evl l x = some (.string a)) (hy : evl l y = some (.string b))
    (hb : a.size + b.size ≤ 140737488355328) (h : WL n ops Q rest ((d, .string (a ++ b)) :: l) w) : WL n ops Q (o :: rest) l w :=
  WL.step hg hd hn (fun c hc => by
    unfold execOp; rw [ho]; have := run_string_add_if (P := Tryz.prog) w a b; rw [if_neg (by omega)] at this; simp [hc.eval hx, hc.eval hy, eqGuard_add, binOp_string_add, this]) h
def evlParts (l : Env) : List (Nat × Operand) → Option (List (Nat × Value))
  | [] => some []
  | (i, x) :: r => match evl l x, evlParts l r with
    | some v, some vs => some ((i, v) :: vs)
    | _, _ => none
theorem evlParts_map {a : Act} (ha : Fr n a l) : ∀ {xs : List (Nat × Operand)} {vs : List (Nat × Value)}, evlParts l xs = some vs → (xs.map fun x => (x.1, a.eval x.2)) = vs
  | [], vs, h => by cases h; rfl
  | (i, x) :: xs, vs, h => by
    unfold evlParts at h
    split at h
    · rename_i v r h1 h2
      obtain rfl := Option.some.inj h; rw [List.map_cons, ha.eval h1, evlParts_map ha h2]
    · cases h
theorem WL.build {t : Nat} {parts : List (Nat × Operand)} {ps : List (Nat × Value)} (cells : List Value) (hg : o.guard = none) (hd : o.dst = some d) (hn : Nat.blt d n.n = true) (ho : o.op = .build t parts.toArray) (hp : evlParts l parts = some ps)
    (hf : Tryz.prog.built t ps = some cells.toArray) (h : WL n ops Q rest ((d, .agg cells.toArray) :: l) w) : WL n ops Q (o :: rest) l w :=
  ⟨fun a ha => lw_via hg (by rw [ho]; intro c hc; cases hc) <| wpList_buildTo hg t parts.toArray ho (some d) hd cells.toArray (by
    rw [show (parts.toArray.map fun x => (x.1, a.eval x.2)).toList = ps by rw [Array.toList_map]; exact evlParts_map ha hp]; exact hf) (h.go _ (ha.put hn _))⟩
def litCells (P : Program) (e len : Nat) (ps : List (Nat × Value)) : Option (Array Value) :=
  match P.info? e with
  | some ie => match ie.zero with
    | some z => if 0 < len * ie.size ∧ len * ie.size ≤ 1000 then Instr.fill (fun i => some (i * ie.size, ie.size)) ((Array.range (len * ie.size)).map (z.cells[· % z.cells.size]!)) ps else none
    | none => none
  | none => none
theorem WL.litV {t e s len : Nat} {parts : List (Nat × Operand)} {ps : List (Nat × Value)} (cells : List Value) (hg : o.guard = none) (hd : o.dst = some d) (hn : Nat.blt d n.n = true) (ho : o.op = .buildSlice t len parts.toArray) (ht : tyOf ty t = some (.slice e s))
    (hp : evlParts l parts = some ps) (hf : litCells Tryz.prog e len ps = some cells.toArray) (h : ∀ g w', Fresh w g w' e cells → WL n ops Q rest ((d, .slice (some ⟨g, 0, none⟩) len len) :: l) w') : WL n ops Q (o :: rest) l w :=
  WL.step hg hd hn (fun a ha => by
    unfold litCells at hf; cases hie : Tryz.prog.info? e with
    | none => rw [hie] at hf; cases hf
    | some ie =>
      rw [hie] at hf; simp only at hf; cases hz : ie.zero with
      | none => rw [hz] at hf; cases hf
      | some z =>
        rw [hz] at hf; simp only at hf
        split at hf
        · rename_i hlen
          unfold execOp; rw [ho]; have hpm := evlParts_map ha hp; have := run_buildSlice (P := Tryz.prog) w t e len (parts.toArray.map fun x => (x.1, a.eval x.2)) cells.toArray ie z (TyOk.of tyOk ht).1 hie hz (by omega) (by omega) (by rw [Array.toList_map]; simp only; rw [hpm]; exact hf); simp only [Sem.run_bind, this, Result.andThen_ok]
          rfl
        · cases hf) (h _ _ (Fresh.mk' w e cells))
end K
end Go.Proofs.YtpfkcfaifleliaaGreat

namespace Go.Proofs.YtpfkcfaifleliaaGreat
open Go.RowKit
namespace K
structure Hold (Q : Prop) : Prop where
  out : Q
theorem kgo {P Q : Prop} (q : Q) (h : Hold Q → P := by intro q; (repeat (first | ((with_reducible refine WL.topT ?_ ?_); omega) | ((with_reducible refine WL.topF ?_ ?_); omega) | ((with_reducible refine WL.top64 ?_ ?_); omega) | refine WC.seq ?_ | refine WC.block ?_ | refine WC.region ?_ | refine WL.nil ?_ | refine WC.skip ?_ | refine WC.exit ?_ | refine WC.ret ?_ | refine WQ.then rfl ?_ | refine WQ.thenExit ?_ | refine WQ.thenRet ?_ | refine WQ.blk ?_ | refine WQ.blkRet ?_ | refine WQ.blkHere rfl ?_ | refine WQ.blkOther rfl ?_ | refine WL.pure rfl rfl rfl rfl ?_ | refine WL.on rfl rfl ?_ | refine WL.off rfl rfl rfl ?_ | refine WC.condTrue rfl ?_ | refine WC.condFalse rfl ?_)); exact q.out) : P := h ⟨q⟩
theorem kgl {P Q : Prop} (q : Q) (h : Hold Q → P := by intro q; (repeat (first | ((with_reducible refine WL.topT ?_ ?_); omega) | ((with_reducible refine WL.topF ?_ ?_); omega) | ((with_reducible refine WL.top64 ?_ ?_); omega) | refine WC.seq ?_ | refine WC.block ?_ | refine WC.region ?_ | refine WL.nil ?_ | refine WC.skip ?_ | refine WC.exit ?_ | refine WC.ret ?_ | refine WQ.then rfl ?_ | refine WQ.thenExit ?_ | refine WQ.thenRet ?_ | refine WQ.blk ?_ | refine WQ.blkRet ?_ | refine WQ.blkHere rfl ?_ | refine WQ.blkOther rfl ?_ | refine WL.pure rfl rfl rfl rfl ?_ | refine WL.on rfl rfl ?_ | refine WL.off rfl rfl rfl ?_ | refine WL.load rfl rfl rfl rfl rfl rfl (by assumption) ?_ | refine WC.condTrue rfl ?_ | refine WC.condFalse rfl ?_)); exact q.out) : P := h ⟨q⟩
theorem kgn {P Q : Prop} (q : Q) (h : Hold Q → P := by intro q; (repeat (first | refine WC.seq ?_ | refine WC.block ?_ | refine WC.region ?_ | refine WL.nil ?_ | refine WC.skip ?_ | refine WC.exit ?_ | refine WC.ret ?_ | refine WQ.then rfl ?_ | refine WQ.thenExit ?_ | refine WQ.thenRet ?_ | refine WQ.blk ?_ | refine WQ.blkRet ?_ | refine WQ.blkHere rfl ?_ | refine WQ.blkOther rfl ?_)); exact q.out) : P := h ⟨q⟩
theorem kgb {P Q : Prop} (q : Q) (h : Hold Q → P := by intro q; (repeat (first | ((with_reducible refine WL.topT ?_ ?_); omega) | ((with_reducible refine WL.topF ?_ ?_); omega) | ((with_reducible refine WL.top64 ?_ ?_); omega) | refine WC.seq ?_ | refine WC.region ?_ | refine WL.nil ?_ | refine WC.skip ?_ | refine WC.exit ?_ | refine WC.ret ?_ | refine WQ.then rfl ?_ | refine WQ.thenExit ?_ | refine WQ.thenRet ?_ | refine WQ.blk ?_ | refine WQ.blkRet ?_ | refine WQ.blkHere rfl ?_ | refine WQ.blkOther rfl ?_ | refine WL.pure rfl rfl rfl rfl ?_ | refine WL.on rfl rfl ?_ | refine WL.off rfl rfl rfl ?_ | refine WL.load rfl rfl rfl rfl rfl rfl (by assumption) ?_ | refine WC.condTrue rfl ?_ | refine WC.condFalse rfl ?_)); exact q.out) : P := h ⟨q⟩
end K
end Go.Proofs.YtpfkcfaifleliaaGreat

namespace Go.Proofs.YtpfkcfaifleliaaGreat
open Go.RowKit

section
variable {P : Program} {ops : Array Oper} {Q : Exit → Act → World → Prop} {md : Region.Mode} {S : World → Prop} {n : Nat}

def wpTill (P : Program) (md : Region.Mode) (ops : Array Oper) (Q : Exit → Act → World → Prop) (S : World → Prop) (n : Nat) : Nat → Array Bool → Act → World → Prop
  | 0, listed, a, w => Region.ready md ops listed = [] ∧ Q .normal a w
  | fuel + 1, listed, a, w =>
    (Region.ready md ops listed = [] → Q .normal a w) ∧
    ∀ i ∈ Region.ready md ops listed, wpOp P ops Q i (fun a' w' => ((listed.setIfInBounds i true).getD n false = true ∨ S w') ∧ wpTill P md ops Q S n fuel (listed.setIfInBounds i true) a' w') a w

theorem wpAny_of_till : ∀ (fuel : Nat) (listed : Array Bool) (a : Act) (w : World), wpTill P md ops Q S n fuel listed a w → wpAny P md ops Q fuel listed a w
  | 0, _, _, _, h => h
  | fuel + 1, _, _, _, h => ⟨h.1, fun i hi => wpOp_mono (fun a' w' h' => wpAny_of_till fuel _ a' w' h'.2) (h.2 i hi)⟩

def waitB (md : Region.Mode) (ops : Array Oper) (listed : Array Bool) (i n : Nat) (us : List Nat) : Bool :=
  us.contains n && us.all fun q => !listed.getD q true && ((ops[q]?).map (·.after.any fun e => Region.binds md e && (e.on == i || us.contains e.on))).getD false

theorem waitB_n {listed : Array Bool} {i : Nat} {us : List Nat} (h : waitB md ops listed i n us = true) : listed.getD n true = false := by
  unfold waitB at h; simp only [Bool.and_eq_true, List.all_eq_true] at h; have := h.2 n (by simpa using h.1)
  simpa using this.1
theorem waitB_not {listed : Array Bool} {i j : Nat} {us : List Nat} (h : waitB md ops listed i n us = true) (hi : listed.getD i true = false) (hj : j ∈ Region.ready md ops listed) : j ∉ us := by
  intro hju; unfold waitB at h; simp only [Bool.and_eq_true, List.all_eq_true] at h; obtain ⟨-, h2⟩ := h; obtain ⟨-, oj, hoj, hall⟩ := mem_ready.1 hj; have h3 := (h2 j hju).2; rw [hoj] at h3; simp only [Option.map_some, Option.getD_some] at h3; obtain ⟨e, he, hb⟩ := Array.any_eq_true'.1 h3; simp only [Bool.and_eq_true, Bool.or_eq_true, beq_iff_eq] at hb; have h4 := hall e he hb.1; have h5 : listed.getD e.on true = false := by
    rcases hb.2 with e1 | e1
    · rw [e1]; exact hi
    · have := (h2 e.on (by simpa using e1)).1
      simpa using this
  rcases Nat.lt_or_ge e.on listed.size with h' | h'
  · simp [h'] at h4 h5; rw [h5] at h4; cases h4
  · simp [Array.getElem?_eq_none h'] at h4
theorem waitB_set {listed : Array Bool} {i j : Nat} {us : List Nat} (h : waitB md ops listed i n us = true) (hj : j ∉ us) : waitB md ops (listed.setIfInBounds j true) i n us = true := by
  unfold waitB at *; simp only [Bool.and_eq_true, List.all_eq_true] at *; refine ⟨h.1, fun q hq => ⟨?_, (h.2 q hq).2⟩⟩; rw [getD_set_ne true (by intro e; subst e; exact hj hq)]; exact (h.2 q hq).1
theorem getD_both' {listed : Array Bool} {j : Nat} (h : listed.getD j true = false) : listed.getD j false = false := by
  rcases Nat.lt_or_ge j listed.size with h' | h'
  · simp [h'] at h ⊢; exact h
  · simp [Array.getElem?_eq_none h'] at h

theorem wpTill_first {i : Nat} {oi : Oper} {v : Value} {us : List Nat} (hi : ops[i]? = some oi) (hsel : ∀ (j : Nat) (o : Oper) cs b, ops[j]? = some o → o.op ≠ .select cs b)
    (hQ : ∀ c a w, Q (.panic c) (a.put oi.dst v) w → Q (.panic c) a w) :
    ∀ (fuel : Nat) (listed : Array Bool) (a : Act) (w : World),
      (∀ j oj, ops[j]? = some oj → j ≠ i → listed.getD j true = false → (∀ e ∈ oj.after, Region.binds md e = true → e.on ≠ i) → oi.apart ops oj = true) →
      waitB md ops listed i n us = true → i ∉ us →
      i ∈ Region.ready md ops listed → YieldsIf P ops S oi v a → S w →
      wpTill P md ops Q S n fuel (listed.setIfInBounds i true) (a.put oi.dst v) w → wpTill P md ops Q S n (fuel + 1) listed a w := by
  intro fuel
  induction fuel with
  | zero =>
    intro listed a w _ _ _ hr hy hS H; refine ⟨fun h => (by rw [h] at hr; cases hr), fun j hj => ?_⟩
    by_cases hji : j = i
    · subst hji; exact hy.wpOp hi hS ⟨.inr hS, H⟩
    · have := ready_mono hj hji
      rw [H.1] at this; cases this
  | succ fuel ih =>
    intro listed a w hfree hw hiu hr hy hS H; refine ⟨fun h => (by rw [h] at hr; cases hr), fun j hj => ?_⟩
    by_cases hji : j = i
    · subst hji; exact hy.wpOp hi hS ⟨.inr hS, H⟩
    · have h1 := H.2 j (ready_mono hj hji)
      have hiun := (mem_ready.1 hr).1; have hju : j ∉ us := waitB_not hw hiun hj; have hnu : n ∈ us := by unfold waitB at hw; simp only [Bool.and_eq_true] at hw; simpa using hw.1
      have hjn : j ≠ n := fun e => hju (e ▸ hnu); have hin : i ≠ n := fun e => hiu (e ▸ hnu); obtain ⟨hjun, oj, hoj, hall⟩ := mem_ready.1 hj; have hnot : ∀ e ∈ oj.after, Region.binds md e = true → e.on ≠ i := fun e he hb heq => by
        have h1 := hall e he hb; rw [heq, getD_both' hiun] at h1; cases h1
      have h2 := wpOp_putIf hoj (hfree j oj hoj hji hjun hnot) (fun cs b => hsel i oi cs b hi) (fun cs b => hsel j oj cs b hoj) hQ hy h1; have hfree' : ∀ k ok, ops[k]? = some ok → k ≠ i → (listed.setIfInBounds j true).getD k true = false →
          (∀ e ∈ ok.after, Region.binds md e = true → e.on ≠ i) → oi.apart ops ok = true := fun k ok hk hki hun hno => by
        refine hfree k ok hk hki ?_ hno
        by_cases hjk : j = k
        · subst hjk; exact hjun
        · rw [getD_set_ne true hjk] at hun; exact hun
      have hnf : ∀ x, (((listed.setIfInBounds i true).setIfInBounds j true).getD n false = true ∨ x) → x := fun x h => by
        rcases h with h | h
        · rw [getD_set_ne false hjn, getD_set_ne false hin, getD_both' (waitB_n hw)] at h; cases h
        · exact h
      refine wpOp_mono (fun a' w' h3 => ⟨.inr (hnf _ h3.2.1), ih (listed.setIfInBounds j true) a' w' hfree' (waitB_set hw hju) hiu (ready_mono hr (Ne.symm hji)) h3.1 (hnf _ h3.2.1) ?_⟩) h2; rw [Array.setIfInBounds_comm _ _ hji]; exact h3.2.2

theorem wpTill_free {i : Nat} {oi : Oper} {v : Value} (hi : ops[i]? = some oi) (hsel : ∀ (j : Nat) (o : Oper) cs b, ops[j]? = some o → o.op ≠ .select cs b)
    (hQ : ∀ c a w, Q (.panic c) (a.put oi.dst v) w → Q (.panic c) a w) (hin : i ≠ n) :
    ∀ (fuel : Nat) (listed : Array Bool) (a : Act) (w : World),
      (∀ j oj, ops[j]? = some oj → j ≠ i → listed.getD j true = false → (∀ e ∈ oj.after, Region.binds md e = true → e.on ≠ i) → oi.apart ops oj = true) →
      i ∈ Region.ready md ops listed → YieldsIf P ops (fun _ => True) oi v a → (listed.getD n false = true ∨ S w) →
      wpTill P md ops Q S n fuel (listed.setIfInBounds i true) (a.put oi.dst v) w → wpTill P md ops Q S n (fuel + 1) listed a w := by
  intro fuel
  induction fuel with
  | zero =>
    intro listed a w _ hr hy hS H; refine ⟨fun h => (by rw [h] at hr; cases hr), fun j hj => ?_⟩
    by_cases hji : j = i
    · subst hji; exact hy.wpOp hi trivial ⟨by rw [getD_set_ne false hin]; exact hS, H⟩
    · have := ready_mono hj hji
      rw [H.1] at this; cases this
  | succ fuel ih =>
    intro listed a w hfree hr hy hS H; refine ⟨fun h => (by rw [h] at hr; cases hr), fun j hj => ?_⟩
    by_cases hji : j = i
    · subst hji; exact hy.wpOp hi trivial ⟨by rw [getD_set_ne false hin]; exact hS, H⟩
    · have h1 := H.2 j (ready_mono hj hji)
      have hiun := (mem_ready.1 hr).1; obtain ⟨hjun, oj, hoj, hall⟩ := mem_ready.1 hj; have hnot : ∀ e ∈ oj.after, Region.binds md e = true → e.on ≠ i := fun e he hb heq => by
        have h1 := hall e he hb; rw [heq, getD_both' hiun] at h1; cases h1
      have h2 := wpOp_putIf hoj (hfree j oj hoj hji hjun hnot) (fun cs b => hsel i oi cs b hi) (fun cs b => hsel j oj cs b hoj) hQ hy h1; have hfree' : ∀ k ok, ops[k]? = some ok → k ≠ i → (listed.setIfInBounds j true).getD k true = false →
          (∀ e ∈ ok.after, Region.binds md e = true → e.on ≠ i) → oi.apart ops ok = true := fun k ok hk hki hun hno => by
        refine hfree k ok hk hki ?_ hno
        by_cases hjk : j = k
        · subst hjk; exact hjun
        · rw [getD_set_ne true hjk] at hun; exact hun
      have hT : ∀ x, (((listed.setIfInBounds i true).setIfInBounds j true).getD n false = true ∨ x) → ((listed.setIfInBounds j true).getD n false = true ∨ x) := fun x h => by
        rw [Array.setIfInBounds_comm _ _ (Ne.symm hji), getD_set_ne false hin] at h; exact h
      refine wpOp_mono (fun a' w' h3 => ⟨hT _ h3.2.1, ih (listed.setIfInBounds j true) a' w' hfree' (ready_mono hr (Ne.symm hji)) h3.1 (hT _ h3.2.1) ?_⟩) h2; rw [Array.setIfInBounds_comm _ _ hji]; exact h3.2.2

theorem till_done {listed : Array Bool} {a : Act} {w : World} (hr : Region.ready md ops listed = []) (h : Q .normal a w) : ∀ fuel, wpTill P md ops Q S n fuel listed a w
  | 0 => ⟨hr, h⟩
  | _ + 1 => ⟨fun _ => h, by rw [hr]; simp⟩
theorem wp_region_till {id : Nat} {a : Act} {w : World} (n : Nat) (S : World → Prop) (hm : P.follows .mixedOrders = true)
    (h : wpTill P .any ops Q S n ops.size (Array.replicate ops.size false) a w.drew) : (Code.region id ops true).wp P Q a w :=
  wp_region_any hm (wpAny_of_till _ _ _ _ h)

end
end Go.Proofs.YtpfkcfaifleliaaGreat

namespace Go.Proofs.YtpfkcfaifleliaaGreat
open Go.RowKit
namespace K
variable {kn : Nat} {ds : List Deferred} {n : NN} {Q : Exit → Act → World → Prop} {l : Env} {w w' : World} {ops : Array Oper} {o : Oper} {rest : List Oper} {d : Nat} {S : World → Prop} {m fuel : Nat} {listed : Array Bool}

def DK (ops : Array Oper) (Q : Exit → Act → World → Prop) (S : World → Prop) (m fuel : Nat) (listed : Array Bool) (a : Act) (w : World) : Prop :=
  (listed.getD m false = true ∨ S w) ∧ wpTill Tryz.prog .any ops Q S m fuel listed a w
structure WD (n : NN) (ops : Array Oper) (Q : Exit → Act → World → Prop) (S : World → Prop) (m fuel : Nat) (listed : Array Bool) (l : Env) (w : World) : Prop where
  go : ∀ a, Fr n a l → wpTill Tryz.prog .any ops Q S m fuel listed a w

structure Drew (w w' : World) : Prop where
  below : ∀ B, Below B w w'
  heap : w'.heap = w.heap
theorem Drew.mk' (w : World) : Drew w w.drew := ⟨fun B => ((Keep.of_below (Below.refl B w)).drewN 1).below, rfl⟩

theorem WC.drawn {id : Nat} {ops : List Oper} (m : Nat) (S : World → Prop) (h : ∀ w', Drew w w' → WD ⟨kn, ds, none⟩ ops.toArray Q S m ops.length (Array.replicate ops.length false) l w') : WC ⟨kn, ds, none⟩ (.region id ops.toArray true) Q l w :=
  ⟨fun a ha => wp_region_till m S (by kernel_rfl) ((h _ (Drew.mk' w)).go a ha)⟩
theorem wpOp_of_list {K : Act → World → Prop} {i : Nat} {oi : Oper} {a : Act} (hi : ops[i]? = some oi) (h : wpList Tryz.prog ops (Exit.then K Q) [oi] a w) : wpOp Tryz.prog ops Q i K a w := by
  unfold wpOp; simp only [hi]; unfold wpList at h
  by_cases hw : Region.wanted oi (yielded ops a.tmps) = true
  · rw [if_pos hw] at h ⊢
    rcases h with h | ⟨h1, a2, w2, h2⟩
    · left
      unfold Oper.wp at h ⊢
      revert h
      generalize (execOp a.eval oi).run Tryz.prog w = r; intro h; cases r with
      | ok x w2 =>
        cases x <;> first | exact h | skip
        all_goals first
          | exact h
          | (refine Calls.mono h fun e w3 h3 => ?_
             cases e with
             | returned v => exact h3
             | panicked ch => exact h3
             | outgrown => obtain ⟨a4, w4, h4⟩ := h3; exact ⟨a4, w4, h4⟩)
      | halt x w2 => cases x <;> first | exact h | skip
    · exact .inr ⟨h1, a2, w2, h2⟩
  · rw [if_neg hw] at h ⊢
    exact h
theorem WD.one {oi : Oper} (i : Nat) (hr : Region.ready .any ops listed = [i]) (hi : ops[i]? = some oi) (h : WL ⟨kn, ds, none⟩ ops (Exit.then (DK ops Q S m fuel (listed.setIfInBounds i true)) Q) [oi] l w) : WD ⟨kn, ds, none⟩ ops Q S m (fuel + 1) listed l w :=
  ⟨fun a ha => ⟨(fun h0 => by rw [h0] at hr; cases hr), fun j hj => by
    rw [hr] at hj; obtain rfl : j = i := by simpa using hj
    exact wpOp_of_list hi (h.go a ha)⟩⟩
theorem WQ.dk (hS : listed.getD m false = true ∨ S w) (h : WD n ops Q S m fuel listed l w) : WQ n (Exit.then (DK ops Q S m fuel listed) Q) .normal l w := ⟨fun a ha => ⟨hS, h.go a ha⟩⟩
theorem WD.done (hr : Region.ready .any ops listed = []) (h : WQ n Q .normal l w) : WD n ops Q S m fuel listed l w := ⟨fun a ha => till_done hr (h.go a ha) fuel⟩
def mayB (ops : Array Oper) (listed : Array Bool) (i m : Nat) : Bool := Region.noSelect ops && Region.free .any ops listed i && (Region.ready .any ops listed).contains i && !(i == m)
def mayR (ops : Array Oper) (listed : Array Bool) (i m : Nat) (us : List Nat) : Bool := Region.noSelect ops && Region.free .any ops listed i && (Region.ready .any ops listed).contains i && waitB .any ops listed i m us && !(us.contains i)
def Passes (Q : Exit → Act → World → Prop) : Prop := ∀ c (a : Act) d v w, Q (.panic c) (a.put (some d) v) w → Q (.panic c) a w
theorem WD.first {oi : Oper} {v : Value} (i : Nat) (hi : ops[i]? = some oi) (hs : mayB ops listed i m = true) (hd : oi.dst = some d) (hn : Nat.blt d n.n = true) (hQ : Passes Q)
    (hy : ∀ a, Fr n a l → YieldsIf Tryz.prog ops (fun _ => True) oi v a) (hS : listed.getD m false = true ∨ S w) (h : WD n ops Q S m fuel (listed.setIfInBounds i true) ((d, v) :: l) w) : WD n ops Q S m (fuel + 1) listed l w :=
  ⟨fun a ha => by
    unfold mayB at hs; simp only [Bool.and_eq_true, Bool.not_eq_true'] at hs; exact wpTill_free hi (Region.noSelect_spec hs.1.1.1) (by rw [hd]; exact fun c a w => hQ c a d v w) (by simpa using hs.2) fuel listed a w (Region.free_spec hi hs.1.1.2) (by simpa using hs.1.2) (hy a ha) hS (by rw [hd]; exact h.go _ (ha.put hn v))⟩
theorem WD.free {oi : Oper} {v : Value} (i : Nat) (hi : ops[i]? = some oi) (hs : mayB ops listed i m = true) (hd : oi.dst = some d) (hn : Nat.blt d n.n = true)
    (hQ : Passes Q) (hw : wants ops l oi = some true) (hv : pv ty l oi.op = some v) (hS : listed.getD m false = true ∨ S w) (h : WD n ops Q S m fuel (listed.setIfInBounds i true) ((d, v) :: l) w) : WD n ops Q S m (fuel + 1) listed l w :=
  WD.first i hi hs hd hn hQ (fun _ ha => .inl ⟨wants_run ha hw, fun w _ => pv_run tyOk ha hv w⟩) hS h
theorem WD.top {v v' : Value} (e : v = v') (h : WD n ops Q S m fuel listed ((d, v') :: l) w) : WD n ops Q S m fuel listed ((d, v) :: l) w := by subst e; exact h
theorem WD.topT {p : Prop} [Decidable p] (hp : p) (h : WD n ops Q S m fuel listed ((d, .bool true) :: l) w) : WD n ops Q S m fuel listed ((d, .bool (decide p)) :: l) w := WD.top (congrArg Value.bool (decide_eq_true hp)) h
theorem WD.topF {p : Prop} [Decidable p] (hp : ¬ p) (h : WD n ops Q S m fuel listed ((d, .bool false) :: l) w) : WD n ops Q S m fuel listed ((d, .bool (decide p)) :: l) w := WD.top (congrArg Value.bool (decide_eq_false hp)) h
theorem WD.top64 {x : Int} (hx : -9223372036854775808 ≤ x ∧ x ≤ 9223372036854775807) (h : WD n ops Q S m fuel listed ((d, .int .i64 x) :: l) w) : WD n ops Q S m fuel listed ((d, .int .i64 (IntKind.wrap .i64 x)) :: l) w := WD.top (congrArg (Value.int .i64) (IntWalk.i64_in _ hx)) h
theorem WD.skip {oi : Oper} (i : Nat) (hi : ops[i]? = some oi) (hs : mayB ops listed i m = true) (hd : oi.dst = some d) (hn : Nat.blt d n.n = true)
    (hQ : Passes Q) (hw : wants ops l oi = some false) (hS : listed.getD m false = true ∨ S w) (h : WD n ops Q S m fuel (listed.setIfInBounds i true) ((d, undef) :: l) w) : WD n ops Q S m (fuel + 1) listed l w :=
  WD.first i hi hs hd hn hQ (fun _ ha => .inr ⟨wants_run ha hw, rfl⟩) hS h
theorem WD.read {oi : Oper} {v : Value} (i : Nat) (us : List Nat) (hi : ops[i]? = some oi) (hs : mayR ops listed i m us = true) (hd : oi.dst = some d) (hn : Nat.blt d n.n = true)
    (hQ : Passes Q) (hw : wants ops l oi = some true) (hv : ∀ a, Fr n a l → ∀ w, S w → (execOp a.eval oi).run Tryz.prog w = .ok (.value v) w) (hS : S w) (h : WD n ops Q S m fuel (listed.setIfInBounds i true) ((d, v) :: l) w) : WD n ops Q S m (fuel + 1) listed l w :=
  ⟨fun a ha => by
    unfold mayR at hs; simp only [Bool.and_eq_true, Bool.not_eq_true'] at hs; exact wpTill_first hi (Region.noSelect_spec hs.1.1.1.1) (by rw [hd]; exact fun c a w => hQ c a d v w) fuel listed a w (Region.free_spec hi hs.1.1.1.2) hs.1.2 (by simpa using hs.2) (by simpa using hs.1.1.2) (.inl ⟨wants_run ha hw, hv a ha⟩) hS (by rw [hd]; exact h.go _ (ha.put hn v))⟩
theorem WD.load {oi : Oper} {t : Nat} {x : Operand} {p : Addr} {v : Value} (i : Nat) (us : List Nat) (hi : ops[i]? = some oi) (hs : mayR ops listed i m us = true) (hd : oi.dst = some d) (hn : Nat.blt d n.n = true)
    (hQ : Passes Q) (hw : wants ops l oi = some true) (ho : oi.op = .load t x) (hx : evl l x = some (.pointer (some p))) (ht : scal (tyOf ty t) = true) (hc : ∀ w, S w → w.cell? p = some v) (hS : S w)
    (h : WD n ops Q S m fuel (listed.setIfInBounds i true) ((d, v) :: l) w) : WD n ops Q S m (fuel + 1) listed l w :=
  WD.read i us hi hs hd hn hQ hw (fun a ha w hw => by unfold execOp; rw [ho]; simp [ha.eval hx, Instr.loadAt, Instr.sureAddr, scal_run ht p (hc w hw)]) hS h
theorem WD.loadMid {oi : Oper} {t b off mm : Nat} {x : Operand} {cs : List Value} (i : Nat) (us : List Nat) (hi : ops[i]? = some oi) (hs : mayR ops listed i m us = true) (hd : oi.dst = some d) (hn : Nat.blt d n.n = true)
    (hQ : Passes Q) (hw : wants ops l oi = some true) (ho : oi.op = .load t x) (hx : evl l x = some (.pointer (some ⟨b, off, none⟩))) (ht : cellsN (tyOf ty t) = some mm) (hc : ∀ w, S w → w.rangeAt b off cs) (hm : cs.length = mm) (hS : S w)
    (h : WD n ops Q S m fuel (listed.setIfInBounds i true) ((d, .agg cs.toArray) :: l) w) : WD n ops Q S m (fuel + 1) listed l w :=
  WD.read i us hi hs hd hn hQ hw (fun a ha w hw => by
    obtain ⟨_, hu, hdd, hsz⟩ := cellsN_ok tyOk ht; unfold execOp; rw [ho]; have := run_loadVar_mid (P := Tryz.prog) w b off t cs _ (hc w hw) hu hdd (by rw [hsz, hm]); simp [ha.eval hx, Instr.loadAt, Instr.sureAddr, this]) hS h
theorem WD.idx {oi : Oper} {t e s : Nat} {x i' : Operand} {b off len cap : Nat} {k : IntKind} {z : Int} (i j q : Nat) (hi : ops[i]? = some oi) (hs : mayB ops listed i m = true) (hd : oi.dst = some d) (hn : Nat.blt d n.n = true)
    (hQ : Passes Q) (hw : wants ops l oi = some true) (ho : oi.op = .indexAddr t x i') (ht : tyOf ty t = some (.slice e s))
    (hx : evl l x = some (.slice (some ⟨b, off, none⟩) len cap)) (hi' : evl l i' = some (.int k z)) (hz : z = (j : Int)) (hj : j < len) (hq : off + j * s = q) (hS : listed.getD m false = true ∨ S w)
    (h : WD n ops Q S m fuel (listed.setIfInBounds i true) ((d, .pointer (some ⟨b, q, none⟩)) :: l) w) : WD n ops Q S m (fuel + 1) listed l w :=
  WD.first i hi hs hd hn hQ (fun _ ha => .inl ⟨wants_run ha hw, fun w _ => by rw [← hq]; exact idx_run ho ht (ha.eval hx) (ha.eval hi') hz hj⟩) hS h
end K
end Go.Proofs.YtpfkcfaifleliaaGreat

namespace Go.Proofs.YtpfkcfaifleliaaGreat
open Go.RowKit
namespace K
section
variable {kn : Nat} {ds : List Deferred} {n : NN} {Q : Exit → Act → World → Prop} {l : Env} {w w' : World} {ops : Array Oper} {o : Oper} {rest : List Oper} {d : Nat} {S : World → Prop} {m fuel : Nat} {listed : Array Bool}
def fzV (ops : Array Oper) (l : Env) (o : Oper) : Option Value := match wants ops l o with
  | some true => pv ty l o.op
  | some false => some undef
  | none => none
structure WDs (is : List Nat) (n : NN) (ops : Array Oper) (Q : Exit → Act → World → Prop) (S : World → Prop) (m fuel : Nat) (listed : Array Bool) (l : Env) (w : World) : Prop where
  go : S w → WD n ops Q S m fuel listed l w
theorem fst {i : Nat} {is : List Nat} {oi : Oper} {v : Value} (hi : ops[i]? = some oi) (hs : mayB ops listed i m = true) (hd : oi.dst = some d) (hn : Nat.blt d n.n = true) (hQ : Passes Q) (hv : fzV ops l oi = some v) (h : WDs is n ops Q S m fuel (listed.setIfInBounds i true) ((d, v) :: l) w) : WDs (i :: is) n ops Q S m (fuel + 1) listed l w := ⟨fun hS => by
  have h := h.go hS; unfold fzV at hv; cases hw : wants ops l oi with
  | none => rw [hw] at hv; cases hv
  | some b =>
    rw [hw] at hv; cases b with
    | true => exact WD.free i hi hs hd hn hQ hw hv (.inr hS) h
    | false => cases hv; exact WD.skip i hi hs hd hn hQ hw (.inr hS) h⟩
theorem WDs.nil (h : WD n ops Q S m fuel listed l w) : WDs [] n ops Q S m fuel listed l w := ⟨fun _ => h⟩
theorem WDs.topT {is : List Nat} {p : Prop} [Decidable p] (hp : p) (h : WDs is n ops Q S m fuel listed ((d, .bool true) :: l) w) : WDs is n ops Q S m fuel listed ((d, .bool (decide p)) :: l) w := ⟨fun hS => WD.topT hp (h.go hS)⟩
theorem WDs.topF {is : List Nat} {p : Prop} [Decidable p] (hp : ¬ p) (h : WDs is n ops Q S m fuel listed ((d, .bool false) :: l) w) : WDs is n ops Q S m fuel listed ((d, .bool (decide p)) :: l) w := ⟨fun hS => WD.topF hp (h.go hS)⟩
theorem WDs.top64 {is : List Nat} {x : Int} (hx : -9223372036854775808 ≤ x ∧ x ≤ 9223372036854775807) (h : WDs is n ops Q S m fuel listed ((d, .int .i64 x) :: l) w) : WDs is n ops Q S m fuel listed ((d, .int .i64 (IntKind.wrap .i64 x)) :: l) w := ⟨fun hS => WD.top64 hx (h.go hS)⟩
theorem fr {R : Prop} (is : List Nat) (hS : S w) (q : R) (h : Hold R → WDs is n ops Q S m fuel listed l w := by intro q; (repeat (refine fst rfl (by kernel_rfl) rfl rfl (fun _ _ _ _ _ h => h) rfl ?_; try (first | ((with_reducible refine WDs.topT ?_ ?_); omega) | ((with_reducible refine WDs.topF ?_ ?_); omega) | ((with_reducible refine WDs.top64 ?_ ?_); omega)))); refine WDs.nil ?_; exact q.out) : WD n ops Q S m fuel listed l w := (h ⟨q⟩).go hS
theorem fzl {oi : Oper} {v : Value} {R : Prop} (i : Nat) (hS : listed.getD m false = true) (hi : ops[i]? = some oi := by exact rfl) (hs : mayB ops listed i m = true := by kernel_rfl) (hd : oi.dst = some d := by exact rfl) (hn : Nat.blt d n.n = true := by exact rfl)
    (hQ : Passes Q := by exact fun _ _ _ _ _ h => h) (hv : fzV ops l oi = some v := by exact rfl) (q : R) (h : Hold R → WD n ops Q S m fuel (listed.setIfInBounds i true) ((d, v) :: l) w := by intro q; (first | ((with_reducible refine WD.topT ?_ ?_); omega; exact q.out) | ((with_reducible refine WD.topF ?_ ?_); omega; exact q.out) | ((with_reducible refine WD.top64 ?_ ?_); omega; exact q.out) | exact q.out)) : WD n ops Q S m (fuel + 1) listed l w := by
  have h := h ⟨q⟩; unfold fzV at hv; cases hw : wants ops l oi with
  | none => rw [hw] at hv; cases hv
  | some b =>
    rw [hw] at hv; cases b with
    | true => exact WD.free i hi hs hd hn hQ hw hv (.inl hS) h
    | false => cases hv; exact WD.skip i hi hs hd hn hQ hw (.inl hS) h
theorem wl {oi : Oper} {t : Nat} {x : Operand} {p : Addr} {v : Value} (i : Nat) (us : List Nat) (hi : ops[i]? = some oi) (hd : oi.dst = some d) (hn : Nat.blt d n.n = true) (hw : wants ops l oi = some true) (ho : oi.op = .load t x) (hx : evl l x = some (.pointer (some p))) (ht : scal (tyOf ty t) = true)
    (hc : ∀ w, S w → w.cell? p = some v) (hS : S w) (h : WD n ops Q S m fuel (listed.setIfInBounds i true) ((d, v) :: l) w) (hs : mayR ops listed i m us = true := by kernel_rfl) (hQ : Passes Q := by exact fun _ _ _ _ _ h => h) : WD n ops Q S m (fuel + 1) listed l w :=
  WD.load i us hi hs hd hn hQ hw ho hx ht hc hS h
theorem wm {oi : Oper} {t b off mm : Nat} {x : Operand} {cs : List Value} (i : Nat) (us : List Nat) (hi : ops[i]? = some oi) (hd : oi.dst = some d) (hn : Nat.blt d n.n = true) (hw : wants ops l oi = some true) (ho : oi.op = .load t x) (hx : evl l x = some (.pointer (some ⟨b, off, none⟩))) (ht : cellsN (tyOf ty t) = some mm)
    (hc : ∀ w, S w → w.rangeAt b off cs) (hm : cs.length = mm) (hS : S w) (h : WD n ops Q S m fuel (listed.setIfInBounds i true) ((d, .agg cs.toArray) :: l) w) (hs : mayR ops listed i m us = true := by kernel_rfl) (hQ : Passes Q := by exact fun _ _ _ _ _ h => h) : WD n ops Q S m (fuel + 1) listed l w :=
  WD.loadMid i us hi hs hd hn hQ hw ho hx ht hc hm hS h
theorem wi {oi : Oper} {t e s : Nat} {x i' : Operand} {b off len cap : Nat} {k : IntKind} {z : Int} (i j q : Nat) (hi : ops[i]? = some oi) (hd : oi.dst = some d) (hn : Nat.blt d n.n = true) (hw : wants ops l oi = some true) (ho : oi.op = .indexAddr t x i') (ht : tyOf ty t = some (.slice e s))
    (hx : evl l x = some (.slice (some ⟨b, off, none⟩) len cap)) (hi' : evl l i' = some (.int k z)) (hz : z = (j : Int)) (hj : j < len) (hq : off + j * s = q) (hS : listed.getD m false = true ∨ S w)
    (h : WD n ops Q S m fuel (listed.setIfInBounds i true) ((d, .pointer (some ⟨b, q, none⟩)) :: l) w) (hs : mayB ops listed i m = true := by kernel_rfl) (hQ : Passes Q := by exact fun _ _ _ _ _ h => h) : WD n ops Q S m (fuel + 1) listed l w :=
  WD.idx i j q hi hs hd hn hQ hw ho ht hx hi' hz hj hq hS h
theorem wo {oi : Oper} (i : Nat) (h : WL ⟨kn, ds, none⟩ ops (Exit.then (DK ops Q S m fuel (listed.setIfInBounds i true)) Q) [oi] l w) (hr : Region.ready .any ops listed = [i] := by kernel_rfl) (hi : ops[i]? = some oi := by exact rfl) : WD ⟨kn, ds, none⟩ ops Q S m (fuel + 1) listed l w :=
  WD.one i hr hi h
theorem di (hS : S w) (h : WD n ops Q S m fuel listed l w) : WL n ops (Exit.then (DK ops Q S m fuel listed) Q) [] l w := WL.nil (WQ.dk (.inr hS) h)
theorem dl (h : WD n ops Q S m fuel listed l w) (hm : listed.getD m false = true := by exact rfl) : WL n ops (Exit.then (DK ops Q S m fuel listed) Q) [] l w := WL.nil (WQ.dk (.inl hm) h)
end
end K
end Go.Proofs.YtpfkcfaifleliaaGreat

namespace Go.Proofs.YtpfkcfaifleliaaGreat
open Go.RowKit
namespace K
variable {n : NN} {Q : Exit → Act → World → Prop} {l : Env} {w w' : World} {ops : Array Oper} {o : Oper} {rest : List Oper} {d : Nat}

theorem WL.fn {f : FuncId} {caps : List Operand} {cs : List Value} (hg : o.guard = none) (hd : o.dst = some d) (hn : Nat.blt d n.n = true) (ho : o.op = .makeFunc (.func f) #[] caps.toArray) (hv : evlAll l caps = some cs)
    (h : WL n ops Q rest ((d, .func (.func f) #[] cs.toArray) :: l) w) : WL n ops Q (o :: rest) l w :=
  WL.step hg hd hn (fun a ha => by
    unfold execOp; rw [ho]; have := evlAll_map ha hv; have e1 : (caps.toArray.map a.eval) = cs.toArray := by rw [List.map_toArray, this]
    simp [Instr.makeFunc, e1]) h
theorem WL.callF {f : FuncId} {fn : Func} {x : Operand} {args : List Operand} {ts : Array TypeId} {vs cs : List Value} {R : Ending → World → Prop} (hg : o.guard = none) (hd : o.dst = some d) (hn : Nat.blt d n.n = true)
    (ho : o.op = .call { callee := .value x, args := args.toArray, argTypes := ts }) (hx : evl l x = some (.func (.func f) #[] cs.toArray)) (hv : evlAll l args = some vs) (hf : Tryz.prog.funcs[f]? = some fn) (hb : fn.body.isNone = false) (hname : (fn.name == "runtime.NumGoroutine") = false)
    (hc : Calls Tryz.prog f (vs ++ cs).toArray w R) (h : ∀ e w', R e w' → ∃ v, e = .returned v ∧ WL n ops Q rest ((d, v) :: l) w') : WL n ops Q (o :: rest) l w :=
  ⟨fun a ha => by
    have hrun : (execOp a.eval o).run Tryz.prog w = .ok (.enter f (vs ++ cs).toArray) w := by
      unfold execOp; rw [ho]; have := evlAll_map ha hv; have e1 : (args.toArray.map a.eval) = vs.toArray := by rw [List.map_toArray, this]
      have e2 : a.eval x = .func (.func f) #[] cs.toArray := ha.eval hx; have hb' : ¬ fn.body = none := fun e => by rw [e] at hb; cases hb
      have hn' : ¬ fn.name = "runtime.NumGoroutine" := by simpa using hname
      simp [resolve, e1, e2, Deferred.ofValue, invoke, callFunc, hf, hb', hn']
    refine lw_enter hg hrun (hc.mono fun e w'' hh => ?_); obtain ⟨v, rfl, hwl⟩ := h e w'' hh; exact ⟨v, rfl, by rw [hd]; exact hwl.go _ (ha.put hn v)⟩⟩
theorem WL.appV {s x : Operand} {t e : TypeId} {m bytes : Nat} {v xv : Value} {k k2 : Nat} {l1 l2 : List Value} {O O2 : Nat → Prop} (hg : o.guard = none) (hd : o.dst = some d) (hn : Nat.blt d n.n = true)
    (ho : o.op = .call { callee := .builtin .append, args := #[s, x], argTypes := #[t, t] }) (E : ElemV Tryz.prog t e m bytes) (hs : evl l s = some v) (hown : OwnV e m w O v k l1) (hx : evl l x = some xv) (hsl : SlV w O2 m xv k2 l2) (hb : (k + k2) * bytes ≤ 140737488355328) (hb1 : k + k2 ≤ 140737488355328)
    (h : ∀ v' w', OwnV e m w' (fun g => O g ∨ g = w.heap.size) v' (k + k2) (l1 ++ l2) → Grow w v w' v' → WL n ops Q rest ((d, v') :: l) w') : WL n ops Q (o :: rest) l w :=
  ⟨fun a ha => by
    refine lw_via hg (by rw [ho]; intro c hc; cases hc) ?_; refine wpList_appV hg s x t ho E (ha.eval hs) hown (ha.eval hx) hsl rfl (by unfold maxLen; omega) hb ?_; intro sp c w' h2 h3 h4; rw [hd]; exact (h _ w' h2 ⟨grown_keep h3, fun g hg => (h4 g hg).imp id (fun e => by omega)⟩).go _ (ha.put hn _)⟩

theorem sl_from {w0 : World} {sp : Option Addr} {cap : Nat} {k : IntKind} {zs : List Int} (h : Sl k w0 (.slice sp zs.length cap) zs) {j : Nat} (hj : j ≤ zs.length) : Sl k w0 (sliced sp j zs.length cap 1) (zs.drop j) := by
  obtain ⟨sp', cap', he, hc, hm, hr, h0⟩ := h; obtain ⟨rfl, -, rfl⟩ : sp = sp' ∧ zs.length = zs.length ∧ cap = cap' := by injection he with a b c; exact ⟨a, b, c⟩
  unfold sliced; refine ⟨if cap = j then sp else sp.map (·.add (j * 1)), cap - j, by rw [List.length_drop], by rw [List.length_drop]; omega, by omega, fun hl => ?_, fun hn => ?_⟩
  · rw [List.length_drop] at hl
    obtain ⟨b, o, rfl, hb, hrow⟩ := hr (by omega); rw [if_neg (by omega)]; refine ⟨b, o + j, by simp [Addr.add_mid], hb, fun i hi => ?_⟩; rw [List.length_drop] at hi; have := hrow (j + i) (by omega); rw [show o + j + i = o + (j + i) by omega, this]; simp [nth, List.getD_eq_getElem?_getD, List.getElem?_drop]
  · by_cases e : cap = j
    · omega
    · rw [if_neg e] at hn
      cases sp with
      | none => have := h0 rfl; omega
      | some p => cases hn
theorem WL.from {t e : Nat} {x lo : Operand} {v : Value} {k kk : IntKind} {z : Int} {zs : List Int} {w0 : World} (hg : o.guard = none) (hd : o.dst = some d) (hn : Nat.blt d n.n = true) (ho : o.op = .slice t x (some lo) none none) (ht : tyOf ty t = some (.slice e 1))
    (hx : evl l x = some v) (hlo : evl l lo = some (.int kk z)) (h0 : 0 ≤ z) (h1 : z ≤ zs.length) (hs : Sl k w0 v zs) (h : ∀ v', Sl k w0 v' (zs.drop z.toNat) → WL n ops Q rest ((d, v') :: l) w) : WL n ops Q (o :: rest) l w := by
  have hs0 := hs; obtain ⟨sp, cap, rfl, hc, hm, hr, hn0⟩ := hs; refine WL.step hg hd hn (v := sliced sp z.toNat zs.length cap 1) (fun a ha => ?_) (h _ (sl_from hs0 (by omega))); obtain ⟨hu, hsz⟩ := TyOk.of tyOk ht; have he : Tryz.prog.elem t = e := by simp [Program.elem, hu]
  have hu' : Tryz.prog.underlying t = some (.slice (Tryz.prog.elem t)) := by rw [he]; exact hu
  have hs : (sizeOf e).run Tryz.prog w = .ok 1 w := by
    cases hq : Tryz.prog.info? e with
    | none => rw [hq] at hsz; cases hsz
    | some q => rw [hq] at hsz; simp at hsz; simp [sizeOf, typeInfo, hq, hsz]
  unfold execOp; rw [ho]; simp [ha.eval hx, ha.eval hlo, run_sliceAt_slice w t _ _ _ _ hu', run_slice_l w t sp zs.length cap hu' kk z h0 (by omega), he, hs]
theorem sl_to {w0 : World} {sp : Option Addr} {cap : Nat} {k : IntKind} {zs : List Int} (h : Sl k w0 (.slice sp zs.length cap) zs) {j : Nat} (hj : j ≤ zs.length) : Sl k w0 (sliced sp 0 j cap 1) (zs.take j) := by
  obtain ⟨sp', cap', he, hc, hm, hr, h0⟩ := h; obtain ⟨rfl, -, rfl⟩ : sp = sp' ∧ zs.length = zs.length ∧ cap = cap' := by injection he with a b c; exact ⟨a, b, c⟩
  unfold sliced; have hl : (zs.take j).length = j := by rw [List.length_take]; omega
  refine ⟨if cap = 0 then sp else sp.map (·.add (0 * 1)), cap - 0, by rw [hl]; rfl, by rw [hl]; omega, by omega, fun h1 => ?_, fun hn => ?_⟩
  · rw [hl] at h1
    obtain ⟨b, o, rfl, hb, hrow⟩ := hr (by omega); rw [if_neg (by omega)]; refine ⟨b, o, by simp [Addr.add_mid], hb, fun i hi => ?_⟩; rw [hl] at hi; rw [hrow i (by omega)]; simp [nth, List.getD_eq_getElem?_getD, hi]
  · by_cases e : cap = 0
    · omega
    · rw [if_neg e] at hn
      cases sp with
      | none => have := h0 rfl; omega
      | some p => cases hn
theorem WL.upto {t e : Nat} {x hi : Operand} {v : Value} {k kk : IntKind} {z : Int} {zs : List Int} {w0 : World} (hg : o.guard = none) (hd : o.dst = some d) (hn : Nat.blt d n.n = true) (ho : o.op = .slice t x none (some hi) none) (ht : tyOf ty t = some (.slice e 1))
    (hx : evl l x = some v) (hhi : evl l hi = some (.int kk z)) (h0 : 0 ≤ z) (h1 : z ≤ zs.length) (hs : Sl k w0 v zs) (h : ∀ v', Sl k w0 v' (zs.take z.toNat) → WL n ops Q rest ((d, v') :: l) w) : WL n ops Q (o :: rest) l w := by
  have hs0 := hs; obtain ⟨sp, cap, rfl, hc, hm, hr, hn0⟩ := hs; refine WL.step hg hd hn (v := sliced sp 0 z.toNat cap 1) (fun a ha => ?_) (h _ (sl_to hs0 (by omega))); obtain ⟨hu, hsz⟩ := TyOk.of tyOk ht; have he : Tryz.prog.elem t = e := by simp [Program.elem, hu]
  have hu' : Tryz.prog.underlying t = some (.slice (Tryz.prog.elem t)) := by rw [he]; exact hu
  have hs : (sizeOf e).run Tryz.prog w = .ok 1 w := by
    cases hq : Tryz.prog.info? e with
    | none => rw [hq] at hsz; cases hsz
    | some q => rw [hq] at hsz; simp at hsz; simp [sizeOf, typeInfo, hq, hsz]
  unfold execOp; rw [ho]; simp [ha.eval hx, ha.eval hhi, run_sliceAt_slice w t _ _ _ _ hu', run_slice_h w t sp zs.length cap hu' kk z h0 (by omega), he, hs]
section
variable {fn : Func} {R : Ending → World → Prop}
theorem WQ.end0 {kn : Nat} {md : Option (Option Nat)} (hr : fn.results = #[]) (h : R (.returned (.tuple #[])) w) : WQ ⟨kn, [], md⟩ (bodyPost Tryz.prog fn R) .normal l w := ⟨fun _ ha => ⟨ha.defers, _, results_none hr _ _ _, h⟩⟩
theorem WQ.retC {kn : Nat} {md : Option (Option Nat)} {p g T m : Nat} {ty' : TypeId} {cs : List Value} (hr : fn.results = #[.cell p ty']) (hl : look l p = some (.pointer (some ⟨g, 0, none⟩))) (ht : cellsN (tyOf ty ty') = some m) (hm : cs.length = m) (hb : VBlk T w g cs)
    (h : R (.returned (.agg cs.toArray)) w) : WQ ⟨kn, [], md⟩ (bodyPost Tryz.prog fn R) .ret l w :=
  ⟨fun a ha => ⟨ha.defers, _, by
    obtain ⟨_, hu, hdd, hsz⟩ := cellsN_ok tyOk ht; have hp := ha.getD hl; simp only [Array.getD_eq_getD_getElem?] at hp; have := run_loadVar_mid (P := Tryz.prog) w g 0 ty' cs _ (VBlk.rangeAt hb) hu hdd (by rw [hsz, hm]); simp [results, hr, hp, asAddr, this], h⟩⟩
end
end K
end Go.Proofs.YtpfkcfaifleliaaGreat

namespace Go.Proofs.YtpfkcfaifleliaaGreat
open Go.RowKit
namespace K
variable {n : NN} {Q : Exit → Act → World → Prop} {l : Env} {w w' : World} {ops : Array Oper} {o : Oper} {rest : List Oper} {d : Nat}

theorem strCells_bytes (s : ByteArray) : Lib.strCells s = (bytesI s).map (Value.int .u8) := by
  unfold Lib.strCells bytesI; rw [ByteArray.toList_eq, List.map_map]
  rfl
theorem appS_run {v : Value} {l1 : List Int} {s : ByteArray} (ty' : Nat) (hown : Bu w v l1) (hb : l1.length + s.size ≤ 140737488355328) :
    ∃ v' w', (Builtin.append_ #[47, 9] ty' #[v, .string s]).run Tryz.prog w = .ok v' w' ∧ Bu w' v' (l1 ++ bytesI s) ∧ Grow w v w' v' := by
  have hq : (Tryz.prog.info? 5).map (fun i => (i.zero, i.size, i.bytes)) = some (some (.int .u8 0), 1, 1) := by kernel_rfl
  obtain ⟨ie, hie, he⟩ := Option.map_eq_some_iff.1 hq; obtain ⟨hz0, he2⟩ := Prod.mk.inj he; obtain ⟨hsz, hby⟩ := Prod.mk.inj he2; have hown' : w.ownsRow 0 5 1 v l1.length (l1.map (Value.int .u8)) := hown; obtain ⟨v', w', hr, h2, h3, -⟩ := Lib.run_append_own_string (P := Tryz.prog) w 0 47 9 ty' 5 ie Tryz.underlying47 Tryz.underlying9 hie hz0 hsz hby v l1.length _ hown' s (by unfold maxLen; omega) hb (Nat.zero_le _); refine ⟨v', w', hr, ?_, grown_keep h3, ?_⟩
  · rw [strCells_bytes, ← List.map_append] at h2
    show World.ownsRow _ _ _ _ _ _ _
    rw [List.length_append, bytesI_len]; exact h2
  · intro g hg
    rcases hown'.2 with ⟨rfl, h0⟩ | ⟨g0, cap, cur, rfl, hbg, hgc, hnc, hcm, hcs, htake⟩
    · have hown2 : w.ownsRow w.heap.size 5 1 (.slice none 0 0) l1.length (l1.map (Value.int .u8)) := ⟨hown'.1, .inl ⟨rfl, h0⟩⟩
      obtain ⟨v2, w2, hr2, h22, -, -⟩ := Lib.run_append_own_string (P := Tryz.prog) w w.heap.size 47 9 ty' 5 ie Tryz.underlying47 Tryz.underlying9 hie hz0 hsz hby _ l1.length _ hown2 s (by unfold maxLen; omega) hb (Nat.le_refl _); rw [hr] at hr2
      injection hr2 with e1 e2
      subst e1
      right
      rcases h22.2 with ⟨rfl, -⟩ | ⟨g1, _, _, rfl, h, -⟩
      · cases hg
      · cases hg; exact h
    · by_cases hroom : l1.length + s.size ≤ cap
      · have hcs' : cur.size = cap := by simpa using hcs
        have hr2 := Lib.run_append_room_string (P := Tryz.prog) w 47 9 ty' 5 ie Tryz.underlying47 Tryz.underlying9 hie hsz g0 l1.length cap cur hgc s hroom (by omega); rw [hr] at hr2
        injection hr2 with e1 e2
        subst e1; cases hg
        exact .inl rfl
      · have hr2 := Lib.run_append_grow_string (P := Tryz.prog) w 47 9 ty' 5 ie (.int .u8 0) Tryz.underlying47 Tryz.underlying9 hie hz0 ⟨g0, 0, none⟩ l1.length cap (l1.map (Value.int .u8)) (by rw [hsz]; simp) (hown'.cells (g := g0) rfl) s (by omega) (by omega)
          (by rw [hby]; exact growslice_fits (by omega) (by omega))
        rw [hr] at hr2
        injection hr2 with e1 e2
        subst e1; cases hg
        exact .inr (Nat.le_refl _)
theorem WL.appS {s x : Operand} {v : Value} {t : ByteArray} {l1 : List Int} (hg : o.guard = none) (hd : o.dst = some d) (hn : Nat.blt d n.n = true)
    (ho : o.op = .call { callee := .builtin .append, args := #[s, x], argTypes := #[47, 9] }) (hs : evl l s = some v) (hown : Bu w v l1) (hx : evl l x = some (.string t)) (hb : l1.length + t.size ≤ 140737488355328)
    (h : ∀ v' w', Bu w' v' (l1 ++ bytesI t) → Grow w v w' v' → WL n ops Q rest ((d, v') :: l) w') : WL n ops Q (o :: rest) l w := by
  obtain ⟨v', w', hr, h2, h3⟩ := appS_run o.type hown hb; refine WL.step hg hd hn (fun a ha => ?_) (h v' w' h2 h3); unfold execOp; simp only [ho, resolve, invoke, builtin, Sem.run_bind, Sem.run_pure, Result.andThen_ok, List.map_toArray, List.map_cons, List.map_nil, ha.eval hs, ha.eval hx, hr]

def GrowB (bb : Nat) (w : World) (v : Value) (w' : World) (v' : Value) : Prop :=
  Keep (fun b => b < w.heap.size ∧ v.ownBlock ≠ some b ∧ b ≠ bb) w w' ∧ ∀ g, v'.ownBlock = some g → v.ownBlock = some g ∨ w.heap.size ≤ g
theorem GrowB.refl (bb : Nat) (w : World) (v : Value) : GrowB bb w v w v := ⟨Keep.refl _ _, fun _ h => .inl h⟩
theorem GrowB.trans {bb : Nat} {w w1 w2 : World} {v v1 v2 : Value} (h : GrowB bb w v w1 v1) (k : GrowB bb w1 v1 w2 v2) : GrowB bb w v w2 v2 :=
  ⟨h.1.trans (k.1.mono fun b hb => ⟨Nat.lt_of_lt_of_le hb.1 h.1.size, fun e => (h.2 b e).elim hb.2.1 (fun h2 => absurd hb.1 (by omega)), hb.2.2⟩),
   fun g hg => (k.2 g hg).elim (h.2 g) (fun h2 => .inr (Nat.le_trans h.1.size h2))⟩
theorem Grow.box {bb : Nat} {w w' : World} {v v' : Value} (h : Grow w v w' v') : GrowB bb w v w' v' := ⟨h.1.mono fun _ hb => ⟨hb.1, hb.2.1⟩, h.2⟩
theorem GrowB.below {bb : Nat} {w w1 w2 : World} {v v1 : Value} (h : GrowB bb w v w1 v1) (k : Below w1.heap.size w1 w2) : GrowB bb w v w2 v1 :=
  ⟨h.1.trans ((Keep.of_below k).mono fun _ hb => Nat.lt_of_lt_of_le hb.1 h.1.size), h.2⟩
structure Bx (bb : Nat) (w : World) (v : Value) (l : List Int) : Prop where
  blk : VBlk 47 w bb [v]
  bu : Bu w v l
  ne : v.ownBlock ≠ some bb
theorem Bx.below {bb : Nat} {w w' : World} {v : Value} {l : List Int} (h : Bx bb w v l) (hk : Below w.heap.size w w') : Bx bb w' v l := ⟨h.blk.below hk h.blk.lt, h.bu.below hk, h.ne⟩
theorem Bx.put {bb : Nat} {w w' : World} {v v' : Value} {l l' : List Int} (h : Bx bb w v l) (hb : Bu w' v' l') (hg : Grow w v w' v') :
    VBlk 47 w' bb [v] ∧ Bx bb (w'.setCell ⟨bb, 0, none⟩ v') v' l' ∧ GrowB bb w v (w'.setCell ⟨bb, 0, none⟩ v') v' := by
  have hblk : VBlk 47 w' bb [v] := h.blk.keep hg.1 ⟨h.blk.lt, h.ne⟩; have hne : v'.ownBlock ≠ some bb := fun e => (hg.2 _ e).elim h.ne (fun h2 => absurd h.blk.lt (by omega)); refine ⟨hblk, ⟨hblk.set 0 v', hb.keep (K := fun b => b ≠ bb) ((Keep.refl _ w').setCell (fun hk => hk rfl) _) (fun g hg2 e => hne (by rw [hg2, e])), hne⟩, ?_, hg.2⟩; exact (hg.1.mono fun _ hb => ⟨hb.1, hb.2.1⟩ : Keep (fun b => b < w.heap.size ∧ v.ownBlock ≠ some b ∧ b ≠ bb) w w').setCell (fun hk => hk.2.2 rfl) _
theorem Bx.keep {bb g T : Nat} {w w' : World} {v v' : Value} {cs : List Value} (hg : GrowB bb w v w' v') (h : VBlk T w g cs) (h1 : v.ownBlock ≠ some g) (h2 : g ≠ bb) : VBlk T w' g cs ∧ v'.ownBlock ≠ some g :=
  ⟨h.keep hg.1 ⟨h.lt, h1, h2⟩, fun e => (hg.2 _ e).elim h1 (fun h3 => absurd h.lt (by omega))⟩
theorem Bu.cell1 {w : World} {v : Value} {l : List Int} (h : Bu w v l) : v.oneCell' = true := by obtain ⟨sp, c, rfl, -, -⟩ := h.form; rfl
section
variable {S : World → Prop} {m fuel : Nat} {listed : Array Bool}
theorem WD.idxI {oi : Oper} {t e : Nat} {x i' : Operand} {v : Value} {k kk : IntKind} {z : Int} {zs : List Int} {w0 : World} (i j : Nat) (hi : ops[i]? = some oi) (hs : mayB ops listed i m = true) (hd : oi.dst = some d) (hn : Nat.blt d n.n = true)
    (hQ : Passes Q) (hw : wants ops l oi = some true) (ho : oi.op = .indexAddr t x i') (ht : tyOf ty t = some (.slice e 1)) (hx : evl l x = some v) (hsl : Sl kk w0 v zs) (hi' : evl l i' = some (.int k z)) (hz : z = (j : Int)) (hj : j < zs.length)
    (hS : listed.getD m false = true ∨ S w) (h : ∀ p, w0.cell? p = some (.int kk (nth zs j)) → WD n ops Q S m fuel (listed.setIfInBounds i true) ((d, .pointer (some p)) :: l) w) : WD n ops Q S m (fuel + 1) listed l w := by
  obtain ⟨sp, cap, rfl, -, -, h3, -⟩ := hsl; obtain ⟨b, off, rfl, -, hr⟩ := h3 (by omega); exact WD.idx i j (off + j) hi hs hd hn hQ hw ho ht hx hi' hz hj (by rw [Nat.mul_one]) hS (h _ (hr.at j hj))
end
theorem heap_cell {w w' : World} (h : w'.heap = w.heap) (p : Addr) : w'.cell? p = w.cell? p := World.cell?_of_block (by rw [h])
end K
end Go.Proofs.YtpfkcfaifleliaaGreat
