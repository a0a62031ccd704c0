/- Texts for LawVwRp, part 1 of 9. -/
import Derived.Test.YtchgjaaadfjiiaaGreatRows
import Derived.WalkKit
import Derived.WalkSpells
import Derived.WalkLawsBesides
import Derived.Deep.QuietTactic
import Derived.BigQuiet
import Derived.OneCell
import Derived.Lib.Hide
import Derived.Laws.Rows
import Derived.Laws.CopyOwn
import Derived.Laws.AppendOwnNone
import Derived.Deep.AppendLies
import Derived.Deep.RegionLawGrows
import Derived.Deep.RegionHeld3
import Derived.ArgAppend
import Derived.WideShapes
import Derived.Maps.OwnSet
import Derived.DeepKeys5
import Derived.Laws.Bits64b
import Derived.OrdersHeld
import Derived.RegionTactic
import Derived.IntWalk
import Derived.Deep.Onto
import Derived.Deep.MidRow
import Derived.Deep.DeepFit
import Derived.Deep.CutBlock
import Derived.Deep.DeepCutAuto
import Derived.RangeFuncNested
import Derived.RangeFuncLeaves
import Derived.Sort.LoopGhostIn
import Derived.Lib.ConvBytes
import Derived.Great.BuildSlice
namespace Go.Proofs.YtchgjaaadfjiiaaGreat
open Go.RowKit
def Drawn (w w' : World) : Prop:=∃ n,w' = w.drewN n
theorem Drawn.mk (w : World) (n : Nat) : Drawn w (w.drewN n):=⟨n,rfl⟩
def nth (l : List Int) (j : Nat) : Int:=l.getD j 0
def Row (k : IntKind) (w : World) (b o : Nat) (l : List Int) : Prop :=
  ∀ j,j < l.length → w.cell? ⟨b,o + j,none⟩ = some (.int k (nth l j))
theorem Row.at {k : IntKind} {w : World} {b o : Nat} {l : List Int} (h : Row k w b o l) (j : Nat) (hj : j < l.length) :
    w.cell? ⟨b,o + j,none⟩ = some (.int k (nth l j)):=h j hj
theorem Row.at' {k : IntKind} {w : World} {b o : Nat} {l : List Int} (h : Row k w b o l) (j i : Nat) (hj : j < l.length) (hi : i = o + j) :
    w.cell? ⟨b,i,none⟩ = some (.int k (nth l j)):=by subst hi;exact h j hj
theorem nth_set_eq (l : List Int) (i : Nat) (x : Int) (h : i < l.length) : nth (l.set i x) i = x:=by
  simp [nth,h]
theorem nth_set_ne (l : List Int) (i j : Nat) (x : Int) (h : j ≠ i) : nth (l.set i x) j = nth l j:=by
  simp [nth,Ne.symm h]
theorem Row.of_block {k : IntKind} {w w' : World} {b o : Nat} {l : List Int} (h : Row k w b o l) (hb : w'.heap[b]? = w.heap[b]?) : Row k w' b o l:=by
  intro j hj;rw [← h j hj];exact World.cell?_of_block (w:=w) hb
theorem Row.below {B : Nat} {k : IntKind} {w w' : World} {b o : Nat} {l : List Int} (h : Row k w b o l) (hb : Below B w w') (hB : b < B) : Row k w' b o l :=
  h.of_block (hb.block b hB)
def IBlk (k : IntKind) (T : TypeId) (w : World) (b : Nat) (l : List Int) : Prop :=
  w.heap[b]? = some (.cells (l.map (Value.int k)).toArray T (0,0))
def VBlk (T : TypeId) (w : World) (b : Nat) (l : List Value) : Prop:=w.heap[b]? = some (.cells l.toArray T (0,0))
theorem VBlk.lt {T : TypeId} {w : World} {b : Nat} {l : List Value} (h : VBlk T w b l) : b < w.heap.size:=lt_of_block h
theorem VBlk.cell {T : TypeId} {w : World} {b : Nat} {l : List Value} (h : VBlk T w b l) (j : Nat) (hj : j < l.length) :
    w.cell? ⟨b,j,none⟩ = some (l.getD j undef):=by
  have h' : w.heap[b]? = some (.cells l.toArray T (0,0)):=h;rw [cell_of_row w b j _ _ _ h'];simp [hj]
theorem VBlk.free {T : TypeId} {w : World} {b : Nat} {l : List Value} (h : VBlk T w b l) (j : Nat) : w.frozen? ⟨b,j,none⟩ = false:=by
  have h' : w.heap[b]? = some (.cells l.toArray T (0,0)):=h;simp [World.frozen?,h']
theorem VBlk.set {T : TypeId} {w : World} {b : Nat} {l : List Value} (h : VBlk T w b l) (j : Nat) (v : Value) :
    VBlk T (w.setCell ⟨b,j,none⟩ v) b (l.set j v):=by
  have hlt:=h.lt;have h' : w.heap[b]? = some (.cells l.toArray T (0,0)):=h;have h'' : w.heap[b] = .cells l.toArray T (0,0):=by simpa [Array.getElem?_eq_getElem hlt] using h'
  show (w.heap.modify b _)[b]? = _
  rw [Array.getElem?_eq_getElem (by simpa using hlt),Array.getElem_modify_self,h''];simp
theorem VBlk.of_block {T : TypeId} {w w' : World} {b : Nat} {l : List Value} (h : VBlk T w b l) (hb : w'.heap[b]? = w.heap[b]?) : VBlk T w' b l:=hb.trans h
theorem VBlk.other {T : TypeId} {w : World} {b : Nat} {l : List Value} (h : VBlk T w b l) (a : Addr) (v : Value) (hb : b ≠ a.block) : VBlk T (w.setCell a v) b l :=
  h.of_block (Below.heap_setCell w a v b hb)
theorem VBlk.alloc {T : TypeId} {w : World} {b : Nat} {l : List Value} (h : VBlk T w b l) (ob : Obj) : VBlk T (w.alloc ob) b l :=
  h.of_block (Below.heap_alloc w ob b h.lt)
theorem VBlk.mk (w : World) (l : List Value) (T : TypeId) : VBlk T (w.alloc (.cells l.toArray T)) w.heap.size l:=by
  show (w.heap.push _)[w.heap.size]? = _
  simp
theorem IBlk.v {k : IntKind} {T : TypeId} {w : World} {b : Nat} {l : List Int} (h : IBlk k T w b l) : VBlk T w b (l.map (Value.int k)):=h
theorem IBlk.lt {k : IntKind} {T : TypeId} {w : World} {b : Nat} {l : List Int} (h : IBlk k T w b l) : b < w.heap.size:=h.v.lt
theorem IBlk.cell {k : IntKind} {T : TypeId} {w : World} {b : Nat} {l : List Int} (h : IBlk k T w b l) (j : Nat) (hj : j < l.length) :
    w.cell? ⟨b,j,none⟩ = some (.int k (nth l j)):=by
  rw [h.v.cell j (by simpa using hj)];simp [nth,hj]
theorem IBlk.cell' {k : IntKind} {T : TypeId} {w : World} {b : Nat} {l : List Int} (h : IBlk k T w b l) (i j : Nat) (hj : j < l.length) (hi : i = j) :
    w.cell? ⟨b,i,none⟩ = some (.int k (nth l j)):=by subst hi;exact h.cell i hj
theorem IBlk.row {k : IntKind} {T : TypeId} {w : World} {b : Nat} {l : List Int} (h : IBlk k T w b l) : Row k w b 0 l :=
  fun j hj => by rw [Nat.zero_add];exact h.cell j hj
theorem IBlk.free {k : IntKind} {T : TypeId} {w : World} {b : Nat} {l : List Int} (h : IBlk k T w b l) (j : Nat) : w.frozen? ⟨b,j,none⟩ = false:=h.v.free j
theorem IBlk.set {k : IntKind} {T : TypeId} {w : World} {b : Nat} {l : List Int} (h : IBlk k T w b l) (j : Nat) (x : Int) :
    IBlk k T (w.setCell ⟨b,j,none⟩ (.int k x)) b (l.set j x):=by
  have:=h.v.set j (.int k x);unfold IBlk;rw [List.map_set];exact this
theorem IBlk.of_block {k : IntKind} {T : TypeId} {w w' : World} {b : Nat} {l : List Int} (h : IBlk k T w b l) (hb : w'.heap[b]? = w.heap[b]?) : IBlk k T w' b l:=hb.trans h
theorem IBlk.other {k : IntKind} {T : TypeId} {w : World} {b : Nat} {l : List Int} (h : IBlk k T w b l) (a : Addr) (v : Value) (hb : b ≠ a.block) : IBlk k T (w.setCell a v) b l :=
  h.of_block (Below.heap_setCell w a v b hb)
theorem IBlk.alloc {k : IntKind} {T : TypeId} {w : World} {b : Nat} {l : List Int} (h : IBlk k T w b l) (ob : Obj) : IBlk k T (w.alloc ob) b l :=
  h.of_block (Below.heap_alloc w ob b h.lt)
theorem IBlk.drewN {k : IntKind} {T : TypeId} {w : World} {b : Nat} {l : List Int} (h : IBlk k T w b l) (n : Nat) : IBlk k T (w.drewN n) b l:=h
structure Keep (K : Nat → Prop) (w w' : World) : Prop where
  os : w'.os = w.os
  tape : w'.tape = w.tape
  output : w'.output = w.output
  size : w.heap.size ≤ w'.heap.size
  block : ∀ k,K k → w'.heap[k]? = w.heap[k]?
theorem Keep.refl (K : Nat → Prop) (w : World) : Keep K w w:=⟨rfl,rfl,rfl,Nat.le_refl _,fun _ _ => rfl⟩
theorem Keep.trans {K : Nat → Prop} {a b c : World} (h : Keep K a b) (k : Keep K b c) : Keep K a c :=
  ⟨k.os.trans h.os,k.tape.trans h.tape,k.output.trans h.output,Nat.le_trans h.size k.size,fun i hi => (k.block i hi).trans (h.block i hi)⟩
theorem Keep.mono {K K' : Nat → Prop} {w w' : World} (h : Keep K w w') (hK : ∀ k,K' k → K k) : Keep K' w w':=⟨h.os,h.tape,h.output,h.size,fun k hk => h.block k (hK k hk)⟩
theorem Keep.drewN {K : Nat → Prop} {a w : World} (h : Keep K a w) (n : Nat) : Keep K a (w.drewN n):=⟨h.os,h.tape,h.output,h.size,h.block⟩
theorem Keep.alloc {K : Nat → Prop} {a w : World} (h : Keep K a w) (hK : ∀ k,K k → k < w.heap.size) (o : Obj) : Keep K a (w.alloc o) :=
  h.trans ⟨rfl,rfl,rfl,by simp,fun k hk => Below.heap_alloc _ _ _ (hK k hk)⟩
theorem Keep.setCell {K : Nat → Prop} {a w : World} (h : Keep K a w) {p : Addr} (hp : ¬ K p.block) (u : Value) : Keep K a (w.setCell p u) :=
  h.trans ⟨rfl,rfl,rfl,by simp [World.setCell],fun k hk => Below.heap_setCell _ _ _ _ (fun e => hp (e ▸ hk))⟩
theorem Keep.of_below {B : Nat} {w w' : World} (h : Below B w w') : Keep (fun k => k < B) w w':=⟨h.os,h.tape,h.output,h.size,h.block⟩
theorem Keep.below {B : Nat} {w w' : World} (h : Keep (fun k => k < B) w w') : Below B w w':=⟨h.os,h.tape,h.output,h.size,h.block⟩
theorem Keep.cell {K : Nat → Prop} {w w' : World} (h : Keep K w w') {p : Addr} (hp : K p.block) : w'.cell? p = w.cell? p:=World.cell?_of_block (w:=w) (h.block p.block hp)
theorem Row.keep {K : Nat → Prop} {k : IntKind} {w w' : World} {b o : Nat} {l : List Int} (h : Row k w b o l) (hb : Keep K w w') (hB : K b) : Row k w' b o l:=h.of_block (hb.block b hB)
theorem IBlk.keep {K : Nat → Prop} {k : IntKind} {T : TypeId} {w w' : World} {b : Nat} {l : List Int} (h : IBlk k T w b l) (hb : Keep K w w') (hB : K b) : IBlk k T w' b l:=h.of_block (hb.block b hB)
theorem VBlk.keep {K : Nat → Prop} {T : TypeId} {w w' : World} {b : Nat} {l : List Value} (h : VBlk T w b l) (hb : Keep K w w') (hB : K b) : VBlk T w' b l:=h.of_block (hb.block b hB)
theorem IBlk.below {B : Nat} {k : IntKind} {T : TypeId} {w w' : World} {b : Nat} {l : List Int} (h : IBlk k T w b l) (hb : Below B w w') (hB : b < B) : IBlk k T w' b l:=h.of_block (hb.block b hB)
theorem VBlk.below {B : Nat} {T : TypeId} {w w' : World} {b : Nat} {l : List Value} (h : VBlk T w b l) (hb : Below B w w') (hB : b < B) : VBlk T w' b l:=h.of_block (hb.block b hB)
section
variable {P : Program} {f : FuncId} {args : Array Value} {w : World} {a n : Nat} {v : Value}
theorem quiet_left (h : Calls P f args (w.drewN n) fun e w' => e = .returned v ∧ w.drewN n = w') : Calls P f args (w.drewN n) fun e w'' => e = .returned v ∧ ∃ m,w'' = w.drewN m :=
  h.mono fun _ _ ⟨he,hm⟩ => ⟨he,n,hm.symm⟩
theorem quiet_add_left (h : Calls P f args (w.drewN (a + n)) fun e w' => e = .returned v ∧ w.drewN (a + n) = w') : Calls P f args (w.drewN (a + n)) fun e w'' => e = .returned v ∧ ∃ m,w'' = w.drewN (a + m) :=
  h.mono fun _ _ ⟨he,hm⟩ => ⟨he,n,hm.symm⟩
end
theorem wpList_build_to {P : Program} {ops : Array Oper} {rest : List Oper} {o : Oper} {a : Act} {w : World} {Q : Exit → Act → World → Prop} (hg : o.guard = none) (t : TypeId) (parts : Array (Nat × Operand)) (ho : o.op = .build t parts)
    (cells : Array Value) (hf : P.built t (parts.map fun (i,x) => (i,a.eval x)).toList = some cells)
    (h : wpList P ops Q rest (a.put o.dst (.agg cells)) w) : wpList P ops Q (o :: rest) a w :=
  wpList_build hg t parts ho (by rw [hf];rfl) (by rw [hf];exact h)
theorem below_setRow {B : Nat} {a w : World} (h : Below B a w) {g : Nat} (hg : B ≤ g) (cs : Array Value) : Below B a (w.setRow g cs) :=
  h.trans ⟨rfl,rfl,rfl,by simp,fun k hk => setRow_other w g k cs (by omega)⟩
theorem VBlk.setRow {T : TypeId} {w : World} {b : Nat} {l : List Value} (h : VBlk T w b l) (cs : List Value) : VBlk T (w.setRow b cs.toArray) b cs :=
  setRow_heap w b _ _ _ _ h
theorem VBlk.setRow_other {T : TypeId} {w : World} {b g : Nat} {l : List Value} (h : VBlk T w b l) (cs : Array Value) (hb : b ≠ g) : VBlk T (w.setRow g cs) b l :=
  h.of_block (Go.setRow_other w g b cs hb)
def Hid2 (p : Prop) : Prop:=∀ q : Prop,(p → q) → q
theorem Hid2.mk {p : Prop} (h : p) : Hid2 p:=fun _ f => f h
theorem Hid2.out {p : Prop} (h : Hid2 p) : p:=h p id
def Sl (k : IntKind) (w : World) (v : Value) (l : List Int) : Prop :=
  ∃ sp cap,v = .slice sp l.length cap ∧ l.length ≤ cap ∧ cap ≤ 9223372036854775807 ∧ (0 < l.length → ∃ b o,sp = some ⟨b,o,none⟩ ∧ b < w.heap.size ∧ Row k w b o l) ∧ (sp = none → cap = 0)
theorem Sl.of_below {k : IntKind} {w w' : World} {v : Value} {l : List Int} (h : Sl k w v l) (hb : Below w.heap.size w w') : Sl k w' v l:=by
  obtain ⟨sp,cap,rfl,h1,h2,h3,h4⟩:=h;exact ⟨sp,cap,rfl,h1,h2,fun h0 => let ⟨b,o,e,hl,hr⟩:=h3 h0;⟨b,o,e,Nat.lt_of_lt_of_le hl hb.size,hr.below hb hl⟩,h4⟩
theorem Sl.keep {K : Nat → Prop} {k : IntKind} {w w' : World} {v : Value} {l : List Int} (h : Sl k w v l) (hb : Keep K w w') (hK : ∀ b o n c,v = .slice (some ⟨b,o,none⟩) n c → b < w.heap.size → K b) : Sl k w' v l:=by
  obtain ⟨sp,cap,rfl,h1,h2,h3,h4⟩:=h;exact ⟨sp,cap,rfl,h1,h2,fun h0 => let ⟨b,o,e,hl,hr⟩:=h3 h0;⟨b,o,e,Nat.lt_of_lt_of_le hl hb.size,hr.keep hb (hK b o _ _ (by rw [e]) hl)⟩,h4⟩
theorem Sl.nil (k : IntKind) (w : World) : Sl k w (.slice none 0 0) []:=⟨none,0,rfl,by simp,by omega,fun h => by simp at h,fun _ => rfl⟩
theorem Sl.mk {k : IntKind} {w : World} {b o cap : Nat} {l : List Int} (hl : l.length ≤ cap) (hc : cap ≤ 9223372036854775807) (hb : b < w.heap.size) (h : Row k w b o l) :
    Sl k w (.slice (some ⟨b,o,none⟩) l.length cap) l:=⟨_,_,rfl,hl,hc,fun _ => ⟨b,o,rfl,hb,h⟩,fun h => by cases h⟩
def lenOf : Value → Nat | .slice _ n _ => n | _ => 0
theorem row_drop {k : IntKind} {w : World} {b o : Nat} {l : List Int} (h : Row k w b o l) (n : Nat) : Row k w b (o + n) (l.drop n):=by
  intro j hj;simp only [List.length_drop] at hj;have:=h (n + j) (by omega);rw [show o + n + j = o + (n + j) by omega,this];simp [nth]
theorem two_alloc {w w1 : World} {A B : Obj} (hb : Below ((w.alloc A).alloc B).heap.size ((w.alloc A).alloc B) w1) :
    w1.heap[w.heap.size]? = some A ∧ w1.heap[w.heap.size + 1]? = some B ∧ Below w.heap.size w w1 ∧ w.heap.size + 2 ≤ w1.heap.size:=by
  have hs : ((w.alloc A).alloc B).heap.size = w.heap.size + 2:=by simp
  refine ⟨?_,?_,?_,?_⟩
  · rw [hb.block _ (by rw [hs];omega),heap_alloc2_old]
  · rw [hb.block _ (by rw [hs];omega),heap_alloc2_new]
  · exact (((Below.refl _ _).alloc (Nat.le_refl _) _).alloc (by simp) _).trans (hb.mono (by rw [hs];omega))
  · rw [← hs];exact hb.size
theorem run_index_arr {P : Program} (w : World) (t e : TypeId) (n : Nat) (d : TypeDesc) (i : TypeInfo) (hu : P.underlying t = some (.array n e)) (hi : P.info? e = some i) (hs : i.size = 1)
    (he : P.underlying e = some d) (hd : (match d with | .struct _ | .array _ _ => false | _ => true) = true) (cs : Array Value) (k : IntKind) (j : Nat) (h1 : j < n) (v : Value) (hv : cs[j]? = some v) :
    (Instr.index t (.agg cs) (.int k j)).run P w = .ok v w:=by
  have hagg : (isAgg e).run P w = .ok false w:=by
    unfold isAgg;rw [Sem.run_bind,run_underlying he w];cases d <;> simp_all
  have h0 : (0 : Int) ≤ j ∧ (j : Int) < n:=by omega
  simp [Instr.index,run_underlying hu,asIntOf,h0,sizeOf,typeInfo,hi,hs,part,hagg,hv,Sem.run_bind]
  omega
theorem splice_zero {α : Type} (Z X : List α) (_h : X.length ≤ Z.length) : splice Z 0 X = X ++ Z.drop X.length:=by simp [splice]
theorem addr_add (b o i : Nat) : (⟨b,o,none⟩ : Addr).add i = ⟨b,o + i,none⟩:=by
  unfold Addr.add
  by_cases h : i = 0
  · subst h;rfl
  · rw [if_neg h]
def RowV (w : World) (b o : Nat) (l : List Value) : Prop:=∀ j,j < l.length → w.cell? ⟨b,o + j,none⟩ = some (l.getD j undef)
theorem RowV.of_block {w w' : World} {b o : Nat} {l : List Value} (h : RowV w b o l) (hb : w'.heap[b]? = w.heap[b]?) : RowV w' b o l:=by
  intro j hj;rw [← h j hj];exact World.cell?_of_block (w:=w) hb
theorem RowV.of_vblk {T : TypeId} {w : World} {b : Nat} {l : List Value} (h : VBlk T w b l) : RowV w b 0 l:=fun j hj => by rw [Nat.zero_add];exact h.cell j hj
def Ones (l : List Value) : Prop:=∀ u ∈ l,u.oneCell' = true
theorem Ones.append {l l' : List Value} (h : Ones l) (h' : Ones l') : Ones (l ++ l'):=fun u hu => (List.mem_append.1 hu).elim (h u) (h' u)
theorem Ones.str (l : List ByteArray) : Ones (l.map Value.string):=fun u hu => by obtain ⟨_,_,rfl⟩:=List.mem_map.1 hu;rfl
theorem Ones.int (k : IntKind) (l : List Int) : Ones (l.map (Value.int k)):=fun u hu => by obtain ⟨_,_,rfl⟩:=List.mem_map.1 hu;rfl
def SlV (w : World) (O : Nat → Prop) (m : Nat) (v : Value) (n : Nat) (l : List Value) : Prop :=
  l.length = n * m ∧ Ones l ∧ ∃ sp cap,v = .slice sp n cap ∧ n ≤ cap ∧ cap ≤ 9223372036854775807 ∧ (sp = none → cap = 0) ∧ (0 < n → ∃ b o,sp = some ⟨b,o,none⟩ ∧ b < w.heap.size ∧ O b ∧ RowV w b o l)
theorem SlV.nil (w : World) (O : Nat → Prop) (m : Nat) : SlV w O m (.slice none 0 0) 0 [] :=
  ⟨by simp,fun _ h => (List.not_mem_nil h).elim,none,0,rfl,by omega,by omega,fun _ => rfl,fun h => by omega⟩
theorem SlV.keep {w w' : World} {O : Nat → Prop} {m n : Nat} {v : Value} {l : List Value} (h : SlV w O m v n l) {K : Nat → Prop} (hk : Keep K w w') (hK : ∀ b,O b → b < w.heap.size → K b) : SlV w' O m v n l:=by
  obtain ⟨h1,h2,sp,cap,h3,h4,h5,h6,h7⟩:=h;exact ⟨h1,h2,sp,cap,h3,h4,h5,h6,fun hn => let ⟨b,o,e,hb,hO,hr⟩:=h7 hn;⟨b,o,e,Nat.lt_of_lt_of_le hb hk.size,hO,hr.of_block (hk.block b (hK b hO hb))⟩⟩
theorem SlV.below {w w' : World} {O : Nat → Prop} {m n : Nat} {v : Value} {l : List Value} (h : SlV w O m v n l) {B : Nat} (hk : Below B w w') (hB : w.heap.size ≤ B) : SlV w' O m v n l :=
  h.keep (Keep.of_below hk) (fun _ _ hb => Nat.lt_of_lt_of_le hb hB)
def OwnV (e : TypeId) (m : Nat) (w : World) (O : Nat → Prop) (v : Value) (n : Nat) (l : List Value) : Prop :=
  w.ownsRow 0 e m v n l ∧ Ones l ∧ ∀ g,v.ownBlock = some g → O g
theorem OwnV.nil (e : TypeId) (m : Nat) (w : World) (O : Nat → Prop) : OwnV e m w O (.slice none 0 0) 0 []:=⟨World.ownsRow_nil _ _ _ _,fun _ h => (List.not_mem_nil h).elim,fun g h => by cases h⟩
theorem OwnV.len {e : TypeId} {m : Nat} {w : World} {O : Nat → Prop} {v : Value} {n : Nat} {l : List Value} (h : OwnV e m w O v n l) : l.length = n * m:=h.1.1
theorem OwnV.form {e : TypeId} {m : Nat} {w : World} {O : Nat → Prop} {v : Value} {n : Nat} {l : List Value} (h : OwnV e m w O v n l) :
    (v = .slice none 0 0 ∧ n = 0 ∧ l = []) ∨ ∃ g cap cur,v = .slice (some ⟨g,0,none⟩) n cap ∧ O g ∧ g < w.heap.size ∧ w.heap[g]? = some (.cells cur e (0,0)) ∧ n ≤ cap ∧ cap ≤ maxLen ∧ cur.size = cap * m ∧ cur.toList.take (n * m) = l:=by
  obtain ⟨⟨h1,h2⟩,-,h3⟩:=h;rcases h2 with ⟨rfl,rfl⟩ | ⟨g,cap,cur,rfl,-,hg,h4,h5,h6,h7⟩
  · exact .inl ⟨rfl,rfl,List.eq_nil_of_length_eq_zero (by simpa using h1)⟩
  · exact .inr ⟨g,cap,cur,rfl,h3 g rfl,lt_of_block hg,hg,h4,h5,h6,h7⟩
theorem OwnV.slV {e : TypeId} {m : Nat} {w : World} {O : Nat → Prop} {v : Value} {n : Nat} {l : List Value} (h : OwnV e m w O v n l) : SlV w O m v n l:=by
  refine ⟨h.1.1,h.2.1,?_⟩;have hc:=h;rcases h.form with ⟨rfl,rfl,rfl⟩ | ⟨g,cap,cur,rfl,hO,hlt,hg,h4,h5,h6,h7⟩
  · exact ⟨none,0,rfl,by omega,by omega,fun _ => rfl,fun h => by omega⟩
  · refine ⟨_,cap,rfl,h4,h5,(fun h => by cases h),fun _ => ⟨g,0,rfl,hlt,hO,fun j hj => ?_⟩⟩
    rw [Nat.zero_add];have:=World.ownsRow.cellAt hc.1 j (by rw [← hc.1.1];exact hj);rw [this];simp [hj]
theorem OwnV.slice {e : TypeId} {m : Nat} {w : World} {O : Nat → Prop} {v : Value} {n : Nat} {l : List Value} (h : OwnV e m w O v n l) : ∃ sp cap,v = .slice sp n cap ∧ n ≤ cap ∧ cap ≤ 9223372036854775807:=by
  rcases h.form with ⟨rfl,rfl,-⟩ | ⟨g,cap,cur,rfl,-,-,-,h4,h5,-⟩
  · exact ⟨none,0,rfl,by omega,by omega⟩
  · exact ⟨_,_,rfl,h4,by unfold maxLen at h5;exact h5⟩
theorem OwnV.of_block {e : TypeId} {m : Nat} {w w' : World} {O : Nat → Prop} {v : Value} {n : Nat} {l : List Value} (h : OwnV e m w O v n l) (hb : ∀ g,v.ownBlock = some g → w'.heap[g]? = w.heap[g]?) : OwnV e m w' O v n l:=by
  refine ⟨⟨h.1.1,?_⟩,h.2⟩;rcases h.1.2 with hn | ⟨g,cap,cur,rfl,hb',hg,r⟩
  · exact .inl hn
  · exact .inr ⟨g,cap,cur,rfl,hb',by rw [hb g rfl];exact hg,r⟩
theorem OwnV.lt {e : TypeId} {m : Nat} {w : World} {O : Nat → Prop} {v : Value} {n : Nat} {l : List Value} (h : OwnV e m w O v n l) {g : Nat} (hg : v.ownBlock = some g) : g < w.heap.size:=(World.ownsRow.lt h.1 g hg).2
theorem OwnV.own {e : TypeId} {m : Nat} {w : World} {O : Nat → Prop} {v : Value} {n : Nat} {l : List Value} (h : OwnV e m w O v n l) {g : Nat} (hg : v.ownBlock = some g) : O g:=h.2.2 g hg
theorem OwnV.keep {e : TypeId} {m : Nat} {w w' : World} {O : Nat → Prop} {v : Value} {n : Nat} {l : List Value} (h : OwnV e m w O v n l) {K : Nat → Prop} (hk : Keep K w w') (hK : ∀ g,v.ownBlock = some g → K g) : OwnV e m w' O v n l :=
  h.of_block fun g hg => hk.block g (hK g hg)
theorem OwnV.mono {e : TypeId} {m : Nat} {w : World} {O O' : Nat → Prop} {v : Value} {n : Nat} {l : List Value} (h : OwnV e m w O v n l) (hO : ∀ b,O b → O' b) : OwnV e m w O' v n l:=⟨h.1,h.2.1,fun g hg => hO g (h.2.2 g hg)⟩
theorem OwnV.alloc {e : TypeId} {m : Nat} {w : World} {O : Nat → Prop} {v : Value} {n : Nat} {l : List Value} (h : OwnV e m w O v n l) (o : Obj) : OwnV e m (w.alloc o) O v n l :=
  h.of_block fun g hg => Below.heap_alloc w o g (h.lt hg)
theorem OwnV.tag {e : TypeId} {m : Nat} {w : World} {O : Nat → Prop} {v : Value} {n : Nat} {l : List Value} (h : OwnV e m w O v n l) {g : Nat} (hg : v.ownBlock = some g) : ∃ cur,w.heap[g]? = some (.cells cur e (0,0)):=by
  rcases h.form with ⟨rfl,-⟩ | ⟨g',cap,cur,rfl,-,-,hg',-⟩
  · cases hg
  · cases hg;exact ⟨cur,hg'⟩
theorem OwnV.stored {e : TypeId} {m : Nat} {w : World} {O : Nat → Prop} {g n cap : Nat} {l : List Value} (h : OwnV e m w O (.slice (some ⟨g,0,none⟩) n cap) n l) (j : Nat) {u : Value} (hu : u.oneCell' = true) :
    OwnV e m (w.setCell ⟨g,j,none⟩ u) O (.slice (some ⟨g,0,none⟩) n cap) n (l.set j u) :=
  ⟨(World.ownsRow.stored h.1 j u).1,fun x hx => by
    rcases List.mem_or_eq_of_mem_set hx with h1 | rfl
    · exact h.2.1 x h1
    · exact hu,h.2.2⟩
theorem OwnV.free {e : TypeId} {m : Nat} {w : World} {O : Nat → Prop} {g n cap : Nat} {l : List Value} (h : OwnV e m w O (.slice (some ⟨g,0,none⟩) n cap) n l) (j : Nat) : w.frozen? ⟨g,j,none⟩ = false:=World.ownsRow.frozenAt h.1 j
theorem OwnV.at {e : TypeId} {m : Nat} {w : World} {O : Nat → Prop} {g n cap : Nat} {l : List Value} (h : OwnV e m w O (.slice (some ⟨g,0,none⟩) n cap) n l) (j : Nat) (hj : j < l.length) : w.cell? ⟨g,j,none⟩ = some (l.getD j undef):=by
  rw [World.ownsRow.cellAt h.1 j (by rw [← h.1.1];exact hj)];simp [hj]
structure ElemV (P : Program) (t e : TypeId) (m bytes : Nat) : Prop where
  ht : P.underlying t = some (.slice e)
  pos : 0 < m
  ex : ∃ i z,P.info? e = some i ∧ i.zero = some z ∧ i.size = m ∧ i.bytes = bytes ∧ z.cells.size = m
theorem ElemV.mk' {P : Program} {t e : TypeId} {m bytes : Nat} {z : Value} (ht : P.underlying t = some (.slice e)) (hi : (P.info? e).map (fun i => (i.zero,i.size,i.bytes)) = some (some z,m,bytes)) (hz : z.cells.size = m) (hp : 0 < m) : ElemV P t e m bytes :=
  ⟨ht,hp,let ⟨i,h1,h2,h3,h4⟩:=info_parts hi;⟨i,_,h1,h2,h3,h4,hz⟩⟩
theorem grown_keep {w w' : World} {r : Option Nat} (hg : w.grownBy w' r) : Keep (fun b => b < w.heap.size ∧ r ≠ some b) w w' :=
  ⟨hg.os,hg.tape,hg.output,hg.size,fun k hk => hg.block k hk.1 (fun e => hk.2 e.symm)⟩
theorem SlV.news {w : World} {O : Nat → Prop} {m n : Nat} {v : Value} {l : List Value} (h : SlV w O m v n l) :
    (v = .slice none 0 0 ∧ n = 0 ∧ l = []) ∨ ∃ ad cap,v = .slice (some ad) n cap ∧ n ≤ cap ∧ ∀ j u,l[j]? = some u → w.cell? (ad.add j) = some u:=by
  obtain ⟨h1,h2,sp,cap,h3,h4,h5,h6,h7⟩:=h;cases hsp : sp with
  | none =>
    have:=h6 hsp;have hn : n = 0:=by omega
    subst hn;exact .inl ⟨by rw [h3,hsp,this],rfl,List.eq_nil_of_length_eq_zero (by simpa using h1)⟩
  | some ad =>
    refine .inr ⟨ad,cap,by rw [h3,hsp],h4,fun j u hu => ?_⟩;have hj : j < l.length:=by
      rcases Nat.lt_or_ge j l.length with h | h
      · exact h
      · simp [h] at hu
    have hn : 0 < n:=by
      rcases Nat.eq_zero_or_pos n with h0 | h0
      · subst h0;simp at h1;rw [h1] at hj;cases hj
      · exact h0
    obtain ⟨b,o,e,-,-,hr⟩:=h7 hn;rw [hsp] at e;cases e
    rw [addr_add,hr j hj]
    simpa [hj] using hu
theorem run_appV {P : Program} {w : World} {t ty e : TypeId} {m bytes : Nat} (E : ElemV P t e m bytes) {O O2 : Nat → Prop} {v : Value} {n : Nat} {l : List Value} (hown : OwnV e m w O v n l)
    {x : Value} {n2 : Nat} {l2 : List Value} (hx : SlV w O2 m x n2 l2) (h63 : n + n2 ≤ maxLen) (hby : (n + n2) * bytes ≤ 140737488355328) :
    ∃ v' w',(Builtin.append_ #[t,t] ty #[v,x]).run P w = .ok v' w' ∧ OwnV e m w' (fun g => O g ∨ g = w.heap.size) v' (n + n2) (l ++ l2) ∧ w.grownBy w' v.ownBlock ∧ (∀ g,v'.ownBlock = some g → v.ownBlock = some g ∨ g = w.heap.size):=by
  obtain ⟨i,z,hi,hz,hz1,hz2,hz3⟩:=E.ex;rcases hx.news with ⟨rfl,rfl,rfl⟩ | ⟨ad,cap,rfl,hc,hn⟩
  · refine ⟨v,w,run_append_owned_none (P:=P) (w:=w) 0 t ty e i m E.ht hi v n _ hown.1,?_,World.grownBy.refl _ _,fun g hg => .inl hg⟩
    rw [List.append_nil];exact hown.mono (fun _ h => .inl h)
  · rcases Nat.eq_zero_or_pos n2 with h0 | h0
    · subst h0
      have hl2 : l2 = []:=List.eq_nil_of_length_eq_zero (by simpa using hx.1);subst hl2;obtain ⟨v',w',hr,h2,h3,h4,h5⟩:=run_append_own_at (P:=P) w 0 t ty e i z m bytes E.ht hi hz hz1 hz2 hz3 E.pos v n l hown.1 ad 0 cap [] (by simp) (by simp) (by simp) h63 hby (Nat.zero_le _);have h6 : ∀ g,v'.ownBlock = some g → v.ownBlock = some g ∨ g = w.heap.size:=by
        intro g hg;rcases h5 with h5 | h5
        · exact .inl (by rw [← h5];exact hg)
        · rw [h5] at hg;cases hg;exact .inr rfl
      exact ⟨v',w',hr,⟨h2,hown.2.1.append hx.2.1,fun g hg => (h6 g hg).imp (hown.2.2 g) id⟩,h3,h6⟩
    · obtain ⟨g,c,w',hr,h2,h3,h4,h5⟩:=run_append_lies (P:=P) w t ty 0 e i z m bytes E.ht hi hz hz1 hz2 hz3 E.pos v n l hown.1 ad n2 cap l2 hx.1 hn hx.2.1 h0 h63 hby (Nat.zero_le _) w.heap.size rfl
      have h6 : ∀ g',(Value.slice (some ⟨g,0,none⟩) (n + n2) c).ownBlock = some g' → v.ownBlock = some g' ∨ g' = w.heap.size:=by
        intro g' hg;cases hg;exact h4
      exact ⟨_,w',hr,⟨h2,hown.2.1.append hx.2.1,fun g hg => (h6 g hg).imp (hown.2.2 g) id⟩,h3,h6⟩
theorem wp_appV {P : Program} {w : World} {o : Oper} {a : Act} {K : Act → World → Prop} {Q : Exit → Act → World → Prop} (s x : Operand) (t : TypeId)
    (ho : o.op = .call { callee:=.builtin .append,args:=#[s,x],argTypes:=#[t,t] }) {e : TypeId} {m bytes : Nat} (E : ElemV P t e m bytes) {O O2 : Nat → Prop} {v : Value} {n : Nat} {l : List Value} (hs : a.eval s = v) (hown : OwnV e m w O v n l)
    {xv : Value} {n2 : Nat} {l2 : List Value} (hx : a.eval x = xv) (hsl : SlV w O2 m xv n2 l2) {n' : Nat} (hn : n + n2 = n') (h63 : n' ≤ maxLen) (hby : n' * bytes ≤ 140737488355328)
    (h : ∀ sp c w',OwnV e m w' (fun g => O g ∨ g = w.heap.size) (.slice sp n' c) n' (l ++ l2) → w.grownBy w' v.ownBlock → (∀ g,(Value.slice sp n' c).ownBlock = some g → v.ownBlock = some g ∨ g = w.heap.size) → K (a.put o.dst (.slice sp n' c)) w') : o.wp P a w K Q:=by
  subst hn;obtain ⟨v',w',hr,h2,h3,h4⟩:=run_appV (P:=P) (ty:=o.type) E hown hsl h63 hby;have hv : ∃ sp c,v' = .slice sp (n + n2) c:=by
    rcases h2.form with ⟨rfl,h0,-⟩ | ⟨g,cap,cur,rfl,-⟩
    · exact ⟨none,0,by rw [h0]⟩
    · exact ⟨_,_,rfl⟩
  obtain ⟨sp,c,rfl⟩:=hv;unfold Oper.wp execOp;simp only [ho,resolve,invoke,builtin,Sem.run_bind,Sem.run_pure,Result.andThen_ok,List.map_toArray,List.map_cons,List.map_nil,hs,hx,hr];exact h sp c w' h2 h3 h4
theorem wpList_appV {P : Program} {w : World} {ops : Array Oper} {rest : List Oper} {o : Oper} {a : Act} {Q : Exit → Act → World → Prop} (hgd : o.guard = none) (s x : Operand) (t : TypeId)
    (ho : o.op = .call { callee:=.builtin .append,args:=#[s,x],argTypes:=#[t,t] }) {e : TypeId} {m bytes : Nat} (E : ElemV P t e m bytes) {O O2 : Nat → Prop} {v : Value} {n : Nat} {l : List Value} (hs : a.eval s = v) (hown : OwnV e m w O v n l)
    {xv : Value} {n2 : Nat} {l2 : List Value} (hx : a.eval x = xv) (hsl : SlV w O2 m xv n2 l2) {n' : Nat} (hn : n + n2 = n') (h63 : n' ≤ maxLen) (hby : n' * bytes ≤ 140737488355328)
    (h : ∀ sp c w',OwnV e m w' (fun g => O g ∨ g = w.heap.size) (.slice sp n' c) n' (l ++ l2) → w.grownBy w' v.ownBlock → (∀ g,(Value.slice sp n' c).ownBlock = some g → v.ownBlock = some g ∨ g = w.heap.size) → wpList P ops Q rest (a.put o.dst (.slice sp n' c)) w') : wpList P ops Q (o :: rest) a w :=
  wpList_plain hgd fun _ hK => wp_appV s x t ho E hs hown hx hsl hn h63 hby fun sp c w' h2 h3 h4 => hK _ _ (h sp c w' h2 h3 h4)
theorem step_appV {P : Program} {w : World} {ops : Array Oper} {o : Oper} {a : Act} {K : Act → World → Prop} {Q : Exit → Act → World → Prop} {F : Prop} (hgd : o.guard = none) (s x : Operand) (t : TypeId)
    (ho : o.op = .call { callee:=.builtin .append,args:=#[s,x],argTypes:=#[t,t] }) {e : TypeId} {m bytes : Nat} (E : ElemV P t e m bytes) {O O2 : Nat → Prop} {v : Value} {n : Nat} {l : List Value} (hs : a.eval s = v) (hown : OwnV e m w O v n l)
    {xv : Value} {n2 : Nat} {l2 : List Value} (hx : a.eval x = xv) (hsl : SlV w O2 m xv n2 l2) {n' : Nat} (hn : n + n2 = n') (h63 : n' ≤ maxLen) (hby : n' * bytes ≤ 140737488355328)
    (h : ∀ sp c w',OwnV e m w' (fun g => O g ∨ g = w.heap.size) (.slice sp n' c) n' (l ++ l2) → w.grownBy w' v.ownBlock → (∀ g,(Value.slice sp n' c).ownBlock = some g → v.ownBlock = some g ∨ g = w.heap.size) → K (a.put o.dst (.slice sp n' c)) w') :
    if Region.wanted o (yielded ops a.tmps) = true then Oper.wp P o a w K Q else F:=by
  rw [if_pos (by simp [Region.wanted,hgd])];exact wp_appV s x t ho E hs hown hx hsl hn h63 hby h
theorem step_growV {P : Program} {w : World} {ops : Array Oper} {o : Oper} {a : Act} {K : Act → World → Prop} {Q : Exit → Act → World → Prop} {F : Prop} (hgd : o.guard = none) (s x : Operand) (t : TypeId)
    (ho : o.op = .call { callee:=.builtin .append,args:=#[s,x],argTypes:=#[t,t] }) {e : TypeId} {m bytes : Nat} (E : ElemV P t e m bytes) {O O2 : Nat → Prop} {sp : Option Addr} {n cc : Nat} {l : List Value} (hs : a.eval s = .slice sp n n) (hown : SlV w O m (.slice sp n cc) n l)
    {xv : Value} {n2 : Nat} {l2 : List Value} (hx : a.eval x = xv) (hsl : SlV w O2 m xv n2 l2) (h0 : 0 < n2) {n' : Nat} (hn : n + n2 = n') (h63 : n' ≤ maxLen) (hby : n' * bytes ≤ 140737488355328)
    (h : ∀ sp c w',OwnV e m w' (fun g => w.heap.size ≤ g) (.slice sp n' c) n' (l ++ l2) → w.grownBy w' none → K (a.put o.dst (.slice sp n' c)) w') :
    if Region.wanted o (yielded ops a.tmps) = true then Oper.wp P o a w K Q else F:=by
  subst hn;obtain ⟨i,z,hi,hz,hz1,hz2,hz3⟩:=E.ex;rcases hsl.news with ⟨rfl,rfl,-⟩ | ⟨ad,cap,rfl,hc,hnw⟩
  · omega
  · refine step_append_grows hgd s x t ho e i z m bytes E.ht hi hz hz1 hz2 hz3 E.pos sp n n l hs ?_ hown.1 ?_ ad n2 cap l2 hx hsl.1 hnw hsl.2.1 (by omega) h63 hby ?_
    · intro e0;subst e0
      rcases hown.news with ⟨-,h1,-⟩ | ⟨_,_,h1,_⟩
      · exact ⟨h1,h1⟩
      · cases h1
    · intro b hb;subst hb
      rcases hown.news with ⟨h1,-,-⟩ | ⟨ad',cp,h1,-,h2⟩
      · cases h1
      · injection h1 with h1 _ _;cases h1;exact h2
    · intro v' w' h1 h2
      rcases h1.2 with ⟨-,h3⟩ | ⟨g,cap',cur,rfl,hb,r⟩
      · omega
      · exact h _ _ w' ⟨⟨h1.1,.inr ⟨g,cap',cur,rfl,Nat.zero_le _,r⟩⟩,hown.2.1.append hsl.2.1,fun g' e => by cases e;exact hb⟩ h2
theorem SlV.fresh (w : World) (O : Nat → Prop) (T : TypeId) {m n : Nat} {l : List Value} (hl : l.length = n * m) (h1 : Ones l) (hO : O w.heap.size) (hn : n ≤ maxLen) :
    SlV (w.alloc (.cells l.toArray T)) O m (.slice (some ⟨w.heap.size,0,none⟩) n n) n l :=
  ⟨hl,h1,_,n,rfl,Nat.le_refl _,by unfold maxLen at hn;exact hn,(fun h => by cases h),fun _ => ⟨_,0,rfl,by simp,hO,RowV.of_vblk (VBlk.mk w l T)⟩⟩
theorem OwnV.empty (w : World) (e : TypeId) (m : Nat) : OwnV e m (w.alloc (.cells #[] e)) (fun g => g = w.heap.size) (.slice (some ⟨w.heap.size,0,none⟩) 0 0) 0 [] :=
  ⟨⟨by simp,.inr ⟨w.heap.size,0,#[],rfl,Nat.zero_le _,heap_alloc_new _ _,by omega,by unfold maxLen;omega,by simp,by simp⟩⟩,fun _ h => (List.not_mem_nil h).elim,fun g h => by cases h;rfl⟩
theorem belowN {B : Nat} {w w' : World} (h : Below B w w') (n : Nat) : Below B w (w'.drewN n):=((Keep.of_below h).drewN n).below
theorem str_eq {a b : ByteArray} (h : a.toList = b.toList) : a = b:=by
  rw [ByteArray.toList_eq,ByteArray.toList_eq] at h;exact WideShapes.bytes_inj h
theorem str_ne {a b : ByteArray} (h : a ≠ b) : ¬ a.toList = b.toList:=fun e => h (str_eq e)
theorem results_cell_tmp {P : Program} {fn : Func} {p q : Tmp} {ty : TypeId} (h : fn.results = #[.cell p ty,.tmp q]) (tmps : Array Value) (w : World) (g : Nat) (t : TypeId) (cs : Array Value) (fr : Nat × Nat) (d : TypeDesc) (x : Value)
    (hp : tmps.getD p undef = .pointer (some ⟨g,0,none⟩)) (hg : w.heap[g]? = some (.cells cs t fr))
    (hu : P.underlying ty = some d) (hd : (match d with | .struct _ | .array _ _ => true | _ => false) = true) (hi : (P.info? ty).map (·.size) = some cs.size) (hx : tmps.getD q undef = x) :
    (results fn tmps).run P w = .ok (.tuple #[.agg cs,x]) w:=by
  have hp' : tmps[p]?.getD undef = .pointer (some ⟨g,0,none⟩):=by simpa using hp
  have hx' : tmps[q]?.getD undef = x:=by simpa using hx
  simp [results,h,hp',hx',asAddr,run_loadVar_row w g t ty cs fr d hg hu hd hi]
open Go.Maps
def heldR (v : Value) : Option (DataW Value × List MemPlace):=some (.held v,[])
def orD (x : Option Value) (z : DataW Value) : DataW Value:=match x with | some v => .held v | none => z
def MF {κ : Type} (P : Program) (k : TypeId) (mk : κ → Value) (w : World) (b n : Nat) (F : κ → Option Value) : Prop :=
  ∃ D,w.ownsMap P k heldR b n D ∧ ∀ x kl,keyOf P k (mk x) = some kl → ∀ z,D.atKey kl z = orD (F x) z
def mfPut {κ : Type} [DecidableEq κ] (F : κ → Option Value) (key : κ) (d : Value) : κ → Option Value:=fun x => if x = key then some d else F x
def mfDel {κ : Type} [DecidableEq κ] (F : κ → Option Value) (key : κ) : κ → Option Value:=fun x => if x = key then none else F x
theorem mfPut_same {κ : Type} [DecidableEq κ] (F : κ → Option Value) (key : κ) (d : Value) : mfPut F key d key = some d:=by simp [mfPut]
theorem mfPut_other {κ : Type} [DecidableEq κ] (F : κ → Option Value) {key x : κ} (d : Value) (h : x ≠ key) : mfPut F key d x = F x:=by simp [mfPut,h]
theorem mfDel_same {κ : Type} [DecidableEq κ] (F : κ → Option Value) (key : κ) : mfDel F key key = none:=by simp [mfDel]
theorem mfDel_other {κ : Type} [DecidableEq κ] (F : κ → Option Value) {key x : κ} (h : x ≠ key) : mfDel F key x = F x:=by simp [mfDel,h]
section
variable {κ : Type} {P : Program} {k : TypeId} {mk : κ → Value} {w : World} {b n : Nat} {F : κ → Option Value}
theorem MF.lt (h : MF P k mk w b n F) : b < w.heap.size:=by obtain ⟨D,h,_⟩:=h;exact h.lt
theorem MF.made (P : Program) (k : TypeId) (mk : κ → Value) (w : World) : MF P k mk (w.alloc (.map #[] 0)) w.heap.size 0 (fun _ => none) :=
  ⟨_,World.ownsMap_made w P k heldR,fun _ _ _ _ => rfl⟩
theorem MF.mono (h : MF P k mk w b n F) {n' : Nat} (hn : n ≤ n') : MF P k mk w b n' F:=by obtain ⟨D,h,hF⟩:=h;exact ⟨D,h.mono hn,hF⟩
theorem MF.of_block {w' : World} (h : MF P k mk w b n F) (hb : w'.heap[b]? = w.heap[b]?) : MF P k mk w' b n F:=by
  obtain ⟨D,⟨es,clock,h1,h2⟩,hF⟩:=h;exact ⟨D,⟨es,clock,hb.trans h1,h2⟩,hF⟩
theorem MF.keep {K : Nat → Prop} {w' : World} (h : MF P k mk w b n F) (hk : Keep K w w') (hb : K b) : MF P k mk w' b n F:=h.of_block (hk.block b hb)
theorem MF.below {B : Nat} {w' : World} (h : MF P k mk w b n F) (hk : Below B w w') (hb : b < B) : MF P k mk w' b n F:=h.of_block (hk.block b hb)
theorem MF.alloc (h : MF P k mk w b n F) (o : Obj) : MF P k mk (w.alloc o) b n F:=h.of_block (Below.heap_alloc w o b h.lt)
theorem MF.other (h : MF P k mk w b n F) (a : Addr) (v : Value) (hb : b ≠ a.block) : MF P k mk (w.setCell a v) b n F:=h.of_block (Below.heap_setCell w a v b hb)
theorem MF.drewN (h : MF P k mk w b n F) (m : Nat) : MF P k mk (w.drewN m) b n F:=h
theorem MF.congr (h : MF P k mk w b n F) {F' : κ → Option Value} (hF : ∀ x,F' x = F x) : MF P k mk w b n F':=by
  obtain ⟨D,h,h'⟩:=h;exact ⟨D,h,fun key kl hk z => by rw [hF key];exact h' key kl hk z⟩
theorem MF.look {t e : TypeId} (h : MF P k mk w b n F) (K : Keyed P k) (ht : P.underlying t = some (.map k e)) {z : Value} (hz : (zeroValue e).run P w = .ok z w)
    {key : κ} {kl : Lit} (hkey : keyOf P k (mk key) = some kl) : (Instr.lookup t (.map (some b)) (mk key) false).run P w = .ok ((F key).getD z) w:=by
  obtain ⟨D,h,hF⟩:=h;obtain ⟨v,ps,h1,h2⟩:=h.lookup K ht hz (zd:=.held z) (zp:=[]) rfl hkey;rw [hF key kl hkey] at h2;rw [h1];cases hx : F key with
  | none => rw [hx] at h2;simp [orD,heldR] at h2;simp [h2.1]
  | some y => rw [hx] at h2;simp [orD,heldR] at h2;simp [h2.1]
theorem MF.look2 {t e : TypeId} (h : MF P k mk w b n F) (K : Keyed P k) (ht : P.underlying t = some (.map k e)) {z : Value} (hz : (zeroValue e).run P w = .ok z w)
    {key : κ} {kl : Lit} (hkey : keyOf P k (mk key) = some kl) : (Instr.lookup t (.map (some b)) (mk key) true).run P w = .ok (.tuple #[(F key).getD z,.bool (F key).isSome]) w:=by
  obtain ⟨D,h,hF⟩:=h;obtain ⟨v,ps,h1,h2⟩:=h.look_ok K ht hz (zd:=.held z) (zp:=[]) rfl hkey;have h3:=hF key kl hkey;rw [h3] at h2;rw [h1];cases hx : F key with
  | none =>
    rw [hx] at h2 h3;simp [orD,heldR] at h2;rw [Maps.has_false_of_atKey (fun z => h3 z)];simp [h2.1]
  | some y =>
    rw [hx] at h2 h3;simp [orD,heldR] at h2;rw [Maps.has_true_of_atKey (fun z => h3 z)];simp [h2.1]
theorem turned_keep {w w' : World} {b : Nat} (h : w.mapTurned w' b) : Keep (fun x => x ≠ b) w w':=by
  have g:=h.grown;refine ⟨g.os,g.tape,g.output,g.size,fun i hi => ?_⟩;obtain ⟨es,clock,es',clock',hb,rfl⟩:=h;exact ChangeMaps.heap_setBlock_other hb _ hi
theorem MF.put [DecidableEq κ] {t e : TypeId} (hmk : ∀ x y,mk x = mk y → x = y) (h : MF P k mk w b n F) (K : Keyed P k) (ht : P.underlying t = some (.map k e)) (hn : n < maxLen) {key : κ} (val : Value) {kl : Lit}
    (hkey : keyOf P k (mk key) = some kl) : ∃ w',(Instr.mapUpdate t (.map (some b)) (mk key) val).run P w = .ok () w' ∧ MF P k mk w' b (n + 1) (mfPut F key val) ∧ Keep (fun x => x ≠ b) w w':=by
  obtain ⟨D,h,hF⟩:=h;obtain ⟨w',h1,h2,h3⟩:=h.store K ht hn hkey (val:=val) (d:=.held val) (ps:=[]) rfl;refine ⟨w',h1,⟨_,h2,fun key' kl' hk' z => ?_⟩,turned_keep h3⟩
  by_cases e : key' = key
  · subst e
    rw [hkey] at hk';cases hk';rw [mfPut_same,atKey_put_same h.isMap (K.key hkey)];rfl
  · rw [mfPut_other _ _ e,atKey_put_other (fun e' => e (hmk _ _ (K.inj hk' (by rw [hkey,e']))))]
    exact hF key' kl' hk' z
theorem MF.del [DecidableEq κ] {t e : TypeId} (hmk : ∀ x y,mk x = mk y → x = y) (h : MF P k mk w b n F) (K : Keyed P k) (ht : P.underlying t = some (.map k e)) {key : κ} {kl : Lit} (hkey : keyOf P k (mk key) = some kl) (ty : TypeId) :
    ∃ w',(Builtin.delete_ #[t,k] ty #[.map (some b),mk key]).run P w = .ok (.tuple #[]) w' ∧ MF P k mk w' b n (mfDel F key) ∧ Keep (fun x => x ≠ b) w w':=by
  obtain ⟨D,h,hF⟩:=h;obtain ⟨w',h1,h2,h3⟩:=h.drop K ht hkey ty;refine ⟨w',h1,⟨_,h2,fun key' kl' hk' z => ?_⟩,turned_keep h3⟩
  by_cases e : key' = key
  · subst e
    rw [hkey] at hk';cases hk';rw [mfDel_same,atKey_del_same];rfl
  · rw [mfDel_other _ e,atKey_del_other (fun e' => e (hmk _ _ (K.inj hk' (by rw [hkey,e']))))]
    exact hF key' kl' hk' z
end
theorem step_del {P : Program} {ops : Array Oper} {o : Oper} {a : Act} {w w' : World} {K : Act → World → Prop} {Q : Exit → Act → World → Prop} {F : Prop} (hg : o.guard = none) (m x : Operand) (t k : TypeId)
    (hop : o.op = Op.call { callee:=Callee.builtin Builtin.delete,args:=#[m,x],argTypes:=#[t,k] }) (mv xv : Value) (hm : a.eval m = mv) (hx : a.eval x = xv)
    (hrun : (Builtin.delete_ #[t,k] o.type #[mv,xv]).run P w = .ok (.tuple #[]) w') (h : K (a.put o.dst (.tuple #[])) w') : if Region.wanted o (yielded ops a.tmps) = true then Oper.wp P o a w K Q else F:=by
  rw [if_pos (by simp [Region.wanted,hg])];unfold Oper.wp;simp [execOp,hop,resolve,invoke,builtin,hm,hx,hrun,Result.andThen]
  exact h
namespace Cat
set_option maxRecDepth 100000
structure Tb where
  name : ByteArray
  dropped : Bool
  fs : List ByteArray
def noTb : Tb:=⟨ByteArray.empty,false,[]⟩
def isNm (s : ByteArray) : Bool:=decide (1 ≤ s.size) && decide (s.size ≤ 40)
def IsTab (eF : TypeId) (w : World) (O : Nat → Prop) (cells : List Value) (i : Nat) (t : Tb) : Prop :=
  cells.getD (i * 4) undef = .int .i64 (i + 1 : Nat) ∧ cells.getD (i * 4 + 1) undef = .string t.name ∧ cells.getD (i * 4 + 2) undef = .bool t.dropped ∧
    OwnV eF 1 w O (cells.getD (i * 4 + 3) undef) t.fs.length (t.fs.map Value.string)
def Tabs (eT eF : TypeId) (w : World) (O : Nat → Prop) (tv : Value) (L : List Tb) : Prop :=
  ∃ cells,OwnV eT 4 w O tv L.length cells ∧ ∀ i,i < L.length → IsTab eF w O cells i (L.getD i noTb)
structure Good (L : List Tb) : Prop where
  len : L.length ≤ 64
  each : ∀ i,i < L.length → (L.getD i noTb).name.size ≤ 40 ∧ (L.getD i noTb).fs.length ≤ 16 ∧ (∀ f ∈ (L.getD i noTb).fs,f.size ≤ 40) ∧ ((L.getD i noTb).dropped = true → (L.getD i noTb).fs = [])
def mk (x : Int × ByteArray) : Value:=.agg #[.int .i64 x.1,.string x.2]
def mem (l : List ByteArray) (f : ByteArray) : Bool:=l.any fun g => decide (g = f)
theorem mem_iff (l : List ByteArray) (f : ByteArray) : mem l f = true ↔ f ∈ l:=by unfold mem;simp
theorem mem_nil (f : ByteArray) : mem [] f = false:=rfl
theorem mem_snoc (l : List ByteArray) (g f : ByteArray) : mem (l ++ [g]) f = (mem l f || decide (g = f)):=by unfold mem;simp
def has (L : List Tb) (id : Int) (f : ByteArray) : Bool:=decide (1 ≤ id) && decide (id ≤ L.length) && mem (L.getD (id - 1).toNat noTb).fs f
def there (L : List Tb) (id : Int) : Bool:=decide (1 ≤ id) && decide (id ≤ L.length) && !(L.getD (id - 1).toNat noTb).dropped
def hasF (L : List Tb) (x : Int × ByteArray) : Option Value:=if has L x.1 x.2 = true then some (.bool true) else none
def Bits (dr : Nat) (L : List Tb) : Prop:=dr < 18446744073709551616 ∧ ∀ i,dr.testBit i = (L.getD i noTb).dropped
def IsCat (w : World) (c : Nat) (O : Nat → Prop) (n : Nat) (L : List Tb) : Prop :=
  ∃ tv dr mb,VBlk 113 w c [tv,.int .u64 (dr : Nat),.map (some mb)] ∧ O c ∧ O mb ∧ (∀ b,O b → b < w.heap.size) ∧
    Tabs 107 153 w O tv L ∧ Bits dr L ∧ MF Tryz.prog 134 mk w mb n (hasF L) ∧ Good L
set_option maxHeartbeats 400000 in
theorem isName_any (s : ByteArray) (w : World) : Calls Tryz.prog 80 #[.string s] w fun e w' => e = .returned (.bool (isNm s)) ∧ w = w':=by
  by_cases h1 : 1 ≤ s.size
  · have h1' : (1 : Int) ≤ s.size:=by omega
    go_enter Tryz.func80,Tryz.ntmps80
    go_wp2
    go_ret
    exact ⟨by simp [isNm,h1];omega,rfl⟩
  · have h1' : decide ((1 : Int) ≤ s.size) = false:=decide_eq_false (by omega)
    go_enter Tryz.func80,Tryz.ntmps80
    go_wp2
    go_ret
    exact ⟨by simp [isNm,h1],rfl⟩
theorem elemIndex : ElemV Tryz.prog 105 153 1 16:=ElemV.mk' (z:=.agg #[.string ByteArray.empty]) Tryz.underlying105 (by kernel_rfl) rfl (by omega)
set_option maxHeartbeats 400000 in
theorem clone_any {O : Nat → Prop} {v : Value} {n : Nat} {l : List Value} (w : World) (h : SlV w O 1 v n l) (hn : n ≤ 1000000) :
    Calls Tryz.prog 90 #[v] w fun e w' => ∃ sp c,e = .returned (.slice sp n c) ∧ OwnV 153 1 w' (fun b => w.heap.size ≤ b) (.slice sp n c) n l ∧ Below w.heap.size w w':=by
  rcases h.news with ⟨rfl,rfl,rfl⟩ | ⟨ad,cap,rfl,hc,-⟩
  · go_enter Tryz.func90,Tryz.ntmps90
    have hnil:=@Lib.run_eql_slice_nil
    go_wp2
    go_ret
    exact ⟨_,_,rfl,OwnV.nil _ _ _ _,Below.refl _ _⟩
  · have hsl : SlV (w.alloc (.cells #[] 153)) O 1 (.slice (some ad) n cap) n l:=h.below ((Below.refl _ _).alloc (Nat.le_refl _) _) (Nat.le_refl _)
    have H:=Hid2.mk hsl;have qs : ∀ (w : World) ad n c,(binOp .eql 105 (.slice (some ad) n c) (.slice none 0 0)).run Tryz.prog w = .ok (.bool false) w:=fun w ad n c => Lib.run_eql_slice_nil w 105 153 (some ad) n c 0 0 Tryz.underlying105;clear h hsl
    go_enter Tryz.func90,Tryz.ntmps90
    go_wp2_with (refine wpList_appV rfl (.tmp 5) (.tmp 6) 105 rfl elemIndex rfl (OwnV.empty _ _ _) rfl H.out (n':=n) (Nat.zero_add _) (by unfold maxLen;omega) (by omega) ?_;intro sp c w1 hown hg hat)
    go_ret
    refine ⟨_,_,rfl,?_,?_⟩
    · rw [List.nil_append] at hown
      exact hown.mono (fun b hb => by rcases hb with rfl | rfl <;> simp)
    · have:=(grown_keep hg)
      exact (((Below.refl _ w).alloc (Nat.le_refl _) _).trans (this.mono (fun k (hk : k < w.heap.size) => ⟨by simp;omega,fun e => by have e2 : w.heap.size = k:=Option.some.inj e;omega⟩)).below)
theorem zeroTable (w : World) : (zeroValue 107).run Tryz.prog w = .ok (.agg #[.int .i64 0,.string ByteArray.empty,.bool false,.slice none 0 0]) w:=by kernel_rfl
theorem infoTable : (Tryz.prog.info? 107).map (·.size) = some 4:=by kernel_rfl
set_option maxHeartbeats 800000 in
theorem own_any {O : Nat → Prop} {v : Value} {n : Nat} {l : List Value} (id : Int) (nm : ByteArray) (d : Bool) (w : World) (h : SlV w O 1 v n l) (hn : n ≤ 1000000) :
    Calls Tryz.prog 66 #[.agg #[.int .i64 id,.string nm,.bool d,v]] w fun e w' => ∃ sp c,e = .returned (.agg #[.int .i64 id,.string nm,.bool d,.slice sp n c]) ∧ OwnV 153 1 w' (fun b => w.heap.size ≤ b) (.slice sp n c) n l ∧ Below w.heap.size w w':=by
  have hz:=zeroTable;have hone : ∀ sp c,(#[.int .i64 id,.string nm,.bool d,.slice sp n c] : Array Value).all (·.oneCell') = true:=fun _ _ => by simp [Value.oneCell']
  have hb : Below w.heap.size w ((w.alloc (.cells #[.int .i64 id,.string nm,.bool d,v] 107)).alloc (.cells #[.int .i64 0,.string ByteArray.empty,.bool false,.slice none 0 0] 107)):=((Below.refl _ _).alloc (Nat.le_refl _) _).alloc (by simp) _;have hs1:=h.below hb (Nat.le_refl _);have H:=Hid2.mk hs1;clear h hb hs1
  go_enter Tryz.func66,Tryz.ntmps66
  go_wp2_with fail
  refine (clone_any _ H.out hn).mono ?_;rintro e w1 ⟨sp,c,rfl,hown,hb1⟩;obtain ⟨k1,k2,hbw,hsz⟩:=two_alloc hb1;have k1' : VBlk 107 w1 w.heap.size [.int .i64 id,.string nm,.bool d,v]:=k1;have k2' : VBlk 107 w1 (w.heap.size + 1) [.int .i64 0,.string ByteArray.empty,.bool false,.slice none 0 0]:=k2;have k3:=k1'.set 3 (.slice sp n c);have c0:=k1'.cell 3 (by simp);have f0:=k1'.free 3;have k4 : VBlk 107 (w1.setCell ⟨w.heap.size,3,none⟩ (.slice sp n c)) (w.heap.size + 1) [.int .i64 0,.string ByteArray.empty,.bool false,.slice none 0 0]:=k2'.other _ _ (by show w.heap.size + 1 ≠ w.heap.size;omega);have K3:=Hid2.mk k3;have K4:=Hid2.mk k4;clear k1 k2 k1' k2' k3 k4 hb1
  go_wp2_with (first | (refine wpList_load_row rfl 107 (.tmp 1) rfl w.heap.size rfl 107 #[.int .i64 id,.string nm,.bool d,.slice sp n c] (0,0) _ K3.out Tryz.underlying107 rfl infoTable ?_) | (refine wpList_store_row rfl 107 (.tmp 2) (.tmp 7) rfl (w.heap.size + 1) #[.int .i64 id,.string nm,.bool d,.slice sp n c] rfl rfl 107 #[.int .i64 0,.string ByteArray.empty,.bool false,.slice none 0 0] K4.out infoTable rfl (hone _ _) ?_))
  refine bodyPost_ret (results_cell_row rfl _ _ (w.heap.size + 1) 107 #[.int .i64 id,.string nm,.bool d,.slice sp n c] (0,0) _ rfl (setRow_heap _ _ _ _ _ _ K4.out) Tryz.underlying107 rfl infoTable) rfl ⟨sp,c,rfl,?_,?_⟩
  · refine (hown.of_block fun g hg => ?_).mono (fun b (hb : _ ≤ b) => ?_)
    · have h1 : ((w.alloc _).alloc _).heap.size ≤ g:=hown.own hg
      have h2 : w.heap.size + 2 ≤ g:=by simpa using h1
      rw [Go.setRow_other _ _ _ _ (by omega),Below.heap_setCell _ _ _ _ (by show g ≠ w.heap.size;omega)]
    · have h2 : w.heap.size + 2 ≤ b:=by simpa using hb
      omega
  · exact below_setRow (hbw.setCell (Nat.le_refl _) _) (by omega) _
end Cat
namespace Cat
set_option maxRecDepth 100000 in
theorem laid : laidOutB Tryz.prog = true:=by kernel_rfl
set_option maxRecDepth 100000 in
theorem keyRow : (134 : TypeId) < Tryz.prog.types.size:=of_decide_eq_true (by kernel_rfl)
theorem keyWide : (match Tryz.prog.underlying 134 with | some (.array _ _) | some (.struct _) => true | _ => false) = true:=by rw [Tryz.underlying134]
set_option maxRecDepth 100000 in
theorem keyed : Keyed Tryz.prog 134:=Keyed.of_law (deep_law_laid laid (m:=2) (by omega) keyRow (by kernel_rfl) keyWide)
def okKey (x : Int × ByteArray) : Prop:=(Lit.int .i64 x.1).wf = true ∧ x.2.size ≤ maxLen
theorem keyType : Tryz.prog.keyType 134 = true:=by kernel_rfl
theorem keyCells : Tryz.prog.cellsOf 134 = 2:=by kernel_rfl
theorem intCells : Tryz.prog.cellsOf 3 = 1:=by kernel_rfl
theorem strCells : Tryz.prog.cellsOf 9 = 1:=by kernel_rfl
set_option maxRecDepth 100000 in
theorem deepEnough : Tryz.prog.types.size + 1 = (Tryz.prog.types.size - 1) + 1 + 1:=of_decide_eq_true (by kernel_rfl)
theorem keyOf_pair {P : Program} {k ti ts : TypeId} {f0 f1 : Field} (hk : P.underlying k = some (.struct #[f0,f1])) (hi : P.underlying ti = some (.int .i64)) (hs : P.underlying ts = some .string)
    (t0 : f0.type = ti) (o0 : f0.offset = 0) (n0 : (f0.name != "_") = true) (t1 : f1.type = ts) (o1 : f1.offset = 1) (n1 : (f1.name != "_") = true) (hkt : P.keyType k = true) (hc : P.cellsOf k = 2) (ci : P.cellsOf ti = 1) (cs : P.cellsOf ts = 1)
    {d : Nat} (hd : P.types.size + 1 = d + 1 + 1) (x : Int × ByteArray) (h1 : (Lit.int .i64 x.1).wf = true) (h2 : x.2.size ≤ maxLen) : keyOf P k (mk x) = some (.string (keyBytes [.int .i64 x.1,.string x.2.data.toList])):=by
  have e1 : (mk x).formed P k = true:=by
    unfold Value.formed mk;simp only [hk,hc]
    rfl
  have e3 : P.keyLits (d + 1) ti [.int .i64 x.1] = some [.int .i64 x.1]:=by
    unfold Program.keyLits;rw [hi];exact if_pos ⟨rfl,h1⟩
  have e4 : P.keyLits (d + 1) ts [.string x.2] = some [.string x.2.data.toList]:=by
    unfold Program.keyLits;rw [hs];exact if_pos h2
  have e2 : P.keyLits (d + 1 + 1) k (mk x).cells.toList = some [.int .i64 x.1,.string x.2.data.toList]:=by
    unfold Program.keyLits;rw [hk];simp only [mk,Value.cells,hc,t0,t1,o0,o1,n0,n1,ci,cs,List.length_cons,List.length_nil,List.mapM_cons,List.mapM_nil,List.drop_zero,List.drop_succ_cons,List.take_succ_cons,List.take_zero,e3,e4,List.all_cons,List.all_nil,Bool.and_self,Array.all_toList.symm,and_self,if_true];simp
  unfold keyOf;simp only [hk,hkt,e1,Bool.and_self,if_true,hd,e2,Option.map_some]
theorem keyOf_mk (x : Int × ByteArray) (h : okKey x) : ∃ kl,keyOf Tryz.prog 134 (mk x) = some kl :=
  ⟨_,keyOf_pair Tryz.underlying134 Tryz.underlying3 Tryz.underlying9 rfl rfl (by decide) rfl rfl (by decide) keyType keyCells intCells strCells deepEnough x h.1 h.2⟩
theorem mk_inj (x y : Int × ByteArray) (h : mk x = mk y) : x = y:=by
  unfold mk at h;simp at h
  exact Prod.ext h.1 h.2
theorem zeroBool (w : World) : (zeroValue 4).run Tryz.prog w = .ok (.bool false) w:=by kernel_rfl
theorem look_has {w : World} {mb n : Nat} {L : List Tb} (h : MF Tryz.prog 134 mk w mb n (hasF L)) (id : Int) (f : ByteArray) (ok : okKey (id,f)) :
    (Instr.lookup 110 (.map (some mb)) (.agg #[.int .i64 id,.string f]) false).run Tryz.prog w = .ok (.bool (has L id f)) w:=by
  obtain ⟨kl,hk⟩:=keyOf_mk (id,f) ok;have:=h.look keyed Tryz.underlying110 (zeroBool w) hk;unfold mk at this;rw [this];unfold hasF;cases has L id f <;> rfl
end Cat
namespace Cat
set_option maxRecDepth 100000
theorem bit_eq (dr k : Nat) (h : dr < 18446744073709551616) : (bits BinOp.and IntKind.u64 ((dr : Int) / 2 ^ k) 1 == 0) = !dr.testBit k:=by
  have h1 : ((dr : Int) / 2 ^ k) = ((dr / 2 ^ k : Nat) : Int):=by simp
  have h2 : dr / 2 ^ k < 18446744073709551616:=Nat.lt_of_le_of_lt (Nat.div_le_self _ _) h;have h3:=bits_and_u64_nat (dr / 2 ^ k) 1 h2 (by omega);rw [h1];have h4 : ((1 : Nat) : Int) = 1:=rfl;rw [h4] at h3;rw [h3,Nat.testBit_eq_decide_div_mod_eq];have h5 : dr / 2 ^ k &&& 1 = dr / 2 ^ k % 2:=Nat.and_one_is_mod _;rw [h5];rcases Nat.mod_two_eq_zero_or_one (dr / 2 ^ k) with h6 | h6 <;> simp [h6]
set_option maxHeartbeats 800000 in
theorem there_any {w : World} {c n : Nat} {O : Nat → Prop} {L : List Tb} (h : IsCat w c O n L) (id : Int) :
    Calls Tryz.prog 81 #[.pointer (some ⟨c,0,none⟩),.int .i64 id] w fun e w' => e = .returned (.bool (there L id)) ∧ w = w':=by
  obtain ⟨tv,dr,mb,hc,hOc,hOm,hO,⟨cells,hT,hI⟩,hB,hM,hG⟩:=h;obtain ⟨sp,cap,rfl,hcap,hcap2⟩:=hT.slice;have c0:=hc.cell 0 (by simp);have c1:=hc.cell 1 (by simp);have hlen:=hG.len;simp only [List.getD_cons_zero,List.getD_cons_succ] at c0 c1;have HB:=Hid2.mk hB
  by_cases h1 : id < 1
  · have h1' : decide (1 ≤ id) = false:=decide_eq_false (by omega)
    clear hT hI hM hG hO hc hB
    go_enter Tryz.func81,Tryz.ntmps81
    go_wp2
    go_ret
    exact ⟨by simp [there];omega,rfl⟩
  · by_cases h2 : id ≤ L.length
    · obtain ⟨k,rfl⟩ : ∃ k : Nat,id = (k + 1 : Nat):=⟨(id - 1).toNat,by omega⟩
      have h3 : (1 : Int) ≤ (k + 1 : Nat):=by omega
      clear hT hI hM hG hO hc h1 hB
      go_enter Tryz.func81,Tryz.ntmps81
      go_wp2
      go_ret
      refine ⟨?_,rfl⟩;have h5 : there L ((k + 1 : Nat) : Int) = !dr.testBit k:=by
        rw [HB.out.2 k];have e1 : (((k + 1 : Nat) : Int) - 1).toNat = k:=by omega
        unfold there;rw [e1];simp;omega
      rw [h5,← bit_eq dr k HB.out.1]
      rfl
    · have h1' : (1 : Int) ≤ id:=by omega
      have h2' : decide (id ≤ (L.length : Int)) = false:=decide_eq_false (by omega);clear hT hI hM hG hO hc hB
      go_enter Tryz.func81,Tryz.ntmps81
      go_wp2
      go_ret
      exact ⟨by simp [there];omega,rfl⟩
theorem has_there {L : List Tb} (hG : Good L) (id : Int) (f : ByteArray) (h : there L id = false) : has L id f = false:=by
  unfold there at h;unfold has
  by_cases h1 : 1 ≤ id
  · by_cases h2 : id ≤ L.length
    · simp [h1,h2] at h
      have h3:=(hG.each (id - 1).toNat (by omega)).2.2.2 (by simpa using h);rw [h3,mem_nil];simp
    · simp [h2]
  · simp [h1]
end Cat
namespace Cat
set_option maxRecDepth 100000
theorem IsTab.of_block {eF : TypeId} {w w' : World} {O : Nat → Prop} {cells : List Value} {i : Nat} {t : Tb} (h : IsTab eF w O cells i t) (hb : ∀ b,O b → (∃ cur,w.heap[b]? = some (.cells cur eF (0,0))) → w'.heap[b]? = w.heap[b]?) : IsTab eF w' O cells i t :=
  ⟨h.1,h.2.1,h.2.2.1,h.2.2.2.of_block fun g hg => hb g (h.2.2.2.own hg) (h.2.2.2.tag hg)⟩
theorem Tabs.keep {eT eF : TypeId} {w w' : World} {O : Nat → Prop} {tv : Value} {L : List Tb} (h : Tabs eT eF w O tv L) {K : Nat → Prop} (hk : Keep K w w') (hK : ∀ b,O b → K b) : Tabs eT eF w' O tv L:=by
  obtain ⟨cells,h1,h2⟩:=h;exact ⟨cells,h1.keep hk (fun g hg => hK g (h1.own hg)),fun i hi => (h2 i hi).of_block fun b hb _ => hk.block b (hK b hb)⟩
theorem IsCat.keep {w w' : World} {c n : Nat} {O : Nat → Prop} {L : List Tb} (h : IsCat w c O n L) {K : Nat → Prop} (hk : Keep K w w') (hK : ∀ b,O b → K b) : IsCat w' c O n L:=by
  obtain ⟨tv,dr,mb,h1,h2,h3,h4,h5,h6,h7,h8⟩:=h;exact ⟨tv,dr,mb,h1.keep hk (hK c h2),h2,h3,fun b hb => Nat.lt_of_lt_of_le (h4 b hb) hk.size,h5.keep hk hK,h6,h7.keep hk (hK mb h3),h8⟩
theorem IsCat.lt {w : World} {c n : Nat} {O : Nat → Prop} {L : List Tb} (h : IsCat w c O n L) : ∀ b,O b → b < w.heap.size:=by
  obtain ⟨tv,dr,mb,h1,h2,h3,h4,-⟩:=h;exact h4
theorem IsCat.good {w : World} {c n : Nat} {O : Nat → Prop} {L : List Tb} (h : IsCat w c O n L) : Good L:=by
  obtain ⟨tv,dr,mb,h1,h2,h3,h4,h5,h6,h7,h8⟩:=h;exact h8
theorem IsCat.below {w w' : World} {c n : Nat} {O : Nat → Prop} {L : List Tb} (h : IsCat w c O n L) {B : Nat} (hk : Below B w w') (hB : w.heap.size ≤ B) : IsCat w' c O n L :=
  h.keep (Keep.of_below hk) (fun b hb => Nat.lt_of_lt_of_le (h.lt b hb) hB)
def TbPost (w : World) (r : Int × Tb × Int) (e : Ending) (w' : World) : Prop :=
  ∃ sp c,e = .returned (.tuple #[.agg #[.int .i64 r.1,.string r.2.1.name,.bool r.2.1.dropped,.slice sp r.2.1.fs.length c],.int .i64 r.2.2]) ∧
    OwnV 153 1 w' (fun b => w.heap.size ≤ b) (.slice sp r.2.1.fs.length c) r.2.1.fs.length (r.2.1.fs.map Value.string) ∧ Below w.heap.size w w'
def tabR (L : List Tb) (id : Int) : Int × Tb × Int:=if 1 ≤ id ∧ id ≤ L.length then (id,L.getD (id - 1).toNat noTb,0) else (0,noTb,7)
theorem builtTable : Tryz.prog.built 107 [] = some #[.int .i64 0,.string ByteArray.empty,.bool false,.slice none 0 0]:=by kernel_rfl
theorem tab_cells {eT eF : TypeId} {w : World} {O : Nat → Prop} {tv : Value} {n k : Nat} {cells : List Value} {t : Tb} (h : OwnV eT 4 w O tv n cells) (hk : k < n) (hI : IsTab eF w O cells k t) :
    ∃ g cap,tv = .slice (some ⟨g,0,none⟩) n cap ∧ n ≤ cap ∧ cap ≤ 9223372036854775807 ∧ g < w.heap.size ∧ O g ∧ w.cell? ⟨g,k * 4,none⟩ = some (.int .i64 (k + 1 : Nat)) ∧ w.cell? ⟨g,k * 4 + 1,none⟩ = some (.string t.name) ∧ w.cell? ⟨g,k * 4 + 2,none⟩ = some (.bool t.dropped) ∧
      ∃ sp c,w.cell? ⟨g,k * 4 + 3,none⟩ = some (.slice sp t.fs.length c) ∧ OwnV eF 1 w O (.slice sp t.fs.length c) t.fs.length (t.fs.map Value.string):=by
  obtain ⟨i0,i1,i2,i3⟩:=hI;have hl:=h.len;rcases h.form with ⟨-,rfl,-⟩ | ⟨g,cap,cur,rfl,hO,hlt,hg,h4,h5,h6,h7⟩
  · omega
  · have hat : ∀ j,j < 4 → w.cell? ⟨g,k * 4 + j,none⟩ = some (cells.getD (k * 4 + j) undef):=by
      intro j hj;rw [World.ownsRow.cellAt h.1 (k * 4 + j) (by omega)];have : k * 4 + j < cells.length:=by omega
      simp [this]
    obtain ⟨sp,c,e3,-,-⟩:=i3.slice;refine ⟨g,cap,rfl,h4,by unfold maxLen at h5;exact h5,hlt,hO,?_,?_,?_,sp,c,?_,?_⟩
    · have:=hat 0 (by omega);rw [Nat.add_zero] at this;rw [this,i0]
    · rw [hat 1 (by omega),i1]
    · rw [hat 2 (by omega),i2]
    · rw [hat 3 (by omega),e3]
    · rw [← e3];exact i3
set_option maxHeartbeats 1000000 in
theorem table_any {w : World} {c n : Nat} {O : Nat → Prop} {L : List Tb} (h : IsCat w c O n L) (id : Int) :
    Calls Tryz.prog 50 #[.pointer (some ⟨c,0,none⟩),.int .i64 id] w (TbPost w (tabR L id)):=by
  have hz:=zeroTable;have hlen:=h.good.len;have hbel : Below w.heap.size w (w.alloc (.cells #[.int .i64 0,.string ByteArray.empty,.bool false,.slice none 0 0] 107)):=(Below.refl _ w).alloc (Nat.le_refl _) _;have hR : VBlk 107 (w.alloc (.cells #[.int .i64 0,.string ByteArray.empty,.bool false,.slice none 0 0] 107)) w.heap.size [.int .i64 0,.string ByteArray.empty,.bool false,.slice none 0 0]:=VBlk.mk w [.int .i64 0,.string ByteArray.empty,.bool false,.slice none 0 0] _;have h0:=h.below hbel (Nat.le_refl _);have HR:=Hid2.mk hR;have H0:=Hid2.mk h0;have HB:=Hid2.mk hbel;clear h h0 hbel hR
  by_cases h1 : id < 1
  · have r1 : tabR L id = (0,noTb,7):=by unfold tabR;rw [if_neg (by omega)]
    rw [r1];clear H0 r1
    go_enter Tryz.func50,Tryz.ntmps50
    go_wp2_with (first | (refine wpList_build_to rfl 107 #[] rfl #[.int .i64 0,.string ByteArray.empty,.bool false,.slice none 0 0] builtTable ?_) | (refine wpList_store_row rfl 107 (.tmp 4) (.tmp 21) rfl w.heap.size #[.int .i64 0,.string ByteArray.empty,.bool false,.slice none 0 0] rfl rfl 107 #[.int .i64 0,.string ByteArray.empty,.bool false,.slice none 0 0] HR.out infoTable rfl (by simp [Value.oneCell']) ?_))
    refine bodyPost_ret (results_cell_tmp rfl _ _ w.heap.size 107 #[.int .i64 0,.string ByteArray.empty,.bool false,.slice none 0 0] (0,0) _ _ rfl (setRow_heap _ _ _ _ _ _ HR.out) Tryz.underlying107 rfl infoTable rfl) rfl ⟨none,0,rfl,OwnV.nil _ _ _ _,below_setRow HB.out (Nat.le_refl _) _⟩
  · by_cases h2 : id ≤ L.length
    · obtain ⟨k,rfl⟩ : ∃ k : Nat,id = (k + 1 : Nat):=⟨(id - 1).toNat,by omega⟩
      have hk : k < L.length:=by omega
      have hk2 : ((k : Int) + 1) ≤ L.length:=by omega
      have h3 : (1 : Int) ≤ (k + 1 : Nat):=by omega
      have r1 : tabR L (k + 1 : Nat) = (((k + 1 : Nat) : Int),L.getD k noTb,0):=by
        unfold tabR;have e1 : (((k + 1 : Nat) : Int) - 1).toNat = k:=by omega
        rw [if_pos (by omega),e1]
      rw [r1];obtain ⟨t,ht⟩ : ∃ t,t = L.getD k noTb:=⟨_,rfl⟩;obtain ⟨tv,dr,mb,hc,-,-,-,⟨cells,hT,hI⟩,-,-,hG⟩:=H0.out;have hIk:=hI k hk;rw [← ht] at hIk ⊢;obtain ⟨g,cap,rfl,hcap,hcap2,hg,-,x0,x1,x2,sp,cc,x3,hown⟩:=tab_cells hT hk hIk;have hfs:=(hG.each k hk).2.1;rw [← ht] at hfs;have c0:=hc.cell 0 (by simp);simp only [List.getD_cons_zero] at c0;have HO:=Hid2.mk hown;clear hc hT hI hIk hown H0 r1 ht h1 hG
      go_enter Tryz.func50,Tryz.ntmps50
      go_wp2_with fail
      generalize World.alloc _ _ = w1 at HR HO HB ⊢;refine (own_any _ _ _ _ HO.out.slV (by omega)).mono ?_;rintro e w2 ⟨sp2,c2,rfl,hown2,hb2⟩;have HR2:=Hid2.mk (HR.out.below hb2 HR.out.lt);have HB2:=Hid2.mk (HB.out.trans (hb2.mono HB.out.size));have HO2:=Hid2.mk hown2;have hs1 : w.heap.size < w1.heap.size:=HR.out.lt;clear hb2 hown2 HR HO HB x0 x1 x2 x3 c0 hg
      go_wp2_with (refine wpList_store_row rfl 107 (.tmp 4) (.tmp 30) rfl w.heap.size #[.int .i64 (k + 1 : Nat),.string t.name,.bool t.dropped,.slice sp2 t.fs.length c2] rfl rfl 107 #[.int .i64 0,.string ByteArray.empty,.bool false,.slice none 0 0] HR2.out infoTable rfl (by simp [Value.oneCell']) ?_)
      refine bodyPost_ret (results_cell_tmp rfl _ _ w.heap.size 107 #[.int .i64 (k + 1 : Nat),.string t.name,.bool t.dropped,.slice sp2 t.fs.length c2] (0,0) _ _ rfl (setRow_heap _ _ _ _ _ _ HR2.out) Tryz.underlying107 rfl infoTable rfl) rfl ⟨sp2,c2,rfl,?_,below_setRow HB2.out (Nat.le_refl _) _⟩;refine (HO2.out.of_block fun g hg => ?_).mono (fun b (hb : _ ≤ b) => by omega);have h2 : w1.heap.size ≤ g:=HO2.out.own hg;exact Go.setRow_other _ _ _ _ (by omega)
    · have r1 : tabR L id = (0,noTb,7):=by unfold tabR;rw [if_neg (by omega)]
      rw [r1];obtain ⟨tv,dr,mb,hc,-,-,-,⟨cells,hT,hI⟩,-,-,hG⟩:=H0.out;obtain ⟨sp,cap,rfl,hcap,hcap2⟩:=hT.slice;have c0:=hc.cell 0 (by simp);simp only [List.getD_cons_zero] at c0;have h3 : (1 : Int) ≤ id:=by omega
      have h4 : (L.length : Int) < id:=by omega
      clear hc hT hI H0 r1 hG
      go_enter Tryz.func50,Tryz.ntmps50
      go_wp2_with (first | (refine wpList_build_to rfl 107 #[] rfl #[.int .i64 0,.string ByteArray.empty,.bool false,.slice none 0 0] builtTable ?_) | (refine wpList_store_row rfl 107 (.tmp 4) (.tmp 21) rfl w.heap.size #[.int .i64 0,.string ByteArray.empty,.bool false,.slice none 0 0] rfl rfl 107 #[.int .i64 0,.string ByteArray.empty,.bool false,.slice none 0 0] HR.out infoTable rfl (by simp [Value.oneCell']) ?_))
      refine bodyPost_ret (results_cell_tmp rfl _ _ w.heap.size 107 #[.int .i64 0,.string ByteArray.empty,.bool false,.slice none 0 0] (0,0) _ _ rfl (setRow_heap _ _ _ _ _ _ HR.out) Tryz.underlying107 rfl infoTable rfl) rfl ⟨none,0,rfl,OwnV.nil _ _ _ _,below_setRow HB.out (Nat.le_refl _) _⟩
end Cat
namespace Cat
set_option maxRecDepth 100000
def findP (L : List Tb) (s : ByteArray) (k : Nat) : Bool:=decide ((L.getD k noTb).name = s) && !(L.getD k noTb).dropped
def findI (L : List Tb) (s : ByteArray) : Option Nat:=(List.range L.length).find? (findP L s)
def findR (L : List Tb) (s : ByteArray) : Int × Tb × Int:=match findI L s with | some k => (((k + 1 : Nat) : Int),L.getD k noTb,0) | none => (0,noTb,13)
theorem findR_at {L : List Tb} {s : ByteArray} {k : Nat} (hk : k < L.length) (h1 : ∀ j,j < k → findP L s j = false) (h2 : findP L s k = true) : findR L s = (((k + 1 : Nat) : Int),L.getD k noTb,0):=by
  have : findI L s = some k:=List.find?_range_eq_some.2 ⟨h2,List.mem_range.2 hk,fun j hj => by simp [h1 j hj]⟩;unfold findR;rw [this]
theorem findR_no {L : List Tb} {s : ByteArray} (h1 : ∀ j,j < L.length → findP L s j = false) : findR L s = (0,noTb,13):=by
  have : findI L s = none:=List.find?_range_eq_none.2 fun j hj => by simp [h1 j hj]
  unfold findR;rw [this]
set_option maxHeartbeats 2000000 in
theorem find_any {w : World} {c n : Nat} {O : Nat → Prop} {L : List Tb} (h : IsCat w c O n L) (s : ByteArray) :
    Calls Tryz.prog 79 #[.pointer (some ⟨c,0,none⟩),.string s] w (TbPost w (findR L s)):=by
  have hz:=zeroTable;have hlen:=h.good.len;have hbel : Below w.heap.size w (w.alloc (.cells #[.int .i64 0,.string ByteArray.empty,.bool false,.slice none 0 0] 107)):=(Below.refl _ w).alloc (Nat.le_refl _) _;have hR : VBlk 107 (w.alloc (.cells #[.int .i64 0,.string ByteArray.empty,.bool false,.slice none 0 0] 107)) w.heap.size [.int .i64 0,.string ByteArray.empty,.bool false,.slice none 0 0]:=VBlk.mk w [.int .i64 0,.string ByteArray.empty,.bool false,.slice none 0 0] _;obtain ⟨w1,hw1⟩ : ∃ w1,w1 = w.alloc (.cells #[.int .i64 0,.string ByteArray.empty,.bool false,.slice none 0 0] 107):=⟨_,rfl⟩;have h0:=h.below hbel (Nat.le_refl _);have hlt : ∀ b,O b → b < w.heap.size:=h.lt;rw [← hw1] at h0 hbel hR;obtain ⟨tv,dr,mb,hc,-,-,-,⟨cells,hT,hI⟩,-,-,hG⟩:=h0;obtain ⟨sp,cap,rfl,hcap,hcap2⟩:=hT.slice;have c0:=hc.cell 0 (by simp);simp only [List.getD_cons_zero] at c0;rw [hw1] at c0;have HW:=Hid2.mk hw1;have HR:=Hid2.mk hR;have H0:=Hid2.mk (h.below hbel (Nat.le_refl _));have HT:=Hid2.mk hT;have HI:=Hid2.mk hI;have HG:=Hid2.mk hG;have HB:=Hid2.mk hbel;have HL:=Hid2.mk hlt;have hs1 : w.heap.size < w1.heap.size:=hR.lt;clear h hbel hR hc hT hI hG hw1 hlt
  go_enter Tryz.func79,Tryz.ntmps79
  go_wp2_with fail
  go_loopw [15] (fun i wr => ∃ k : Nat,k ≤ L.length ∧ i = .int .i64 (k : Nat) ∧ Below w1.heap.size w1 wr ∧ ∀ j,j < k → findP L s j = false) (fun i _ => L.length - (intOf i).toNat)
  case atStart => exact ⟨0,by omega,rfl,by rw [HW.out];exact Below.refl _ _,fun j hj => by omega⟩
  case round =>
    obtain ⟨k,hk,rfl,hbr,hno⟩:=hrel;have hcr:=H0.out.below hbr (Nat.le_refl _);have hTr:=HT.out.keep (Keep.of_below hbr) (fun g hg => HT.out.lt hg);have hIr : ∀ i,i < L.length → IsTab 153 wr O cells i (L.getD i noTb):=fun i hi => (HI.out i hi).of_block fun b hb _ => hbr.block b (H0.out.lt b hb);have hbw:=HB.out.trans (hbr.mono HB.out.size);have hrr:=HR.out.below hbr hs1;have Hno:=Hid2.mk hno;clear hno
    by_cases hkl : k < L.length
    · have hkl2 : (k : Int) < L.length:=by omega
      obtain ⟨t,ht⟩ : ∃ t,t = L.getD k noTb:=⟨_,rfl⟩;have hIk:=hIr k hkl;rw [← ht] at hIk;obtain ⟨g,cap',hsl,-,-,hg,-,x0,x1,x2,sp',cc,x3,hown⟩:=tab_cells hTr hkl hIk;obtain ⟨rfl,rfl⟩ : sp = some ⟨g,0,none⟩ ∧ cap = cap':=by simpa using hsl
      have Hcr:=Hid2.mk hcr;have Hown:=Hid2.mk hown;have Ht:=Hid2.mk ht;have Hbw:=Hid2.mk hbw;have Hrr:=Hid2.mk hrr;have Hbr:=Hid2.mk hbr;clear hcr hTr hIr hbw hrr hIk hown hsl ht hbr;have hbn : ∀ cs,Below w1.heap.size w1 (wr.alloc (.cells cs 107)):=fun cs => Hbr.out.alloc Hbr.out.size _;have Hbn:=Hid2.mk hbn;have hca : ∀ cs,IsCat (wr.alloc (.cells cs 107)) c O n L:=fun cs => Hcr.out.below ((Below.refl _ _).alloc (Nat.le_refl _) _) (Nat.le_refl _);have Hca:=Hid2.mk hca;clear hbn hca
      by_cases hn : t.name = s
      · have hq : t.name.toList = s.toList:=by rw [hn]
        have Hn:=Hid2.mk hn;have e1 : there L ((k : Int) + 1) = !t.dropped:=by
          unfold there;have e2 : ((k : Int) + 1 - 1).toNat = k:=by omega
          rw [e2,← Ht.out];simp;omega
        have E1:=Hid2.mk e1;clear hn e1;cases hd : t.dropped with
        | true =>
          have e2 : there L ((k : Int) + 1) = false:=by rw [E1.out,hd];rfl
          have E2:=Hid2.mk e2;have Hno2 : Hid2 (∀ j,j < k + 1 → findP L s j = false):=Hid2.mk fun j hj => by
            by_cases e : j < k
            · exact Hno.out j e
            · have : j = k:=by omega
              rw [this];unfold findP;rw [← Ht.out,hd];simp
          clear e2 hd
          go_wp2_with (refine (there_any (Hca.out _) _).mono ?_;rw [E2.out];rintro e w' ⟨rfl,rfl⟩)
          go_roundw
          case rel => exact ⟨k + 1,by omega,by go_num,Hbn.out _,Hno2.out⟩
          case measure => simp [intOf];omega
        | false =>
          have e2 : there L ((k : Int) + 1) = true:=by rw [E1.out,hd];rfl
          have E2:=Hid2.mk e2;have hres : findR L s = (((k + 1 : Nat) : Int),t,0):=by
            rw [findR_at hkl Hno.out (by unfold findP;rw [← Ht.out,hd,Hn.out];simp),← Ht.out]
          have Hres:=Hid2.mk hres;have hfs:=(HG.out.each k hkl).2.1;rw [← Ht.out] at hfs;clear e2 hd hres
          go_wp2_with (refine (there_any (Hca.out _) _).mono ?_;rw [E2.out];rintro e w' ⟨rfl,rfl⟩)
          have hb3:=Hbw.out.alloc Hbw.out.size (.cells #[.int .i64 ((k : Int) + 1),.string t.name,.bool t.dropped,.slice sp' t.fs.length cc] 107);have hr3:=Hrr.out.alloc (.cells #[.int .i64 ((k : Int) + 1),.string t.name,.bool t.dropped,.slice sp' t.fs.length cc] 107);have ho3:=Hown.out.alloc (.cells #[.int .i64 ((k : Int) + 1),.string t.name,.bool t.dropped,.slice sp' t.fs.length cc] 107);generalize World.alloc wr _ = w3 at hb3 hr3 ho3 ⊢;refine (own_any _ _ _ _ ho3.slV (by omega)).mono ?_;rintro e w2 ⟨sp2,c2,rfl,hown2,hb2⟩;have HR2:=Hid2.mk (hr3.below hb2 hr3.lt);have HB2:=Hid2.mk (hb3.trans (hb2.mono hb3.size));have HO2:=Hid2.mk hown2;have hs1 : w.heap.size < w3.heap.size:=hr3.lt;clear hb2 hown2 hb3 hr3 ho3 x0 x1 x2 x3 c0 hg hq
          go_wp2_with (refine wpList_store_row rfl 107 (.tmp 4) (.tmp 30) rfl w.heap.size #[.int .i64 (k + 1 : Nat),.string t.name,.bool t.dropped,.slice sp2 t.fs.length c2] rfl rfl 107 #[.int .i64 0,.string ByteArray.empty,.bool false,.slice none 0 0] HR2.out infoTable rfl (by simp [Value.oneCell']) ?_)
          refine bodyPost_ret (results_cell_tmp rfl _ _ w.heap.size 107 #[.int .i64 (k + 1 : Nat),.string t.name,.bool t.dropped,.slice sp2 t.fs.length c2] (0,0) _ _ rfl (setRow_heap _ _ _ _ _ _ HR2.out) Tryz.underlying107 rfl infoTable rfl) rfl ?_;rw [Hres.out];refine ⟨sp2,c2,rfl,?_,below_setRow HB2.out (Nat.le_refl _) _⟩;refine (HO2.out.of_block fun g hg => ?_).mono (fun b (hb : _ ≤ b) => by omega);have h2 : w3.heap.size ≤ g:=HO2.out.own hg;exact Go.setRow_other _ _ _ _ (by omega)
      · have hq:=str_ne hn
        have Hno2 : Hid2 (∀ j,j < k + 1 → findP L s j = false):=Hid2.mk fun j hj => by
          by_cases e : j < k
          · exact Hno.out j e
          · have : j = k:=by omega
            rw [this];unfold findP;rw [← Ht.out];simp [hn]
        clear hn
        go_wp2_with fail
        go_roundw
        case rel => exact ⟨k + 1,by omega,by go_num,Hbn.out _,Hno2.out⟩
        case measure => simp [intOf];omega
    · have hd2 : decide ((k : Int) < L.length) = false:=decide_eq_false (by omega)
      have hres : findR L s = (0,noTb,13):=findR_no fun j hj => Hno.out j (by omega);have Hres:=Hid2.mk hres;have Hrr:=Hid2.mk hrr;have Hbw:=Hid2.mk hbw;clear hres hrr hbw hcr hTr hIr hbr c0
      go_wp2_with (first | (refine wpList_build_to rfl 107 #[] rfl #[.int .i64 0,.string ByteArray.empty,.bool false,.slice none 0 0] builtTable ?_) | (refine wpList_store_row rfl 107 (.tmp 4) (.tmp 32) rfl w.heap.size #[.int .i64 0,.string ByteArray.empty,.bool false,.slice none 0 0] rfl rfl 107 #[.int .i64 0,.string ByteArray.empty,.bool false,.slice none 0 0] Hrr.out infoTable rfl (by simp [Value.oneCell']) ?_))
      refine bodyPost_ret (results_cell_tmp rfl _ _ w.heap.size 107 #[.int .i64 0,.string ByteArray.empty,.bool false,.slice none 0 0] (0,0) _ _ rfl (setRow_heap _ _ _ _ _ _ Hrr.out) Tryz.underlying107 rfl infoTable rfl) rfl ?_;rw [Hres.out];exact ⟨none,0,rfl,OwnV.nil _ _ _ _,below_setRow Hbw.out (Nat.le_refl _) _⟩
end Cat
section
variable {P : Program} {ops : Array Oper} {Q : Exit → Act → World → Prop} {md : Region.Mode} {S : World → Prop} {n : Nat}
def wpTill (P : Program) (md : Region.Mode) (ops : Array Oper) (Q : Exit → Act → World → Prop) (S : World → Prop) (n : Nat) : Nat → Array Bool → Act → World → Prop
  | 0,listed,a,w => Region.ready md ops listed = [] ∧ Q .normal a w
  | fuel + 1,listed,a,w =>
    (Region.ready md ops listed = [] → Q .normal a w) ∧
    ∀ i ∈ Region.ready md ops listed,wpOp P ops Q i (fun a' w' => ((listed.setIfInBounds i true).getD n false = true ∨ S w') ∧ wpTill P md ops Q S n fuel (listed.setIfInBounds i true) a' w') a w
theorem wpAny_of_till : ∀ (fuel : Nat) (listed : Array Bool) (a : Act) (w : World),wpTill P md ops Q S n fuel listed a w → wpAny P md ops Q fuel listed a w
  | 0,_,_,_,h => h
  | fuel + 1,_,_,_,h => ⟨h.1,fun i hi => wpOp_mono (fun a' w' h' => wpAny_of_till fuel _ a' w' h'.2) (h.2 i hi)⟩
def waitB (md : Region.Mode) (ops : Array Oper) (listed : Array Bool) (i n : Nat) (us : List Nat) : Bool :=
  us.contains n && us.all fun q => !listed.getD q true && ((ops[q]?).map (·.after.any fun e => Region.binds md e && (e.on == i || us.contains e.on))).getD false
theorem waitB_n {listed : Array Bool} {i : Nat} {us : List Nat} (h : waitB md ops listed i n us = true) : listed.getD n true = false:=by
  unfold waitB at h;simp only [Bool.and_eq_true,List.all_eq_true] at h;have:=h.2 n (by simpa using h.1)
  simpa using this.1
theorem waitB_not {listed : Array Bool} {i j : Nat} {us : List Nat} (h : waitB md ops listed i n us = true) (hi : listed.getD i true = false) (hj : j ∈ Region.ready md ops listed) : j ∉ us:=by
  intro hju;unfold waitB at h;simp only [Bool.and_eq_true,List.all_eq_true] at h;obtain ⟨-,h2⟩:=h;obtain ⟨-,oj,hoj,hall⟩:=mem_ready.1 hj;have h3:=(h2 j hju).2;rw [hoj] at h3;simp only [Option.map_some,Option.getD_some] at h3;obtain ⟨e,he,hb⟩:=Array.any_eq_true'.1 h3;simp only [Bool.and_eq_true,Bool.or_eq_true,beq_iff_eq] at hb;have h4:=hall e he hb.1;have h5 : listed.getD e.on true = false:=by
    rcases hb.2 with e1 | e1
    · rw [e1];exact hi
    · have:=(h2 e.on (by simpa using e1)).1
      simpa using this
  rcases Nat.lt_or_ge e.on listed.size with h' | h'
  · simp [h'] at h4 h5;rw [h5] at h4;cases h4
  · simp [Array.getElem?_eq_none h'] at h4
theorem waitB_set {listed : Array Bool} {i j : Nat} {us : List Nat} (h : waitB md ops listed i n us = true) (hj : j ∉ us) : waitB md ops (listed.setIfInBounds j true) i n us = true:=by
  unfold waitB at *;simp only [Bool.and_eq_true,List.all_eq_true] at *;refine ⟨h.1,fun q hq => ⟨?_,(h.2 q hq).2⟩⟩;rw [getD_set_ne true (by intro e;subst e;exact hj hq)];exact (h.2 q hq).1
theorem getD_both' {listed : Array Bool} {j : Nat} (h : listed.getD j true = false) : listed.getD j false = false:=by
  rcases Nat.lt_or_ge j listed.size with h' | h'
  · simp [h'] at h ⊢;exact h
  · simp [Array.getElem?_eq_none h'] at h
theorem wpTill_first {i : Nat} {oi : Oper} {v : Value} {us : List Nat} (hi : ops[i]? = some oi) (hsel : ∀ (j : Nat) (o : Oper) cs b,ops[j]? = some o → o.op ≠ .select cs b)
    (hQ : ∀ c a w,Q (.panic c) (a.put oi.dst v) w → Q (.panic c) a w) :
    ∀ (fuel : Nat) (listed : Array Bool) (a : Act) (w : World),
      (∀ j oj,ops[j]? = some oj → j ≠ i → listed.getD j true = false → (∀ e ∈ oj.after,Region.binds md e = true → e.on ≠ i) → oi.apart ops oj = true) →
      waitB md ops listed i n us = true → i ∉ us →
      i ∈ Region.ready md ops listed → YieldsIf P ops S oi v a → S w →
      wpTill P md ops Q S n fuel (listed.setIfInBounds i true) (a.put oi.dst v) w → wpTill P md ops Q S n (fuel + 1) listed a w:=by
  intro fuel
  induction fuel with
  | zero =>
    intro listed a w _ _ _ hr hy hS H;refine ⟨fun h => (by rw [h] at hr;cases hr),fun j hj => ?_⟩
    by_cases hji : j = i
    · subst hji;exact hy.wpOp hi hS ⟨.inr hS,H⟩
    · have:=ready_mono hj hji
      rw [H.1] at this;cases this
  | succ fuel ih =>
    intro listed a w hfree hw hiu hr hy hS H;refine ⟨fun h => (by rw [h] at hr;cases hr),fun j hj => ?_⟩
    by_cases hji : j = i
    · subst hji;exact hy.wpOp hi hS ⟨.inr hS,H⟩
    · have h1:=H.2 j (ready_mono hj hji)
      have hiun:=(mem_ready.1 hr).1;have hju : j ∉ us:=waitB_not hw hiun hj;have hnu : n ∈ us:=by unfold waitB at hw;simp only [Bool.and_eq_true] at hw;simpa using hw.1
      have hjn : j ≠ n:=fun e => hju (e ▸ hnu);have hin : i ≠ n:=fun e => hiu (e ▸ hnu);obtain ⟨hjun,oj,hoj,hall⟩:=mem_ready.1 hj;have hnot : ∀ e ∈ oj.after,Region.binds md e = true → e.on ≠ i:=fun e he hb heq => by
        have h1:=hall e he hb;rw [heq,getD_both' hiun] at h1;cases h1
      have h2:=wpOp_putIf hoj (hfree j oj hoj hji hjun hnot) (fun cs b => hsel i oi cs b hi) (fun cs b => hsel j oj cs b hoj) hQ hy h1;have hfree' : ∀ k ok,ops[k]? = some ok → k ≠ i → (listed.setIfInBounds j true).getD k true = false →
          (∀ e ∈ ok.after,Region.binds md e = true → e.on ≠ i) → oi.apart ops ok = true:=fun k ok hk hki hun hno => by
        refine hfree k ok hk hki ?_ hno
        by_cases hjk : j = k
        · subst hjk;exact hjun
        · rw [getD_set_ne true hjk] at hun;exact hun
      have hnf : ∀ x,(((listed.setIfInBounds i true).setIfInBounds j true).getD n false = true ∨ x) → x:=fun x h => by
        rcases h with h | h
        · rw [getD_set_ne false hjn,getD_set_ne false hin,getD_both' (waitB_n hw)] at h;cases h
        · exact h
      refine wpOp_mono (fun a' w' h3 => ⟨.inr (hnf _ h3.2.1),ih (listed.setIfInBounds j true) a' w' hfree' (waitB_set hw hju) hiu (ready_mono hr (Ne.symm hji)) h3.1 (hnf _ h3.2.1) ?_⟩) h2;rw [Array.setIfInBounds_comm _ _ hji];exact h3.2.2
theorem wpTill_free {i : Nat} {oi : Oper} {v : Value} (hi : ops[i]? = some oi) (hsel : ∀ (j : Nat) (o : Oper) cs b,ops[j]? = some o → o.op ≠ .select cs b)
    (hQ : ∀ c a w,Q (.panic c) (a.put oi.dst v) w → Q (.panic c) a w) (hin : i ≠ n) :
    ∀ (fuel : Nat) (listed : Array Bool) (a : Act) (w : World),
      (∀ j oj,ops[j]? = some oj → j ≠ i → listed.getD j true = false → (∀ e ∈ oj.after,Region.binds md e = true → e.on ≠ i) → oi.apart ops oj = true) →
      i ∈ Region.ready md ops listed → YieldsIf P ops (fun _ => True) oi v a → (listed.getD n false = true ∨ S w) →
      wpTill P md ops Q S n fuel (listed.setIfInBounds i true) (a.put oi.dst v) w → wpTill P md ops Q S n (fuel + 1) listed a w:=by
  intro fuel
  induction fuel with
  | zero =>
    intro listed a w _ hr hy hS H;refine ⟨fun h => (by rw [h] at hr;cases hr),fun j hj => ?_⟩
    by_cases hji : j = i
    · subst hji;exact hy.wpOp hi trivial ⟨by rw [getD_set_ne false hin];exact hS,H⟩
    · have:=ready_mono hj hji
      rw [H.1] at this;cases this
  | succ fuel ih =>
    intro listed a w hfree hr hy hS H;refine ⟨fun h => (by rw [h] at hr;cases hr),fun j hj => ?_⟩
    by_cases hji : j = i
    · subst hji;exact hy.wpOp hi trivial ⟨by rw [getD_set_ne false hin];exact hS,H⟩
    · have h1:=H.2 j (ready_mono hj hji)
      have hiun:=(mem_ready.1 hr).1;obtain ⟨hjun,oj,hoj,hall⟩:=mem_ready.1 hj;have hnot : ∀ e ∈ oj.after,Region.binds md e = true → e.on ≠ i:=fun e he hb heq => by
        have h1:=hall e he hb;rw [heq,getD_both' hiun] at h1;cases h1
      have h2:=wpOp_putIf hoj (hfree j oj hoj hji hjun hnot) (fun cs b => hsel i oi cs b hi) (fun cs b => hsel j oj cs b hoj) hQ hy h1;have hfree' : ∀ k ok,ops[k]? = some ok → k ≠ i → (listed.setIfInBounds j true).getD k true = false →
          (∀ e ∈ ok.after,Region.binds md e = true → e.on ≠ i) → oi.apart ops ok = true:=fun k ok hk hki hun hno => by
        refine hfree k ok hk hki ?_ hno
        by_cases hjk : j = k
        · subst hjk;exact hjun
        · rw [getD_set_ne true hjk] at hun;exact hun
      have hT : ∀ x,(((listed.setIfInBounds i true).setIfInBounds j true).getD n false = true ∨ x) → ((listed.setIfInBounds j true).getD n false = true ∨ x):=fun x h => by
        rw [Array.setIfInBounds_comm _ _ (Ne.symm hji),getD_set_ne false hin] at h;exact h
      refine wpOp_mono (fun a' w' h3 => ⟨hT _ h3.2.1,ih (listed.setIfInBounds j true) a' w' hfree' (ready_mono hr (Ne.symm hji)) h3.1 (hT _ h3.2.1) ?_⟩) h2;rw [Array.setIfInBounds_comm _ _ hji];exact h3.2.2
theorem till_read {i : Nat} {oi : Oper} {v : Value} {fuel : Nat} {listed : Array Bool} {a : Act} {w : World} (us : List Nat) (hi : ops[i]? = some oi)
    (hs : Region.noSelect ops = true) (hf : Region.free md ops listed i = true) (hr : (Region.ready md ops listed).contains i = true) (hu : waitB md ops listed i n us = true) (hiu : us.contains i = false)
    (hQ : ∀ c a w,Q (.panic c) (a.put oi.dst v) w → Q (.panic c) a w) (hw : Region.wanted oi (yielded ops a.tmps) = true) (hy : ∀ w,S w → (execOp a.eval oi).run P w = .ok (.value v) w) (hS : S w)
    (h : wpTill P md ops Q S n fuel (listed.setIfInBounds i true) (a.put oi.dst v) w) : wpTill P md ops Q S n (fuel + 1) listed a w :=
  wpTill_first hi (Region.noSelect_spec hs) hQ fuel listed a w (Region.free_spec hi hf) hu (by simpa using hiu) (by simpa using hr) (.inl ⟨hw,hy⟩) hS h
theorem till_free {i : Nat} {oi : Oper} {v : Value} {fuel : Nat} {listed : Array Bool} {a : Act} {w : World} (hi : ops[i]? = some oi)
    (hs : Region.noSelect ops = true) (hf : Region.free md ops listed i = true) (hr : (Region.ready md ops listed).contains i = true) (hin : (i == n) = false)
    (hQ : ∀ c a w,Q (.panic c) (a.put oi.dst v) w → Q (.panic c) a w) (hS : listed.getD n false = true ∨ S w) (hw : Region.wanted oi (yielded ops a.tmps) = true) (hy : ∀ w,(execOp a.eval oi).run P w = .ok (.value v) w)
    (h : wpTill P md ops Q S n fuel (listed.setIfInBounds i true) (a.put oi.dst v) w) : wpTill P md ops Q S n (fuel + 1) listed a w :=
  wpTill_free hi (Region.noSelect_spec hs) hQ (by simpa using hin) fuel listed a w (Region.free_spec hi hf) (by simpa using hr) (.inl ⟨hw,fun w _ => hy w⟩) hS h
theorem till_one {i : Nat} {oi : Oper} {fuel : Nat} {listed : Array Bool} {a : Act} {w : World} (hr : Region.ready md ops listed = [i]) (hi : ops[i]? = some oi)
    (h : ∀ K' : Act → World → Prop,(∀ a w,((listed.setIfInBounds i true).getD n false = true ∨ S w) → wpTill P md ops Q S n fuel (listed.setIfInBounds i true) a w → K' a w) → if Region.wanted oi (yielded ops a.tmps) = true then Oper.wp P oi a w K' Q else K' (a.put oi.dst undef) w) :
    wpTill P md ops Q S n (fuel + 1) listed a w :=
  ⟨(fun h0 => by rw [h0] at hr;cases hr),fun j hj => by
    rw [hr] at hj;obtain rfl : j = i:=by simpa using hj
    have:=h (fun a' w' => ((listed.setIfInBounds j true).getD n false = true ∨ S w') ∧ wpTill P md ops Q S n fuel (listed.setIfInBounds j true) a' w') (fun a w h1 h2 => ⟨h1,h2⟩);unfold wpOp;simp only [hi]
    by_cases hw : Region.wanted oi (yielded ops a.tmps) = true
    · rw [if_pos hw] at this ⊢;exact .inl this
    · rw [if_neg hw] at this ⊢;exact this⟩
theorem till_done {listed : Array Bool} {a : Act} {w : World} (hr : Region.ready md ops listed = []) (h : Q .normal a w) : ∀ fuel,wpTill P md ops Q S n fuel listed a w
  | 0 => ⟨hr,h⟩
  | _ + 1 => ⟨fun _ => h,by rw [hr];simp⟩
theorem wp_region_till {id : Nat} {a : Act} {w : World} (n : Nat) (S : World → Prop) (hm : P.follows .mixedOrders = true)
    (h : wpTill P .any ops Q S n ops.size (Array.replicate ops.size false) a w.drew) : (Code.region id ops true).wp P Q a w :=
  wp_region_any hm (wpAny_of_till _ _ _ _ h)
end
namespace Cat
set_option maxRecDepth 100000
structure Ent (cs : Array Value) (kind : Int) (txt : ByteArray) (tbl : Int) : Prop where
  hsz : cs.size = 46
  hk : cs[0]? = some (.int .i64 kind)
  htx : cs[1]? = some (.string txt)
  htb : cs[2]? = some (.int .i64 tbl)
  hsh : txt.size ≤ maxLen
  hwf : (Lit.int .i64 tbl).wf = true
def appC (L : List Tb) (kind : Int) (txt : ByteArray) (tbl : Int) : Int :=
  if kind = 5 then (if 64 ≤ L.length then 17 else if tbl ≠ L.length + 1 ∨ isNm txt = false then 3 else if (findI L txt).isSome = true then 8 else 0)
  else if kind = 6 then (if there L tbl = true then 0 else 7)
  else if kind = 7 then (if there L tbl = false then 7 else if isNm txt = false then 3 else if has L tbl txt = true then 8 else if 16 ≤ (L.getD (tbl - 1).toNat noTb).fs.length then 17 else 0)
  else 0
def appL (L : List Tb) (kind : Int) (txt : ByteArray) (tbl : Int) : List Tb :=
  if appC L kind txt tbl = 0 then
    (if kind = 5 then L ++ [⟨txt, false, []⟩]
     else if kind = 6 then L.set (tbl - 1).toNat ⟨(L.getD (tbl - 1).toNat noTb).name, true, []⟩
     else if kind = 7 then L.set (tbl - 1).toNat ⟨(L.getD (tbl - 1).toNat noTb).name, (L.getD (tbl - 1).toNat noTb).dropped, (L.getD (tbl - 1).toNat noTb).fs ++ [txt]⟩
     else L)
  else L
def AppPost (w : World) (c n : Nat) (O : Nat → Prop) (L : List Tb) (kind : Int) (txt : ByteArray) (tbl : Int) (e : Ending) (w' : World) : Prop :=
  ∃ O',e = .returned (.int .i64 (appC L kind txt tbl)) ∧ IsCat w' c O' (n + 1) (appL L kind txt tbl) ∧ Keep (fun b => b < w.heap.size ∧ ¬ O b) w w' ∧ ∀ b,O' b → O b ∨ w.heap.size ≤ b
theorem IsCat.mono {w : World} {c n n' : Nat} {O : Nat → Prop} {L : List Tb} (h : IsCat w c O n L) (hn : n ≤ n') : IsCat w c O n' L:=by
  obtain ⟨tv,dr,mb,h1,h2,h3,h4,h5,h6,h7,h8⟩:=h;exact ⟨tv,dr,mb,h1,h2,h3,h4,h5,h6,h7.mono hn,h8⟩
theorem appPost_no {w w' : World} {c n : Nat} {O : Nat → Prop} {L : List Tb} {kind : Int} {txt : ByteArray} {tbl x : Int} (hx : appC L kind txt tbl = x) (hne : x ≠ 0) (h : IsCat w c O n L) (hb : Below w.heap.size w w') : AppPost w c n O L kind txt tbl (.returned (.int .i64 x)) w' :=
  ⟨O,by rw [hx],by unfold appL;rw [if_neg (by rw [hx];exact hne)];exact (h.below hb (Nat.le_refl _)).mono (by omega),Keep.mono (Keep.of_below hb) (fun k hk => hk.1),fun b hb => .inl hb⟩
theorem getD_left {α : Type} (l r : List α) (i : Nat) (d : α) (h : i < l.length) : (l ++ r).getD i d = l.getD i d:=by simp [List.getElem?_append_left h]
theorem getD_right {α : Type} (l r : List α) (i : Nat) (d : α) : (l ++ r).getD (l.length + i) d = r.getD i d:=by simp [List.getElem?_append_right]
theorem getD_over {α : Type} (l : List α) (i : Nat) (d : α) (h : l.length ≤ i) : l.getD i d = d:=by simp [h]
theorem has_push (L : List Tb) (txt : ByteArray) (id : Int) (f : ByteArray) : has (L ++ [⟨txt,false,[]⟩]) id f = has L id f:=by
  unfold has
  by_cases h1 : 1 ≤ id
  · by_cases h2 : id ≤ L.length
    · have h3 : id ≤ (L ++ [⟨txt,false,[]⟩] : List Tb).length:=by simp;omega
      rw [getD_left _ _ _ _ (by omega)];simp [h1,h2];omega
    · by_cases h4 : id = L.length + 1
      · have e : (id - 1).toNat = L.length + 0:=by omega
        rw [e,getD_right]
        show (_ && _ && mem [] f) = _
        simp [h2,mem_nil]
      · rw [getD_over _ _ _ (by simp;omega)]
        simp [noTb,h2,mem_nil]
  · simp [h1]
theorem tag_ne {w : World} {b b' : Nat} {cs cs' : Array Value} {t t' : TypeId} {fr fr' : Nat × Nat} (h : w.heap[b]? = some (.cells cs t fr)) (h' : w.heap[b']? = some (.cells cs' t' fr')) (hne : t ≠ t') : b ≠ b':=by
  intro e;subst e;rw [h] at h';injection h' with h';injection h' with _ h2 _;exact hne h2
theorem MF.tag_ne {κ : Type} {P : Program} {k : TypeId} {mk : κ → Value} {w : World} {b n : Nat} {F : κ → Option Value} (h : MF P k mk w b n F) {b' : Nat} {cs : Array Value} {t : TypeId} {fr : Nat × Nat} (h' : w.heap[b']? = some (.cells cs t fr)) : b ≠ b':=by
  obtain ⟨D,⟨es,clock,h1,-⟩,-⟩:=h;intro e;subst e;rw [h1] at h';cases h'
theorem cat_push {w0 w1 : World} {c n dr mb B : Nat} {O : Nat → Prop} {L : List Tb} {tv tv' : Value} {cells : List Value} {txt : ByteArray}
    (hc : VBlk 113 w0 c [tv,.int .u64 (dr : Nat),.map (some mb)]) (hOc : O c) (hOm : O mb) (hO : ∀ b,O b → b < w0.heap.size)
    (hT : OwnV 107 4 w0 O tv L.length cells) (hI : ∀ i,i < L.length → IsTab 153 w0 O cells i (L.getD i noTb)) (hB : Bits dr L) (hM : MF Tryz.prog 134 mk w0 mb n (hasF L)) (hG : Good L)
    (hk : Keep (fun b => b < w0.heap.size ∧ tv.ownBlock ≠ some b) w0 w1) (hBB : w0.heap.size ≤ B)
    (hT1 : OwnV 107 4 w1 (fun g => O g ∨ g = B) tv' (L.length + 1) (cells ++ [.int .i64 (L.length + 1 : Nat),.string txt,.bool false,.slice none 0 0])) (hlen : L.length < 64) (htxt : txt.size ≤ 40) :
    IsCat (w1.setCell ⟨c,0,none⟩ tv') c (fun b => O b ∨ tv'.ownBlock = some b) (n + 1) (L ++ [⟨txt,false,[]⟩]) ∧ Keep (fun b => b < w0.heap.size ∧ ¬ O b) w0 (w1.setCell ⟨c,0,none⟩ tv') ∧ ∀ b,(O b ∨ tv'.ownBlock = some b) → O b ∨ w0.heap.size ≤ b:=by
  have hcn : tv.ownBlock ≠ some c:=by
    intro e;obtain ⟨cur,hcur⟩:=hT.tag e;exact tag_ne hc hcur (by decide) rfl
  have hmn : tv.ownBlock ≠ some mb:=by
    intro e;obtain ⟨cur,hcur⟩:=hT.tag e;exact MF.tag_ne hM hcur rfl
  have hmc : mb ≠ c:=MF.tag_ne hM hc;have hc1 : VBlk 113 w1 c [tv,.int .u64 (dr : Nat),.map (some mb)]:=hc.keep hk ⟨hO c hOc,hcn⟩;have hlen1:=hT.len;have ho : ∀ b,tv'.ownBlock = some b → O b ∨ w0.heap.size ≤ b:=fun b e => (hT1.own e).imp id (fun e => by rw [e];exact hBB);have hsz : (w1.setCell ⟨c,0,none⟩ tv').heap.size = w1.heap.size:=by simp [World.setCell]
  have hkc : ∀ b,b ≠ c → (w1.setCell ⟨c,0,none⟩ tv').heap[b]? = w1.heap[b]?:=fun b hb => Below.heap_setCell _ _ _ _ hb;refine ⟨⟨tv',dr,mb,hc1.set 0 tv',.inl hOc,.inl hOm,fun b hb => ?_,⟨cells ++ [.int .i64 (L.length + 1 : Nat),.string txt,.bool false,.slice none 0 0],?_,fun i hi => ?_⟩,⟨hB.1,fun i => ?_⟩,?_,⟨by simp;omega,fun i hi => ?_⟩⟩,⟨hk.os,hk.tape,hk.output,by rw [hsz];exact hk.size,fun b hb => ?_⟩,fun b hb => hb.elim .inl (ho b)⟩
  · rw [hsz]
    rcases hb with hb | hb
    · exact Nat.lt_of_lt_of_le (hO b hb) hk.size
    · exact hT1.lt hb
  · have hl : (L ++ [(⟨txt,false,[]⟩ : Tb)]).length = L.length + 1:=by simp
    rw [hl];refine ⟨(hT1.of_block fun g hg => hkc g ?_).1,hT1.2.1,fun g hg => .inr hg⟩;intro e;obtain ⟨cur,hcur⟩:=hT1.tag hg;rw [e] at hcur;exact tag_ne hc1 hcur (by decide) rfl
  · have h62 : ∀ b,O b → (∃ cur,w0.heap[b]? = some (.cells cur 153 (0,0))) → (w1.setCell ⟨c,0,none⟩ tv').heap[b]? = w0.heap[b]?:=by
      rintro b hb ⟨cur,hcur⟩;have h1 : b ≠ c:=tag_ne hcur hc (by decide);have h2 : tv.ownBlock ≠ some b:=by
        intro e;obtain ⟨cur',hcur'⟩:=hT.tag e;exact tag_ne hcur hcur' (by decide) rfl
      rw [hkc b h1,hk.block b ⟨hO b hb,h2⟩]
    by_cases h : i < L.length
    · rw [getD_left L _ i _ h]
      obtain ⟨i0,i1,i2,i3⟩:=(hI i h).of_block h62;refine ⟨?_,?_,?_,?_⟩
      · rw [getD_left _ _ _ _ (by omega)];exact i0
      · rw [getD_left _ _ _ _ (by omega)];exact i1
      · rw [getD_left _ _ _ _ (by omega)];exact i2
      · rw [getD_left _ _ _ _ (by omega)];exact i3.mono fun b hb => .inl hb
    · have e : i = L.length:=by simp at hi;omega
      subst e;have e1 : (L ++ [(⟨txt,false,[]⟩ : Tb)]).getD L.length noTb = ⟨txt,false,[]⟩:=getD_right L _ 0 _;rw [e1];have e2 : L.length * 4 = cells.length:=hlen1.symm;unfold IsTab;rw [e2];refine ⟨getD_right cells _ 0 _,getD_right cells _ 1 _,getD_right cells _ 2 _,?_⟩;rw [getD_right cells _ 3 _];exact OwnV.nil _ _ _ _
  · rw [hB.2 i]
    rcases Nat.lt_trichotomy i L.length with h | h | h
    · rw [getD_left _ _ _ _ h]
    · subst h;rw [getD_over L _ _ (Nat.le_refl _)];have e:=getD_right L [(⟨txt,false,[]⟩ : Tb)] 0 noTb;rw [Nat.add_zero] at e;rw [e];rfl
    · rw [getD_over _ _ _ (by omega),getD_over _ _ _ (by simp;omega)]
  · have:=((hM.keep hk ⟨hO mb hOm,hmn⟩).of_block (w':=w1.setCell ⟨c,0,none⟩ tv') (hkc mb hmc)).mono (Nat.le_succ n)
    exact this.congr fun x => by unfold hasF;rw [has_push]
  · by_cases h : i < L.length
    · rw [getD_left _ _ _ _ h];exact hG.each i h
    · have e : i = L.length:=by simp at hi;omega
      subst e;have e1 : (L ++ [(⟨txt,false,[]⟩ : Tb)]).getD L.length noTb = ⟨txt,false,[]⟩:=getD_right L _ 0 _;rw [e1];exact ⟨htxt,by simp,by simp,by simp⟩
  · rw [hkc b (fun e => hb.2 (e ▸ hOc))]
    exact hk.block b ⟨hb.1,fun e => hb.2 (hT.own e)⟩
theorem elemTable : ElemV Tryz.prog 89 107 4 56:=ElemV.mk' (z:=.agg #[.int .i64 0,.string ByteArray.empty,.bool false,.slice none 0 0]) Tryz.underlying89 (by kernel_rfl) rfl (by omega)
set_option maxRecDepth 100000 in
set_option maxHeartbeats 2000000 in
theorem apply_table {w : World} {c n : Nat} {O : Nat → Prop} {L : List Tb} {cs : Array Value} {txt : ByteArray} {tbl : Int} (h : IsCat w c O n L) (hE : Ent cs 5 txt tbl) :
    Calls Tryz.prog 60 #[.pointer (some ⟨c,0,none⟩),.agg cs] w (AppPost w c n O L 5 txt tbl):=by
  have hz:=zeroTable;have hbel : Below w.heap.size w (w.alloc (.cells cs 52)):=(Below.refl _ w).alloc (Nat.le_refl _) _;have h1:=h.below hbel (Nat.le_refl _);have HE:=Hid2.mk hE;have hrow:=heap_alloc_new w (.cells cs 52);have e0 : (w.alloc (.cells cs 52)).cell? ⟨w.heap.size,0,none⟩ = some (.int .i64 5):=by rw [cell_of_row _ _ _ _ _ _ hrow];exact hE.hk
  have e1 : (w.alloc (.cells cs 52)).cell? ⟨w.heap.size,1,none⟩ = some (.string txt):=by rw [cell_of_row _ _ _ _ _ _ hrow];exact hE.htx
  have e2 : (w.alloc (.cells cs 52)).cell? ⟨w.heap.size,2,none⟩ = some (.int .i64 tbl):=by rw [cell_of_row _ _ _ _ _ _ hrow];exact hE.htb
  have H:=Hid2.mk h;have HB:=Hid2.mk hbel;have H1:=Hid2.mk h1;clear h hbel h1 hE hrow
  go_enter Tryz.func60,Tryz.ntmps60
  go_wp2_with fail
  generalize World.alloc _ _ = w1 at e0 e1 e2 HB H1 ⊢;have hlt0:=World.block_lt_of_cell? w1 _ e0;refine (find_any H1.out _).mono ?_;rintro e w2 ⟨sp,cc,rfl,hown,hb2⟩;have hec : ((findR L txt).2.2 = 0 ∧ (findI L txt).isSome = true) ∨ ((findR L txt).2.2 = 13 ∧ (findI L txt).isSome = false):=by
    unfold findR;cases findI L txt <;> simp
  generalize findR L txt = r at *;obtain ⟨ri,rt,rc⟩:=r;have Hec:=Hid2.mk hec;have hb3 : Below w1.heap.size w1 (w2.alloc (.cells #[.int .i64 ri,.string rt.name,.bool rt.dropped,.slice sp rt.fs.length cc] 107)):=hb2.alloc hb2.size _;have H3:=Hid2.mk (H1.out.below hb3 (Nat.le_refl _));have HB3:=Hid2.mk (HB.out.trans (hb3.mono HB.out.size));have e1' : (w2.alloc (.cells #[.int .i64 ri,.string rt.name,.bool rt.dropped,.slice sp rt.fs.length cc] 107)).cell? ⟨w.heap.size,1,none⟩ = some (.string txt):=by rw [hb3.cell (p:=⟨w.heap.size,1,none⟩) hlt0];exact e1
  have e2' : (w2.alloc (.cells #[.int .i64 ri,.string rt.name,.bool rt.dropped,.slice sp rt.fs.length cc] 107)).cell? ⟨w.heap.size,2,none⟩ = some (.int .i64 tbl):=by rw [hb3.cell (p:=⟨w.heap.size,2,none⟩) hlt0];exact e2
  have hs2 : w.heap.size < w2.heap.size:=Nat.lt_of_lt_of_le hlt0 hb2.size;clear hec hb2 hb3 H1 HB e0 e1 e2 hlt0 hown;obtain ⟨tv,dr,mb,hc,hOc,hOm,hO3,⟨cells,hT,hI⟩,hB3,hM3,hG⟩:=H3.out;have HX:=Hid2.mk (And.intro hOm (And.intro hO3 (And.intro hB3 (And.intro hM3 hG))));clear hOm hO3 hB3 hM3;obtain ⟨sp2,cap,rfl,hcap,hcap2⟩:=hT.slice;have c0:=hc.cell 0 (by simp);simp only [List.getD_cons_zero] at c0;have hcw : c < w.heap.size:=H.out.lt c hOc;have HT:=Hid2.mk hT;have HI:=Hid2.mk hI;have hlen:=hG.len;have Hc:=Hid2.mk hc;clear hT hI hG hc
  by_cases h64 : 64 ≤ L.length
  · have hx : appC L 5 txt tbl = 17:=by unfold appC;rw [if_pos rfl,if_pos h64]
    have Hx:=Hid2.mk hx;have h64' : (64 : Int) ≤ L.length:=by omega
    clear hx
    go_wp2_with fail
    go_ret
    exact appPost_no Hx.out (by omega) H.out HB3.out
  · have h64' : (L.length : Int) < 64:=by omega
    have hwr : IntKind.i64.wrap ((L.length : Int) + 1) = (L.length : Int) + 1:=IntWalk.i64_in _ (by omega)
    by_cases htb : tbl = L.length + 1
    · subst htb
      have hg : (((L.length : Int) + 1) != (L.length : Int) + 1) = false:=by simp
      cases hnm : isNm txt with
      | false =>
        have hx : appC L 5 txt (L.length + 1) = 3:=by unfold appC;rw [if_pos rfl,if_neg h64,if_pos (.inr hnm)]
        have Hx:=Hid2.mk hx;have Hcl : Hid2 (∀ w,Calls Tryz.prog 80 #[.string txt] w fun e w' => e = .returned (.bool false) ∧ w = w'):=Hid2.mk fun w => by rw [← hnm];exact isName_any txt w
        clear hx hnm
        go_wp2_with fail
        go_quiet ((go_at_call 80;exact quiet_left (Hcl.out _)))
        go_wp2_with fail
        go_ret
        exact appPost_no Hx.out (by omega) H.out (belowN HB3.out _)
      | true =>
        have Hcl : Hid2 (∀ w,Calls Tryz.prog 80 #[.string txt] w fun e w' => e = .returned (.bool true) ∧ w = w'):=Hid2.mk fun w => by rw [← hnm];exact isName_any txt w
        have Hnm:=Hid2.mk hnm;clear hnm
        go_wp2_with fail
        go_quiet ((go_at_call 80;exact quiet_left (Hcl.out _)))
        rcases Hec.out with ⟨hr,hi⟩ | ⟨hr,hi⟩
        · have hx : appC L 5 txt (L.length + 1) = 8:=by unfold appC;rw [if_pos rfl,if_neg h64,if_neg (by simp [Hnm.out]),if_pos hi]
          have Hx:=Hid2.mk hx;subst hr;clear hx hi
          go_wp2_with fail
          go_ret
          exact appPost_no Hx.out (by omega) H.out (belowN HB3.out _)
        · skip
          subst hr;have Hi:=Hid2.mk hi;clear hi
          go_wp2_with fail
          generalize hw4 : World.drewN _ _ = w4;have f0 : w4.cell? ⟨c,0,none⟩ = some (.slice sp2 L.length cap):=by rw [← hw4];exact c0
          have f1 : w4.cell? ⟨w.heap.size,1,none⟩ = some (.string txt):=by rw [← hw4];exact e1'
          have f2 : w4.cell? ⟨w.heap.size,2,none⟩ = some (.int .i64 ((L.length : Int) + 1)):=by rw [← hw4];exact e2'
          have HB4:=Hid2.mk (show Below w.heap.size w w4 by rw [← hw4];exact belowN HB3.out _);have HT4:=Hid2.mk (show OwnV 107 4 w4 O (.slice sp2 L.length cap) L.length cells by rw [← hw4];exact HT.out);have HI4:=Hid2.mk (show ∀ i,i < L.length → IsTab 153 w4 O cells i (L.getD i noTb) by rw [← hw4];exact HI.out);have Hc4:=Hid2.mk (show VBlk 113 w4 c [.slice sp2 L.length cap,.int .u64 (dr : Nat),.map (some mb)] by rw [← hw4];exact Hc.out);have HX4:=Hid2.mk (show O mb ∧ (∀ b,O b → b < w4.heap.size) ∧ Bits dr L ∧ MF Tryz.prog 134 mk w4 mb n (hasF L) ∧ Good L by rw [← hw4];exact HX.out);clear HB3 H3 HT HI HX Hc c0 e1' e2' hw4 h64 h64' hcap;have hS : w4.drew.cell? ⟨c,0,none⟩ = some (.slice sp2 L.length cap) ∧ w4.drew.cell? ⟨w.heap.size,1,none⟩ = some (.string txt) ∧ w4.drew.cell? ⟨w.heap.size,2,none⟩ = some (.int .i64 ((L.length : Int) + 1)):=⟨f0,f1,f2⟩;have hsz4 : w.heap.size < w4.heap.size:=World.block_lt_of_cell? w4 _ f1;have hc4 : c < w4.heap.size:=World.block_lt_of_cell? w4 _ f0;refine wp_region_till 11 (fun w' => w'.cell? ⟨c,0,none⟩ = some (.slice sp2 L.length cap) ∧ w'.cell? ⟨w.heap.size,1,none⟩ = some (.string txt) ∧ w'.cell? ⟨w.heap.size,2,none⟩ = some (.int .i64 ((L.length : Int) + 1))) (by kernel_rfl) ?_;refine till_free (i:=0) rfl (by kernel_rfl) (by kernel_rfl) (by kernel_rfl) rfl (fun _ _ _ h => h) (.inr hS) (by rfl) (fun _ => by first | (go_simp;done) | (go_simp;with_reducible rfl)) ?_  -- move (tmp 0)
          refine till_free (i:=1) rfl (by kernel_rfl) (by kernel_rfl) (by kernel_rfl) rfl (fun _ _ _ h => h) (.inr hS) (by rfl) (fun _ => by first | (go_simp;done) | (go_simp;with_reducible rfl)) ?_  -- move (tmp 0)
          refine till_free (i:=2) rfl (by kernel_rfl) (by kernel_rfl) (by kernel_rfl) rfl (fun _ _ _ h => h) (.inr hS) (by rfl) (fun _ => by first | (go_simp;done) | (go_simp;with_reducible rfl)) ?_  -- nilCheck (tmp 51)
          refine till_free (i:=3) rfl (by kernel_rfl) (by kernel_rfl) (by kernel_rfl) rfl (fun _ _ _ h => h) (.inr hS) (by rfl) (fun _ => by first | (go_simp;done) | (go_simp;with_reducible rfl)) ?_  -- fieldAddr 69 (tmp 52) 0
          refine till_read (i:=4) [11] rfl (by kernel_rfl) (by kernel_rfl) (by kernel_rfl) (by kernel_rfl) rfl (fun _ _ _ h => h) (by rfl) (fun w' hw' => by first | (go_simp;done) | (go_simp;with_reducible rfl)) hS ?_  -- load 41 (tmp 53)
          refine till_free (i:=5) rfl (by kernel_rfl) (by kernel_rfl) (by kernel_rfl) rfl (fun _ _ _ h => h) (.inr hS) (by rfl) (fun _ => by first | (go_simp;done) | (go_simp;with_reducible rfl)) ?_  -- fieldAddr 37 (tmp 3) 2
          refine till_read (i:=6) [9,10,11] rfl (by kernel_rfl) (by kernel_rfl) (by kernel_rfl) (by kernel_rfl) rfl (fun _ _ _ h => h) (by rfl) (fun w' hw' => by first | (go_simp;done) | (go_simp;with_reducible rfl)) hS ?_  -- load 3 (tmp 55)
          refine till_free (i:=7) rfl (by kernel_rfl) (by kernel_rfl) (by kernel_rfl) rfl (fun _ _ _ h => h) (.inr hS) (by rfl) (fun _ => by first | (go_simp;done) | (go_simp;with_reducible rfl)) ?_  -- fieldAddr 37 (tmp 3) 1
          refine till_read (i:=8) [9,10,11] rfl (by kernel_rfl) (by kernel_rfl) (by kernel_rfl) (by kernel_rfl) rfl (fun _ _ _ h => h) (by rfl) (fun w' hw' => by first | (go_simp;done) | (go_simp;with_reducible rfl)) hS ?_  -- load 9 (tmp 57)
          refine till_free (i:=9) rfl (by kernel_rfl) (by kernel_rfl) (by kernel_rfl) rfl (fun _ _ _ h => h) (.inr hS) (by rfl) (fun _ => by first | (go_simp;done) | (go_simp;with_reducible rfl)) ?_  -- build 45 #[(0,tmp 56),(1,tmp 58)]
          refine till_one (i:=10) (by kernel_rfl) rfl ?_;intro K hK  -- EFFECT Op.buildSlice 41 1 #[(0,Operand.tmp 59)]
          go_simp
          have hS2 : (w4.alloc (.cells #[.int .i64 ((L.length : Int) + 1),.string txt,.bool false,.slice none 0 0] 107)).drew.cell? ⟨c,0,none⟩ = some (.slice sp2 L.length cap) ∧ (w4.alloc (.cells #[.int .i64 ((L.length : Int) + 1),.string txt,.bool false,.slice none 0 0] 107)).drew.cell? ⟨w.heap.size,1,none⟩ = some (.string txt) ∧ (w4.alloc (.cells #[.int .i64 ((L.length : Int) + 1),.string txt,.bool false,.slice none 0 0] 107)).drew.cell? ⟨w.heap.size,2,none⟩ = some (.int .i64 ((L.length : Int) + 1)) :=
            ⟨by rw [← f0];exact World.cell?_of_block (w:=w4) (Below.heap_alloc _ _ _ hc4),by rw [← f1];exact World.cell?_of_block (w:=w4) (Below.heap_alloc _ _ _ hsz4),by rw [← f2];exact World.cell?_of_block (w:=w4) (Below.heap_alloc _ _ _ hsz4)⟩
          refine hK _ _ (.inr hS2) ?_;have ho5 : OwnV 107 4 (w4.alloc (.cells #[.int .i64 ((L.length : Int) + 1),.string txt,.bool false,.slice none 0 0] 107)).drew O (.slice sp2 L.length cap) L.length cells:=HT4.out.alloc _;have hs5 : SlV (w4.alloc (.cells #[.int .i64 ((L.length : Int) + 1),.string txt,.bool false,.slice none 0 0] 107)).drew (fun _ => True) 4 (.slice (some ⟨w4.heap.size,0,none⟩) 1 1) 1 [.int .i64 ((L.length : Int) + 1),.string txt,.bool false,.slice none 0 0]:=SlV.fresh w4 (fun _ => True) _ (m:=4) (n:=1) (l:=[.int .i64 ((L.length : Int) + 1),.string txt,.bool false,.slice none 0 0]) rfl (fun u hu => by simp at hu;rcases hu with rfl | rfl | rfl | rfl <;> rfl) trivial (by unfold maxLen;omega);clear hS hS2 hK K;refine till_one (i:=11) (by kernel_rfl) rfl ?_;intro K hK  -- EFFECT Op.call { callee:=Callee.builtin Builtin.append,args:=#[Operand.tmp 54,Operand.tmp 60],argTypes:=#[41,41] }
          refine step_appV rfl (.tmp 54) (.tmp 60) 89 rfl elemTable rfl ho5 rfl hs5 (n':=L.length + 1) rfl (by unfold maxLen;omega) (by omega) ?_;intro sp5 c5 w5 hown5 hgrow hat;have hcn : (Value.slice sp2 L.length cap).ownBlock ≠ some c:=by
            intro e;obtain ⟨cur,hcur⟩:=HT4.out.tag e;exact tag_ne Hc4.out hcur (by decide) rfl
          have hk5 : Keep (fun b => b < w4.heap.size ∧ (Value.slice sp2 L.length cap).ownBlock ≠ some b) w4 w5 :=
            ((Keep.of_below (((Below.refl w4.heap.size w4).alloc (Nat.le_refl _) (.cells #[.int .i64 ((L.length : Int) + 1),.string txt,.bool false,.slice none 0 0] 107)).drew)).mono (fun b hb => hb.1)).trans ((grown_keep hgrow).mono fun b (hb : b < w4.heap.size ∧ (Value.slice sp2 L.length cap).ownBlock ≠ some b) => ⟨by show b < (w4.alloc (.cells #[.int .i64 ((L.length : Int) + 1),.string txt,.bool false,.slice none 0 0] 107)).heap.size;simp;omega,hb.2⟩)
          have hc5 : VBlk 113 w5 c [.slice sp2 L.length cap,.int .u64 (dr : Nat),.map (some mb)]:=Hc4.out.keep hk5 ⟨hc4,hcn⟩;have g0:=hc5.cell 0 (by simp);have g1:=hc5.free 0;simp only [List.getD_cons_zero] at g0;have Hk5:=Hid2.mk hk5;have Hown5:=Hid2.mk hown5;have Hgrow:=Hid2.mk hgrow;have Hat:=Hid2.mk hat;refine hK _ _ (.inl rfl) ?_;clear hK K ho5 hs5 hcn hk5 hc5 hown5 hgrow hat;refine till_free (i:=12) rfl (by kernel_rfl) (by kernel_rfl) (by kernel_rfl) rfl (fun _ _ _ h => h) (.inl rfl) (by rfl) (fun _ => by first | (go_simp;done) | (go_simp;with_reducible rfl)) ?_  -- nilCheck (tmp 50)
          refine till_free (i:=13) rfl (by kernel_rfl) (by kernel_rfl) (by kernel_rfl) rfl (fun _ _ _ h => h) (.inl rfl) (by rfl) (fun _ => by first | (go_simp;done) | (go_simp;with_reducible rfl)) ?_  -- fieldAddr 69 (tmp 62) 0
          refine till_one (i:=14) (by kernel_rfl) rfl ?_;intro K hK  -- EFFECT Op.store 41 (Operand.tmp 63) (Operand.tmp 61)
          go_simp
          refine hK _ _ (.inl rfl) ?_;refine till_done (by kernel_rfl) ?_ _;clear hK K
          go_wp2_with fail
          go_ret
          have hnm2 : txt.size ≤ 40:=by
            have:=Hnm.out;unfold isNm at this;simp at this
            exact this.2
          obtain ⟨x1,x2,x3,x4,x5⟩:=HX4.out;obtain ⟨y1,y2,y3⟩:=cat_push Hc4.out hOc x1 x2 HT4.out HI4.out x3 x4 x5 Hk5.out (B:=(w4.alloc (.cells #[.int .i64 ((L.length : Int) + 1),.string txt,.bool false,.slice none 0 0] 107)).heap.size) (by simp) Hown5.out (by omega) hnm2;have hc0 : appC L 5 txt ((L.length : Int) + 1) = 0:=by
            unfold appC;rw [if_pos rfl,if_neg (by omega),if_neg (by simp [Hnm.out]),if_neg (by simp [Hi.out])]
          have hl0 : appL L 5 txt ((L.length : Int) + 1) = L ++ [⟨txt,false,[]⟩]:=by
            unfold appL;rw [if_pos hc0,if_pos rfl]
          have hw4 : w.heap.size ≤ w4.heap.size:=by omega
          refine ⟨_,by rw [hc0];rfl,by rw [hl0];exact y1,((Keep.of_below HB4.out).mono fun b hb => hb.1).trans (y2.mono fun b (hb : b < w.heap.size ∧ ¬ O b) => ⟨by omega,hb.2⟩),fun b hb => (y3 b hb).imp id fun h => by omega⟩
    · have hx : appC L 5 txt tbl = 3:=by unfold appC;rw [if_pos rfl,if_neg h64,if_pos (.inl htb)]
      have Hx:=Hid2.mk hx;have hg : (tbl == (L.length : Int) + 1) = false:=beq_eq_false_iff_ne.2 htb;have hg2 : (tbl != (L.length : Int) + 1) = true:=by rw [bne_iff_ne];exact htb
      clear hx htb
      go_wp2_with fail
      go_quiet (fail)
      go_wp2_with fail
      go_ret
      exact appPost_no Hx.out (by omega) H.out (belowN HB3.out _)
end Cat
def Buf (k : IntKind) (e : TypeId) (w : World) (base : Nat) (v : Value) (l : List Int) : Prop:=w.ownsRow base e 1 v l.length (l.map (Value.int k))
theorem Buf.nil (k : IntKind) (e : TypeId) (w : World) (base : Nat) : Buf k e w base (.slice none 0 0) []:=World.ownsRow_nil _ _ _ _
theorem Buf.block {k : IntKind} {e : TypeId} {w : World} {base : Nat} {v : Value} {l : List Int} (h : Buf k e w base v l) :
    (v = .slice none 0 0 ∧ l = []) ∨ ∃ g cap rest,v = .slice (some ⟨g,0,none⟩) l.length cap ∧ base ≤ g ∧ l.length ≤ cap ∧ cap ≤ maxLen ∧ VBlk e w g (l.map (Value.int k) ++ rest) ∧ (l.map (Value.int k) ++ rest).length = cap:=by
  obtain ⟨h1,h2⟩:=h;rcases h2 with ⟨h2,h3⟩ | ⟨g,cap,cur,hv,hg,hh,r1,r2,r3,r4⟩
  · exact .inl ⟨h2,List.eq_nil_of_length_eq_zero h3⟩
  · refine .inr ⟨g,cap,cur.toList.drop l.length,hv,hg,r1,r2,?_,?_⟩
    · rw [Nat.mul_one] at r4
      rw [← r4,List.take_append_drop]
      simpa [VBlk] using hh
    · rw [Nat.mul_one] at r3
      simp;omega
theorem Buf.row {k : IntKind} {e : TypeId} {w : World} {base g cap : Nat} {l : List Int} (h : Buf k e w base (.slice (some ⟨g,0,none⟩) l.length cap) l) : Row k w g 0 l:=by
  intro j hj;have:=World.ownsRow.cellAt h j (by simpa using hj);rw [Nat.zero_add,this];simp [nth,hj]
theorem Buf.sl {k : IntKind} {e : TypeId} {w : World} {base : Nat} {v : Value} {l : List Int} (h : Buf k e w base v l) : Sl k w v l:=by
  rcases h.block with ⟨rfl,rfl⟩ | ⟨g,cap,rest,rfl,hg,h1,h2,hb,-⟩
  · exact Sl.nil k w
  · exact Sl.mk h1 (by unfold maxLen at h2;exact h2) hb.lt h.row
theorem Buf.alloc {k : IntKind} {e : TypeId} {w : World} {base : Nat} {v : Value} {l : List Int} (h : Buf k e w base v l) (o : Obj) : Buf k e (w.alloc o) base v l:=World.ownsRow.alloc h o
theorem Buf.keep {K : Nat → Prop} {k : IntKind} {e : TypeId} {w w' : World} {base : Nat} {v : Value} {l : List Int} (h : Buf k e w base v l) (hk : Keep K w w') (hK : ∀ g,base ≤ g → g < w.heap.size → v.ownBlock = some g → K g) : Buf k e w' base v l:=by
  refine ⟨h.1,?_⟩;rcases h.2 with hn | ⟨g,cap,cur,rfl,hb,hgg,rest⟩
  · exact .inl hn
  · refine .inr ⟨g,cap,cur,rfl,hb,?_,rest⟩
    rw [hk.block g (hK g hb (lt_of_block hgg) rfl)];exact hgg
theorem Buf.below {B : Nat} {k : IntKind} {e : TypeId} {w w' : World} {base : Nat} {v : Value} {l : List Int} (h : Buf k e w base v l) (hk : Below B w w') (hB : w.heap.size ≤ B) : Buf k e w' base v l :=
  h.keep (Keep.of_below hk) (fun _ _ hg _ => Nat.lt_of_lt_of_le hg hB)
theorem Buf.own {k : IntKind} {e : TypeId} {w : World} {base : Nat} {v : Value} {l : List Int} (h : Buf k e w base v l) : ∀ g,v.ownBlock = some g → base ≤ g ∧ g < w.heap.size:=fun g hg => World.ownsRow.lt h g hg
theorem Buf.mk {k : IntKind} {e : TypeId} {w : World} {base : Nat} (l rest : List Int) (hb : base ≤ w.heap.size) (hm : l.length + rest.length ≤ maxLen) :
    Buf k e (w.alloc (.cells ((l ++ rest).map (Value.int k)).toArray e)) base (.slice (some ⟨w.heap.size,0,none⟩) l.length (l.length + rest.length)) l:=by
  refine ⟨by simp,.inr ⟨w.heap.size,l.length + rest.length,_,rfl,hb,heap_alloc_new _ _,by omega,hm,by simp,?_⟩⟩;simp
theorem Buf.empty {k : IntKind} {e : TypeId} {w : World} {base : Nat} (hb : base ≤ w.heap.size) : Buf k e (w.alloc (.cells #[] e)) base (.slice (some ⟨w.heap.size,0,none⟩) 0 0) []:=Buf.mk [] [] hb (by unfold maxLen;simp)
theorem Sl.one (k : IntKind) (w : World) (x : Int) (T : TypeId) : Sl k (w.alloc (.cells #[.int k x] T)) (.slice (some ⟨w.heap.size,0,none⟩) 1 1) [x] :=
  Sl.mk (l:=[x]) (Nat.le_refl _) (by decide) (by simp) (IBlk.row (T:=T) (VBlk.mk w [.int k x] T))
structure Elem (P : Program) (t e : TypeId) (bytes : Nat) : Prop where
  ht : P.underlying t = some (.slice e)
  ex : ∃ i z,P.info? e = some i ∧ i.zero = some z ∧ i.size = 1 ∧ i.bytes = bytes ∧ z.cells.size = 1
theorem Elem.mk' {P : Program} {t e : TypeId} {bytes : Nat} {k : IntKind} {x : Int} (ht : P.underlying t = some (.slice e)) (hi : (P.info? e).map (fun i => (i.zero,i.size,i.bytes)) = some (some (.int k x),1,bytes)) : Elem P t e bytes :=
  ⟨ht,let ⟨i,h1,h2,h3,h4⟩:=info_parts hi;⟨i,_,h1,h2,h3,h4,rfl⟩⟩
theorem keep_grown {w w' : World} {base : Nat} {v : Value} (hg : w.grownBy w' v.ownBlock) (ho : ∀ g,v.ownBlock = some g → base ≤ g) (hb : base ≤ w.heap.size) : Keep (fun b => b < base) w w' :=
  ⟨hg.os,hg.tape,hg.output,hg.size,fun k hk => hg.block k (Nat.lt_of_lt_of_le hk hb) (fun e => absurd (ho k e.symm) (Nat.not_le.2 hk))⟩
theorem wpList_app {P : Program} {w : World} {ops : Array Oper} {rest : List Oper} {o : Oper} {a : Act} {Q : Exit → Act → World → Prop} (hgd : o.guard = none) (s x : Operand) (t : TypeId)
    (ho : o.op = .call { callee:=.builtin .append,args:=#[s,x],argTypes:=#[t,t] }) {e : TypeId} {k : IntKind} {bytes : Nat} (E : Elem P t e bytes)
    (base : Nat) (v : Value) (l : List Int) (hs : a.eval s = v) (hown : Buf k e w base v l) (xv : Value) (l2 : List Int) (hx : a.eval x = xv) (hsl : Sl k w xv l2)
    (n : Nat) (hn : l.length + l2.length = n) (hb1 : n ≤ maxLen) (hb2 : n * bytes ≤ 140737488355328) (hbase : base ≤ w.heap.size)
    (h : ∀ sp c w',Buf k e w' base (.slice sp n c) (l ++ l2) → Keep (fun b => b < base) w w' → wpList P ops Q rest (a.put o.dst (.slice sp n c)) w') : wpList P ops Q (o :: rest) a w:=by
  subst hn;obtain ⟨i,z,hi,hz,hz1,hz2,hz3⟩:=E.ex;obtain ⟨sp,cap,rfl,hc1,hc2,hrow,hnil⟩:=hsl;have go : ∀ v' w',w'.ownsRow base e 1 v' (l.length + l2.length) (l.map (Value.int k) ++ l2.map (Value.int k)) → w.grownBy w' v.ownBlock → wpList P ops Q rest (a.put o.dst v') w':=by
    intro v' w' h1 h2;have h1' : Buf k e w' base v' (l ++ l2):=by
      unfold Buf;rw [List.map_append,List.length_append];exact h1
    have hk:=keep_grown h2 (fun g hg => (hown.own g hg).1) hbase;rcases h1'.block with ⟨e1,e2⟩ | ⟨g,c,r,e1,-⟩
    · subst e1
      have e3 : l.length + l2.length = 0:=by rw [← List.length_append,e2];rfl
      rw [e3] at h;exact h none 0 w' h1' hk
    · subst e1
      rw [List.length_append] at h1' ⊢;exact h _ c w' h1' hk
  by_cases h0 : sp = none
  · subst h0
    have hc0:=hnil rfl;subst hc0;have hl2 : l2 = []:=List.eq_nil_of_length_eq_zero (by omega);subst hl2;refine wpList_append_own_none hgd s x t ho base e i 1 E.ht hi v l.length _ hs hown hx (go v w ?_ (World.grownBy.refl _ _));unfold Buf at hown;simpa using hown
  · obtain ⟨ad,had⟩:=Option.ne_none_iff_exists'.1 h0
    refine wpList_append_own w hgd s x t ho base e i z 1 bytes E.ht hi hz hz1 hz2 hz3 (by decide) v l.length _ hs hown ad l2.length cap (l2.map (Value.int k)) (by rw [hx,had]) (by simp) ?_ ?_ hb1 hb2 hbase (fun v' w' h1 h2 _ => go v' w' h1 h2)
    · intro j u hu
      have hj : j < l2.length:=by
        rcases Nat.lt_or_ge j l2.length with h | h
        · exact h
        · simp [h] at hu
      obtain ⟨b,o,e1,hlt,hr⟩:=hrow (by omega);rw [e1] at had;cases had
      rw [addr_add,hr j hj]
      simpa [nth,hj] using hu
    · intro u hu
      obtain ⟨_,_,rfl⟩:=List.mem_map.1 hu
      rfl
theorem three_alloc (w : World) (A B C : Obj) :
    (((w.alloc A).alloc B).alloc C).heap[w.heap.size]? = some A ∧ (((w.alloc A).alloc B).alloc C).heap[w.heap.size + 1]? = some B ∧ (((w.alloc A).alloc B).alloc C).heap[w.heap.size + 1 + 1]? = some C ∧
      Below w.heap.size w (((w.alloc A).alloc B).alloc C) ∧ (((w.alloc A).alloc B).alloc C).heap.size = w.heap.size + 3:=by
  have hs : ((w.alloc A).alloc B).heap.size = w.heap.size + 1 + 1:=by simp
  have hs1 : (w.alloc A).heap.size = w.heap.size + 1:=by simp
  refine ⟨?_,?_,?_,?_,?_⟩
  · rw [Below.heap_alloc _ _ _ (by rw [hs];omega),heap_alloc2_old]
  · rw [Below.heap_alloc _ _ _ (by rw [hs];omega),heap_alloc2_new]
  · rw [← hs,heap_alloc_new]
  · exact (((Below.refl _ w).alloc (Nat.le_refl _) A).alloc (by rw [hs1];omega) B).alloc (by rw [hs];omega) C
  · simp
open BigFrame
namespace Ld
theorem load_on {P : Program} {ops : Array Oper} {rest : List Oper} {o : Oper} {a : Act} {w : World} {Q : Exit → Act → World → Prop} (hw : Region.wanted o (yielded ops a.tmps) = true) (ty : TypeId) (x : Operand) (ho : o.op = .load ty x)
    (g : Nat) (hx : a.eval x = .pointer (some ⟨g,0,none⟩)) (t : TypeId) (cs : Array Value) (fr : Nat × Nat) (d : TypeDesc) (hg : w.heap[g]? = some (.cells cs t fr))
    (hu : P.underlying ty = some d) (hd : (match d with | .struct _ | .array _ _ => true | _ => false) = true) (hi : (P.info? ty).map (·.size) = some cs.size)
    (h : wpList P ops Q rest (a.put o.dst (.agg cs)) w) : wpList P ops Q (o :: rest) a w :=
  wpList_step fun _ hK => by rw [if_pos hw];exact wp_load_row ty x ho g hx t cs fr d hg hu hd hi (hK _ _ h)
end Ld
namespace K
def FF (r : Option Nat) : Fence:={ Fence.wide with round:=r }
def cw (md : Option (Option Nat)) (P : Program) (c : Code) (Q : Exit → Act → World → Prop) (a : Act) (w : World) : Prop :=
  match md with
  | none => c.wp P Q a w
  | some r => c.wpIn (FF r) 1 P Q a w
def lw (md : Option (Option Nat)) (P : Program) (ops : Array Oper) (Q : Exit → Act → World → Prop) (rest : List Oper) (a : Act) (w : World) : Prop :=
  match md with
  | none => wpList P ops Q rest a w
  | some r => wpListIn (FF r) 1 P ops Q rest a w
section
variable {md : Option (Option Nat)} {P : Program} {Q Q' : Exit → Act → World → Prop} {a : Act} {w w' : World} {ops : Array Oper} {rest : List Oper} {o : Oper} {K K' : Act → World → Prop} {r : Option Nat}
theorem cw_mono {c : Code} (hq : ∀ e a w,Q e a w → Q' e a w) (h : cw md P c Q a w) : cw md P c Q' a w:=by
  cases md with
  | none => exact Code.wp_mono hq h
  | some r => exact Go.wpIn_mono h hq
theorem cw_seq {x y : Code} (h : cw md P x (Exit.then (cw md P y Q) Q) a w) : cw md P (.seq x y) Q a w:=by
  cases md with
  | none => exact wp_seq h
  | some r => exact wpIn_seq h
theorem cw_block {id : Nat} {c : Code} (h : cw md P c (Exit.inBlock id Q) a w) : cw md P (.block id c) Q a w:=by
  cases md with
  | none => exact wp_block h
  | some r => exact wpIn_block h
theorem cw_skip (h : Q .normal a w) : cw md P .skip Q a w:=by
  cases md with
  | none => exact wp_skip h
  | some r => exact wpIn_skip h
theorem cw_exit {id : Nat} (h : Q (.exit id) a w) : cw md P (.exit id) Q a w:=by
  cases md with
  | none => exact wp_exit h
  | some r => exact wpIn_exit h
theorem cw_ret (h : Q .ret a w) : cw md P .ret Q a w:=by
  cases md with
  | none => exact wp_ret h
  | some r => exact wpIn_ret h
theorem cw_region {id : Nat} {l : List Oper} (h : lw md P l.toArray Q l a w) : cw md P (.region id l.toArray false) Q a w:=by
  cases md with
  | none => exact wp_region_lit h
  | some r => exact wpIn_region_lit h
theorem cw_cond {c : Operand} {x y : Code} {t : Bool} (hc : a.eval c = .bool t) (ht : t = true → cw md P x Q a w) (hf : t = false → cw md P y Q a w) : cw md P (.cond c x y) Q a w:=by
  cases md with
  | none => exact wp_cond_split hc ht hf
  | some r => exact wpIn_cond_split hc ht hf
theorem cw_loop {c : Code} (I : Nat → Act → World → Prop) (n₀ : Nat) (h₀ : I n₀ a w)
    (round : ∀ n a w,I n a w → cw md P c (Exit.then (fun a' w' => ∃ n',n' < n ∧ I n' a' w') Q) a w) : cw md P (.loop c) Q a w:=by
  cases md with
  | none => exact wp_loop_ghost I n₀ h₀ round
  | some r => exact wpIn_loop_ghost I n₀ h₀ round
theorem lw_nil {P : Program} (h : Q .normal a w) : lw md P ops Q [] a w:=by
  cases md with
  | none => exact h
  | some r => exact h
theorem not_defer {v : Next} (hv : ∀ d,v ≠ .defer d) (hr : (execOp a.eval o).run P w = .ok v w') : ∀ c,o.op ≠ .defer c:=by
  intro c hc;unfold execOp at hr;rw [hc] at hr;simp only [Sem.run_bind] at hr;cases h : (resolve a.eval c o.type).run P w with
  | ok d w2 => rw [h] at hr;simp at hr;exact hv _ hr.1.symm
  | halt x w2 => rw [h] at hr;cases hr
theorem semAt_run {v : Next} (hv : ∀ d,v ≠ .defer d) (hr : (execOp a.eval o).run P w = .ok v w') : (o.semAt r a.eval).run P w = .ok v w':=by
  rw [Oper.semAt_eq r a.eval o (not_defer hv hr)];exact hr
theorem lw_value {v : Value} (hg : o.guard = none) (hr : (execOp a.eval o).run P w = .ok (.value v) w') (h : lw md P ops Q rest (a.put o.dst v) w') : lw md P ops Q (o :: rest) a w:=by
  cases md with
  | none => exact wpList_plain hg fun K hK => by unfold Oper.wp;rw [hr,Oper.upon_value];exact hK _ _ h
  | some r => exact wpListIn_plain hg fun K hK => ⟨fun _ _ => trivial,by show o.uponIn (FF r) 1 P a K Q ((o.semAt r a.eval).run P w);rw [semAt_run (by intro d hd;cases hd) hr,Oper.uponIn_value];exact hK _ _ h⟩
theorem lw_skip (hg : o.guard = none) (hr : (execOp a.eval o).run P w = .ok .skip w') (h : lw md P ops Q rest (a.put o.dst undef) w') : lw md P ops Q (o :: rest) a w:=by
  cases md with
  | none => exact wpList_plain hg fun K hK => by unfold Oper.wp;rw [hr,Oper.upon_skip];exact hK _ _ h
  | some r => exact wpListIn_plain hg fun K hK => ⟨fun _ _ => trivial,by show o.uponIn (FF r) 1 P a K Q ((o.semAt r a.eval).run P w);rw [semAt_run (by intro d hd;cases hd) hr,Oper.uponIn_skip];exact hK _ _ h⟩
theorem callsFF {n f : Nat} {args : Array Value} {R : Ending → World → Prop} (h : Calls P f args w R) : CallsIn (FF r) n P f args w R:=by
  cases r with
  | none => exact callsIn_wide.2 h
  | some l => exact CallsIn.inRound l (callsIn_wide.2 h)
theorem lw_enter {f : Nat} {args : Array Value} (hg : o.guard = none) (hr : (execOp a.eval o).run P w = .ok (.enter f args) w')
    (h : Calls P f args w' fun e w2 => ∃ v,e = .returned v ∧ lw md P ops Q rest (a.put o.dst v) w2) : lw md P ops Q (o :: rest) a w:=by
  cases md with
  | none =>
    exact wpList_plain hg fun K hK => by
      unfold Oper.wp;rw [hr,Oper.upon_enter];refine h.mono fun e w2 hh => ?_;obtain ⟨v,rfl,h2⟩:=hh;exact hK _ _ h2
  | some r =>
    refine wpListIn_plain hg fun K hK => ⟨fun _ _ => trivial,?_⟩
    show o.uponIn (FF r) 1 P a K Q ((o.semAt r a.eval).run P w)
    rw [semAt_run (by intro d hd;cases hd) hr,Oper.uponIn_enter];refine ⟨fun _ => Nat.le_refl 1,(callsFF h).mono fun e w2 hh => ?_⟩;obtain ⟨v,rfl,h2⟩:=hh;exact hK _ _ h2
theorem lw_on (hw : Region.wanted o (yielded ops a.tmps) = true) (h : lw md P ops Q ({ o with guard:=none } :: rest) a w) : lw md P ops Q (o :: rest) a w:=by
  have hw2 : Region.wanted { o with guard:=none } (yielded ops a.tmps) = true:=rfl;cases md with
  | none =>
    change wpList P ops Q _ a w at h
    show wpList P ops Q _ a w
    unfold wpList at h ⊢;rw [if_pos hw2] at h;rw [if_pos hw];exact h
  | some r =>
    change wpListIn (FF r) 1 P ops Q _ a w at h
    show wpListIn (FF r) 1 P ops Q _ a w
    unfold wpListIn at h ⊢;rw [if_pos hw2] at h;rw [if_pos hw];exact h
theorem lw_off (hw : Region.wanted o (yielded ops a.tmps) = false) (h : lw md P ops Q rest (a.put o.dst undef) w) : lw md P ops Q (o :: rest) a w:=by
  have hw2 : ¬ Region.wanted o (yielded ops a.tmps) = true:=by rw [hw];exact Bool.false_ne_true
  cases md with
  | none => show wpList P ops Q _ a w;unfold wpList;rw [if_neg hw2];exact h
  | some r => show wpListIn (FF r) 1 P ops Q _ a w;unfold wpListIn;rw [if_neg hw2];exact ⟨fun _ _ => trivial,h⟩
def NoOut (Q : Exit → Act → World → Prop) : Exit → Act → World → Prop
  | .outgrown,_,_ => False
  | e,a,w => Q e a w
theorem rowsFF {n : Nat} {row : String} {args : Array Value} {R : Value → World → Prop} (h : Rows P row args w R) : RowsIn (FF r) n P row args w R:=by
  have h1 : RowsIn Fence.wide n P row args w R:=fun c cs _ => let ⟨v,w',hR,hs⟩:=h c cs;⟨v,w',hR,stepsIn_wide.2 hs⟩
  exact h1
theorem wp_noOut (hk : ∀ a w, K a w → K' a w) (h : o.wp P a w K (Exit.then K (NoOut Q))) : o.wp P a w K' Q := by
  unfold Oper.wp at h ⊢
  revert h
  generalize (execOp a.eval o).run P w = x; intro h; cases x with
  | ok x w2 =>
    cases x <;> first | exact hk _ _ h | exact h | skip
    all_goals first
      | (refine Calls.mono h fun e w3 h3 => ?_
         cases e with
         | returned v => exact hk _ _ h3
         | panicked ch => exact h3
         | outgrown => obtain ⟨a4, w4, h4⟩ := h3; exact h4.elim)
      | exact Rows.mono h fun v w3 h3 => hk _ _ h3
  | halt x w2 => cases x <;> first | exact h | skip
theorem wpIn_noOut (hd : ∀ c, o.op ≠ .defer c) (hk : ∀ a w, K a w → K' a w) (h : o.wp P a w K (Exit.then K (NoOut Q))) : o.wpIn (FF r) 1 P a w K' Q := by
  refine ⟨fun _ _ => trivial, ?_⟩
  show o.uponIn (FF r) 1 P a K' Q ((o.semAt r a.eval).run P w)
  rw [Oper.semAt_eq r a.eval o hd]; unfold Oper.wp at h
  revert h
  generalize (execOp a.eval o).run P w = x; intro h; cases x with
  | ok x w2 =>
    cases x <;> first | exact hk _ _ h | exact h.elim | skip
    all_goals first
      | (refine ⟨fun _ => Nat.le_refl 1, (callsFF h).mono fun e w3 h3 => ?_⟩
         cases e with
         | returned v => exact hk _ _ h3
         | panicked ch => exact h3
         | outgrown => obtain ⟨a4, w4, h4⟩ := h3; exact h4.elim)
      | exact ⟨fun _ => Nat.le_refl 1, (rowsFF h).mono fun v w3 h3 => hk _ _ h3⟩
  | halt x w2 => cases x <;> first | exact h | exact h.elim | skip
theorem lw_via (hg : o.guard = none) (hd : ∀ c,o.op ≠ .defer c) (h : wpList P ops (Exit.then (lw md P ops Q rest) (NoOut Q)) [o] a w) : lw md P ops Q (o :: rest) a w:=by
  have hw : Region.wanted o (yielded ops a.tmps) = true:=by simp [Region.wanted,hg]
  unfold wpList at h;rw [if_pos hw] at h;have h1 : o.wp P a w (lw md P ops Q rest) (Exit.then (lw md P ops Q rest) (NoOut Q)):=by
    rcases h with h | ⟨-,a2,w2,h2⟩
    · exact h
    · exact h2.elim
  cases md with
  | none => exact wpList_plain hg fun K hK => wp_noOut hK h1
  | some r => exact wpListIn_plain hg fun K hK => wpIn_noOut hd hK h1
theorem wpOper_mono {o : Oper} (hq : ∀ e a w, Q e a w → Q' e a w) (hk : ∀ a w, K a w → K' a w) (h : o.wp P a w K Q) : o.wp P a w K' Q' := by
  unfold Oper.wp at h ⊢
  revert h
  generalize (execOp a.eval o).run P w = r; intro h; cases r with
  | ok x w2 =>
    cases x <;> first | exact hk _ _ h | exact h | skip
    all_goals first
      | (refine Calls.mono h fun e w3 h3 => ?_
         cases e with
         | returned v => exact hk _ _ h3
         | panicked ch => exact hq _ _ _ h3
         | outgrown => obtain ⟨a4, w4, h4⟩ := h3; exact ⟨a4, w4, hq _ _ _ h4⟩)
      | exact Rows.mono h fun v w3 h3 => hk _ _ h3
  | halt x w2 => cases x <;> first | exact hq _ _ _ h | exact h | skip
theorem wpOperIn_mono {F : Fence} {n : Nat} {o : Oper} (hq : ∀ e a w, Q e a w → Q' e a w) (hk : ∀ a w, K a w → K' a w) (h : o.wpIn F n P a w K Q) : o.wpIn F n P a w K' Q' := by
  refine ⟨h.1, ?_⟩; have h := h.2
  revert h
  generalize (o.semAt F.round a.eval).run P w = r; intro h; cases r with
  | ok x w2 =>
    cases x <;> first | exact hk _ _ h | exact h | skip
    all_goals first
      | (refine ⟨h.1, CallsIn.mono h.2 fun e w3 h3 => ?_⟩
         cases e with
         | returned v => exact hk _ _ h3
         | panicked ch => exact hq _ _ _ h3
         | outgrown => obtain ⟨a4, w4, h4⟩ := h3; exact ⟨a4, w4, hq _ _ _ h4⟩)
      | exact ⟨h.1, RowsIn.mono h.2 fun v w3 h3 => hk _ _ h3⟩
      | (refine ⟨h.1, RoundIn.mono h.2 fun e w3 h3 => ?_⟩
         cases e with
         | returned v => exact hk _ _ h3
         | panicked ch => exact hq _ _ _ h3
         | outgrown => obtain ⟨a4, w4, h4⟩ := h3; exact ⟨a4, w4, hq _ _ _ h4⟩)
  | halt x w2 => cases x <;> first | exact hq _ _ _ h | exact h | skip
theorem wpList_mono' (hq : ∀ e a w,Q e a w → Q' e a w) (hl : LetsOut Q → LetsOut Q') : ∀ (rest : List Oper) (a : Act) (w : World),wpList P ops Q rest a w → wpList P ops Q' rest a w
  | [],a,w,h => hq _ _ _ h
  | o :: rest,a,w,h => by
    unfold wpList at h ⊢
    split
    · rename_i hw
      rw [if_pos hw] at h;rcases h with h | h
      · exact .inl (wpOper_mono hq (fun a w h => wpList_mono' hq hl rest a w h) h)
      · exact .inr ⟨h.1,hl h.2⟩
    · rename_i hw
      rw [if_neg hw] at h;exact wpList_mono' hq hl rest _ w h
theorem wpListIn_mono' {F : Fence} {n : Nat} (hq : ∀ e a w,Q e a w → Q' e a w) : ∀ (rest : List Oper) (a : Act) (w : World),wpListIn F n P ops Q rest a w → wpListIn F n P ops Q' rest a w
  | [],a,w,h => hq _ _ _ h
  | o :: rest,a,w,h => by
    unfold wpListIn at h ⊢
    split
    · rename_i hw
      rw [if_pos hw] at h;exact wpOperIn_mono hq (fun a w h => wpListIn_mono' hq rest a w h) h
    · rename_i hw
      rw [if_neg hw] at h;exact ⟨h.1,wpListIn_mono' hq rest _ w h.2⟩
theorem lw_mono (hq : ∀ e a w,Q e a w → Q' e a w) (h : lw md P ops Q rest a w) : lw md P ops Q' rest a w:=by
  cases md with
  | none => exact wpList_mono' hq (fun ⟨a,w,q⟩ => ⟨a,w,hq _ _ _ q⟩) rest a w h
  | some r => exact wpListIn_mono' hq rest a w h
end
end K
namespace K
abbrev Env:=List (Nat × Value)
def look : Env → Nat → Option Value
  | [],_ => none
  | (j,v) :: r,k => bif Nat.beq j k then some v else look r k
def evl (l : Env) : Operand → Option Value
  | .tmp t => look l t
  | .const v => some v
  | .global g => some (.pointer (some ⟨g,0,none⟩))
  | .func f => some (.func (.func f) #[] #[])
structure NN where
  n : Nat
  ds : List Deferred:=[]
  md : Option (Option Nat):=none
structure Fr (n : NN) (a : Act) (l : Env) : Prop where
  size : a.tmps.size = n.n
  defers : a.defers = n.ds
  slot : ∀ k v,look l k = some v → a.tmps[k]? = some v
theorem Fr.eval {n : NN} {a : Act} {l : Env} (h : Fr n a l) {x : Operand} {v : Value} (hx : evl l x = some v) : a.eval x = v:=by
  cases x with
  | tmp t => have:=h.slot t v hx;show a.tmps.getD t undef = v;rw [Array.getD_eq_getD_getElem?,this];rfl
  | const u => exact Option.some.inj hx
  | global g => exact Option.some.inj hx
  | func f => exact Option.some.inj hx
theorem Fr.put {n : NN} {a : Act} {l : Env} (h : Fr n a l) {d : Nat} (hd : Nat.blt d n.n = true) (v : Value) : Fr n (a.put (some d) v) ((d,v) :: l):=by
  have hd' : d < n.n:=by rw [Nat.blt_eq] at hd;exact hd
  refine ⟨by show (a.tmps.setIfInBounds d v).size = n.n;rw [Array.size_setIfInBounds];exact h.size,h.defers,fun k u hk => ?_⟩
  show (a.tmps.setIfInBounds d v)[k]? = some u
  have hs:=h.size;unfold look at hk;cases hb : Nat.beq d k with
  | true =>
    rw [hb] at hk;obtain rfl : d = k:=Nat.eq_of_beq_eq_true hb;obtain rfl : v = u:=Option.some.inj hk;simp [hs,hd']
  | false =>
    rw [hb] at hk;have hne : d ≠ k:=Nat.ne_of_beq_eq_false hb;rw [Array.getElem?_setIfInBounds_ne hne];exact h.slot k u hk
theorem Fr.none {n : NN} {a : Act} {l : Env} (h : Fr n a l) (v : Value) : Fr n (a.put none v) l:=h
def Sub (l : Env) : Env → Prop
  | [] => True
  | (k,v) :: r => look l k = some v ∧ Sub l r
theorem Sub.look {l : Env} : ∀ {m : Env} {k : Nat} {v : Value},Sub l m → look m k = some v → K.look l k = some v
  | [],_,_,_,h => by cases h
  | (j,u) :: r,k,v,h,hk => by
    unfold K.look at hk;cases hb : Nat.beq j k with
    | true =>
      rw [hb] at hk;obtain rfl : j = k:=Nat.eq_of_beq_eq_true hb;obtain rfl : u = v:=Option.some.inj hk;exact h.1
    | false => rw [hb] at hk;exact Sub.look h.2 hk
theorem Fr.sub {n : NN} {a : Act} {l m : Env} (h : Fr n a l) (hs : Sub l m) : Fr n a m:=⟨h.size,h.defers,fun k v hk => h.slot k v (hs.look hk)⟩
def argsEnv : Nat → List Value → Env
  | _,[] => []
  | i,v :: r => (i,v) :: argsEnv (i + 1) r
theorem look_args : ∀ (l : List Value) (i k : Nat) (v : Value),look (argsEnv i l) k = some v → i ≤ k ∧ l[k - i]? = some v
  | [],_,_,_,h => by cases h
  | u :: r,i,k,v,h => by
    unfold argsEnv look at h;cases hb : Nat.beq i k with
    | true =>
      rw [hb] at h;obtain rfl : i = k:=Nat.eq_of_beq_eq_true hb;exact ⟨Nat.le_refl _,by simpa using h⟩
    | false =>
      rw [hb] at h;have hne : i ≠ k:=Nat.ne_of_beq_eq_false hb;obtain ⟨h1,h2⟩:=look_args r (i + 1) k v h;refine ⟨by omega,?_⟩;have : k - i = (k - (i + 1)) + 1:=by omega
      rw [this]
      simpa using h2
section
variable {n : NN} {Q : Exit → Act → World → Prop} {l : Env} {w : World}
structure WC (n : NN) (c : Code) (Q : Exit → Act → World → Prop) (l : Env) (w : World) : Prop where
  go : ∀ a,Fr n a l → cw n.md Tryz.prog c Q a w
structure WL (n : NN) (ops : Array Oper) (Q : Exit → Act → World → Prop) (rest : List Oper) (l : Env) (w : World) : Prop where
  go : ∀ a,Fr n a l → lw n.md Tryz.prog ops Q rest a w
structure WQ (n : NN) (Q : Exit → Act → World → Prop) (e : Exit) (l : Env) (w : World) : Prop where
  go : ∀ a,Fr n a l → Q e a w
theorem enter {f : FuncId} {fn : Func} {c : Code} {args : List Value} {n : Nat} {R : Ending → World → Prop} (hf : Tryz.prog.funcs[f]? = some fn) (hb : fn.body = some c) (hn : fn.ntmps = n) (hs : Nat.ble args.length n = true)
    (h : WC ⟨n,[],none⟩ c (bodyPost Tryz.prog fn R) (argsEnv 0 args) w) : Calls Tryz.prog f args.toArray w R:=by
  refine calls_of_wp hf hb (h.go _ ?_);subst hn;have hs' : args.length ≤ fn.ntmps:=Nat.le_of_ble_eq_true hs;refine ⟨by simp;omega,rfl,fun k v hk => ?_⟩;obtain ⟨-,h2⟩:=look_args _ _ _ _ hk;rw [Nat.sub_zero] at h2;have hlt : k < args.length:=by
    rcases Nat.lt_or_ge k args.length with h | h
    · exact h
    · rw [List.getElem?_eq_none h] at h2;cases h2
  rw [Array.getElem?_append_left (by simpa using hlt)]
  simpa using h2
theorem WC.seq {x y : Code} (h : WC n x (Exit.then (cw n.md Tryz.prog y Q) Q) l w) : WC n (.seq x y) Q l w:=⟨fun a ha => cw_seq (h.go a ha)⟩
theorem WC.block {id : Nat} {c : Code} (h : WC n c (Exit.inBlock id Q) l w) : WC n (.block id c) Q l w:=⟨fun a ha => cw_block (h.go a ha)⟩
theorem WC.skip (h : WQ n Q .normal l w) : WC n .skip Q l w:=⟨fun a ha => cw_skip (h.go a ha)⟩
theorem WC.exit {id : Nat} (h : WQ n Q (.exit id) l w) : WC n (.exit id) Q l w:=⟨fun a ha => cw_exit (h.go a ha)⟩
theorem WC.ret (h : WQ n Q .ret l w) : WC n .ret Q l w:=⟨fun a ha => cw_ret (h.go a ha)⟩
theorem WC.region {id : Nat} {ops : List Oper} (h : WL n ops.toArray Q ops l w) : WC n (.region id ops.toArray false) Q l w:=⟨fun a ha => cw_region (h.go a ha)⟩
theorem WC.condB {c : Operand} {x y : Code} {b : Bool} (hc : evl l c = some (.bool b)) (h1 : b = true → WC n x Q l w) (h2 : b = false → WC n y Q l w) : WC n (.cond c x y) Q l w :=
  ⟨fun a ha => cw_cond (ha.eval hc) (fun e => (h1 e).go a ha) (fun e => (h2 e).go a ha)⟩
theorem WC.condTrue {c : Operand} {x y : Code} (hc : evl l c = some (.bool true)) (h : WC n x Q l w) : WC n (.cond c x y) Q l w:=WC.condB hc (fun _ => h) (fun e => by cases e)
theorem WC.condFalse {c : Operand} {x y : Code} (hc : evl l c = some (.bool false)) (h : WC n y Q l w) : WC n (.cond c x y) Q l w:=WC.condB hc (fun e => by cases e) (fun _ => h)
theorem WC.condT {c : Operand} {x y : Code} {p : Prop} [Decidable p] (hc : evl l c = some (.bool (decide p))) (hp : p) (h : WC n x Q l w) : WC n (.cond c x y) Q l w:=WC.condTrue (by rw [hc,decide_eq_true hp]) h
theorem WC.condF {c : Operand} {x y : Code} {p : Prop} [Decidable p] (hc : evl l c = some (.bool (decide p))) (hp : ¬ p) (h : WC n y Q l w) : WC n (.cond c x y) Q l w:=WC.condFalse (by rw [hc,decide_eq_false hp]) h
theorem WC.as {c : Code} (k : Nat) (v' : Value) {v : Value} (hk : look l k = some v) (e : v = v') (h : WC n c Q ((k,v') :: l) w) : WC n c Q l w :=
  ⟨fun a ha => h.go a ⟨ha.size,ha.defers,fun j u hj => by
    unfold look at hj;cases hb : Nat.beq k j with
    | true =>
      rw [hb] at hj;obtain rfl : k = j:=Nat.eq_of_beq_eq_true hb;obtain rfl : v' = u:=Option.some.inj hj;subst e;exact ha.slot _ _ hk
    | false => rw [hb] at hj;exact ha.slot _ _ hj⟩⟩
def Again (n : NN) {ι : Type} (L : ι → Env) (W : ι → World → Prop) (μ : ι → Nat) (i : ι) (a : Act) (w : World) : Prop:=∃ j,Fr n a (L j) ∧ W j w ∧ μ j < μ i
def Meet (n : NN) {ι : Type} (L : ι → Env) (W : ι → World → Prop) (a : Act) (w : World) : Prop:=∃ i,Fr n a (L i) ∧ W i w
theorem WC.loop {ι : Type} {c : Code} (L : ι → Env) (W : ι → World → Prop) (μ : ι → Nat) (i : ι) (hs : Sub l (L i)) (hw : W i w)
    (round : ∀ i w,W i w → WC n c (Exit.then (Again n L W μ i) Q) (L i) w) : WC n (.loop c) Q l w:=by
  refine ⟨fun a ha => cw_loop (fun m a w => ∃ i,Fr n a (L i) ∧ W i w ∧ μ i = m) (μ i) ⟨i,ha.sub hs,hw,rfl⟩ ?_⟩;rintro m a w ⟨i,hf,hw,rfl⟩;refine cw_mono (fun e a w q => ?_) ((round i w hw).go a hf);cases e with
  | normal => obtain ⟨j,h1,h2,h3⟩:=q;exact ⟨μ j,h3,j,h1,h2,rfl⟩
  | exit id => exact q
  | goto l => exact q
  | ret => exact q
  | panic ch => exact q
  | outgrown => exact q
end
end K
namespace K
inductive TyD where
  | int (k : IntKind) | str | bool | ptr (e : Nat) | slice (e s : Nat) | struct (n : Nat) (fs : List (Nat × Nat × Nat)) | arr (n e s : Nat) | map (k e : Nat)
def TyD.ok (P : Program) (t : Nat) : TyD → Prop
  | .int k => P.underlying t = some (.int k)
  | .str => P.underlying t = some .string
  | .bool => P.underlying t = some .bool
  | .ptr e => P.underlying t = some (.pointer e)
  | .slice e s => P.underlying t = some (.slice e) ∧ (P.info? e).map (·.size) = some s
  | .map k e => P.underlying t = some (.map k e)
  | .arr n e s => P.underlying t = some (.array n e) ∧ (P.info? e).map (·.size) = some s ∧ (P.info? t).map (·.size) = some (n * s)
  | .struct n fs => (∃ us,P.underlying t = some (.struct us)) ∧ (P.info? t).map (·.size) = some n ∧
      (match P.underlying t with | some (.struct us) => (us.toList.map fun f => (f.type,f.offset,((P.info? f.type).map (·.size)).getD 0)) == fs | _ => false) = true
def TyOk (P : Program) : List (Nat × TyD) → Prop
  | [] => True
  | (t,d) :: r => d.ok P t ∧ TyOk P r
def tyOf : List (Nat × TyD) → Nat → Option TyD
  | [],_ => none
  | (t,d) :: r,k => bif Nat.beq t k then some d else tyOf r k
theorem TyOk.of {P : Program} : ∀ {T : List (Nat × TyD)} {t : Nat} {d : TyD},TyOk P T → tyOf T t = some d → d.ok P t
  | [],_,_,_,h => by cases h
  | (j,u) :: r,t,d,h,hk => by
    unfold tyOf at hk;cases hb : Nat.beq j t with
    | true =>
      rw [hb] at hk;obtain rfl : j = t:=Nat.eq_of_beq_eq_true hb;obtain rfl : u = d:=Option.some.inj hk;exact h.1
    | false => rw [hb] at hk;exact TyOk.of h.2 hk
def cellsN : Option TyD → Option Nat
  | some (.struct m _) => some m
  | some (.arr n _ s) => some (n * s)
  | _ => none
theorem cellsN_ok {P : Program} {T : List (Nat × TyD)} (hT : TyOk P T) {t m : Nat} (h : cellsN (tyOf T t) = some m) :
    ∃ d,P.underlying t = some d ∧ (match d with | .struct _ | .array _ _ => true | _ => false) = true ∧ (P.info? t).map (·.size) = some m:=by
  unfold cellsN at h
  split at h
  · rename_i m' fs he
    obtain rfl:=Option.some.inj h;obtain ⟨⟨us,hu⟩,hsz,-⟩:=TyOk.of hT he;exact ⟨_,hu,rfl,hsz⟩
  · rename_i n e s he
    obtain rfl:=Option.some.inj h;obtain ⟨hu,-,hsz⟩:=TyOk.of hT he;exact ⟨_,hu,rfl,hsz⟩
  · cases h
def quoI (k : IntKind) (a b : Int) : Option Value :=
  match b with
  | .ofNat (_ + 1) => some (.int k (k.wrap (a.tdiv b)))
  | _ => none
def remI (k : IntKind) (a b : Int) : Option Value :=
  match b with
  | .ofNat (_ + 1) => some (.int k (a.tmod b))
  | _ => none
def shlI (k : IntKind) (a : Int) : Int → Option Value
  | .ofNat m => some (.int k (k.wrap (a * ((2 ^ min m k.bits : Nat) : Int))))
  | _ => none
def shrI (k : IntKind) (a : Int) : Int → Option Value
  | .ofNat m => some (.int k (a / ((2 ^ min m k.bits : Nat) : Int)))
  | _ => none
def binI (k : IntKind) (a b : Int) : BinOp → Option Value
  | .add => some (.int k (k.wrap (a + b)))
  | .sub => some (.int k (k.wrap (a - b)))
  | .mul => some (.int k (k.wrap (a * b)))
  | .eql => some (.bool (decide (a = b)))
  | .neq => some (.bool (decide (a ≠ b)))
  | .lss => some (.bool (decide (a < b)))
  | .leq => some (.bool (decide (a ≤ b)))
  | .gtr => some (.bool (decide (b < a)))
  | .geq => some (.bool (decide (b ≤ a)))
  | .and => some (.int k (bits .and k a b))
  | .or => some (.int k (bits .or k a b))
  | .xor => some (.int k (bits .xor k a b))
  | .quo => quoI k a b
  | .rem => remI k a b
  | _ => none
def shI (k : IntKind) (a b : Int) : BinOp → Option Value
  | .shl => shlI k a b
  | .shr => shrI k a b
  | _ => none
def binS (a b : ByteArray) : BinOp → Option Value
  | .eql => some (.bool (a.toList == b.toList))
  | .neq => some (.bool (!(a.toList == b.toList)))
  | .lss => some (.bool (Op.bytesLess a.toList b.toList))
  | .leq => some (.bool (Op.bytesLess a.toList b.toList || a.toList == b.toList))
  | .gtr => some (.bool !(Op.bytesLess a.toList b.toList || a.toList == b.toList))
  | .geq => some (.bool !(Op.bytesLess a.toList b.toList))
  | _ => none
def isSh : BinOp → Bool
  | .shl | .shr => true
  | _ => false
def evlAll (l : Env) : List Operand → Option (List Value)
  | [] => some []
  | x :: r => match evl l x,evlAll l r with
    | some v,some vs => some (v :: vs)
    | _,_ => none
def pvPick (l : Env) (a b : Operand) : Option Value → Option Value
  | some (.bool true) => evl l a
  | some (.bool false) => evl l b
  | _ => none
def pvBool (a b : Bool) : Option TyD → BinOp → Option Value
  | some .bool,.eql => some (.bool (a == b))
  | some .bool,.neq => some (.bool (!(a == b)))
  | _,_ => none
def pvBin (op : BinOp) (ty : Option TyD) : Option Value → Option Value → Option Value
  | some (.int k a),some (.int k' b) => bif isSh op then shI k a b op else if k = k' then binI k a b op else none
  | some (.string a),some (.string b) => binS a b op
  | some (.bool a),some (.bool b) => pvBool a b ty op
  | _,_ => none
def pvUn : UnOp → Option Value → Option Value
  | .neg,some (.int k a) => some (.int k (k.wrap (0 - a)))
  | .not,some (.bool b) => some (.bool (!b))
  | .xor,some (.int k a) => some (.int k (bits .xor k (if k.signed then -1 else k.max) a))
  | _,_ => none
def pvConv : Option TyD → Option TyD → Option Value → Option Value
  | some (.int _),some (.int k),some (.int _ a) => some (.int k (k.wrap a))
  | some .str,some .str,some (.string s) => some (.string s)
  | _,_,_ => none
def pvExt (i : Nat) : Option Value → Option Value
  | some (.tuple vs) => vs[i]?
  | _ => none
def pvNil : Option Value → Option Value
  | some (.pointer (some p)) => some (.pointer (some p))
  | _ => none
def pvOff (b o : Nat) : Option (Nat × Nat × Nat) → Option Value
  | some (_,off,_ + 1) => some (.pointer (some ⟨b,o + off,none⟩))
  | _ => none
def pvField (i : Nat) : Option TyD → Option Value → Option Value
  | some (.struct _ fs),some (.pointer (some ⟨b,o,none⟩)) => pvOff b o fs[i]?
  | _,_ => none
def pvLen : Option TyD → Option Value → Option Value
  | some (.slice _ _),some (.slice _ n _) => some (.int .i64 n)
  | some .str,some (.string s) => some (.int .i64 s.size)
  | _,_ => none
def pvMin (less : Bool) : Option Value → Option Value → Option Value
  | some (.int k a),some (.int _ b) => some (.int k (bif less then (if b < a then b else a) else (if b > a then b else a)))
  | _,_ => none
def pvCall (T : List (Nat × TyD)) (l : Env) (c : Call) : Option Value :=
  match c.callee,c.args.toList,c.argTypes.toList with
  | .builtin .len,[x],[t] => pvLen (tyOf T t) (evl l x)
  | .builtin .min,[x,y],_ => pvMin true (evl l x) (evl l y)
  | .builtin .max,[x,y],_ => pvMin false (evl l x) (evl l y)
  | _,_,_ => none
def pv (T : List (Nat × TyD)) (l : Env) : Op → Option Value
  | .move x => evl l x
  | .assign x => evl l x
  | .pick c a b => pvPick l a b (evl l c)
  | .binOp op t x y _ => pvBin op (tyOf T t) (evl l x) (evl l y)
  | .unOp op _ x => pvUn op (evl l x)
  | .convert s d x => pvConv (tyOf T s) (tyOf T d) (evl l x)
  | .extract t i => pvExt i (evl l t)
  | .nilCheck x => pvNil (evl l x)
  | .fieldAddr t x i => pvField i (tyOf T t) (evl l x)
  | .call c => pvCall T l c
  | _ => none
theorem binI_run {P : Program} {k : IntKind} {a b : Int} {op : BinOp} {v : Value} (h : binI k a b op = some v) (t : TypeId) (w : World) : (binOp op t (.int k a) (.int k b)).run P w = .ok v w:=by
  cases op
  case quo =>
    simp only [binI] at h;unfold quoI at h
    split at h
    · rename_i m
      obtain rfl:=Option.some.inj h;simp only [binOp_quo,Op.intDiv];rw [if_neg (by show ¬ ((m + 1 : Nat) : Int) = 0;omega)]
      rfl
    · cases h
  case rem =>
    simp only [binI] at h;unfold remI at h
    split at h
    · rename_i m
      obtain rfl:=Option.some.inj h;simp only [binOp_rem,Op.intDiv];rw [if_neg (by show ¬ ((m + 1 : Nat) : Int) = 0;omega)]
      rfl
    · cases h
  case eql => simp only [binI,Option.some.injEq] at h;subst h;rw [binOp_eql];exact congrArg (fun b => Result.ok (Value.bool b) w) (by by_cases e : a = b <;> simp [e])
  case neq => simp only [binI,Option.some.injEq] at h;subst h;rw [binOp_neq];exact congrArg (fun b => Result.ok (Value.bool b) w) (by by_cases e : a = b <;> simp [e])
  all_goals simp only [binI,Option.some.injEq,reduceCtorEq] at h
  all_goals (subst h;simp [go_sem])
theorem shI_run {P : Program} {k k' : IntKind} {a b : Int} {op : BinOp} {v : Value} (h : shI k a b op = some v) (t : TypeId) (w : World) : (binOp op t (.int k a) (.int k' b)).run P w = .ok v w:=by
  cases op
  case shl =>
    simp only [shI] at h;unfold shlI at h
    split at h
    · rename_i m
      obtain rfl:=Option.some.inj h;have h0 : (0 : Int) ≤ Int.ofNat m:=Int.natCast_nonneg m;simp only [binOp_shl,shift_shl_any _ _ _ _ h0];simp
    · cases h
  case shr =>
    simp only [shI] at h;unfold shrI at h
    split at h
    · rename_i m
      obtain rfl:=Option.some.inj h;have h0 : (0 : Int) ≤ Int.ofNat m:=Int.natCast_nonneg m;simp only [binOp_shr,shift_shr_any _ _ _ _ h0];simp
    · cases h
  all_goals cases h
theorem binS_run {P : Program} {a b : ByteArray} {op : BinOp} {v : Value} (h : binS a b op = some v) (t : TypeId) (w : World) : (binOp op t (.string a) (.string b)).run P w = .ok v w:=by
  cases op <;> simp only [binS,Option.some.injEq,reduceCtorEq] at h
  all_goals (subst h;simp [go_sem])
theorem field_run {P : Program} {t n b o i off s ft : Nat} {fs : List (Nat × Nat × Nat)} (h : (TyD.struct n fs).ok P t) (hi : fs[i]? = some (ft,off,s + 1)) (w : World) :
    (Instr.fieldAt t (.pointer (some ⟨b,o,none⟩)) i).run P w = .ok (.pointer (some ⟨b,o + off,none⟩)) w:=by
  obtain ⟨⟨us,hu⟩,-,hf⟩:=h;rw [hu] at hf;simp only [beq_iff_eq] at hf;rw [← hf,List.getElem?_map] at hi;cases hx : us.toList[i]? with
  | none => rw [hx] at hi;cases hi
  | some f =>
    rw [hx] at hi;simp only [Option.map_some,Option.some.injEq,Prod.mk.injEq] at hi;obtain ⟨-,rfl,hs⟩:=hi;have hx' : us[i]? = some f:=by simpa using hx
    have hsz : (sizeOf f.type).run P w = .ok (s + 1) w:=by
      cases hq : P.info? f.type with
      | none => rw [hq] at hs;simp at hs
      | some q => rw [hq] at hs;simp at hs;simp [sizeOf,typeInfo,hq,hs]
    simp [Instr.fieldAt,run_underlying hu,hx',Instr.sureAddr,fieldPlace,hsz,Addr.add_mid]
theorem pv_run {P : Program} {T : List (Nat × TyD)} (hT : TyOk P T) {n : NN} {a : Act} {l : Env} (ha : Fr n a l) {o : Oper} {v : Value} (h : pv T l o.op = some v) (w : World) :
    (execOp a.eval o).run P w = .ok (.value v) w:=by
  unfold execOp
  revert h
  cases o.op with
  | move x => intro h;simp [ha.eval h]
  | assign x => intro h;simp [ha.eval h]
  | pick c x y =>
    intro h;simp only [pv] at h;generalize hc : evl l c = cv at h;unfold pvPick at h
    split at h
    · simp [ha.eval hc,ha.eval h,asBool]
    · simp [ha.eval hc,ha.eval h,asBool]
    · cases h
  | binOp op t x y t2 =>
    intro h;simp only [pv] at h;generalize hx : evl l x = xv at h;generalize hy : evl l y = yv at h;unfold pvBin at h
    split at h
    · rename_i k p k' q
      cases hs : isSh op with
      | true =>
        rw [hs] at h;simp only [cond_true] at h;have:=shI_run (P:=P) (k':=k') h t w;simp [ha.eval hx,ha.eval hy,eqGuard_at_int,this]
      | false =>
        rw [hs] at h;simp only [cond_false] at h
        split at h
        · rename_i e;subst e
          have:=binI_run (P:=P) h t w;simp [ha.eval hx,ha.eval hy,eqGuard_at_int,this]
        · cases h
    · have:=binS_run (P:=P) h t w
      simp [ha.eval hx,ha.eval hy,eqGuard_at_string,this]
    · rename_i p q
      generalize ht : tyOf T t = tv at h;unfold pvBool at h
      split at h
      · obtain rfl:=Option.some.inj h
        simp [ha.eval hx,ha.eval hy,eqGuard_at_bool,run_eql_bool w t p q (hT.of ht)]
      · obtain rfl:=Option.some.inj h
        simp [ha.eval hx,ha.eval hy,eqGuard_at_bool,run_neq_bool w t p q (hT.of ht)]
      · cases h
    · cases h
  | unOp op t x =>
    intro h;simp only [pv] at h;generalize hx : evl l x = xv at h;unfold pvUn at h
    split at h <;> first | (cases h;done) | (obtain rfl:=Option.some.inj h;have e:=ha.eval hx;simp only [e];simp [go_sem])
  | convert s d x =>
    intro h;simp only [pv] at h;generalize h1 : tyOf T s = sv at h;generalize h2 : tyOf T d = dv at h;generalize h3 : evl l x = xv at h;unfold pvConv at h
    split at h
    · rename_i k1 k2 k3 m
      obtain rfl:=Option.some.inj h;have e1 : P.underlying s = some (.int k1):=hT.of h1;have e2 : P.underlying d = some (.int k2):=hT.of h2;simp [ha.eval h3,convert,run_underlying e1,run_underlying e2,Conv.intToInt]
    · obtain rfl:=Option.some.inj h
      have e1 : P.underlying s = some .string:=hT.of h1;have e2 : P.underlying d = some .string:=hT.of h2;simp [ha.eval h3,convert,run_underlying e1,run_underlying e2]
    · cases h
  | extract t i =>
    intro h;simp only [pv] at h;generalize hx : evl l t = xv at h;unfold pvExt at h
    split at h
    · simp [ha.eval hx,Instr.extract,h]
    · cases h
  | nilCheck x =>
    intro h;simp only [pv] at h;generalize hx : evl l x = xv at h;unfold pvNil at h
    split at h
    · obtain rfl:=Option.some.inj h
      simp [ha.eval hx]
    · cases h
  | fieldAddr t x i =>
    intro h;simp only [pv] at h;generalize ht : tyOf T t = tv at h;generalize hx : evl l x = xv at h;unfold pvField at h
    split at h
    · rename_i m fs b off0
      generalize hi : fs[i]? = fv at h;unfold pvOff at h
      split at h
      · obtain rfl:=Option.some.inj h
        have:=field_run (b:=b) (o:=off0) (hT.of ht) hi w;simp [ha.eval hx,this]
      · cases h
    · cases h
  | call c =>
    intro h;simp only [pv] at h;obtain ⟨callee,⟨args⟩,⟨argTypes⟩⟩:=c;unfold pvCall at h;simp only at h
    split at h
    · rename_i x t
      generalize ht : tyOf T t = tv at h;generalize hx : evl l x = xv at h;unfold pvLen at h
      split at h
      · rename_i e s b m c
        obtain rfl:=Option.some.inj h;have e1 : P.underlying t = some (.slice e):=(hT.of ht).1;simp [resolve,invoke,builtin,ha.eval hx,Builtin.len_,run_underlying e1,goInt]
      · obtain rfl:=Option.some.inj h
        have e1 : P.underlying t = some .string:=hT.of ht;simp [resolve,invoke,builtin,ha.eval hx,Builtin.len_,run_underlying e1,goInt]
      · cases h
    · rename_i x y
      generalize hx : evl l x = xv at h;generalize hy : evl l y = yv at h;unfold pvMin at h
      split at h
      · obtain rfl:=Option.some.inj h
        simp [resolve,invoke,builtin,ha.eval hx,ha.eval hy,run_min_int2]
      · cases h
    · rename_i x y
      generalize hx : evl l x = xv at h;generalize hy : evl l y = yv at h;unfold pvMin at h
      split at h
      · obtain rfl:=Option.some.inj h
        simp [resolve,invoke,builtin,ha.eval hx,ha.eval hy,run_max_int2]
      · cases h
    · cases h
  | _ => intro h;cases h
end K
namespace K
def ty : List (Nat × TyD):=[(2,.int .i64),(3,.int .i64),(4,.bool),(5,.int .u8),(6,.int .u8),(7,.struct 4 [(2,0,1),(3,1,1),(4,2,1),(6,3,1)]),(8,.struct 4 [(2,0,1),(3,1,1),(4,2,1),(6,3,1)]),(9,.str),(10,.str),(11,.str),(12,.int .u64),(13,.struct 2 [(9,0,1),(12,1,1)]),(14,.struct 2 [(9,0,1),(12,1,1)]),(15,.ptr 187),(16,.ptr 190),(17,.ptr 198),(18,.struct 1 [(17,0,1)]),(19,.struct 1 [(17,0,1)]),(21,.int .i32),(22,.slice 35 1),(25,.ptr 85),(27,.ptr 44),(29,.arr 32 5 1),(30,.arr 32 5 1),(31,.slice 52 46),(32,.struct 36 [(3,0,1),(3,1,1),(3,2,1),(30,3,32),(31,35,1)]),(33,.struct 36 [(3,0,1),(3,1,1),(3,2,1),(30,3,32),(31,35,1)]),(35,.slice 77 57),(36,.int .i64),(40,.ptr 60),(41,.slice 56 14),(42,.map 50 3),(43,.struct 4 [(40,0,1),(41,1,1),(3,2,1),(42,3,1)]),(44,.struct 4 [(40,0,1),(41,1,1),(3,2,1),(42,3,1)]),(45,.slice 9 1),(46,.slice 48 6),(47,.struct 6 [(3,0,1),(3,1,1),(3,2,1),(9,3,1),(45,4,1),(46,5,1)]),(48,.struct 6 [(3,0,1),(3,1,1),(3,2,1),(9,3,1),(45,4,1),(46,5,1)]),(49,.struct 2 [(3,0,1),(3,1,1)]),(50,.struct 2 [(3,0,1),(3,1,1)]),(51,.struct 46 [(3,0,1),(9,1,1),(3,2,1),(3,3,1),(3,4,1),(48,5,6),(30,11,32),(4,43,1),(50,44,2)]),(52,.struct 46 [(3,0,1),(9,1,1),(3,2,1),(3,3,1),(3,4,1),(48,5,6),(30,11,32),(4,43,1),(50,44,2)]),(54,.slice 33 36),(55,.struct 14 [(3,0,1),(3,1,1),(3,2,1),(48,3,6),(4,9,1),(4,10,1),(3,11,1),(3,12,1),(3,13,1)]),(56,.struct 14 [(3,0,1),(3,1,1),(3,2,1),(48,3,6),(4,9,1),(4,10,1),(3,11,1),(3,12,1),(3,13,1)]),(58,.slice 73 4),(59,.struct 1 [(58,0,1)]),(60,.struct 1 [(58,0,1)]),(61,.slice 63 14),(63,.struct 14 [(3,0,1),(3,1,1),(3,2,1),(48,3,6),(4,9,1),(4,10,1),(3,11,1),(3,12,1),(3,13,1)]),(66,.ptr 113),(72,.struct 4 [(3,0,1),(9,1,1),(4,2,1),(45,3,1)]),(73,.struct 4 [(3,0,1),(9,1,1),(4,2,1),(45,3,1)]),(76,.struct 57 [(3,0,1),(3,1,1),(3,2,1),(3,3,1),(48,4,6),(9,10,1),(52,11,46)]),(77,.struct 57 [(3,0,1),(3,1,1),(3,2,1),(3,3,1),(48,4,6),(9,10,1),(52,11,46)]),(79,.ptr 3),(80,.map 97 61),(81,.map 3 3),(82,.map 50 97),(83,.map 50 4),(84,.struct 6 [(66,0,1),(80,1,1),(81,2,1),(82,3,1),(83,4,1),(3,5,1)]),(85,.struct 6 [(66,0,1),(80,1,1),(81,2,1),(82,3,1),(83,4,1),(3,5,1)]),(89,.slice 107 4),(96,.struct 2 [(3,0,1),(3,1,1)]),(97,.struct 2 [(3,0,1),(3,1,1)]),(105,.slice 153 1),(106,.struct 4 [(3,0,1),(9,1,1),(4,2,1),(105,3,1)]),(107,.struct 4 [(3,0,1),(9,1,1),(4,2,1),(105,3,1)]),(110,.map 134 4),(111,.int .u64),(112,.struct 3 [(89,0,1),(111,1,1),(110,2,1)]),(113,.struct 3 [(89,0,1),(111,1,1),(110,2,1)]),(119,.slice 5 1),(127,.ptr 56),(129,.slice 3 1),(131,.slice 129 1),(133,.struct 2 [(3,0,1),(9,1,1)]),(134,.struct 2 [(3,0,1),(9,1,1)]),(150,.int .u64),(151,.ptr 107),(152,.struct 1 [(9,0,1)]),(153,.struct 1 [(9,0,1)]),(157,.ptr 73),(164,.arr 4 3 1),(171,.int .u32),(172,.arr 8 171 1),(173,.arr 64 171 1),(176,.ptr 173),(180,.arr 8 171 1),(182,.arr 128 5 1),(183,.ptr 180),(186,.struct 4 [(17,0,1),(17,1,1),(17,2,1),(9,3,1)]),(187,.struct 4 [(17,0,1),(17,1,1),(17,2,1),(9,3,1)]),(189,.struct 0 [(188,0,0)]),(190,.struct 0 [(188,0,0)]),(191,.int .u8),(192,.int .u8),(194,.ptr 5),(195,.int .i32),(196,.int .i32),(197,.struct 11 [(12,0,1),(12,1,1),(171,2,1),(191,3,1),(5,4,1),(5,5,1),(192,6,1),(193,7,1),(194,8,1),(195,9,1),(196,10,1)]),(198,.struct 11 [(12,0,1),(12,1,1),(171,2,1),(191,3,1),(5,4,1),(5,5,1),(192,6,1),(193,7,1),(194,8,1),(195,9,1),(196,10,1)])]
theorem tyOk2 : (.int .i64 : TyD).ok Tryz.prog 2:=Tryz.underlying2
theorem tyOk3 : (.int .i64 : TyD).ok Tryz.prog 3:=Tryz.underlying3
theorem tyOk4 : (.bool : TyD).ok Tryz.prog 4:=Tryz.underlying4
theorem tyOk5 : (.int .u8 : TyD).ok Tryz.prog 5:=Tryz.underlying5
theorem tyOk6 : (.int .u8 : TyD).ok Tryz.prog 6:=Tryz.underlying6
theorem tyOk7 : (.struct 4 [(2,0,1),(3,1,1),(4,2,1),(6,3,1)] : TyD).ok Tryz.prog 7:=⟨⟨_,Tryz.underlying7⟩,by kernel_rfl,by kernel_rfl⟩
theorem tyOk8 : (.struct 4 [(2,0,1),(3,1,1),(4,2,1),(6,3,1)] : TyD).ok Tryz.prog 8:=⟨⟨_,Tryz.underlying8⟩,by kernel_rfl,by kernel_rfl⟩
theorem tyOk9 : (.str : TyD).ok Tryz.prog 9:=Tryz.underlying9
theorem tyOk10 : (.str : TyD).ok Tryz.prog 10:=Tryz.underlying10
theorem tyOk11 : (.str : TyD).ok Tryz.prog 11:=Tryz.underlying11
theorem tyOk12 : (.int .u64 : TyD).ok Tryz.prog 12:=Tryz.underlying12
theorem tyOk13 : (.struct 2 [(9,0,1),(12,1,1)] : TyD).ok Tryz.prog 13:=⟨⟨_,Tryz.underlying13⟩,by kernel_rfl,by kernel_rfl⟩
theorem tyOk14 : (.struct 2 [(9,0,1),(12,1,1)] : TyD).ok Tryz.prog 14:=⟨⟨_,Tryz.underlying14⟩,by kernel_rfl,by kernel_rfl⟩
theorem tyOk15 : (.ptr 187 : TyD).ok Tryz.prog 15:=Tryz.underlying15
theorem tyOk16 : (.ptr 190 : TyD).ok Tryz.prog 16:=Tryz.underlying16
theorem tyOk17 : (.ptr 198 : TyD).ok Tryz.prog 17:=Tryz.underlying17
theorem tyOk18 : (.struct 1 [(17,0,1)] : TyD).ok Tryz.prog 18:=⟨⟨_,Tryz.underlying18⟩,by kernel_rfl,by kernel_rfl⟩
theorem tyOk19 : (.struct 1 [(17,0,1)] : TyD).ok Tryz.prog 19:=⟨⟨_,Tryz.underlying19⟩,by kernel_rfl,by kernel_rfl⟩
theorem tyOk21 : (.int .i32 : TyD).ok Tryz.prog 21:=Tryz.underlying21
theorem tyOk22 : (.slice 35 1 : TyD).ok Tryz.prog 22:=⟨Tryz.underlying22,by kernel_rfl⟩
theorem tyOk25 : (.ptr 85 : TyD).ok Tryz.prog 25:=Tryz.underlying25
theorem tyOk27 : (.ptr 44 : TyD).ok Tryz.prog 27:=Tryz.underlying27
theorem tyOk29 : (.arr 32 5 1 : TyD).ok Tryz.prog 29:=⟨Tryz.underlying29,by kernel_rfl,by kernel_rfl⟩
theorem tyOk30 : (.arr 32 5 1 : TyD).ok Tryz.prog 30:=⟨Tryz.underlying30,by kernel_rfl,by kernel_rfl⟩
theorem tyOk31 : (.slice 52 46 : TyD).ok Tryz.prog 31:=⟨Tryz.underlying31,by kernel_rfl⟩
theorem tyOk32 : (.struct 36 [(3,0,1),(3,1,1),(3,2,1),(30,3,32),(31,35,1)] : TyD).ok Tryz.prog 32:=⟨⟨_,Tryz.underlying32⟩,by kernel_rfl,by kernel_rfl⟩
theorem tyOk33 : (.struct 36 [(3,0,1),(3,1,1),(3,2,1),(30,3,32),(31,35,1)] : TyD).ok Tryz.prog 33:=⟨⟨_,Tryz.underlying33⟩,by kernel_rfl,by kernel_rfl⟩
theorem tyOk35 : (.slice 77 57 : TyD).ok Tryz.prog 35:=⟨Tryz.underlying35,by kernel_rfl⟩
theorem tyOk36 : (.int .i64 : TyD).ok Tryz.prog 36:=Tryz.underlying36
theorem tyOk40 : (.ptr 60 : TyD).ok Tryz.prog 40:=Tryz.underlying40
theorem tyOk41 : (.slice 56 14 : TyD).ok Tryz.prog 41:=⟨Tryz.underlying41,by kernel_rfl⟩
theorem tyOk42 : (.map 50 3 : TyD).ok Tryz.prog 42:=Tryz.underlying42
theorem tyOk43 : (.struct 4 [(40,0,1),(41,1,1),(3,2,1),(42,3,1)] : TyD).ok Tryz.prog 43:=⟨⟨_,Tryz.underlying43⟩,by kernel_rfl,by kernel_rfl⟩
theorem tyOk44 : (.struct 4 [(40,0,1),(41,1,1),(3,2,1),(42,3,1)] : TyD).ok Tryz.prog 44:=⟨⟨_,Tryz.underlying44⟩,by kernel_rfl,by kernel_rfl⟩
theorem tyOk45 : (.slice 9 1 : TyD).ok Tryz.prog 45:=⟨Tryz.underlying45,by kernel_rfl⟩
theorem tyOk46 : (.slice 48 6 : TyD).ok Tryz.prog 46:=⟨Tryz.underlying46,by kernel_rfl⟩
theorem tyOk47 : (.struct 6 [(3,0,1),(3,1,1),(3,2,1),(9,3,1),(45,4,1),(46,5,1)] : TyD).ok Tryz.prog 47:=⟨⟨_,Tryz.underlying47⟩,by kernel_rfl,by kernel_rfl⟩
theorem tyOk48 : (.struct 6 [(3,0,1),(3,1,1),(3,2,1),(9,3,1),(45,4,1),(46,5,1)] : TyD).ok Tryz.prog 48:=⟨⟨_,Tryz.underlying48⟩,by kernel_rfl,by kernel_rfl⟩
theorem tyOk49 : (.struct 2 [(3,0,1),(3,1,1)] : TyD).ok Tryz.prog 49:=⟨⟨_,Tryz.underlying49⟩,by kernel_rfl,by kernel_rfl⟩
theorem tyOk50 : (.struct 2 [(3,0,1),(3,1,1)] : TyD).ok Tryz.prog 50:=⟨⟨_,Tryz.underlying50⟩,by kernel_rfl,by kernel_rfl⟩
theorem tyOk51 : (.struct 46 [(3,0,1),(9,1,1),(3,2,1),(3,3,1),(3,4,1),(48,5,6),(30,11,32),(4,43,1),(50,44,2)] : TyD).ok Tryz.prog 51:=⟨⟨_,Tryz.underlying51⟩,by kernel_rfl,by kernel_rfl⟩
theorem tyOk52 : (.struct 46 [(3,0,1),(9,1,1),(3,2,1),(3,3,1),(3,4,1),(48,5,6),(30,11,32),(4,43,1),(50,44,2)] : TyD).ok Tryz.prog 52:=⟨⟨_,Tryz.underlying52⟩,by kernel_rfl,by kernel_rfl⟩
theorem tyOk54 : (.slice 33 36 : TyD).ok Tryz.prog 54:=⟨Tryz.underlying54,by kernel_rfl⟩
theorem tyOk55 : (.struct 14 [(3,0,1),(3,1,1),(3,2,1),(48,3,6),(4,9,1),(4,10,1),(3,11,1),(3,12,1),(3,13,1)] : TyD).ok Tryz.prog 55:=⟨⟨_,Tryz.underlying55⟩,by kernel_rfl,by kernel_rfl⟩
theorem tyOk56 : (.struct 14 [(3,0,1),(3,1,1),(3,2,1),(48,3,6),(4,9,1),(4,10,1),(3,11,1),(3,12,1),(3,13,1)] : TyD).ok Tryz.prog 56:=⟨⟨_,Tryz.underlying56⟩,by kernel_rfl,by kernel_rfl⟩
theorem tyOk58 : (.slice 73 4 : TyD).ok Tryz.prog 58:=⟨Tryz.underlying58,by kernel_rfl⟩
theorem tyOk59 : (.struct 1 [(58,0,1)] : TyD).ok Tryz.prog 59:=⟨⟨_,Tryz.underlying59⟩,by kernel_rfl,by kernel_rfl⟩
theorem tyOk60 : (.struct 1 [(58,0,1)] : TyD).ok Tryz.prog 60:=⟨⟨_,Tryz.underlying60⟩,by kernel_rfl,by kernel_rfl⟩
theorem tyOk61 : (.slice 63 14 : TyD).ok Tryz.prog 61:=⟨Tryz.underlying61,by kernel_rfl⟩
theorem tyOk63 : (.struct 14 [(3,0,1),(3,1,1),(3,2,1),(48,3,6),(4,9,1),(4,10,1),(3,11,1),(3,12,1),(3,13,1)] : TyD).ok Tryz.prog 63:=⟨⟨_,Tryz.underlying63⟩,by kernel_rfl,by kernel_rfl⟩
theorem tyOk66 : (.ptr 113 : TyD).ok Tryz.prog 66:=Tryz.underlying66
theorem tyOk72 : (.struct 4 [(3,0,1),(9,1,1),(4,2,1),(45,3,1)] : TyD).ok Tryz.prog 72:=⟨⟨_,Tryz.underlying72⟩,by kernel_rfl,by kernel_rfl⟩
theorem tyOk73 : (.struct 4 [(3,0,1),(9,1,1),(4,2,1),(45,3,1)] : TyD).ok Tryz.prog 73:=⟨⟨_,Tryz.underlying73⟩,by kernel_rfl,by kernel_rfl⟩
theorem tyOk76 : (.struct 57 [(3,0,1),(3,1,1),(3,2,1),(3,3,1),(48,4,6),(9,10,1),(52,11,46)] : TyD).ok Tryz.prog 76:=⟨⟨_,Tryz.underlying76⟩,by kernel_rfl,by kernel_rfl⟩
theorem tyOk77 : (.struct 57 [(3,0,1),(3,1,1),(3,2,1),(3,3,1),(48,4,6),(9,10,1),(52,11,46)] : TyD).ok Tryz.prog 77:=⟨⟨_,Tryz.underlying77⟩,by kernel_rfl,by kernel_rfl⟩
theorem tyOk79 : (.ptr 3 : TyD).ok Tryz.prog 79:=Tryz.underlying79
theorem tyOk80 : (.map 97 61 : TyD).ok Tryz.prog 80:=Tryz.underlying80
theorem tyOk81 : (.map 3 3 : TyD).ok Tryz.prog 81:=Tryz.underlying81
theorem tyOk82 : (.map 50 97 : TyD).ok Tryz.prog 82:=Tryz.underlying82
theorem tyOk83 : (.map 50 4 : TyD).ok Tryz.prog 83:=Tryz.underlying83
theorem tyOk84 : (.struct 6 [(66,0,1),(80,1,1),(81,2,1),(82,3,1),(83,4,1),(3,5,1)] : TyD).ok Tryz.prog 84:=⟨⟨_,Tryz.underlying84⟩,by kernel_rfl,by kernel_rfl⟩
theorem tyOk85 : (.struct 6 [(66,0,1),(80,1,1),(81,2,1),(82,3,1),(83,4,1),(3,5,1)] : TyD).ok Tryz.prog 85:=⟨⟨_,Tryz.underlying85⟩,by kernel_rfl,by kernel_rfl⟩
theorem tyOk89 : (.slice 107 4 : TyD).ok Tryz.prog 89:=⟨Tryz.underlying89,by kernel_rfl⟩
theorem tyOk96 : (.struct 2 [(3,0,1),(3,1,1)] : TyD).ok Tryz.prog 96:=⟨⟨_,Tryz.underlying96⟩,by kernel_rfl,by kernel_rfl⟩
theorem tyOk97 : (.struct 2 [(3,0,1),(3,1,1)] : TyD).ok Tryz.prog 97:=⟨⟨_,Tryz.underlying97⟩,by kernel_rfl,by kernel_rfl⟩
theorem tyOk105 : (.slice 153 1 : TyD).ok Tryz.prog 105:=⟨Tryz.underlying105,by kernel_rfl⟩
theorem tyOk106 : (.struct 4 [(3,0,1),(9,1,1),(4,2,1),(105,3,1)] : TyD).ok Tryz.prog 106:=⟨⟨_,Tryz.underlying106⟩,by kernel_rfl,by kernel_rfl⟩
theorem tyOk107 : (.struct 4 [(3,0,1),(9,1,1),(4,2,1),(105,3,1)] : TyD).ok Tryz.prog 107:=⟨⟨_,Tryz.underlying107⟩,by kernel_rfl,by kernel_rfl⟩
theorem tyOk110 : (.map 134 4 : TyD).ok Tryz.prog 110:=Tryz.underlying110
theorem tyOk111 : (.int .u64 : TyD).ok Tryz.prog 111:=Tryz.underlying111
theorem tyOk112 : (.struct 3 [(89,0,1),(111,1,1),(110,2,1)] : TyD).ok Tryz.prog 112:=⟨⟨_,Tryz.underlying112⟩,by kernel_rfl,by kernel_rfl⟩
theorem tyOk113 : (.struct 3 [(89,0,1),(111,1,1),(110,2,1)] : TyD).ok Tryz.prog 113:=⟨⟨_,Tryz.underlying113⟩,by kernel_rfl,by kernel_rfl⟩
theorem tyOk119 : (.slice 5 1 : TyD).ok Tryz.prog 119:=⟨Tryz.underlying119,by kernel_rfl⟩
theorem tyOk127 : (.ptr 56 : TyD).ok Tryz.prog 127:=Tryz.underlying127
theorem tyOk129 : (.slice 3 1 : TyD).ok Tryz.prog 129:=⟨Tryz.underlying129,by kernel_rfl⟩
theorem tyOk131 : (.slice 129 1 : TyD).ok Tryz.prog 131:=⟨Tryz.underlying131,by kernel_rfl⟩
theorem tyOk133 : (.struct 2 [(3,0,1),(9,1,1)] : TyD).ok Tryz.prog 133:=⟨⟨_,Tryz.underlying133⟩,by kernel_rfl,by kernel_rfl⟩
theorem tyOk134 : (.struct 2 [(3,0,1),(9,1,1)] : TyD).ok Tryz.prog 134:=⟨⟨_,Tryz.underlying134⟩,by kernel_rfl,by kernel_rfl⟩
theorem tyOk150 : (.int .u64 : TyD).ok Tryz.prog 150:=Tryz.underlying150
theorem tyOk151 : (.ptr 107 : TyD).ok Tryz.prog 151:=Tryz.underlying151
theorem tyOk152 : (.struct 1 [(9,0,1)] : TyD).ok Tryz.prog 152:=⟨⟨_,Tryz.underlying152⟩,by kernel_rfl,by kernel_rfl⟩
theorem tyOk153 : (.struct 1 [(9,0,1)] : TyD).ok Tryz.prog 153:=⟨⟨_,Tryz.underlying153⟩,by kernel_rfl,by kernel_rfl⟩
theorem tyOk157 : (.ptr 73 : TyD).ok Tryz.prog 157:=Tryz.underlying157
theorem tyOk164 : (.arr 4 3 1 : TyD).ok Tryz.prog 164:=⟨Tryz.underlying164,by kernel_rfl,by kernel_rfl⟩
theorem tyOk171 : (.int .u32 : TyD).ok Tryz.prog 171:=Tryz.underlying171
theorem tyOk172 : (.arr 8 171 1 : TyD).ok Tryz.prog 172:=⟨Tryz.underlying172,by kernel_rfl,by kernel_rfl⟩
theorem tyOk173 : (.arr 64 171 1 : TyD).ok Tryz.prog 173:=⟨Tryz.underlying173,by kernel_rfl,by kernel_rfl⟩
theorem tyOk176 : (.ptr 173 : TyD).ok Tryz.prog 176:=Tryz.underlying176
theorem tyOk180 : (.arr 8 171 1 : TyD).ok Tryz.prog 180:=⟨Tryz.underlying180,by kernel_rfl,by kernel_rfl⟩
theorem tyOk182 : (.arr 128 5 1 : TyD).ok Tryz.prog 182:=⟨Tryz.underlying182,by kernel_rfl,by kernel_rfl⟩
theorem tyOk183 : (.ptr 180 : TyD).ok Tryz.prog 183:=Tryz.underlying183
theorem tyOk186 : (.struct 4 [(17,0,1),(17,1,1),(17,2,1),(9,3,1)] : TyD).ok Tryz.prog 186:=⟨⟨_,Tryz.underlying186⟩,by kernel_rfl,by kernel_rfl⟩
theorem tyOk187 : (.struct 4 [(17,0,1),(17,1,1),(17,2,1),(9,3,1)] : TyD).ok Tryz.prog 187:=⟨⟨_,Tryz.underlying187⟩,by kernel_rfl,by kernel_rfl⟩
theorem tyOk189 : (.struct 0 [(188,0,0)] : TyD).ok Tryz.prog 189:=⟨⟨_,Tryz.underlying189⟩,by kernel_rfl,by kernel_rfl⟩
theorem tyOk190 : (.struct 0 [(188,0,0)] : TyD).ok Tryz.prog 190:=⟨⟨_,Tryz.underlying190⟩,by kernel_rfl,by kernel_rfl⟩
theorem tyOk191 : (.int .u8 : TyD).ok Tryz.prog 191:=Tryz.underlying191
theorem tyOk192 : (.int .u8 : TyD).ok Tryz.prog 192:=Tryz.underlying192
theorem tyOk194 : (.ptr 5 : TyD).ok Tryz.prog 194:=Tryz.underlying194
theorem tyOk195 : (.int .i32 : TyD).ok Tryz.prog 195:=Tryz.underlying195
theorem tyOk196 : (.int .i32 : TyD).ok Tryz.prog 196:=Tryz.underlying196
theorem tyOk197 : (.struct 11 [(12,0,1),(12,1,1),(171,2,1),(191,3,1),(5,4,1),(5,5,1),(192,6,1),(193,7,1),(194,8,1),(195,9,1),(196,10,1)] : TyD).ok Tryz.prog 197:=⟨⟨_,Tryz.underlying197⟩,by kernel_rfl,by kernel_rfl⟩
theorem tyOk198 : (.struct 11 [(12,0,1),(12,1,1),(171,2,1),(191,3,1),(5,4,1),(5,5,1),(192,6,1),(193,7,1),(194,8,1),(195,9,1),(196,10,1)] : TyD).ok Tryz.prog 198:=⟨⟨_,Tryz.underlying198⟩,by kernel_rfl,by kernel_rfl⟩
theorem tyOk : TyOk Tryz.prog ty:=⟨tyOk2,tyOk3,tyOk4,tyOk5,tyOk6,tyOk7,tyOk8,tyOk9,tyOk10,tyOk11,tyOk12,tyOk13,tyOk14,tyOk15,tyOk16,tyOk17,tyOk18,tyOk19,tyOk21,tyOk22,tyOk25,tyOk27,tyOk29,tyOk30,tyOk31,tyOk32,tyOk33,tyOk35,tyOk36,tyOk40,tyOk41,tyOk42,tyOk43,tyOk44,tyOk45,tyOk46,tyOk47,tyOk48,tyOk49,tyOk50,tyOk51,tyOk52,tyOk54,tyOk55,tyOk56,tyOk58,tyOk59,tyOk60,tyOk61,tyOk63,tyOk66,tyOk72,tyOk73,tyOk76,tyOk77,tyOk79,tyOk80,tyOk81,tyOk82,tyOk83,tyOk84,tyOk85,tyOk89,tyOk96,tyOk97,tyOk105,tyOk106,tyOk107,tyOk110,tyOk111,tyOk112,tyOk113,tyOk119,tyOk127,tyOk129,tyOk131,tyOk133,tyOk134,tyOk150,tyOk151,tyOk152,tyOk153,tyOk157,tyOk164,tyOk171,tyOk172,tyOk173,tyOk176,tyOk180,tyOk182,tyOk183,tyOk186,tyOk187,tyOk189,tyOk190,tyOk191,tyOk192,tyOk194,tyOk195,tyOk196,tyOk197,tyOk198,trivial⟩
end K
namespace K
def Bu (w : World) (v : Value) (l : List Int) : Prop:=Buf .u8 5 w 0 v l
def Grow (w : World) (v : Value) (w' : World) (v' : Value) : Prop :=
  Keep (fun b => b < w.heap.size ∧ v.ownBlock ≠ some b) w w' ∧ ∀ g,v'.ownBlock = some g → v.ownBlock = some g ∨ w.heap.size ≤ g
theorem Grow.refl (w : World) (v : Value) : Grow w v w v:=⟨Keep.refl _ _,fun _ h => .inl h⟩
theorem Grow.trans {w w1 w2 : World} {v v1 v2 : Value} (h : Grow w v w1 v1) (k : Grow w1 v1 w2 v2) : Grow w v w2 v2 :=
  ⟨h.1.trans (k.1.mono fun b hb => ⟨Nat.lt_of_lt_of_le hb.1 h.1.size, fun e => (h.2 b e).elim hb.2 (fun h2 => absurd hb.1 (by omega))⟩),
   fun g hg => (k.2 g hg).elim (h.2 g) (fun h2 => .inr (Nat.le_trans h.1.size h2))⟩
theorem Grow.below {w w1 w2 : World} {v v1 : Value} (h : Grow w v w1 v1) (k : Below w1.heap.size w1 w2) : Grow w v w2 v1 :=
  ⟨h.1.trans ((Keep.of_below k).mono fun _ hb => Nat.lt_of_lt_of_le hb.1 h.1.size),h.2⟩
theorem Grow.old {w w' : World} {v v' : Value} (h : Grow w v w' v') {B : Nat} (hB : B ≤ w.heap.size) (hv : ∀ g,v.ownBlock = some g → B ≤ g) : Below B w w' :=
  (h.1.mono fun b (hb : b < B) => ⟨Nat.lt_of_lt_of_le hb hB,fun e => absurd (hv b e) (by omega)⟩).below
theorem Grow.own {w w' : World} {v v' : Value} (h : Grow w v w' v') {B : Nat} (hB : B ≤ w.heap.size) (hv : ∀ g,v.ownBlock = some g → B ≤ g) : ∀ g,v'.ownBlock = some g → B ≤ g :=
  fun g hg => (h.2 g hg).elim (hv g) (fun h2 => Nat.le_trans hB h2)
theorem Bu.nil (w : World) : Bu w (.slice none 0 0) []:=Buf.nil _ _ _ _
theorem Bu.lt {w : World} {v : Value} {l : List Int} (h : Bu w v l) : ∀ g,v.ownBlock = some g → g < w.heap.size:=fun g hg => (Buf.own h g hg).2
theorem Bu.keep {K : Nat → Prop} {w w' : World} {v : Value} {l : List Int} (h : Bu w v l) (hk : Keep K w w') (hK : ∀ g,v.ownBlock = some g → K g) : Bu w' v l :=
  Buf.keep h hk fun g _ _ hg => hK g hg
theorem Bu.below {w w' : World} {v : Value} {l : List Int} (h : Bu w v l) (hk : Below w.heap.size w w') : Bu w' v l:=Buf.below h hk (Nat.le_refl _)
theorem Bu.sl {w : World} {v : Value} {l : List Int} (h : Bu w v l) : Sl .u8 w v l:=Buf.sl h
theorem Bu.new (w : World) (l : List Int) (hm : l.length ≤ maxLen) : Bu (w.alloc (.cells (l.map (Value.int .u8)).toArray 5)) (.slice (some ⟨w.heap.size,0,none⟩) l.length l.length) l:=by
  have:=Buf.mk (k:=.u8) (e:=5) (w:=w) (base:=0) l [] (Nat.zero_le _) (by simpa using hm)
  simpa [Bu] using this
theorem Sl.slV {w : World} {v : Value} {l : List Int} (h : Sl .u8 w v l) : SlV w (fun _ => True) 1 v l.length (l.map (Value.int .u8)):=by
  obtain ⟨sp,cap,rfl,h1,h2,h3,h4⟩:=h;refine ⟨by simp,Ones.int _ _,sp,cap,rfl,h1,h2,h4,fun h0 => ?_⟩;obtain ⟨b,o,e,hb,hr⟩:=h3 h0;refine ⟨b,o,e,hb,trivial,fun j hj => ?_⟩;rw [List.length_map] at hj;rw [hr j hj];simp [nth,hj]
theorem elemU8 : ElemV Tryz.prog 119 5 1 1:=ElemV.mk' (z:=.int .u8 0) Tryz.underlying119 (by kernel_rfl) rfl (by omega)
theorem Bu.form {w : World} {v : Value} {l : List Int} (h : Bu w v l) : ∃ sp c,v = .slice sp l.length c ∧ l.length ≤ c ∧ c ≤ 9223372036854775807:=by
  obtain ⟨sp,c,h1,h2,h3,-⟩:=Bu.sl h;exact ⟨sp,c,h1,h2,h3⟩
structure Fresh (w : World) (g : Nat) (w' : World) (T : TypeId) (cs : List Value) : Prop where
  eq : g = w.heap.size
  blk : VBlk T w' g cs
  below : Below w.heap.size w w'
  size : w'.heap.size = w.heap.size + 1
theorem Fresh.mk' (w : World) (T : TypeId) (cs : List Value) : Fresh w w.heap.size (w.alloc (.cells cs.toArray T)) T cs :=
  ⟨rfl,VBlk.mk w cs T,(Below.refl _ w).alloc (Nat.le_refl _) _,by show (w.heap.push _).size = _;simp⟩
theorem VBlk.rangeAt {T : TypeId} {w : World} {b : Nat} {cs : List Value} (h : VBlk T w b cs) : w.rangeAt b 0 cs:=by
  intro j v hj;have hlt : j < cs.length:=by
    rcases Nat.lt_or_ge j cs.length with h | h
    · exact h
    · rw [List.getElem?_eq_none h] at hj;cases hj
  have:=h.cell j hlt;rw [Nat.zero_add];rw [this];simp [List.getD_eq_getElem?_getD,hj]
end K
end Go.Proofs.YtchgjaaadfjiiaaGreat
