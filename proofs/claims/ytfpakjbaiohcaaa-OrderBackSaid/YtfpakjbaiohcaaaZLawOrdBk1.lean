/- Texts for LawOrdBk, part 1 of 5. -/
import Derived.Test.YtfpakjbaiohcaaaRows
import Derived.WalkKit
import Derived.WalkSpells
import Derived.WalkLawsBesides
import Derived.Deep.QuietTactic
import Derived.BigQuiet
import Derived.OneCell
import Derived.Lib.Hide
import Derived.Laws.Rows
import Derived.Laws.CopyOwn
import Derived.Laws.AppendOwnNone
import Derived.Deep.Onto
import Derived.ProofKit
import Derived.OpenShut
import Derived.ShutString
import Derived.ChangeOld
import Derived.Below
import Derived.Deep.Slices
import Derived.Deep.MidRow
import Derived.WideShapes
import Derived.Deep.AppendLies
import Derived.Deep.RegionLawGrows
import Derived.Deep.RegionHeld3
import Derived.ArgAppend
import Derived.Deep.DeepFit
import Derived.Deep.CutBlock
import Derived.Deep.DeepCutAuto
import Derived.RangeFuncNested
import Derived.RangeFuncLeaves
import Derived.Sort.LoopGhostIn
import Derived.IntWalk
import Derived.Lib.ConvBytes
import Derived.Great.BuildSlice
import Derived.OrdersHeld
import Derived.RegionTactic
namespace Go.Proofs.Ytfpakjbaiohcaaa
open Go.RowKit

def nth (l : List Int) (j : Nat) : Int := l.getD j 0

def Row (k : IntKind) (w : World) (b o : Nat) (l : List Int) : Prop :=
  ∀ j, j < l.length → w.cell? ⟨b, o + j, none⟩ = some (.int k (nth l j))

theorem Row.at {k : IntKind} {w : World} {b o : Nat} {l : List Int} (h : Row k w b o l) (j : Nat) (hj : j < l.length) :
    w.cell? ⟨b, o + j, none⟩ = some (.int k (nth l j)) := h j hj
theorem Row.of_block {k : IntKind} {w w' : World} {b o : Nat} {l : List Int} (h : Row k w b o l) (hb : w'.heap[b]? = w.heap[b]?) : Row k w' b o l := by
  intro j hj; rw [← h j hj]; exact World.cell?_of_block (w := w) hb
theorem Row.below {B : Nat} {k : IntKind} {w w' : World} {b o : Nat} {l : List Int} (h : Row k w b o l) (hb : Below B w w') (hB : b < B) : Row k w' b o l :=
  h.of_block (hb.block b hB)
def VBlk (T : TypeId) (w : World) (b : Nat) (l : List Value) : Prop := w.heap[b]? = some (.cells l.toArray T (0, 0))

theorem VBlk.lt {T : TypeId} {w : World} {b : Nat} {l : List Value} (h : VBlk T w b l) : b < w.heap.size := lt_of_block h
theorem VBlk.cell {T : TypeId} {w : World} {b : Nat} {l : List Value} (h : VBlk T w b l) (j : Nat) (hj : j < l.length) :
    w.cell? ⟨b, j, none⟩ = some (l.getD j undef) := by
  have h' : w.heap[b]? = some (.cells l.toArray T (0, 0)) := h; rw [cell_of_row w b j _ _ _ h']; simp [hj]
theorem VBlk.free {T : TypeId} {w : World} {b : Nat} {l : List Value} (h : VBlk T w b l) (j : Nat) : w.frozen? ⟨b, j, none⟩ = false := by
  have h' : w.heap[b]? = some (.cells l.toArray T (0, 0)) := h; simp [World.frozen?, h']
theorem VBlk.set {T : TypeId} {w : World} {b : Nat} {l : List Value} (h : VBlk T w b l) (j : Nat) (v : Value) :
    VBlk T (w.setCell ⟨b, j, none⟩ v) b (l.set j v) := by
  have hlt := h.lt; have h' : w.heap[b]? = some (.cells l.toArray T (0, 0)) := h; have h'' : w.heap[b] = .cells l.toArray T (0, 0) := by simpa [Array.getElem?_eq_getElem hlt] using h'
  show (w.heap.modify b _)[b]? = _
  rw [Array.getElem?_eq_getElem (by simpa using hlt), Array.getElem_modify_self, h'']; simp
theorem VBlk.of_block {T : TypeId} {w w' : World} {b : Nat} {l : List Value} (h : VBlk T w b l) (hb : w'.heap[b]? = w.heap[b]?) : VBlk T w' b l := hb.trans h
theorem VBlk.other {T : TypeId} {w : World} {b : Nat} {l : List Value} (h : VBlk T w b l) (a : Addr) (v : Value) (hb : b ≠ a.block) : VBlk T (w.setCell a v) b l :=
  h.of_block (Below.heap_setCell w a v b hb)
theorem VBlk.drewN {T : TypeId} {w : World} {b : Nat} {l : List Value} (h : VBlk T w b l) (n : Nat) : VBlk T (w.drewN n) b l := h
theorem VBlk.mk (w : World) (l : List Value) (T : TypeId) : VBlk T (w.alloc (.cells l.toArray T)) w.heap.size l := by
  show (w.heap.push _)[w.heap.size]? = _
  simp

structure Keep (K : Nat → Prop) (w w' : World) : Prop where
  os : w'.os = w.os
  tape : w'.tape = w.tape
  output : w'.output = w.output
  size : w.heap.size ≤ w'.heap.size
  block : ∀ k, K k → w'.heap[k]? = w.heap[k]?

theorem Keep.refl (K : Nat → Prop) (w : World) : Keep K w w := ⟨rfl, rfl, rfl, Nat.le_refl _, fun _ _ => rfl⟩
theorem Keep.trans {K : Nat → Prop} {a b c : World} (h : Keep K a b) (k : Keep K b c) : Keep K a c :=
  ⟨k.os.trans h.os, k.tape.trans h.tape, k.output.trans h.output, Nat.le_trans h.size k.size, fun i hi => (k.block i hi).trans (h.block i hi)⟩
theorem Keep.mono {K K' : Nat → Prop} {w w' : World} (h : Keep K w w') (hK : ∀ k, K' k → K k) : Keep K' w w' := ⟨h.os, h.tape, h.output, h.size, fun k hk => h.block k (hK k hk)⟩
theorem Keep.drewN {K : Nat → Prop} {a w : World} (h : Keep K a w) (n : Nat) : Keep K a (w.drewN n) := ⟨h.os, h.tape, h.output, h.size, h.block⟩
theorem Keep.setCell {K : Nat → Prop} {a w : World} (h : Keep K a w) {p : Addr} (hp : ¬ K p.block) (u : Value) : Keep K a (w.setCell p u) :=
  h.trans ⟨rfl, rfl, rfl, by simp [World.setCell], fun k hk => Below.heap_setCell _ _ _ _ (fun e => hp (e ▸ hk))⟩
theorem Keep.of_below {B : Nat} {w w' : World} (h : Below B w w') : Keep (fun k => k < B) w w' := ⟨h.os, h.tape, h.output, h.size, h.block⟩
theorem Keep.below {B : Nat} {w w' : World} (h : Keep (fun k => k < B) w w') : Below B w w' := ⟨h.os, h.tape, h.output, h.size, h.block⟩
theorem Keep.cell {K : Nat → Prop} {w w' : World} (h : Keep K w w') {p : Addr} (hp : K p.block) : w'.cell? p = w.cell? p := World.cell?_of_block (w := w) (h.block p.block hp)
theorem Row.keep {K : Nat → Prop} {k : IntKind} {w w' : World} {b o : Nat} {l : List Int} (h : Row k w b o l) (hb : Keep K w w') (hB : K b) : Row k w' b o l := h.of_block (hb.block b hB)
theorem VBlk.keep {K : Nat → Prop} {T : TypeId} {w w' : World} {b : Nat} {l : List Value} (h : VBlk T w b l) (hb : Keep K w w') (hB : K b) : VBlk T w' b l := h.of_block (hb.block b hB)
theorem VBlk.below {B : Nat} {T : TypeId} {w w' : World} {b : Nat} {l : List Value} (h : VBlk T w b l) (hb : Below B w w') (hB : b < B) : VBlk T w' b l := h.of_block (hb.block b hB)

section
variable {P : Program} {f : FuncId} {args : Array Value} {w : World} {a n : Nat} {v : Value}
end

theorem below_setRow {B : Nat} {a w : World} (h : Below B a w) {g : Nat} (hg : B ≤ g) (cs : Array Value) : Below B a (w.setRow g cs) :=
  h.trans ⟨rfl, rfl, rfl, by simp, fun k hk => setRow_other w g k cs (by omega)⟩
theorem VBlk.setRow {T : TypeId} {w : World} {b : Nat} {l : List Value} (h : VBlk T w b l) (cs : List Value) : VBlk T (w.setRow b cs.toArray) b cs :=
  setRow_heap w b _ _ _ _ h
end Go.Proofs.Ytfpakjbaiohcaaa

namespace Go.Proofs.Ytfpakjbaiohcaaa
open Go.RowKit

def Hid2 (p : Prop) : Prop := ∀ q : Prop, (p → q) → q
theorem Hid2.mk {p : Prop} (h : p) : Hid2 p := fun _ f => f h
theorem Hid2.out {p : Prop} (h : Hid2 p) : p := h p id

def Sl (k : IntKind) (w : World) (v : Value) (l : List Int) : Prop :=
  ∃ sp cap, v = .slice sp l.length cap ∧ l.length ≤ cap ∧ cap ≤ 9223372036854775807 ∧ (0 < l.length → ∃ b o, sp = some ⟨b, o, none⟩ ∧ b < w.heap.size ∧ Row k w b o l) ∧ (sp = none → cap = 0)

theorem Sl.of_below {k : IntKind} {w w' : World} {v : Value} {l : List Int} (h : Sl k w v l) (hb : Below w.heap.size w w') : Sl k w' v l := by
  obtain ⟨sp, cap, rfl, h1, h2, h3, h4⟩ := h; exact ⟨sp, cap, rfl, h1, h2, fun h0 => let ⟨b, o, e, hl, hr⟩ := h3 h0; ⟨b, o, e, Nat.lt_of_lt_of_le hl hb.size, hr.below hb hl⟩, h4⟩
theorem Sl.keep {K : Nat → Prop} {k : IntKind} {w w' : World} {v : Value} {l : List Int} (h : Sl k w v l) (hb : Keep K w w') (hK : ∀ b o n c, v = .slice (some ⟨b, o, none⟩) n c → b < w.heap.size → K b) : Sl k w' v l := by
  obtain ⟨sp, cap, rfl, h1, h2, h3, h4⟩ := h; exact ⟨sp, cap, rfl, h1, h2, fun h0 => let ⟨b, o, e, hl, hr⟩ := h3 h0; ⟨b, o, e, Nat.lt_of_lt_of_le hl hb.size, hr.keep hb (hK b o _ _ (by rw [e]) hl)⟩, h4⟩
theorem Sl.nil (k : IntKind) (w : World) : Sl k w (.slice none 0 0) [] := ⟨none, 0, rfl, by simp, by omega, fun h => by simp at h, fun _ => rfl⟩
theorem Sl.mk {k : IntKind} {w : World} {b o cap : Nat} {l : List Int} (hl : l.length ≤ cap) (hc : cap ≤ 9223372036854775807) (hb : b < w.heap.size) (h : Row k w b o l) :
    Sl k w (.slice (some ⟨b, o, none⟩) l.length cap) l := ⟨_, _, rfl, hl, hc, fun _ => ⟨b, o, rfl, hb, h⟩, fun h => by cases h⟩

theorem addr_add (b o i : Nat) : (⟨b, o, none⟩ : Addr).add i = ⟨b, o + i, none⟩ := by
  unfold Addr.add
  by_cases h : i = 0
  · subst h; rfl
  · rw [if_neg h]

end Go.Proofs.Ytfpakjbaiohcaaa

namespace Go.Proofs.Ytfpakjbaiohcaaa
open Go.RowKit

def Buf (k : IntKind) (e : TypeId) (w : World) (base : Nat) (v : Value) (l : List Int) : Prop := w.ownsRow base e 1 v l.length (l.map (Value.int k))

theorem Buf.nil (k : IntKind) (e : TypeId) (w : World) (base : Nat) : Buf k e w base (.slice none 0 0) [] := World.ownsRow_nil _ _ _ _

theorem Buf.block {k : IntKind} {e : TypeId} {w : World} {base : Nat} {v : Value} {l : List Int} (h : Buf k e w base v l) :
    (v = .slice none 0 0 ∧ l = []) ∨ ∃ g cap rest, v = .slice (some ⟨g, 0, none⟩) l.length cap ∧ base ≤ g ∧ l.length ≤ cap ∧ cap ≤ maxLen ∧ VBlk e w g (l.map (Value.int k) ++ rest) ∧ (l.map (Value.int k) ++ rest).length = cap := by
  obtain ⟨h1, h2⟩ := h; rcases h2 with ⟨h2, h3⟩ | ⟨g, cap, cur, hv, hg, hh, r1, r2, r3, r4⟩
  · exact .inl ⟨h2, List.eq_nil_of_length_eq_zero h3⟩
  · refine .inr ⟨g, cap, cur.toList.drop l.length, hv, hg, r1, r2, ?_, ?_⟩
    · rw [Nat.mul_one] at r4
      rw [← r4, List.take_append_drop]
      simpa [VBlk] using hh
    · rw [Nat.mul_one] at r3
      simp; omega

theorem Buf.row {k : IntKind} {e : TypeId} {w : World} {base g cap : Nat} {l : List Int} (h : Buf k e w base (.slice (some ⟨g, 0, none⟩) l.length cap) l) : Row k w g 0 l := by
  intro j hj; have := World.ownsRow.cellAt h j (by simpa using hj); rw [Nat.zero_add, this]; simp [nth, hj]

theorem Buf.sl {k : IntKind} {e : TypeId} {w : World} {base : Nat} {v : Value} {l : List Int} (h : Buf k e w base v l) : Sl k w v l := by
  rcases h.block with ⟨rfl, rfl⟩ | ⟨g, cap, rest, rfl, hg, h1, h2, hb, -⟩
  · exact Sl.nil k w
  · exact Sl.mk h1 (by unfold maxLen at h2; exact h2) hb.lt h.row

theorem Buf.keep {K : Nat → Prop} {k : IntKind} {e : TypeId} {w w' : World} {base : Nat} {v : Value} {l : List Int} (h : Buf k e w base v l) (hk : Keep K w w') (hK : ∀ g, base ≤ g → g < w.heap.size → v.ownBlock = some g → K g) : Buf k e w' base v l := by
  refine ⟨h.1, ?_⟩; rcases h.2 with hn | ⟨g, cap, cur, rfl, hb, hgg, rest⟩
  · exact .inl hn
  · refine .inr ⟨g, cap, cur, rfl, hb, ?_, rest⟩
    rw [hk.block g (hK g hb (lt_of_block hgg) rfl)]; exact hgg
theorem Buf.below {B : Nat} {k : IntKind} {e : TypeId} {w w' : World} {base : Nat} {v : Value} {l : List Int} (h : Buf k e w base v l) (hk : Below B w w') (hB : w.heap.size ≤ B) : Buf k e w' base v l :=
  h.keep (Keep.of_below hk) (fun _ _ hg _ => Nat.lt_of_lt_of_le hg hB)
theorem Buf.own {k : IntKind} {e : TypeId} {w : World} {base : Nat} {v : Value} {l : List Int} (h : Buf k e w base v l) : ∀ g, v.ownBlock = some g → base ≤ g ∧ g < w.heap.size := fun g hg => World.ownsRow.lt h g hg
theorem Buf.mk {k : IntKind} {e : TypeId} {w : World} {base : Nat} (l rest : List Int) (hb : base ≤ w.heap.size) (hm : l.length + rest.length ≤ maxLen) :
    Buf k e (w.alloc (.cells ((l ++ rest).map (Value.int k)).toArray e)) base (.slice (some ⟨w.heap.size, 0, none⟩) l.length (l.length + rest.length)) l := by
  refine ⟨by simp, .inr ⟨w.heap.size, l.length + rest.length, _, rfl, hb, heap_alloc_new _ _, by omega, hm, by simp, ?_⟩⟩; simp
end Go.Proofs.Ytfpakjbaiohcaaa

namespace Go.Proofs.Ytfpakjbaiohcaaa
open Go.ChangeShapes Go.WideShapes Go.ChangeAt Go.RowKit

theorem Try.ownKnob : ownKnob Try.prog.godebug = none := by kernel_rfl
theorem Try.laid : laidOutB Try.prog = true := by kernel_rfl

theorem cell_spot {w : World} {x : Addr} {v : Value} (h : w.cell? x = some v) : x.spot = none := by
  unfold World.cell? at h
  split at h
  · cases hs : x.spot with
    | none => rfl
    | some _ => simp [hs] at h
  · cases h
end Go.Proofs.Ytfpakjbaiohcaaa

namespace Go.Proofs.Ytfpakjbaiohcaaa
open Go.ChangeShapes Go.WideShapes Go.ChangeAt Go.RowKit

inductive V where
  | mk (k n s : Int) (t : ByteArray) (names : List ByteArray) (kids : List V)
namespace V
def k : V → Int | .mk k _ _ _ _ _ => k
def n : V → Int | .mk _ n _ _ _ _ => n
def s : V → Int | .mk _ _ s _ _ _ => s
def t : V → ByteArray | .mk _ _ _ t _ _ => t
def names : V → List ByteArray | .mk _ _ _ _ l _ => l
def kids : V → List V | .mk _ _ _ _ _ l => l
end V
def noV : V := .mk 0 0 0 ByteArray.empty [] []
def noT : ByteArray := ByteArray.empty

def Strs (w : World) (v : Value) (l : List ByteArray) : Prop :=
  ∃ sp cap, v = .slice sp l.length cap ∧ l.length ≤ cap ∧ cap ≤ 9223372036854775807 ∧ (∀ j, j < l.length → (l.getD j noT).size ≤ 140737488355328) ∧
    (0 < l.length → ∃ b o, sp = some ⟨b, o, none⟩ ∧ b < w.heap.size ∧ ∀ j, j < l.length → w.cell? ⟨b, o + j, none⟩ = some (.string (l.getD j noT)))
theorem Strs.below {w w' : World} {v : Value} {l : List ByteArray} (h : Strs w v l) (hb : Below w.heap.size w w') : Strs w' v l := by
  obtain ⟨sp, cap, h1, h2, h3, h4, h5⟩ := h; refine ⟨sp, cap, h1, h2, h3, h4, fun h0 => ?_⟩; obtain ⟨b, o, e, hlt, hr⟩ := h5 h0; exact ⟨b, o, e, Nat.lt_of_lt_of_le hlt hb.size, fun j hj => by rw [hb.cell (p := ⟨b, o + j, none⟩) hlt]; exact hr j hj⟩

def Six (P : V → List Value → Prop) (w : World) (v : Value) (l : List V) : Prop :=
  ∃ sp cap, v = .slice sp l.length cap ∧ l.length ≤ cap ∧ cap ≤ 9223372036854775807 ∧
    (0 < l.length → ∃ b o, sp = some ⟨b, o, none⟩ ∧ b < w.heap.size ∧ ∀ j, j < l.length → ∃ cs, cs.length = 6 ∧ P (l.getD j noV) cs ∧ w.rangeAt b (o + j * 6) cs)

def IsV : Nat → World → V → List Value → Prop
  | 0, _, _, _ => False
  | f + 1, w, v, cs => ∃ sn sk, cs = [.int .i64 v.k, .int .i64 v.n, .int .i64 v.s, .string v.t, sn, sk] ∧
      (Lit.int .i64 v.k).wf = true ∧ (Lit.int .i64 v.n).wf = true ∧ (Lit.int .i64 v.s).wf = true ∧ v.t.size ≤ 140737488355328 ∧ Strs w sn v.names ∧ Six (IsV f w) w sk v.kids
def IsVs (f : Nat) (w : World) (v : Value) (l : List V) : Prop := Six (IsV f w) w v l

theorem Six.below {P P' : V → List Value → Prop} {w w' : World} {v : Value} {l : List V} (h : Six P w v l) (hb : Below w.heap.size w w') (hP : ∀ x cs, P x cs → P' x cs) : Six P' w' v l := by
  obtain ⟨sp, cap, h1, h2, h3, h4⟩ := h; refine ⟨sp, cap, h1, h2, h3, fun h0 => ?_⟩; obtain ⟨b, o, e, hlt, hr⟩ := h4 h0; refine ⟨b, o, e, Nat.lt_of_lt_of_le hlt hb.size, fun j hj => ?_⟩; obtain ⟨cs, hc, hp, hat⟩ := hr j hj; exact ⟨cs, hc, hP _ _ hp, fun i u hu => by rw [hb.cell (p := ⟨b, o + j * 6 + i, none⟩) hlt]; exact hat i u hu⟩
theorem IsV.below {w w' : World} (hb : Below w.heap.size w w') : ∀ {f : Nat} {v : V} {cs : List Value}, IsV f w v cs → IsV f w' v cs
  | 0, _, _, h => h
  | _ + 1, _, _, ⟨sn, sk, h1, h2, h3, h4, h5, h6, h7⟩ => ⟨sn, sk, h1, h2, h3, h4, h5, h6.below hb, h7.below hb fun _ _ hp => IsV.below hb hp⟩
theorem IsVs.below {f : Nat} {w w' : World} {v : Value} {l : List V} (h : IsVs f w v l) (hb : Below w.heap.size w w') : IsVs f w' v l := Six.below h hb fun _ _ hp => IsV.below hb hp
theorem IsV.len {f : Nat} {w : World} {v : V} {cs : List Value} (h : IsV f w v cs) : cs.length = 6 := by
  cases f with
  | zero => exact h.elim
  | succ f => obtain ⟨_, _, rfl, _⟩ := h; rfl

def isNameB (s : ByteArray) : Bool := decide (1 ≤ s.size) && decide (s.size ≤ 40)
def risesB : List ByteArray → Bool
  | [] => true
  | [_] => true
  | a :: b :: l => Op.bytesLess a.toList b.toList && risesB (b :: l)
def fieldsB (v : V) : Bool := v.names.all isNameB && risesB v.names && decide (v.names.length = v.kids.length)
def bareB (v : V) : Bool := decide (v.n = 0) && decide (v.s = 0)
def plainB (v : V) : Bool := decide (v.names.length = 0) && decide (v.kids.length = 0)
def noTextB (v : V) : Bool := decide (v.t.size = 0)
def formB (v : V) : Bool :=
  if v.k = 1 then bareB v && plainB v && noTextB v
  else if v.k = 2 then decide (0 ≤ v.n) && decide (v.n ≤ 1) && decide (v.s = 0) && plainB v && noTextB v
  else if v.k = 3 then decide (v.s = 0) && plainB v && noTextB v
  else if v.k = 4 then decide (1 ≤ v.s) && decide (v.s ≤ 18) && decide (¬ v.n.tmod 10 = 0) && plainB v && noTextB v
  else if v.k = 5 then decide (0 ≤ v.n) && decide (v.n ≤ 9007199254740992) && decide (v.s = 0) && plainB v && noTextB v
  else if v.k = 6 ∨ v.k = 7 then bareB v && plainB v
  else if v.k = 8 then bareB v && decide (v.names.length = 0) && noTextB v
  else if v.k = 9 then bareB v && noTextB v
  else false
def shp (v : V) : Int :=
  if formB v = false then 3
  else if 16384 < v.t.size ∨ 200 < v.kids.length then 5
  else if v.k = 9 ∧ fieldsB v = false then 3
  else 0
def firstBad : List Int → Int
  | [] => 0
  | e :: l => if e = 0 then firstBad l else e
def chk : Nat → V → Int
  | 0, _ => 9
  | m + 1, v => if shp v = 0 then firstBad (v.kids.map (chk m)) else shp v

theorem firstBad_zero {l : List Int} : firstBad l = 0 ↔ ∀ e ∈ l, e = 0 := by
  induction l with
  | nil => simp [firstBad]
  | cons a l ih =>
    unfold firstBad
    by_cases h : a = 0
    · rw [if_pos h, ih]; simp [h]
    · rw [if_neg h]; simp [h]
theorem firstBad_take {l : List Int} {i : Nat} (hi : i < l.length) (h : ∀ j, j < i → l.getD j 0 = 0) (hn : ¬ l.getD i 0 = 0) : firstBad l = l.getD i 0 := by
  induction l generalizing i with
  | nil => simp at hi
  | cons a l ih =>
    cases i with
    | zero => unfold firstBad; rw [if_neg (by simpa using hn)]; simp
    | succ i =>
      have h0 := h 0 (by omega); simp only [List.getD_cons_zero] at h0; unfold firstBad; rw [if_pos h0]; simp only [List.getD_cons_succ] at hn ⊢; exact ih (by simpa using hi) (fun j hj => by simpa using h (j + 1) (by omega)) hn
theorem firstBad_all {l : List Int} (h : ∀ j, j < l.length → l.getD j 0 = 0) : firstBad l = 0 := by
  rw [firstBad_zero]; intro e he; obtain ⟨j, hj, rfl⟩ := List.getElem_of_mem he
  simpa [hj] using h j hj
theorem chk_kid {m : Nat} {v : V} {j : Nat} (h : chk (m + 1) v = 0) (hj : j < v.kids.length) : chk m (v.kids.getD j noV) = 0 := by
  unfold chk at h
  by_cases hs : shp v = 0
  · rw [if_pos hs, firstBad_zero] at h
    exact h _ (List.mem_map.2 ⟨v.kids[j], List.getElem_mem hj, by simp [hj]⟩)
  · rw [if_neg hs] at h; exact (hs h).elim
theorem chk_shp {m : Nat} {v : V} (h : chk (m + 1) v = 0) : shp v = 0 := by
  unfold chk at h
  by_cases hs : shp v = 0
  · exact hs
  · rw [if_neg hs] at h; exact h
theorem chk_map (m : Nat) (l : List V) (j : Nat) (hj : j < l.length) : (l.map (chk m)).getD j 0 = chk m (l.getD j noV) := by simp [hj]

theorem rises_iff : ∀ {l : List ByteArray}, risesB l = true ↔ ∀ i, i + 1 < l.length → Op.bytesLess (l.getD i noT).toList (l.getD (i + 1) noT).toList = true
  | [] => by simp [risesB]
  | [a] => by simp [risesB]
  | a :: b :: l => by
    unfold risesB; rw [Bool.and_eq_true, rises_iff (l := b :: l)]
    constructor
    · rintro ⟨h1, h2⟩ i hi
      cases i with
      | zero => simpa using h1
      | succ i => simpa using h2 i (by simp at hi ⊢; omega)
    · intro h
      exact ⟨by simpa using h 0 (by simp), fun i hi => by simpa using h (i + 1) (by simp at hi ⊢; omega)⟩
end Go.Proofs.Ytfpakjbaiohcaaa

namespace Go.Proofs.Ytfpakjbaiohcaaa
namespace K

def digsF : Nat → Nat → List Nat
  | 0, _ => []
  | f + 1, u => if u = 0 then [] else u % 10 :: digsF f (u / 10)
def digs (u : Nat) : List Nat := digsF 20 u
def nzs : List Nat → List Nat
  | [] => []
  | a :: r => if a = 0 then nzs r else a :: r
theorem nzs_snoc (A : List Nat) (d : Nat) : nzs (A ++ [d]) = if nzs A = [] then (if d = 0 then [] else [d]) else nzs A ++ [d] := by
  induction A with
  | nil => simp [nzs]
  | cons a A ih =>
    rw [List.cons_append, nzs, nzs]
    by_cases h : a = 0
    · rw [if_pos h, if_pos h, ih]
    · rw [if_neg h, if_neg h, if_neg (by simp)]; simp
theorem digsF_len : ∀ (f u : Nat), (digsF f u).length ≤ f
  | 0, _ => by simp [digsF]
  | f + 1, u => by
    unfold digsF
    split
    · simp
    · simp [digsF_len f (u / 10)]
theorem digsF_lt : ∀ (f u : Nat), ∀ d ∈ digsF f u, d < 10
  | 0, _, d, h => by simp [digsF] at h
  | f + 1, u, d, h => by
    unfold digsF at h
    split at h
    · simp at h
    · rcases List.mem_cons.1 h with rfl | h
      · omega
      · exact digsF_lt f (u / 10) d h
theorem nzs_sub (l : List Nat) : ∀ d ∈ nzs l, d ∈ l := by
  induction l with
  | nil => intro d h; exact h
  | cons a l ih =>
    intro d h; unfold nzs at h
    split at h
    · exact List.mem_cons_of_mem _ (ih d h)
    · exact h
theorem nzs_len (l : List Nat) : (nzs l).length ≤ l.length := by
  induction l with
  | nil => simp [nzs]
  | cons a l ih => unfold nzs; split <;> simp <;> omega
def digB (ds : List Nat) : List Int := (nzs ds).reverse.map fun d : Nat => (d : Int) + 1
def posB (ds : List Nat) (s : Int) : List Int := ((ds.length : Int) - s + 192) % 256 :: digB ds ++ [0]
def flipB (l : List Int) : List Int := l.map fun c => 255 - c
def numB (n s : Int) : List Int := if n = 0 then [128] else if n < 0 then flipB (posB (digs n.natAbs) s) else posB (digs n.natAbs) s
theorem posB_len (u : Nat) (s : Int) : (posB (digs u) s).length ≤ 22 := by
  have h1 := nzs_len (digs u); have h2 : (digs u).length ≤ 20 := digsF_len 20 u; simp [posB, digB]
  omega
theorem numB_len (n s : Int) : (numB n s).length ≤ 22 := by
  unfold numB; have := posB_len n.natAbs s
  split
  · simp
  · split
    · simpa [flipB] using this
    · exact this
theorem digB_range (u : Nat) : ∀ c ∈ digB (digs u), 1 ≤ c ∧ c ≤ 10 := by
  intro c hc; unfold digB at hc; obtain ⟨d, hd, rfl⟩ := List.mem_map.1 hc; have := digsF_lt 20 u d (nzs_sub _ d (List.mem_reverse.1 hd)); omega
theorem posB_range (u : Nat) (s : Int) : ∀ c ∈ posB (digs u) s, 0 ≤ c ∧ c ≤ 255 := by
  intro c hc; unfold posB at hc; simp only [List.mem_append, List.mem_cons, List.mem_nil_iff, or_false] at hc; rcases hc with (rfl | hc) | rfl
  · omega
  · have := digB_range u c hc; omega
  · omega
end K
end Go.Proofs.Ytfpakjbaiohcaaa

namespace Go.Proofs.Ytfpakjbaiohcaaa
namespace K
theorem range_piece (g : Nat → List Int) (i : Nat) : (List.range (i + 1)).flatMap g = (List.range i).flatMap g ++ g i := by
  rw [List.range_succ, List.flatMap_append]; simp
theorem range_len_le (g : Nat → List Int) {i n : Nat} (h : i ≤ n) : ((List.range i).flatMap g).length ≤ ((List.range n).flatMap g).length := by
  induction n with
  | zero => obtain rfl : i = 0 := by omega
            exact Nat.le_refl _
  | succ n ih =>
    rcases Nat.lt_or_ge n i with h' | h'
    · obtain rfl : i = n + 1 := by omega
      exact Nat.le_refl _
    · rw [range_piece, List.length_append]; have := ih h'; omega
theorem shp_form {v : V} (h : shp v = 0) : (1 ≤ v.k ∧ v.k ≤ 9) ∧ (v.k = 2 → 0 ≤ v.n ∧ v.n ≤ 1) ∧ (v.k = 3 → v.s = 0) ∧ (v.k = 4 → 1 ≤ v.s ∧ v.s ≤ 18 ∧ ¬ v.n.tmod 10 = 0) ∧ (v.k = 5 → 0 ≤ v.n ∧ v.n ≤ 9007199254740992) ∧
    v.kids.length ≤ 200 ∧ v.t.size ≤ 16384 ∧ (v.k = 9 → v.names.length = v.kids.length ∧ ∀ s ∈ v.names, s.size ≤ 40) := by
  unfold shp at h
  by_cases h1 : formB v = false
  · rw [if_pos h1] at h; cases h
  rw [if_neg h1] at h
  by_cases h2 : 16384 < v.t.size ∨ 200 < v.kids.length
  · rw [if_pos h2] at h; cases h
  rw [if_neg h2] at h
  by_cases h3 : v.k = 9 ∧ fieldsB v = false
  · rw [if_pos h3] at h; cases h
  have hf : formB v = true := by simpa using h1
  clear h h1; refine ⟨?_, ?_, ?_, ?_, ?_, by omega, by omega, ?_⟩
  · unfold formB at hf
    by_cases a1 : v.k = 1
    · omega
    by_cases a2 : v.k = 2
    · omega
    by_cases a3 : v.k = 3
    · omega
    by_cases a4 : v.k = 4
    · omega
    by_cases a5 : v.k = 5
    · omega
    by_cases a6 : v.k = 6 ∨ v.k = 7
    · omega
    by_cases a8 : v.k = 8
    · omega
    by_cases a9 : v.k = 9
    · omega
    rw [if_neg a1, if_neg a2, if_neg a3, if_neg a4, if_neg a5, if_neg a6, if_neg a8, if_neg a9] at hf; cases hf
  · intro e; unfold formB at hf; simp [e] at hf; omega
  · intro e; unfold formB at hf; simp [e] at hf; omega
  · intro e; unfold formB at hf; simp [e] at hf; exact ⟨hf.1.1.1.1, hf.1.1.1.2, hf.1.1.2⟩
  · intro e; unfold formB at hf; simp [e] at hf; omega
  · intro e
    have h4 : fieldsB v = true := by
      cases hb : fieldsB v with
      | true => rfl
      | false => exact (h3 ⟨e, hb⟩).elim
    unfold fieldsB at h4; simp only [Bool.and_eq_true, List.all_eq_true, decide_eq_true_eq] at h4; refine ⟨h4.2, fun s hs => ?_⟩; have := h4.1.1 s hs; unfold isNameB at this; simp at this
    omega
end K
end Go.Proofs.Ytfpakjbaiohcaaa

namespace Go.Proofs.Ytfpakjbaiohcaaa
namespace K
def classI (k : Int) : Int := if k ≤ 2 then 16 * k else if k ≤ 4 then 48 else 16 * (k - 1)
def shortI (v : Int) : List Int := [v / 16777216 % 256, v / 65536 % 256, v / 256 % 256, v % 256]
def bigI (v : Int) : List Int := shortI (v / 4294967296) ++ shortI (v % 4294967296)
def textP : List UInt8 → List Int
  | [] => []
  | c :: r => if c = 0 then 0 :: 255 :: textP r else (c.toNat : Int) :: textP r
def textK (s : List UInt8) : List Int := textP s ++ [0, 0]
theorem textP_snoc (l : List UInt8) (c : UInt8) : textP (l ++ [c]) = textP l ++ if c = 0 then [0, 255] else [(c.toNat : Int)] := by
  induction l with
  | nil => rw [List.nil_append, textP]; split <;> simp_all [textP]
  | cons a l ih => rw [List.cons_append, textP, ih, textP]; by_cases h : a = 0 <;> simp [h]
theorem textP_le (l : List UInt8) : (textP l).length ≤ 2 * l.length := by
  induction l with
  | nil => simp [textP]
  | cons a l ih => rw [textP]; split <;> simp <;> omega
def pieceK (ky : V → List Int) (st : Bool) (names : List ByteArray) (kids : List V) (j : Nat) : List Int :=
  (if st then 1 :: textK (names.getD j noT).toList else []) ++ ky (kids.getD j noV)
def keyV : Nat → V → List Int
  | 0, _ => []
  | m + 1, v => classI v.k ::
    (if v.k = 2 then [v.n] else if v.k = 3 ∨ v.k = 4 then numB v.n v.s else if v.k = 5 then bigI v.n else if v.k = 6 ∨ v.k = 7 then textK v.t.toList
     else if v.k = 8 ∨ v.k = 9 then (List.range v.kids.length).flatMap (pieceK (keyV m) (decide (v.k = 9)) v.names v.kids) ++ [0] else [])
def keysV (m : Nat) (l : List V) : List Int := l.flatMap (keyV m)

end K
end Go.Proofs.Ytfpakjbaiohcaaa

namespace Go.Proofs.Ytfpakjbaiohcaaa
namespace K
def txR : List Int → List Int → Option (List Int × List Int)
  | [], _ => none
  | [_], _ => none
  | c :: c2 :: r, b => if c ≠ 0 then txR (c2 :: r) (b ++ [c]) else if c2 = 0 then some (b, r) else if c2 = 255 then txR r (b ++ [0]) else none
theorem txR_enc : ∀ (s : List UInt8) (b r : List Int), txR (textP s ++ 0 :: 0 :: r) b = some (b ++ s.map (fun c => (c.toNat : Int)), r)
  | [], b, r => by
    show txR (0 :: 0 :: r) b = _
    unfold txR; rw [if_neg (by simp), if_pos rfl]; simp
  | c :: s, b, r => by
    rw [textP]
    by_cases h : c = 0
    · subst h
      rw [if_pos rfl]
      show txR (0 :: 255 :: (textP s ++ 0 :: 0 :: r)) b = _
      unfold txR; rw [if_neg (by simp), if_neg (by omega), if_pos rfl, txR_enc s]; simp
    · rw [if_neg h]
      have hc : (c.toNat : Int) ≠ 0 := fun q => h (by
        have : c.toNat = 0 := by omega
        exact UInt8.toNat_inj.1 (by simpa using this))
      have key : ∀ l : List Int, l ≠ [] → txR ((c.toNat : Int) :: l) b = txR l (b ++ [(c.toNat : Int)]) := by
        intro l hl; cases l with
        | nil => exact absurd rfl hl
        | cons x y =>
          conv => lhs; unfold txR
          rw [if_pos hc]
      show txR ((c.toNat : Int) :: (textP s ++ 0 :: 0 :: r)) b = _
      rw [key _ (by simp), txR_enc s]; simp
theorem txR_len : ∀ (l b : List Int) {t r : List Int}, txR l b = some (t, r) → t.length + r.length ≤ b.length + l.length
  | [], _, _, _, h => by cases h
  | [_], _, _, _, h => by cases h
  | c :: c2 :: rr, b, t, r, h => by
    unfold txR at h
    split at h
    · have := txR_len _ _ h
      simp only [List.length_append, List.length_cons, List.length_nil] at this ⊢; omega
    · split at h
      · cases h
        simp only [List.length_cons]; omega
      · split at h
        · have := txR_len _ _ h
          simp only [List.length_append, List.length_cons, List.length_nil] at this ⊢; omega
        · cases h
def valD : List Nat → Nat
  | [] => 0
  | d :: r => d + 10 * valD r
theorem valD_digsF : ∀ (f u : Nat), u < 10 ^ f → valD (digsF f u) = u
  | 0, u, h => by
    have : u = 0 := by simpa using h
    subst this
    rfl
  | f + 1, u, h => by
    unfold digsF
    split
    · rename_i h0
      rw [h0]; rfl
    · rw [valD, valD_digsF f (u / 10) (by rw [Nat.pow_succ] at h; omega)]
      omega
theorem valD_nzs (l : List Nat) : valD l = valD (nzs l) * 10 ^ (l.length - (nzs l).length) := by
  induction l with
  | nil => rfl
  | cons a l ih =>
    have hl := nzs_len l; unfold nzs
    split
    · rename_i h0
      rw [valD, h0, ih, List.length_cons, show l.length + 1 - (nzs l).length = (l.length - (nzs l).length) + 1 by omega, Nat.pow_succ]; rw [Nat.zero_add, Nat.mul_comm 10, Nat.mul_assoc]
    · rw [Nat.sub_self, Nat.pow_zero, Nat.mul_one]
theorem foldD (l : List Nat) : (l.reverse.map fun d : Nat => (d : Int) + 1).foldl (fun u d => u * 10 + (d - 1).toNat) 0 = valD l := by
  induction l with
  | nil => rfl
  | cons a l ih =>
    rw [List.reverse_cons, List.map_append, List.foldl_append, ih, valD]
    show valD l * 10 + ((a : Int) + 1 - 1).toNat = _
    omega
theorem digB_val (u : Nat) (hu : u < 100000000000000000000) : (digB (digs u)).foldl (fun u d => u * 10 + (d - 1).toNat) 0 * 10 ^ ((digs u).length - (digB (digs u)).length) = u := by
  unfold digB; rw [foldD, List.length_map, List.length_reverse, ← valD_nzs]; exact valD_digsF 20 u (by simpa using hu)
end K
end Go.Proofs.Ytfpakjbaiohcaaa

namespace Go.Proofs.Ytfpakjbaiohcaaa
namespace K

end K
end Go.Proofs.Ytfpakjbaiohcaaa

namespace Go.Proofs.Ytfpakjbaiohcaaa
namespace K

def Byt (l : List Int) : Prop := ∀ c ∈ l, 0 ≤ c ∧ c ≤ 255
end K
end Go.Proofs.Ytfpakjbaiohcaaa

namespace Go.Proofs.Ytfpakjbaiohcaaa
namespace K

end K
end Go.Proofs.Ytfpakjbaiohcaaa

namespace Go.Proofs.Ytfpakjbaiohcaaa
namespace K

theorem noT_of {t : ByteArray} (h : t.size = 0) : t = noT := by
  apply ByteArray.ext
  apply Array.eq_empty_of_size_eq_zero h
theorem shp_full {v : V} (h : shp v = 0) :
    (v.k = 1 ∧ v = .mk 1 0 0 noT [] []) ∨ (v.k = 2 ∧ v = .mk 2 v.n 0 noT [] [] ∧ 0 ≤ v.n ∧ v.n ≤ 1) ∨ (v.k = 3 ∧ v = .mk 3 v.n 0 noT [] []) ∨ (v.k = 4 ∧ v = .mk 4 v.n v.s noT [] [] ∧ 1 ≤ v.s ∧ v.s ≤ 18) ∨
    (v.k = 5 ∧ v = .mk 5 v.n 0 noT [] [] ∧ 0 ≤ v.n ∧ v.n ≤ 9007199254740992) ∨ ((v.k = 6 ∨ v.k = 7) ∧ v = .mk v.k 0 0 v.t [] [] ∧ v.t.size ≤ 16384) ∨
    (v.k = 8 ∧ v = .mk 8 0 0 noT [] v.kids ∧ v.kids.length ≤ 200) ∨ (v.k = 9 ∧ v = .mk 9 0 0 noT v.names v.kids ∧ v.kids.length ≤ 200 ∧ v.names.length = v.kids.length ∧ ∀ s ∈ v.names, s.size ≤ 40) := by
  obtain ⟨k, n, s, t, names, kids⟩ := v; unfold shp at h
  by_cases h1 : formB (.mk k n s t names kids) = false
  · rw [if_pos h1] at h; cases h
  rw [if_neg h1] at h
  by_cases h2 : 16384 < (V.mk k n s t names kids).t.size ∨ 200 < (V.mk k n s t names kids).kids.length
  · rw [if_pos h2] at h; cases h
  rw [if_neg h2] at h
  by_cases h3 : (V.mk k n s t names kids).k = 9 ∧ fieldsB (.mk k n s t names kids) = false
  · rw [if_pos h3] at h; cases h
  have hf : formB (.mk k n s t names kids) = true := by simpa using h1
  clear h h1; simp only [V.k, V.t, V.kids] at h2 h3; unfold formB at hf; simp only [V.k, V.n, V.s, V.t, V.names, V.kids]
  by_cases a1 : k = 1
  · subst a1; left
    rw [if_pos (show (V.mk 1 n s t names kids).k = 1 from rfl)] at hf; simp only [bareB, plainB, noTextB, Bool.and_eq_true, decide_eq_true_eq, List.length_eq_zero_iff] at hf; simp only [V.n, V.s, V.t, V.names, V.kids] at hf; obtain ⟨⟨⟨rfl, rfl⟩, rfl, rfl⟩, ht⟩ := hf; exact ⟨rfl, by rw [noT_of ht]⟩
  rw [if_neg (show ¬ (V.mk k n s t names kids).k = 1 from a1)] at hf; right
  by_cases a2 : k = 2
  · subst a2; left
    rw [if_pos (show (V.mk 2 n s t names kids).k = 2 from rfl)] at hf; simp only [plainB, noTextB, Bool.and_eq_true, decide_eq_true_eq, List.length_eq_zero_iff] at hf; simp only [V.n, V.s, V.t, V.names, V.kids] at hf; obtain ⟨⟨⟨⟨b1, b2⟩, rfl⟩, rfl, rfl⟩, ht⟩ := hf; exact ⟨rfl, by rw [noT_of ht], b1, b2⟩
  rw [if_neg (show ¬ (V.mk k n s t names kids).k = 2 from a2)] at hf; right
  by_cases a3 : k = 3
  · subst a3; left
    rw [if_pos (show (V.mk 3 n s t names kids).k = 3 from rfl)] at hf; simp only [plainB, noTextB, Bool.and_eq_true, decide_eq_true_eq, List.length_eq_zero_iff] at hf; simp only [V.s, V.t, V.names, V.kids] at hf; obtain ⟨⟨rfl, rfl, rfl⟩, ht⟩ := hf; exact ⟨rfl, by rw [noT_of ht]⟩
  rw [if_neg (show ¬ (V.mk k n s t names kids).k = 3 from a3)] at hf; right
  by_cases a4 : k = 4
  · subst a4; left
    rw [if_pos (show (V.mk 4 n s t names kids).k = 4 from rfl)] at hf; simp only [plainB, noTextB, Bool.and_eq_true, decide_eq_true_eq, List.length_eq_zero_iff] at hf; simp only [V.n, V.s, V.t, V.names, V.kids] at hf; obtain ⟨⟨⟨⟨b1, b2⟩, -⟩, rfl, rfl⟩, ht⟩ := hf; exact ⟨rfl, by rw [noT_of ht], b1, b2⟩
  rw [if_neg (show ¬ (V.mk k n s t names kids).k = 4 from a4)] at hf; right
  by_cases a5 : k = 5
  · subst a5; left
    rw [if_pos (show (V.mk 5 n s t names kids).k = 5 from rfl)] at hf; simp only [plainB, noTextB, Bool.and_eq_true, decide_eq_true_eq, List.length_eq_zero_iff] at hf; simp only [V.n, V.s, V.t, V.names, V.kids] at hf; obtain ⟨⟨⟨⟨b1, b2⟩, rfl⟩, rfl, rfl⟩, ht⟩ := hf; exact ⟨rfl, by rw [noT_of ht], b1, b2⟩
  rw [if_neg (show ¬ (V.mk k n s t names kids).k = 5 from a5)] at hf; right
  by_cases a6 : k = 6 ∨ k = 7
  · left
    rw [if_pos (show (V.mk k n s t names kids).k = 6 ∨ (V.mk k n s t names kids).k = 7 from a6)] at hf; simp only [bareB, plainB, Bool.and_eq_true, decide_eq_true_eq, List.length_eq_zero_iff] at hf; simp only [V.n, V.s, V.names, V.kids] at hf; obtain ⟨⟨rfl, rfl⟩, rfl, rfl⟩ := hf; exact ⟨a6, rfl, by omega⟩
  rw [if_neg (show ¬ ((V.mk k n s t names kids).k = 6 ∨ (V.mk k n s t names kids).k = 7) from a6)] at hf; right
  by_cases a8 : k = 8
  · subst a8; left
    rw [if_pos (show (V.mk 8 n s t names kids).k = 8 from rfl)] at hf; simp only [bareB, noTextB, Bool.and_eq_true, decide_eq_true_eq, List.length_eq_zero_iff] at hf; simp only [V.n, V.s, V.t, V.names] at hf; obtain ⟨⟨⟨rfl, rfl⟩, rfl⟩, ht⟩ := hf; exact ⟨rfl, by rw [noT_of ht], by omega⟩
  rw [if_neg (show ¬ (V.mk k n s t names kids).k = 8 from a8)] at hf; right
  by_cases a9 : k = 9
  · subst a9
    rw [if_pos (show (V.mk 9 n s t names kids).k = 9 from rfl)] at hf; simp only [bareB, noTextB, Bool.and_eq_true, decide_eq_true_eq] at hf; simp only [V.n, V.s, V.t] at hf; obtain ⟨⟨rfl, rfl⟩, ht⟩ := hf; have h4 : fieldsB (.mk 9 0 0 t names kids) = true := by
      cases hb : fieldsB (.mk 9 0 0 t names kids) with
      | true => rfl
      | false => exact (h3 ⟨rfl, hb⟩).elim
    unfold fieldsB at h4; simp only [Bool.and_eq_true, List.all_eq_true, decide_eq_true_eq] at h4; refine ⟨rfl, by rw [noT_of ht], by omega, h4.2, fun s hs => ?_⟩; have := h4.1.1 s hs; unfold isNameB at this; simp at this
    omega
  · rw [if_neg (show ¬ (V.mk k n s t names kids).k = 9 from a9)] at hf; cases hf

end K
end Go.Proofs.Ytfpakjbaiohcaaa

namespace Go.Proofs.Ytfpakjbaiohcaaa
namespace K
def Wv : Nat → V → Prop
  | 0, _ => False
  | f + 1, v => (-9223372036854775808 ≤ v.n ∧ v.n ≤ 9223372036854775807) ∧ ∀ x ∈ v.kids, Wv f x
def Wr (v : V) : Prop := ∃ f, Wv f v
theorem Wr.num {v : V} (h : Wr v) : -9223372036854775808 ≤ v.n ∧ v.n ≤ 9223372036854775807 := by
  obtain ⟨f, h⟩ := h; cases f with
  | zero => exact h.elim
  | succ f => exact h.1
theorem Wr.kid {v x : V} (h : Wr v) (hx : x ∈ v.kids) : Wr x := by
  obtain ⟨f, h⟩ := h; cases f with
  | zero => exact h.elim
  | succ f => exact ⟨f, h.2 x hx⟩
def pcs (ky : V → List Int) : List ByteArray → List V → List Int
  | n :: ns, k :: ks => (1 :: textK n.toList) ++ (ky k ++ pcs ky ns ks)
  | _, _ => []
theorem pcs_eq (ky : V → List Int) : ∀ (ns : List ByteArray) (ks : List V), ns.length = ks.length → (List.range ks.length).flatMap (pieceK ky true ns ks) = pcs ky ns ks
  | [], [], _ => rfl
  | n :: ns, k :: ks, h => by
    rw [List.length_cons, List.range_succ_eq_map, List.flatMap_cons, List.flatMap_map, pcs, ← pcs_eq ky ns ks (by simpa using h)]
    show (1 :: textK n.toList) ++ ky k ++ _ = _
    rw [List.append_assoc]
    rfl
theorem lst_eq (ky : V → List Int) : ∀ (ns : List ByteArray) (ks : List V), (List.range ks.length).flatMap (pieceK ky false ns ks) = ks.flatMap ky
  | _, [] => rfl
  | ns, k :: ks => by
    rw [List.length_cons, List.range_succ_eq_map, List.flatMap_cons, List.flatMap_map, List.flatMap_cons, ← lst_eq ky ns.tail ks]
    show [] ++ ky k ++ _ = _
    rw [List.nil_append]
    congr 1
theorem pcs_snoc (ky : V → List Int) (n : ByteArray) (k : V) : ∀ (ns : List ByteArray) (ks : List V), ns.length = ks.length → pcs ky (ns ++ [n]) (ks ++ [k]) = pcs ky ns ks ++ ((1 :: textK n.toList) ++ ky k)
  | [], [], _ => by simp [pcs]
  | a :: ns, b :: ks, h => by
    rw [List.cons_append, List.cons_append, pcs, pcs, pcs_snoc ky n k ns ks (by simpa using h)]; simp [List.append_assoc]
theorem kinv {m : Nat} {c : Int} {l2 r : List Int} {x : V} (hc : chk (m + 1) x = 0) (h : c :: l2 = keyV (m + 1) x ++ r) :
    (c = 16 ∧ x = .mk 1 0 0 noT [] [] ∧ l2 = r) ∨ (c = 32 ∧ ∃ n, (0 ≤ n ∧ n ≤ 1) ∧ x = .mk 2 n 0 noT [] [] ∧ l2 = n :: r) ∨
    (c = 48 ∧ ∃ n s, ((s = 0 ∧ x = .mk 3 n 0 noT [] []) ∨ ((1 ≤ s ∧ s ≤ 18 ∧ ¬ n.tmod 10 = 0) ∧ x = .mk 4 n s noT [] [])) ∧ l2 = numB n s ++ r) ∨
    (c = 64 ∧ ∃ n, (0 ≤ n ∧ n ≤ 9007199254740992) ∧ x = .mk 5 n 0 noT [] [] ∧ l2 = bigI n ++ r) ∨
    ((c = 80 ∨ c = 96) ∧ ∃ t, t.size ≤ 16384 ∧ x = .mk (c / 16 + 1) 0 0 t [] [] ∧ l2 = textK t.toList ++ r) ∨
    (c = 112 ∧ ∃ ks, x = .mk 8 0 0 noT [] ks ∧ l2 = ks.flatMap (keyV m) ++ 0 :: r ∧ ∀ y ∈ ks, chk m y = 0) ∨
    (c = 128 ∧ ∃ ns ks, ns.length = ks.length ∧ x = .mk 9 0 0 noT ns ks ∧ l2 = pcs (keyV m) ns ks ++ 0 :: r ∧ ∀ y ∈ ks, chk m y = 0) := by
  have hs := chk_shp hc; have h4 := (shp_form hs).2.2.2.1; have hkid : ∀ y ∈ x.kids, chk m y = 0 := fun y hy => by
    obtain ⟨j, hj, rfl⟩ := List.getElem_of_mem hy; have := chk_kid hc hj
    rwa [List.getD_eq_getElem?_getD, List.getElem?_eq_getElem hj, Option.getD_some] at this
  obtain ⟨-, hv⟩ | ⟨-, hv, hn⟩ | ⟨-, hv⟩ | ⟨hk4, hv, h1, h2⟩ | ⟨-, hv, hn⟩ | ⟨hk, hv, ht⟩ | ⟨-, hv, -⟩ | ⟨-, hv, -, hlen, -⟩ := shp_full hs
  · rw [hv] at h
    obtain ⟨rfl, rfl⟩ := List.cons.inj (show c :: l2 = 16 :: r from h); exact .inl ⟨rfl, hv, rfl⟩
  · rw [hv] at h
    obtain ⟨rfl, rfl⟩ := List.cons.inj (show c :: l2 = 32 :: (x.n :: r) from h); exact .inr (.inl ⟨rfl, _, hn, hv, rfl⟩)
  · rw [hv] at h
    obtain ⟨rfl, rfl⟩ := List.cons.inj (show c :: l2 = 48 :: (numB x.n 0 ++ r) from h); exact .inr (.inr (.inl ⟨rfl, _, _, .inl ⟨rfl, hv⟩, rfl⟩))
  · have h5 := (h4 hk4).2.2
    rw [hv] at h; obtain ⟨rfl, rfl⟩ := List.cons.inj (show c :: l2 = 48 :: (numB x.n x.s ++ r) from h); exact .inr (.inr (.inl ⟨rfl, _, _, .inr ⟨⟨h1, h2, h5⟩, hv⟩, rfl⟩))
  · rw [hv] at h
    obtain ⟨rfl, rfl⟩ := List.cons.inj (show c :: l2 = 64 :: (bigI x.n ++ r) from h); exact .inr (.inr (.inr (.inl ⟨rfl, _, hn, hv, rfl⟩)))
  · rcases hk with hk | hk
    · rw [hk] at hv
      rw [hv] at h; obtain ⟨rfl, rfl⟩ := List.cons.inj (show c :: l2 = 80 :: (textK x.t.toList ++ r) from h); exact .inr (.inr (.inr (.inr (.inl ⟨.inl rfl, _, ht, hv, rfl⟩))))
    · rw [hk] at hv
      rw [hv] at h; obtain ⟨rfl, rfl⟩ := List.cons.inj (show c :: l2 = 96 :: (textK x.t.toList ++ r) from h); exact .inr (.inr (.inr (.inr (.inl ⟨.inr rfl, _, ht, hv, rfl⟩))))
  · rw [hv] at h
    obtain ⟨rfl, h6⟩ := List.cons.inj (show c :: l2 = 112 :: (((List.range x.kids.length).flatMap (pieceK (keyV m) false [] x.kids) ++ [0]) ++ r) from h); rw [lst_eq, List.append_assoc] at h6; exact .inr (.inr (.inr (.inr (.inr (.inl ⟨rfl, _, hv, h6, hkid⟩)))))
  · rw [hv] at h
    obtain ⟨rfl, h6⟩ := List.cons.inj (show c :: l2 = 128 :: (((List.range x.kids.length).flatMap (pieceK (keyV m) true x.names x.kids) ++ [0]) ++ r) from h); rw [pcs_eq _ _ _ hlen, List.append_assoc] at h6; exact .inr (.inr (.inr (.inr (.inr (.inr ⟨rfl, _, _, hlen, hv, h6, hkid⟩)))))
theorem key_head {m : Nat} {x : V} (hc : chk m x = 0) : ∃ c t, keyV m x = c :: t ∧ c ≠ 0 := by
  cases m with
  | zero => cases hc
  | succ m =>
    refine ⟨_, _, rfl, ?_⟩; have := (shp_form (chk_shp hc)).1; unfold classI
    split
    · omega
    · split <;> omega
theorem keyV_leaf (m : Nat) (k n s : Int) (t : ByteArray) : (keyV m (.mk k n s t [] [])).length ≤ 23 + 2 * t.size := by
  cases m with
  | zero => simp [keyV]
  | succ m =>
    have h1 := numB_len n s; have h2 : (textK t.toList).length ≤ 2 * t.size + 2 := by
      have := textP_le t.toList; have : t.toList.length = t.size := by rw [ByteArray.toList_eq]; rfl
      simp [textK]; omega
    show (classI k :: (if k = 2 then [n] else if k = 3 ∨ k = 4 then numB n s else if k = 5 then bigI n else if k = 6 ∨ k = 7 then textK t.toList else if k = 8 ∨ k = 9 then [] ++ [0] else [])).length ≤ _
    rw [List.length_cons]
    repeat' split
    all_goals first | omega | (simp [bigI, shortI]; try omega)
structure KOut (m : Nat) (l : List Int) (bad : Bool) (v : V) (l' : List Int) (bad' : Bool) : Prop where
  wt : ∀ m', (keyV m' v).length + 64 * l'.length + (if bad' then 0 else 2) ≤ 64 * l.length + (if bad' then 1 else 0)
  ok : ∀ x r, bad = false → chk m x = 0 → Wr x → l = keyV m x ++ r → v = x ∧ l' = r ∧ bad' = false
section
variable {m : Nat} {l l' l2 li : List Int} {bad bad' b' bi : Bool} {v : V} {ks : List V} {ns : List ByteArray}
theorem KOut.len (h : KOut m l bad v l' bad') : l'.length ≤ l.length := by
  have := h.wt 0; cases bad' <;> simp at this <;> omega
theorem KOut.less (h : KOut m l bad v l' false) : l'.length < l.length := by
  have := h.wt 0; simp at this
  omega
theorem KOut.leaf {k n s : Int} {t : ByteArray} (h1 : t.size + l'.length + 1 ≤ l.length) (ok : ∀ x r, bad = false → chk m x = 0 → Wr x → l = keyV m x ++ r → V.mk k n s t [] [] = x ∧ l' = r ∧ bad' = false) : KOut m l bad (.mk k n s t [] []) l' bad' := by
  refine ⟨fun m' => ?_, ok⟩; have := keyV_leaf m' k n s t; cases bad' <;> simp <;> omega
theorem keyV_none (m : Nat) : (keyV m (.mk 0 0 0 noT [] [])).length ≤ 1 := by
  cases m with
  | zero => simp [keyV]
  | succ m => exact Nat.le_refl _
theorem KOut.none (h1 : l'.length ≤ l.length) (ok : ∀ x r, bad = false → chk m x = 0 → Wr x → l = keyV m x ++ r → False) : KOut m l bad (.mk 0 0 0 noT [] []) l' true := by
  refine ⟨fun m' => ?_, fun x r h2 h3 h4 h5 => (ok x r h2 h3 h4 h5).elim⟩; have := keyV_none m'; simp
  omega
theorem KOut.nil : KOut m [] bad (.mk 0 0 0 noT [] []) [] true :=
  .none (Nat.le_refl _) fun x r _ h2 _ h4 => by
    obtain ⟨c, t, h5, -⟩ := key_head h2; rw [h5] at h4; cases h4
theorem KOut.deep (h1 : l'.length ≤ l.length) : KOut 0 l bad (.mk 0 0 0 noT [] []) l' true := .none h1 fun x r _ h2 _ _ => by cases h2
theorem KOut.dead (h1 : l'.length ≤ l.length) : KOut m l true (.mk 0 0 0 noT [] []) l' true := .none h1 fun x r h0 _ _ _ => by cases h0

structure KL (m : Nat) (l2 : List Int) (bad : Bool) (ks : List V) (li : List Int) (bi : Bool) : Prop where
  wt : ∀ m', (ks.flatMap (keyV m')).length + 64 * li.length ≤ 64 * l2.length + (if bi then 1 else 0)
  ok : ∀ kk r, bad = false → (∀ y ∈ kk, chk m y = 0 ∧ Wr y) → l2 = kk.flatMap (keyV m) ++ 0 :: r → ∃ rest, kk = ks ++ rest ∧ li = rest.flatMap (keyV m) ++ 0 :: r ∧ bi = false
theorem KL.start : KL m l2 bad [] l2 bad := ⟨fun _ => by simp, fun kk _ h1 _ h3 => ⟨kk, rfl, h3, h1⟩⟩
theorem KL.step (h : KL m l2 bad ks li false) (h0 : nth li 0 ≠ 0) (hv : KOut m li false v l' b') : KL m l2 bad (ks ++ [v]) l' b' := by
  refine ⟨fun m' => ?_, fun kk r h1 h2 h3 => ?_⟩
  · have a1 := h.wt m'
    have a2 := hv.wt m'; simp only [List.flatMap_append, List.flatMap_cons, List.flatMap_nil, List.append_nil, List.length_append]; cases b' <;> simp at a1 a2 ⊢ <;> omega
  · obtain ⟨rest, rfl, h5, -⟩ := h.ok kk r h1 h2 h3
    cases rest with
    | nil => rw [h5] at h0; exact (h0 rfl).elim
    | cons y rest =>
      obtain ⟨y1, y2⟩ := h2 y (by simp); obtain ⟨rfl, rfl, rfl⟩ := hv.ok y (rest.flatMap (keyV m) ++ 0 :: r) rfl y1 y2 (by rw [h5, List.flatMap_cons, List.append_assoc]); exact ⟨rest, by simp, rfl, rfl⟩
theorem keyV_list (m : Nat) (ks : List V) : (keyV m (.mk 8 0 0 noT [] ks)).length ≤ (ks.flatMap (keyV (m - 1))).length + 2 := by
  cases m with
  | zero => simp [keyV]
  | succ m =>
    show (112 :: ((List.range ks.length).flatMap (pieceK (keyV m) false [] ks) ++ [0])).length ≤ _
    rw [lst_eq]; simp
theorem keyV_struct (m : Nat) (hl : ns.length = ks.length) : (keyV m (.mk 9 0 0 noT ns ks)).length ≤ (pcs (keyV (m - 1)) ns ks).length + 2 := by
  cases m with
  | zero => simp [keyV]
  | succ m =>
    show (128 :: ((List.range ks.length).flatMap (pieceK (keyV m) true ns ks) ++ [0])).length ≤ _
    rw [pcs_eq _ _ _ hl]; simp
theorem KL.done (h : KL m l2 bad ks li false) (h0 : nth li 0 = 0) : KOut (m + 1) (112 :: l2) bad (.mk 8 0 0 noT [] ks) (li.drop 1) li.isEmpty := by
  refine ⟨fun m' => ?_, fun x r h1 h2 h3 h4 => ?_⟩
  · have a1 := h.wt (m' - 1)
    have a2 := keyV_list m' ks; generalize (ks.flatMap (keyV (m' - 1))).length = A at a1 a2; cases li with
    | nil => simp at a1 ⊢; omega
    | cons a li => simp at a1 ⊢; omega
  · obtain ⟨e, -⟩ | ⟨e, -⟩ | ⟨e, -⟩ | ⟨e, -⟩ | ⟨e, -⟩ | ⟨-, kk, rfl, h6, h7⟩ | ⟨e, -⟩ := kinv h2 h4 <;> (first | omega | skip)
    obtain ⟨rest, rfl, rfl, -⟩ := h.ok kk r h1 (fun y hy => ⟨h7 y hy, h3.kid hy⟩) h6; cases rest with
    | nil => exact ⟨by simp, rfl, rfl⟩
    | cons y rest =>
      obtain ⟨c, t, h8, h9⟩ := key_head (h7 y (by simp)); rw [List.flatMap_cons, h8] at h0; exact (h9 h0).elim
theorem KL.stop (h : KL m l2 bad ks li true) (hl : l'.length ≤ li.length) : KOut (m + 1) (112 :: l2) bad (.mk 8 0 0 noT [] ks) l' true := by
  refine ⟨fun m' => ?_, fun x r h1 h2 h3 h4 => ?_⟩
  · have a1 := h.wt (m' - 1)
    have a2 := keyV_list m' ks; generalize (ks.flatMap (keyV (m' - 1))).length = A at a1 a2; simp at a1 ⊢; omega
  · obtain ⟨e, -⟩ | ⟨e, -⟩ | ⟨e, -⟩ | ⟨e, -⟩ | ⟨e, -⟩ | ⟨-, kk, rfl, h6, h7⟩ | ⟨e, -⟩ := kinv h2 h4 <;> (first | omega | skip)
    obtain ⟨_, _, _, h9⟩ := h.ok kk r h1 (fun y hy => ⟨h7 y hy, h3.kid hy⟩) h6; cases h9

structure PL (m : Nat) (l2 : List Int) (bad : Bool) (ns : List ByteArray) (ks : List V) (li : List Int) (bi : Bool) : Prop where
  len : ns.length = ks.length
  wt : ∀ m', (pcs (keyV m') ns ks).length + 64 * li.length ≤ 64 * l2.length + (if bi then 1 else 0)
  ok : ∀ nn kk r, nn.length = kk.length → bad = false → (∀ y ∈ kk, chk m y = 0 ∧ Wr y) → l2 = pcs (keyV m) nn kk ++ 0 :: r → ∃ rn rk, nn = ns ++ rn ∧ kk = ks ++ rk ∧ rn.length = rk.length ∧ li = pcs (keyV m) rn rk ++ 0 :: r ∧ bi = false
theorem PL.start : PL m l2 bad [] [] l2 bad := ⟨rfl, fun _ => by simp [pcs], fun nn kk _ hl h1 _ h3 => ⟨nn, kk, rfl, rfl, hl, h3, h1⟩⟩
theorem bytes_back (s : ByteArray) : strOfNums (s.toList.map fun c => (c.toNat : Int)) = s := by
  apply ByteArray.ext
  show ((s.toList.map fun c => (c.toNat : Int)).map fun n => UInt8.ofNat n.toNat).toArray = s.data
  rw [List.map_map]; have : ((fun n : Int => UInt8.ofNat n.toNat) ∘ fun c : UInt8 => (c.toNat : Int)) = id := by
    funext c
    simp
  rw [this, List.map_id, ByteArray.toList_eq]
theorem PL.step {c : Int} {li2 lt : List Int} {t : ByteArray} {bt : Bool} (h : PL m l2 bad ns ks (c :: li2) false) (h0 : c ≠ 0) (ht : t.size + lt.length ≤ li2.length)
    (htx : c = 1 → ∀ b r2, txR li2 [] = some (b, r2) → t = strOfNums b ∧ lt = r2 ∧ bt = false) (hv : KOut m lt bt v l' b') : PL m l2 bad (ns ++ [t]) (ks ++ [v]) l' b' := by
  refine ⟨by simp [h.len], fun m' => ?_, fun nn kk r hl h1 h2 h3 => ?_⟩
  · have a1 := h.wt m'
    have a2 := hv.wt m'; have a3 : (textK t.toList).length ≤ 2 * t.size + 2 := by
      have := textP_le t.toList; have : t.toList.length = t.size := by rw [ByteArray.toList_eq]; rfl
      simp [textK]; omega
    rw [pcs_snoc _ _ _ _ _ h.len]; simp only [List.length_append, List.length_cons] at a1 a2 ⊢; cases b' <;> simp at a1 a2 ⊢ <;> omega
  · obtain ⟨rn, rk, rfl, rfl, h5, h6, -⟩ := h.ok nn kk r hl h1 h2 h3
    cases rk with
    | nil =>
      obtain rfl : rn = [] := List.eq_nil_of_length_eq_zero h5; obtain ⟨e, -⟩ := List.cons.inj (show c :: li2 = 0 :: r from h6); exact (h0 e).elim
    | cons y rk =>
      cases rn with
      | nil => cases h5
      | cons n rn =>
        obtain ⟨y1, y2⟩ := h2 y (by simp); obtain ⟨rfl, h7⟩ := List.cons.inj (show c :: li2 = 1 :: (textK n.toList ++ (keyV m y ++ pcs (keyV m) rn rk) ++ 0 :: r) from h6); have h8 : txR li2 [] = some (n.toList.map fun c => (c.toNat : Int), keyV m y ++ (pcs (keyV m) rn rk ++ 0 :: r)) := by
          rw [h7, textK]; have := txR_enc n.toList [] (keyV m y ++ (pcs (keyV m) rn rk ++ 0 :: r))
          simpa [List.append_assoc] using this
        obtain ⟨rfl, rfl, rfl⟩ := htx rfl _ _ h8; obtain ⟨rfl, rfl, rfl⟩ := hv.ok y _ rfl y1 y2 rfl; exact ⟨rn, rk, by rw [bytes_back]; simp, by simp, by simpa using h5, rfl, rfl⟩
theorem PL.done (h : PL m l2 bad ns ks li false) (h0 : nth li 0 = 0) : KOut (m + 1) (128 :: l2) bad (.mk 9 0 0 noT ns ks) (li.drop 1) li.isEmpty := by
  refine ⟨fun m' => ?_, fun x r h1 h2 h3 h4 => ?_⟩
  · have a1 := h.wt (m' - 1)
    have a2 := keyV_struct m' h.len; cases li with
    | nil => simp at a1 ⊢; omega
    | cons a li => simp at a1 ⊢; omega
  · obtain ⟨e, -⟩ | ⟨e, -⟩ | ⟨e, -⟩ | ⟨e, -⟩ | ⟨e, -⟩ | ⟨e, -⟩ | ⟨-, nn, kk, hl, rfl, h6, h7⟩ := kinv h2 h4 <;> (first | omega | skip)
    obtain ⟨rn, rk, rfl, rfl, h5, rfl, -⟩ := h.ok nn kk r hl h1 (fun y hy => ⟨h7 y hy, h3.kid hy⟩) h6; cases rk with
    | nil =>
      obtain rfl : rn = [] := List.eq_nil_of_length_eq_zero h5; exact ⟨by simp, rfl, rfl⟩
    | cons y rk =>
      cases rn with
      | nil => cases h5
      | cons n rn => exact absurd (show (1 : Int) = 0 from h0) (by omega)
theorem PL.stop (h : PL m l2 bad ns ks li true) (hl : l'.length ≤ li.length) : KOut (m + 1) (128 :: l2) bad (.mk 9 0 0 noT ns ks) l' true := by
  refine ⟨fun m' => ?_, fun x r h1 h2 h3 h4 => ?_⟩
  · have a1 := h.wt (m' - 1)
    have a2 := keyV_struct m' h.len; simp at a1 ⊢; omega
  · obtain ⟨e, -⟩ | ⟨e, -⟩ | ⟨e, -⟩ | ⟨e, -⟩ | ⟨e, -⟩ | ⟨e, -⟩ | ⟨-, nn, kk, hl, rfl, h6, h7⟩ := kinv h2 h4 <;> (first | omega | skip)
    obtain ⟨_, _, _, _, _, _, h9⟩ := h.ok nn kk r hl h1 (fun y hy => ⟨h7 y hy, h3.kid hy⟩) h6; cases h9
structure TL (l0 : List Int) (ks : List V) (li : List Int) (bi : Bool) : Prop where
  wt : ∀ m', (ks.flatMap (keyV m')).length + 64 * li.length ≤ 64 * l0.length + (if bi then 1 else 0)
  ok : ∀ kk, (∀ y ∈ kk, chk 16 y = 0 ∧ Wr y) → l0 = kk.flatMap (keyV 16) → ∃ rest, kk = ks ++ rest ∧ li = rest.flatMap (keyV 16) ∧ bi = false
theorem TL.start {l0 : List Int} : TL l0 [] l0 false := ⟨fun _ => by simp, fun kk _ h3 => ⟨kk, rfl, h3, rfl⟩⟩
theorem TL.step {l0 : List Int} (h : TL l0 ks li false) (h0 : li ≠ []) (hv : KOut 16 li false v l' b') : TL l0 (ks ++ [v]) l' b' := by
  refine ⟨fun m' => ?_, fun kk h2 h3 => ?_⟩
  · have a1 := h.wt m'
    have a2 := hv.wt m'; simp only [List.flatMap_append, List.flatMap_cons, List.flatMap_nil, List.append_nil, List.length_append]; cases b' <;> simp at a1 a2 ⊢ <;> omega
  · obtain ⟨rest, rfl, h5, -⟩ := h.ok kk h2 h3
    cases rest with
    | nil => exact (h0 h5).elim
    | cons y rest =>
      obtain ⟨y1, y2⟩ := h2 y (by simp); obtain ⟨rfl, rfl, rfl⟩ := hv.ok y _ rfl y1 y2 h5; exact ⟨rest, by simp, rfl, rfl⟩
theorem TL.all {l0 : List Int} (h : TL l0 ks [] bi) {kk : List V} (h2 : ∀ y ∈ kk, chk 16 y = 0 ∧ Wr y) (h3 : l0 = kk.flatMap (keyV 16)) : kk = ks := by
  obtain ⟨rest, rfl, h5, -⟩ := h.ok kk h2 h3; cases rest with
  | nil => simp
  | cons y rest =>
    obtain ⟨c, t, h8, -⟩ := key_head (h2 y (by simp)).1; rw [List.flatMap_cons, h8] at h5; cases h5
theorem flat_count : ∀ ks : List V, ks.length ≤ (ks.flatMap (keyV 1)).length
  | [] => Nat.le_refl _
  | k :: ks => by
    have := flat_count ks; have h1 : 1 ≤ (keyV 1 k).length := Nat.le_add_left _ _; rw [List.flatMap_cons, List.length_append, List.length_cons]; omega
theorem pcs_count (ky : V → List Int) : ∀ (ns : List ByteArray) (ks : List V), ns.length = ks.length → ks.length ≤ (pcs ky ns ks).length
  | [], [], _ => Nat.le_refl _
  | n :: ns, k :: ks, h => by
    have := pcs_count ky ns ks (by simpa using h); rw [pcs]; simp only [List.length_append, List.length_cons]; omega
theorem KL.count (h : KL m l2 bad ks li bi) : ks.length ≤ 64 * l2.length + 1 := by
  have h1 := h.wt 1; have h2 := flat_count ks; generalize (ks.flatMap (keyV 1)).length = A at h1 h2; cases bi <;> simp at h1 <;> omega
theorem PL.count (h : PL m l2 bad ns ks li bi) : ks.length ≤ 64 * l2.length + 1 := by
  have h1 := h.wt 1; have h2 := pcs_count (keyV 1) ns ks h.len; generalize (pcs (keyV 1) ns ks).length = A at h1 h2; cases bi <;> simp at h1 <;> omega
theorem TL.count {l0 : List Int} (h : TL l0 ks li bi) : ks.length ≤ 64 * l0.length + 1 := by
  have h1 := h.wt 1; have h2 := flat_count ks; generalize (ks.flatMap (keyV 1)).length = A at h1 h2; cases bi <;> simp at h1 <;> omega
end
end K
end Go.Proofs.Ytfpakjbaiohcaaa

namespace Go.Proofs.Ytfpakjbaiohcaaa
namespace K
open Op (bytesLess)

end K
end Go.Proofs.Ytfpakjbaiohcaaa

namespace Go.Proofs.Ytfpakjbaiohcaaa
namespace K
def fv : Nat → List Nat → Nat
  | _, [] => 0
  | 0, _ :: _ => 0
  | W + 1, d :: D => d * 10 ^ W + fv W D
theorem digsF_low : ∀ (f u : Nat), u ≠ 0 → u < 10 ^ f → 1 ≤ (digsF f u).length ∧ 10 ^ (digsF f u).length ≤ 10 * u
  | 0, u, h, h2 => by simp at h2; omega
  | f + 1, u, h, h2 => by
    unfold digsF; rw [if_neg h, List.length_cons, Nat.pow_succ]
    by_cases e : u / 10 = 0
    · have : (digsF f (u / 10)).length = 0 := by rw [e]; cases f <;> simp [digsF]
      rw [this]; simp; omega
    · have := digsF_low f (u / 10) e (by rw [Nat.pow_succ] at h2; omega)
      omega
theorem posB_head (u : Nat) (s : Int) : posB (digs u) s = (((digs u).length : Int) - s + 192) % 256 :: (digB (digs u) ++ [0]) := rfl
theorem flipB_cons (x : Int) (l : List Int) : flipB (x :: l) = (255 - x) :: flipB l := rfl
end K
end Go.Proofs.Ytfpakjbaiohcaaa

namespace Go.Proofs.Ytfpakjbaiohcaaa
namespace K
def fl (tn c : Int) : Int := if tn = 0 then c else 255 - c
def valF (ds : List Int) : Nat := ds.foldl (fun u d => u * 10 + (d - 1).toNat) 0
theorem valF_snoc (ds : List Int) (d : Int) : valF (ds ++ [d]) = valF ds * 10 + (d - 1).toNat := by unfold valF; rw [List.foldl_append]; rfl
theorem valF_lt : ∀ (n : Nat) (ds : List Int), ds.length = n → (∀ d ∈ ds, 1 ≤ d ∧ d ≤ 10) → valF ds < 10 ^ n
  | 0, ds, h, _ => by rw [List.eq_nil_of_length_eq_zero h]; exact Nat.zero_lt_one
  | n + 1, ds, h, hd => by
    have hne : ds ≠ [] := fun e => by rw [e] at h; cases h
    have e := (List.dropLast_concat_getLast hne).symm; have h1 := hd _ (List.getLast_mem hne); have h2 := valF_lt n ds.dropLast (by rw [List.length_dropLast]; omega) fun d hd2 => hd d (List.dropLast_subset _ hd2); rw [e, valF_snoc, Nat.pow_succ]; omega
def NL (tn : Int) (l0 : List Int) (bad : Bool) (li : List Int) (bi : Bool) (u many : Nat) : Prop :=
  ∀ ds r, bad = false → (∀ d ∈ ds, 1 ≤ d ∧ d ≤ 10) → ds.length ≤ 19 → l0 = ds.map (fl tn) ++ tn :: r → ∃ d1 d2, ds = d1 ++ d2 ∧ li = d2.map (fl tn) ++ tn :: r ∧ bi = false ∧ u = valF d1 ∧ many = d1.length
def NE (tn : Int) (l0 : List Int) (bad : Bool) (li : List Int) (bi : Bool) (u many : Nat) : Prop :=
  ∀ ds r, bad = false → (∀ d ∈ ds, 1 ≤ d ∧ d ≤ 10) → ds.length ≤ 19 → l0 = ds.map (fl tn) ++ tn :: r → li = r ∧ bi = false ∧ u = valF ds ∧ many = ds.length
section
variable {tn : Int} {l0 li : List Int} {bad bi : Bool} {u many : Nat}
theorem NL.start : NL tn l0 bad l0 bad 0 0 := fun ds _ h1 _ _ h4 => ⟨[], ds, rfl, h4, h1, rfl, rfl⟩
theorem NL.dead (h : NL tn l0 bad li true u many) {l' : List Int} {b' : Bool} {u' m' : Nat} : NE tn l0 bad l' b' u' m' := fun ds r h1 h2 h3 h4 => by
  obtain ⟨_, _, _, _, h5, -⟩ := h ds r h1 h2 h3 h4; cases h5
theorem NL.done (h : NL tn l0 bad li false u many) (h0 : fl tn (nth li 0) = 0) : NE tn l0 bad (li.drop 1) li.isEmpty u many := fun ds r h1 h2 h3 h4 => by
  obtain ⟨d1, d2, rfl, h5, -, rfl, rfl⟩ := h ds r h1 h2 h3 h4; cases d2 with
  | nil =>
    rw [h5]; exact ⟨rfl, rfl, by rw [List.append_nil], by rw [List.append_nil]⟩
  | cons d d2 =>
    have := h2 d (by simp); rw [h5] at h0; have h0 : fl tn (fl tn d) = 0 := h0; unfold fl at h0
    split at h0 <;> omega
theorem NL.step (htn : tn = 0 ∨ tn = 255) (h : NL tn l0 bad li false u many) (h0 : fl tn (nth li 0) ≠ 0) {b' : Bool} {u' m' : Nat} (hb : li ≠ [] → fl tn (nth li 0) ≤ 10 → many ≤ 18 → u < 10 ^ 18 → b' = false)
    (hu : u < 10 ^ 18 → 1 ≤ fl tn (nth li 0) → fl tn (nth li 0) ≤ 10 → u' = u * 10 + (fl tn (nth li 0) - 1).toNat) (hm : m' = many + 1) : NL tn l0 bad (li.drop 1) b' u' m' := fun ds r h1 h2 h3 h4 => by
  obtain ⟨d1, d2, rfl, h5, -, h6, h7⟩ := h ds r h1 h2 h3 h4; cases d2 with
  | nil =>
    rw [h5] at h0; have h0 : fl tn tn ≠ 0 := h0; unfold fl at h0
    split at h0 <;> omega
  | cons d d2 =>
    have hd := h2 d (by simp); have hf : fl tn (nth li 0) = d := by
      rw [h5]
      show fl tn (fl tn d) = d
      unfold fl
      split <;> omega
    rw [hf] at hb hu; simp only [List.length_append, List.length_cons] at h3; have hv := valF_lt _ d1 rfl fun x hx => h2 x (by simp [hx]); have hp : 10 ^ d1.length ≤ 10 ^ 18 := Nat.pow_le_pow_right (by omega) (by omega); refine ⟨d1 ++ [d], d2, by simp, by rw [h5]; rfl, hb (by rw [h5]; simp) hd.2 (by omega) (by rw [h6]; omega), ?_, by simp [hm, h7]⟩; rw [valF_snoc, ← h6]; exact hu (by rw [h6]; omega) hd.1 hd.2
end
theorem digs_len {u : Nat} (h0 : u ≠ 0) (hu : u ≤ 9223372036854775808) : 1 ≤ (digs u).length ∧ (digs u).length ≤ 19 := by
  have h := digsF_low 20 u h0 (by omega); refine ⟨h.1, ?_⟩; rcases Nat.lt_or_ge 19 (digs u).length with h1 | h1
  · have h2 : 10 ^ 20 ≤ 10 ^ (digsF 20 u).length := Nat.pow_le_pow_right (by omega) h1
    omega
  · exact h1
theorem numB_inv {n s c : Int} {l2 r : List Int} (hn : -9223372036854775808 ≤ n ∧ n ≤ 9223372036854775807) (hs : 0 ≤ s ∧ s ≤ 18) (h : c :: l2 = numB n s ++ r) :
    (n = 0 ∧ c = 128 ∧ l2 = r) ∨ (¬ n = 0 ∧ ¬ c = 128 ∧ ∃ tn, tn = (if c < 128 then (255 : Int) else 0) ∧ (n < 0 ↔ c < 128) ∧ fl tn c = 192 + (digs n.natAbs).length - s ∧ l2 = (digB (digs n.natAbs)).map (fl tn) ++ tn :: r) := by
  by_cases h0 : n = 0
  · subst h0
    obtain ⟨rfl, rfl⟩ := List.cons.inj (show c :: l2 = 128 :: r from h); exact .inl ⟨rfl, rfl, rfl⟩
  · right
    have hl := digs_len (u := n.natAbs) (by omega) (by omega); unfold numB at h; rw [if_neg h0] at h
    by_cases hneg : n < 0
    · rw [if_pos hneg, posB_head, flipB_cons, List.cons_append] at h
      obtain ⟨rfl, h2⟩ := List.cons.inj h; refine ⟨h0, by omega, 255, by rw [if_pos (by omega)], by omega, by unfold fl; rw [if_neg (by omega)]; omega, ?_⟩; rw [h2, flipB, List.map_append, List.append_assoc]
      rfl
    · rw [if_neg hneg, posB_head, List.cons_append] at h
      obtain ⟨rfl, h2⟩ := List.cons.inj h; refine ⟨h0, by omega, 0, by rw [if_neg (by omega)], by omega, by unfold fl; rw [if_pos rfl]; omega, ?_⟩; rw [h2, List.append_assoc]; have : (digB (digs n.natAbs)).map (fl 0) = digB (digs n.natAbs) := by
        have : fl 0 = id := by funext c; exact if_pos rfl
        rw [this, List.map_id]
      rw [this]
      rfl
theorem digB_len (u : Nat) : (digB (digs u)).length ≤ (digs u).length := by
  have := nzs_len (digs u)
  simpa [digB] using this
theorem digB_full {u : Nat} (h : ¬ u % 10 = 0) : (digB (digs u)).length = (digs u).length := by
  have h1 : digs u = u % 10 :: digsF 19 (u / 10) := by
    show digsF (19 + 1) u = _
    unfold digsF; rw [if_neg (by omega)]
    rfl
  unfold digB; rw [h1, nzs, if_neg h]; simp
def ML (u : Nat) (sc0 : Int) (bad : Bool) (n : Nat) (sc : Int) (bi : Bool) : Prop :=
  ∀ U : Nat, bad = false → u * 10 ^ (-sc0).toNat = U → U ≤ 9223372036854775808 → bi = false ∧ n * 10 ^ (-sc).toNat = U ∧ sc.toNat = sc0.toNat
section
variable {u n : Nat} {sc0 sc : Int} {bad bi : Bool}
theorem ML.start : ML u sc0 bad u sc0 bad := fun _ h1 h2 _ => ⟨h1, h2, rfl⟩
theorem ML.step (h : ML u sc0 bad n sc false) (hsc : sc < 0) {b' : Bool} {n' : Nat} (hn : 10 * n ≤ 9223372036854775808 → b' = false ∧ n' = n * 10) : ML u sc0 bad n' (sc + 1) b' := fun U h1 h2 h3 => by
  obtain ⟨-, h4, h5⟩ := h U h1 h2 h3; have e : (-sc).toNat = (-(sc + 1)).toNat + 1 := by omega
  rw [e, Nat.pow_succ] at h4; have hp : 1 ≤ 10 ^ (-(sc + 1)).toNat := Nat.one_le_pow _ _ (by omega); have h6 : 10 * n ≤ U := by
    rw [← h4]
    calc 10 * n = n * (1 * 10) := by omega
      _ ≤ n * (10 ^ (-(sc + 1)).toNat * 10) := Nat.mul_le_mul_left _ (Nat.mul_le_mul_right _ hp)
  obtain ⟨rfl, rfl⟩ := hn (by omega); refine ⟨rfl, ?_, by omega⟩; rw [← h4, Nat.mul_assoc, Nat.mul_comm 10]
theorem ML.ten (h : ML u sc0 bad n sc false) (hsc : sc < 0) {U : Nat} (h1 : bad = false) (h2 : u * 10 ^ (-sc0).toNat = U) (h3 : U ≤ 9223372036854775808) : 10 * n ≤ U := by
  obtain ⟨-, h4, h5⟩ := h U h1 h2 h3; have e : (-sc).toNat = (-(sc + 1)).toNat + 1 := by omega
  rw [e, Nat.pow_succ] at h4; have hp : 1 ≤ 10 ^ (-(sc + 1)).toNat := Nat.one_le_pow _ _ (by omega); rw [← h4]
  calc 10 * n = n * (1 * 10) := by omega
    _ ≤ n * (10 ^ (-(sc + 1)).toNat * 10) := Nat.mul_le_mul_left _ (Nat.mul_le_mul_right _ hp)
end
structure NumOut (l : List Int) (bad : Bool) (k n s : Int) (l' : List Int) (bad' : Bool) : Prop where
  len : l'.length ≤ l.length
  ok : ∀ n0 s0 r, bad = false → (-9223372036854775808 ≤ n0 ∧ n0 ≤ 9223372036854775807) → (s0 = 0 ∨ (1 ≤ s0 ∧ s0 ≤ 18 ∧ ¬ n0.tmod 10 = 0)) → l = numB n0 s0 ++ r → k = (if s0 = 0 then 3 else 4) ∧ n = n0 ∧ s = s0 ∧ l' = r ∧ bad' = false
theorem num_ok {l2 r : List Int} {n0 s0 c tn e : Int} {u many : Nat} {l' : List Int} {bi : Bool} (hn : -9223372036854775808 ≤ n0 ∧ n0 ≤ 9223372036854775807) (hn0 : ¬ n0 = 0) (hs : s0 = 0 ∨ (1 ≤ s0 ∧ s0 ≤ 18 ∧ ¬ n0.tmod 10 = 0))
    (hf : fl tn c = 192 + (digs n0.natAbs).length - s0) (he : e = fl tn c - 192) (h2 : l2 = (digB (digs n0.natAbs)).map (fl tn) ++ tn :: r) (hne : NE tn l2 false l' bi u many) :
    l' = r ∧ bi = false ∧ u * 10 ^ (-((many : Int) - e)).toNat = n0.natAbs ∧ ((many : Int) - e).toNat = s0 := by
  have hd := digs_len (u := n0.natAbs) (by omega) (by omega); have hb := digB_len n0.natAbs; obtain ⟨rfl, rfl, rfl, rfl⟩ := hne _ r rfl (digB_range n0.natAbs) (by omega) h2; have hv := digB_val n0.natAbs (by omega); refine ⟨rfl, rfl, ?_, ?_⟩
  · rcases hs with rfl | ⟨h1, h3, h4⟩
    · rw [show (-(((digB (digs n0.natAbs)).length : Int) - e)).toNat = (digs n0.natAbs).length - (digB (digs n0.natAbs)).length by omega]
      exact hv
    · have hfull := digB_full (u := n0.natAbs) (by have : (n0.tmod 10).natAbs = n0.natAbs % 10 := Int.natAbs_tmod n0 10; omega)
      rw [hfull, Nat.sub_self, Nat.pow_zero, Nat.mul_one] at hv; rw [show (-(((digB (digs n0.natAbs)).length : Int) - e)).toNat = 0 by omega, Nat.pow_zero, Nat.mul_one]; exact hv
  · rcases hs with rfl | ⟨h1, h3, h4⟩
    · omega
    · have hfull := digB_full (u := n0.natAbs) (by have : (n0.tmod 10).natAbs = n0.natAbs % 10 := Int.natAbs_tmod n0 10; omega)
      omega
end K
end Go.Proofs.Ytfpakjbaiohcaaa

namespace Go.Proofs.Ytfpakjbaiohcaaa
open Go.RowKit

def RowV (w : World) (b o : Nat) (l : List Value) : Prop := ∀ j, j < l.length → w.cell? ⟨b, o + j, none⟩ = some (l.getD j undef)
theorem RowV.of_vblk {T : TypeId} {w : World} {b : Nat} {l : List Value} (h : VBlk T w b l) : RowV w b 0 l := fun j hj => by rw [Nat.zero_add]; exact h.cell j hj

def Ones (l : List Value) : Prop := ∀ u ∈ l, u.oneCell' = true
theorem Ones.append {l l' : List Value} (h : Ones l) (h' : Ones l') : Ones (l ++ l') := fun u hu => (List.mem_append.1 hu).elim (h u) (h' u)
theorem Ones.int (k : IntKind) (l : List Int) : Ones (l.map (Value.int k)) := fun u hu => by obtain ⟨_, _, rfl⟩ := List.mem_map.1 hu; rfl

def SlV (w : World) (O : Nat → Prop) (m : Nat) (v : Value) (n : Nat) (l : List Value) : Prop :=
  l.length = n * m ∧ Ones l ∧ ∃ sp cap, v = .slice sp n cap ∧ n ≤ cap ∧ cap ≤ 9223372036854775807 ∧ (sp = none → cap = 0) ∧ (0 < n → ∃ b o, sp = some ⟨b, o, none⟩ ∧ b < w.heap.size ∧ O b ∧ RowV w b o l)

def OwnV (e : TypeId) (m : Nat) (w : World) (O : Nat → Prop) (v : Value) (n : Nat) (l : List Value) : Prop :=
  w.ownsRow 0 e m v n l ∧ Ones l ∧ ∀ g, v.ownBlock = some g → O g

theorem OwnV.nil (e : TypeId) (m : Nat) (w : World) (O : Nat → Prop) : OwnV e m w O (.slice none 0 0) 0 [] := ⟨World.ownsRow_nil _ _ _ _, fun _ h => (List.not_mem_nil h).elim, fun g h => by cases h⟩
theorem OwnV.form {e : TypeId} {m : Nat} {w : World} {O : Nat → Prop} {v : Value} {n : Nat} {l : List Value} (h : OwnV e m w O v n l) :
    (v = .slice none 0 0 ∧ n = 0 ∧ l = []) ∨ ∃ g cap cur, v = .slice (some ⟨g, 0, none⟩) n cap ∧ O g ∧ g < w.heap.size ∧ w.heap[g]? = some (.cells cur e (0, 0)) ∧ n ≤ cap ∧ cap ≤ maxLen ∧ cur.size = cap * m ∧ cur.toList.take (n * m) = l := by
  obtain ⟨⟨h1, h2⟩, -, h3⟩ := h; rcases h2 with ⟨rfl, rfl⟩ | ⟨g, cap, cur, rfl, -, hg, h4, h5, h6, h7⟩
  · exact .inl ⟨rfl, rfl, List.eq_nil_of_length_eq_zero (by simpa using h1)⟩
  · exact .inr ⟨g, cap, cur, rfl, h3 g rfl, lt_of_block hg, hg, h4, h5, h6, h7⟩
theorem OwnV.slV {e : TypeId} {m : Nat} {w : World} {O : Nat → Prop} {v : Value} {n : Nat} {l : List Value} (h : OwnV e m w O v n l) : SlV w O m v n l := by
  refine ⟨h.1.1, h.2.1, ?_⟩; have hc := h; rcases h.form with ⟨rfl, rfl, rfl⟩ | ⟨g, cap, cur, rfl, hO, hlt, hg, h4, h5, h6, h7⟩
  · exact ⟨none, 0, rfl, by omega, by omega, fun _ => rfl, fun h => by omega⟩
  · refine ⟨_, cap, rfl, h4, h5, (fun h => by cases h), fun _ => ⟨g, 0, rfl, hlt, hO, fun j hj => ?_⟩⟩
    rw [Nat.zero_add]; have := World.ownsRow.cellAt hc.1 j (by rw [← hc.1.1]; exact hj); rw [this]; simp [hj]
theorem OwnV.slice {e : TypeId} {m : Nat} {w : World} {O : Nat → Prop} {v : Value} {n : Nat} {l : List Value} (h : OwnV e m w O v n l) : ∃ sp cap, v = .slice sp n cap ∧ n ≤ cap ∧ cap ≤ 9223372036854775807 := by
  rcases h.form with ⟨rfl, rfl, -⟩ | ⟨g, cap, cur, rfl, -, -, -, h4, h5, -⟩
  · exact ⟨none, 0, rfl, by omega, by omega⟩
  · exact ⟨_, _, rfl, h4, by unfold maxLen at h5; exact h5⟩

theorem OwnV.of_block {e : TypeId} {m : Nat} {w w' : World} {O : Nat → Prop} {v : Value} {n : Nat} {l : List Value} (h : OwnV e m w O v n l) (hb : ∀ g, v.ownBlock = some g → w'.heap[g]? = w.heap[g]?) : OwnV e m w' O v n l := by
  refine ⟨⟨h.1.1, ?_⟩, h.2⟩; rcases h.1.2 with hn | ⟨g, cap, cur, rfl, hb', hg, r⟩
  · exact .inl hn
  · exact .inr ⟨g, cap, cur, rfl, hb', by rw [hb g rfl]; exact hg, r⟩
theorem OwnV.lt {e : TypeId} {m : Nat} {w : World} {O : Nat → Prop} {v : Value} {n : Nat} {l : List Value} (h : OwnV e m w O v n l) {g : Nat} (hg : v.ownBlock = some g) : g < w.heap.size := (World.ownsRow.lt h.1 g hg).2
theorem OwnV.own {e : TypeId} {m : Nat} {w : World} {O : Nat → Prop} {v : Value} {n : Nat} {l : List Value} (h : OwnV e m w O v n l) {g : Nat} (hg : v.ownBlock = some g) : O g := h.2.2 g hg
theorem OwnV.keep {e : TypeId} {m : Nat} {w w' : World} {O : Nat → Prop} {v : Value} {n : Nat} {l : List Value} (h : OwnV e m w O v n l) {K : Nat → Prop} (hk : Keep K w w') (hK : ∀ g, v.ownBlock = some g → K g) : OwnV e m w' O v n l :=
  h.of_block fun g hg => hk.block g (hK g hg)
theorem OwnV.mono {e : TypeId} {m : Nat} {w : World} {O O' : Nat → Prop} {v : Value} {n : Nat} {l : List Value} (h : OwnV e m w O v n l) (hO : ∀ b, O b → O' b) : OwnV e m w O' v n l := ⟨h.1, h.2.1, fun g hg => hO g (h.2.2 g hg)⟩
theorem OwnV.stored {e : TypeId} {m : Nat} {w : World} {O : Nat → Prop} {g n cap : Nat} {l : List Value} (h : OwnV e m w O (.slice (some ⟨g, 0, none⟩) n cap) n l) (j : Nat) {u : Value} (hu : u.oneCell' = true) :
    OwnV e m (w.setCell ⟨g, j, none⟩ u) O (.slice (some ⟨g, 0, none⟩) n cap) n (l.set j u) :=
  ⟨(World.ownsRow.stored h.1 j u).1, fun x hx => by
    rcases List.mem_or_eq_of_mem_set hx with h1 | rfl
    · exact h.2.1 x h1
    · exact hu, h.2.2⟩
theorem OwnV.free {e : TypeId} {m : Nat} {w : World} {O : Nat → Prop} {g n cap : Nat} {l : List Value} (h : OwnV e m w O (.slice (some ⟨g, 0, none⟩) n cap) n l) (j : Nat) : w.frozen? ⟨g, j, none⟩ = false := World.ownsRow.frozenAt h.1 j
theorem OwnV.at {e : TypeId} {m : Nat} {w : World} {O : Nat → Prop} {g n cap : Nat} {l : List Value} (h : OwnV e m w O (.slice (some ⟨g, 0, none⟩) n cap) n l) (j : Nat) (hj : j < l.length) : w.cell? ⟨g, j, none⟩ = some (l.getD j undef) := by
  rw [World.ownsRow.cellAt h.1 j (by rw [← h.1.1]; exact hj)]; simp [hj]

structure ElemV (P : Program) (t e : TypeId) (m bytes : Nat) : Prop where
  ht : P.underlying t = some (.slice e)
  pos : 0 < m
  ex : ∃ i z, P.info? e = some i ∧ i.zero = some z ∧ i.size = m ∧ i.bytes = bytes ∧ z.cells.size = m
theorem ElemV.mk' {P : Program} {t e : TypeId} {m bytes : Nat} {z : Value} (ht : P.underlying t = some (.slice e)) (hi : (P.info? e).map (fun i => (i.zero, i.size, i.bytes)) = some (some z, m, bytes)) (hz : z.cells.size = m) (hp : 0 < m) : ElemV P t e m bytes :=
  ⟨ht, hp, let ⟨i, h1, h2, h3, h4⟩ := info_parts hi; ⟨i, _, h1, h2, h3, h4, hz⟩⟩

theorem grown_keep {w w' : World} {r : Option Nat} (hg : w.grownBy w' r) : Keep (fun b => b < w.heap.size ∧ r ≠ some b) w w' :=
  ⟨hg.os, hg.tape, hg.output, hg.size, fun k hk => hg.block k hk.1 (fun e => hk.2 e.symm)⟩

theorem SlV.news {w : World} {O : Nat → Prop} {m n : Nat} {v : Value} {l : List Value} (h : SlV w O m v n l) :
    (v = .slice none 0 0 ∧ n = 0 ∧ l = []) ∨ ∃ ad cap, v = .slice (some ad) n cap ∧ n ≤ cap ∧ ∀ j u, l[j]? = some u → w.cell? (ad.add j) = some u := by
  obtain ⟨h1, h2, sp, cap, h3, h4, h5, h6, h7⟩ := h; cases hsp : sp with
  | none =>
    have := h6 hsp; have hn : n = 0 := by omega
    subst hn; exact .inl ⟨by rw [h3, hsp, this], rfl, List.eq_nil_of_length_eq_zero (by simpa using h1)⟩
  | some ad =>
    refine .inr ⟨ad, cap, by rw [h3, hsp], h4, fun j u hu => ?_⟩; have hj : j < l.length := by
      rcases Nat.lt_or_ge j l.length with h | h
      · exact h
      · simp [h] at hu
    have hn : 0 < n := by
      rcases Nat.eq_zero_or_pos n with h0 | h0
      · subst h0; simp at h1; rw [h1] at hj; cases hj
      · exact h0
    obtain ⟨b, o, e, -, -, hr⟩ := h7 hn; rw [hsp] at e; cases e
    rw [addr_add, hr j hj]
    simpa [hj] using hu

theorem run_appV {P : Program} {w : World} {t ty e : TypeId} {m bytes : Nat} (E : ElemV P t e m bytes) {O O2 : Nat → Prop} {v : Value} {n : Nat} {l : List Value} (hown : OwnV e m w O v n l)
    {x : Value} {n2 : Nat} {l2 : List Value} (hx : SlV w O2 m x n2 l2) (h63 : n + n2 ≤ maxLen) (hby : (n + n2) * bytes ≤ 140737488355328) :
    ∃ v' w', (Builtin.append_ #[t, t] ty #[v, x]).run P w = .ok v' w' ∧ OwnV e m w' (fun g => O g ∨ g = w.heap.size) v' (n + n2) (l ++ l2) ∧ w.grownBy w' v.ownBlock ∧ (∀ g, v'.ownBlock = some g → v.ownBlock = some g ∨ g = w.heap.size) := by
  obtain ⟨i, z, hi, hz, hz1, hz2, hz3⟩ := E.ex; rcases hx.news with ⟨rfl, rfl, rfl⟩ | ⟨ad, cap, rfl, hc, hn⟩
  · refine ⟨v, w, run_append_owned_none (P := P) (w := w) 0 t ty e i m E.ht hi v n _ hown.1, ?_, World.grownBy.refl _ _, fun g hg => .inl hg⟩
    rw [List.append_nil]; exact hown.mono (fun _ h => .inl h)
  · rcases Nat.eq_zero_or_pos n2 with h0 | h0
    · subst h0
      have hl2 : l2 = [] := List.eq_nil_of_length_eq_zero (by simpa using hx.1); subst hl2; obtain ⟨v', w', hr, h2, h3, h4, h5⟩ := run_append_own_at (P := P) w 0 t ty e i z m bytes E.ht hi hz hz1 hz2 hz3 E.pos v n l hown.1 ad 0 cap [] (by simp) (by simp) (by simp) h63 hby (Nat.zero_le _); have h6 : ∀ g, v'.ownBlock = some g → v.ownBlock = some g ∨ g = w.heap.size := by
        intro g hg; rcases h5 with h5 | h5
        · exact .inl (by rw [← h5]; exact hg)
        · rw [h5] at hg; cases hg; exact .inr rfl
      exact ⟨v', w', hr, ⟨h2, hown.2.1.append hx.2.1, fun g hg => (h6 g hg).imp (hown.2.2 g) id⟩, h3, h6⟩
    · obtain ⟨g, c, w', hr, h2, h3, h4, h5⟩ := run_append_lies (P := P) w t ty 0 e i z m bytes E.ht hi hz hz1 hz2 hz3 E.pos v n l hown.1 ad n2 cap l2 hx.1 hn hx.2.1 h0 h63 hby (Nat.zero_le _) w.heap.size rfl
      have h6 : ∀ g', (Value.slice (some ⟨g, 0, none⟩) (n + n2) c).ownBlock = some g' → v.ownBlock = some g' ∨ g' = w.heap.size := by
        intro g' hg; cases hg; exact h4
      exact ⟨_, w', hr, ⟨h2, hown.2.1.append hx.2.1, fun g hg => (h6 g hg).imp (hown.2.2 g) id⟩, h3, h6⟩

theorem wp_appV {P : Program} {w : World} {o : Oper} {a : Act} {K : Act → World → Prop} {Q : Exit → Act → World → Prop} (s x : Operand) (t : TypeId)
    (ho : o.op = .call { callee := .builtin .append, args := #[s, x], argTypes := #[t, t] }) {e : TypeId} {m bytes : Nat} (E : ElemV P t e m bytes) {O O2 : Nat → Prop} {v : Value} {n : Nat} {l : List Value} (hs : a.eval s = v) (hown : OwnV e m w O v n l)
    {xv : Value} {n2 : Nat} {l2 : List Value} (hx : a.eval x = xv) (hsl : SlV w O2 m xv n2 l2) {n' : Nat} (hn : n + n2 = n') (h63 : n' ≤ maxLen) (hby : n' * bytes ≤ 140737488355328)
    (h : ∀ sp c w', OwnV e m w' (fun g => O g ∨ g = w.heap.size) (.slice sp n' c) n' (l ++ l2) → w.grownBy w' v.ownBlock → (∀ g, (Value.slice sp n' c).ownBlock = some g → v.ownBlock = some g ∨ g = w.heap.size) → K (a.put o.dst (.slice sp n' c)) w') : o.wp P a w K Q := by
  subst hn; obtain ⟨v', w', hr, h2, h3, h4⟩ := run_appV (P := P) (ty := o.type) E hown hsl h63 hby; have hv : ∃ sp c, v' = .slice sp (n + n2) c := by
    rcases h2.form with ⟨rfl, h0, -⟩ | ⟨g, cap, cur, rfl, -⟩
    · exact ⟨none, 0, by rw [h0]⟩
    · exact ⟨_, _, rfl⟩
  obtain ⟨sp, c, rfl⟩ := hv; unfold Oper.wp execOp; simp only [ho, resolve, invoke, builtin, Sem.run_bind, Sem.run_pure, Result.andThen_ok, List.map_toArray, List.map_cons, List.map_nil, hs, hx, hr]; exact h sp c w' h2 h3 h4

theorem wpList_appV {P : Program} {w : World} {ops : Array Oper} {rest : List Oper} {o : Oper} {a : Act} {Q : Exit → Act → World → Prop} (hgd : o.guard = none) (s x : Operand) (t : TypeId)
    (ho : o.op = .call { callee := .builtin .append, args := #[s, x], argTypes := #[t, t] }) {e : TypeId} {m bytes : Nat} (E : ElemV P t e m bytes) {O O2 : Nat → Prop} {v : Value} {n : Nat} {l : List Value} (hs : a.eval s = v) (hown : OwnV e m w O v n l)
    {xv : Value} {n2 : Nat} {l2 : List Value} (hx : a.eval x = xv) (hsl : SlV w O2 m xv n2 l2) {n' : Nat} (hn : n + n2 = n') (h63 : n' ≤ maxLen) (hby : n' * bytes ≤ 140737488355328)
    (h : ∀ sp c w', OwnV e m w' (fun g => O g ∨ g = w.heap.size) (.slice sp n' c) n' (l ++ l2) → w.grownBy w' v.ownBlock → (∀ g, (Value.slice sp n' c).ownBlock = some g → v.ownBlock = some g ∨ g = w.heap.size) → wpList P ops Q rest (a.put o.dst (.slice sp n' c)) w') : wpList P ops Q (o :: rest) a w :=
  wpList_plain hgd fun _ hK => wp_appV s x t ho E hs hown hx hsl hn h63 hby fun sp c w' h2 h3 h4 => hK _ _ (h sp c w' h2 h3 h4)

theorem belowN {B : Nat} {w w' : World} (h : Below B w w') (n : Nat) : Below B w (w'.drewN n) := ((Keep.of_below h).drewN n).below

end Go.Proofs.Ytfpakjbaiohcaaa

namespace Go.Proofs.Ytfpakjbaiohcaaa
open Go.RowKit BigFrame

end Go.Proofs.Ytfpakjbaiohcaaa

namespace Go.Proofs.Ytfpakjbaiohcaaa
open Go.RowKit
namespace Ld

theorem load_on {P : Program} {ops : Array Oper} {rest : List Oper} {o : Oper} {a : Act} {w : World} {Q : Exit → Act → World → Prop} (hw : Region.wanted o (yielded ops a.tmps) = true) (ty : TypeId) (x : Operand) (ho : o.op = .load ty x)
    (g : Nat) (hx : a.eval x = .pointer (some ⟨g, 0, none⟩)) (t : TypeId) (cs : Array Value) (fr : Nat × Nat) (d : TypeDesc) (hg : w.heap[g]? = some (.cells cs t fr))
    (hu : P.underlying ty = some d) (hd : (match d with | .struct _ | .array _ _ => true | _ => false) = true) (hi : (P.info? ty).map (·.size) = some cs.size)
    (h : wpList P ops Q rest (a.put o.dst (.agg cs)) w) : wpList P ops Q (o :: rest) a w :=
  wpList_step fun _ hK => by rw [if_pos hw]; exact wp_load_row ty x ho g hx t cs fr d hg hu hd hi (hK _ _ h)
end Ld
end Go.Proofs.Ytfpakjbaiohcaaa

namespace Go.Proofs.Ytfpakjbaiohcaaa
open Go.RowKit
namespace K

def FF (r : Option Nat) : Fence := { Fence.wide with round := r }
def cw (md : Option (Option Nat)) (P : Program) (c : Code) (Q : Exit → Act → World → Prop) (a : Act) (w : World) : Prop :=
  match md with
  | none => c.wp P Q a w
  | some r => c.wpIn (FF r) 1 P Q a w
def lw (md : Option (Option Nat)) (P : Program) (ops : Array Oper) (Q : Exit → Act → World → Prop) (rest : List Oper) (a : Act) (w : World) : Prop :=
  match md with
  | none => wpList P ops Q rest a w
  | some r => wpListIn (FF r) 1 P ops Q rest a w
section
variable {md : Option (Option Nat)} {P : Program} {Q Q' : Exit → Act → World → Prop} {a : Act} {w w' : World} {ops : Array Oper} {rest : List Oper} {o : Oper} {K K' : Act → World → Prop} {r : Option Nat}

theorem cw_mono {c : Code} (hq : ∀ e a w, Q e a w → Q' e a w) (h : cw md P c Q a w) : cw md P c Q' a w := by
  cases md with
  | none => exact Code.wp_mono hq h
  | some r => exact Go.wpIn_mono h hq
theorem cw_seq {x y : Code} (h : cw md P x (Exit.then (cw md P y Q) Q) a w) : cw md P (.seq x y) Q a w := by
  cases md with
  | none => exact wp_seq h
  | some r => exact wpIn_seq h
theorem cw_block {id : Nat} {c : Code} (h : cw md P c (Exit.inBlock id Q) a w) : cw md P (.block id c) Q a w := by
  cases md with
  | none => exact wp_block h
  | some r => exact wpIn_block h
theorem cw_skip (h : Q .normal a w) : cw md P .skip Q a w := by
  cases md with
  | none => exact wp_skip h
  | some r => exact wpIn_skip h
theorem cw_exit {id : Nat} (h : Q (.exit id) a w) : cw md P (.exit id) Q a w := by
  cases md with
  | none => exact wp_exit h
  | some r => exact wpIn_exit h
theorem cw_ret (h : Q .ret a w) : cw md P .ret Q a w := by
  cases md with
  | none => exact wp_ret h
  | some r => exact wpIn_ret h
theorem cw_region {id : Nat} {l : List Oper} (h : lw md P l.toArray Q l a w) : cw md P (.region id l.toArray false) Q a w := by
  cases md with
  | none => exact wp_region_lit h
  | some r => exact wpIn_region_lit h
theorem cw_cond {c : Operand} {x y : Code} {t : Bool} (hc : a.eval c = .bool t) (ht : t = true → cw md P x Q a w) (hf : t = false → cw md P y Q a w) : cw md P (.cond c x y) Q a w := by
  cases md with
  | none => exact wp_cond_split hc ht hf
  | some r => exact wpIn_cond_split hc ht hf
theorem cw_loop {c : Code} (I : Nat → Act → World → Prop) (n₀ : Nat) (h₀ : I n₀ a w)
    (round : ∀ n a w, I n a w → cw md P c (Exit.then (fun a' w' => ∃ n', n' < n ∧ I n' a' w') Q) a w) : cw md P (.loop c) Q a w := by
  cases md with
  | none => exact wp_loop_ghost I n₀ h₀ round
  | some r => exact wpIn_loop_ghost I n₀ h₀ round
theorem lw_nil {P : Program} (h : Q .normal a w) : lw md P ops Q [] a w := by
  cases md with
  | none => exact h
  | some r => exact h
theorem not_defer {v : Next} (hv : ∀ d, v ≠ .defer d) (hr : (execOp a.eval o).run P w = .ok v w') : ∀ c, o.op ≠ .defer c := by
  intro c hc; unfold execOp at hr; rw [hc] at hr; simp only [Sem.run_bind] at hr; cases h : (resolve a.eval c o.type).run P w with
  | ok d w2 => rw [h] at hr; simp at hr; exact hv _ hr.1.symm
  | halt x w2 => rw [h] at hr; cases hr
theorem semAt_run {v : Next} (hv : ∀ d, v ≠ .defer d) (hr : (execOp a.eval o).run P w = .ok v w') : (o.semAt r a.eval).run P w = .ok v w' := by
  rw [Oper.semAt_eq r a.eval o (not_defer hv hr)]; exact hr
theorem lw_value {v : Value} (hg : o.guard = none) (hr : (execOp a.eval o).run P w = .ok (.value v) w') (h : lw md P ops Q rest (a.put o.dst v) w') : lw md P ops Q (o :: rest) a w := by
  cases md with
  | none => exact wpList_plain hg fun K hK => by unfold Oper.wp; rw [hr, Oper.upon_value]; exact hK _ _ h
  | some r => exact wpListIn_plain hg fun K hK => ⟨fun _ _ => trivial, by show o.uponIn (FF r) 1 P a K Q ((o.semAt r a.eval).run P w); rw [semAt_run (by intro d hd; cases hd) hr, Oper.uponIn_value]; exact hK _ _ h⟩
theorem lw_skip (hg : o.guard = none) (hr : (execOp a.eval o).run P w = .ok .skip w') (h : lw md P ops Q rest (a.put o.dst undef) w') : lw md P ops Q (o :: rest) a w := by
  cases md with
  | none => exact wpList_plain hg fun K hK => by unfold Oper.wp; rw [hr, Oper.upon_skip]; exact hK _ _ h
  | some r => exact wpListIn_plain hg fun K hK => ⟨fun _ _ => trivial, by show o.uponIn (FF r) 1 P a K Q ((o.semAt r a.eval).run P w); rw [semAt_run (by intro d hd; cases hd) hr, Oper.uponIn_skip]; exact hK _ _ h⟩
theorem callsFF {n f : Nat} {args : Array Value} {R : Ending → World → Prop} (h : Calls P f args w R) : CallsIn (FF r) n P f args w R := by
  cases r with
  | none => exact callsIn_wide.2 h
  | some l => exact CallsIn.inRound l (callsIn_wide.2 h)
theorem lw_enter {f : Nat} {args : Array Value} (hg : o.guard = none) (hr : (execOp a.eval o).run P w = .ok (.enter f args) w')
    (h : Calls P f args w' fun e w2 => ∃ v, e = .returned v ∧ lw md P ops Q rest (a.put o.dst v) w2) : lw md P ops Q (o :: rest) a w := by
  cases md with
  | none =>
    exact wpList_plain hg fun K hK => by
      unfold Oper.wp; rw [hr, Oper.upon_enter]; refine h.mono fun e w2 hh => ?_; obtain ⟨v, rfl, h2⟩ := hh; exact hK _ _ h2
  | some r =>
    refine wpListIn_plain hg fun K hK => ⟨fun _ _ => trivial, ?_⟩
    show o.uponIn (FF r) 1 P a K Q ((o.semAt r a.eval).run P w)
    rw [semAt_run (by intro d hd; cases hd) hr, Oper.uponIn_enter]; refine ⟨fun _ => Nat.le_refl 1, (callsFF h).mono fun e w2 hh => ?_⟩; obtain ⟨v, rfl, h2⟩ := hh; exact hK _ _ h2
theorem lw_on (hw : Region.wanted o (yielded ops a.tmps) = true) (h : lw md P ops Q ({ o with guard := none } :: rest) a w) : lw md P ops Q (o :: rest) a w := by
  have hw2 : Region.wanted { o with guard := none } (yielded ops a.tmps) = true := rfl; cases md with
  | none =>
    change wpList P ops Q _ a w at h
    show wpList P ops Q _ a w
    unfold wpList at h ⊢; rw [if_pos hw2] at h; rw [if_pos hw]; exact h
  | some r =>
    change wpListIn (FF r) 1 P ops Q _ a w at h
    show wpListIn (FF r) 1 P ops Q _ a w
    unfold wpListIn at h ⊢; rw [if_pos hw2] at h; rw [if_pos hw]; exact h
theorem lw_off (hw : Region.wanted o (yielded ops a.tmps) = false) (h : lw md P ops Q rest (a.put o.dst undef) w) : lw md P ops Q (o :: rest) a w := by
  have hw2 : ¬ Region.wanted o (yielded ops a.tmps) = true := by rw [hw]; exact Bool.false_ne_true
  cases md with
  | none => show wpList P ops Q _ a w; unfold wpList; rw [if_neg hw2]; exact h
  | some r => show wpListIn (FF r) 1 P ops Q _ a w; unfold wpListIn; rw [if_neg hw2]; exact ⟨fun _ _ => trivial, h⟩
def NoOut (Q : Exit → Act → World → Prop) : Exit → Act → World → Prop
  | .outgrown, _, _ => False
  | e, a, w => Q e a w
theorem rowsFF {n : Nat} {row : String} {args : Array Value} {R : Value → World → Prop} (h : Rows P row args w R) : RowsIn (FF r) n P row args w R := by
  have h1 : RowsIn Fence.wide n P row args w R := fun c cs _ => let ⟨v, w', hR, hs⟩ := h c cs; ⟨v, w', hR, stepsIn_wide.2 hs⟩
  exact h1
theorem wp_noOut (hk : ∀ a w, K a w → K' a w) (h : o.wp P a w K (Exit.then K (NoOut Q))) : o.wp P a w K' Q := by
  unfold Oper.wp at h ⊢
  revert h
  generalize (execOp a.eval o).run P w = x; intro h; cases x with
  | ok x w2 =>
    cases x <;> first | exact hk _ _ h | exact h | skip
    all_goals first
      | (refine Calls.mono h fun e w3 h3 => ?_
         cases e with
         | returned v => exact hk _ _ h3
         | panicked ch => exact h3
         | outgrown => obtain ⟨a4, w4, h4⟩ := h3; exact h4.elim)
      | exact Rows.mono h fun v w3 h3 => hk _ _ h3
  | halt x w2 => cases x <;> first | exact h | skip
theorem wpIn_noOut (hd : ∀ c, o.op ≠ .defer c) (hk : ∀ a w, K a w → K' a w) (h : o.wp P a w K (Exit.then K (NoOut Q))) : o.wpIn (FF r) 1 P a w K' Q := by
  refine ⟨fun _ _ => trivial, ?_⟩
  show o.uponIn (FF r) 1 P a K' Q ((o.semAt r a.eval).run P w)
  rw [Oper.semAt_eq r a.eval o hd]; unfold Oper.wp at h
  revert h
  generalize (execOp a.eval o).run P w = x; intro h; cases x with
  | ok x w2 =>
    cases x <;> first | exact hk _ _ h | exact h.elim | skip
    all_goals first
      | (refine ⟨fun _ => Nat.le_refl 1, (callsFF h).mono fun e w3 h3 => ?_⟩
         cases e with
         | returned v => exact hk _ _ h3
         | panicked ch => exact h3
         | outgrown => obtain ⟨a4, w4, h4⟩ := h3; exact h4.elim)
      | exact ⟨fun _ => Nat.le_refl 1, (rowsFF h).mono fun v w3 h3 => hk _ _ h3⟩
  | halt x w2 => cases x <;> first | exact h | exact h.elim | skip
theorem lw_via (hg : o.guard = none) (hd : ∀ c, o.op ≠ .defer c) (h : wpList P ops (Exit.then (lw md P ops Q rest) (NoOut Q)) [o] a w) : lw md P ops Q (o :: rest) a w := by
  have hw : Region.wanted o (yielded ops a.tmps) = true := by simp [Region.wanted, hg]
  unfold wpList at h; rw [if_pos hw] at h; have h1 : o.wp P a w (lw md P ops Q rest) (Exit.then (lw md P ops Q rest) (NoOut Q)) := by
    rcases h with h | ⟨-, a2, w2, h2⟩
    · exact h
    · exact h2.elim
  cases md with
  | none => exact wpList_plain hg fun K hK => wp_noOut hK h1
  | some r => exact wpListIn_plain hg fun K hK => wpIn_noOut hd hK h1
theorem wpOper_mono {o : Oper} (hq : ∀ e a w, Q e a w → Q' e a w) (hk : ∀ a w, K a w → K' a w) (h : o.wp P a w K Q) : o.wp P a w K' Q' := by
  unfold Oper.wp at h ⊢
  revert h
  generalize (execOp a.eval o).run P w = r; intro h; cases r with
  | ok x w2 =>
    cases x <;> first | exact hk _ _ h | exact h | skip
    all_goals first
      | (refine Calls.mono h fun e w3 h3 => ?_
         cases e with
         | returned v => exact hk _ _ h3
         | panicked ch => exact hq _ _ _ h3
         | outgrown => obtain ⟨a4, w4, h4⟩ := h3; exact ⟨a4, w4, hq _ _ _ h4⟩)
      | exact Rows.mono h fun v w3 h3 => hk _ _ h3
  | halt x w2 => cases x <;> first | exact hq _ _ _ h | exact h | skip
theorem wpOperIn_mono {F : Fence} {n : Nat} {o : Oper} (hq : ∀ e a w, Q e a w → Q' e a w) (hk : ∀ a w, K a w → K' a w) (h : o.wpIn F n P a w K Q) : o.wpIn F n P a w K' Q' := by
  refine ⟨h.1, ?_⟩; have h := h.2
  revert h
  generalize (o.semAt F.round a.eval).run P w = r; intro h; cases r with
  | ok x w2 =>
    cases x <;> first | exact hk _ _ h | exact h | skip
    all_goals first
      | (refine ⟨h.1, CallsIn.mono h.2 fun e w3 h3 => ?_⟩
         cases e with
         | returned v => exact hk _ _ h3
         | panicked ch => exact hq _ _ _ h3
         | outgrown => obtain ⟨a4, w4, h4⟩ := h3; exact ⟨a4, w4, hq _ _ _ h4⟩)
      | exact ⟨h.1, RowsIn.mono h.2 fun v w3 h3 => hk _ _ h3⟩
      | (refine ⟨h.1, RoundIn.mono h.2 fun e w3 h3 => ?_⟩
         cases e with
         | returned v => exact hk _ _ h3
         | panicked ch => exact hq _ _ _ h3
         | outgrown => obtain ⟨a4, w4, h4⟩ := h3; exact ⟨a4, w4, hq _ _ _ h4⟩)
  | halt x w2 => cases x <;> first | exact hq _ _ _ h | exact h | skip
theorem wpList_mono' (hq : ∀ e a w, Q e a w → Q' e a w) (hl : LetsOut Q → LetsOut Q') : ∀ (rest : List Oper) (a : Act) (w : World), wpList P ops Q rest a w → wpList P ops Q' rest a w
  | [], a, w, h => hq _ _ _ h
  | o :: rest, a, w, h => by
    unfold wpList at h ⊢
    split
    · rename_i hw
      rw [if_pos hw] at h; rcases h with h | h
      · exact .inl (wpOper_mono hq (fun a w h => wpList_mono' hq hl rest a w h) h)
      · exact .inr ⟨h.1, hl h.2⟩
    · rename_i hw
      rw [if_neg hw] at h; exact wpList_mono' hq hl rest _ w h
theorem wpListIn_mono' {F : Fence} {n : Nat} (hq : ∀ e a w, Q e a w → Q' e a w) : ∀ (rest : List Oper) (a : Act) (w : World), wpListIn F n P ops Q rest a w → wpListIn F n P ops Q' rest a w
  | [], a, w, h => hq _ _ _ h
  | o :: rest, a, w, h => by
    unfold wpListIn at h ⊢
    split
    · rename_i hw
      rw [if_pos hw] at h; exact wpOperIn_mono hq (fun a w h => wpListIn_mono' hq rest a w h) h
    · rename_i hw
      rw [if_neg hw] at h; exact ⟨h.1, wpListIn_mono' hq rest _ w h.2⟩
theorem lw_mono (hq : ∀ e a w, Q e a w → Q' e a w) (h : lw md P ops Q rest a w) : lw md P ops Q' rest a w := by
  cases md with
  | none => exact wpList_mono' hq (fun ⟨a, w, q⟩ => ⟨a, w, hq _ _ _ q⟩) rest a w h
  | some r => exact wpListIn_mono' hq rest a w h
end
end K
end Go.Proofs.Ytfpakjbaiohcaaa

namespace Go.Proofs.Ytfpakjbaiohcaaa
open Go.RowKit
namespace K

abbrev Env := List (Nat × Value)
def look : Env → Nat → Option Value
  | [], _ => none
  | (j, v) :: r, k => bif Nat.beq j k then some v else look r k
def evl (l : Env) : Operand → Option Value
  | .tmp t => look l t
  | .const v => some v
  | .global g => some (.pointer (some ⟨g, 0, none⟩))
  | .func f => some (.func (.func f) #[] #[])

structure NN where
  n : Nat
  ds : List Deferred := []
  md : Option (Option Nat) := none
structure Fr (n : NN) (a : Act) (l : Env) : Prop where
  size : a.tmps.size = n.n
  defers : a.defers = n.ds
  slot : ∀ k v, look l k = some v → a.tmps[k]? = some v
theorem Fr.eval {n : NN} {a : Act} {l : Env} (h : Fr n a l) {x : Operand} {v : Value} (hx : evl l x = some v) : a.eval x = v := by
  cases x with
  | tmp t => have := h.slot t v hx; show a.tmps.getD t undef = v; rw [Array.getD_eq_getD_getElem?, this]; rfl
  | const u => exact Option.some.inj hx
  | global g => exact Option.some.inj hx
  | func f => exact Option.some.inj hx
theorem Fr.put {n : NN} {a : Act} {l : Env} (h : Fr n a l) {d : Nat} (hd : Nat.blt d n.n = true) (v : Value) : Fr n (a.put (some d) v) ((d, v) :: l) := by
  have hd' : d < n.n := by rw [Nat.blt_eq] at hd; exact hd
  refine ⟨by show (a.tmps.setIfInBounds d v).size = n.n; rw [Array.size_setIfInBounds]; exact h.size, h.defers, fun k u hk => ?_⟩
  show (a.tmps.setIfInBounds d v)[k]? = some u
  have hs := h.size; unfold look at hk; cases hb : Nat.beq d k with
  | true =>
    rw [hb] at hk; obtain rfl : d = k := Nat.eq_of_beq_eq_true hb; obtain rfl : v = u := Option.some.inj hk; simp [hs, hd']
  | false =>
    rw [hb] at hk; have hne : d ≠ k := Nat.ne_of_beq_eq_false hb; rw [Array.getElem?_setIfInBounds_ne hne]; exact h.slot k u hk
theorem Fr.none {n : NN} {a : Act} {l : Env} (h : Fr n a l) (v : Value) : Fr n (a.put none v) l := h
def Sub (l : Env) : Env → Prop
  | [] => True
  | (k, v) :: r => look l k = some v ∧ Sub l r
theorem Sub.look {l : Env} : ∀ {m : Env} {k : Nat} {v : Value}, Sub l m → look m k = some v → K.look l k = some v
  | [], _, _, _, h => by cases h
  | (j, u) :: r, k, v, h, hk => by
    unfold K.look at hk; cases hb : Nat.beq j k with
    | true =>
      rw [hb] at hk; obtain rfl : j = k := Nat.eq_of_beq_eq_true hb; obtain rfl : u = v := Option.some.inj hk; exact h.1
    | false => rw [hb] at hk; exact Sub.look h.2 hk
theorem Fr.sub {n : NN} {a : Act} {l m : Env} (h : Fr n a l) (hs : Sub l m) : Fr n a m := ⟨h.size, h.defers, fun k v hk => h.slot k v (hs.look hk)⟩
def argsEnv : Nat → List Value → Env
  | _, [] => []
  | i, v :: r => (i, v) :: argsEnv (i + 1) r
theorem look_args : ∀ (l : List Value) (i k : Nat) (v : Value), look (argsEnv i l) k = some v → i ≤ k ∧ l[k - i]? = some v
  | [], _, _, _, h => by cases h
  | u :: r, i, k, v, h => by
    unfold argsEnv look at h; cases hb : Nat.beq i k with
    | true =>
      rw [hb] at h; obtain rfl : i = k := Nat.eq_of_beq_eq_true hb; exact ⟨Nat.le_refl _, by simpa using h⟩
    | false =>
      rw [hb] at h; have hne : i ≠ k := Nat.ne_of_beq_eq_false hb; obtain ⟨h1, h2⟩ := look_args r (i + 1) k v h; refine ⟨by omega, ?_⟩; have : k - i = (k - (i + 1)) + 1 := by omega
      rw [this]
      simpa using h2

section
variable {n : NN} {Q : Exit → Act → World → Prop} {l : Env} {w : World}

structure WC (n : NN) (c : Code) (Q : Exit → Act → World → Prop) (l : Env) (w : World) : Prop where
  go : ∀ a, Fr n a l → cw n.md Try.prog c Q a w
structure WL (n : NN) (ops : Array Oper) (Q : Exit → Act → World → Prop) (rest : List Oper) (l : Env) (w : World) : Prop where
  go : ∀ a, Fr n a l → lw n.md Try.prog ops Q rest a w
structure WQ (n : NN) (Q : Exit → Act → World → Prop) (e : Exit) (l : Env) (w : World) : Prop where
  go : ∀ a, Fr n a l → Q e a w

theorem enter {f : FuncId} {fn : Func} {c : Code} {args : List Value} {n : Nat} {R : Ending → World → Prop} (hf : Try.prog.funcs[f]? = some fn) (hb : fn.body = some c) (hn : fn.ntmps = n) (hs : Nat.ble args.length n = true)
    (h : WC ⟨n, [], none⟩ c (bodyPost Try.prog fn R) (argsEnv 0 args) w) : Calls Try.prog f args.toArray w R := by
  refine calls_of_wp hf hb (h.go _ ?_); subst hn; have hs' : args.length ≤ fn.ntmps := Nat.le_of_ble_eq_true hs; refine ⟨by simp; omega, rfl, fun k v hk => ?_⟩; obtain ⟨-, h2⟩ := look_args _ _ _ _ hk; rw [Nat.sub_zero] at h2; have hlt : k < args.length := by
    rcases Nat.lt_or_ge k args.length with h | h
    · exact h
    · rw [List.getElem?_eq_none h] at h2; cases h2
  rw [Array.getElem?_append_left (by simpa using hlt)]
  simpa using h2

theorem WC.seq {x y : Code} (h : WC n x (Exit.then (cw n.md Try.prog y Q) Q) l w) : WC n (.seq x y) Q l w := ⟨fun a ha => cw_seq (h.go a ha)⟩
theorem WC.block {id : Nat} {c : Code} (h : WC n c (Exit.inBlock id Q) l w) : WC n (.block id c) Q l w := ⟨fun a ha => cw_block (h.go a ha)⟩
theorem WC.skip (h : WQ n Q .normal l w) : WC n .skip Q l w := ⟨fun a ha => cw_skip (h.go a ha)⟩
theorem WC.exit {id : Nat} (h : WQ n Q (.exit id) l w) : WC n (.exit id) Q l w := ⟨fun a ha => cw_exit (h.go a ha)⟩
theorem WC.ret (h : WQ n Q .ret l w) : WC n .ret Q l w := ⟨fun a ha => cw_ret (h.go a ha)⟩
theorem WC.region {id : Nat} {ops : List Oper} (h : WL n ops.toArray Q ops l w) : WC n (.region id ops.toArray false) Q l w := ⟨fun a ha => cw_region (h.go a ha)⟩
theorem WC.condB {c : Operand} {x y : Code} {b : Bool} (hc : evl l c = some (.bool b)) (h1 : b = true → WC n x Q l w) (h2 : b = false → WC n y Q l w) : WC n (.cond c x y) Q l w :=
  ⟨fun a ha => cw_cond (ha.eval hc) (fun e => (h1 e).go a ha) (fun e => (h2 e).go a ha)⟩
theorem WC.condTrue {c : Operand} {x y : Code} (hc : evl l c = some (.bool true)) (h : WC n x Q l w) : WC n (.cond c x y) Q l w := WC.condB hc (fun _ => h) (fun e => by cases e)
theorem WC.condFalse {c : Operand} {x y : Code} (hc : evl l c = some (.bool false)) (h : WC n y Q l w) : WC n (.cond c x y) Q l w := WC.condB hc (fun e => by cases e) (fun _ => h)
theorem WC.condT {c : Operand} {x y : Code} {p : Prop} [Decidable p] (hc : evl l c = some (.bool (decide p))) (hp : p) (h : WC n x Q l w) : WC n (.cond c x y) Q l w := WC.condTrue (by rw [hc, decide_eq_true hp]) h
theorem WC.condF {c : Operand} {x y : Code} {p : Prop} [Decidable p] (hc : evl l c = some (.bool (decide p))) (hp : ¬ p) (h : WC n y Q l w) : WC n (.cond c x y) Q l w := WC.condFalse (by rw [hc, decide_eq_false hp]) h
theorem WC.condS {c : Operand} {x y : Code} {p : Prop} [Decidable p] (hc : evl l c = some (.bool (decide p))) (h1 : p → WC n x Q l w) (h2 : ¬ p → WC n y Q l w) : WC n (.cond c x y) Q l w :=
  WC.condB hc (fun e => h1 (of_decide_eq_true e)) (fun e => h2 (of_decide_eq_false e))
theorem WC.as {c : Code} (k : Nat) (v' : Value) {v : Value} (hk : look l k = some v) (e : v = v') (h : WC n c Q ((k, v') :: l) w) : WC n c Q l w :=
  ⟨fun a ha => h.go a ⟨ha.size, ha.defers, fun j u hj => by
    unfold look at hj; cases hb : Nat.beq k j with
    | true =>
      rw [hb] at hj; obtain rfl : k = j := Nat.eq_of_beq_eq_true hb; obtain rfl : v' = u := Option.some.inj hj; subst e; exact ha.slot _ _ hk
    | false => rw [hb] at hj; exact ha.slot _ _ hj⟩⟩
def Again (n : NN) {ι : Type} (L : ι → Env) (W : ι → World → Prop) (μ : ι → Nat) (i : ι) (a : Act) (w : World) : Prop := ∃ j, Fr n a (L j) ∧ W j w ∧ μ j < μ i
def Meet (n : NN) {ι : Type} (L : ι → Env) (W : ι → World → Prop) (a : Act) (w : World) : Prop := ∃ i, Fr n a (L i) ∧ W i w
theorem WC.loop {ι : Type} {c : Code} (L : ι → Env) (W : ι → World → Prop) (μ : ι → Nat) (i : ι) (hs : Sub l (L i)) (hw : W i w)
    (round : ∀ i w, W i w → WC n c (Exit.then (Again n L W μ i) Q) (L i) w) : WC n (.loop c) Q l w := by
  refine ⟨fun a ha => cw_loop (fun m a w => ∃ i, Fr n a (L i) ∧ W i w ∧ μ i = m) (μ i) ⟨i, ha.sub hs, hw, rfl⟩ ?_⟩; rintro m a w ⟨i, hf, hw, rfl⟩; refine cw_mono (fun e a w q => ?_) ((round i w hw).go a hf); cases e with
  | normal => obtain ⟨j, h1, h2, h3⟩ := q; exact ⟨μ j, h3, j, h1, h2, rfl⟩
  | exit id => exact q
  | goto l => exact q
  | ret => exact q
  | panic ch => exact q
  | outgrown => exact q

end
end K
end Go.Proofs.Ytfpakjbaiohcaaa

namespace Go.Proofs.Ytfpakjbaiohcaaa
open Go.RowKit
namespace K

inductive TyD where
  | int (k : IntKind) | str | bool | ptr (e : Nat) | slice (e s : Nat) | struct (n : Nat) (fs : List (Nat × Nat × Nat)) | arr (n e s : Nat) | map (k e : Nat)
def TyD.ok (P : Program) (t : Nat) : TyD → Prop
  | .int k => P.underlying t = some (.int k)
  | .str => P.underlying t = some .string
  | .bool => P.underlying t = some .bool
  | .ptr e => P.underlying t = some (.pointer e)
  | .slice e s => P.underlying t = some (.slice e) ∧ (P.info? e).map (·.size) = some s
  | .map k e => P.underlying t = some (.map k e)
  | .arr n e s => P.underlying t = some (.array n e) ∧ (P.info? e).map (·.size) = some s ∧ (P.info? t).map (·.size) = some (n * s)
  | .struct n fs => (∃ us, P.underlying t = some (.struct us)) ∧ (P.info? t).map (·.size) = some n ∧
      (match P.underlying t with | some (.struct us) => (us.toList.map fun f => (f.type, f.offset, ((P.info? f.type).map (·.size)).getD 0)) == fs | _ => false) = true
def TyOk (P : Program) : List (Nat × TyD) → Prop
  | [] => True
  | (t, d) :: r => d.ok P t ∧ TyOk P r
def tyOf : List (Nat × TyD) → Nat → Option TyD
  | [], _ => none
  | (t, d) :: r, k => bif Nat.beq t k then some d else tyOf r k
theorem TyOk.of {P : Program} : ∀ {T : List (Nat × TyD)} {t : Nat} {d : TyD}, TyOk P T → tyOf T t = some d → d.ok P t
  | [], _, _, _, h => by cases h
  | (j, u) :: r, t, d, h, hk => by
    unfold tyOf at hk; cases hb : Nat.beq j t with
    | true =>
      rw [hb] at hk; obtain rfl : j = t := Nat.eq_of_beq_eq_true hb; obtain rfl : u = d := Option.some.inj hk; exact h.1
    | false => rw [hb] at hk; exact TyOk.of h.2 hk

def cellsN : Option TyD → Option Nat
  | some (.struct m _) => some m
  | some (.arr n _ s) => some (n * s)
  | _ => none
theorem cellsN_ok {P : Program} {T : List (Nat × TyD)} (hT : TyOk P T) {t m : Nat} (h : cellsN (tyOf T t) = some m) :
    ∃ d, P.underlying t = some d ∧ (match d with | .struct _ | .array _ _ => true | _ => false) = true ∧ (P.info? t).map (·.size) = some m := by
  unfold cellsN at h
  split at h
  · rename_i m' fs he
    obtain rfl := Option.some.inj h; obtain ⟨⟨us, hu⟩, hsz, -⟩ := TyOk.of hT he; exact ⟨_, hu, rfl, hsz⟩
  · rename_i n e s he
    obtain rfl := Option.some.inj h; obtain ⟨hu, -, hsz⟩ := TyOk.of hT he; exact ⟨_, hu, rfl, hsz⟩
  · cases h

def quoI (k : IntKind) (a b : Int) : Option Value :=
  match b with
  | .ofNat (_ + 1) => some (.int k (k.wrap (a.tdiv b)))
  | _ => none
def remI (k : IntKind) (a b : Int) : Option Value :=
  match b with
  | .ofNat (_ + 1) => some (.int k (a.tmod b))
  | _ => none
def shlI (k : IntKind) (a : Int) : Int → Option Value
  | .ofNat m => some (.int k (k.wrap (a * ((2 ^ min m k.bits : Nat) : Int))))
  | _ => none
def shrI (k : IntKind) (a : Int) : Int → Option Value
  | .ofNat m => some (.int k (a / ((2 ^ min m k.bits : Nat) : Int)))
  | _ => none
def binI (k : IntKind) (a b : Int) : BinOp → Option Value
  | .add => some (.int k (k.wrap (a + b)))
  | .sub => some (.int k (k.wrap (a - b)))
  | .mul => some (.int k (k.wrap (a * b)))
  | .eql => some (.bool (decide (a = b)))
  | .neq => some (.bool (decide (a ≠ b)))
  | .lss => some (.bool (decide (a < b)))
  | .leq => some (.bool (decide (a ≤ b)))
  | .gtr => some (.bool (decide (b < a)))
  | .geq => some (.bool (decide (b ≤ a)))
  | .and => some (.int k (bits .and k a b))
  | .or => some (.int k (bits .or k a b))
  | .xor => some (.int k (bits .xor k a b))
  | .quo => quoI k a b
  | .rem => remI k a b
  | _ => none
def shI (k : IntKind) (a b : Int) : BinOp → Option Value
  | .shl => shlI k a b
  | .shr => shrI k a b
  | _ => none
def binS (a b : ByteArray) : BinOp → Option Value
  | .eql => some (.bool (a.toList == b.toList))
  | .neq => some (.bool (!(a.toList == b.toList)))
  | .lss => some (.bool (Op.bytesLess a.toList b.toList))
  | .leq => some (.bool (Op.bytesLess a.toList b.toList || a.toList == b.toList))
  | .gtr => some (.bool !(Op.bytesLess a.toList b.toList || a.toList == b.toList))
  | .geq => some (.bool !(Op.bytesLess a.toList b.toList))
  | _ => none
def isSh : BinOp → Bool
  | .shl | .shr => true
  | _ => false
def evlAll (l : Env) : List Operand → Option (List Value)
  | [] => some []
  | x :: r => match evl l x, evlAll l r with
    | some v, some vs => some (v :: vs)
    | _, _ => none
def pvPick (l : Env) (a b : Operand) : Option Value → Option Value
  | some (.bool true) => evl l a
  | some (.bool false) => evl l b
  | _ => none
def pvBool (a b : Bool) : Option TyD → BinOp → Option Value
  | some .bool, .eql => some (.bool (a == b))
  | some .bool, .neq => some (.bool (!(a == b)))
  | _, _ => none
def pvBin (op : BinOp) (ty : Option TyD) : Option Value → Option Value → Option Value
  | some (.int k a), some (.int k' b) => bif isSh op then shI k a b op else if k = k' then binI k a b op else none
  | some (.string a), some (.string b) => binS a b op
  | some (.bool a), some (.bool b) => pvBool a b ty op
  | _, _ => none
def pvUn : UnOp → Option Value → Option Value
  | .neg, some (.int k a) => some (.int k (k.wrap (0 - a)))
  | .not, some (.bool b) => some (.bool (!b))
  | .xor, some (.int k a) => some (.int k (bits .xor k (if k.signed then -1 else k.max) a))
  | _, _ => none
def pvConv : Option TyD → Option TyD → Option Value → Option Value
  | some (.int _), some (.int k), some (.int _ a) => some (.int k (k.wrap a))
  | some .str, some .str, some (.string s) => some (.string s)
  | _, _, _ => none
def pvExt (i : Nat) : Option Value → Option Value
  | some (.tuple vs) => vs[i]?
  | _ => none
def pvNil : Option Value → Option Value
  | some (.pointer (some p)) => some (.pointer (some p))
  | _ => none
def pvOff (b o : Nat) : Option (Nat × Nat × Nat) → Option Value
  | some (_, off, _ + 1) => some (.pointer (some ⟨b, o + off, none⟩))
  | _ => none
def pvField (i : Nat) : Option TyD → Option Value → Option Value
  | some (.struct _ fs), some (.pointer (some ⟨b, o, none⟩)) => pvOff b o fs[i]?
  | _, _ => none
def pvLen : Option TyD → Option Value → Option Value
  | some (.slice _ _), some (.slice _ n _) => some (.int .i64 n)
  | some .str, some (.string s) => some (.int .i64 s.size)
  | _, _ => none
def pvMin (less : Bool) : Option Value → Option Value → Option Value
  | some (.int k a), some (.int _ b) => some (.int k (bif less then (if b < a then b else a) else (if b > a then b else a)))
  | _, _ => none
def pvCall (T : List (Nat × TyD)) (l : Env) (c : Call) : Option Value :=
  match c.callee, c.args.toList, c.argTypes.toList with
  | .builtin .len, [x], [t] => pvLen (tyOf T t) (evl l x)
  | .builtin .min, [x, y], _ => pvMin true (evl l x) (evl l y)
  | .builtin .max, [x, y], _ => pvMin false (evl l x) (evl l y)
  | _, _, _ => none
def pv (T : List (Nat × TyD)) (l : Env) : Op → Option Value
  | .move x => evl l x
  | .assign x => evl l x
  | .pick c a b => pvPick l a b (evl l c)
  | .binOp op t x y _ => pvBin op (tyOf T t) (evl l x) (evl l y)
  | .unOp op _ x => pvUn op (evl l x)
  | .convert s d x => pvConv (tyOf T s) (tyOf T d) (evl l x)
  | .extract t i => pvExt i (evl l t)
  | .nilCheck x => pvNil (evl l x)
  | .fieldAddr t x i => pvField i (tyOf T t) (evl l x)
  | .call c => pvCall T l c
  | _ => none

theorem binI_run {P : Program} {k : IntKind} {a b : Int} {op : BinOp} {v : Value} (h : binI k a b op = some v) (t : TypeId) (w : World) : (binOp op t (.int k a) (.int k b)).run P w = .ok v w := by
  cases op
  case quo =>
    simp only [binI] at h; unfold quoI at h
    split at h
    · rename_i m
      obtain rfl := Option.some.inj h; simp only [binOp_quo, Op.intDiv]; rw [if_neg (by show ¬ ((m + 1 : Nat) : Int) = 0; omega)]
      rfl
    · cases h
  case rem =>
    simp only [binI] at h; unfold remI at h
    split at h
    · rename_i m
      obtain rfl := Option.some.inj h; simp only [binOp_rem, Op.intDiv]; rw [if_neg (by show ¬ ((m + 1 : Nat) : Int) = 0; omega)]
      rfl
    · cases h
  case eql => simp only [binI, Option.some.injEq] at h; subst h; rw [binOp_eql]; exact congrArg (fun b => Result.ok (Value.bool b) w) (by by_cases e : a = b <;> simp [e])
  case neq => simp only [binI, Option.some.injEq] at h; subst h; rw [binOp_neq]; exact congrArg (fun b => Result.ok (Value.bool b) w) (by by_cases e : a = b <;> simp [e])
  all_goals simp only [binI, Option.some.injEq, reduceCtorEq] at h
  all_goals (subst h; simp [go_sem])
theorem shI_run {P : Program} {k k' : IntKind} {a b : Int} {op : BinOp} {v : Value} (h : shI k a b op = some v) (t : TypeId) (w : World) : (binOp op t (.int k a) (.int k' b)).run P w = .ok v w := by
  cases op
  case shl =>
    simp only [shI] at h; unfold shlI at h
    split at h
    · rename_i m
      obtain rfl := Option.some.inj h; have h0 : (0 : Int) ≤ Int.ofNat m := Int.natCast_nonneg m; simp only [binOp_shl, shift_shl_any _ _ _ _ h0]; simp
    · cases h
  case shr =>
    simp only [shI] at h; unfold shrI at h
    split at h
    · rename_i m
      obtain rfl := Option.some.inj h; have h0 : (0 : Int) ≤ Int.ofNat m := Int.natCast_nonneg m; simp only [binOp_shr, shift_shr_any _ _ _ _ h0]; simp
    · cases h
  all_goals cases h
theorem binS_run {P : Program} {a b : ByteArray} {op : BinOp} {v : Value} (h : binS a b op = some v) (t : TypeId) (w : World) : (binOp op t (.string a) (.string b)).run P w = .ok v w := by
  cases op <;> simp only [binS, Option.some.injEq, reduceCtorEq] at h
  all_goals (subst h; simp [go_sem])

theorem field_run {P : Program} {t n b o i off s ft : Nat} {fs : List (Nat × Nat × Nat)} (h : (TyD.struct n fs).ok P t) (hi : fs[i]? = some (ft, off, s + 1)) (w : World) :
    (Instr.fieldAt t (.pointer (some ⟨b, o, none⟩)) i).run P w = .ok (.pointer (some ⟨b, o + off, none⟩)) w := by
  obtain ⟨⟨us, hu⟩, -, hf⟩ := h; rw [hu] at hf; simp only [beq_iff_eq] at hf; rw [← hf, List.getElem?_map] at hi; cases hx : us.toList[i]? with
  | none => rw [hx] at hi; cases hi
  | some f =>
    rw [hx] at hi; simp only [Option.map_some, Option.some.injEq, Prod.mk.injEq] at hi; obtain ⟨-, rfl, hs⟩ := hi; have hx' : us[i]? = some f := by simpa using hx
    have hsz : (sizeOf f.type).run P w = .ok (s + 1) w := by
      cases hq : P.info? f.type with
      | none => rw [hq] at hs; simp at hs
      | some q => rw [hq] at hs; simp at hs; simp [sizeOf, typeInfo, hq, hs]
    simp [Instr.fieldAt, run_underlying hu, hx', Instr.sureAddr, fieldPlace, hsz, Addr.add_mid]

theorem pv_run {P : Program} {T : List (Nat × TyD)} (hT : TyOk P T) {n : NN} {a : Act} {l : Env} (ha : Fr n a l) {o : Oper} {v : Value} (h : pv T l o.op = some v) (w : World) :
    (execOp a.eval o).run P w = .ok (.value v) w := by
  unfold execOp
  revert h
  cases o.op with
  | move x => intro h; simp [ha.eval h]
  | assign x => intro h; simp [ha.eval h]
  | pick c x y =>
    intro h; simp only [pv] at h; generalize hc : evl l c = cv at h; unfold pvPick at h
    split at h
    · simp [ha.eval hc, ha.eval h, asBool]
    · simp [ha.eval hc, ha.eval h, asBool]
    · cases h
  | binOp op t x y t2 =>
    intro h; simp only [pv] at h; generalize hx : evl l x = xv at h; generalize hy : evl l y = yv at h; unfold pvBin at h
    split at h
    · rename_i k p k' q
      cases hs : isSh op with
      | true =>
        rw [hs] at h; simp only [cond_true] at h; have := shI_run (P := P) (k' := k') h t w; simp [ha.eval hx, ha.eval hy, eqGuard_at_int, this]
      | false =>
        rw [hs] at h; simp only [cond_false] at h
        split at h
        · rename_i e; subst e
          have := binI_run (P := P) h t w; simp [ha.eval hx, ha.eval hy, eqGuard_at_int, this]
        · cases h
    · have := binS_run (P := P) h t w
      simp [ha.eval hx, ha.eval hy, eqGuard_at_string, this]
    · rename_i p q
      generalize ht : tyOf T t = tv at h; unfold pvBool at h
      split at h
      · obtain rfl := Option.some.inj h
        simp [ha.eval hx, ha.eval hy, eqGuard_at_bool, run_eql_bool w t p q (hT.of ht)]
      · obtain rfl := Option.some.inj h
        simp [ha.eval hx, ha.eval hy, eqGuard_at_bool, run_neq_bool w t p q (hT.of ht)]
      · cases h
    · cases h
  | unOp op t x =>
    intro h; simp only [pv] at h; generalize hx : evl l x = xv at h; unfold pvUn at h
    split at h <;> first | (cases h; done) | (obtain rfl := Option.some.inj h; have e := ha.eval hx; simp only [e]; simp [go_sem])
  | convert s d x =>
    intro h; simp only [pv] at h; generalize h1 : tyOf T s = sv at h; generalize h2 : tyOf T d = dv at h; generalize h3 : evl l x = xv at h; unfold pvConv at h
    split at h
    · rename_i k1 k2 k3 m
      obtain rfl := Option.some.inj h; have e1 : P.underlying s = some (.int k1) := hT.of h1; have e2 : P.underlying d = some (.int k2) := hT.of h2; simp [ha.eval h3, convert, run_underlying e1, run_underlying e2, Conv.intToInt]
    · obtain rfl := Option.some.inj h
      have e1 : P.underlying s = some .string := hT.of h1; have e2 : P.underlying d = some .string := hT.of h2; simp [ha.eval h3, convert, run_underlying e1, run_underlying e2]
    · cases h
  | extract t i =>
    intro h; simp only [pv] at h; generalize hx : evl l t = xv at h; unfold pvExt at h
    split at h
    · simp [ha.eval hx, Instr.extract, h]
    · cases h
  | nilCheck x =>
    intro h; simp only [pv] at h; generalize hx : evl l x = xv at h; unfold pvNil at h
    split at h
    · obtain rfl := Option.some.inj h
      simp [ha.eval hx]
    · cases h
  | fieldAddr t x i =>
    intro h; simp only [pv] at h; generalize ht : tyOf T t = tv at h; generalize hx : evl l x = xv at h; unfold pvField at h
    split at h
    · rename_i m fs b off0
      generalize hi : fs[i]? = fv at h; unfold pvOff at h
      split at h
      · obtain rfl := Option.some.inj h
        have := field_run (b := b) (o := off0) (hT.of ht) hi w; simp [ha.eval hx, this]
      · cases h
    · cases h
  | call c =>
    intro h; simp only [pv] at h; obtain ⟨callee, ⟨args⟩, ⟨argTypes⟩⟩ := c; unfold pvCall at h; simp only at h
    split at h
    · rename_i x t
      generalize ht : tyOf T t = tv at h; generalize hx : evl l x = xv at h; unfold pvLen at h
      split at h
      · rename_i e s b m c
        obtain rfl := Option.some.inj h; have e1 : P.underlying t = some (.slice e) := (hT.of ht).1; simp [resolve, invoke, builtin, ha.eval hx, Builtin.len_, run_underlying e1, goInt]
      · obtain rfl := Option.some.inj h
        have e1 : P.underlying t = some .string := hT.of ht; simp [resolve, invoke, builtin, ha.eval hx, Builtin.len_, run_underlying e1, goInt]
      · cases h
    · rename_i x y
      generalize hx : evl l x = xv at h; generalize hy : evl l y = yv at h; unfold pvMin at h
      split at h
      · obtain rfl := Option.some.inj h
        simp [resolve, invoke, builtin, ha.eval hx, ha.eval hy, run_min_int2]
      · cases h
    · rename_i x y
      generalize hx : evl l x = xv at h; generalize hy : evl l y = yv at h; unfold pvMin at h
      split at h
      · obtain rfl := Option.some.inj h
        simp [resolve, invoke, builtin, ha.eval hx, ha.eval hy, run_max_int2]
      · cases h
    · cases h
  | _ => intro h; cases h
end K
end Go.Proofs.Ytfpakjbaiohcaaa

namespace Go.Proofs.Ytfpakjbaiohcaaa
namespace K

def ty : List (Nat × TyD) := [(2, .int .i64), (3, .int .i64), (4, .bool), (5, .int .u8), (6, .int .u8), (7, .struct 4 [(2, 0, 1), (3, 1, 1), (4, 2, 1), (6, 3, 1)]), (8, .struct 4 [(2, 0, 1), (3, 1, 1), (4, 2, 1), (6, 3, 1)]), (9, .str), (10, .str), (11, .str), (12, .int .u64), (13, .struct 2 [(9, 0, 1), (12, 1, 1)]), (14, .struct 2 [(9, 0, 1), (12, 1, 1)]), (15, .ptr 111), (16, .ptr 114), (17, .ptr 123), (18, .struct 1 [(17, 0, 1)]), (19, .struct 1 [(17, 0, 1)]), (21, .int .i32), (22, .slice 37 6), (24, .int .i64), (35, .slice 9 1), (36, .struct 6 [(3, 0, 1), (3, 1, 1), (3, 2, 1), (9, 3, 1), (35, 4, 1), (22, 5, 1)]), (37, .struct 6 [(3, 0, 1), (3, 1, 1), (3, 2, 1), (9, 3, 1), (35, 4, 1), (22, 5, 1)]), (45, .ptr 3), (47, .slice 5 1), (54, .ptr 56), (55, .struct 2 [(9, 0, 1), (4, 1, 1)]), (56, .struct 2 [(9, 0, 1), (4, 1, 1)]), (59, .ptr 61), (60, .struct 2 [(9, 0, 1), (4, 1, 1)]), (61, .struct 2 [(9, 0, 1), (4, 1, 1)]), (66, .int .u64), (73, .int .u64), (80, .int .i8), (82, .int .u32), (94, .struct 3 [(66, 0, 1), (66, 1, 1), (4, 2, 1)]), (95, .struct 3 [(66, 0, 1), (66, 1, 1), (4, 2, 1)]), (99, .struct 3 [(66, 0, 1), (66, 1, 1), (4, 2, 1)]), (100, .struct 3 [(66, 0, 1), (66, 1, 1), (4, 2, 1)]), (109, .ptr 126), (110, .struct 4 [(17, 0, 1), (17, 1, 1), (17, 2, 1), (9, 3, 1)]), (111, .struct 4 [(17, 0, 1), (17, 1, 1), (17, 2, 1), (9, 3, 1)]), (113, .struct 0 [(112, 0, 0)]), (114, .struct 0 [(112, 0, 0)]), (116, .int .u8), (117, .int .u8), (119, .ptr 5), (120, .int .i32), (121, .int .i32), (122, .struct 11 [(12, 0, 1), (12, 1, 1), (82, 2, 1), (116, 3, 1), (5, 4, 1), (5, 5, 1), (117, 6, 1), (118, 7, 1), (119, 8, 1), (120, 9, 1), (121, 10, 1)]), (123, .struct 11 [(12, 0, 1), (12, 1, 1), (82, 2, 1), (116, 3, 1), (5, 4, 1), (5, 5, 1), (117, 6, 1), (118, 7, 1), (119, 8, 1), (120, 9, 1), (121, 10, 1)]), (125, .struct 1 [(9, 0, 1)]), (126, .struct 1 [(9, 0, 1)])]
theorem tyOk2 : (.int .i64 : TyD).ok Try.prog 2 := Try.underlying2
theorem tyOk3 : (.int .i64 : TyD).ok Try.prog 3 := Try.underlying3
theorem tyOk4 : (.bool : TyD).ok Try.prog 4 := Try.underlying4
theorem tyOk5 : (.int .u8 : TyD).ok Try.prog 5 := Try.underlying5
theorem tyOk6 : (.int .u8 : TyD).ok Try.prog 6 := Try.underlying6
theorem tyOk7 : (.struct 4 [(2, 0, 1), (3, 1, 1), (4, 2, 1), (6, 3, 1)] : TyD).ok Try.prog 7 := ⟨⟨_, Try.underlying7⟩, by kernel_rfl, by kernel_rfl⟩
theorem tyOk8 : (.struct 4 [(2, 0, 1), (3, 1, 1), (4, 2, 1), (6, 3, 1)] : TyD).ok Try.prog 8 := ⟨⟨_, Try.underlying8⟩, by kernel_rfl, by kernel_rfl⟩
theorem tyOk9 : (.str : TyD).ok Try.prog 9 := Try.underlying9
theorem tyOk10 : (.str : TyD).ok Try.prog 10 := Try.underlying10
theorem tyOk11 : (.str : TyD).ok Try.prog 11 := Try.underlying11
theorem tyOk12 : (.int .u64 : TyD).ok Try.prog 12 := Try.underlying12
theorem tyOk13 : (.struct 2 [(9, 0, 1), (12, 1, 1)] : TyD).ok Try.prog 13 := ⟨⟨_, Try.underlying13⟩, by kernel_rfl, by kernel_rfl⟩
theorem tyOk14 : (.struct 2 [(9, 0, 1), (12, 1, 1)] : TyD).ok Try.prog 14 := ⟨⟨_, Try.underlying14⟩, by kernel_rfl, by kernel_rfl⟩
theorem tyOk15 : (.ptr 111 : TyD).ok Try.prog 15 := Try.underlying15
theorem tyOk16 : (.ptr 114 : TyD).ok Try.prog 16 := Try.underlying16
theorem tyOk17 : (.ptr 123 : TyD).ok Try.prog 17 := Try.underlying17
theorem tyOk18 : (.struct 1 [(17, 0, 1)] : TyD).ok Try.prog 18 := ⟨⟨_, Try.underlying18⟩, by kernel_rfl, by kernel_rfl⟩
theorem tyOk19 : (.struct 1 [(17, 0, 1)] : TyD).ok Try.prog 19 := ⟨⟨_, Try.underlying19⟩, by kernel_rfl, by kernel_rfl⟩
theorem tyOk21 : (.int .i32 : TyD).ok Try.prog 21 := Try.underlying21
theorem tyOk22 : (.slice 37 6 : TyD).ok Try.prog 22 := ⟨Try.underlying22, by kernel_rfl⟩
theorem tyOk24 : (.int .i64 : TyD).ok Try.prog 24 := Try.underlying24
theorem tyOk35 : (.slice 9 1 : TyD).ok Try.prog 35 := ⟨Try.underlying35, by kernel_rfl⟩
theorem tyOk36 : (.struct 6 [(3, 0, 1), (3, 1, 1), (3, 2, 1), (9, 3, 1), (35, 4, 1), (22, 5, 1)] : TyD).ok Try.prog 36 := ⟨⟨_, Try.underlying36⟩, by kernel_rfl, by kernel_rfl⟩
theorem tyOk37 : (.struct 6 [(3, 0, 1), (3, 1, 1), (3, 2, 1), (9, 3, 1), (35, 4, 1), (22, 5, 1)] : TyD).ok Try.prog 37 := ⟨⟨_, Try.underlying37⟩, by kernel_rfl, by kernel_rfl⟩
theorem tyOk45 : (.ptr 3 : TyD).ok Try.prog 45 := Try.underlying45
theorem tyOk47 : (.slice 5 1 : TyD).ok Try.prog 47 := ⟨Try.underlying47, by kernel_rfl⟩
theorem tyOk54 : (.ptr 56 : TyD).ok Try.prog 54 := Try.underlying54
theorem tyOk55 : (.struct 2 [(9, 0, 1), (4, 1, 1)] : TyD).ok Try.prog 55 := ⟨⟨_, Try.underlying55⟩, by kernel_rfl, by kernel_rfl⟩
theorem tyOk56 : (.struct 2 [(9, 0, 1), (4, 1, 1)] : TyD).ok Try.prog 56 := ⟨⟨_, Try.underlying56⟩, by kernel_rfl, by kernel_rfl⟩
theorem tyOk59 : (.ptr 61 : TyD).ok Try.prog 59 := Try.underlying59
theorem tyOk60 : (.struct 2 [(9, 0, 1), (4, 1, 1)] : TyD).ok Try.prog 60 := ⟨⟨_, Try.underlying60⟩, by kernel_rfl, by kernel_rfl⟩
theorem tyOk61 : (.struct 2 [(9, 0, 1), (4, 1, 1)] : TyD).ok Try.prog 61 := ⟨⟨_, Try.underlying61⟩, by kernel_rfl, by kernel_rfl⟩
theorem tyOk66 : (.int .u64 : TyD).ok Try.prog 66 := Try.underlying66
theorem tyOk73 : (.int .u64 : TyD).ok Try.prog 73 := Try.underlying73
theorem tyOk80 : (.int .i8 : TyD).ok Try.prog 80 := Try.underlying80
theorem tyOk82 : (.int .u32 : TyD).ok Try.prog 82 := Try.underlying82
theorem tyOk94 : (.struct 3 [(66, 0, 1), (66, 1, 1), (4, 2, 1)] : TyD).ok Try.prog 94 := ⟨⟨_, Try.underlying94⟩, by kernel_rfl, by kernel_rfl⟩
theorem tyOk95 : (.struct 3 [(66, 0, 1), (66, 1, 1), (4, 2, 1)] : TyD).ok Try.prog 95 := ⟨⟨_, Try.underlying95⟩, by kernel_rfl, by kernel_rfl⟩
theorem tyOk99 : (.struct 3 [(66, 0, 1), (66, 1, 1), (4, 2, 1)] : TyD).ok Try.prog 99 := ⟨⟨_, Try.underlying99⟩, by kernel_rfl, by kernel_rfl⟩
theorem tyOk100 : (.struct 3 [(66, 0, 1), (66, 1, 1), (4, 2, 1)] : TyD).ok Try.prog 100 := ⟨⟨_, Try.underlying100⟩, by kernel_rfl, by kernel_rfl⟩
theorem tyOk109 : (.ptr 126 : TyD).ok Try.prog 109 := Try.underlying109
theorem tyOk110 : (.struct 4 [(17, 0, 1), (17, 1, 1), (17, 2, 1), (9, 3, 1)] : TyD).ok Try.prog 110 := ⟨⟨_, Try.underlying110⟩, by kernel_rfl, by kernel_rfl⟩
theorem tyOk111 : (.struct 4 [(17, 0, 1), (17, 1, 1), (17, 2, 1), (9, 3, 1)] : TyD).ok Try.prog 111 := ⟨⟨_, Try.underlying111⟩, by kernel_rfl, by kernel_rfl⟩
theorem tyOk113 : (.struct 0 [(112, 0, 0)] : TyD).ok Try.prog 113 := ⟨⟨_, Try.underlying113⟩, by kernel_rfl, by kernel_rfl⟩
theorem tyOk114 : (.struct 0 [(112, 0, 0)] : TyD).ok Try.prog 114 := ⟨⟨_, Try.underlying114⟩, by kernel_rfl, by kernel_rfl⟩
theorem tyOk116 : (.int .u8 : TyD).ok Try.prog 116 := Try.underlying116
theorem tyOk117 : (.int .u8 : TyD).ok Try.prog 117 := Try.underlying117
theorem tyOk119 : (.ptr 5 : TyD).ok Try.prog 119 := Try.underlying119
theorem tyOk120 : (.int .i32 : TyD).ok Try.prog 120 := Try.underlying120
theorem tyOk121 : (.int .i32 : TyD).ok Try.prog 121 := Try.underlying121
theorem tyOk122 : (.struct 11 [(12, 0, 1), (12, 1, 1), (82, 2, 1), (116, 3, 1), (5, 4, 1), (5, 5, 1), (117, 6, 1), (118, 7, 1), (119, 8, 1), (120, 9, 1), (121, 10, 1)] : TyD).ok Try.prog 122 := ⟨⟨_, Try.underlying122⟩, by kernel_rfl, by kernel_rfl⟩
theorem tyOk123 : (.struct 11 [(12, 0, 1), (12, 1, 1), (82, 2, 1), (116, 3, 1), (5, 4, 1), (5, 5, 1), (117, 6, 1), (118, 7, 1), (119, 8, 1), (120, 9, 1), (121, 10, 1)] : TyD).ok Try.prog 123 := ⟨⟨_, Try.underlying123⟩, by kernel_rfl, by kernel_rfl⟩
theorem tyOk125 : (.struct 1 [(9, 0, 1)] : TyD).ok Try.prog 125 := ⟨⟨_, Try.underlying125⟩, by kernel_rfl, by kernel_rfl⟩
theorem tyOk126 : (.struct 1 [(9, 0, 1)] : TyD).ok Try.prog 126 := ⟨⟨_, Try.underlying126⟩, by kernel_rfl, by kernel_rfl⟩
theorem tyOk : TyOk Try.prog ty := ⟨tyOk2, tyOk3, tyOk4, tyOk5, tyOk6, tyOk7, tyOk8, tyOk9, tyOk10, tyOk11, tyOk12, tyOk13, tyOk14, tyOk15, tyOk16, tyOk17, tyOk18, tyOk19, tyOk21, tyOk22, tyOk24, tyOk35, tyOk36, tyOk37, tyOk45, tyOk47, tyOk54, tyOk55, tyOk56, tyOk59, tyOk60, tyOk61, tyOk66, tyOk73, tyOk80, tyOk82, tyOk94, tyOk95, tyOk99, tyOk100, tyOk109, tyOk110, tyOk111, tyOk113, tyOk114, tyOk116, tyOk117, tyOk119, tyOk120, tyOk121, tyOk122, tyOk123, tyOk125, tyOk126, trivial⟩
end K
end Go.Proofs.Ytfpakjbaiohcaaa

namespace Go.Proofs.Ytfpakjbaiohcaaa
open Go.RowKit
namespace K

def Bu (w : World) (v : Value) (l : List Int) : Prop := Buf .u8 5 w 0 v l
def Grow (w : World) (v : Value) (w' : World) (v' : Value) : Prop :=
  Keep (fun b => b < w.heap.size ∧ v.ownBlock ≠ some b) w w' ∧ ∀ g, v'.ownBlock = some g → v.ownBlock = some g ∨ w.heap.size ≤ g

theorem Grow.refl (w : World) (v : Value) : Grow w v w v := ⟨Keep.refl _ _, fun _ h => .inl h⟩
theorem Grow.trans {w w1 w2 : World} {v v1 v2 : Value} (h : Grow w v w1 v1) (k : Grow w1 v1 w2 v2) : Grow w v w2 v2 :=
  ⟨h.1.trans (k.1.mono fun b hb => ⟨Nat.lt_of_lt_of_le hb.1 h.1.size, fun e => (h.2 b e).elim hb.2 (fun h2 => absurd hb.1 (by omega))⟩),
   fun g hg => (k.2 g hg).elim (h.2 g) (fun h2 => .inr (Nat.le_trans h.1.size h2))⟩
theorem Grow.below {w w1 w2 : World} {v v1 : Value} (h : Grow w v w1 v1) (k : Below w1.heap.size w1 w2) : Grow w v w2 v1 :=
  ⟨h.1.trans ((Keep.of_below k).mono fun _ hb => Nat.lt_of_lt_of_le hb.1 h.1.size), h.2⟩
theorem Grow.old {w w' : World} {v v' : Value} (h : Grow w v w' v') {B : Nat} (hB : B ≤ w.heap.size) (hv : ∀ g, v.ownBlock = some g → B ≤ g) : Below B w w' :=
  (h.1.mono fun b (hb : b < B) => ⟨Nat.lt_of_lt_of_le hb hB, fun e => absurd (hv b e) (by omega)⟩).below
theorem Grow.own {w w' : World} {v v' : Value} (h : Grow w v w' v') {B : Nat} (hB : B ≤ w.heap.size) (hv : ∀ g, v.ownBlock = some g → B ≤ g) : ∀ g, v'.ownBlock = some g → B ≤ g :=
  fun g hg => (h.2 g hg).elim (hv g) (fun h2 => Nat.le_trans hB h2)

theorem Bu.nil (w : World) : Bu w (.slice none 0 0) [] := Buf.nil _ _ _ _
theorem Bu.lt {w : World} {v : Value} {l : List Int} (h : Bu w v l) : ∀ g, v.ownBlock = some g → g < w.heap.size := fun g hg => (Buf.own h g hg).2
theorem Bu.keep {K : Nat → Prop} {w w' : World} {v : Value} {l : List Int} (h : Bu w v l) (hk : Keep K w w') (hK : ∀ g, v.ownBlock = some g → K g) : Bu w' v l :=
  Buf.keep h hk fun g _ _ hg => hK g hg
theorem Bu.below {w w' : World} {v : Value} {l : List Int} (h : Bu w v l) (hk : Below w.heap.size w w') : Bu w' v l := Buf.below h hk (Nat.le_refl _)
theorem Bu.sl {w : World} {v : Value} {l : List Int} (h : Bu w v l) : Sl .u8 w v l := Buf.sl h
theorem Bu.new (w : World) (l : List Int) (hm : l.length ≤ maxLen) : Bu (w.alloc (.cells (l.map (Value.int .u8)).toArray 5)) (.slice (some ⟨w.heap.size, 0, none⟩) l.length l.length) l := by
  have := Buf.mk (k := .u8) (e := 5) (w := w) (base := 0) l [] (Nat.zero_le _) (by simpa using hm)
  simpa [Bu] using this

theorem Sl.slV {w : World} {v : Value} {l : List Int} (h : Sl .u8 w v l) : SlV w (fun _ => True) 1 v l.length (l.map (Value.int .u8)) := by
  obtain ⟨sp, cap, rfl, h1, h2, h3, h4⟩ := h; refine ⟨by simp, Ones.int _ _, sp, cap, rfl, h1, h2, h4, fun h0 => ?_⟩; obtain ⟨b, o, e, hb, hr⟩ := h3 h0; refine ⟨b, o, e, hb, trivial, fun j hj => ?_⟩; rw [List.length_map] at hj; rw [hr j hj]; simp [nth, hj]

theorem elemU8 : ElemV Try.prog 47 5 1 1 := ElemV.mk' (z := .int .u8 0) Try.underlying47 (by kernel_rfl) rfl (by omega)

theorem bytesWorld_below (w : World) (e : TypeId) (s : ByteArray) : Below w.heap.size w (Lib.bytesWorld w e s) :=
  ⟨rfl, rfl, rfl, by rw [Lib.bytesWorld_size]; omega, fun k hk => Lib.bytesWorld_at_old w e s k hk⟩

theorem Bu.form {w : World} {v : Value} {l : List Int} (h : Bu w v l) : ∃ sp c, v = .slice sp l.length c ∧ l.length ≤ c ∧ c ≤ 9223372036854775807 := by
  obtain ⟨sp, c, h1, h2, h3, -⟩ := Bu.sl h; exact ⟨sp, c, h1, h2, h3⟩
theorem Bu.at {w : World} {v : Value} {l : List Int} (h : Bu w v l) {j : Nat} (hj : j < l.length) : ∃ g c, v = .slice (some ⟨g, 0, none⟩) l.length c ∧ v.ownBlock = some g ∧ w.cell? ⟨g, j, none⟩ = some (.int .u8 (nth l j)) ∧ w.frozen? ⟨g, j, none⟩ = false ∧
    ∀ x, Bu (w.setCell ⟨g, j, none⟩ (.int .u8 x)) v (l.set j x) ∧ Grow w v (w.setCell ⟨g, j, none⟩ (.int .u8 x)) v := by
  have ho : OwnV 5 1 w (fun g => v.ownBlock = some g) v l.length (l.map (Value.int .u8)) := ⟨h, Ones.int _ _, fun g hg => hg⟩; rcases Buf.block h with ⟨-, rfl⟩ | ⟨g, c, rest, rfl, -⟩
  · simp at hj
  · have hat := ho.at j (by simpa using hj)
    have hnth : (l.map (Value.int .u8)).getD j undef = .int .u8 (nth l j) := by simp [nth, hj]
    rw [hnth] at hat; refine ⟨g, c, rfl, rfl, hat, ho.free j, fun x => ⟨?_, ?_, fun g2 hg2 => .inl hg2⟩⟩
    · have := (ho.stored j (u := .int .u8 x) rfl).1
      rw [← List.map_set] at this
      show World.ownsRow _ _ _ _ _ _ _
      rw [List.length_set]; exact this
    · exact (Keep.refl _ w).setCell (fun hk => hk.2 rfl) _

structure Fresh (w : World) (g : Nat) (w' : World) (T : TypeId) (cs : List Value) : Prop where
  eq : g = w.heap.size
  blk : VBlk T w' g cs
  below : Below w.heap.size w w'
  size : w'.heap.size = w.heap.size + 1
theorem Fresh.mk' (w : World) (T : TypeId) (cs : List Value) : Fresh w w.heap.size (w.alloc (.cells cs.toArray T)) T cs :=
  ⟨rfl, VBlk.mk w cs T, (Below.refl _ w).alloc (Nat.le_refl _) _, by show (w.heap.push _).size = _; simp⟩

theorem VBlk.rangeAt {T : TypeId} {w : World} {b : Nat} {cs : List Value} (h : VBlk T w b cs) : w.rangeAt b 0 cs := by
  intro j v hj; have hlt : j < cs.length := by
    rcases Nat.lt_or_ge j cs.length with h | h
    · exact h
    · rw [List.getElem?_eq_none h] at hj; cases hj
  have := h.cell j hlt; rw [Nat.zero_add]; rw [this]; simp [List.getD_eq_getElem?_getD, hj]
end K
end Go.Proofs.Ytfpakjbaiohcaaa

namespace Go.Proofs.Ytfpakjbaiohcaaa
open Go.RowKit
namespace K
variable {n : NN} {Q : Exit → Act → World → Prop} {l : Env} {w w' : World} {ops : Array Oper} {o : Oper} {rest : List Oper} {d : Nat}

theorem WL.le {m : Env} (hs : ∀ k v, look m k = some v → look l k = some v) (h : WL n ops Q rest m w) : WL n ops Q rest l w := ⟨fun a ha => h.go a ⟨ha.size, ha.defers, fun k v hk => ha.slot k v (hs k v hk)⟩⟩
theorem WL.as (k : Nat) (v' : Value) {v : Value} (hk : look l k = some v) (e : v = v') (h : WL n ops Q rest ((k, v') :: l) w) : WL n ops Q rest l w :=
  h.le fun j u hj => by
    unfold look at hj; cases hb : Nat.beq k j with
    | true =>
      rw [hb] at hj; obtain rfl : k = j := Nat.eq_of_beq_eq_true hb; obtain rfl : v' = u := Option.some.inj hj; subst e; exact hk
    | false => rw [hb] at hj; exact hj
theorem look_free {d d2 : Nat} {u v' : Value} (hf : look l d = none) : ∀ k v, look ((d2, v') :: l) k = some v → look ((d2, v') :: (d, u) :: l) k = some v := by
  intro k v hk; unfold look at hk ⊢; cases hb : Nat.beq d2 k with
  | true => rw [hb] at hk; exact hk
  | false =>
    rw [hb] at hk; unfold look; cases hb2 : Nat.beq d k with
    | true => obtain rfl : d = k := Nat.eq_of_beq_eq_true hb2; rw [cond_false] at hk; rw [hf] at hk; cases hk
    | false => exact hk
theorem WL.nil (h : WQ n Q .normal l w) : WL n ops Q [] l w := ⟨fun a ha => lw_nil (h.go a ha)⟩
theorem WL.step {v : Value} (hg : o.guard = none) (hd : o.dst = some d) (hn : Nat.blt d n.n = true) (hr : ∀ a, Fr n a l → (execOp a.eval o).run Try.prog w = .ok (.value v) w')
    (h : WL n ops Q rest ((d, v) :: l) w') : WL n ops Q (o :: rest) l w :=
  ⟨fun a ha => lw_value hg (hr a ha) (by rw [hd]; exact h.go _ (ha.put hn v))⟩
theorem WL.stepU (hg : o.guard = none) (hd : o.dst = none) (hr : ∀ a, Fr n a l → (execOp a.eval o).run Try.prog w = .ok .skip w') (h : WL n ops Q rest l w') : WL n ops Q (o :: rest) l w :=
  ⟨fun a ha => lw_skip hg (hr a ha) (by rw [hd]; exact h.go _ (ha.none _))⟩
theorem WL.pure {v : Value} (hg : o.guard = none) (hd : o.dst = some d) (hn : Nat.blt d n.n = true) (hv : pv ty l o.op = some v) (h : WL n ops Q rest ((d, v) :: l) w) : WL n ops Q (o :: rest) l w :=
  WL.step hg hd hn (fun _ ha => pv_run tyOk ha hv w) h
theorem WL.pureAs {v : Value} (v' : Value) (hg : o.guard = none) (hd : o.dst = some d) (hn : Nat.blt d n.n = true) (hv : pv ty l o.op = some v) (e : v = v') (h : WL n ops Q rest ((d, v') :: l) w) : WL n ops Q (o :: rest) l w :=
  WL.step hg hd hn (fun _ ha => pv_run tyOk ha (hv.trans (congrArg some e)) w) h
theorem WL.top {v v' : Value} (e : v = v') (h : WL n ops Q rest ((d, v') :: l) w) : WL n ops Q rest ((d, v) :: l) w := by subst e; exact h
theorem WL.topT {p : Prop} [Decidable p] (hp : p) (h : WL n ops Q rest ((d, .bool true) :: l) w) : WL n ops Q rest ((d, .bool (decide p)) :: l) w := WL.top (congrArg Value.bool (decide_eq_true hp)) h
theorem WL.topF {p : Prop} [Decidable p] (hp : ¬ p) (h : WL n ops Q rest ((d, .bool false) :: l) w) : WL n ops Q rest ((d, .bool (decide p)) :: l) w := WL.top (congrArg Value.bool (decide_eq_false hp)) h
theorem WL.top64 {x : Int} (hx : -9223372036854775808 ≤ x ∧ x ≤ 9223372036854775807) (h : WL n ops Q rest ((d, .int .i64 x) :: l) w) : WL n ops Q rest ((d, .int .i64 (IntKind.wrap .i64 x)) :: l) w := WL.top (congrArg (Value.int .i64) (IntWalk.i64_in _ hx)) h
def isB : Value → Option Bool
  | .bool b => some b
  | _ => none
def asked (b : Bool) : Option Bool → Bool
  | some c => c == b
  | none => false
def wants (ops : Array Oper) (l : Env) (o : Oper) : Option Bool :=
  match o.guard with
  | none => some true
  | some (j, b) => match (ops[j]?).bind (·.dst) with
    | some t => match look l t with
      | some v => some (asked b (isB v))
      | none => none
    | none => none
theorem wants_run {a : Act} {b : Bool} (ha : Fr n a l) (h : wants ops l o = some b) : Region.wanted o (yielded ops a.tmps) = b := by
  unfold wants at h; unfold Region.wanted yielded; cases hg : o.guard with
  | none => rw [hg] at h; obtain rfl := Option.some.inj h; rfl
  | some x =>
    obtain ⟨j, wt⟩ := x; rw [hg] at h; simp only at h ⊢; cases hj : (ops[j]?).bind (·.dst) with
    | none => rw [hj] at h; cases h
    | some t =>
      rw [hj] at h; simp only at h
      split at h
      · rename_i v hl
        obtain rfl := Option.some.inj h; simp only [Option.bind_some, ha.slot t _ hl]; cases v <;> rfl
      · cases h
theorem WL.on (hw : wants ops l o = some true) (_hg : o.guard.isSome = true) (h : WL n ops Q ({ o with guard := none } :: rest) l w) : WL n ops Q (o :: rest) l w :=
  ⟨fun a ha => lw_on (wants_run ha hw) (h.go a ha)⟩
theorem WL.off (hw : wants ops l o = some false) (hd : o.dst = some d) (hn : Nat.blt d n.n = true) (h : WL n ops Q rest ((d, undef) :: l) w) : WL n ops Q (o :: rest) l w :=
  ⟨fun a ha => lw_off (wants_run ha hw) (by rw [hd]; exact h.go _ (ha.put hn undef))⟩

def scal : Option TyD → Bool
  | some (.struct _ _) | some (.arr _ _ _) | none => false
  | _ => true
theorem scal_run {t : Nat} (h : scal (tyOf ty t) = true) (p : Addr) {v : Value} (hc : w.cell? p = some v) : (loadVar t p).run Try.prog w = .ok v w := by
  cases ht : tyOf ty t with
  | none => rw [ht] at h; cases h
  | some x =>
    rw [ht] at h; have hagg : (isAgg t).run Try.prog w = .ok false w := by
      unfold isAgg; rw [Sem.run_bind]; cases x with
      | int k => have := TyOk.of tyOk ht; rw [run_underlying this w]; rfl
      | str => have := TyOk.of tyOk ht; rw [run_underlying this w]; rfl
      | bool => have := TyOk.of tyOk ht; rw [run_underlying this w]; rfl
      | ptr e => have := TyOk.of tyOk ht; rw [run_underlying this w]; rfl
      | map k e => have := TyOk.of tyOk ht; rw [run_underlying this w]; rfl
      | slice e s => have := TyOk.of tyOk ht; rw [run_underlying this.1 w]; rfl
      | struct m fs => cases h
      | arr m e s => cases h
    simp [loadVar, Sem.run_bind, hagg, hc]
theorem WL.load {t : Nat} {x : Operand} {p : Addr} {v : Value} (hg : o.guard = none) (hd : o.dst = some d) (hn : Nat.blt d n.n = true) (ho : o.op = .load t x) (hx : evl l x = some (.pointer (some p))) (ht : scal (tyOf ty t) = true)
    (hc : w.cell? p = some v) (h : WL n ops Q rest ((d, v) :: l) w) : WL n ops Q (o :: rest) l w :=
  WL.step hg hd hn (fun a ha => by unfold execOp; rw [ho]; simp [ha.eval hx, Instr.loadAt, Instr.sureAddr, scal_run ht p hc]) h
theorem WL.loadMid {t : Nat} {x : Operand} {b off m : Nat} {cs : List Value} (hg : o.guard = none) (hd : o.dst = some d) (hn : Nat.blt d n.n = true) (ho : o.op = .load t x)
    (hx : evl l x = some (.pointer (some ⟨b, off, none⟩))) (ht : cellsN (tyOf ty t) = some m) (hc : w.rangeAt b off cs) (hm : cs.length = m) (h : WL n ops Q rest ((d, .agg cs.toArray) :: l) w) : WL n ops Q (o :: rest) l w :=
  WL.step hg hd hn (fun a ha => by
    obtain ⟨d, hu, hd, hsz⟩ := cellsN_ok tyOk ht; unfold execOp; rw [ho]; have := run_loadVar_mid (P := Try.prog) w b off t cs _ hc hu hd (by rw [hsz, hm]); simp [ha.eval hx, Instr.loadAt, Instr.sureAddr, this]) h
theorem WL.store {t : Nat} {x y : Operand} {p : Addr} {v old : Value} (hg : o.guard = none) (hd : o.dst = none) (ho : o.op = .store t x y) (hx : evl l x = some (.pointer (some p))) (hy : evl l y = some v)
    (hv : v.oneCell' = true) (hsz : (Try.prog.info? t).map (·.size) = some 1) (hc : w.cell? p = some old) (hf : w.frozen? p = false) (h : WL n ops Q rest l (w.setCell p v)) : WL n ops Q (o :: rest) l w :=
  WL.stepU hg hd (fun a ha => by
    have hs : (sizeOf t).run Try.prog w = .ok 1 w := by
      cases hq : Try.prog.info? t with
      | none => rw [hq] at hsz; cases hsz
      | some q => rw [hq] at hsz; simp at hsz; simp [sizeOf, typeInfo, hq, hsz]
    have hvc : v.cells = #[v] := by cases v <;> first | rfl | cases hv
    unfold execOp; rw [ho]; simp only [ha.eval hx, ha.eval hy, Instr.storeAt, Instr.sureAddr, storeVar, Sem.run_bind, Sem.run_pure, Result.andThen_ok, hs, hvc]; simp [storeCells, run_store Try.prog w p v _ hv, hc, hf, Addr.add_zero']) h
theorem WL.storeRow {t m T : Nat} {x y : Operand} {g : Nat} {cs old : List Value} (hg : o.guard = none) (hd : o.dst = none) (ho : o.op = .store t x y) (hx : evl l x = some (.pointer (some ⟨g, 0, none⟩)))
    (hy : evl l y = some (.agg cs.toArray)) (ht : cellsN (tyOf ty t) = some m) (hb : VBlk T w g old) (hm : cs.length = m) (hold : old.length = m) (h1 : Ones cs) (h : WL n ops Q rest l (w.setRow g cs.toArray)) : WL n ops Q (o :: rest) l w :=
  ⟨fun a ha => lw_via hg (by rw [ho]; intro c hc; cases hc) <| wpList_store_rowTo hg t x y ho hd g cs.toArray (ha.eval hx) (ha.eval hy) T old.toArray hb (by obtain ⟨d, -, -, hsz⟩ := cellsN_ok tyOk ht; rw [hsz]; simp [hm]) (by simp [hm, hold])
    (by simp only [List.all_toArray, List.all_eq_true]; exact h1) (h.go a ha)⟩
theorem WL.box {t : Nat} {x : Operand} {v : Value} (hg : o.guard = none) (hd : o.dst = some d) (hn : Nat.blt d n.n = true) (ho : o.op = .box t x) (hx : evl l x = some v)
    (h : ∀ g w', Fresh w g w' t v.cells.toList → WL n ops Q rest ((d, .pointer (some ⟨g, 0, none⟩)) :: l) w') : WL n ops Q (o :: rest) l w :=
  WL.step hg hd hn (fun a ha => by unfold execOp; rw [ho]; simp [ha.eval hx, Instr.box, newVar, newRow]) (h _ _ (Fresh.mk' w t v.cells.toList))
theorem WL.alloc {t : Nat} {z : Value} (hg : o.guard = none) (hd : o.dst = some d) (hn : Nat.blt d n.n = true) (ho : o.op = .alloc t) (hz : ∀ w, (zeroValue t).run Try.prog w = .ok z w)
    (h : ∀ g w', Fresh w g w' t z.cells.toList → WL n ops Q rest ((d, .pointer (some ⟨g, 0, none⟩)) :: l) w') : WL n ops Q (o :: rest) l w :=
  WL.step hg hd hn (fun a ha => by unfold execOp; rw [ho]; simp [Instr.alloc, newVar, newRow, hz]) (h _ _ (Fresh.mk' w t z.cells.toList))
theorem evlAll_map {a : Act} (ha : Fr n a l) : ∀ {xs : List Operand} {vs : List Value}, evlAll l xs = some vs → xs.map a.eval = vs
  | [], vs, h => by cases h; rfl
  | x :: xs, vs, h => by
    unfold evlAll at h
    split at h
    · rename_i v r h1 h2
      obtain rfl := Option.some.inj h; rw [List.map_cons, ha.eval h1, evlAll_map ha h2]
    · cases h
theorem WL.call {f : FuncId} {fn : Func} {args : List Operand} {ts : Array TypeId} {vs : List Value} {R : Ending → World → Prop} (hg : o.guard = none) (hd : o.dst = some d) (hn : Nat.blt d n.n = true)
    (ho : o.op = .call { callee := .value (.func f), args := args.toArray, argTypes := ts }) (hv : evlAll l args = some vs) (hf : Try.prog.funcs[f]? = some fn) (hb : fn.body.isNone = false) (hname : (fn.name == "runtime.NumGoroutine") = false)
    (hc : Calls Try.prog f vs.toArray w R) (h : ∀ e w', R e w' → ∃ v, e = .returned v ∧ WL n ops Q rest ((d, v) :: l) w') : WL n ops Q (o :: rest) l w :=
  ⟨fun a ha => by
    have hrun : (execOp a.eval o).run Try.prog w = .ok (.enter f vs.toArray) w := by
      unfold execOp; rw [ho]; have := evlAll_map ha hv; have e1 : (args.toArray.map a.eval) = vs.toArray := by rw [List.map_toArray, this]
      have e2 : a.eval (.func f) = .func (.func f) #[] #[] := rfl; have hb' : ¬ fn.body = none := fun e => by rw [e] at hb; cases hb
      have hn' : ¬ fn.name = "runtime.NumGoroutine" := by simpa using hname
      simp [resolve, e1, e2, Deferred.ofValue, invoke, callFunc, hf, hb', hn']
    refine lw_enter hg hrun (hc.mono fun e w'' hh => ?_); obtain ⟨v, rfl, hwl⟩ := h e w'' hh; exact ⟨v, rfl, by rw [hd]; exact hwl.go _ (ha.put hn v)⟩⟩
def evI (k : IntKind) (l : Env) : List (Nat × Operand) → Nat → Option (List Int)
  | [], _ => some []
  | (j, x) :: r, i => match Nat.beq j i, evl l x, evI k l r (i + 1) with
    | true, some (.int k' z), some zs => if k' = k then some (z :: zs) else none
    | _, _, _ => none
theorem evI_map {a : Act} (ha : Fr n a l) {k : IntKind} : ∀ {xs : List (Nat × Operand)} {i : Nat} {zs : List Int}, evI k l xs i = some zs → (xs.map fun x => (x.1, a.eval x.2)) = (((zs.map (Value.int k)).zipIdx i).map fun x => (x.2, x.1)) ∧ xs.length = zs.length
  | [], _, zs, h => by cases h; exact ⟨rfl, rfl⟩
  | (j, x) :: xs, i, zs, h => by
    unfold evI at h
    split at h
    · rename_i k' z r hb hx hr
      split at h
      · rename_i e
        subst e; obtain rfl := Option.some.inj h; obtain ⟨h1, h2⟩ := evI_map ha hr; obtain rfl : j = i := Nat.eq_of_beq_eq_true hb; refine ⟨?_, by simp [h2]⟩; rw [List.map_cons, h1, ha.eval hx]
        rfl
      · cases h
    · cases h
theorem WL.lit {len : Nat} {parts : List (Nat × Operand)} {zs : List Int} (hg : o.guard = none) (hd : o.dst = some d) (hn : Nat.blt d n.n = true) (ho : o.op = .buildSlice 47 len parts.toArray) (hz : evI .u8 l parts 0 = some zs)
    (hl : Nat.beq len zs.length = true) (hs : (Nat.blt 0 len && Nat.blt len 1000) = true)
    (h : ∀ v w', Bu w' v zs → Below w.heap.size w w' → (∀ g, v.ownBlock = some g → w.heap.size ≤ g) → WL n ops Q rest ((d, v) :: l) w') : WL n ops Q (o :: rest) l w := by
  have hl' : len = zs.length := Nat.eq_of_beq_eq_true hl; rw [Bool.and_eq_true, Nat.blt_eq, Nat.blt_eq] at hs; obtain ⟨hs1, hs2⟩ := hs; have hq : (Try.prog.info? 5).map (fun i => (i.zero, i.size)) = some (some (.int .u8 0), 1) := by kernel_rfl
  obtain ⟨ie, hie, he⟩ := Option.map_eq_some_iff.1 hq; obtain ⟨hz0, hsz⟩ := Prod.mk.inj he; refine WL.step hg hd hn (w' := w.alloc (.cells (zs.map (Value.int .u8)).toArray 5)) (v := .slice (some ⟨w.heap.size, 0, none⟩) len len) (fun a ha => ?_) (h _ _ ?_ ?_ ?_)
  · unfold execOp
    rw [ho]; obtain ⟨h1, h2⟩ := evI_map ha hz; have hf : Instr.fill (fun i => some (i * ie.size, ie.size)) ((Array.range (len * ie.size)).map ((Value.int .u8 0).cells[· % (Value.int .u8 0).cells.size]!)) (parts.toArray.map fun x => (x.1, a.eval x.2)).toList = some (zs.map (Value.int .u8)).toArray := by
      rw [Array.toList_map, h1, hsz]; exact Great.fill_flat _ _ (fun v hv => by obtain ⟨m, _, rfl⟩ := List.mem_map.1 hv; rfl) (by simp [hl'])
    have := run_buildSlice (P := Try.prog) w 47 5 len (parts.toArray.map fun x => (x.1, a.eval x.2)) _ ie _ Try.underlying47 hie hz0 (by rw [hsz]; omega) (by rw [hsz]; omega) hf; simp only [Sem.run_bind, this, Result.andThen_ok]
    rfl
  · rw [hl']; exact Bu.new w zs (by unfold maxLen; omega)
  · exact (Below.refl _ w).alloc (Nat.le_refl _) _
  · intro g hg2; cases hg2; exact Nat.le_refl _
theorem WL.app {s x : Operand} {v xv : Value} {l1 l2 : List Int} (hg : o.guard = none) (hd : o.dst = some d) (hn : Nat.blt d n.n = true)
    (ho : o.op = .call { callee := .builtin .append, args := #[s, x], argTypes := #[47, 47] }) (hs : evl l s = some v) (hown : Bu w v l1) (hx : evl l x = some xv) (hsl : Sl .u8 w xv l2) (hb : l1.length + l2.length ≤ 140737488355328)
    (h : ∀ v' w', Bu w' v' (l1 ++ l2) → Grow w v w' v' → WL n ops Q rest ((d, v') :: l) w') : WL n ops Q (o :: rest) l w :=
  ⟨fun a ha => by
    have ho1 : OwnV 5 1 w (fun g => v.ownBlock = some g) v l1.length (l1.map (Value.int .u8)) := ⟨hown, Ones.int _ _, fun g hg => hg⟩; refine lw_via hg (by rw [ho]; intro c hc; cases hc) ?_; refine wpList_appV hg s x 47 ho elemU8 (ha.eval hs) ho1 (ha.eval hx) (Sl.slV hsl) rfl (by unfold maxLen; omega) (by omega) ?_; intro sp c w' h2 h3 h4; rw [hd]; refine (h _ w' ?_ ⟨grown_keep h3, fun g hg => (h4 g hg).imp id (fun e => by omega)⟩).go _ (ha.put hn _); have h5 := h2.1; rw [← List.map_append] at h5
    show World.ownsRow _ _ _ _ _ _ _
    rw [List.length_append]; exact h5⟩
theorem WL.push {o2 : Oper} {d2 : Nat} {len : Nat} {parts : List (Nat × Operand)} {zs : List Int} {s : Operand} {v : Value} {l1 : List Int} (hg : o.guard = none) (hd : o.dst = some d) (hn : Nat.blt d n.n = true) (ho : o.op = .buildSlice 47 len parts.toArray)
    (hz : evI .u8 l parts 0 = some zs) (hl : Nat.beq len zs.length = true) (hs : (Nat.blt 0 len && Nat.blt len 1000) = true) (hg2 : o2.guard = none) (hd2 : o2.dst = some d2) (hn2 : Nat.blt d2 n.n = true)
    (ho2 : o2.op = .call { callee := .builtin .append, args := #[s, .tmp d], argTypes := #[47, 47] }) (hsv : ∀ u, evl ((d, u) :: l) s = some v) (hfr : look l d = none) (hown : Bu w v l1) (hb : l1.length + zs.length ≤ 140737488355328)
    (h : ∀ v' w', Bu w' v' (l1 ++ zs) → Grow w v w' v' → WL n ops Q rest ((d2, v') :: l) w') : WL n ops Q (o :: o2 :: rest) l w := by
  refine WL.lit hg hd hn ho hz hl hs fun u w1 hu hb1 _ => ?_; refine WL.app hg2 hd2 hn2 ho2 (hsv u) (hown.below hb1) (by unfold evl look; simp) hu.sl hb fun v' w2 h2 g2 => ?_; exact (h v' w2 h2 (((Grow.refl w v).below hb1).trans g2)).le (look_free hfr)
end K
end Go.Proofs.Ytfpakjbaiohcaaa

namespace Go.Proofs.Ytfpakjbaiohcaaa
open Go.RowKit
namespace K
variable {n : NN} {Q : Exit → Act → World → Prop} {l : Env} {w w' : World} {ops : Array Oper} {o : Oper} {rest : List Oper} {d : Nat}

theorem WQ.then {K : Act → World → Prop} {c : Code} (hK : K = cw n.md Try.prog c Q) (h : WC n c Q l w) : WQ n (Exit.then K Q) .normal l w := ⟨fun a ha => by subst hK; exact h.go a ha⟩
theorem WQ.thenExit {K : Act → World → Prop} {id : Nat} (h : WQ n Q (.exit id) l w) : WQ n (Exit.then K Q) (.exit id) l w := ⟨fun a ha => h.go a ha⟩
theorem WQ.thenRet {K : Act → World → Prop} (h : WQ n Q .ret l w) : WQ n (Exit.then K Q) .ret l w := ⟨fun a ha => h.go a ha⟩
theorem WQ.blk {id : Nat} (h : WQ n Q .normal l w) : WQ n (Exit.inBlock id Q) .normal l w := ⟨fun a ha => h.go a ha⟩
theorem WQ.blkRet {id : Nat} (h : WQ n Q .ret l w) : WQ n (Exit.inBlock id Q) .ret l w := ⟨fun a ha => h.go a ha⟩
theorem WQ.blkHere {id id' : Nat} (hi : Nat.beq id' id = true) (h : WQ n Q .normal l w) : WQ n (Exit.inBlock id Q) (.exit id') l w :=
  ⟨fun a ha => by show if id' = id then Q .normal a w else Q (.exit id') a w; rw [if_pos (Nat.eq_of_beq_eq_true hi)]; exact h.go a ha⟩
theorem WQ.blkOther {id id' : Nat} (hi : Nat.beq id' id = false) (h : WQ n Q (.exit id') l w) : WQ n (Exit.inBlock id Q) (.exit id') l w :=
  ⟨fun a ha => by show if id' = id then Q .normal a w else Q (.exit id') a w; rw [if_neg (Nat.ne_of_beq_eq_false hi)]; exact h.go a ha⟩
theorem WQ.again {ι : Type} {L : ι → Env} {W : ι → World → Prop} {μ : ι → Nat} {i : ι} (j : ι) (hs : Sub l (L j)) (hw : W j w) (hm : μ j < μ i) : WQ n (Exit.then (Again n L W μ i) Q) .normal l w :=
  ⟨fun _ ha => ⟨j, ha.sub hs, hw, hm⟩⟩
theorem WC.mid {ι : Type} {x y : Code} {K : Act → World → Prop} (L : ι → Env) (W : ι → World → Prop) (hK : K = cw n.md Try.prog y Q) (h1 : WC n x (Exit.then (Meet n L W) Q) l w) (h2 : ∀ i w', W i w' → WC n y Q (L i) w') : WC n x (Exit.then K Q) l w :=
  ⟨fun a ha => cw_mono (fun e a w q => by
    subst hK; cases e with
    | normal => obtain ⟨i, hf, hw⟩ := q; exact (h2 i w hw).go a hf
    | exit id => exact q
    | goto l => exact q
    | ret => exact q
    | panic ch => exact q
    | outgrown => exact q) (h1.go a ha)⟩
theorem WL.mid {ι : Type} {y : Code} {K : Act → World → Prop} (L : ι → Env) (W : ι → World → Prop) (hK : K = cw n.md Try.prog y Q) (h1 : WL n ops (Exit.then (Meet n L W) Q) rest l w) (h2 : ∀ i w', W i w' → WC n y Q (L i) w') : WL n ops (Exit.then K Q) rest l w :=
  ⟨fun a ha => lw_mono (fun e a w q => by
    subst hK; cases e with
    | normal => obtain ⟨i, hf, hw⟩ := q; exact (h2 i w hw).go a hf
    | exit id => exact q
    | goto l => exact q
    | ret => exact q
    | panic ch => exact q
    | outgrown => exact q) (h1.go a ha)⟩
theorem WQ.meet {ι : Type} {L : ι → Env} {W : ι → World → Prop} (i : ι) (hs : Sub l (L i)) (hw : W i w) : WQ n (Exit.then (Meet n L W) Q) .normal l w := ⟨fun _ ha => ⟨i, ha.sub hs, hw⟩⟩
section
variable {fn : Func} {R : Ending → World → Prop}
theorem Fr.getD {a : Act} (ha : Fr n a l) {t : Nat} {v : Value} (h : look l t = some v) : a.tmps.getD t undef = v := by have := ha.slot t v h; rw [Array.getD_eq_getD_getElem?, this]; rfl
theorem WQ.ret1 {kn : Nat} {md : Option (Option Nat)} {t : Nat} {v : Value} (hr : fn.results = #[.tmp t]) (hl : look l t = some v) (h : R (.returned v) w) : WQ ⟨kn, [], md⟩ (bodyPost Try.prog fn R) .ret l w :=
  ⟨fun a ha => ⟨ha.defers, v, by have := ha.getD hl; simp only [Array.getD_eq_getD_getElem?] at this; simp [results, hr, this], h⟩⟩
theorem WQ.ret2 {kn : Nat} {md : Option (Option Nat)} {t t2 : Nat} {v v2 : Value} (hr : fn.results = #[.tmp t, .tmp t2]) (hl : look l t = some v) (hl2 : look l t2 = some v2) (h : R (.returned (.tuple #[v, v2])) w) : WQ ⟨kn, [], md⟩ (bodyPost Try.prog fn R) .ret l w :=
  ⟨fun a ha => ⟨ha.defers, _, by rw [results_tmp2 hr, ha.getD hl, ha.getD hl2], h⟩⟩
end

theorem idx_run {a : Act} {t e s : Nat} {x i : Operand} {b off len cap : Nat} {k : IntKind} {z : Int} {j : Nat} (ho : o.op = .indexAddr t x i) (ht : tyOf ty t = some (.slice e s))
    (hx : a.eval x = .slice (some ⟨b, off, none⟩) len cap) (hi : a.eval i = .int k z) (hz : z = (j : Int)) (hj : j < len) : (execOp a.eval o).run Try.prog w = .ok (.value (.pointer (some ⟨b, off + j * s, none⟩))) w := by
  obtain ⟨hu, hsz⟩ := TyOk.of tyOk ht; have he : Try.prog.elem t = e := by simp [Program.elem, hu]
  have hs : (sizeOf e).run Try.prog w = .ok s w := by
    cases hq : Try.prog.info? e with
    | none => rw [hq] at hsz; cases hsz
    | some q => rw [hq] at hsz; simp at hsz; simp [sizeOf, typeInfo, hq, hsz]
  unfold execOp; rw [ho]; simp only [hx, hi, Sem.run_bind, run_indexAt_slice w t _ len cap k z (by rw [he]; exact hu)]; rw [if_pos (by omega), he, hs, hz]; simp [Addr.add_mid]
theorem WL.idx {t e s : Nat} {x i : Operand} {b off len cap : Nat} {k : IntKind} {z : Int} (j q : Nat) (hg : o.guard = none) (hd : o.dst = some d) (hn : Nat.blt d n.n = true) (ho : o.op = .indexAddr t x i) (ht : tyOf ty t = some (.slice e s))
    (hx : evl l x = some (.slice (some ⟨b, off, none⟩) len cap)) (hi : evl l i = some (.int k z)) (hz : z = (j : Int)) (hj : j < len) (hq : off + j * s = q) (h : WL n ops Q rest ((d, .pointer (some ⟨b, q, none⟩)) :: l) w) : WL n ops Q (o :: rest) l w :=
  WL.step hg hd hn (fun _ ha => by rw [← hq]; exact idx_run ho ht (ha.eval hx) (ha.eval hi) hz hj) h
theorem WL.idxI {t e : Nat} {x i : Operand} {v : Value} {k kk : IntKind} {z : Int} {zs : List Int} (j : Nat) (hg : o.guard = none) (hd : o.dst = some d) (hn : Nat.blt d n.n = true) (ho : o.op = .indexAddr t x i) (ht : tyOf ty t = some (.slice e 1))
    (hx : evl l x = some v) (hsl : Sl kk w v zs) (hi : evl l i = some (.int k z)) (hz : z = (j : Int)) (hj : j < zs.length) (h : ∀ p, w.cell? p = some (.int kk (nth zs j)) → WL n ops Q rest ((d, .pointer (some p)) :: l) w) : WL n ops Q (o :: rest) l w := by
  obtain ⟨sp, cap, rfl, -, -, h3, -⟩ := hsl; obtain ⟨b, off, rfl, -, hr⟩ := h3 (by omega); exact WL.idx j (off + j) hg hd hn ho ht hx hi hz hj (by rw [Nat.mul_one]) (h _ (hr.at j hj))
theorem byte_run {a : Act} {t : Nat} {x i : Operand} {s : ByteArray} {k : IntKind} {z : Int} {j : Nat} (ho : o.op = .index t x i) (ht : tyOf ty t = some .str)
    (hx : a.eval x = .string s) (hi : a.eval i = .int k z) (hz : z = (j : Int)) (hj : j < s.size) : (execOp a.eval o).run Try.prog w = .ok (.value (.int .u8 (s.toList.getD j 0).toNat)) w := by
  unfold execOp; rw [ho]; simp only [hx, hi, Sem.run_bind, run_index_string w t s k z (TyOk.of tyOk ht)]; subst hz; rw [dif_pos (by omega)]; have : (s.toList.getD j 0) = s[j] := by
    rw [ByteArray.toList_eq]; have : j < s.data.toList.length := by rw [Array.length_toList]; exact hj
    rw [List.getD_eq_getElem?_getD, List.getElem?_eq_getElem this]
    rfl
  rw [this]
  rfl
theorem WL.byte {t : Nat} {x i : Operand} {s : ByteArray} {k : IntKind} {z : Int} (j : Nat) (hg : o.guard = none) (hd : o.dst = some d) (hn : Nat.blt d n.n = true) (ho : o.op = .index t x i) (ht : tyOf ty t = some .str)
    (hx : evl l x = some (.string s)) (hi : evl l i = some (.int k z)) (hz : z = (j : Int)) (hj : j < s.size) (h : WL n ops Q rest ((d, .int .u8 (s.toList.getD j 0).toNat) :: l) w) : WL n ops Q (o :: rest) l w :=
  WL.step hg hd hn (fun _ ha => byte_run ho ht (ha.eval hx) (ha.eval hi) hz hj) h
def bytesI (s : ByteArray) : List Int := s.toList.map fun c => (c.toNat : Int)
theorem bytesI_len (s : ByteArray) : (bytesI s).length = s.size := by unfold bytesI; rw [List.length_map, ByteArray.toList_eq]; rfl
theorem nth_bytesI (s : ByteArray) {j : Nat} (hj : j < s.size) : nth (bytesI s) j = (s.toList.getD j 0).toNat := by
  have h : j < s.toList.length := by rw [ByteArray.toList_eq, Array.length_toList]; exact hj
  unfold bytesI nth; simp [h]
theorem WL.bytesOf {t t2 e : Nat} {x : Operand} {s : ByteArray} (hg : o.guard = none) (hd : o.dst = some d) (hn : Nat.blt d n.n = true) (ho : o.op = .convert t t2 x) (ht : tyOf ty t = some .str) (ht2 : tyOf ty t2 = some (.slice e 1)) (he : tyOf ty e = some (.int .u8))
    (hx : evl l x = some (.string s)) (hsz : s.size ≤ 140737488355328) (h : ∀ g c w', Sl .u8 w' (.slice (some ⟨g, 0, none⟩) s.size c) (bytesI s) → Below w.heap.size w w' → w.heap.size = g → WL n ops Q rest ((d, .slice (some ⟨g, 0, none⟩) s.size c) :: l) w') : WL n ops Q (o :: rest) l w := by
  have hl := bytesI_len s; have hb := bytesWorld_below w e s; refine WL.step hg hd hn (fun a ha => ?_) (h w.heap.size (grownCap w s.size 0 e) (Lib.bytesWorld w e s) ?_ hb rfl)
  · unfold execOp
    rw [ho]; have := Lib.run_convert_string_bytes (P := Try.prog) w t t2 e s (TyOk.of tyOk ht) (TyOk.of tyOk ht2).1 (TyOk.of tyOk he); simp [ha.eval hx, this]
  · have hm := grownCap_le_maxLen w s.size 0 e (by unfold maxLen; omega)
    unfold maxLen at hm; have hr : Row .u8 (Lib.bytesWorld w e s) w.heap.size 0 (bytesI s) := by
      intro j hj; rw [hl] at hj; rw [Nat.zero_add, Lib.bytesWorld_cell w e s j hj, nth_bytesI s hj, ByteArray.toList_eq]
    have := Sl.mk (cap := grownCap w s.size 0 e) (by rw [hl]; exact grownCap_ge _ _ _ _) (by omega) (by rw [Lib.bytesWorld_size]; omega) hr; rw [hl] at this; exact this
theorem WL.strOf {t t2 e : Nat} {x : Operand} {v : Value} {zs : List Int} (hg : o.guard = none) (hd : o.dst = some d) (hn : Nat.blt d n.n = true) (ho : o.op = .convert t t2 x) (ht : tyOf ty t = some (.slice e 1)) (ht2 : tyOf ty t2 = some .str) (he : tyOf ty e = some (.int .u8))
    (hx : evl l x = some v) (hs : Sl .u8 w v zs) (h : WL n ops Q rest ((d, .string (strOfNums zs)) :: l) w) : WL n ops Q (o :: rest) l w :=
  WL.step hg hd hn (fun a ha => by
    unfold execOp; rw [ho]; have hu := (TyOk.of tyOk ht).1; have hi := TyOk.of tyOk he; have hd := TyOk.of tyOk ht2; obtain ⟨sp, cap, rfl, -, -, h3, -⟩ := hs; have hrun : (convert t t2 (.slice sp zs.length cap)).run Try.prog w = .ok (.string (strOfNums zs)) w := by
      cases hz : zs with
      | nil =>
        cases sp with
        | none => rw [run_convert_bytes_nil w t e hu hi _ _ t2 hd]; rfl
        | some p =>
          have hl0 : (loadCells p 0).run Try.prog w = .ok (([] : List Int).map (Value.int .u8)).toArray w := by rfl
          rw [run_convert_bytes_string w t t2 e _ _ _ hu hi hd, List.length_nil, run_bytesToString w _ 0 cap [] hl0]
          rfl
      | cons z r =>
        obtain ⟨b, off, rfl, -, hr⟩ := h3 (by rw [hz]; simp); rw [← hz]; exact run_convert_bytes_arg w t e hu hi b off zs.length cap zs rfl (fun i hi => hr i hi) t2 hd
    simp [ha.eval hx, hrun]) h
theorem WL.substrTo {t : Nat} {x hi : Operand} {s : ByteArray} {k' : IntKind} {z : Int} (hg : o.guard = none) (hd : o.dst = some d) (hn : Nat.blt d n.n = true) (ho : o.op = .slice t x none (some hi) none) (ht : tyOf ty t = some .str)
    (hx : evl l x = some (.string s)) (hhi : evl l hi = some (.int k' z)) (h0 : 0 ≤ z) (h2 : z ≤ s.size) (h : WL n ops Q rest ((d, .string (s.extract 0 z.toNat)) :: l) w) : WL n ops Q (o :: rest) l w :=
  WL.step hg hd hn (fun a ha => by
    unfold execOp; rw [ho]; have hu := TyOk.of tyOk ht; have := run_slice_string_to_if (P := Try.prog) w t s k' z hu; rw [if_pos ⟨h0, h2⟩] at this; simp [ha.eval hx, ha.eval hhi, run_sliceAt_string w t _ _ _ _ hu, this]) h
theorem WL.concat {t t2 : Nat} {x y : Operand} {a b : ByteArray} (hg : o.guard = none) (hd : o.dst = some d) (hn : Nat.blt d n.n = true) (ho : o.op = .binOp .add t x y t2) (hx : evl l x = some (.string a)) (hy : evl l y = some (.string b))
    (hb : a.size + b.size ≤ 140737488355328) (h : WL n ops Q rest ((d, .string (a ++ b)) :: l) w) : WL n ops Q (o :: rest) l w :=
  WL.step hg hd hn (fun c hc => by
    unfold execOp; rw [ho]; have := run_string_add_if (P := Try.prog) w a b; rw [if_neg (by omega)] at this; simp [hc.eval hx, hc.eval hy, eqGuard_add, binOp_string_add, this]) h
def evlParts (l : Env) : List (Nat × Operand) → Option (List (Nat × Value))
  | [] => some []
  | (i, x) :: r => match evl l x, evlParts l r with
    | some v, some vs => some ((i, v) :: vs)
    | _, _ => none
theorem evlParts_map {a : Act} (ha : Fr n a l) : ∀ {xs : List (Nat × Operand)} {vs : List (Nat × Value)}, evlParts l xs = some vs → (xs.map fun x => (x.1, a.eval x.2)) = vs
  | [], vs, h => by cases h; rfl
  | (i, x) :: xs, vs, h => by
    unfold evlParts at h
    split at h
    · rename_i v r h1 h2
      obtain rfl := Option.some.inj h; rw [List.map_cons, ha.eval h1, evlParts_map ha h2]
    · cases h
theorem WL.build {t : Nat} {parts : List (Nat × Operand)} {ps : List (Nat × Value)} (cells : List Value) (hg : o.guard = none) (hd : o.dst = some d) (hn : Nat.blt d n.n = true) (ho : o.op = .build t parts.toArray) (hp : evlParts l parts = some ps)
    (hf : Try.prog.built t ps = some cells.toArray) (h : WL n ops Q rest ((d, .agg cells.toArray) :: l) w) : WL n ops Q (o :: rest) l w :=
  ⟨fun a ha => lw_via hg (by rw [ho]; intro c hc; cases hc) <| wpList_buildTo hg t parts.toArray ho (some d) hd cells.toArray (by
    rw [show (parts.toArray.map fun x => (x.1, a.eval x.2)).toList = ps by rw [Array.toList_map]; exact evlParts_map ha hp]; exact hf) (h.go _ (ha.put hn _))⟩
def litCells (P : Program) (e len : Nat) (ps : List (Nat × Value)) : Option (Array Value) :=
  match P.info? e with
  | some ie => match ie.zero with
    | some z => if 0 < len * ie.size ∧ len * ie.size ≤ 1000 then Instr.fill (fun i => some (i * ie.size, ie.size)) ((Array.range (len * ie.size)).map (z.cells[· % z.cells.size]!)) ps else none
    | none => none
  | none => none
theorem WL.litV {t e s len : Nat} {parts : List (Nat × Operand)} {ps : List (Nat × Value)} (cells : List Value) (hg : o.guard = none) (hd : o.dst = some d) (hn : Nat.blt d n.n = true) (ho : o.op = .buildSlice t len parts.toArray) (ht : tyOf ty t = some (.slice e s))
    (hp : evlParts l parts = some ps) (hf : litCells Try.prog e len ps = some cells.toArray) (h : ∀ g w', Fresh w g w' e cells → WL n ops Q rest ((d, .slice (some ⟨g, 0, none⟩) len len) :: l) w') : WL n ops Q (o :: rest) l w :=
  WL.step hg hd hn (fun a ha => by
    unfold litCells at hf; cases hie : Try.prog.info? e with
    | none => rw [hie] at hf; cases hf
    | some ie =>
      rw [hie] at hf; simp only at hf; cases hz : ie.zero with
      | none => rw [hz] at hf; cases hf
      | some z =>
        rw [hz] at hf; simp only at hf
        split at hf
        · rename_i hlen
          unfold execOp; rw [ho]; have hpm := evlParts_map ha hp; have := run_buildSlice (P := Try.prog) w t e len (parts.toArray.map fun x => (x.1, a.eval x.2)) cells.toArray ie z (TyOk.of tyOk ht).1 hie hz (by omega) (by omega) (by rw [Array.toList_map]; simp only; rw [hpm]; exact hf); simp only [Sem.run_bind, this, Result.andThen_ok]
          rfl
        · cases hf) (h _ _ (Fresh.mk' w e cells))
end K
end Go.Proofs.Ytfpakjbaiohcaaa

namespace Go.Proofs.Ytfpakjbaiohcaaa
open Go.RowKit
namespace K
structure Hold (Q : Prop) : Prop where
  out : Q
theorem kgo {P Q : Prop} (q : Q) (h : Hold Q → P := by intro q; (repeat (first | ((with_reducible refine WL.topT ?_ ?_); omega) | ((with_reducible refine WL.topF ?_ ?_); omega) | ((with_reducible refine WL.top64 ?_ ?_); omega) | refine WC.seq ?_ | refine WC.block ?_ | refine WC.region ?_ | refine WL.nil ?_ | refine WC.skip ?_ | refine WC.exit ?_ | refine WC.ret ?_ | refine WQ.then rfl ?_ | refine WQ.thenExit ?_ | refine WQ.thenRet ?_ | refine WQ.blk ?_ | refine WQ.blkRet ?_ | refine WQ.blkHere rfl ?_ | refine WQ.blkOther rfl ?_ | refine WL.pure rfl rfl rfl rfl ?_ | refine WL.on rfl rfl ?_ | refine WL.off rfl rfl rfl ?_ | refine WC.condTrue rfl ?_ | refine WC.condFalse rfl ?_)); exact q.out) : P := h ⟨q⟩
theorem kgl {P Q : Prop} (q : Q) (h : Hold Q → P := by intro q; (repeat (first | ((with_reducible refine WL.topT ?_ ?_); omega) | ((with_reducible refine WL.topF ?_ ?_); omega) | ((with_reducible refine WL.top64 ?_ ?_); omega) | refine WC.seq ?_ | refine WC.block ?_ | refine WC.region ?_ | refine WL.nil ?_ | refine WC.skip ?_ | refine WC.exit ?_ | refine WC.ret ?_ | refine WQ.then rfl ?_ | refine WQ.thenExit ?_ | refine WQ.thenRet ?_ | refine WQ.blk ?_ | refine WQ.blkRet ?_ | refine WQ.blkHere rfl ?_ | refine WQ.blkOther rfl ?_ | refine WL.pure rfl rfl rfl rfl ?_ | refine WL.on rfl rfl ?_ | refine WL.off rfl rfl rfl ?_ | refine WL.load rfl rfl rfl rfl rfl rfl (by assumption) ?_ | refine WC.condTrue rfl ?_ | refine WC.condFalse rfl ?_)); exact q.out) : P := h ⟨q⟩
theorem kgn {P Q : Prop} (q : Q) (h : Hold Q → P := by intro q; (repeat (first | refine WC.seq ?_ | refine WC.block ?_ | refine WC.region ?_ | refine WL.nil ?_ | refine WC.skip ?_ | refine WC.exit ?_ | refine WC.ret ?_ | refine WQ.then rfl ?_ | refine WQ.thenExit ?_ | refine WQ.thenRet ?_ | refine WQ.blk ?_ | refine WQ.blkRet ?_ | refine WQ.blkHere rfl ?_ | refine WQ.blkOther rfl ?_)); exact q.out) : P := h ⟨q⟩
theorem kgb {P Q : Prop} (q : Q) (h : Hold Q → P := by intro q; (repeat (first | ((with_reducible refine WL.topT ?_ ?_); omega) | ((with_reducible refine WL.topF ?_ ?_); omega) | ((with_reducible refine WL.top64 ?_ ?_); omega) | refine WC.seq ?_ | refine WC.region ?_ | refine WL.nil ?_ | refine WC.skip ?_ | refine WC.exit ?_ | refine WC.ret ?_ | refine WQ.then rfl ?_ | refine WQ.thenExit ?_ | refine WQ.thenRet ?_ | refine WQ.blk ?_ | refine WQ.blkRet ?_ | refine WQ.blkHere rfl ?_ | refine WQ.blkOther rfl ?_ | refine WL.pure rfl rfl rfl rfl ?_ | refine WL.on rfl rfl ?_ | refine WL.off rfl rfl rfl ?_ | refine WL.load rfl rfl rfl rfl rfl rfl (by assumption) ?_ | refine WC.condTrue rfl ?_ | refine WC.condFalse rfl ?_)); exact q.out) : P := h ⟨q⟩
end K
end Go.Proofs.Ytfpakjbaiohcaaa

namespace Go.Proofs.Ytfpakjbaiohcaaa
open Go.RowKit

section
variable {P : Program} {ops : Array Oper} {Q : Exit → Act → World → Prop} {md : Region.Mode} {S : World → Prop} {n : Nat}

def wpTill (P : Program) (md : Region.Mode) (ops : Array Oper) (Q : Exit → Act → World → Prop) (S : World → Prop) (n : Nat) : Nat → Array Bool → Act → World → Prop
  | 0, listed, a, w => Region.ready md ops listed = [] ∧ Q .normal a w
  | fuel + 1, listed, a, w =>
    (Region.ready md ops listed = [] → Q .normal a w) ∧
    ∀ i ∈ Region.ready md ops listed, wpOp P ops Q i (fun a' w' => ((listed.setIfInBounds i true).getD n false = true ∨ S w') ∧ wpTill P md ops Q S n fuel (listed.setIfInBounds i true) a' w') a w

theorem wpAny_of_till : ∀ (fuel : Nat) (listed : Array Bool) (a : Act) (w : World), wpTill P md ops Q S n fuel listed a w → wpAny P md ops Q fuel listed a w
  | 0, _, _, _, h => h
  | fuel + 1, _, _, _, h => ⟨h.1, fun i hi => wpOp_mono (fun a' w' h' => wpAny_of_till fuel _ a' w' h'.2) (h.2 i hi)⟩

def waitB (md : Region.Mode) (ops : Array Oper) (listed : Array Bool) (i n : Nat) (us : List Nat) : Bool :=
  us.contains n && us.all fun q => !listed.getD q true && ((ops[q]?).map (·.after.any fun e => Region.binds md e && (e.on == i || us.contains e.on))).getD false

theorem waitB_n {listed : Array Bool} {i : Nat} {us : List Nat} (h : waitB md ops listed i n us = true) : listed.getD n true = false := by
  unfold waitB at h; simp only [Bool.and_eq_true, List.all_eq_true] at h; have := h.2 n (by simpa using h.1)
  simpa using this.1
theorem waitB_not {listed : Array Bool} {i j : Nat} {us : List Nat} (h : waitB md ops listed i n us = true) (hi : listed.getD i true = false) (hj : j ∈ Region.ready md ops listed) : j ∉ us := by
  intro hju; unfold waitB at h; simp only [Bool.and_eq_true, List.all_eq_true] at h; obtain ⟨-, h2⟩ := h; obtain ⟨-, oj, hoj, hall⟩ := mem_ready.1 hj; have h3 := (h2 j hju).2; rw [hoj] at h3; simp only [Option.map_some, Option.getD_some] at h3; obtain ⟨e, he, hb⟩ := Array.any_eq_true'.1 h3; simp only [Bool.and_eq_true, Bool.or_eq_true, beq_iff_eq] at hb; have h4 := hall e he hb.1; have h5 : listed.getD e.on true = false := by
    rcases hb.2 with e1 | e1
    · rw [e1]; exact hi
    · have := (h2 e.on (by simpa using e1)).1
      simpa using this
  rcases Nat.lt_or_ge e.on listed.size with h' | h'
  · simp [h'] at h4 h5; rw [h5] at h4; cases h4
  · simp [Array.getElem?_eq_none h'] at h4
theorem waitB_set {listed : Array Bool} {i j : Nat} {us : List Nat} (h : waitB md ops listed i n us = true) (hj : j ∉ us) : waitB md ops (listed.setIfInBounds j true) i n us = true := by
  unfold waitB at *; simp only [Bool.and_eq_true, List.all_eq_true] at *; refine ⟨h.1, fun q hq => ⟨?_, (h.2 q hq).2⟩⟩; rw [getD_set_ne true (by intro e; subst e; exact hj hq)]; exact (h.2 q hq).1
theorem getD_both' {listed : Array Bool} {j : Nat} (h : listed.getD j true = false) : listed.getD j false = false := by
  rcases Nat.lt_or_ge j listed.size with h' | h'
  · simp [h'] at h ⊢; exact h
  · simp [Array.getElem?_eq_none h'] at h

theorem wpTill_first {i : Nat} {oi : Oper} {v : Value} {us : List Nat} (hi : ops[i]? = some oi) (hsel : ∀ (j : Nat) (o : Oper) cs b, ops[j]? = some o → o.op ≠ .select cs b)
    (hQ : ∀ c a w, Q (.panic c) (a.put oi.dst v) w → Q (.panic c) a w) :
    ∀ (fuel : Nat) (listed : Array Bool) (a : Act) (w : World),
      (∀ j oj, ops[j]? = some oj → j ≠ i → listed.getD j true = false → (∀ e ∈ oj.after, Region.binds md e = true → e.on ≠ i) → oi.apart ops oj = true) →
      waitB md ops listed i n us = true → i ∉ us →
      i ∈ Region.ready md ops listed → YieldsIf P ops S oi v a → S w →
      wpTill P md ops Q S n fuel (listed.setIfInBounds i true) (a.put oi.dst v) w → wpTill P md ops Q S n (fuel + 1) listed a w := by
  intro fuel
  induction fuel with
  | zero =>
    intro listed a w _ _ _ hr hy hS H; refine ⟨fun h => (by rw [h] at hr; cases hr), fun j hj => ?_⟩
    by_cases hji : j = i
    · subst hji; exact hy.wpOp hi hS ⟨.inr hS, H⟩
    · have := ready_mono hj hji
      rw [H.1] at this; cases this
  | succ fuel ih =>
    intro listed a w hfree hw hiu hr hy hS H; refine ⟨fun h => (by rw [h] at hr; cases hr), fun j hj => ?_⟩
    by_cases hji : j = i
    · subst hji; exact hy.wpOp hi hS ⟨.inr hS, H⟩
    · have h1 := H.2 j (ready_mono hj hji)
      have hiun := (mem_ready.1 hr).1; have hju : j ∉ us := waitB_not hw hiun hj; have hnu : n ∈ us := by unfold waitB at hw; simp only [Bool.and_eq_true] at hw; simpa using hw.1
      have hjn : j ≠ n := fun e => hju (e ▸ hnu); have hin : i ≠ n := fun e => hiu (e ▸ hnu); obtain ⟨hjun, oj, hoj, hall⟩ := mem_ready.1 hj; have hnot : ∀ e ∈ oj.after, Region.binds md e = true → e.on ≠ i := fun e he hb heq => by
        have h1 := hall e he hb; rw [heq, getD_both' hiun] at h1; cases h1
      have h2 := wpOp_putIf hoj (hfree j oj hoj hji hjun hnot) (fun cs b => hsel i oi cs b hi) (fun cs b => hsel j oj cs b hoj) hQ hy h1; have hfree' : ∀ k ok, ops[k]? = some ok → k ≠ i → (listed.setIfInBounds j true).getD k true = false →
          (∀ e ∈ ok.after, Region.binds md e = true → e.on ≠ i) → oi.apart ops ok = true := fun k ok hk hki hun hno => by
        refine hfree k ok hk hki ?_ hno
        by_cases hjk : j = k
        · subst hjk; exact hjun
        · rw [getD_set_ne true hjk] at hun; exact hun
      have hnf : ∀ x, (((listed.setIfInBounds i true).setIfInBounds j true).getD n false = true ∨ x) → x := fun x h => by
        rcases h with h | h
        · rw [getD_set_ne false hjn, getD_set_ne false hin, getD_both' (waitB_n hw)] at h; cases h
        · exact h
      refine wpOp_mono (fun a' w' h3 => ⟨.inr (hnf _ h3.2.1), ih (listed.setIfInBounds j true) a' w' hfree' (waitB_set hw hju) hiu (ready_mono hr (Ne.symm hji)) h3.1 (hnf _ h3.2.1) ?_⟩) h2; rw [Array.setIfInBounds_comm _ _ hji]; exact h3.2.2

theorem wpTill_free {i : Nat} {oi : Oper} {v : Value} (hi : ops[i]? = some oi) (hsel : ∀ (j : Nat) (o : Oper) cs b, ops[j]? = some o → o.op ≠ .select cs b)
    (hQ : ∀ c a w, Q (.panic c) (a.put oi.dst v) w → Q (.panic c) a w) (hin : i ≠ n) :
    ∀ (fuel : Nat) (listed : Array Bool) (a : Act) (w : World),
      (∀ j oj, ops[j]? = some oj → j ≠ i → listed.getD j true = false → (∀ e ∈ oj.after, Region.binds md e = true → e.on ≠ i) → oi.apart ops oj = true) →
      i ∈ Region.ready md ops listed → YieldsIf P ops (fun _ => True) oi v a → (listed.getD n false = true ∨ S w) →
      wpTill P md ops Q S n fuel (listed.setIfInBounds i true) (a.put oi.dst v) w → wpTill P md ops Q S n (fuel + 1) listed a w := by
  intro fuel
  induction fuel with
  | zero =>
    intro listed a w _ hr hy hS H; refine ⟨fun h => (by rw [h] at hr; cases hr), fun j hj => ?_⟩
    by_cases hji : j = i
    · subst hji; exact hy.wpOp hi trivial ⟨by rw [getD_set_ne false hin]; exact hS, H⟩
    · have := ready_mono hj hji
      rw [H.1] at this; cases this
  | succ fuel ih =>
    intro listed a w hfree hr hy hS H; refine ⟨fun h => (by rw [h] at hr; cases hr), fun j hj => ?_⟩
    by_cases hji : j = i
    · subst hji; exact hy.wpOp hi trivial ⟨by rw [getD_set_ne false hin]; exact hS, H⟩
    · have h1 := H.2 j (ready_mono hj hji)
      have hiun := (mem_ready.1 hr).1; obtain ⟨hjun, oj, hoj, hall⟩ := mem_ready.1 hj; have hnot : ∀ e ∈ oj.after, Region.binds md e = true → e.on ≠ i := fun e he hb heq => by
        have h1 := hall e he hb; rw [heq, getD_both' hiun] at h1; cases h1
      have h2 := wpOp_putIf hoj (hfree j oj hoj hji hjun hnot) (fun cs b => hsel i oi cs b hi) (fun cs b => hsel j oj cs b hoj) hQ hy h1; have hfree' : ∀ k ok, ops[k]? = some ok → k ≠ i → (listed.setIfInBounds j true).getD k true = false →
          (∀ e ∈ ok.after, Region.binds md e = true → e.on ≠ i) → oi.apart ops ok = true := fun k ok hk hki hun hno => by
        refine hfree k ok hk hki ?_ hno
        by_cases hjk : j = k
        · subst hjk; exact hjun
        · rw [getD_set_ne true hjk] at hun; exact hun
      have hT : ∀ x, (((listed.setIfInBounds i true).setIfInBounds j true).getD n false = true ∨ x) → ((listed.setIfInBounds j true).getD n false = true ∨ x) := fun x h => by
        rw [Array.setIfInBounds_comm _ _ (Ne.symm hji), getD_set_ne false hin] at h; exact h
      refine wpOp_mono (fun a' w' h3 => ⟨hT _ h3.2.1, ih (listed.setIfInBounds j true) a' w' hfree' (ready_mono hr (Ne.symm hji)) h3.1 (hT _ h3.2.1) ?_⟩) h2; rw [Array.setIfInBounds_comm _ _ hji]; exact h3.2.2

theorem till_free {i : Nat} {oi : Oper} {v : Value} {fuel : Nat} {listed : Array Bool} {a : Act} {w : World} (hi : ops[i]? = some oi)
    (hs : Region.noSelect ops = true) (hf : Region.free md ops listed i = true) (hr : (Region.ready md ops listed).contains i = true) (hin : (i == n) = false)
    (hQ : ∀ c a w, Q (.panic c) (a.put oi.dst v) w → Q (.panic c) a w) (hS : listed.getD n false = true ∨ S w) (hw : Region.wanted oi (yielded ops a.tmps) = true) (hy : ∀ w, (execOp a.eval oi).run P w = .ok (.value v) w)
    (h : wpTill P md ops Q S n fuel (listed.setIfInBounds i true) (a.put oi.dst v) w) : wpTill P md ops Q S n (fuel + 1) listed a w :=
  wpTill_free hi (Region.noSelect_spec hs) hQ (by simpa using hin) fuel listed a w (Region.free_spec hi hf) (by simpa using hr) (.inl ⟨hw, fun w _ => hy w⟩) hS h
theorem till_one {i : Nat} {oi : Oper} {fuel : Nat} {listed : Array Bool} {a : Act} {w : World} (hr : Region.ready md ops listed = [i]) (hi : ops[i]? = some oi)
    (h : ∀ K' : Act → World → Prop, (∀ a w, ((listed.setIfInBounds i true).getD n false = true ∨ S w) → wpTill P md ops Q S n fuel (listed.setIfInBounds i true) a w → K' a w) → if Region.wanted oi (yielded ops a.tmps) = true then Oper.wp P oi a w K' Q else K' (a.put oi.dst undef) w) :
    wpTill P md ops Q S n (fuel + 1) listed a w :=
  ⟨(fun h0 => by rw [h0] at hr; cases hr), fun j hj => by
    rw [hr] at hj; obtain rfl : j = i := by simpa using hj
    have := h (fun a' w' => ((listed.setIfInBounds j true).getD n false = true ∨ S w') ∧ wpTill P md ops Q S n fuel (listed.setIfInBounds j true) a' w') (fun a w h1 h2 => ⟨h1, h2⟩); unfold wpOp; simp only [hi]
    by_cases hw : Region.wanted oi (yielded ops a.tmps) = true
    · rw [if_pos hw] at this ⊢; exact .inl this
    · rw [if_neg hw] at this ⊢; exact this⟩
theorem till_done {listed : Array Bool} {a : Act} {w : World} (hr : Region.ready md ops listed = []) (h : Q .normal a w) : ∀ fuel, wpTill P md ops Q S n fuel listed a w
  | 0 => ⟨hr, h⟩
  | _ + 1 => ⟨fun _ => h, by rw [hr]; simp⟩
theorem wp_region_till {id : Nat} {a : Act} {w : World} (n : Nat) (S : World → Prop) (hm : P.follows .mixedOrders = true)
    (h : wpTill P .any ops Q S n ops.size (Array.replicate ops.size false) a w.drew) : (Code.region id ops true).wp P Q a w :=
  wp_region_any hm (wpAny_of_till _ _ _ _ h)

end
end Go.Proofs.Ytfpakjbaiohcaaa
