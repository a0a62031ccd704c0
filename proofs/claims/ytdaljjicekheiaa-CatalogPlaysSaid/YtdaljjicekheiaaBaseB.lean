/- More small lemmas: slices that read as lists, an array's element, blocks behind two allocations. -/
import Derived.Test.YtdaljjicekheiaaBase
import Derived.Laws.CopyOwn
namespace Go.Proofs.Ytdaljjicekheiaa
open Go.RowKit

/-- A fact kept from the walk and from contradiction alike. -/
def Hid2 (p : Prop) : Prop := ∀ q : Prop, (p → q) → q
theorem Hid2.mk {p : Prop} (h : p) : Hid2 p := fun _ f => f h
theorem Hid2.out {p : Prop} (h : Hid2 p) : p := h p id

/-- The slice value v reads as the integers l (nil too). -/
def Sl (k : IntKind) (w : World) (v : Value) (l : List Int) : Prop :=
  ∃ sp cap, v = .slice sp l.length cap ∧ l.length ≤ cap ∧ cap ≤ 9223372036854775807 ∧ (0 < l.length → ∃ b o, sp = some ⟨b, o, none⟩ ∧ b < w.heap.size ∧ Row k w b o l) ∧ (sp = none → cap = 0)

theorem Sl.of_below {k : IntKind} {w w' : World} {v : Value} {l : List Int} (h : Sl k w v l) (hb : Below w.heap.size w w') : Sl k w' v l := by
  obtain ⟨sp, cap, rfl, h1, h2, h3, h4⟩ := h
  exact ⟨sp, cap, rfl, h1, h2, fun h0 => let ⟨b, o, e, hl, hr⟩ := h3 h0; ⟨b, o, e, Nat.lt_of_lt_of_le hl hb.size, hr.below hb hl⟩, h4⟩
theorem Sl.keep {K : Nat → Prop} {k : IntKind} {w w' : World} {v : Value} {l : List Int} (h : Sl k w v l) (hb : Keep K w w') (hK : ∀ b o n c, v = .slice (some ⟨b, o, none⟩) n c → b < w.heap.size → K b) : Sl k w' v l := by
  obtain ⟨sp, cap, rfl, h1, h2, h3, h4⟩ := h
  exact ⟨sp, cap, rfl, h1, h2, fun h0 => let ⟨b, o, e, hl, hr⟩ := h3 h0; ⟨b, o, e, Nat.lt_of_lt_of_le hl hb.size, hr.keep hb (hK b o _ _ (by rw [e]) hl)⟩, h4⟩
theorem Sl.nil (k : IntKind) (w : World) : Sl k w (.slice none 0 0) [] := ⟨none, 0, rfl, by simp, by omega, fun h => by simp at h, fun _ => rfl⟩
theorem Sl.mk {k : IntKind} {w : World} {b o cap : Nat} {l : List Int} (hl : l.length ≤ cap) (hc : cap ≤ 9223372036854775807) (hb : b < w.heap.size) (h : Row k w b o l) :
    Sl k w (.slice (some ⟨b, o, none⟩) l.length cap) l := ⟨_, _, rfl, hl, hc, fun _ => ⟨b, o, rfl, hb, h⟩, fun h => by cases h⟩

/-- The length in a slot that holds a slice: for a loop's measure. -/
def lenOf : Value → Nat | .slice _ n _ => n | _ => 0

theorem row_drop {k : IntKind} {w : World} {b o : Nat} {l : List Int} (h : Row k w b o l) (n : Nat) : Row k w b (o + n) (l.drop n) := by
  intro j hj
  simp only [List.length_drop] at hj
  have := h (n + j) (by omega)
  rw [show o + n + j = o + (n + j) by omega, this]
  simp [nth]

theorem two_alloc {w w1 : World} {A B : Obj} (hb : Below ((w.alloc A).alloc B).heap.size ((w.alloc A).alloc B) w1) :
    w1.heap[w.heap.size]? = some A ∧ w1.heap[w.heap.size + 1]? = some B ∧ Below w.heap.size w w1 ∧ w.heap.size + 2 ≤ w1.heap.size := by
  have hs : ((w.alloc A).alloc B).heap.size = w.heap.size + 2 := by simp
  refine ⟨?_, ?_, ?_, ?_⟩
  · rw [hb.block _ (by rw [hs]; omega), heap_alloc2_old]
  · rw [hb.block _ (by rw [hs]; omega), heap_alloc2_new]
  · exact (((Below.refl _ _).alloc (Nat.le_refl _) _).alloc (by simp) _).trans (hb.mono (by rw [hs]; omega))
  · rw [← hs]; exact hb.size

theorem run_index_arr {P : Program} (w : World) (t e : TypeId) (n : Nat) (d : TypeDesc) (i : TypeInfo) (hu : P.underlying t = some (.array n e)) (hi : P.info? e = some i) (hs : i.size = 1)
    (he : P.underlying e = some d) (hd : (match d with | .struct _ | .array _ _ => false | _ => true) = true) (cs : Array Value) (k : IntKind) (j : Nat) (h1 : j < n) (v : Value) (hv : cs[j]? = some v) :
    (Instr.index t (.agg cs) (.int k j)).run P w = .ok v w := by
  have hagg : (isAgg e).run P w = .ok false w := by
    unfold isAgg
    rw [Sem.run_bind, run_underlying he w]
    cases d <;> simp_all
  have h0 : (0 : Int) ≤ j ∧ (j : Int) < n := by omega
  simp [Instr.index, run_underlying hu, asIntOf, h0, sizeOf, typeInfo, hi, hs, part, hagg, hv, Sem.run_bind]
  omega

theorem splice_zero {α : Type} (Z X : List α) (_h : X.length ≤ Z.length) : splice Z 0 X = X ++ Z.drop X.length := by simp [splice]
theorem addr_add (b o i : Nat) : (⟨b, o, none⟩ : Addr).add i = ⟨b, o + i, none⟩ := by
  unfold Addr.add
  by_cases h : i = 0
  · subst h; rfl
  · rw [if_neg h]

end Go.Proofs.Ytdaljjicekheiaa
