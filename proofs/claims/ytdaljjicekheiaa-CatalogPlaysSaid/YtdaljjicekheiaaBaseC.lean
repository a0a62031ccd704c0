/- Slices of the call's own that grow: append of whatever reads as a list. -/
import Derived.Test.YtdaljjicekheiaaBaseB
import Derived.Laws.AppendOwnNone
import Derived.Deep.Onto
namespace Go.Proofs.Ytdaljjicekheiaa
open Go.RowKit

/-- The slice v is the call's own, from block base on, and holds the integers l. -/
def Buf (k : IntKind) (e : TypeId) (w : World) (base : Nat) (v : Value) (l : List Int) : Prop := w.ownsRow base e 1 v l.length (l.map (Value.int k))

theorem Buf.nil (k : IntKind) (e : TypeId) (w : World) (base : Nat) : Buf k e w base (.slice none 0 0) [] := World.ownsRow_nil _ _ _ _

theorem Buf.block {k : IntKind} {e : TypeId} {w : World} {base : Nat} {v : Value} {l : List Int} (h : Buf k e w base v l) :
    (v = .slice none 0 0 ∧ l = []) ∨ ∃ g cap rest, v = .slice (some ⟨g, 0, none⟩) l.length cap ∧ base ≤ g ∧ l.length ≤ cap ∧ cap ≤ maxLen ∧ VBlk e w g (l.map (Value.int k) ++ rest) ∧ (l.map (Value.int k) ++ rest).length = cap := by
  obtain ⟨h1, h2⟩ := h
  rcases h2 with ⟨h2, h3⟩ | ⟨g, cap, cur, hv, hg, hh, r1, r2, r3, r4⟩
  · exact .inl ⟨h2, List.eq_nil_of_length_eq_zero h3⟩
  · refine .inr ⟨g, cap, cur.toList.drop l.length, hv, hg, r1, r2, ?_, ?_⟩
    · rw [Nat.mul_one] at r4
      rw [← r4, List.take_append_drop]
      simpa [VBlk] using hh
    · rw [Nat.mul_one] at r3
      simp; omega

theorem Buf.row {k : IntKind} {e : TypeId} {w : World} {base g cap : Nat} {l : List Int} (h : Buf k e w base (.slice (some ⟨g, 0, none⟩) l.length cap) l) : Row k w g 0 l := by
  intro j hj
  have := World.ownsRow.cellAt h j (by simpa using hj)
  rw [Nat.zero_add, this]; simp [nth, hj]

theorem Buf.sl {k : IntKind} {e : TypeId} {w : World} {base : Nat} {v : Value} {l : List Int} (h : Buf k e w base v l) : Sl k w v l := by
  rcases h.block with ⟨rfl, rfl⟩ | ⟨g, cap, rest, rfl, hg, h1, h2, hb, -⟩
  · exact Sl.nil k w
  · exact Sl.mk h1 (by unfold maxLen at h2; exact h2) hb.lt h.row

theorem Buf.alloc {k : IntKind} {e : TypeId} {w : World} {base : Nat} {v : Value} {l : List Int} (h : Buf k e w base v l) (o : Obj) : Buf k e (w.alloc o) base v l := World.ownsRow.alloc h o
theorem Buf.mono {k : IntKind} {e : TypeId} {w : World} {base base' : Nat} {v : Value} {l : List Int} (h : Buf k e w base v l) (hb : base' ≤ base) : Buf k e w base' v l := World.ownsRow.mono h hb
theorem Buf.keep {K : Nat → Prop} {k : IntKind} {e : TypeId} {w w' : World} {base : Nat} {v : Value} {l : List Int} (h : Buf k e w base v l) (hk : Keep K w w') (hK : ∀ g, base ≤ g → g < w.heap.size → v.ownBlock = some g → K g) : Buf k e w' base v l := by
  refine ⟨h.1, ?_⟩
  rcases h.2 with hn | ⟨g, cap, cur, rfl, hb, hgg, rest⟩
  · exact .inl hn
  · refine .inr ⟨g, cap, cur, rfl, hb, ?_, rest⟩
    rw [hk.block g (hK g hb (lt_of_block hgg) rfl)]
    exact hgg
theorem Buf.below {B : Nat} {k : IntKind} {e : TypeId} {w w' : World} {base : Nat} {v : Value} {l : List Int} (h : Buf k e w base v l) (hk : Below B w w') (hB : w.heap.size ≤ B) : Buf k e w' base v l :=
  h.keep (Keep.of_below hk) (fun _ _ hg _ => Nat.lt_of_lt_of_le hg hB)
theorem Buf.own {k : IntKind} {e : TypeId} {w : World} {base : Nat} {v : Value} {l : List Int} (h : Buf k e w base v l) : ∀ g, v.ownBlock = some g → base ≤ g ∧ g < w.heap.size := fun g hg => World.ownsRow.lt h g hg
/-- A block of the call's own that has just been laid. -/
theorem Buf.mk {k : IntKind} {e : TypeId} {w : World} {base : Nat} (l rest : List Int) (hb : base ≤ w.heap.size) (hm : l.length + rest.length ≤ maxLen) :
    Buf k e (w.alloc (.cells ((l ++ rest).map (Value.int k)).toArray e)) base (.slice (some ⟨w.heap.size, 0, none⟩) l.length (l.length + rest.length)) l := by
  refine ⟨by simp, .inr ⟨w.heap.size, l.length + rest.length, _, rfl, hb, heap_alloc_new _ _, by omega, hm, by simp, ?_⟩⟩
  simp
theorem Buf.empty {k : IntKind} {e : TypeId} {w : World} {base : Nat} (hb : base ≤ w.heap.size) : Buf k e (w.alloc (.cells #[] e)) base (.slice (some ⟨w.heap.size, 0, none⟩) 0 0) [] := Buf.mk [] [] hb (by unfold maxLen; simp)

/-- One new cell as a slice. -/
theorem Sl.one (k : IntKind) (w : World) (x : Int) (T : TypeId) : Sl k (w.alloc (.cells #[.int k x] T)) (.slice (some ⟨w.heap.size, 0, none⟩) 1 1) [x] :=
  Sl.mk (l := [x]) (Nat.le_refl _) (by decide) (by simp) (IBlk.row (T := T) (VBlk.mk w [.int k x] T))

/-- What append asks of the element type. -/
structure Elem (P : Program) (t e : TypeId) (bytes : Nat) : Prop where
  ht : P.underlying t = some (.slice e)
  ex : ∃ i z, P.info? e = some i ∧ i.zero = some z ∧ i.size = 1 ∧ i.bytes = bytes ∧ z.cells.size = 1
theorem Elem.mk' {P : Program} {t e : TypeId} {bytes : Nat} {k : IntKind} {x : Int} (ht : P.underlying t = some (.slice e)) (hi : (P.info? e).map (fun i => (i.zero, i.size, i.bytes)) = some (some (.int k x), 1, bytes)) : Elem P t e bytes :=
  ⟨ht, let ⟨i, h1, h2, h3, h4⟩ := info_parts hi; ⟨i, _, h1, h2, h3, h4, rfl⟩⟩

theorem keep_grown {w w' : World} {base : Nat} {v : Value} (hg : w.grownBy w' v.ownBlock) (ho : ∀ g, v.ownBlock = some g → base ≤ g) (hb : base ≤ w.heap.size) : Keep (fun b => b < base) w w' :=
  ⟨hg.os, hg.tape, hg.output, hg.size, fun k hk => hg.block k (Nat.lt_of_lt_of_le hk hb) (fun e => absurd (ho k e.symm) (Nat.not_le.2 hk))⟩

/-- append of whatever reads as a list onto a slice of the call's own. -/
theorem wpList_app {P : Program} {w : World} {ops : Array Oper} {rest : List Oper} {o : Oper} {a : Act} {Q : Exit → Act → World → Prop} (hgd : o.guard = none) (s x : Operand) (t : TypeId)
    (ho : o.op = .call { callee := .builtin .append, args := #[s, x], argTypes := #[t, t] }) {e : TypeId} {k : IntKind} {bytes : Nat} (E : Elem P t e bytes)
    (base : Nat) (v : Value) (l : List Int) (hs : a.eval s = v) (hown : Buf k e w base v l) (xv : Value) (l2 : List Int) (hx : a.eval x = xv) (hsl : Sl k w xv l2)
    (n : Nat) (hn : l.length + l2.length = n) (hb1 : n ≤ maxLen) (hb2 : n * bytes ≤ 140737488355328) (hbase : base ≤ w.heap.size)
    (h : ∀ sp c w', Buf k e w' base (.slice sp n c) (l ++ l2) → Keep (fun b => b < base) w w' → wpList P ops Q rest (a.put o.dst (.slice sp n c)) w') : wpList P ops Q (o :: rest) a w := by
  subst hn
  obtain ⟨i, z, hi, hz, hz1, hz2, hz3⟩ := E.ex
  obtain ⟨sp, cap, rfl, hc1, hc2, hrow, hnil⟩ := hsl
  have go : ∀ v' w', w'.ownsRow base e 1 v' (l.length + l2.length) (l.map (Value.int k) ++ l2.map (Value.int k)) → w.grownBy w' v.ownBlock → wpList P ops Q rest (a.put o.dst v') w' := by
    intro v' w' h1 h2
    have h1' : Buf k e w' base v' (l ++ l2) := by
      unfold Buf; rw [List.map_append, List.length_append]; exact h1
    have hk := keep_grown h2 (fun g hg => (hown.own g hg).1) hbase
    rcases h1'.block with ⟨e1, e2⟩ | ⟨g, c, r, e1, -⟩
    · subst e1
      have e3 : l.length + l2.length = 0 := by rw [← List.length_append, e2]; rfl
      rw [e3] at h
      exact h none 0 w' h1' hk
    · subst e1
      rw [List.length_append] at h1' ⊢
      exact h _ c w' h1' hk
  by_cases h0 : sp = none
  · subst h0
    have hc0 := hnil rfl
    subst hc0
    have hl2 : l2 = [] := List.eq_nil_of_length_eq_zero (by omega)
    subst hl2
    refine wpList_append_own_none hgd s x t ho base e i 1 E.ht hi v l.length _ hs hown hx (go v w ?_ (World.grownBy.refl _ _))
    unfold Buf at hown; simpa using hown
  · obtain ⟨ad, had⟩ := Option.ne_none_iff_exists'.1 h0
    refine wpList_append_own w hgd s x t ho base e i z 1 bytes E.ht hi hz hz1 hz2 hz3 (by decide) v l.length _ hs hown ad l2.length cap (l2.map (Value.int k)) (by rw [hx, had]) (by simp) ?_ ?_ hb1 hb2 hbase (fun v' w' h1 h2 _ => go v' w' h1 h2)
    · intro j u hu
      have hj : j < l2.length := by
        rcases Nat.lt_or_ge j l2.length with h | h
        · exact h
        · simp [h] at hu
      obtain ⟨b, o, e1, hlt, hr⟩ := hrow (by omega)
      rw [e1] at had
      cases had
      rw [addr_add, hr j hj]
      simpa [nth, hj] using hu
    · intro u hu
      obtain ⟨_, _, rfl⟩ := List.mem_map.1 hu
      rfl

theorem three_alloc (w : World) (A B C : Obj) :
    (((w.alloc A).alloc B).alloc C).heap[w.heap.size]? = some A ∧ (((w.alloc A).alloc B).alloc C).heap[w.heap.size + 1]? = some B ∧ (((w.alloc A).alloc B).alloc C).heap[w.heap.size + 1 + 1]? = some C ∧
      Below w.heap.size w (((w.alloc A).alloc B).alloc C) ∧ (((w.alloc A).alloc B).alloc C).heap.size = w.heap.size + 3 := by
  have hs : ((w.alloc A).alloc B).heap.size = w.heap.size + 1 + 1 := by simp
  have hs1 : (w.alloc A).heap.size = w.heap.size + 1 := by simp
  refine ⟨?_, ?_, ?_, ?_, ?_⟩
  · rw [Below.heap_alloc _ _ _ (by rw [hs]; omega), heap_alloc2_old]
  · rw [Below.heap_alloc _ _ _ (by rw [hs]; omega), heap_alloc2_new]
  · rw [← hs, heap_alloc_new]
  · exact (((Below.refl _ w).alloc (Nat.le_refl _) A).alloc (by rw [hs1]; omega) B).alloc (by rw [hs]; omega) C
  · simp

end Go.Proofs.Ytdaljjicekheiaa
