/- Slices of elements of several cells: what they read as, and slices of the program's own. -/
import Derived.Test.YtdaljjicekheiaaBaseB
import Derived.Laws.AppendOwnNone
import Derived.Deep.AppendLies
import Derived.Deep.RegionLawGrows
import Derived.Deep.RegionHeld3
import Derived.ArgAppend
import Derived.WideShapes
namespace Go.Proofs.Ytdaljjicekheiaa
open Go.RowKit

/-- The cells from offset o of block b on are l. -/
def RowV (w : World) (b o : Nat) (l : List Value) : Prop := ∀ j, j < l.length → w.cell? ⟨b, o + j, none⟩ = some (l.getD j undef)
theorem RowV.of_block {w w' : World} {b o : Nat} {l : List Value} (h : RowV w b o l) (hb : w'.heap[b]? = w.heap[b]?) : RowV w' b o l := by
  intro j hj; rw [← h j hj]; exact World.cell?_of_block (w := w) hb
theorem RowV.at {w : World} {b o : Nat} {l : List Value} (h : RowV w b o l) (j i : Nat) (hj : j < l.length) (hi : i = o + j) : w.cell? ⟨b, i, none⟩ = some (l.getD j undef) := by subst hi; exact h j hj
theorem RowV.of_vblk {T : TypeId} {w : World} {b : Nat} {l : List Value} (h : VBlk T w b l) : RowV w b 0 l := fun j hj => by rw [Nat.zero_add]; exact h.cell j hj

/-- All of one cell. -/
def Ones (l : List Value) : Prop := ∀ u ∈ l, u.oneCell' = true
theorem Ones.append {l l' : List Value} (h : Ones l) (h' : Ones l') : Ones (l ++ l') := fun u hu => (List.mem_append.1 hu).elim (h u) (h' u)
theorem Ones.str (l : List ByteArray) : Ones (l.map Value.string) := fun u hu => by obtain ⟨_, _, rfl⟩ := List.mem_map.1 hu; rfl
theorem Ones.int (k : IntKind) (l : List Int) : Ones (l.map (Value.int k)) := fun u hu => by obtain ⟨_, _, rfl⟩ := List.mem_map.1 hu; rfl

/-- The slice v of n elements of m cells each reads as the cells l, out of blocks of O. -/
def SlV (w : World) (O : Nat → Prop) (m : Nat) (v : Value) (n : Nat) (l : List Value) : Prop :=
  l.length = n * m ∧ Ones l ∧ ∃ sp cap, v = .slice sp n cap ∧ n ≤ cap ∧ cap ≤ 9223372036854775807 ∧ (sp = none → cap = 0) ∧ (0 < n → ∃ b o, sp = some ⟨b, o, none⟩ ∧ b < w.heap.size ∧ O b ∧ RowV w b o l)

theorem SlV.nil (w : World) (O : Nat → Prop) (m : Nat) : SlV w O m (.slice none 0 0) 0 [] :=
  ⟨by simp, fun _ h => (List.not_mem_nil h).elim, none, 0, rfl, by omega, by omega, fun _ => rfl, fun h => by omega⟩
theorem SlV.keep {w w' : World} {O : Nat → Prop} {m n : Nat} {v : Value} {l : List Value} (h : SlV w O m v n l) {K : Nat → Prop} (hk : Keep K w w') (hK : ∀ b, O b → b < w.heap.size → K b) : SlV w' O m v n l := by
  obtain ⟨h1, h2, sp, cap, h3, h4, h5, h6, h7⟩ := h
  exact ⟨h1, h2, sp, cap, h3, h4, h5, h6, fun hn => let ⟨b, o, e, hb, hO, hr⟩ := h7 hn; ⟨b, o, e, Nat.lt_of_lt_of_le hb hk.size, hO, hr.of_block (hk.block b (hK b hO hb))⟩⟩
theorem SlV.mono {w : World} {O O' : Nat → Prop} {m n : Nat} {v : Value} {l : List Value} (h : SlV w O m v n l) (hO : ∀ b, O b → O' b) : SlV w O' m v n l := by
  obtain ⟨h1, h2, sp, cap, h3, h4, h5, h6, h7⟩ := h
  exact ⟨h1, h2, sp, cap, h3, h4, h5, h6, fun hn => let ⟨b, o, e, hb, hO', hr⟩ := h7 hn; ⟨b, o, e, hb, hO b hO', hr⟩⟩
theorem SlV.below {w w' : World} {O : Nat → Prop} {m n : Nat} {v : Value} {l : List Value} (h : SlV w O m v n l) {B : Nat} (hk : Below B w w') (hB : w.heap.size ≤ B) : SlV w' O m v n l :=
  h.keep (Keep.of_below hk) (fun _ _ hb => Nat.lt_of_lt_of_le hb hB)

/-- The program's own slice, at the head of its block. -/
def OwnV (e : TypeId) (m : Nat) (w : World) (O : Nat → Prop) (v : Value) (n : Nat) (l : List Value) : Prop :=
  w.ownsRow 0 e m v n l ∧ Ones l ∧ ∀ g, v.ownBlock = some g → O g

theorem OwnV.nil (e : TypeId) (m : Nat) (w : World) (O : Nat → Prop) : OwnV e m w O (.slice none 0 0) 0 [] := ⟨World.ownsRow_nil _ _ _ _, fun _ h => (List.not_mem_nil h).elim, fun g h => by cases h⟩
theorem OwnV.len {e : TypeId} {m : Nat} {w : World} {O : Nat → Prop} {v : Value} {n : Nat} {l : List Value} (h : OwnV e m w O v n l) : l.length = n * m := h.1.1
theorem OwnV.form {e : TypeId} {m : Nat} {w : World} {O : Nat → Prop} {v : Value} {n : Nat} {l : List Value} (h : OwnV e m w O v n l) :
    (v = .slice none 0 0 ∧ n = 0 ∧ l = []) ∨ ∃ g cap cur, v = .slice (some ⟨g, 0, none⟩) n cap ∧ O g ∧ g < w.heap.size ∧ w.heap[g]? = some (.cells cur e (0, 0)) ∧ n ≤ cap ∧ cap ≤ maxLen ∧ cur.size = cap * m ∧ cur.toList.take (n * m) = l := by
  obtain ⟨⟨h1, h2⟩, -, h3⟩ := h
  rcases h2 with ⟨rfl, rfl⟩ | ⟨g, cap, cur, rfl, -, hg, h4, h5, h6, h7⟩
  · exact .inl ⟨rfl, rfl, List.eq_nil_of_length_eq_zero (by simpa using h1)⟩
  · exact .inr ⟨g, cap, cur, rfl, h3 g rfl, lt_of_block hg, hg, h4, h5, h6, h7⟩
theorem OwnV.slV {e : TypeId} {m : Nat} {w : World} {O : Nat → Prop} {v : Value} {n : Nat} {l : List Value} (h : OwnV e m w O v n l) : SlV w O m v n l := by
  refine ⟨h.1.1, h.2.1, ?_⟩
  have hc := h
  rcases h.form with ⟨rfl, rfl, rfl⟩ | ⟨g, cap, cur, rfl, hO, hlt, hg, h4, h5, h6, h7⟩
  · exact ⟨none, 0, rfl, by omega, by omega, fun _ => rfl, fun h => by omega⟩
  · refine ⟨_, cap, rfl, h4, h5, (fun h => by cases h), fun _ => ⟨g, 0, rfl, hlt, hO, fun j hj => ?_⟩⟩
    rw [Nat.zero_add]
    have := World.ownsRow.cellAt hc.1 j (by rw [← hc.1.1]; exact hj)
    rw [this]; simp [hj]
theorem OwnV.slice {e : TypeId} {m : Nat} {w : World} {O : Nat → Prop} {v : Value} {n : Nat} {l : List Value} (h : OwnV e m w O v n l) : ∃ sp cap, v = .slice sp n cap ∧ n ≤ cap ∧ cap ≤ 9223372036854775807 := by
  rcases h.form with ⟨rfl, rfl, -⟩ | ⟨g, cap, cur, rfl, -, -, -, h4, h5, -⟩
  · exact ⟨none, 0, rfl, by omega, by omega⟩
  · exact ⟨_, _, rfl, h4, by unfold maxLen at h5; exact h5⟩

theorem OwnV.of_block {e : TypeId} {m : Nat} {w w' : World} {O : Nat → Prop} {v : Value} {n : Nat} {l : List Value} (h : OwnV e m w O v n l) (hb : ∀ g, v.ownBlock = some g → w'.heap[g]? = w.heap[g]?) : OwnV e m w' O v n l := by
  refine ⟨⟨h.1.1, ?_⟩, h.2⟩
  rcases h.1.2 with hn | ⟨g, cap, cur, rfl, hb', hg, r⟩
  · exact .inl hn
  · exact .inr ⟨g, cap, cur, rfl, hb', by rw [hb g rfl]; exact hg, r⟩
theorem OwnV.lt {e : TypeId} {m : Nat} {w : World} {O : Nat → Prop} {v : Value} {n : Nat} {l : List Value} (h : OwnV e m w O v n l) {g : Nat} (hg : v.ownBlock = some g) : g < w.heap.size := (World.ownsRow.lt h.1 g hg).2
theorem OwnV.own {e : TypeId} {m : Nat} {w : World} {O : Nat → Prop} {v : Value} {n : Nat} {l : List Value} (h : OwnV e m w O v n l) {g : Nat} (hg : v.ownBlock = some g) : O g := h.2.2 g hg
theorem OwnV.keep {e : TypeId} {m : Nat} {w w' : World} {O : Nat → Prop} {v : Value} {n : Nat} {l : List Value} (h : OwnV e m w O v n l) {K : Nat → Prop} (hk : Keep K w w') (hK : ∀ g, v.ownBlock = some g → K g) : OwnV e m w' O v n l :=
  h.of_block fun g hg => hk.block g (hK g hg)
theorem OwnV.mono {e : TypeId} {m : Nat} {w : World} {O O' : Nat → Prop} {v : Value} {n : Nat} {l : List Value} (h : OwnV e m w O v n l) (hO : ∀ b, O b → O' b) : OwnV e m w O' v n l := ⟨h.1, h.2.1, fun g hg => hO g (h.2.2 g hg)⟩
theorem OwnV.alloc {e : TypeId} {m : Nat} {w : World} {O : Nat → Prop} {v : Value} {n : Nat} {l : List Value} (h : OwnV e m w O v n l) (o : Obj) : OwnV e m (w.alloc o) O v n l :=
  h.of_block fun g hg => Below.heap_alloc w o g (h.lt hg)
/-- The type of its block. -/
theorem OwnV.tag {e : TypeId} {m : Nat} {w : World} {O : Nat → Prop} {v : Value} {n : Nat} {l : List Value} (h : OwnV e m w O v n l) {g : Nat} (hg : v.ownBlock = some g) : ∃ cur, w.heap[g]? = some (.cells cur e (0, 0)) := by
  rcases h.form with ⟨rfl, -⟩ | ⟨g', cap, cur, rfl, -, -, hg', -⟩
  · cases hg
  · cases hg; exact ⟨cur, hg'⟩

theorem OwnV.stored {e : TypeId} {m : Nat} {w : World} {O : Nat → Prop} {g n cap : Nat} {l : List Value} (h : OwnV e m w O (.slice (some ⟨g, 0, none⟩) n cap) n l) (j : Nat) {u : Value} (hu : u.oneCell' = true) :
    OwnV e m (w.setCell ⟨g, j, none⟩ u) O (.slice (some ⟨g, 0, none⟩) n cap) n (l.set j u) :=
  ⟨(World.ownsRow.stored h.1 j u).1, fun x hx => by
    rcases List.mem_or_eq_of_mem_set hx with h1 | rfl
    · exact h.2.1 x h1
    · exact hu, h.2.2⟩
theorem OwnV.free {e : TypeId} {m : Nat} {w : World} {O : Nat → Prop} {g n cap : Nat} {l : List Value} (h : OwnV e m w O (.slice (some ⟨g, 0, none⟩) n cap) n l) (j : Nat) : w.frozen? ⟨g, j, none⟩ = false := World.ownsRow.frozenAt h.1 j
theorem OwnV.at {e : TypeId} {m : Nat} {w : World} {O : Nat → Prop} {g n cap : Nat} {l : List Value} (h : OwnV e m w O (.slice (some ⟨g, 0, none⟩) n cap) n l) (j : Nat) (hj : j < l.length) : w.cell? ⟨g, j, none⟩ = some (l.getD j undef) := by
  rw [World.ownsRow.cellAt h.1 j (by rw [← h.1.1]; exact hj)]
  simp [hj]

/-- What append asks of the element type. -/
structure ElemV (P : Program) (t e : TypeId) (m bytes : Nat) : Prop where
  ht : P.underlying t = some (.slice e)
  pos : 0 < m
  ex : ∃ i z, P.info? e = some i ∧ i.zero = some z ∧ i.size = m ∧ i.bytes = bytes ∧ z.cells.size = m
theorem ElemV.mk' {P : Program} {t e : TypeId} {m bytes : Nat} {z : Value} (ht : P.underlying t = some (.slice e)) (hi : (P.info? e).map (fun i => (i.zero, i.size, i.bytes)) = some (some z, m, bytes)) (hz : z.cells.size = m) (hp : 0 < m) : ElemV P t e m bytes :=
  ⟨ht, hp, let ⟨i, h1, h2, h3, h4⟩ := info_parts hi; ⟨i, _, h1, h2, h3, h4, hz⟩⟩

theorem grown_keep {w w' : World} {r : Option Nat} (hg : w.grownBy w' r) : Keep (fun b => b < w.heap.size ∧ r ≠ some b) w w' :=
  ⟨hg.os, hg.tape, hg.output, hg.size, fun k hk => hg.block k hk.1 (fun e => hk.2 e.symm)⟩

/-- What a source of an append reads as. -/
theorem SlV.news {w : World} {O : Nat → Prop} {m n : Nat} {v : Value} {l : List Value} (h : SlV w O m v n l) :
    (v = .slice none 0 0 ∧ n = 0 ∧ l = []) ∨ ∃ ad cap, v = .slice (some ad) n cap ∧ n ≤ cap ∧ ∀ j u, l[j]? = some u → w.cell? (ad.add j) = some u := by
  obtain ⟨h1, h2, sp, cap, h3, h4, h5, h6, h7⟩ := h
  cases hsp : sp with
  | none =>
    have := h6 hsp
    have hn : n = 0 := by omega
    subst hn
    exact .inl ⟨by rw [h3, hsp, this], rfl, List.eq_nil_of_length_eq_zero (by simpa using h1)⟩
  | some ad =>
    refine .inr ⟨ad, cap, by rw [h3, hsp], h4, fun j u hu => ?_⟩
    have hj : j < l.length := by
      rcases Nat.lt_or_ge j l.length with h | h
      · exact h
      · simp [h] at hu
    have hn : 0 < n := by
      rcases Nat.eq_zero_or_pos n with h0 | h0
      · subst h0; simp at h1; rw [h1] at hj; cases hj
      · exact h0
    obtain ⟨b, o, e, -, -, hr⟩ := h7 hn
    rw [hsp] at e
    cases e
    rw [addr_add, hr j hj]
    simpa [hj] using hu

/-- append of a slice onto an own one: the run. -/
theorem run_appV {P : Program} {w : World} {t ty e : TypeId} {m bytes : Nat} (E : ElemV P t e m bytes) {O O2 : Nat → Prop} {v : Value} {n : Nat} {l : List Value} (hown : OwnV e m w O v n l)
    {x : Value} {n2 : Nat} {l2 : List Value} (hx : SlV w O2 m x n2 l2) (h63 : n + n2 ≤ maxLen) (hby : (n + n2) * bytes ≤ 140737488355328) :
    ∃ v' w', (Builtin.append_ #[t, t] ty #[v, x]).run P w = .ok v' w' ∧ OwnV e m w' (fun g => O g ∨ g = w.heap.size) v' (n + n2) (l ++ l2) ∧ w.grownBy w' v.ownBlock ∧ (∀ g, v'.ownBlock = some g → v.ownBlock = some g ∨ g = w.heap.size) := by
  obtain ⟨i, z, hi, hz, hz1, hz2, hz3⟩ := E.ex
  rcases hx.news with ⟨rfl, rfl, rfl⟩ | ⟨ad, cap, rfl, hc, hn⟩
  · refine ⟨v, w, run_append_owned_none (P := P) (w := w) 0 t ty e i m E.ht hi v n _ hown.1, ?_, World.grownBy.refl _ _, fun g hg => .inl hg⟩
    rw [List.append_nil]
    exact hown.mono (fun _ h => .inl h)
  · rcases Nat.eq_zero_or_pos n2 with h0 | h0
    · subst h0
      have hl2 : l2 = [] := List.eq_nil_of_length_eq_zero (by simpa using hx.1)
      subst hl2
      obtain ⟨v', w', hr, h2, h3, h4, h5⟩ := run_append_own_at (P := P) w 0 t ty e i z m bytes E.ht hi hz hz1 hz2 hz3 E.pos v n l hown.1 ad 0 cap [] (by simp) (by simp) (by simp) h63 hby (Nat.zero_le _)
      have h6 : ∀ g, v'.ownBlock = some g → v.ownBlock = some g ∨ g = w.heap.size := by
        intro g hg
        rcases h5 with h5 | h5
        · exact .inl (by rw [← h5]; exact hg)
        · rw [h5] at hg; cases hg; exact .inr rfl
      exact ⟨v', w', hr, ⟨h2, hown.2.1.append hx.2.1, fun g hg => (h6 g hg).imp (hown.2.2 g) id⟩, h3, h6⟩
    · obtain ⟨g, c, w', hr, h2, h3, h4, h5⟩ := run_append_lies (P := P) w t ty 0 e i z m bytes E.ht hi hz hz1 hz2 hz3 E.pos v n l hown.1 ad n2 cap l2 hx.1 hn hx.2.1 h0 h63 hby (Nat.zero_le _) w.heap.size rfl
      have h6 : ∀ g', (Value.slice (some ⟨g, 0, none⟩) (n + n2) c).ownBlock = some g' → v.ownBlock = some g' ∨ g' = w.heap.size := by
        intro g' hg; cases hg; exact h4
      exact ⟨_, w', hr, ⟨h2, hown.2.1.append hx.2.1, fun g hg => (h6 g hg).imp (hown.2.2 g) id⟩, h3, h6⟩

theorem wp_appV {P : Program} {w : World} {o : Oper} {a : Act} {K : Act → World → Prop} {Q : Exit → Act → World → Prop} (s x : Operand) (t : TypeId)
    (ho : o.op = .call { callee := .builtin .append, args := #[s, x], argTypes := #[t, t] }) {e : TypeId} {m bytes : Nat} (E : ElemV P t e m bytes) {O O2 : Nat → Prop} {v : Value} {n : Nat} {l : List Value} (hs : a.eval s = v) (hown : OwnV e m w O v n l)
    {xv : Value} {n2 : Nat} {l2 : List Value} (hx : a.eval x = xv) (hsl : SlV w O2 m xv n2 l2) {n' : Nat} (hn : n + n2 = n') (h63 : n' ≤ maxLen) (hby : n' * bytes ≤ 140737488355328)
    (h : ∀ sp c w', OwnV e m w' (fun g => O g ∨ g = w.heap.size) (.slice sp n' c) n' (l ++ l2) → w.grownBy w' v.ownBlock → (∀ g, (Value.slice sp n' c).ownBlock = some g → v.ownBlock = some g ∨ g = w.heap.size) → K (a.put o.dst (.slice sp n' c)) w') : o.wp P a w K Q := by
  subst hn
  obtain ⟨v', w', hr, h2, h3, h4⟩ := run_appV (P := P) (ty := o.type) E hown hsl h63 hby
  have hv : ∃ sp c, v' = .slice sp (n + n2) c := by
    rcases h2.form with ⟨rfl, h0, -⟩ | ⟨g, cap, cur, rfl, -⟩
    · exact ⟨none, 0, by rw [h0]⟩
    · exact ⟨_, _, rfl⟩
  obtain ⟨sp, c, rfl⟩ := hv
  unfold Oper.wp execOp
  simp only [ho, resolve, invoke, builtin, Sem.run_bind, Sem.run_pure, Result.andThen_ok, List.map_toArray, List.map_cons, List.map_nil, hs, hx, hr]
  exact h sp c w' h2 h3 h4

/-- At a plain region's operations. -/
theorem wpList_appV {P : Program} {w : World} {ops : Array Oper} {rest : List Oper} {o : Oper} {a : Act} {Q : Exit → Act → World → Prop} (hgd : o.guard = none) (s x : Operand) (t : TypeId)
    (ho : o.op = .call { callee := .builtin .append, args := #[s, x], argTypes := #[t, t] }) {e : TypeId} {m bytes : Nat} (E : ElemV P t e m bytes) {O O2 : Nat → Prop} {v : Value} {n : Nat} {l : List Value} (hs : a.eval s = v) (hown : OwnV e m w O v n l)
    {xv : Value} {n2 : Nat} {l2 : List Value} (hx : a.eval x = xv) (hsl : SlV w O2 m xv n2 l2) {n' : Nat} (hn : n + n2 = n') (h63 : n' ≤ maxLen) (hby : n' * bytes ≤ 140737488355328)
    (h : ∀ sp c w', OwnV e m w' (fun g => O g ∨ g = w.heap.size) (.slice sp n' c) n' (l ++ l2) → w.grownBy w' v.ownBlock → (∀ g, (Value.slice sp n' c).ownBlock = some g → v.ownBlock = some g ∨ g = w.heap.size) → wpList P ops Q rest (a.put o.dst (.slice sp n' c)) w') : wpList P ops Q (o :: rest) a w :=
  wpList_plain hgd fun _ hK => wp_appV s x t ho E hs hown hx hsl hn h63 hby fun sp c w' h2 h3 h4 => hK _ _ (h sp c w' h2 h3 h4)

/-- At a step of a region that draws its order. -/
theorem step_appV {P : Program} {w : World} {ops : Array Oper} {o : Oper} {a : Act} {K : Act → World → Prop} {Q : Exit → Act → World → Prop} {F : Prop} (hgd : o.guard = none) (s x : Operand) (t : TypeId)
    (ho : o.op = .call { callee := .builtin .append, args := #[s, x], argTypes := #[t, t] }) {e : TypeId} {m bytes : Nat} (E : ElemV P t e m bytes) {O O2 : Nat → Prop} {v : Value} {n : Nat} {l : List Value} (hs : a.eval s = v) (hown : OwnV e m w O v n l)
    {xv : Value} {n2 : Nat} {l2 : List Value} (hx : a.eval x = xv) (hsl : SlV w O2 m xv n2 l2) {n' : Nat} (hn : n + n2 = n') (h63 : n' ≤ maxLen) (hby : n' * bytes ≤ 140737488355328)
    (h : ∀ sp c w', OwnV e m w' (fun g => O g ∨ g = w.heap.size) (.slice sp n' c) n' (l ++ l2) → w.grownBy w' v.ownBlock → (∀ g, (Value.slice sp n' c).ownBlock = some g → v.ownBlock = some g ∨ g = w.heap.size) → K (a.put o.dst (.slice sp n' c)) w') :
    if Region.wanted o (yielded ops a.tmps) = true then Oper.wp P o a w K Q else F := by
  rw [if_pos (by simp [Region.wanted, hgd])]
  exact wp_appV s x t ho E hs hown hx hsl hn h63 hby h

/-- append onto a full slice: a new block. -/
theorem step_growV {P : Program} {w : World} {ops : Array Oper} {o : Oper} {a : Act} {K : Act → World → Prop} {Q : Exit → Act → World → Prop} {F : Prop} (hgd : o.guard = none) (s x : Operand) (t : TypeId)
    (ho : o.op = .call { callee := .builtin .append, args := #[s, x], argTypes := #[t, t] }) {e : TypeId} {m bytes : Nat} (E : ElemV P t e m bytes) {O O2 : Nat → Prop} {sp : Option Addr} {n cc : Nat} {l : List Value} (hs : a.eval s = .slice sp n n) (hown : SlV w O m (.slice sp n cc) n l)
    {xv : Value} {n2 : Nat} {l2 : List Value} (hx : a.eval x = xv) (hsl : SlV w O2 m xv n2 l2) (h0 : 0 < n2) {n' : Nat} (hn : n + n2 = n') (h63 : n' ≤ maxLen) (hby : n' * bytes ≤ 140737488355328)
    (h : ∀ sp c w', OwnV e m w' (fun g => w.heap.size ≤ g) (.slice sp n' c) n' (l ++ l2) → w.grownBy w' none → K (a.put o.dst (.slice sp n' c)) w') :
    if Region.wanted o (yielded ops a.tmps) = true then Oper.wp P o a w K Q else F := by
  subst hn
  obtain ⟨i, z, hi, hz, hz1, hz2, hz3⟩ := E.ex
  rcases hsl.news with ⟨rfl, rfl, -⟩ | ⟨ad, cap, rfl, hc, hnw⟩
  · omega
  · refine step_append_grows hgd s x t ho e i z m bytes E.ht hi hz hz1 hz2 hz3 E.pos sp n n l hs ?_ hown.1 ?_ ad n2 cap l2 hx hsl.1 hnw hsl.2.1 (by omega) h63 hby ?_
    · intro e0; subst e0
      rcases hown.news with ⟨-, h1, -⟩ | ⟨_, _, h1, _⟩
      · exact ⟨h1, h1⟩
      · cases h1
    · intro b hb; subst hb
      rcases hown.news with ⟨h1, -, -⟩ | ⟨ad', cp, h1, -, h2⟩
      · cases h1
      · injection h1 with h1 _ _; cases h1; exact h2
    · intro v' w' h1 h2
      rcases h1.2 with ⟨-, h3⟩ | ⟨g, cap', cur, rfl, hb, r⟩
      · omega
      · exact h _ _ w' ⟨⟨h1.1, .inr ⟨g, cap', cur, rfl, Nat.zero_le _, r⟩⟩, hown.2.1.append hsl.2.1, fun g' e => by cases e; exact hb⟩ h2

/-- A new block of cells as a slice that reads. -/
theorem SlV.fresh (w : World) (O : Nat → Prop) (T : TypeId) {m n : Nat} {l : List Value} (hl : l.length = n * m) (h1 : Ones l) (hO : O w.heap.size) (hn : n ≤ maxLen) :
    SlV (w.alloc (.cells l.toArray T)) O m (.slice (some ⟨w.heap.size, 0, none⟩) n n) n l :=
  ⟨hl, h1, _, n, rfl, Nat.le_refl _, by unfold maxLen at hn; exact hn, (fun h => by cases h), fun _ => ⟨_, 0, rfl, by simp, hO, RowV.of_vblk (VBlk.mk w l T)⟩⟩
theorem OwnV.empty (w : World) (e : TypeId) (m : Nat) : OwnV e m (w.alloc (.cells #[] e)) (fun g => g = w.heap.size) (.slice (some ⟨w.heap.size, 0, none⟩) 0 0) 0 [] :=
  ⟨⟨by simp, .inr ⟨w.heap.size, 0, #[], rfl, Nat.zero_le _, heap_alloc_new _ _, by omega, by unfold maxLen; omega, by simp, by simp⟩⟩, fun _ h => (List.not_mem_nil h).elim, fun g h => by cases h; rfl⟩

theorem belowN {B : Nat} {w w' : World} (h : Below B w w') (n : Nat) : Below B w (w'.drewN n) := ((Keep.of_below h).drewN n).below

theorem str_eq {a b : ByteArray} (h : a.toList = b.toList) : a = b := by
  rw [ByteArray.toList_eq, ByteArray.toList_eq] at h
  exact WideShapes.bytes_inj h
theorem str_ne {a b : ByteArray} (h : a ≠ b) : ¬ a.toList = b.toList := fun e => h (str_eq e)

/-- Two results: a whole block and a slot. -/
theorem results_cell_tmp {P : Program} {fn : Func} {p q : Tmp} {ty : TypeId} (h : fn.results = #[.cell p ty, .tmp q]) (tmps : Array Value) (w : World) (g : Nat) (t : TypeId) (cs : Array Value) (fr : Nat × Nat) (d : TypeDesc) (x : Value)
    (hp : tmps.getD p undef = .pointer (some ⟨g, 0, none⟩)) (hg : w.heap[g]? = some (.cells cs t fr))
    (hu : P.underlying ty = some d) (hd : (match d with | .struct _ | .array _ _ => true | _ => false) = true) (hi : (P.info? ty).map (·.size) = some cs.size) (hx : tmps.getD q undef = x) :
    (results fn tmps).run P w = .ok (.tuple #[.agg cs, x]) w := by
  have hp' : tmps[p]?.getD undef = .pointer (some ⟨g, 0, none⟩) := by simpa using hp
  have hx' : tmps[q]?.getD undef = x := by simpa using hx
  simp [results, h, hp', hx', asAddr, run_loadVar_row w g t ty cs fr d hg hu hd hi]

end Go.Proofs.Ytdaljjicekheiaa
