/- Rows of elements of several cells that say what lies in them, with the blocks that they lie in; own rows of these. -/
import Derived.Test.YtdaljjicekheiaaKf
namespace Go.Proofs.Ytdaljjicekheiaa
open Go.RowKit
namespace K
variable {n : NN} {Q : Exit → Act → World → Prop} {l : Env} {w w' : World} {ops : Array Oper} {o : Oper} {rest : List Oper} {d : Nat}

/-- The slice v reads as the elements l of m cells each, which P says of; its block is one of O. -/
def Els {α : Type} (m : Nat) (z : α) (P : α → List Value → Prop) (O : Nat → Prop) (w : World) (v : Value) (l : List α) : Prop :=
  ∃ sp cap, v = .slice sp l.length cap ∧ l.length ≤ cap ∧ cap ≤ 9223372036854775807 ∧ (sp = none → cap = 0) ∧
    (0 < l.length → ∃ b o, sp = some ⟨b, o, none⟩ ∧ b < w.heap.size ∧ O b ∧ ∀ j, j < l.length → ∃ cs, cs.length = m ∧ P (l.getD j z) cs ∧ w.rangeAt b (o + j * m) cs)
theorem Els.nil {α : Type} (m : Nat) (z : α) (P : α → List Value → Prop) (O : Nat → Prop) (w : World) : Els m z P O w (.slice none 0 0) [] :=
  ⟨none, 0, rfl, Nat.le_refl _, by omega, fun _ => rfl, fun h => absurd h (by simp)⟩
theorem Els.keep {α : Type} {m : Nat} {z : α} {P P' : α → List Value → Prop} {O O' : Nat → Prop} {w w' : World} {v : Value} {l : List α} (h : Els m z P O w v l) {K : Nat → Prop} (hk : Keep K w w') (hK : ∀ b, O b → b < w.heap.size → K b)
    (hO : ∀ b, O b → O' b) (hP : ∀ x cs, P x cs → P' x cs) : Els m z P' O' w' v l := by
  obtain ⟨sp, cap, h1, h2, h3, h5, h4⟩ := h
  refine ⟨sp, cap, h1, h2, h3, h5, fun h0 => ?_⟩
  obtain ⟨b, o, e, hlt, hOb, hr⟩ := h4 h0
  refine ⟨b, o, e, Nat.lt_of_lt_of_le hlt hk.size, hO b hOb, fun j hj => ?_⟩
  obtain ⟨cs, hc, hp, hat⟩ := hr j hj
  exact ⟨cs, hc, hP _ _ hp, fun i u hu => by rw [hk.cell (p := ⟨b, o + j * m + i, none⟩) (hK b hOb hlt)]; exact hat i u hu⟩
theorem Els.mono {α : Type} {m : Nat} {z : α} {P P' : α → List Value → Prop} {O O' : Nat → Prop} {w : World} {v : Value} {l : List α} (h : Els m z P O w v l) (hO : ∀ b, O b → O' b) (hP : ∀ x cs, P x cs → P' x cs) : Els m z P' O' w v l :=
  h.keep (Keep.refl (fun _ => True) w) (fun _ _ _ => trivial) hO hP

/-- An own row of such elements. -/
def OwnE {α : Type} (e : TypeId) (m : Nat) (z : α) (P : α → List Value → Prop) (O : Nat → Prop) (w : World) (v : Value) (l : List α) : Prop :=
  ∃ kcs : List (List Value), kcs.length = l.length ∧ (∀ j, j < l.length → (kcs.getD j []).length = m ∧ P (l.getD j z) (kcs.getD j [])) ∧ OwnV e m w O v l.length kcs.flatten
theorem OwnE.nil {α : Type} (e : TypeId) (m : Nat) (z : α) (P : α → List Value → Prop) (O : Nat → Prop) (w : World) : OwnE e m z P O w (.slice none 0 0) [] := ⟨[], rfl, fun j hj => absurd hj (by simp), OwnV.nil _ _ _ _⟩
theorem OwnE.keep {α : Type} {e : TypeId} {m : Nat} {z : α} {P P' : α → List Value → Prop} {O O' : Nat → Prop} {w w' : World} {v : Value} {l : List α} (h : OwnE e m z P O w v l) {K : Nat → Prop} (hk : Keep K w w') (hK : ∀ g, v.ownBlock = some g → K g)
    (hO : ∀ b, O b → O' b) (hP : ∀ x cs, P x cs → P' x cs) : OwnE e m z P' O' w' v l := by
  obtain ⟨kcs, h1, h2, h3⟩ := h
  exact ⟨kcs, h1, fun j hj => ⟨(h2 j hj).1, hP _ _ (h2 j hj).2⟩, (h3.keep hk hK).mono hO⟩
theorem OwnE.lt {α : Type} {e : TypeId} {m : Nat} {z : α} {P : α → List Value → Prop} {O : Nat → Prop} {w : World} {v : Value} {l : List α} (h : OwnE e m z P O w v l) {g : Nat} (hg : v.ownBlock = some g) : g < w.heap.size := by
  obtain ⟨kcs, -, -, h3⟩ := h; exact h3.lt hg
theorem OwnE.own {α : Type} {e : TypeId} {m : Nat} {z : α} {P : α → List Value → Prop} {O : Nat → Prop} {w : World} {v : Value} {l : List α} (h : OwnE e m z P O w v l) {g : Nat} (hg : v.ownBlock = some g) : O g := by
  obtain ⟨kcs, -, -, h3⟩ := h; exact h3.own hg
theorem OwnE.one {α : Type} {e : TypeId} {m : Nat} {z : α} {P : α → List Value → Prop} {O : Nat → Prop} {w : World} {v : Value} {l : List α} (h : OwnE e m z P O w v l) : v.oneCell' = true := by
  obtain ⟨kcs, -, -, h3⟩ := h; obtain ⟨sp, c, rfl, -⟩ := h3.slice; rfl
theorem flatten_get {m : Nat} : ∀ (k : List (List Value)), (∀ x ∈ k, x.length = m) → ∀ j i, j < k.length → i < m → k.flatten[j * m + i]? = (k.getD j [])[i]?
  | [], _, j, i, hj, _ => by simp at hj
  | x :: k, hx, j, i, hj, hi => by
    have h0 := hx x (by simp)
    cases j with
    | zero => simp only [List.flatten_cons, List.getD_cons_zero, Nat.zero_mul, Nat.zero_add]; rw [List.getElem?_append_left (by omega)]
    | succ j =>
      simp only [List.flatten_cons, List.getD_cons_succ]
      rw [List.getElem?_append_right (by rw [h0, Nat.succ_mul]; omega), h0, show (j + 1) * m + i - m = j * m + i by rw [Nat.succ_mul]; omega]
      exact flatten_get k (fun y hy => hx y (by simp [hy])) j i (by simpa using hj) hi
theorem all_of_getD {m : Nat} {k : List (List Value)} (h : ∀ j, j < k.length → (k.getD j []).length = m) : ∀ x ∈ k, x.length = m := by
  intro x hx
  obtain ⟨j, hj, rfl⟩ := List.getElem_of_mem hx
  have := h j hj
  simpa [hj] using this
/-- It reads so. -/
theorem OwnE.els {α : Type} {e : TypeId} {m : Nat} {z : α} {P : α → List Value → Prop} {O : Nat → Prop} {w : World} {v : Value} {l : List α} (h : OwnE e m z P O w v l) : Els m z P O w v l := by
  obtain ⟨kcs, h1, h2, h3⟩ := h
  obtain ⟨q1, q2, sp, cap, rfl, h4, h5, h6, h7⟩ := h3.slV
  refine ⟨sp, cap, rfl, h4, h5, h6, fun h0 => ?_⟩
  obtain ⟨b, o, e, hb, hO, hr⟩ := h7 h0
  have hall := all_of_getD (k := kcs) (m := m) fun j hj => (h2 j (by omega)).1
  refine ⟨b, o, e, hb, hO, fun j hj => ⟨kcs.getD j [], (h2 j hj).1, (h2 j hj).2, fun i u hu => ?_⟩⟩
  have him : i < m := by
    rcases Nat.lt_or_ge i m with h | h
    · exact h
    · rw [List.getElem?_eq_none (by rw [(h2 j hj).1]; exact h)] at hu; cases hu
  have hg := flatten_get kcs hall j i (by omega) him
  have hlt : j * m + i < kcs.flatten.length := by
    rcases Nat.lt_or_ge (j * m + i) kcs.flatten.length with h | h
    · exact h
    · rw [List.getElem?_eq_none h, hu] at hg; cases hg
  have := hr (j * m + i) hlt
  rw [Nat.add_assoc, this, List.getD_eq_getElem?_getD, hg, hu]
  rfl
/-- One more. -/
theorem OwnE.snoc {α : Type} {e : TypeId} {m : Nat} {z : α} {P : α → List Value → Prop} {O : Nat → Prop} {w' : World} {v' : Value} {l : List α} {kcs : List (List Value)} {x : α} {cs : List Value} (h1 : kcs.length = l.length) (h2 : ∀ j, j < l.length → (kcs.getD j []).length = m ∧ P (l.getD j z) (kcs.getD j []))
    (hc : cs.length = m) (hp : P x cs) (h : OwnV e m w' O v' (l.length + 1) (kcs.flatten ++ cs)) : OwnE e m z P O w' v' (l ++ [x]) := by
  refine ⟨kcs ++ [cs], by simp [h1], fun j hj => ?_, ?_⟩
  · rcases Nat.lt_or_ge j l.length with hl | hl
    · have := h2 j hl
      simp only [List.getD_eq_getElem?_getD] at this ⊢
      rw [List.getElem?_append_left (by omega), List.getElem?_append_left (by omega)]
      exact this
    · obtain rfl : j = l.length := by simp at hj; omega
      simp only [List.getD_eq_getElem?_getD]
      rw [List.getElem?_append_right (by omega), List.getElem?_append_right (by omega), h1]
      simp [hc, hp]
  · rw [List.length_append, List.length_singleton, List.flatten_append]
    simpa using h

/-- A literal of one element. -/
theorem WL.lit1 {t e s : Nat} {x : Operand} {u : Value} {cs : List Value} (hg : o.guard = none) (hd : o.dst = some d) (hn : Nat.blt d n.n = true) (ho : o.op = .buildSlice t 1 #[(0, x)]) (ht : tyOf ty t = some (.slice e s))
    (hx : evl l x = some u) (hu : u.cells = cs.toArray) (hcs : cs.length = s) (hs : 0 < s ∧ s ≤ 1000) (hz : (Try.prog.info? e).bind (fun i => i.zero.map fun _ => i.size) = some s) (h : ∀ g w', Fresh w g w' e cs → WL n ops Q rest ((d, .slice (some ⟨g, 0, none⟩) 1 1) :: l) w') : WL n ops Q (o :: rest) l w :=
  WL.step hg hd hn (fun a ha => by
    obtain ⟨ie, hie, hz⟩ := Option.bind_eq_some_iff.1 hz
    obtain ⟨z, hz, hsz⟩ := Option.map_eq_some_iff.1 hz
    unfold execOp
    rw [ho]
    have e2 := Great.fill_whole (s := s) hs.1 [u] ((Array.range (1 * s)).map (z.cells[· % z.cells.size]!)) (by intro v hv; simp at hv; rw [hv, hu]; simpa using hcs) (by simp)
    have := run_buildSlice (P := Try.prog) w t e 1 (#[(0, x)].map fun (p : Nat × Operand) => (p.1, a.eval p.2)) cs.toArray ie z (TyOk.of tyOk ht).1 hie hz (by rw [hsz]; omega) (by rw [hsz]; omega) (by
      rw [hsz]
      simp only [List.map_toArray, List.map_cons, List.map_nil, ha.eval hx]
      refine Eq.trans e2 ?_
      simp [hu])
    simp only [Sem.run_bind, this, Result.andThen_ok]
    rfl) (h _ _ (Fresh.mk' w e cs))
/-- A literal of nothing. -/
theorem WL.empty {t e s : Nat} (hg : o.guard = none) (hd : o.dst = some d) (hn : Nat.blt d n.n = true) (ho : o.op = .buildSlice t 0 #[]) (ht : tyOf ty t = some (.slice e s))
    (h : ∀ g w', Fresh w g w' e [] → WL n ops Q rest ((d, .slice (some ⟨g, 0, none⟩) 0 0) :: l) w') : WL n ops Q (o :: rest) l w :=
  WL.step hg hd hn (fun a _ => by
    obtain ⟨hu, hsz⟩ := TyOk.of tyOk ht
    have hs : (sizeOf e).run Try.prog w = .ok s w := by
      cases hq : Try.prog.info? e with
      | none => rw [hq] at hsz; cases hsz
      | some q => rw [hq] at hsz; simp at hsz; simp [sizeOf, typeInfo, hq, hsz]
    unfold execOp
    rw [ho]
    simp [Instr.buildSlice, run_underlying hu, hs, Instr.fill, newRow]
    rw [show (Array.range 0) = #[] from by decide]
    simp) (h _ _ (Fresh.mk' w e []))
theorem Bu.ofFresh {w w' : World} {g : Nat} (h : Fresh w g w' 5 []) : Bu w' (.slice (some ⟨g, 0, none⟩) 0 0) [] :=
  ⟨by simp, .inr ⟨g, 0, #[], rfl, Nat.zero_le _, h.blk, Nat.le_refl _, by unfold maxLen; omega, by simp, by simp⟩⟩
theorem SlV.fresh1 {w w' : World} {g T : Nat} {cs : List Value} (h : Fresh w g w' T cs) (h1 : Ones cs) : SlV w' (fun b => b = g) cs.length (.slice (some ⟨g, 0, none⟩) 1 1) 1 cs :=
  ⟨by simp, h1, _, 1, rfl, Nat.le_refl _, by omega, (fun h => by cases h), fun _ => ⟨g, 0, rfl, h.blk.lt, rfl, RowV.of_vblk h.blk⟩⟩
/-- append of one element, that lies in a literal of its own, onto an own row. -/
theorem WL.snoc {α : Type} {s x : Operand} {t e : TypeId} {m bytes : Nat} {z : α} {P : α → List Value → Prop} {O : Nat → Prop} {v : Value} {k : List α} {y : α} {cs : List Value} {g : Nat} (hg : o.guard = none) (hd : o.dst = some d) (hn : Nat.blt d n.n = true)
    (ho : o.op = .call { callee := .builtin .append, args := #[s, x], argTypes := #[t, t] }) (E : ElemV Try.prog t e m bytes) (hs : evl l s = some v) (hown : OwnE e m z P O w v k) (hx : evl l x = some (.slice (some ⟨g, 0, none⟩) 1 1))
    (hf : VBlk e w g cs) (h1 : Ones cs) (hc : cs.length = m) (hp : P y cs) (hb : (k.length + 1) * bytes ≤ 140737488355328) (hb1 : k.length + 1 ≤ 140737488355328)
    (h : ∀ v' w', OwnE e m z P (fun b => O b ∨ b = w.heap.size) w' v' (k ++ [y]) → Grow w v w' v' → WL n ops Q rest ((d, v') :: l) w') : WL n ops Q (o :: rest) l w := by
  obtain ⟨kcs, h2, h3, h4⟩ := hown
  have hsl : SlV w (fun b => b = g) m (.slice (some ⟨g, 0, none⟩) 1 1) 1 cs := ⟨by rw [hc, Nat.one_mul], h1, _, 1, rfl, Nat.le_refl _, by omega, (fun h => by cases h), fun _ => ⟨g, 0, rfl, hf.lt, rfl, RowV.of_vblk hf⟩⟩
  refine WL.appV hg hd hn ho E hs h4 hx hsl hb hb1 fun v' w' h5 h6 => h v' w' ?_ h6
  exact OwnE.snoc h2 h3 hc hp h5
end K
end Go.Proofs.Ytdaljjicekheiaa
