/- Texts for LawWirReq, part 2 of 9. -/
import Derived.Test.YtdkkaliiofcflaaZLawWirReq1
import Derived.Laws.CopyRow
import Derived.ProofKit
import Derived.OpenShut
import Derived.ShutString
import Derived.ChangeOld
import Derived.Below
import Derived.Deep.Slices
import Derived.Deep.MidRow
import Derived.Laws.Bits64b
import Derived.Laws.BitsLemmas
/- Rows of elements of several cells that say what lies in them, with the blocks that they lie in; own rows of these. -/
namespace Go.Proofs.Ytdkkaliiofcflaa
open Go.RowKit
namespace K
variable {n : Nat} {Q : Exit → Act → World → Prop} {l : Env} {w w' : World} {ops : Array Oper} {o : Oper} {rest : List Oper} {d : Nat}

/-- The slice v reads as the elements l of m cells each, which P says of; its block is one of O. -/
def Els {α : Type} (m : Nat) (z : α) (P : α → List Value → Prop) (O : Nat → Prop) (w : World) (v : Value) (l : List α) : Prop :=
  ∃ sp cap, v = .slice sp l.length cap ∧ l.length ≤ cap ∧ cap ≤ 9223372036854775807 ∧ (sp = none → cap = 0) ∧
    (0 < l.length → ∃ b o, sp = some ⟨b, o, none⟩ ∧ b < w.heap.size ∧ O b ∧ ∀ j, j < l.length → ∃ cs, cs.length = m ∧ P (l.getD j z) cs ∧ w.rangeAt b (o + j * m) cs)
theorem Els.nil {α : Type} (m : Nat) (z : α) (P : α → List Value → Prop) (O : Nat → Prop) (w : World) : Els m z P O w (.slice none 0 0) [] :=
  ⟨none, 0, rfl, Nat.le_refl _, by omega, fun _ => rfl, fun h => absurd h (by simp)⟩
theorem Els.keep {α : Type} {m : Nat} {z : α} {P P' : α → List Value → Prop} {O O' : Nat → Prop} {w w' : World} {v : Value} {l : List α} (h : Els m z P O w v l) {K : Nat → Prop} (hk : Keep K w w') (hK : ∀ b, O b → b < w.heap.size → K b)
    (hO : ∀ b, O b → O' b) (hP : ∀ x cs, P x cs → P' x cs) : Els m z P' O' w' v l := by
  obtain ⟨sp, cap, h1, h2, h3, h5, h4⟩ := h
  refine ⟨sp, cap, h1, h2, h3, h5, fun h0 => ?_⟩
  obtain ⟨b, o, e, hlt, hOb, hr⟩ := h4 h0
  refine ⟨b, o, e, Nat.lt_of_lt_of_le hlt hk.size, hO b hOb, fun j hj => ?_⟩
  obtain ⟨cs, hc, hp, hat⟩ := hr j hj
  exact ⟨cs, hc, hP _ _ hp, fun i u hu => by rw [hk.cell (p := ⟨b, o + j * m + i, none⟩) (hK b hOb hlt)]; exact hat i u hu⟩
theorem Els.mono {α : Type} {m : Nat} {z : α} {P P' : α → List Value → Prop} {O O' : Nat → Prop} {w : World} {v : Value} {l : List α} (h : Els m z P O w v l) (hO : ∀ b, O b → O' b) (hP : ∀ x cs, P x cs → P' x cs) : Els m z P' O' w v l :=
  h.keep (Keep.refl (fun _ => True) w) (fun _ _ _ => trivial) hO hP

/-- An own row of such elements. -/
def OwnE {α : Type} (e : TypeId) (m : Nat) (z : α) (P : α → List Value → Prop) (O : Nat → Prop) (w : World) (v : Value) (l : List α) : Prop :=
  ∃ kcs : List (List Value), kcs.length = l.length ∧ (∀ j, j < l.length → (kcs.getD j []).length = m ∧ P (l.getD j z) (kcs.getD j [])) ∧ OwnV e m w O v l.length kcs.flatten
theorem OwnE.nil {α : Type} (e : TypeId) (m : Nat) (z : α) (P : α → List Value → Prop) (O : Nat → Prop) (w : World) : OwnE e m z P O w (.slice none 0 0) [] := ⟨[], rfl, fun j hj => absurd hj (by simp), OwnV.nil _ _ _ _⟩
theorem OwnE.keep {α : Type} {e : TypeId} {m : Nat} {z : α} {P P' : α → List Value → Prop} {O O' : Nat → Prop} {w w' : World} {v : Value} {l : List α} (h : OwnE e m z P O w v l) {K : Nat → Prop} (hk : Keep K w w') (hK : ∀ g, v.ownBlock = some g → K g)
    (hO : ∀ b, O b → O' b) (hP : ∀ x cs, P x cs → P' x cs) : OwnE e m z P' O' w' v l := by
  obtain ⟨kcs, h1, h2, h3⟩ := h
  exact ⟨kcs, h1, fun j hj => ⟨(h2 j hj).1, hP _ _ (h2 j hj).2⟩, (h3.keep hk hK).mono hO⟩
theorem OwnE.lt {α : Type} {e : TypeId} {m : Nat} {z : α} {P : α → List Value → Prop} {O : Nat → Prop} {w : World} {v : Value} {l : List α} (h : OwnE e m z P O w v l) {g : Nat} (hg : v.ownBlock = some g) : g < w.heap.size := by
  obtain ⟨kcs, -, -, h3⟩ := h; exact h3.lt hg
theorem OwnE.own {α : Type} {e : TypeId} {m : Nat} {z : α} {P : α → List Value → Prop} {O : Nat → Prop} {w : World} {v : Value} {l : List α} (h : OwnE e m z P O w v l) {g : Nat} (hg : v.ownBlock = some g) : O g := by
  obtain ⟨kcs, -, -, h3⟩ := h; exact h3.own hg
theorem OwnE.one {α : Type} {e : TypeId} {m : Nat} {z : α} {P : α → List Value → Prop} {O : Nat → Prop} {w : World} {v : Value} {l : List α} (h : OwnE e m z P O w v l) : v.oneCell' = true := by
  obtain ⟨kcs, -, -, h3⟩ := h; obtain ⟨sp, c, rfl, -⟩ := h3.slice; rfl
theorem flatten_get {m : Nat} : ∀ (k : List (List Value)), (∀ x ∈ k, x.length = m) → ∀ j i, j < k.length → i < m → k.flatten[j * m + i]? = (k.getD j [])[i]?
  | [], _, j, i, hj, _ => by simp at hj
  | x :: k, hx, j, i, hj, hi => by
    have h0 := hx x (by simp)
    cases j with
    | zero => simp only [List.flatten_cons, List.getD_cons_zero, Nat.zero_mul, Nat.zero_add]; rw [List.getElem?_append_left (by omega)]
    | succ j =>
      simp only [List.flatten_cons, List.getD_cons_succ]
      rw [List.getElem?_append_right (by rw [h0, Nat.succ_mul]; omega), h0, show (j + 1) * m + i - m = j * m + i by rw [Nat.succ_mul]; omega]
      exact flatten_get k (fun y hy => hx y (by simp [hy])) j i (by simpa using hj) hi
theorem all_of_getD {m : Nat} {k : List (List Value)} (h : ∀ j, j < k.length → (k.getD j []).length = m) : ∀ x ∈ k, x.length = m := by
  intro x hx
  obtain ⟨j, hj, rfl⟩ := List.getElem_of_mem hx
  have := h j hj
  simpa [hj] using this
/-- It reads so. -/
theorem OwnE.els {α : Type} {e : TypeId} {m : Nat} {z : α} {P : α → List Value → Prop} {O : Nat → Prop} {w : World} {v : Value} {l : List α} (h : OwnE e m z P O w v l) : Els m z P O w v l := by
  obtain ⟨kcs, h1, h2, h3⟩ := h
  obtain ⟨q1, q2, sp, cap, rfl, h4, h5, h6, h7⟩ := h3.slV
  refine ⟨sp, cap, rfl, h4, h5, h6, fun h0 => ?_⟩
  obtain ⟨b, o, e, hb, hO, hr⟩ := h7 h0
  have hall := all_of_getD (k := kcs) (m := m) fun j hj => (h2 j (by omega)).1
  refine ⟨b, o, e, hb, hO, fun j hj => ⟨kcs.getD j [], (h2 j hj).1, (h2 j hj).2, fun i u hu => ?_⟩⟩
  have him : i < m := by
    rcases Nat.lt_or_ge i m with h | h
    · exact h
    · rw [List.getElem?_eq_none (by rw [(h2 j hj).1]; exact h)] at hu; cases hu
  have hg := flatten_get kcs hall j i (by omega) him
  have hlt : j * m + i < kcs.flatten.length := by
    rcases Nat.lt_or_ge (j * m + i) kcs.flatten.length with h | h
    · exact h
    · rw [List.getElem?_eq_none h, hu] at hg; cases hg
  have := hr (j * m + i) hlt
  rw [Nat.add_assoc, this, List.getD_eq_getElem?_getD, hg, hu]
  rfl
/-- One more. -/
theorem OwnE.snoc {α : Type} {e : TypeId} {m : Nat} {z : α} {P : α → List Value → Prop} {O : Nat → Prop} {w' : World} {v' : Value} {l : List α} {kcs : List (List Value)} {x : α} {cs : List Value} (h1 : kcs.length = l.length) (h2 : ∀ j, j < l.length → (kcs.getD j []).length = m ∧ P (l.getD j z) (kcs.getD j []))
    (hc : cs.length = m) (hp : P x cs) (h : OwnV e m w' O v' (l.length + 1) (kcs.flatten ++ cs)) : OwnE e m z P O w' v' (l ++ [x]) := by
  refine ⟨kcs ++ [cs], by simp [h1], fun j hj => ?_, ?_⟩
  · rcases Nat.lt_or_ge j l.length with hl | hl
    · have := h2 j hl
      simp only [List.getD_eq_getElem?_getD] at this ⊢
      rw [List.getElem?_append_left (by omega), List.getElem?_append_left (by omega)]
      exact this
    · obtain rfl : j = l.length := by simp at hj; omega
      simp only [List.getD_eq_getElem?_getD]
      rw [List.getElem?_append_right (by omega), List.getElem?_append_right (by omega), h1]
      simp [hc, hp]
  · rw [List.length_append, List.length_singleton, List.flatten_append]
    simpa using h

/-- A literal of one element. -/
theorem WL.lit1 {t e s : Nat} {x : Operand} {u : Value} {cs : List Value} (hg : o.guard = none) (hd : o.dst = some d) (hn : Nat.blt d n = true) (ho : o.op = .buildSlice t 1 #[(0, x)]) (ht : tyOf ty t = some (.slice e s))
    (hx : evl l x = some u) (hu : u.cells = cs.toArray) (hcs : cs.length = s) (hs : 0 < s ∧ s ≤ 1000) (hz : (Try.prog.info? e).bind (fun i => i.zero.map fun _ => i.size) = some s) (h : ∀ g w', Fresh w g w' e cs → WL n ops Q rest ((d, .slice (some ⟨g, 0, none⟩) 1 1) :: l) w') : WL n ops Q (o :: rest) l w :=
  WL.step hg hd hn (fun a ha => by
    obtain ⟨ie, hie, hz⟩ := Option.bind_eq_some_iff.1 hz
    obtain ⟨z, hz, hsz⟩ := Option.map_eq_some_iff.1 hz
    unfold execOp
    rw [ho]
    have e2 := Great.fill_whole (s := s) hs.1 [u] ((Array.range (1 * s)).map (z.cells[· % z.cells.size]!)) (by intro v hv; simp at hv; rw [hv, hu]; simpa using hcs) (by simp)
    have := run_buildSlice (P := Try.prog) w t e 1 (#[(0, x)].map fun (p : Nat × Operand) => (p.1, a.eval p.2)) cs.toArray ie z (TyOk.of tyOk ht).1 hie hz (by rw [hsz]; omega) (by rw [hsz]; omega) (by
      rw [hsz]
      simp only [List.map_toArray, List.map_cons, List.map_nil, ha.eval hx]
      refine Eq.trans e2 ?_
      simp [hu])
    simp only [Sem.run_bind, this, Result.andThen_ok]
    rfl) (h _ _ (Fresh.mk' w e cs))
/-- A literal of nothing. -/
theorem WL.empty {t e s : Nat} (hg : o.guard = none) (hd : o.dst = some d) (hn : Nat.blt d n = true) (ho : o.op = .buildSlice t 0 #[]) (ht : tyOf ty t = some (.slice e s))
    (h : ∀ g w', Fresh w g w' e [] → WL n ops Q rest ((d, .slice (some ⟨g, 0, none⟩) 0 0) :: l) w') : WL n ops Q (o :: rest) l w :=
  WL.step hg hd hn (fun a _ => by
    obtain ⟨hu, hsz⟩ := TyOk.of tyOk ht
    have hs : (sizeOf e).run Try.prog w = .ok s w := by
      cases hq : Try.prog.info? e with
      | none => rw [hq] at hsz; cases hsz
      | some q => rw [hq] at hsz; simp at hsz; simp [sizeOf, typeInfo, hq, hsz]
    unfold execOp
    rw [ho]
    simp [Instr.buildSlice, run_underlying hu, hs, Instr.fill, newRow]
    rw [show (Array.range 0) = #[] from by decide]
    simp) (h _ _ (Fresh.mk' w e []))
theorem Bu.ofFresh {w w' : World} {g : Nat} (h : Fresh w g w' 5 []) : Bu w' (.slice (some ⟨g, 0, none⟩) 0 0) [] :=
  ⟨by simp, .inr ⟨g, 0, #[], rfl, Nat.zero_le _, h.blk, Nat.le_refl _, by unfold maxLen; omega, by simp, by simp⟩⟩
theorem SlV.fresh1 {w w' : World} {g T : Nat} {cs : List Value} (h : Fresh w g w' T cs) (h1 : Ones cs) : SlV w' (fun b => b = g) cs.length (.slice (some ⟨g, 0, none⟩) 1 1) 1 cs :=
  ⟨by simp, h1, _, 1, rfl, Nat.le_refl _, by omega, (fun h => by cases h), fun _ => ⟨g, 0, rfl, h.blk.lt, rfl, RowV.of_vblk h.blk⟩⟩
/-- append of one element, that lies in a literal of its own, onto an own row. -/
theorem WL.snoc {α : Type} {s x : Operand} {t e : TypeId} {m bytes : Nat} {z : α} {P : α → List Value → Prop} {O : Nat → Prop} {v : Value} {k : List α} {y : α} {cs : List Value} {g : Nat} (hg : o.guard = none) (hd : o.dst = some d) (hn : Nat.blt d n = true)
    (ho : o.op = .call { callee := .builtin .append, args := #[s, x], argTypes := #[t, t] }) (E : ElemV Try.prog t e m bytes) (hs : evl l s = some v) (hown : OwnE e m z P O w v k) (hx : evl l x = some (.slice (some ⟨g, 0, none⟩) 1 1))
    (hf : VBlk e w g cs) (h1 : Ones cs) (hc : cs.length = m) (hp : P y cs) (hb : (k.length + 1) * bytes ≤ 140737488355328) (hb1 : k.length + 1 ≤ 140737488355328)
    (h : ∀ v' w', OwnE e m z P (fun b => O b ∨ b = w.heap.size) w' v' (k ++ [y]) → Grow w v w' v' → WL n ops Q rest ((d, v') :: l) w') : WL n ops Q (o :: rest) l w := by
  obtain ⟨kcs, h2, h3, h4⟩ := hown
  have hsl : SlV w (fun b => b = g) m (.slice (some ⟨g, 0, none⟩) 1 1) 1 cs := ⟨by rw [hc, Nat.one_mul], h1, _, 1, rfl, Nat.le_refl _, by omega, (fun h => by cases h), fun _ => ⟨g, 0, rfl, hf.lt, rfl, RowV.of_vblk hf⟩⟩
  refine WL.appV hg hd hn ho E hs h4 hx hsl hb hb1 fun v' w' h5 h6 => h v' w' ?_ h6
  exact OwnE.snoc h2 h3 hc hp h5
end K
end Go.Proofs.Ytdkkaliiofcflaa

/- Walks over the slots that are asked for: parts of a block, stored. -/
namespace Go.Proofs.Ytdkkaliiofcflaa
open Go.RowKit
namespace K
variable {n : Nat} {Q : Exit → Act → World → Prop} {l : Env} {w w' : World} {ops : Array Oper} {o : Oper} {rest : List Oper} {d : Nat}
/-- Some cells in the middle of a block. -/
theorem WL.storeMid {t mm T b off : Nat} {x y : Operand} {m cs : List Value} (hg : o.guard = none) (hd : o.dst = none) (ho : o.op = .store t x y) (hx : evl l x = some (.pointer (some ⟨b, off, none⟩))) (hy : evl l y = some (.agg m.toArray))
    (ht : cellsN (tyOf ty t) = some mm) (hb : VBlk T w b cs) (hm : m.length = mm) (hfit : off + mm ≤ cs.length) (h1 : Ones m) (h : WL n ops Q rest l (w.setRow b (cs.take off ++ m ++ cs.drop (off + mm)).toArray)) : WL n ops Q (o :: rest) l w :=
  WL.stepU hg hd (fun a ha => by
    obtain ⟨_, -, -, hsz⟩ := cellsN_ok tyOk ht
    have hs : (sizeOf t).run Try.prog w = .ok mm w := by
      cases hq : Try.prog.info? t with
      | none => rw [hq] at hsz; cases hsz
      | some q => rw [hq] at hsz; simp at hsz; simp [sizeOf, typeInfo, hq, hsz]
    have hrun := run_storeCells_at (P := Try.prog) b off T m 0 cs.toArray w hb (by simp only [List.size_toArray]; omega) h1
    simp only [Nat.add_zero] at hrun
    subst hm
    unfold execOp
    rw [ho]
    simp [ha.eval hx, ha.eval hy, Instr.storeAt, Instr.sureAddr, storeVar, hs, Value.cells, hrun]) h
theorem all_run {a : Act} {t e s m b off : Nat} {x : Operand} (ho : o.op = .slice t x none none none) (ht : tyOf ty t = some (.arr m e s)) (hx : a.eval x = .pointer (some ⟨b, off, none⟩)) : (execOp a.eval o).run Try.prog w = .ok (.value (.slice (some ⟨b, off, none⟩) m m)) w := by
  obtain ⟨hu, hse, -⟩ := TyOk.of tyOk ht
  have h1 : Try.prog.elem t = e := by simp [Program.elem, hu]
  have h2 : Try.prog.arrayLen t = m := by simp [Program.arrayLen, hu]
  have hs : (sizeOf e).run Try.prog w = .ok s w := by
    cases hq : Try.prog.info? e with
    | none => rw [hq] at hse; cases hse
    | some q => rw [hq] at hse; simp at hse; simp [sizeOf, typeInfo, hq, hse]
  have hr := run_sliceAt_array_all (P := Try.prog) w t ⟨b, off, none⟩ (by rw [h1, h2]; exact hu)
  unfold execOp
  rw [ho]
  have ha : slicedAt ⟨b, off, none⟩ 0 m m s = .slice (some ⟨b, off, none⟩) m m := by
    unfold slicedAt
    by_cases h0 : m = 0
    · rw [if_pos h0]; simp
    · rw [if_neg h0, Nat.zero_mul]; rfl
  simp [hx, hr, h1, h2, hs, ha]
/-- An array as a slice. -/
theorem WL.all {t e s m b off : Nat} {x : Operand} (hg : o.guard = none) (hd : o.dst = some d) (hn : Nat.blt d n = true) (ho : o.op = .slice t x none none none) (ht : tyOf ty t = some (.arr m e s)) (hx : evl l x = some (.pointer (some ⟨b, off, none⟩)))
    (h : WL n ops Q rest ((d, .slice (some ⟨b, off, none⟩) m m) :: l) w) : WL n ops Q (o :: rest) l w := WL.step hg hd hn (fun _ ha => all_run ho ht (ha.eval hx)) h
/-- An element of an array. -/
theorem WL.elem {t e m : Nat} {x i : Operand} {cs : List Value} {k : IntKind} {v : Value} (j : Nat) (hg : o.guard = none) (hd : o.dst = some d) (hn : Nat.blt d n = true) (ho : o.op = .index t x i) (ht : tyOf ty t = some (.arr m e 1)) (he : scal (tyOf ty e) = true)
    (hx : evl l x = some (.agg cs.toArray)) (hi : evl l i = some (.int k (j : Int))) (hj : j < m) (hv : cs[j]? = some v) (h : WL n ops Q rest ((d, v) :: l) w) : WL n ops Q (o :: rest) l w :=
  WL.step hg hd hn (fun a ha => by
    obtain ⟨hu, hse, -⟩ := TyOk.of tyOk ht
    obtain ⟨ie, hie, hsz⟩ := Option.map_eq_some_iff.1 hse
    have hd : ∃ d, Try.prog.underlying e = some d ∧ (match d with | .struct _ | .array _ _ => false | _ => true) = true := by
      cases hq : tyOf ty e with
      | none => rw [hq] at he; cases he
      | some z =>
        rw [hq] at he
        have hz := TyOk.of tyOk hq
        cases z with
        | int k => exact ⟨_, hz, rfl⟩
        | str => exact ⟨_, hz, rfl⟩
        | bool => exact ⟨_, hz, rfl⟩
        | ptr e => exact ⟨_, hz, rfl⟩
        | slice e s => exact ⟨_, hz.1, rfl⟩
        | struct m fs => cases he
        | arr m e s => cases he
    obtain ⟨dd, h1, h2⟩ := hd
    have := run_index_arr (P := Try.prog) w t e m dd ie hu hie hsz h1 (by cases dd <;> first | rfl | exact absurd h2 (by simp)) cs.toArray k j hj v (by simpa using hv)
    unfold execOp
    rw [ho]
    simp [ha.eval hx, ha.eval hi, this]) h
section
variable {S : World → Prop} {m fuel : Nat} {listed : Array Bool}
theorem WD.all {oi : Oper} {t e s mm b off : Nat} {x : Operand} (i : Nat) (hi : ops[i]? = some oi) (hs : mayB ops listed i m = true) (hd : oi.dst = some d) (hn : Nat.blt d n = true) (hQ : Passes Q) (hw : wants ops l oi = some true)
    (ho : oi.op = .slice t x none none none) (ht : tyOf ty t = some (.arr mm e s)) (hx : evl l x = some (.pointer (some ⟨b, off, none⟩))) (hS : listed.getD m false = true ∨ S w)
    (h : WD n ops Q S m fuel (listed.setIfInBounds i true) ((d, .slice (some ⟨b, off, none⟩) mm mm) :: l) w) : WD n ops Q S m (fuel + 1) listed l w :=
  WD.first i hi hs hd hn hQ (fun _ ha => .inl ⟨wants_run ha hw, fun _ _ => all_run ho ht (ha.eval hx)⟩) hS h
end
end K
end Go.Proofs.Ytdkkaliiofcflaa

/- Walks over the slots that are asked for: arrays by pointer: elements, parts; copy of anything of one cell. -/
namespace Go.Proofs.Ytdkkaliiofcflaa
open Go.RowKit
namespace K
variable {n : Nat} {Q : Exit → Act → World → Prop} {l : Env} {w w' : World} {ops : Array Oper} {o : Oper} {rest : List Oper} {d : Nat}
theorem arr_facts {t e s m : Nat} (ht : tyOf ty t = some (.arr m e s)) : Try.prog.underlying t = some (.array (Try.prog.arrayLen t) (Try.prog.elem t)) ∧ Try.prog.arrayLen t = m ∧ ∀ w, (sizeOf (Try.prog.elem t)).run Try.prog w = .ok s w := by
  obtain ⟨hu, hse, -⟩ := TyOk.of tyOk ht
  have h1 : Try.prog.elem t = e := by simp [Program.elem, hu]
  have h2 : Try.prog.arrayLen t = m := by simp [Program.arrayLen, hu]
  refine ⟨by rw [h1, h2]; exact hu, h2, fun w => ?_⟩
  rw [h1]
  cases hq : Try.prog.info? e with
  | none => rw [hq] at hse; cases hse
  | some q => rw [hq] at hse; simp at hse; simp [sizeOf, typeInfo, hq, hse]
/-- A part of an array. -/
theorem WL.cutA {t e s m b off : Nat} {x lo hi : Operand} {k1 k2 : IntKind} {y z : Int} (i j q : Nat) (hg : o.guard = none) (hd : o.dst = some d) (hn : Nat.blt d n = true) (ho : o.op = .slice t x (some lo) (some hi) none) (ht : tyOf ty t = some (.arr m e s))
    (hx : evl l x = some (.pointer (some ⟨b, off, none⟩))) (hlo : evl l lo = some (.int k1 y)) (hhi : evl l hi = some (.int k2 z)) (hy : y = (i : Int)) (hz : z = (j : Int)) (h1 : i ≤ j) (h2 : j ≤ m) (h3 : i < m) (hq : off + i * s = q)
    (h : WL n ops Q rest ((d, .slice (some ⟨b, q, none⟩) (j - i) (m - i)) :: l) w) : WL n ops Q (o :: rest) l w :=
  WL.step hg hd hn (fun a ha => by
    obtain ⟨hu, hm, hs⟩ := arr_facts ht
    have hr := run_sliceAt_array_lh (P := Try.prog) w t ⟨b, off, none⟩ hu k1 k2 y z (by omega) (by omega) (by rw [hm]; omega)
    unfold execOp
    rw [ho]
    subst hy; subst hz; subst hq
    have hne : ¬ m = i := by omega
    simp [ha.eval hx, ha.eval hlo, ha.eval hhi, hr, hs, hm, slicedAt, hne, Addr.add_mid]) h
theorem idxA_run {a : Act} {t e s m b off : Nat} {x i : Operand} {k : IntKind} {z : Int} {j : Nat} (ho : o.op = .indexAddr t x i) (ht : tyOf ty t = some (.arr m e s)) (hx : a.eval x = .pointer (some ⟨b, off, none⟩)) (hi : a.eval i = .int k z) (hz : z = (j : Int)) (hj : j < m) :
    (execOp a.eval o).run Try.prog w = .ok (.value (.pointer (some ⟨b, off + j * s, none⟩))) w := by
  obtain ⟨hu, hm, hs⟩ := arr_facts ht
  unfold execOp
  rw [ho]
  simp only [hx, hi, Sem.run_bind, run_indexAt_array w t _ k z hu]
  rw [if_pos (by rw [hm]; omega), hs, hz]
  simp [Addr.add_mid]
/-- An element's place in an array. -/
theorem WL.idxA {t e s m b off : Nat} {x i : Operand} {k : IntKind} {z : Int} (j q : Nat) (hg : o.guard = none) (hd : o.dst = some d) (hn : Nat.blt d n = true) (ho : o.op = .indexAddr t x i) (ht : tyOf ty t = some (.arr m e s))
    (hx : evl l x = some (.pointer (some ⟨b, off, none⟩))) (hi : evl l i = some (.int k z)) (hz : z = (j : Int)) (hj : j < m) (hq : off + j * s = q) (h : WL n ops Q rest ((d, .pointer (some ⟨b, q, none⟩)) :: l) w) : WL n ops Q (o :: rest) l w :=
  WL.step hg hd hn (fun _ ha => by rw [← hq]; exact idxA_run ho ht (ha.eval hx) (ha.eval hi) hz hj) h
section
variable {S : World → Prop} {m fuel : Nat} {listed : Array Bool}
theorem WD.idxA {oi : Oper} {t e s mm b off : Nat} {x i' : Operand} {k : IntKind} {z : Int} (i j q : Nat) (hi : ops[i]? = some oi) (hs : mayB ops listed i m = true) (hd : oi.dst = some d) (hn : Nat.blt d n = true) (hQ : Passes Q) (hw : wants ops l oi = some true)
    (ho : oi.op = .indexAddr t x i') (ht : tyOf ty t = some (.arr mm e s)) (hx : evl l x = some (.pointer (some ⟨b, off, none⟩))) (hi' : evl l i' = some (.int k z)) (hz : z = (j : Int)) (hj : j < mm) (hq : off + j * s = q) (hS : listed.getD m false = true ∨ S w)
    (h : WD n ops Q S m fuel (listed.setIfInBounds i true) ((d, .pointer (some ⟨b, q, none⟩)) :: l) w) : WD n ops Q S m (fuel + 1) listed l w :=
  WD.first i hi hs hd hn hQ (fun _ ha => .inl ⟨wants_run ha hw, fun _ _ => by rw [← hq]; exact idxA_run ho ht (ha.eval hx) (ha.eval hi') hz hj⟩) hS h
end
theorem copyV_run {t e b off dl dc b2 off2 sl sc T : Nat} {cs vs : List Value} (ty' : Nat) (ht : tyOf ty t = some (.slice e 1)) (hb : VBlk T w b cs) (hn : vs.length = min sl dl) (hr : w.rangeAt b2 off2 vs) (hfit : off + vs.length ≤ cs.length) (h1 : Ones vs) :
    (Builtin.copy_ #[t, t] ty' #[.slice (some ⟨b, off, none⟩) dl dc, .slice (some ⟨b2, off2, none⟩) sl sc]).run Try.prog w = .ok (.int .i64 vs.length) (w.setRow b (cs.take off ++ vs ++ cs.drop (off + vs.length)).toArray) := by
  obtain ⟨hu, hsz⟩ := TyOk.of tyOk ht
  have := run_copy_row Try.prog w t t ty' e b off dl dc ⟨b2, off2, none⟩ sl sc cs.toArray T vs hu hsz hb hn (fun j v hj => by
    have := hr j v hj
    simpa [Addr.add_mid] using this) (by simpa using hfit) h1
  refine this.trans ?_
  rfl
/-- copy onto a part of a block. -/
theorem WL.copyV {x y : Operand} {t e b off dl dc b2 off2 sl sc T : Nat} {cs vs : List Value} (hg : o.guard = none) (hd : o.dst = some d) (hn : Nat.blt d n = true)
    (ho : o.op = .call { callee := .builtin .copy, args := #[x, y], argTypes := #[t, t] }) (ht : tyOf ty t = some (.slice e 1)) (hx : evl l x = some (.slice (some ⟨b, off, none⟩) dl dc)) (hy : evl l y = some (.slice (some ⟨b2, off2, none⟩) sl sc)) (hb : VBlk T w b cs) (hm : vs.length = min sl dl) (hr : w.rangeAt b2 off2 vs) (hfit : off + vs.length ≤ cs.length) (h1 : Ones vs)
    (h : WL n ops Q rest ((d, .int .i64 vs.length) :: l) (w.setRow b (cs.take off ++ vs ++ cs.drop (off + vs.length)).toArray)) : WL n ops Q (o :: rest) l w := by
  have hrun := copyV_run o.type ht hb hm hr hfit h1 (dc := dc) (sc := sc)
  refine WL.step hg hd hn (fun a ha => ?_) h
  unfold execOp
  simp only [ho, resolve, invoke, builtin, Sem.run_bind, Sem.run_pure, Result.andThen_ok, List.map_toArray, List.map_cons, List.map_nil, ha.eval hx, ha.eval hy, hrun]
end K
end Go.Proofs.Ytdkkaliiofcflaa

/- The CRC-32, by bits and by half bytes (chapter 1); no program in sight. -/
namespace Go.Proofs.Ytdkkaliiofcflaa
namespace Crc

def P : BitVec 32 := 0xedb88320#32
def step (c : BitVec 32) : BitVec 32 := (c >>> 1) ^^^ (if c.getLsbD 0 then P else 0#32)
def tab : List Nat := [0x00000000, 0x1db71064, 0x3b6e20c8, 0x26d930ac, 0x76dc4190, 0x6b6b51f4, 0x4db26158, 0x5005713c, 0xedb88320, 0xf00f9344, 0xd6d6a3e8, 0xcb61b38c, 0x9b64c2b0, 0x86d3d2d4, 0xa00ae278, 0xbdbdf21c]
def nib (c : BitVec 32) : BitVec 32 := (c >>> 4) ^^^ BitVec.ofNat 32 (tab.getD (c.toNat % 16) 0)
theorem step_xor (a b : BitVec 32) : step (a ^^^ b) = step a ^^^ step b := by
  unfold step
  rw [BitVec.getLsbD_xor, BitVec.ushiftRight_xor_distrib]
  cases a.getLsbD 0 <;> cases b.getLsbD 0
  · simp
  · simp [BitVec.xor_assoc]
  · simp only [Bool.xor_false, if_true, Bool.false_eq_true, if_false, BitVec.xor_zero]
    rw [BitVec.xor_assoc, BitVec.xor_assoc, BitVec.xor_comm (b >>> 1)]
  · simp only [Bool.xor_true, Bool.not_true, Bool.false_eq_true, if_false, if_true, BitVec.xor_zero]
    rw [BitVec.xor_assoc, ← BitVec.xor_assoc P, BitVec.xor_comm P, BitVec.xor_assoc, BitVec.xor_self, BitVec.xor_zero]
theorem step_even (c : BitVec 32) (h : c.getLsbD 0 = false) : step c = c >>> 1 := by unfold step; rw [h]; simp
theorem low_high (c : BitVec 32) : c = (c &&& 0xfffffff0#32) ^^^ (c &&& 15#32) := by
  apply BitVec.eq_of_getLsbD_eq
  intro i hi
  rw [BitVec.getLsbD_xor, BitVec.getLsbD_and, BitVec.getLsbD_and]
  have : ∀ i : Fin 32, (0xfffffff0#32).getLsbD i.val = !((15#32).getLsbD i.val) := by decide
  rw [this ⟨i, hi⟩]
  cases c.getLsbD i <;> cases (15#32).getLsbD i <;> rfl
theorem step4_high (c : BitVec 32) : step (step (step (step (c &&& 0xfffffff0#32)))) = (c >>> 4) := by
  have h0 : (c &&& 0xfffffff0#32).getLsbD 0 = false := by rw [BitVec.getLsbD_and]; simp
  have h1 : ((c &&& 0xfffffff0#32) >>> 1).getLsbD 0 = false := by rw [BitVec.getLsbD_ushiftRight, BitVec.getLsbD_and]; simp
  have h2 : ((c &&& 0xfffffff0#32) >>> 1 >>> 1).getLsbD 0 = false := by rw [BitVec.getLsbD_ushiftRight, BitVec.getLsbD_ushiftRight, BitVec.getLsbD_and]; simp
  have h3 : ((c &&& 0xfffffff0#32) >>> 1 >>> 1 >>> 1).getLsbD 0 = false := by rw [BitVec.getLsbD_ushiftRight, BitVec.getLsbD_ushiftRight, BitVec.getLsbD_ushiftRight, BitVec.getLsbD_and]; simp
  rw [step_even _ h0, step_even _ h1, step_even _ h2, step_even _ h3]
  apply BitVec.eq_of_getLsbD_eq
  intro i hi
  simp only [BitVec.getLsbD_ushiftRight, BitVec.getLsbD_and]
  have : ∀ i : Fin 32, (0xfffffff0#32).getLsbD (1 + (1 + (1 + (1 + i.val)))) = decide (4 + i.val < 32) := by decide
  rw [this ⟨i, hi⟩]
  have e : 1 + (1 + (1 + (1 + i))) = 4 + i := by omega
  rw [e]
  by_cases h : 4 + i < 32
  · simp [h]
  · rw [BitVec.getLsbD_of_ge c (4 + i) (by omega)]; simp
theorem step4_low : ∀ k : Fin 16, step (step (step (step (BitVec.ofNat 32 k.val)))) = BitVec.ofNat 32 (tab.getD k.val 0) := by decide
/-- Four bits at once. -/
theorem step4 (c : BitVec 32) : step (step (step (step c))) = nib c := by
  have hl : c &&& 15#32 = BitVec.ofNat 32 (c.toNat % 16) := by
    apply BitVec.eq_of_toNat_eq
    rw [BitVec.toNat_and, BitVec.toNat_ofNat]
    have h15 : (15 % 2 ^ 32 : Nat) = 2 ^ 4 - 1 := by decide
    rw [BitVec.toNat_ofNat, h15, Nat.and_two_pow_sub_one_eq_mod]
    omega
  have h16 : c.toNat % 16 < 16 := Nat.mod_lt _ (by omega)
  conv => lhs; rw [low_high c]
  rw [step_xor, step_xor, step_xor, step_xor, step4_high, hl]
  have := step4_low ⟨c.toNat % 16, h16⟩
  simp only at this
  rw [this]
  rfl
def step8 (c : BitVec 32) : BitVec 32 := step (step (step (step (step (step (step (step c)))))))
theorem step8_nib (c : BitVec 32) : step8 c = nib (nib c) := by
  unfold step8
  rw [step4, step4]
/-- The sum of bytes, from a state on. -/
def run (c : BitVec 32) : List Int → BitVec 32
  | [] => c
  | x :: r => run (step8 (c ^^^ BitVec.ofInt 32 x)) r
def sum (l : List Int) : BitVec 32 := ~~~ (run (0xffffffff#32) l)
theorem run_app (c : BitVec 32) (a b : List Int) : run c (a ++ b) = run (run c a) b := by
  induction a generalizing c with
  | nil => rfl
  | cons x r ih => exact ih _
theorem step_inj {a b : BitVec 32} (h : step a = step b) : a = b := by
  have top : ∀ c : BitVec 32, (step c).getLsbD 31 = c.getLsbD 0 := fun c => by
    unfold step
    rw [BitVec.getLsbD_xor, BitVec.getLsbD_ushiftRight, BitVec.getLsbD_of_ge c (1 + 31) (by omega)]
    cases c.getLsbD 0 <;> decide
  have h0 : a.getLsbD 0 = b.getLsbD 0 := by rw [← top a, ← top b, h]
  have h1 : a >>> 1 = b >>> 1 := by
    unfold step at h
    rw [h0] at h
    have := congrArg (· ^^^ (if b.getLsbD 0 then P else 0#32)) h
    simpa [BitVec.xor_assoc] using this
  apply BitVec.eq_of_getLsbD_eq
  intro i hi
  cases i with
  | zero => exact h0
  | succ i =>
    have := congrArg (fun x => x.getLsbD i) h1
    simp only [BitVec.getLsbD_ushiftRight] at this
    rw [Nat.add_comm 1 i] at this
    exact this
theorem step8_inj {a b : BitVec 32} (h : step8 a = step8 b) : a = b := step_inj (step_inj (step_inj (step_inj (step_inj (step_inj (step_inj (step_inj h)))))))
theorem xor_cancel {a x y : BitVec 32} (h : a ^^^ x = a ^^^ y) : x = y := by
  have := congrArg (a ^^^ ·) h
  simpa [← BitVec.xor_assoc] using this
theorem run_inj : ∀ (l : List Int) {a b : BitVec 32}, run a l = run b l → a = b
  | [], _, _, h => h
  | x :: r, a, b, h => by
    have h1 := step8_inj (run_inj r (show run (step8 (a ^^^ BitVec.ofInt 32 x)) r = run (step8 (b ^^^ BitVec.ofInt 32 x)) r from h))
    rw [BitVec.xor_comm a, BitVec.xor_comm b] at h1
    exact xor_cancel h1
theorem byte_inj {x y : Int} (hx : 0 ≤ x ∧ x ≤ 255) (hy : 0 ≤ y ∧ y ≤ 255) (h : BitVec.ofInt 32 x = BitVec.ofInt 32 y) : x = y := by
  have := congrArg BitVec.toNat h
  rw [BitVec.toNat_ofInt, BitVec.toNat_ofInt] at this
  omega
/-- Bytes of which one is another one have another sum. -/
theorem sum_one {A B : List Int} {x y : Int} (hx : 0 ≤ x ∧ x ≤ 255) (hy : 0 ≤ y ∧ y ≤ 255) (hne : x ≠ y) : sum (A ++ x :: B) ≠ sum (A ++ y :: B) := fun h => by
  unfold sum at h
  have h1 : run 0xffffffff#32 (A ++ x :: B) = run 0xffffffff#32 (A ++ y :: B) := by
    have := congrArg (~~~ ·) h
    simpa using this
  rw [run_app, run_app] at h1
  have h2 := step8_inj (run_inj B (show run (step8 (run 0xffffffff#32 A ^^^ BitVec.ofInt 32 x)) B = run (step8 (run 0xffffffff#32 A ^^^ BitVec.ofInt 32 y)) B from h1))
  exact hne (byte_inj hx hy (xor_cancel h2))
/-- The sum as a number. -/
def crcN (l : List Int) : Nat := (sum l).toNat
theorem crcN_lt (l : List Int) : crcN l < 4294967296 := (sum l).isLt
theorem crcN_one {A B : List Int} {x y : Int} (hx : 0 ≤ x ∧ x ≤ 255) (hy : 0 ≤ y ∧ y ≤ 255) (hne : x ≠ y) : crcN (A ++ x :: B) ≠ crcN (A ++ y :: B) := fun h => sum_one hx hy hne (BitVec.eq_of_toNat_eq h)
/-- Four bytes of a number. -/
def be4 (n : Nat) : List Int := [((n / 16777216 % 256 : Nat) : Int), ((n / 65536 % 256 : Nat) : Int), ((n / 256 % 256 : Nat) : Int), ((n % 256 : Nat) : Int)]
/-- The number of four bytes. -/
def num4 : List Int → Nat
  | a :: b :: c :: d :: _ => a.toNat * 16777216 + b.toNat * 65536 + c.toNat * 256 + d.toNat
  | _ => 0
theorem num4_be4 {n : Nat} (h : n < 4294967296) (r : List Int) : num4 (be4 n ++ r) = n := by
  show (((n / 16777216 % 256 : Nat) : Int)).toNat * 16777216 + (((n / 65536 % 256 : Nat) : Int)).toNat * 65536 + (((n / 256 % 256 : Nat) : Int)).toNat * 256 + (((n % 256 : Nat) : Int)).toNat = n
  simp only [Int.toNat_natCast]
  omega
theorem be4_byt (n : Nat) : ∀ c ∈ be4 n, 0 ≤ c ∧ c ≤ 255 := by
  intro c hc
  unfold be4 at hc
  simp only [List.mem_cons, List.not_mem_nil, or_false] at hc
  rcases hc with rfl | rfl | rfl | rfl <;> omega
theorem be4_num4 {a b c d : Int} (ha : 0 ≤ a ∧ a ≤ 255) (hb : 0 ≤ b ∧ b ≤ 255) (hc : 0 ≤ c ∧ c ≤ 255) (hd : 0 ≤ d ∧ d ≤ 255) (r : List Int) : be4 (num4 (a :: b :: c :: d :: r)) = [a, b, c, d] ∧ num4 (a :: b :: c :: d :: r) < 4294967296 := by
  refine ⟨?_, by show a.toNat * 16777216 + b.toNat * 65536 + c.toNat * 256 + d.toNat < 4294967296; omega⟩
  show be4 (a.toNat * 16777216 + b.toNat * 65536 + c.toNat * 256 + d.toNat) = _
  unfold be4
  have h1 : ((a.toNat * 16777216 + b.toNat * 65536 + c.toNat * 256 + d.toNat) / 16777216 % 256 : Nat) = a.toNat := by omega
  have h2 : ((a.toNat * 16777216 + b.toNat * 65536 + c.toNat * 256 + d.toNat) / 65536 % 256 : Nat) = b.toNat := by omega
  have h3 : ((a.toNat * 16777216 + b.toNat * 65536 + c.toNat * 256 + d.toNat) / 256 % 256 : Nat) = c.toNat := by omega
  have h4 : ((a.toNat * 16777216 + b.toNat * 65536 + c.toNat * 256 + d.toNat) % 256 : Nat) = d.toNat := by omega
  rw [h1, h2, h3, h4, Int.toNat_of_nonneg ha.1, Int.toNat_of_nonneg hb.1, Int.toNat_of_nonneg hc.1, Int.toNat_of_nonneg hd.1]
theorem num4_lt (l : List Int) (h : ∀ c ∈ l, 0 ≤ c ∧ c ≤ 255) : num4 l < 4294967296 := by
  match l, h with
  | [], _ => simp [num4]
  | [_], _ => simp [num4]
  | [_, _], _ => simp [num4]
  | [_, _, _], _ => simp [num4]
  | a :: b :: c :: d :: r, h => exact (be4_num4 (h a (by simp)) (h b (by simp)) (h c (by simp)) (h d (by simp)) r).2
end Crc
end Go.Proofs.Ytdkkaliiofcflaa

/- How arguments that came in read. -/
namespace Go.Proofs.Ytdkkaliiofcflaa
open Go.ChangeShapes Go.WideShapes Go.ChangeAt Go.RowKit

theorem Try.ownKnob : ownKnob Try.prog.godebug = none := by kernel_rfl
theorem Try.laid : laidOutB Try.prog = true := by kernel_rfl

/-- What a slice of integers that came in reads as: nil, or a row of cells. -/
def IsRow (k : IntKind) (w : World) (a : Option Addr) (len cap : Nat) (zs : List Int) : Prop :=
  (a = none ∧ len = 0 ∧ cap = 0 ∧ zs = []) ∨
  ∃ x, a = some x ∧ len ≤ cap ∧ cap ≤ maxLen ∧ zs.length = cap ∧ (∀ i, i < zs.length → w.cell? (x.add i) = some (.int k (zs.getD i 0))) ∧ ∀ n ∈ zs, (Lit.int k n).wf = true

theorem cell_spot {w : World} {x : Addr} {v : Value} (h : w.cell? x = some v) : x.spot = none := by
  unfold World.cell? at h
  split at h
  · cases hs : x.spot with
    | none => rfl
    | some _ => simp [hs] at h
  · cases h
theorem IsRow.sl {k : IntKind} {w : World} {a : Option Addr} {len cap : Nat} {zs : List Int} (h : IsRow k w a len cap zs) :
    ∃ l : List Int, l.length = len ∧ Sl k w (.slice a len cap) l ∧ ∀ n ∈ l, (Lit.int k n).wf = true := by
  rcases h with ⟨rfl, rfl, rfl, rfl⟩ | ⟨x, rfl, h1, h2, h3, h4, h5⟩
  · exact ⟨[], rfl, Sl.nil k w, by simp⟩
  · have hl : (zs.take len).length = len := by rw [List.length_take]; omega
    refine ⟨zs.take len, hl, ⟨some x, cap, by rw [hl], by omega, by unfold maxLen at h2; exact h2, fun h0 => ?_, fun h => by cases h⟩, fun n hn => h5 n (List.mem_of_mem_take hn)⟩
    have h40 := h4 0 (by omega)
    have hx0 : x.add 0 = x := rfl
    rw [hx0] at h40
    have hsp := cell_spot h40
    obtain ⟨b, o, s⟩ := x
    simp only at hsp
    subst hsp
    refine ⟨b, o, rfl, block_lt_of_cell h40, fun j hj => ?_⟩
    have := h4 j (by omega)
    rw [addr_add] at this
    rw [this]
    have hj2 : j < len := by omega
    simp [nth, hj2]

/-- A slice of integers that came in. -/
theorem open_sl {H : Type} {enc : TypeId × Value → H} {P : Program} {W : World} {base b0 : Nat} {held : Bool} {r : Reach} {t e : TypeId} {k : IntKind} {v : Value} {d : DataW H} {p : List MemPlace}
    (hu : P.underlying t = some (.slice e)) (he : P.underlying e = some (.int k)) (hc : P.cellsOf e = 1)
    (hval : Value.okWide P W r b0 t v) (h : DataW.Trod enc P W base (fun _ => true) held t v d p) :
    ∃ l : List Int, Sl k W v l ∧ ∀ n ∈ l, (Lit.int k n).wf = true := by
  obtain ⟨a, len, cap, rfl⟩ := okWide_slice hu hval
  obtain ⟨fuel, hf⟩ := h
  have key : ∃ zs, IsRow k W a len cap zs := by
    rcases open_ints hu he hc hf with ⟨hcs, _⟩ | ⟨x, l, c, zs, hcs, _, hl, hm, hz, _, hcell, hwz⟩
    · simp [Value.cells] at hcs
      obtain ⟨rfl, rfl, rfl⟩ := hcs
      exact ⟨[], .inl ⟨rfl, rfl, rfl, rfl⟩⟩
    · simp [Value.cells] at hcs
      obtain ⟨rfl, rfl, rfl⟩ := hcs
      exact ⟨zs, .inr ⟨_, rfl, hl, hm, by simpa using hz, hcell, hwz⟩⟩
  obtain ⟨zs, hz⟩ := key
  obtain ⟨l, -, h1, h2⟩ := hz.sl
  exact ⟨l, h1, h2⟩

/-- The number in a cell. -/
def numOf : Option Value → Int
  | some (.int _ q) => q
  | _ => 0

/-- An array of integers that came in, by value. -/
theorem open_arr {H : Type} {enc : TypeId × Value → H} {P : Program} {W : World} {base b0 : Nat} {spare : Nat → Bool} {held : Bool} {r : Reach} {t e : TypeId} {n : Nat} {k : IntKind} {v : Value} {d : DataW H} {p : List MemPlace}
    (hu : P.underlying t = some (.array n e)) (he : P.underlying e = some (.int k)) (hc : P.cellsOf e = 1) (hct : P.cellsOf t = n)
    (hval : Value.okWide P W r b0 t v) (h : DataW.Trod enc P W base spare held t v d p) :
    ∃ l : List Int, v = .agg (l.map (Value.int k)).toArray ∧ l.length = n ∧ ∀ x ∈ l, (Lit.int k x).wf = true := by
  simp only [Value.okWide, hu] at hval
  obtain ⟨cs, rfl, hsz, -⟩ := hval
  obtain ⟨fuel, hf⟩ := h
  obtain ⟨xs, m, -, -, -, hxl, hx⟩ := DataW.trod_array hu hf
  have hel : ∀ i, i < n → ∃ q, cs[i]? = some (.int k q) ∧ (Lit.int k q).wf = true := by
    intro i hi
    have h1 := hx i hi
    rw [hc, Nat.mul_one, List.getElem?_eq_getElem (by omega)] at h1
    obtain ⟨q, e1, -, e2⟩ := DataW.trod_int he h1
    refine ⟨q, ?_, e2⟩
    have h2 : ((Value.agg cs).cells.toList.drop i)[0]? = some (.int k q) := by
      have := congrArg (fun l => l[0]?) e1
      simpa using this
    simpa [Value.cells] using h2
  refine ⟨(List.range n).map fun i => numOf cs[i]?, ?_, by simp, ?_⟩
  · congr 1
    apply Array.ext
    · simp; omega
    · intro i h1 h2
      have hi : i < n := by omega
      obtain ⟨q, e1, -⟩ := hel i hi
      have e2 : cs[i] = .int k q := by simpa [Array.getElem?_eq_getElem h1] using e1
      simp [e2, numOf, h1]
  · intro x hx'
    obtain ⟨i, hi, rfl⟩ := List.mem_map.1 hx'
    obtain ⟨q, e1, e2⟩ := hel i (List.mem_range.1 hi)
    rw [e1]; exact e2

end Go.Proofs.Ytdkkaliiofcflaa

/- Values (chapter 5), nested: how they lie in memory, and what is wrong with one. -/
namespace Go.Proofs.Ytdkkaliiofcflaa
open Go.ChangeShapes Go.WideShapes Go.ChangeAt Go.RowKit

inductive V where
  | mk (k n s : Int) (t : ByteArray) (names : List ByteArray) (kids : List V)
namespace V
def k : V → Int | .mk k _ _ _ _ _ => k
def n : V → Int | .mk _ n _ _ _ _ => n
def s : V → Int | .mk _ _ s _ _ _ => s
def t : V → ByteArray | .mk _ _ _ t _ _ => t
def names : V → List ByteArray | .mk _ _ _ _ l _ => l
def kids : V → List V | .mk _ _ _ _ _ l => l
end V
def noV : V := .mk 0 0 0 ByteArray.empty [] []
instance : Inhabited V := ⟨noV⟩
def noT : ByteArray := ByteArray.empty

/-- The slice v reads as the texts l. -/
def Strs (w : World) (v : Value) (l : List ByteArray) : Prop :=
  ∃ sp cap, v = .slice sp l.length cap ∧ l.length ≤ cap ∧ cap ≤ 9223372036854775807 ∧ (∀ j, j < l.length → (l.getD j noT).size ≤ 140737488355328) ∧
    (0 < l.length → ∃ b o, sp = some ⟨b, o, none⟩ ∧ b < w.heap.size ∧ ∀ j, j < l.length → w.cell? ⟨b, o + j, none⟩ = some (.string (l.getD j noT)))
theorem Strs.below {w w' : World} {v : Value} {l : List ByteArray} (h : Strs w v l) (hb : Below w.heap.size w w') : Strs w' v l := by
  obtain ⟨sp, cap, h1, h2, h3, h4, h5⟩ := h
  refine ⟨sp, cap, h1, h2, h3, h4, fun h0 => ?_⟩
  obtain ⟨b, o, e, hlt, hr⟩ := h5 h0
  exact ⟨b, o, e, Nat.lt_of_lt_of_le hlt hb.size, fun j hj => by rw [hb.cell (p := ⟨b, o + j, none⟩) hlt]; exact hr j hj⟩

/-- The slice v reads as l values of six cells each, which P says of. -/
def Six (P : V → List Value → Prop) (w : World) (v : Value) (l : List V) : Prop :=
  ∃ sp cap, v = .slice sp l.length cap ∧ l.length ≤ cap ∧ cap ≤ 9223372036854775807 ∧
    (0 < l.length → ∃ b o, sp = some ⟨b, o, none⟩ ∧ b < w.heap.size ∧ ∀ j, j < l.length → ∃ cs, cs.length = 6 ∧ P (l.getD j noV) cs ∧ w.rangeAt b (o + j * 6) cs)

/-- The six cells of a value that is f deep at most. -/
def IsV : Nat → World → V → List Value → Prop
  | 0, _, _, _ => False
  | f + 1, w, v, cs => ∃ sn sk, cs = [.int .i64 v.k, .int .i64 v.n, .int .i64 v.s, .string v.t, sn, sk] ∧
      (Lit.int .i64 v.k).wf = true ∧ (Lit.int .i64 v.n).wf = true ∧ (Lit.int .i64 v.s).wf = true ∧ v.t.size ≤ 140737488355328 ∧ Strs w sn v.names ∧ Six (IsV f w) w sk v.kids
/-- A row of values. -/
def IsVs (f : Nat) (w : World) (v : Value) (l : List V) : Prop := Six (IsV f w) w v l

theorem Six.below {P P' : V → List Value → Prop} {w w' : World} {v : Value} {l : List V} (h : Six P w v l) (hb : Below w.heap.size w w') (hP : ∀ x cs, P x cs → P' x cs) : Six P' w' v l := by
  obtain ⟨sp, cap, h1, h2, h3, h4⟩ := h
  refine ⟨sp, cap, h1, h2, h3, fun h0 => ?_⟩
  obtain ⟨b, o, e, hlt, hr⟩ := h4 h0
  refine ⟨b, o, e, Nat.lt_of_lt_of_le hlt hb.size, fun j hj => ?_⟩
  obtain ⟨cs, hc, hp, hat⟩ := hr j hj
  exact ⟨cs, hc, hP _ _ hp, fun i u hu => by rw [hb.cell (p := ⟨b, o + j * 6 + i, none⟩) hlt]; exact hat i u hu⟩
theorem IsV.below {w w' : World} (hb : Below w.heap.size w w') : ∀ {f : Nat} {v : V} {cs : List Value}, IsV f w v cs → IsV f w' v cs
  | 0, _, _, h => h
  | _ + 1, _, _, ⟨sn, sk, h1, h2, h3, h4, h5, h6, h7⟩ => ⟨sn, sk, h1, h2, h3, h4, h5, h6.below hb, h7.below hb fun _ _ hp => IsV.below hb hp⟩
theorem IsVs.below {f : Nat} {w w' : World} {v : Value} {l : List V} (h : IsVs f w v l) (hb : Below w.heap.size w w') : IsVs f w' v l := Six.below h hb fun _ _ hp => IsV.below hb hp
theorem IsV.len {f : Nat} {w : World} {v : V} {cs : List Value} (h : IsV f w v cs) : cs.length = 6 := by
  cases f with
  | zero => exact h.elim
  | succ f => obtain ⟨_, _, rfl, _⟩ := h; rfl

/-- What is wrong with a value, but for its kids. -/
def isNameB (s : ByteArray) : Bool := decide (1 ≤ s.size) && decide (s.size ≤ 40)
/-- The names from the second on are each above the one ahead. -/
def risesB : List ByteArray → Bool
  | [] => true
  | [_] => true
  | a :: b :: l => Op.bytesLess a.toList b.toList && risesB (b :: l)
def fieldsB (v : V) : Bool := v.names.all isNameB && risesB v.names && decide (v.names.length = v.kids.length)
def bareB (v : V) : Bool := decide (v.n = 0) && decide (v.s = 0)
def plainB (v : V) : Bool := decide (v.names.length = 0) && decide (v.kids.length = 0)
def noTextB (v : V) : Bool := decide (v.t.size = 0)
def formB (v : V) : Bool :=
  if v.k = 1 then bareB v && plainB v && noTextB v
  else if v.k = 2 then decide (0 ≤ v.n) && decide (v.n ≤ 1) && decide (v.s = 0) && plainB v && noTextB v
  else if v.k = 3 then decide (v.s = 0) && plainB v && noTextB v
  else if v.k = 4 then decide (1 ≤ v.s) && decide (v.s ≤ 18) && decide (¬ v.n.tmod 10 = 0) && plainB v && noTextB v
  else if v.k = 5 then decide (0 ≤ v.n) && decide (v.n ≤ 9007199254740992) && decide (v.s = 0) && plainB v && noTextB v
  else if v.k = 6 ∨ v.k = 7 then bareB v && plainB v
  else if v.k = 8 then bareB v && decide (v.names.length = 0) && noTextB v
  else if v.k = 9 then bareB v && noTextB v
  else false
def shp (v : V) : Int :=
  if formB v = false then 3
  else if 16384 < v.t.size ∨ 200 < v.kids.length then 5
  else if v.k = 9 ∧ fieldsB v = false then 3
  else 0
/-- The first of some that is not 0. -/
def firstBad : List Int → Int
  | [] => 0
  | e :: l => if e = 0 then firstBad l else e
/-- What is wrong with a value, with so many levels left. -/
def chk : Nat → V → Int
  | 0, _ => 9
  | m + 1, v => if shp v = 0 then firstBad (v.kids.map (chk m)) else shp v

theorem firstBad_zero {l : List Int} : firstBad l = 0 ↔ ∀ e ∈ l, e = 0 := by
  induction l with
  | nil => simp [firstBad]
  | cons a l ih =>
    unfold firstBad
    by_cases h : a = 0
    · rw [if_pos h, ih]; simp [h]
    · rw [if_neg h]; simp [h]
theorem firstBad_take {l : List Int} {i : Nat} (hi : i < l.length) (h : ∀ j, j < i → l.getD j 0 = 0) (hn : ¬ l.getD i 0 = 0) : firstBad l = l.getD i 0 := by
  induction l generalizing i with
  | nil => simp at hi
  | cons a l ih =>
    cases i with
    | zero => unfold firstBad; rw [if_neg (by simpa using hn)]; simp
    | succ i =>
      have h0 := h 0 (by omega)
      simp only [List.getD_cons_zero] at h0
      unfold firstBad
      rw [if_pos h0]
      simp only [List.getD_cons_succ] at hn ⊢
      exact ih (by simpa using hi) (fun j hj => by simpa using h (j + 1) (by omega)) hn
theorem firstBad_all {l : List Int} (h : ∀ j, j < l.length → l.getD j 0 = 0) : firstBad l = 0 := by
  rw [firstBad_zero]
  intro e he
  obtain ⟨j, hj, rfl⟩ := List.getElem_of_mem he
  simpa [hj] using h j hj
theorem chk_kid {m : Nat} {v : V} {j : Nat} (h : chk (m + 1) v = 0) (hj : j < v.kids.length) : chk m (v.kids.getD j noV) = 0 := by
  unfold chk at h
  by_cases hs : shp v = 0
  · rw [if_pos hs, firstBad_zero] at h
    exact h _ (List.mem_map.2 ⟨v.kids[j], List.getElem_mem hj, by simp [hj]⟩)
  · rw [if_neg hs] at h; exact (hs h).elim
theorem chk_shp {m : Nat} {v : V} (h : chk (m + 1) v = 0) : shp v = 0 := by
  unfold chk at h
  by_cases hs : shp v = 0
  · exact hs
  · rw [if_neg hs] at h; exact h
theorem chk_map (m : Nat) (l : List V) (j : Nat) (hj : j < l.length) : (l.map (chk m)).getD j 0 = chk m (l.getD j noV) := by simp [hj]

/-- The names rise: the i-th is below the one behind it. -/
theorem rises_iff : ∀ {l : List ByteArray}, risesB l = true ↔ ∀ i, i + 1 < l.length → Op.bytesLess (l.getD i noT).toList (l.getD (i + 1) noT).toList = true
  | [] => by simp [risesB]
  | [a] => by simp [risesB]
  | a :: b :: l => by
    unfold risesB
    rw [Bool.and_eq_true, rises_iff (l := b :: l)]
    constructor
    · rintro ⟨h1, h2⟩ i hi
      cases i with
      | zero => simpa using h1
      | succ i => simpa using h2 i (by simp at hi ⊢; omega)
    · intro h
      exact ⟨by simpa using h 0 (by simp), fun i hi => by simpa using h (i + 1) (by simp at hi ⊢; omega)⟩
end Go.Proofs.Ytdkkaliiofcflaa

/- Values as bytes (chapter 7): what is laid and what is read; no program in sight. -/
namespace Go.Proofs.Ytdkkaliiofcflaa
namespace K

/-- A Uvarint's bytes. -/
def uvF : Nat → Nat → List Int
  | 0, _ => []
  | f + 1, u => if u < 128 then [(u : Int)] else ((u % 128 + 128 : Nat) : Int) :: uvF f (u / 128)
def uvB (u : Nat) : List Int := uvF 10 u
/-- A number of both signs as one of none, and back. -/
def zig (v : Int) : Nat := if 0 ≤ v then (2 * v).toNat else (-2 * v - 1).toNat
def zag (u : Nat) : Int := if u % 2 = 0 then ((u / 2 : Nat) : Int) else -((u / 2 : Nat) : Int) - 1
def byI (s : ByteArray) : List Int := s.toList.map fun c => (c.toNat : Int)
def pieceE (ky : V → List Int) (st : Bool) (names : List ByteArray) (kids : List V) (j : Nat) : List Int :=
  (if st then uvB (names.getD j noT).size ++ byI (names.getD j noT) else []) ++ ky (kids.getD j noV)
/-- A value's bytes. -/
def encV : Nat → V → List Int
  | 0, _ => []
  | m + 1, v => v.k ::
    (if v.k = 2 then [v.n] else if v.k = 3 then uvB (zig v.n) else if v.k = 4 then uvB (zig v.n) ++ [v.s] else if v.k = 5 then uvB v.n.toNat
     else if v.k = 6 ∨ v.k = 7 then uvB v.t.size ++ byI v.t
     else if v.k = 8 ∨ v.k = 9 then uvB v.kids.length ++ (List.range v.kids.length).flatMap (pieceE (encV m) (decide (v.k = 9)) v.names v.kids) else [])

/-- What is read: a thing and what is left, or the first error. -/
inductive Rd (α : Type) where
  | ok (a : α) (r : List Int)
  | bad (e : Int)
def Rd.bind {α β : Type} : Rd α → (α → List Int → Rd β) → Rd β
  | .ok a r, f => f a r
  | .bad e, _ => .bad e
/-- A byte. -/
def rdB : List Int → Rd Int
  | [] => .bad 2
  | c :: r => .ok c r
/-- A Uvarint. -/
def rdUF : Nat → Bool → List Int → Rd Nat
  | 0, _, _ => .bad 3
  | _ + 1, _, [] => .bad 2
  | f + 1, st, c :: r => if (f = 0 ∧ 1 < c) ∨ (st = true ∧ c = 0) then .bad 3 else if c < 128 then .ok c.toNat r else (rdUF f true r).bind fun v r' => .ok (c.toNat - 128 + 128 * v) r'
def rdU (l : List Int) : Rd Nat := rdUF 10 false l
def rdC (l : List Int) : Rd Nat := (rdU l).bind fun n r => if 65536 < n then .bad 3 else .ok n r
def rdT (l : List Int) : Rd ByteArray := (rdC l).bind fun n r => if r.length < n then .bad 2 else .ok ⟨((r.take n).map fun c => UInt8.ofNat c.toNat).toArray⟩ (r.drop n)
def rdK (rd : List Int → Rd V) (st : Bool) : Nat → List ByteArray → List V → List Int → Rd (List ByteArray × List V)
  | 0, ns, ks, l => .ok (ns, ks) l
  | n + 1, ns, ks, l =>
    if st = true then (rdT l).bind fun s r => (rd r).bind fun v r' => rdK rd st n (ns ++ [s]) (ks ++ [v]) r'
    else (rd l).bind fun v r' => rdK rd st n ns (ks ++ [v]) r'
/-- A value, so many levels deep. -/
def rdV : Nat → List Int → Rd V
  | 0, _ => .bad 9
  | m + 1, l => (rdB l).bind fun k r =>
    if k = 1 then .ok (.mk 1 0 0 noT [] []) r
    else if k = 2 then (rdB r).bind fun c r => if 1 < c then .bad 3 else .ok (.mk 2 c 0 noT [] []) r
    else if k = 3 then (rdU r).bind fun u r => .ok (.mk 3 (zag u) 0 noT [] []) r
    else if k = 4 then (rdU r).bind fun u r => (rdB r).bind fun s r => .ok (.mk 4 (zag u) s noT [] []) r
    else if k = 5 then (rdU r).bind fun u r => .ok (.mk 5 (IntKind.i64.wrap (u : Int)) 0 noT [] []) r
    else if k = 6 ∨ k = 7 then (rdT r).bind fun t r => .ok (.mk k 0 0 t [] []) r
    else if k = 8 ∨ k = 9 then (rdC r).bind fun n r => (rdK (rdV m) (decide (k = 9)) n [] [] r).bind fun p r => .ok (.mk k 0 0 noT p.1 p.2) r
    else .bad 3

/-- What stands behind changes nothing, but for an error that more bytes could mend. -/
def Ext {α : Type} (f : List Int → Rd α) : Prop := ∀ l s, match f l with
  | .ok a r => f (l ++ s) = .ok a (r ++ s)
  | .bad e => e = 2 ∨ f (l ++ s) = .bad e
theorem Ext.bind {α β : Type} {f : List Int → Rd α} {g : α → List Int → Rd β} (hf : Ext f) (hg : ∀ a, Ext (g a)) : Ext fun l => (f l).bind g := by
  intro l s
  have h1 := hf l s
  cases h : f l with
  | ok a r =>
    rw [h] at h1
    simp only at h1
    have h2 := hg a r s
    simp only [Rd.bind, h, h1]
    exact h2
  | bad e =>
    rw [h] at h1
    simp only at h1
    simp only [Rd.bind, h]
    rcases h1 with h1 | h1
    · exact .inl h1
    · right; rw [h1]
theorem Ext.ok {α : Type} (a : α) : Ext fun l => Rd.ok a l := fun _ _ => rfl
theorem Ext.bad {α : Type} (e : Int) : Ext fun _ => (Rd.bad e : Rd α) := fun _ _ => .inr rfl
theorem Ext.ite {α : Type} {p : Prop} [Decidable p] {f g : List Int → Rd α} (hf : Ext f) (hg : Ext g) : Ext fun l => if p then f l else g l := by
  by_cases h : p
  · simp only [if_pos h]; exact hf
  · simp only [if_neg h]; exact hg
theorem ext_rdB : Ext rdB := by
  intro l s
  cases l with
  | nil => exact .inl rfl
  | cons c r => rfl
theorem ext_rdUF : ∀ (f : Nat) (st : Bool), Ext (rdUF f st)
  | 0, _ => Ext.bad 3
  | f + 1, st => by
    intro l s
    cases l with
    | nil => exact .inl rfl
    | cons c r =>
      have h := (Ext.ite (p := (f = 0 ∧ 1 < c) ∨ (st = true ∧ c = 0)) (Ext.bad 3) (Ext.ite (p := c < 128) (Ext.ok c.toNat) (Ext.bind (ext_rdUF f true) fun v => Ext.ok (c.toNat - 128 + 128 * v)))) r s
      exact h
theorem ext_rdU : Ext rdU := ext_rdUF 10 false
theorem ext_rdC : Ext rdC := Ext.bind ext_rdU fun n => Ext.ite (Ext.bad 3) (Ext.ok n)
theorem ext_rdT : Ext rdT := Ext.bind ext_rdC fun n => by
  intro r s
  by_cases h : r.length < n
  · simp only [if_pos h]; exact .inl trivial
  · simp only [if_neg h]
    rw [if_neg (by rw [List.length_append]; omega), List.take_append_of_le_length (by omega), List.drop_append_of_le_length (by omega)]
theorem ext_rdK {rd : List Int → Rd V} (h : Ext rd) (st : Bool) : ∀ (n : Nat) (ns : List ByteArray) (ks : List V), Ext (rdK rd st n ns ks)
  | 0, ns, ks => Ext.ok (ns, ks)
  | n + 1, ns, ks => Ext.ite (Ext.bind ext_rdT fun s => Ext.bind h fun v => ext_rdK h st n (ns ++ [s]) (ks ++ [v])) (Ext.bind h fun v => ext_rdK h st n ns (ks ++ [v]))
theorem ext_rdV : ∀ (m : Nat), Ext (rdV m)
  | 0 => Ext.bad 9
  | m + 1 => Ext.bind ext_rdB fun _ => Ext.ite (Ext.ok _) (Ext.ite (Ext.bind ext_rdB fun _ => Ext.ite (Ext.bad 3) (Ext.ok _)) (Ext.ite (Ext.bind ext_rdU fun _ => Ext.ok _) (Ext.ite (Ext.bind ext_rdU fun _ => Ext.bind ext_rdB fun _ => Ext.ok _)
      (Ext.ite (Ext.bind ext_rdU fun _ => Ext.ok _) (Ext.ite (Ext.bind ext_rdT fun _ => Ext.ok _) (Ext.ite (Ext.bind ext_rdC fun n => Ext.bind (ext_rdK (ext_rdV m) _ n [] []) fun _ => Ext.ok _) (Ext.bad 3)))))))
end K
end Go.Proofs.Ytdkkaliiofcflaa

/- Values as bytes (chapter 7): what was laid is read as it was, and what is read is laid so; no program in sight. -/
namespace Go.Proofs.Ytdkkaliiofcflaa
namespace K

/-- Bytes. -/
def Byt (l : List Int) : Prop := ∀ c ∈ l, 0 ≤ c ∧ c ≤ 255
theorem Byt.tail {c : Int} {l : List Int} (h : Byt (c :: l)) : Byt l := fun x hx => h x (List.mem_cons_of_mem _ hx)
theorem Byt.right {k l : List Int} (h : Byt (k ++ l)) : Byt l := fun x hx => h x (List.mem_append_right _ hx)
theorem Byt.left {k l : List Int} (h : Byt (k ++ l)) : Byt k := fun x hx => h x (List.mem_append_left _ hx)
theorem Byt.app {k l : List Int} (h : Byt k) (h' : Byt l) : Byt (k ++ l) := fun x hx => (List.mem_append.1 hx).elim (h x) (h' x)

/-- What is left is an end of what was there. -/
def Suf {α : Type} (f : List Int → Rd α) : Prop := ∀ l a r, f l = .ok a r → ∃ p, l = p ++ r
theorem Suf.bind {α β : Type} {f : List Int → Rd α} {g : α → List Int → Rd β} (hf : Suf f) (hg : ∀ a, Suf (g a)) : Suf fun l => (f l).bind g := by
  intro l b r h
  cases h1 : f l with
  | ok a r1 =>
    simp only [Rd.bind, h1] at h
    obtain ⟨p, rfl⟩ := hf l a r1 h1
    obtain ⟨q, rfl⟩ := hg a r1 b r h
    exact ⟨p ++ q, by rw [List.append_assoc]⟩
  | bad e => simp only [Rd.bind, h1] at h; cases h
theorem Suf.ok {α : Type} (a : α) : Suf fun l => Rd.ok a l := fun l b r h => by cases h; exact ⟨[], rfl⟩
theorem Suf.bad {α : Type} (e : Int) : Suf fun _ => (Rd.bad e : Rd α) := fun _ _ _ h => by cases h
theorem Suf.ite {α : Type} {p : Prop} [Decidable p] {f g : List Int → Rd α} (hf : Suf f) (hg : Suf g) : Suf fun l => if p then f l else g l := by
  by_cases h : p
  · simp only [if_pos h]; exact hf
  · simp only [if_neg h]; exact hg

theorem rdUF_enc : ∀ (f u : Nat) (st : Bool) (r : List Int), u < 2 * 128 ^ f → (st = true → u ≠ 0) → rdUF (f + 1) st (uvF (f + 1) u ++ r) = .ok u r
  | 0, u, st, r, h, hs => by
    simp at h
    unfold uvF
    rw [if_pos (by omega), List.singleton_append]
    unfold rdUF
    rw [if_neg (fun h1 => h1.elim (fun h => by omega) (fun h => by have := hs h.1; omega)), if_pos (by omega)]
    simp
  | f + 1, u, st, r, h, hs => by
    unfold uvF
    by_cases hu : u < 128
    · rw [if_pos hu, List.singleton_append]
      unfold rdUF
      rw [if_neg (fun h1 => h1.elim (fun h => by omega) (fun h => by have := hs h.1; omega)), if_pos (by omega)]
      simp
    · rw [if_neg hu, List.cons_append]
      unfold rdUF
      rw [Nat.pow_succ] at h
      rw [if_neg (by rintro (h1 | h1) <;> omega), if_neg (by omega), rdUF_enc f (u / 128) true r (by omega) (fun _ => by omega)]
      simp only [Rd.bind]
      rw [show (((u % 128 + 128 : Nat) : Int)).toNat - 128 + 128 * (u / 128) = u by omega]
theorem uvF_big {f u : Nat} (h : 128 ≤ u) : uvF (f + 1) u = ((u % 128 + 128 : Nat) : Int) :: uvF f (u / 128) := by rw [uvF, if_neg (by omega)]
theorem rdUF_can : ∀ (f u : Nat) (st : Bool) (l r : List Int), Byt l → rdUF (f + 1) st l = .ok u r → l = uvF (f + 1) u ++ r ∧ u < 2 * 128 ^ f ∧ (st = true → u ≠ 0)
  | f, u, st, [], r, _, h => by simp [rdUF] at h
  | f, u, st, c :: t, r, hb, h => by
    unfold rdUF at h
    have hc := hb c (by simp)
    by_cases h1 : (f = 0 ∧ 1 < c) ∨ (st = true ∧ c = 0)
    · rw [if_pos h1] at h; cases h
    rw [if_neg h1] at h
    by_cases h2 : c < 128
    · rw [if_pos h2] at h
      cases h
      unfold uvF
      rw [if_pos (by omega), List.singleton_append]
      refine ⟨by rw [Int.toNat_of_nonneg hc.1], ?_, fun hs e => h1 (.inr ⟨hs, by omega⟩)⟩
      cases f with
      | zero => simp; have : ¬ 1 < c := fun e => h1 (.inl ⟨rfl, e⟩); omega
      | succ f => have := Nat.pos_of_ne_zero (show 128 ^ f ≠ 0 by simp); rw [Nat.pow_succ]; omega
    · rw [if_neg h2] at h
      cases hr : rdUF f true t with
      | bad e => rw [hr] at h; cases h
      | ok v r' =>
        rw [hr] at h
        simp only [Rd.bind] at h
        cases h
        cases f with
        | zero => cases hr
        | succ f =>
          obtain ⟨rfl, h3, h4⟩ := rdUF_can f v true t r hb.tail hr
          have h5 := h4 rfl
          rw [uvF_big (show 128 ≤ c.toNat - 128 + 128 * v by omega), List.cons_append, show (c.toNat - 128 + 128 * v) / 128 = v by omega, show (c.toNat - 128 + 128 * v) % 128 + 128 = c.toNat by omega]
          refine ⟨by rw [Int.toNat_of_nonneg hc.1], by rw [Nat.pow_succ]; omega, fun _ => by omega⟩
theorem rdU_enc {u : Nat} (h : u < 18446744073709551616) (r : List Int) : rdU (uvB u ++ r) = .ok u r := rdUF_enc 9 u false r (by omega) (fun h => by cases h)
theorem rdU_can {u : Nat} {l r : List Int} (hb : Byt l) (h : rdU l = .ok u r) : l = uvB u ++ r ∧ u < 18446744073709551616 := by
  obtain ⟨h1, h2, -⟩ := rdUF_can 9 u false l r hb h
  exact ⟨h1, by omega⟩
theorem zag_zig (v : Int) : zag (zig v) = v := by unfold zag zig; split <;> split <;> omega
theorem zig_zag (u : Nat) : zig (zag u) = u := by unfold zag zig; split <;> split <;> omega
theorem zig_lt {v : Int} (h : -9223372036854775808 ≤ v ∧ v ≤ 9223372036854775807) : zig v < 18446744073709551616 := by unfold zig; split <;> omega
theorem rdC_enc {n : Nat} (h : n ≤ 65536) (r : List Int) : rdC (uvB n ++ r) = .ok n r := by
  unfold rdC
  rw [rdU_enc (by omega)]
  simp only [Rd.bind]
  rw [if_neg (by omega)]
theorem rdC_can {n : Nat} {l r : List Int} (hb : Byt l) (h : rdC l = .ok n r) : l = uvB n ++ r ∧ n ≤ 65536 := by
  unfold rdC at h
  cases h1 : rdU l with
  | bad e => rw [h1] at h; cases h
  | ok u r' =>
    rw [h1] at h
    simp only [Rd.bind] at h
    split at h
    · cases h
    · cases h
      exact ⟨(rdU_can hb h1).1, by omega⟩
theorem byI_len (s : ByteArray) : (byI s).length = s.size := by
  unfold byI
  rw [List.length_map, ByteArray.toList_eq]; rfl
theorem byI_mk {l : List Int} (h : Byt l) : byI ⟨(l.map fun c => UInt8.ofNat c.toNat).toArray⟩ = l := by
  unfold byI
  rw [ByteArray.toList_eq]
  simp only [List.map_map]
  refine (List.map_congr_left fun c hc => ?_).trans (List.map_id l)
  have := h c hc
  simp only [Function.comp_apply, UInt8.toNat_ofNat', id]
  omega
theorem mk_byI (s : ByteArray) : (⟨((byI s).map fun c => UInt8.ofNat c.toNat).toArray⟩ : ByteArray) = s := by
  unfold byI
  rw [ByteArray.toList_eq]
  apply ByteArray.ext
  apply Array.ext'
  simp only [List.map_map]
  refine (List.map_congr_left fun c _ => ?_).trans (List.map_id _)
  simp
theorem rdT_enc {s : ByteArray} (h : s.size ≤ 65536) (r : List Int) : rdT (uvB s.size ++ (byI s ++ r)) = .ok s r := by
  unfold rdT
  rw [rdC_enc h]
  simp only [Rd.bind]
  have hl := byI_len s
  rw [if_neg (by rw [List.length_append]; omega), ← hl, List.take_left', List.drop_left', mk_byI]
  · rfl
  · rfl
theorem rdT_can {s : ByteArray} {l r : List Int} (hb : Byt l) (h : rdT l = .ok s r) : l = uvB s.size ++ (byI s ++ r) ∧ s.size ≤ 65536 := by
  unfold rdT at h
  cases h1 : rdC l with
  | bad e => rw [h1] at h; cases h
  | ok n t =>
    rw [h1] at h
    simp only [Rd.bind] at h
    obtain ⟨rfl, h2⟩ := rdC_can hb h1
    split at h
    · cases h
    · rename_i h3
      cases h
      have hby : byI ⟨((t.take n).map fun c => UInt8.ofNat c.toNat).toArray⟩ = t.take n := byI_mk fun c hc => hb.right c (List.mem_of_mem_take hc)
      have hsz := byI_len ⟨((t.take n).map fun c => UInt8.ofNat c.toNat).toArray⟩
      rw [hby, List.length_take] at hsz
      rw [hby, ← hsz, show min n t.length = n by omega, List.take_append_drop]
      exact ⟨rfl, h2⟩

theorem suf_rdB : Suf rdB := fun l a r h => by
  cases l with
  | nil => cases h
  | cons c t => cases h; exact ⟨[a], rfl⟩
theorem suf_rdUF : ∀ (f : Nat) (st : Bool), Suf (rdUF f st)
  | 0, _ => Suf.bad 3
  | f + 1, st => by
    intro l a r h
    cases l with
    | nil => cases h
    | cons c t =>
      obtain ⟨p, rfl⟩ := (Suf.ite (p := (f = 0 ∧ 1 < c) ∨ (st = true ∧ c = 0)) (Suf.bad 3) (Suf.ite (p := c < 128) (Suf.ok c.toNat) (Suf.bind (suf_rdUF f true) fun v => Suf.ok (c.toNat - 128 + 128 * v)))) t a r h
      exact ⟨c :: p, rfl⟩
theorem suf_rdU : Suf rdU := suf_rdUF 10 false
theorem suf_rdC : Suf rdC := Suf.bind suf_rdU fun n => Suf.ite (Suf.bad 3) (Suf.ok n)
theorem suf_rdT : Suf rdT := Suf.bind suf_rdC fun n => by
  intro l a r h
  by_cases h1 : l.length < n
  · simp only [if_pos h1] at h; cases h
  · simp only [if_neg h1] at h; cases h; exact ⟨l.take n, (List.take_append_drop _ _).symm⟩
theorem suf_rdK {rd : List Int → Rd V} (h : Suf rd) (st : Bool) : ∀ (n : Nat) (ns : List ByteArray) (ks : List V), Suf (rdK rd st n ns ks)
  | 0, ns, ks => Suf.ok (ns, ks)
  | n + 1, ns, ks => Suf.ite (Suf.bind suf_rdT fun s => Suf.bind h fun v => suf_rdK h st n (ns ++ [s]) (ks ++ [v])) (Suf.bind h fun v => suf_rdK h st n ns (ks ++ [v]))
theorem suf_rdV : ∀ (m : Nat), Suf (rdV m)
  | 0 => Suf.bad 9
  | m + 1 => Suf.bind suf_rdB fun _ => Suf.ite (Suf.ok _) (Suf.ite (Suf.bind suf_rdB fun _ => Suf.ite (Suf.bad 3) (Suf.ok _)) (Suf.ite (Suf.bind suf_rdU fun _ => Suf.ok _) (Suf.ite (Suf.bind suf_rdU fun _ => Suf.bind suf_rdB fun _ => Suf.ok _)
      (Suf.ite (Suf.bind suf_rdU fun _ => Suf.ok _) (Suf.ite (Suf.bind suf_rdT fun _ => Suf.ok _) (Suf.ite (Suf.bind suf_rdC fun n => Suf.bind (suf_rdK (suf_rdV m) _ n [] []) fun _ => Suf.ok _) (Suf.bad 3)))))))
end K
end Go.Proofs.Ytdkkaliiofcflaa

/- Values as bytes (chapter 7): a value that was laid is read as it was, and what is read is laid so; no program in sight. -/
namespace Go.Proofs.Ytdkkaliiofcflaa
namespace K

/-- Pieces, by the lists themselves. -/
def encK (ky : V → List Int) (st : Bool) : List ByteArray → List V → List Int
  | _, [] => []
  | ns, k :: ks => (if st then uvB (ns.headD noT).size ++ byI (ns.headD noT) else []) ++ (ky k ++ encK ky st ns.tail ks)
theorem encK_range (ky : V → List Int) (st : Bool) : ∀ (ks : List V) (ns : List ByteArray), (List.range ks.length).flatMap (pieceE ky st ns ks) = encK ky st ns ks
  | [], ns => rfl
  | k :: ks, ns => by
    rw [List.length_cons, List.range_succ_eq_map, List.flatMap_cons, List.flatMap_map]
    have : (fun j => pieceE ky st ns (k :: ks) (Nat.succ j)) = pieceE ky st ns.tail ks := by
      funext j
      unfold pieceE
      cases ns <;> simp
    rw [this, encK_range ky st ks ns.tail]
    show _ = (if st then uvB (ns.headD noT).size ++ byI (ns.headD noT) else []) ++ (ky k ++ encK ky st ns.tail ks)
    unfold pieceE
    cases ns <;> simp
theorem rdK_enc {rd : List Int → Rd V} {ky : V → List Int} (st : Bool) : ∀ (ks : List V) (ns : List ByteArray) (ns0 : List ByteArray) (ks0 : List V) (r : List Int), (∀ k ∈ ks, ∀ r, rd (ky k ++ r) = .ok k r) → (st = true → ns.length = ks.length ∧ ∀ s ∈ ns, s.size ≤ 65536) →
    rdK rd st ks.length ns0 ks0 (encK ky st ns ks ++ r) = .ok (if st = true then ns0 ++ ns else ns0, ks0 ++ ks) r
  | [], ns, ns0, ks0, r, _, hn => by
    cases st with
    | true => have := (hn rfl).1; obtain rfl := List.eq_nil_of_length_eq_zero this; simp [rdK, encK]
    | false => simp [rdK, encK]
  | k :: ks, ns, ns0, ks0, r, hk, hn => by
    unfold encK
    rw [List.length_cons, rdK]
    cases st with
    | true =>
      obtain ⟨h1, h2⟩ := hn rfl
      cases ns with
      | nil => cases h1
      | cons s ns =>
        simp only [if_true, List.headD_cons, List.tail_cons, List.append_assoc]
        rw [rdT_enc (h2 s (by simp))]
        simp only [Rd.bind]
        rw [hk k (by simp)]
        simp only
        rw [rdK_enc true ks ns (ns0 ++ [s]) (ks0 ++ [k]) r (fun k hk' => hk k (List.mem_cons_of_mem _ hk')) (fun _ => ⟨by simpa using h1, fun s hs => h2 s (List.mem_cons_of_mem _ hs)⟩)]
        simp
    | false =>
      simp only [Bool.false_eq_true, if_false, List.nil_append, List.append_assoc]
      rw [hk k (by simp)]
      simp only [Rd.bind]
      rw [rdK_enc false ks ns.tail ns0 (ks0 ++ [k]) r (fun k hk' => hk k (List.mem_cons_of_mem _ hk')) (fun h => by cases h)]
      simp
theorem rdK_can {rd : List Int → Rd V} {ky : V → List Int} {good : V → Prop} (st : Bool) (hrd : ∀ v l r, rd l = .ok v r → good v → Byt l → l = ky v ++ r) (hsuf : Suf rd) : ∀ (n : Nat) (ns0 : List ByteArray) (ks0 : List V) (l r : List Int) (p : List ByteArray × List V), Byt l → rdK rd st n ns0 ks0 l = .ok p r →
    ∃ ns ks, p = (ns0 ++ ns, ks0 ++ ks) ∧ ks.length = n ∧ (st = true → ns.length = n) ∧ (st = false → ns = []) ∧ ((∀ k ∈ ks, good k) → l = encK ky st ns ks ++ r)
  | 0, ns0, ks0, l, r, p, _, h => by cases h; exact ⟨[], [], by simp, rfl, fun _ => rfl, fun _ => rfl, fun _ => rfl⟩
  | n + 1, ns0, ks0, l, r, p, hb, h => by
    rw [rdK] at h
    cases st with
    | true =>
      rw [if_pos rfl] at h
      cases h1 : rdT l with
      | bad e => rw [h1] at h; cases h
      | ok s r1 =>
        rw [h1] at h
        simp only [Rd.bind] at h
        obtain ⟨hl, -⟩ := rdT_can hb h1
        subst hl
        have hb1 : Byt r1 := hb.right.right
        cases h2 : rd r1 with
        | bad e => rw [h2] at h; cases h
        | ok v r2 =>
          rw [h2] at h
          simp only at h
          obtain ⟨q, hq⟩ := hsuf r1 v r2 h2
          have hb2 : Byt r2 := by rw [hq] at hb1; exact hb1.right
          obtain ⟨ns, ks, rfl, e1, e2, e3, e4⟩ := rdK_can true hrd hsuf n (ns0 ++ [s]) (ks0 ++ [v]) r2 r p hb2 h
          refine ⟨s :: ns, v :: ks, by simp, by simp [e1], fun _ => by simp [e2 rfl], fun h => (by cases h), fun hg => ?_⟩
          rw [hrd v r1 r2 h2 (hg v (by simp)) hb1, e4 fun k hk => hg k (List.mem_cons_of_mem _ hk)]
          simp [encK]
    | false =>
      rw [if_neg Bool.false_ne_true] at h
      cases h2 : rd l with
      | bad e => rw [h2] at h; cases h
      | ok v r2 =>
        rw [h2] at h
        simp only [Rd.bind] at h
        obtain ⟨q, hq⟩ := hsuf l v r2 h2
        have hb2 : Byt r2 := by rw [hq] at hb; exact hb.right
        obtain ⟨ns, ks, rfl, e1, e2, e3, e4⟩ := rdK_can false hrd hsuf n ns0 (ks0 ++ [v]) r2 r p hb2 h
        refine ⟨ns, v :: ks, by simp, by simp [e1], fun h => (by cases h), e3, fun hg => ?_⟩
        rw [hrd v l r2 h2 (hg v (by simp)) hb, e4 fun k hk => hg k (List.mem_cons_of_mem _ hk)]
        obtain rfl := e3 rfl
        simp [encK]
end K
end Go.Proofs.Ytdkkaliiofcflaa

/- Values as bytes (chapter 7): the laws of values; no program in sight. -/
namespace Go.Proofs.Ytdkkaliiofcflaa
namespace K

theorem noT_of {t : ByteArray} (h : t.size = 0) : t = noT := by
  apply ByteArray.ext
  apply Array.eq_empty_of_size_eq_zero h
/-- A value's form, by its kind. -/
theorem shp_full {v : V} (h : shp v = 0) :
    (v.k = 1 ∧ v = .mk 1 0 0 noT [] []) ∨ (v.k = 2 ∧ v = .mk 2 v.n 0 noT [] [] ∧ 0 ≤ v.n ∧ v.n ≤ 1) ∨ (v.k = 3 ∧ v = .mk 3 v.n 0 noT [] []) ∨ (v.k = 4 ∧ v = .mk 4 v.n v.s noT [] [] ∧ 1 ≤ v.s ∧ v.s ≤ 18) ∨
    (v.k = 5 ∧ v = .mk 5 v.n 0 noT [] [] ∧ 0 ≤ v.n ∧ v.n ≤ 9007199254740992) ∨ ((v.k = 6 ∨ v.k = 7) ∧ v = .mk v.k 0 0 v.t [] [] ∧ v.t.size ≤ 16384) ∨
    (v.k = 8 ∧ v = .mk 8 0 0 noT [] v.kids ∧ v.kids.length ≤ 200) ∨ (v.k = 9 ∧ v = .mk 9 0 0 noT v.names v.kids ∧ v.kids.length ≤ 200 ∧ v.names.length = v.kids.length ∧ ∀ s ∈ v.names, s.size ≤ 40) := by
  obtain ⟨k, n, s, t, names, kids⟩ := v
  unfold shp at h
  by_cases h1 : formB (.mk k n s t names kids) = false
  · rw [if_pos h1] at h; cases h
  rw [if_neg h1] at h
  by_cases h2 : 16384 < (V.mk k n s t names kids).t.size ∨ 200 < (V.mk k n s t names kids).kids.length
  · rw [if_pos h2] at h; cases h
  rw [if_neg h2] at h
  by_cases h3 : (V.mk k n s t names kids).k = 9 ∧ fieldsB (.mk k n s t names kids) = false
  · rw [if_pos h3] at h; cases h
  have hf : formB (.mk k n s t names kids) = true := by simpa using h1
  clear h h1
  simp only [V.k, V.t, V.kids] at h2 h3
  unfold formB at hf
  simp only [V.k, V.n, V.s, V.t, V.names, V.kids]
  by_cases a1 : k = 1
  · subst a1; left
    rw [if_pos (show (V.mk 1 n s t names kids).k = 1 from rfl)] at hf
    simp only [bareB, plainB, noTextB, Bool.and_eq_true, decide_eq_true_eq, List.length_eq_zero_iff] at hf
    simp only [V.n, V.s, V.t, V.names, V.kids] at hf
    obtain ⟨⟨⟨rfl, rfl⟩, rfl, rfl⟩, ht⟩ := hf
    exact ⟨rfl, by rw [noT_of ht]⟩
  rw [if_neg (show ¬ (V.mk k n s t names kids).k = 1 from a1)] at hf; right
  by_cases a2 : k = 2
  · subst a2; left
    rw [if_pos (show (V.mk 2 n s t names kids).k = 2 from rfl)] at hf
    simp only [plainB, noTextB, Bool.and_eq_true, decide_eq_true_eq, List.length_eq_zero_iff] at hf
    simp only [V.n, V.s, V.t, V.names, V.kids] at hf
    obtain ⟨⟨⟨⟨b1, b2⟩, rfl⟩, rfl, rfl⟩, ht⟩ := hf
    exact ⟨rfl, by rw [noT_of ht], b1, b2⟩
  rw [if_neg (show ¬ (V.mk k n s t names kids).k = 2 from a2)] at hf; right
  by_cases a3 : k = 3
  · subst a3; left
    rw [if_pos (show (V.mk 3 n s t names kids).k = 3 from rfl)] at hf
    simp only [plainB, noTextB, Bool.and_eq_true, decide_eq_true_eq, List.length_eq_zero_iff] at hf
    simp only [V.s, V.t, V.names, V.kids] at hf
    obtain ⟨⟨rfl, rfl, rfl⟩, ht⟩ := hf
    exact ⟨rfl, by rw [noT_of ht]⟩
  rw [if_neg (show ¬ (V.mk k n s t names kids).k = 3 from a3)] at hf; right
  by_cases a4 : k = 4
  · subst a4; left
    rw [if_pos (show (V.mk 4 n s t names kids).k = 4 from rfl)] at hf
    simp only [plainB, noTextB, Bool.and_eq_true, decide_eq_true_eq, List.length_eq_zero_iff] at hf
    simp only [V.n, V.s, V.t, V.names, V.kids] at hf
    obtain ⟨⟨⟨⟨b1, b2⟩, -⟩, rfl, rfl⟩, ht⟩ := hf
    exact ⟨rfl, by rw [noT_of ht], b1, b2⟩
  rw [if_neg (show ¬ (V.mk k n s t names kids).k = 4 from a4)] at hf; right
  by_cases a5 : k = 5
  · subst a5; left
    rw [if_pos (show (V.mk 5 n s t names kids).k = 5 from rfl)] at hf
    simp only [plainB, noTextB, Bool.and_eq_true, decide_eq_true_eq, List.length_eq_zero_iff] at hf
    simp only [V.n, V.s, V.t, V.names, V.kids] at hf
    obtain ⟨⟨⟨⟨b1, b2⟩, rfl⟩, rfl, rfl⟩, ht⟩ := hf
    exact ⟨rfl, by rw [noT_of ht], b1, b2⟩
  rw [if_neg (show ¬ (V.mk k n s t names kids).k = 5 from a5)] at hf; right
  by_cases a6 : k = 6 ∨ k = 7
  · left
    rw [if_pos (show (V.mk k n s t names kids).k = 6 ∨ (V.mk k n s t names kids).k = 7 from a6)] at hf
    simp only [bareB, plainB, Bool.and_eq_true, decide_eq_true_eq, List.length_eq_zero_iff] at hf
    simp only [V.n, V.s, V.names, V.kids] at hf
    obtain ⟨⟨rfl, rfl⟩, rfl, rfl⟩ := hf
    exact ⟨a6, rfl, by omega⟩
  rw [if_neg (show ¬ ((V.mk k n s t names kids).k = 6 ∨ (V.mk k n s t names kids).k = 7) from a6)] at hf; right
  by_cases a8 : k = 8
  · subst a8; left
    rw [if_pos (show (V.mk 8 n s t names kids).k = 8 from rfl)] at hf
    simp only [bareB, noTextB, Bool.and_eq_true, decide_eq_true_eq, List.length_eq_zero_iff] at hf
    simp only [V.n, V.s, V.t, V.names] at hf
    obtain ⟨⟨⟨rfl, rfl⟩, rfl⟩, ht⟩ := hf
    exact ⟨rfl, by rw [noT_of ht], by omega⟩
  rw [if_neg (show ¬ (V.mk k n s t names kids).k = 8 from a8)] at hf; right
  by_cases a9 : k = 9
  · subst a9
    rw [if_pos (show (V.mk 9 n s t names kids).k = 9 from rfl)] at hf
    simp only [bareB, noTextB, Bool.and_eq_true, decide_eq_true_eq] at hf
    simp only [V.n, V.s, V.t] at hf
    obtain ⟨⟨rfl, rfl⟩, ht⟩ := hf
    have h4 : fieldsB (.mk 9 0 0 t names kids) = true := by
      cases hb : fieldsB (.mk 9 0 0 t names kids) with
      | true => rfl
      | false => exact (h3 ⟨rfl, hb⟩).elim
    unfold fieldsB at h4
    simp only [Bool.and_eq_true, List.all_eq_true, decide_eq_true_eq] at h4
    refine ⟨rfl, by rw [noT_of ht], by omega, h4.2, fun s hs => ?_⟩
    have := h4.1.1 s hs
    unfold isNameB at this
    simp at this
    omega
  · rw [if_neg (show ¬ (V.mk k n s t names kids).k = 9 from a9)] at hf; cases hf

/-- Its numbers are as great as a number can be. -/
def Rng : Nat → V → Prop
  | 0, _ => False
  | f + 1, v => (-9223372036854775808 ≤ v.n ∧ v.n ≤ 9223372036854775807) ∧ ∀ x ∈ v.kids, Rng f x
theorem chk_mem {m : Nat} {v x : V} (h : chk (m + 1) v = 0) (hx : x ∈ v.kids) : chk m x = 0 := by
  obtain ⟨j, hj, rfl⟩ := List.getElem_of_mem hx
  have := chk_kid h hj
  rwa [List.getD_eq_getElem?_getD, List.getElem?_eq_getElem hj] at this

theorem rdV_enc : ∀ (m : Nat) {f : Nat} {v : V} (r : List Int), chk m v = 0 → Rng f v → rdV m (encV m v ++ r) = .ok v r
  | 0, _, _, _, h, _ => by cases h
  | _ + 1, 0, _, _, _, h => h.elim
  | m + 1, f + 1, v, r, hc, hr => by
    have hk : ∀ x ∈ v.kids, ∀ r, rdV m (encV m x ++ r) = .ok x r := fun x hx r => rdV_enc m r (chk_mem hc hx) (hr.2 x hx)
    have hn := zig_lt hr.1
    have hn0 := hr.1
    clear hr
    rcases shp_full (chk_shp hc) with ⟨h1, e⟩ | ⟨h1, e, h2, h3⟩ | ⟨h1, e⟩ | ⟨h1, e, h2, h3⟩ | ⟨h1, e, h2, h3⟩ | ⟨h1, e, h2⟩ | ⟨h1, e, h2⟩ | ⟨h1, e, h2, h3, h4⟩ <;> clear hc
    · rw [e]; rfl
    · obtain ⟨n, hn⟩ : ∃ n, v.n = n := ⟨_, rfl⟩
      rw [hn] at e h3
      rw [e]
      show (if 1 < n then Rd.bad 3 else Rd.ok (V.mk 2 n 0 noT [] []) r) = _
      rw [if_neg (by omega)]
    · obtain ⟨n, hv⟩ : ∃ n, v.n = n := ⟨_, rfl⟩
      rw [hv] at e hn
      rw [e]
      show (rdU (uvB (zig n) ++ r)).bind (fun u r => .ok (V.mk 3 (zag u) 0 noT [] []) r) = _
      rw [rdU_enc hn]
      show Rd.ok (V.mk 3 (zag (zig n)) 0 noT [] []) r = _
      rw [zag_zig]
    · obtain ⟨n, hv⟩ : ∃ n, v.n = n := ⟨_, rfl⟩
      obtain ⟨s, hs⟩ : ∃ s, v.s = s := ⟨_, rfl⟩
      rw [hv, hs] at e
      rw [hv] at hn
      rw [e]
      show (rdU ((uvB (zig n) ++ [s]) ++ r)).bind (fun u r => (rdB r).bind fun s r => .ok (V.mk 4 (zag u) s noT [] []) r) = _
      rw [List.append_assoc, rdU_enc hn]
      show Rd.ok (V.mk 4 (zag (zig n)) s noT [] []) r = _
      rw [zag_zig]
    · obtain ⟨n, hv⟩ : ∃ n, v.n = n := ⟨_, rfl⟩
      rw [hv] at e h2 h3
      rw [e]
      show (rdU (uvB n.toNat ++ r)).bind (fun u r => .ok (V.mk 5 (IntKind.i64.wrap (u : Int)) 0 noT [] []) r) = _
      rw [rdU_enc (by omega)]
      show Rd.ok (V.mk 5 (IntKind.i64.wrap (n.toNat : Int)) 0 noT [] []) r = _
      rw [Int.toNat_of_nonneg h2, IntKind.wrap_i64, show (n + 9223372036854775808) % 18446744073709551616 - 9223372036854775808 = n by omega]
    · obtain ⟨k, hk⟩ : ∃ k, v.k = k := ⟨_, rfl⟩
      obtain ⟨t, ht⟩ : ∃ t, v.t = t := ⟨_, rfl⟩
      rw [hk, ht] at e
      rw [ht] at h2
      rw [hk] at h1
      rw [e]
      have he : encV (m + 1) (.mk k 0 0 t [] []) = k :: (uvB t.size ++ byI t) := by
        rcases h1 with rfl | rfl <;> rfl
      rw [he]
      have hd : rdV (m + 1) (k :: (uvB t.size ++ byI t) ++ r) = (rdT ((uvB t.size ++ byI t) ++ r)).bind fun t r => .ok (.mk k 0 0 t [] []) r := by
        rcases h1 with rfl | rfl <;> rfl
      rw [hd, List.append_assoc, rdT_enc (by omega)]
      rfl
    · obtain ⟨ks, hks⟩ : ∃ ks, v.kids = ks := ⟨_, rfl⟩
      rw [hks] at e h2 hk
      rw [e]
      show (rdC ((uvB ks.length ++ (List.range ks.length).flatMap (pieceE (encV m) false [] ks)) ++ r)).bind (fun n r => (rdK (rdV m) false n [] [] r).bind fun p r => .ok (V.mk 8 0 0 noT p.1 p.2) r) = _
      rw [List.append_assoc, rdC_enc (by omega), encK_range]
      simp only [Rd.bind]
      rw [rdK_enc false ks [] [] [] r hk (fun h => by cases h)]
      simp
    · obtain ⟨ks, hks⟩ : ∃ ks, v.kids = ks := ⟨_, rfl⟩
      obtain ⟨ns, hns⟩ : ∃ ns, v.names = ns := ⟨_, rfl⟩
      rw [hks, hns] at e h3
      rw [hks] at h2 hk
      rw [hns] at h4
      rw [e]
      show (rdC ((uvB ks.length ++ (List.range ks.length).flatMap (pieceE (encV m) true ns ks)) ++ r)).bind (fun n r => (rdK (rdV m) true n [] [] r).bind fun p r => .ok (V.mk 9 0 0 noT p.1 p.2) r) = _
      rw [List.append_assoc, rdC_enc (by omega), encK_range]
      simp only [Rd.bind]
      rw [rdK_enc true ks ns [] [] r hk (fun _ => ⟨h3, fun s hs => Nat.le_trans (h4 s hs) (by decide)⟩)]
      simp

theorem rdV_can : ∀ (m : Nat) {v : V} {l r : List Int}, rdV m l = .ok v r → chk m v = 0 → Byt l → l = encV m v ++ r
  | 0, _, _, _, h, _, _ => by cases h
  | m + 1, v, l, r, h, hc, hb => by
    have ih : ∀ v l r, rdV m l = .ok v r → chk m v = 0 → Byt l → l = encV m v ++ r := fun v l r h1 h2 h3 => rdV_can m h1 h2 h3
    cases l with
    | nil => cases h
    | cons k l =>
      have hb1 := hb.tail
      have hsh := shp_form_k (chk_shp hc)
      have hkid : ∀ x ∈ v.kids, chk m x = 0 := fun x hx => chk_mem hc hx
      clear hc hb
      unfold rdV at h
      simp only [rdB, Rd.bind] at h
      by_cases k1 : k = 1
      · rw [if_pos k1] at h; cases h; subst k1; rfl
      rw [if_neg k1] at h
      by_cases k2 : k = 2
      · rw [if_pos k2] at h
        cases l with
        | nil => cases h
        | cons c l =>
          simp only at h
          split at h
          · cases h
          · cases h; subst k2; rfl
      rw [if_neg k2] at h
      by_cases k3 : k = 3
      · rw [if_pos k3] at h
        cases hu : rdU l with
        | bad e => rw [hu] at h; cases h
        | ok u r' =>
          rw [hu] at h; cases h; subst k3
          obtain ⟨rfl, -⟩ := rdU_can hb1 hu
          show _ = 3 :: uvB (zig (zag u)) ++ r
          rw [zig_zag]; rfl
      rw [if_neg k3] at h
      by_cases k4 : k = 4
      · rw [if_pos k4] at h
        cases hu : rdU l with
        | bad e => rw [hu] at h; cases h
        | ok u r' =>
          rw [hu] at h
          simp only at h
          cases r' with
          | nil => cases h
          | cons s r' =>
            cases h; subst k4
            obtain ⟨rfl, -⟩ := rdU_can hb1 hu
            show _ = 4 :: (uvB (zig (zag u)) ++ [s]) ++ r
            rw [zig_zag]; simp
      rw [if_neg k4] at h
      by_cases k5 : k = 5
      · rw [if_pos k5] at h
        cases hu : rdU l with
        | bad e => rw [hu] at h; cases h
        | ok u r' =>
          rw [hu] at h; cases h; subst k5
          obtain ⟨rfl, hlt⟩ := rdU_can hb1 hu
          have h5 := hsh.1 rfl
          have : (IntKind.i64.wrap (u : Int)).toNat = u := by
            simp only [V.n] at h5
            rw [IntKind.wrap_i64] at h5 ⊢; omega
          show _ = 5 :: uvB (IntKind.i64.wrap (u : Int)).toNat ++ r
          rw [this]; rfl
      rw [if_neg k5] at h
      by_cases k6 : k = 6 ∨ k = 7
      · rw [if_pos k6] at h
        cases hu : rdT l with
        | bad e => rw [hu] at h; cases h
        | ok t r' =>
          rw [hu] at h; cases h
          obtain ⟨rfl, -⟩ := rdT_can hb1 hu
          rcases k6 with rfl | rfl
          · show _ = 6 :: (uvB t.size ++ byI t) ++ r
            simp
          · show _ = 7 :: (uvB t.size ++ byI t) ++ r
            simp
      rw [if_neg k6] at h
      by_cases k8 : k = 8 ∨ k = 9
      · rw [if_pos k8] at h
        cases hu : rdC l with
        | bad e => rw [hu] at h; cases h
        | ok n r' =>
          rw [hu] at h
          simp only at h
          obtain ⟨rfl, -⟩ := rdC_can hb1 hu
          cases hk : rdK (rdV m) (decide (k = 9)) n [] [] r' with
          | bad e => rw [hk] at h; cases h
          | ok p r2 =>
            rw [hk] at h
            cases h
            obtain ⟨ns, ks, rfl, e1, e2, e3, e4⟩ := rdK_can (decide (k = 9)) ih (suf_rdV m) n [] [] r' r p hb1.right hk
            simp only [List.nil_append, V.kids] at hkid ⊢
            rw [e4 hkid]
            subst e1
            have he : encV (m + 1) (.mk k 0 0 noT ns ks) = k :: (uvB ks.length ++ (List.range ks.length).flatMap (pieceE (encV m) (decide (k = 9)) ns ks)) := by
              rcases k8 with rfl | rfl <;> rfl
            rw [he, encK_range]
            simp
      · rw [if_neg k8] at h; cases h
where
  shp_form_k {v : V} (h : shp v = 0) : (v.k = 5 → 0 ≤ v.n ∧ v.n ≤ 9007199254740992) ∧ True := by
    refine ⟨fun e => ?_, trivial⟩
    rcases shp_full h with ⟨h1, _⟩ | ⟨h1, _, _⟩ | ⟨h1, _⟩ | ⟨h1, _, _⟩ | ⟨h1, _, h2, h3⟩ | ⟨h1, _⟩ | ⟨h1, _⟩ | ⟨h1, _⟩
    all_goals first | exact ⟨h2, h3⟩ | omega
end K
end Go.Proofs.Ytdkkaliiofcflaa

/- Numbers as bytes (chapter 1): Uvarint and Zig, the program's and the document's. -/
namespace Go.Proofs.Ytdkkaliiofcflaa
open Go.RowKit
namespace K

theorem uvF_len : ∀ (f u : Nat), (uvF f u).length ≤ f
  | 0, _ => by simp [uvF]
  | f + 1, u => by
    unfold uvF
    split
    · simp
    · simp [uvF_len f (u / 128)]
theorem or128 : ∀ x : Nat, x < 256 → bits .or .u8 (x : Int) 128 = ((x % 128 + 128 : Nat) : Int) := by decide +kernel
theorem and127 (u : Nat) (h : u < 18446744073709551616) : bits .and .u64 (u : Int) 127 = ((u % 128 : Nat) : Int) := by
  have h := bits_and_u64_nat u 127 h (by omega)
  have e : u &&& 127 = u % 128 := Nat.and_two_pow_sub_one_eq_mod u 7
  rw [e] at h
  exact h
theorem shr7 (u : Nat) : (u : Int) / ((2 ^ min 7 IntKind.u64.bits : Nat) : Int) = ((u / 128 : Nat) : Int) := by
  rw [show ((2 ^ min 7 IntKind.u64.bits : Nat) : Int) = 128 from rfl]; omega

theorem uvarint_any (u : Nat) (hu : u < 18446744073709551616) (w : World) :
    Calls Try.prog 43 #[.int .u64 u] w fun e w' => ∃ b, e = .returned b ∧ Bu w' b (uvB u) ∧ Below w.heap.size w w' ∧ ∀ g, b.ownBlock = some g → w.heap.size ≤ g := by
  refine enter (args := [.int .u64 u]) Try.func43 rfl Try.ntmps43 rfl ?_
  have h1 : u < 2 * 128 ^ 9 := by omega
  have h2 : uvB u = [] ++ uvF (9 + 1) u := by rw [List.nil_append]; rfl
  repeat (first | ((with_reducible refine WL.topT ?_ ?_); omega) | ((with_reducible refine WL.topF ?_ ?_); omega) | ((with_reducible refine WL.top64 ?_ ?_); omega) | refine WC.seq ?_ | refine WC.block ?_ | refine WC.region ?_ | refine WL.nil ?_ | refine WC.skip ?_ | refine WC.exit ?_ | refine WC.ret ?_ | refine WQ.then rfl ?_ | refine WQ.thenExit ?_ | refine WQ.thenRet ?_ | refine WQ.blk ?_ | refine WQ.blkRet ?_ | refine WQ.blkHere rfl ?_ | refine WQ.blkOther rfl ?_ | refine WL.pure rfl rfl rfl rfl ?_ | refine WL.on rfl rfl ?_ | refine WL.off rfl rfl rfl ?_ | refine WC.condTrue rfl ?_ | refine WC.condFalse rfl ?_)
  refine WC.loop (fun i : Nat × Nat × List Int × Value => [(0, .int .u64 i.2.1), (3, i.2.2.2)])
    (fun i w' => i.2.1 < 2 * 128 ^ i.1 ∧ i.1 ≤ 9 ∧ uvB u = i.2.2.1 ++ uvF (i.1 + 1) i.2.1 ∧ i.2.2.1.length ≤ 9 ∧ Bu w' i.2.2.2 i.2.2.1 ∧ Grow w (.slice none 0 0) w' i.2.2.2) (fun i => i.1) (9, u, [], .slice none 0 0) ⟨rfl, rfl, trivial⟩ ⟨h1, Nat.le_refl 9, h2, Nat.zero_le 9, Bu.nil w, Grow.refl _ _⟩ ?_
  rintro ⟨f, c, A, v⟩ wr ⟨hc, hf, hA, hl, hb, hg⟩
  simp only at hc hf hA hl hb hg ⊢
  have hle : (128 : Nat) ^ f ≤ 128 ^ 9 := Nat.pow_le_pow_right (by decide) hf
  by_cases h : c < 128
  · have hw : IntKind.u8.wrap (c : Int) = (c : Int) := by rw [IntKind.wrap_u8]; omega
    have hfin : uvF (f + 1) c = [(c : Int)] := by rw [uvF, if_pos h]
    repeat (first | ((with_reducible refine WL.topT ?_ ?_); omega) | ((with_reducible refine WL.topF ?_ ?_); omega) | ((with_reducible refine WL.top64 ?_ ?_); omega) | refine WC.seq ?_ | refine WC.block ?_ | refine WC.region ?_ | refine WL.nil ?_ | refine WC.skip ?_ | refine WC.exit ?_ | refine WC.ret ?_ | refine WQ.then rfl ?_ | refine WQ.thenExit ?_ | refine WQ.thenRet ?_ | refine WQ.blk ?_ | refine WQ.blkRet ?_ | refine WQ.blkHere rfl ?_ | refine WQ.blkOther rfl ?_ | refine WL.pure rfl rfl rfl rfl ?_ | refine WL.on rfl rfl ?_ | refine WL.off rfl rfl rfl ?_ | refine WC.condTrue rfl ?_ | refine WC.condFalse rfl ?_)
    refine WL.push rfl rfl rfl rfl rfl rfl rfl rfl rfl rfl rfl (fun _ => rfl) rfl hb (by simp only [List.length_cons, List.length_nil]; omega) fun b2 w2 hb2 hg2 => ?_
    repeat (first | ((with_reducible refine WL.topT ?_ ?_); omega) | ((with_reducible refine WL.topF ?_ ?_); omega) | ((with_reducible refine WL.top64 ?_ ?_); omega) | refine WC.seq ?_ | refine WC.block ?_ | refine WC.region ?_ | refine WL.nil ?_ | refine WC.skip ?_ | refine WC.exit ?_ | refine WC.ret ?_ | refine WQ.then rfl ?_ | refine WQ.thenExit ?_ | refine WQ.thenRet ?_ | refine WQ.blk ?_ | refine WQ.blkRet ?_ | refine WQ.blkHere rfl ?_ | refine WQ.blkOther rfl ?_ | refine WL.pure rfl rfl rfl rfl ?_ | refine WL.on rfl rfl ?_ | refine WL.off rfl rfl rfl ?_ | refine WC.condTrue rfl ?_ | refine WC.condFalse rfl ?_)
    have hg3 := hg.trans hg2
    refine WQ.ret1 rfl rfl ⟨b2, rfl, ?_, hg3.old (Nat.le_refl _) (fun g h => by cases h), hg3.own (Nat.le_refl _) (fun g h => by cases h)⟩
    rw [hw] at hb2
    rw [hA, hfin]
    exact hb2
  · obtain ⟨f, rfl⟩ : ∃ f', f = f' + 1 := ⟨f - 1, by
      cases f with
      | zero => simp at hc; omega
      | succ f => rfl⟩
    have hbig : uvF (f + 1 + 1) c = ((c % 128 + 128 : Nat) : Int) :: uvF (f + 1) (c / 128) := uvF_big (by omega)
    have hw : bits .or .u8 (IntKind.u8.wrap (c : Int)) 128 = ((c % 128 + 128 : Nat) : Int) := by
      have := or128 (c % 256) (by omega)
      rw [IntKind.wrap_u8, show (c : Int) % 256 = ((c % 256 : Nat) : Int) by omega, this]; omega
    repeat (first | ((with_reducible refine WL.topT ?_ ?_); omega) | ((with_reducible refine WL.topF ?_ ?_); omega) | ((with_reducible refine WL.top64 ?_ ?_); omega) | refine WC.seq ?_ | refine WC.block ?_ | refine WC.region ?_ | refine WL.nil ?_ | refine WC.skip ?_ | refine WC.exit ?_ | refine WC.ret ?_ | refine WQ.then rfl ?_ | refine WQ.thenExit ?_ | refine WQ.thenRet ?_ | refine WQ.blk ?_ | refine WQ.blkRet ?_ | refine WQ.blkHere rfl ?_ | refine WQ.blkOther rfl ?_ | refine WL.pure rfl rfl rfl rfl ?_ | refine WL.on rfl rfl ?_ | refine WL.off rfl rfl rfl ?_ | refine WC.condTrue rfl ?_ | refine WC.condFalse rfl ?_)
    refine WL.push rfl rfl rfl rfl rfl rfl rfl rfl rfl rfl rfl (fun _ => rfl) rfl hb (by simp only [List.length_cons, List.length_nil]; omega) fun b2 w2 hb2 hg2 => ?_
    rw [hw] at hb2
    repeat (first | ((with_reducible refine WL.topT ?_ ?_); omega) | ((with_reducible refine WL.topF ?_ ?_); omega) | ((with_reducible refine WL.top64 ?_ ?_); omega) | refine WC.seq ?_ | refine WC.block ?_ | refine WC.region ?_ | refine WL.nil ?_ | refine WC.skip ?_ | refine WC.exit ?_ | refine WC.ret ?_ | refine WQ.then rfl ?_ | refine WQ.thenExit ?_ | refine WQ.thenRet ?_ | refine WQ.blk ?_ | refine WQ.blkRet ?_ | refine WQ.blkHere rfl ?_ | refine WQ.blkOther rfl ?_ | refine WL.pure rfl rfl rfl rfl ?_ | refine WL.on rfl rfl ?_ | refine WL.off rfl rfl rfl ?_ | refine WC.condTrue rfl ?_ | refine WC.condFalse rfl ?_)
    refine WQ.again (f, c / 128, A ++ [((c % 128 + 128 : Nat) : Int)], b2) ⟨congrArg (fun z => some (Value.int .u64 z)) (shr7 c), rfl, trivial⟩
      ⟨by rw [Nat.pow_succ] at hc; show c / 128 < 2 * 128 ^ f; omega, by show f ≤ 9; omega, by show uvB u = A ++ [((c % 128 + 128 : Nat) : Int)] ++ uvF (f + 1) (c / 128); rw [hA, hbig]; simp, ?_, hb2, hg.trans hg2⟩ (by show f < f + 1; omega)
    show (A ++ [((c % 128 + 128 : Nat) : Int)]).length ≤ 9
    have := congrArg List.length hA
    rw [List.length_append, hbig, List.length_cons] at this
    have h10 : (uvB u).length ≤ 10 := uvF_len 10 u
    have h1 : 1 ≤ (uvF (f + 1) (c / 128)).length := by unfold uvF; split <;> simp
    rw [List.length_append]; simp only [List.length_cons, List.length_nil]; omega
end K
end Go.Proofs.Ytdkkaliiofcflaa

/- The CRC-32 (chapter 1): the program's Sum. -/
namespace Go.Proofs.Ytdkkaliiofcflaa
open Go.RowKit
namespace K
theorem xor32 (c : BitVec 32) (x : Int) : bits .xor .u32 (c.toNat : Int) x = ((c ^^^ BitVec.ofInt 32 x).toNat : Int) := by
  show IntKind.u32.wrap ((BitVec.ofInt 32 (c.toNat : Int) ^^^ BitVec.ofInt 32 x).toNat : Int) = _
  have h := (c ^^^ BitVec.ofInt 32 x).isLt
  rw [BitVec.ofInt_natCast, BitVec.ofNat_toNat, BitVec.setWidth_eq, IntKind.wrap_u32]
  omega
theorem and15_32 (c : BitVec 32) : bits .and .u32 (c.toNat : Int) 15 = ((c.toNat % 16 : Nat) : Int) := by
  have h := c.isLt
  have := Go.bits_mask .u32 32 (by decide) (fun n h0 h1 => by rw [IntKind.wrap_u32]; omega) 4 (by decide) (c.toNat : Int) (by omega) (by omega)
  rw [show ((2 : Int) ^ 4 - 1) = 15 by decide, show ((2 : Int) ^ 4) = 16 by decide] at this
  omega
theorem nib32 (c : BitVec 32) : bits .xor .u32 ((c.toNat : Int) / ((2 ^ min 4 IntKind.u32.bits : Nat) : Int)) ((Crc.tab.getD (c.toNat % 16) 0 : Nat) : Int) = ((Crc.nib c).toNat : Int) := by
  have h := c.isLt
  have e : ((c.toNat : Int) / ((2 ^ min 4 IntKind.u32.bits : Nat) : Int)) = ((c >>> 4).toNat : Int) := by
    rw [show ((2 ^ min 4 IntKind.u32.bits : Nat) : Int) = 16 from rfl, BitVec.toNat_ushiftRight, Nat.shiftRight_eq_div_pow]
    omega
  rw [e, xor32, BitVec.ofInt_natCast]
  rfl
def tabC : List Value := Crc.tab.map fun (n : Nat) => Value.int .u32 (n : Int)
theorem tab_cell {w : World} {g : Nat} {T : TypeId} (h : VBlk T w g tabC) (k : Nat) (hk : k < 16) : w.cell? ⟨g, k, none⟩ = some (.int .u32 ((Crc.tab.getD k 0 : Nat) : Int)) := by
  have hr : w.rangeAt g 0 tabC := VBlk.rangeAt h
  have := hr k (.int .u32 ((Crc.tab.getD k 0 : Nat) : Int)) (by
    unfold tabC
    have : k < Crc.tab.length := hk
    simp [this])
  simpa using this
theorem nth_mem' (l : List Int) (i : Nat) (h : i < l.length) : nth l i ∈ l := by simp [nth, h]
theorem take_succ' (l : List Int) (i : Nat) (h : i < l.length) : l.take (i + 1) = l.take i ++ [nth l i] := by rw [List.take_add_one]; simp [nth, h]
theorem sum_any {w : World} {v : Value} {l : List Int} (hv : Sl .u8 w v l) (hb : ∀ c ∈ l, 0 ≤ c ∧ c ≤ 255) (hl : l.length ≤ 140737488355328) :
    Calls Try.prog 49 #[v] w fun e w' => e = .returned (.int .u32 (Crc.crcN l : Nat)) ∧ Below w.heap.size w w' := by
  obtain ⟨sp, cap, rfl, -⟩ := id hv
  refine enter (args := [.slice sp l.length cap]) Try.func49 rfl Try.ntmps49 rfl ?_
  repeat (first | ((with_reducible refine WL.topT ?_ ?_); omega) | ((with_reducible refine WL.topF ?_ ?_); omega) | ((with_reducible refine WL.top64 ?_ ?_); omega) | refine WC.seq ?_ | refine WC.block ?_ | refine WC.region ?_ | refine WL.nil ?_ | refine WC.skip ?_ | refine WC.exit ?_ | refine WC.ret ?_ | refine WQ.then rfl ?_ | refine WQ.thenExit ?_ | refine WQ.thenRet ?_ | refine WQ.blk ?_ | refine WQ.blkRet ?_ | refine WQ.blkHere rfl ?_ | refine WQ.blkOther rfl ?_ | refine WL.pure rfl rfl rfl rfl ?_ | refine WL.on rfl rfl ?_ | refine WL.off rfl rfl rfl ?_ | refine WC.condTrue rfl ?_ | refine WC.condFalse rfl ?_)
  refine WL.build tabC rfl rfl rfl rfl rfl (by kernel_rfl) ?_
  refine WL.alloc (z := .agg (List.replicate 16 (Value.int .u32 0)).toArray) rfl rfl rfl rfl (fun _ => by kernel_rfl) fun g w1 hf0 => ?_
  have hf : Fresh w g w1 112 (List.replicate 16 (Value.int .u32 0)) := hf0
  clear hf0
  repeat (first | ((with_reducible refine WL.topT ?_ ?_); omega) | ((with_reducible refine WL.topF ?_ ?_); omega) | ((with_reducible refine WL.top64 ?_ ?_); omega) | refine WC.seq ?_ | refine WC.block ?_ | refine WC.region ?_ | refine WL.nil ?_ | refine WC.skip ?_ | refine WC.exit ?_ | refine WC.ret ?_ | refine WQ.then rfl ?_ | refine WQ.thenExit ?_ | refine WQ.thenRet ?_ | refine WQ.blk ?_ | refine WQ.blkRet ?_ | refine WQ.blkHere rfl ?_ | refine WQ.blkOther rfl ?_ | refine WL.pure rfl rfl rfl rfl ?_ | refine WL.on rfl rfl ?_ | refine WL.off rfl rfl rfl ?_ | refine WC.condTrue rfl ?_ | refine WC.condFalse rfl ?_)
  refine WL.storeRow rfl rfl rfl rfl rfl rfl hf.blk rfl rfl (by intro u hu; unfold tabC at hu; simp only [List.mem_map] at hu; obtain ⟨a, -, rfl⟩ := hu; rfl) ?_
  have hB : Below w.heap.size w (w1.setRow g tabC.toArray) := below_setRow hf.below (by have := hf.eq; omega) _
  have hT := hf.blk.setRow tabC
  have hsl : Sl .u8 (w1.setRow g tabC.toArray) (.slice sp l.length cap) l := hv.of_below hB
  generalize w1.setRow g tabC.toArray = w2 at hB hT hsl ⊢
  clear hf hv
  repeat (first | ((with_reducible refine WL.topT ?_ ?_); omega) | ((with_reducible refine WL.topF ?_ ?_); omega) | ((with_reducible refine WL.top64 ?_ ?_); omega) | refine WC.seq ?_ | refine WC.block ?_ | refine WC.region ?_ | refine WL.nil ?_ | refine WC.skip ?_ | refine WC.exit ?_ | refine WC.ret ?_ | refine WQ.then rfl ?_ | refine WQ.thenExit ?_ | refine WQ.thenRet ?_ | refine WQ.blk ?_ | refine WQ.blkRet ?_ | refine WQ.blkHere rfl ?_ | refine WQ.blkOther rfl ?_ | refine WL.pure rfl rfl rfl rfl ?_ | refine WL.on rfl rfl ?_ | refine WL.off rfl rfl rfl ?_ | refine WC.condTrue rfl ?_ | refine WC.condFalse rfl ?_)
  refine WC.loop (fun i : Nat × BitVec 32 => [(3, .pointer (some ⟨g, 0, none⟩)), (4, .int .u32 (i.2.toNat : Int)), (8, .slice sp l.length cap), (9, .int .i64 l.length), (10, .int .i64 i.1)])
    (fun i w' => i.1 ≤ l.length ∧ i.2 = Crc.run 0xffffffff#32 (l.take i.1) ∧ w' = w2) (fun i => l.length - i.1) (0, 0xffffffff#32) ⟨rfl, rfl, rfl, rfl, rfl, trivial⟩ ⟨Nat.zero_le _, rfl, rfl⟩ ?_
  rintro ⟨i, c⟩ _ ⟨hi, hc, rfl⟩
  simp only at hi hc ⊢
  by_cases h : i < l.length
  · have hbc := hb (nth l i) (nth_mem' l i h)
    have hu : IntKind.u32.wrap (nth l i) = nth l i := by rw [IntKind.wrap_u32]; omega
    repeat (first | ((with_reducible refine WL.topT ?_ ?_); omega) | ((with_reducible refine WL.topF ?_ ?_); omega) | ((with_reducible refine WL.top64 ?_ ?_); omega) | refine WC.seq ?_ | refine WC.block ?_ | refine WC.region ?_ | refine WL.nil ?_ | refine WC.skip ?_ | refine WC.exit ?_ | refine WC.ret ?_ | refine WQ.then rfl ?_ | refine WQ.thenExit ?_ | refine WQ.thenRet ?_ | refine WQ.blk ?_ | refine WQ.blkRet ?_ | refine WQ.blkHere rfl ?_ | refine WQ.blkOther rfl ?_ | refine WL.pure rfl rfl rfl rfl ?_ | refine WL.on rfl rfl ?_ | refine WL.off rfl rfl rfl ?_ | refine WC.condTrue rfl ?_ | refine WC.condFalse rfl ?_)
    refine WL.idxI i rfl rfl rfl rfl rfl rfl hsl rfl rfl h fun p hp => ?_
    repeat (first | ((with_reducible refine WL.topT ?_ ?_); omega) | ((with_reducible refine WL.topF ?_ ?_); omega) | ((with_reducible refine WL.top64 ?_ ?_); omega) | refine WC.seq ?_ | refine WC.block ?_ | refine WC.region ?_ | refine WL.nil ?_ | refine WC.skip ?_ | refine WC.exit ?_ | refine WC.ret ?_ | refine WQ.then rfl ?_ | refine WQ.thenExit ?_ | refine WQ.thenRet ?_ | refine WQ.blk ?_ | refine WQ.blkRet ?_ | refine WQ.blkHere rfl ?_ | refine WQ.blkOther rfl ?_ | refine WL.pure rfl rfl rfl rfl ?_ | refine WL.on rfl rfl ?_ | refine WL.off rfl rfl rfl ?_ | refine WL.load rfl rfl rfl rfl rfl rfl (by assumption) ?_ | refine WC.condTrue rfl ?_ | refine WC.condFalse rfl ?_)
    have e1 : bits .xor .u32 (c.toNat : Int) (IntKind.u32.wrap (nth l i)) = ((c ^^^ BitVec.ofInt 32 (nth l i)).toNat : Int) := by rw [hu]; exact xor32 c _
    have hnext : Crc.run 0xffffffff#32 (l.take (i + 1)) = Crc.nib (Crc.nib (c ^^^ BitVec.ofInt 32 (nth l i))) := by
      rw [take_succ' l i h, Crc.run_app, ← hc, ← Crc.step8_nib]; rfl
    generalize hd : c ^^^ BitVec.ofInt 32 (nth l i) = d at e1 hnext
    have hd16 : d.toNat % 16 < 16 := by omega
    have hn16 : (Crc.nib d).toNat % 16 < 16 := by omega
    refine WL.as 4 (.int .u32 (d.toNat : Int)) rfl (congrArg (Value.int .u32) e1) ?_
    refine WL.as 19 (.int .u32 ((d.toNat : Int) / ((2 ^ min 4 IntKind.u32.bits : Nat) : Int))) rfl (congrArg (fun z => Value.int .u32 (z / ((2 ^ min 4 IntKind.u32.bits : Nat) : Int))) e1) ?_
    refine WL.as 21 (.int .u32 ((d.toNat % 16 : Nat) : Int)) rfl (by rw [e1, and15_32]) ?_
    refine WL.idxA (d.toNat % 16) (d.toNat % 16) rfl rfl rfl rfl rfl rfl rfl rfl hd16 (by omega) ?_
    have hcell := tab_cell hT (d.toNat % 16) hd16
    repeat (first | ((with_reducible refine WL.topT ?_ ?_); omega) | ((with_reducible refine WL.topF ?_ ?_); omega) | ((with_reducible refine WL.top64 ?_ ?_); omega) | refine WC.seq ?_ | refine WC.block ?_ | refine WC.region ?_ | refine WL.nil ?_ | refine WC.skip ?_ | refine WC.exit ?_ | refine WC.ret ?_ | refine WQ.then rfl ?_ | refine WQ.thenExit ?_ | refine WQ.thenRet ?_ | refine WQ.blk ?_ | refine WQ.blkRet ?_ | refine WQ.blkHere rfl ?_ | refine WQ.blkOther rfl ?_ | refine WL.pure rfl rfl rfl rfl ?_ | refine WL.on rfl rfl ?_ | refine WL.off rfl rfl rfl ?_ | refine WL.load rfl rfl rfl rfl rfl rfl (by assumption) ?_ | refine WC.condTrue rfl ?_ | refine WC.condFalse rfl ?_)
    refine WL.as 4 (.int .u32 ((Crc.nib d).toNat : Int)) rfl (congrArg (Value.int .u32) (nib32 d)) ?_
    refine WL.as 26 (.int .u32 (((Crc.nib d).toNat : Int) / ((2 ^ min 4 IntKind.u32.bits : Nat) : Int))) rfl (congrArg (fun z => Value.int .u32 (z / ((2 ^ min 4 IntKind.u32.bits : Nat) : Int))) (nib32 d)) ?_
    refine WL.as 28 (.int .u32 (((Crc.nib d).toNat % 16 : Nat) : Int)) rfl (by rw [nib32, and15_32]) ?_
    refine WL.idxA ((Crc.nib d).toNat % 16) ((Crc.nib d).toNat % 16) rfl rfl rfl rfl rfl rfl rfl rfl hn16 (by omega) ?_
    have hcell2 := tab_cell hT ((Crc.nib d).toNat % 16) hn16
    repeat (first | ((with_reducible refine WL.topT ?_ ?_); omega) | ((with_reducible refine WL.topF ?_ ?_); omega) | ((with_reducible refine WL.top64 ?_ ?_); omega) | refine WC.seq ?_ | refine WC.block ?_ | refine WC.region ?_ | refine WL.nil ?_ | refine WC.skip ?_ | refine WC.exit ?_ | refine WC.ret ?_ | refine WQ.then rfl ?_ | refine WQ.thenExit ?_ | refine WQ.thenRet ?_ | refine WQ.blk ?_ | refine WQ.blkRet ?_ | refine WQ.blkHere rfl ?_ | refine WQ.blkOther rfl ?_ | refine WL.pure rfl rfl rfl rfl ?_ | refine WL.on rfl rfl ?_ | refine WL.off rfl rfl rfl ?_ | refine WL.load rfl rfl rfl rfl rfl rfl (by assumption) ?_ | refine WC.condTrue rfl ?_ | refine WC.condFalse rfl ?_)
    refine WQ.again (i + 1, Crc.nib (Crc.nib d)) ⟨rfl, congrArg (fun z => some (Value.int .u32 z)) (nib32 (Crc.nib d)), rfl, rfl, rfl, trivial⟩ ⟨by show i + 1 ≤ l.length; omega, hnext.symm, rfl⟩ (by show l.length - (i + 1) < l.length - i; omega)
  · have hfin : bits .xor .u32 (if IntKind.u32.signed = true then -1 else IntKind.u32.max) (c.toNat : Int) = ((Crc.crcN l : Nat) : Int) := by
      rw [List.take_of_length_le (by omega)] at hc
      show bits .xor .u32 4294967295 (c.toNat : Int) = ((Crc.sum l).toNat : Int)
      have := xor32 0xffffffff#32 (c.toNat : Int)
      rw [show (((0xffffffff#32).toNat : Nat) : Int) = 4294967295 from rfl] at this
      rw [this, BitVec.ofInt_natCast, BitVec.ofNat_toNat, BitVec.setWidth_eq]
      unfold Crc.sum
      rw [← hc, show (0xffffffff#32 : BitVec 32) = BitVec.allOnes 32 by decide, BitVec.allOnes_xor]
    repeat (first | ((with_reducible refine WL.topT ?_ ?_); omega) | ((with_reducible refine WL.topF ?_ ?_); omega) | ((with_reducible refine WL.top64 ?_ ?_); omega) | refine WC.seq ?_ | refine WC.block ?_ | refine WC.region ?_ | refine WL.nil ?_ | refine WC.skip ?_ | refine WC.exit ?_ | refine WC.ret ?_ | refine WQ.then rfl ?_ | refine WQ.thenExit ?_ | refine WQ.thenRet ?_ | refine WQ.blk ?_ | refine WQ.blkRet ?_ | refine WQ.blkHere rfl ?_ | refine WQ.blkOther rfl ?_ | refine WL.pure rfl rfl rfl rfl ?_ | refine WL.on rfl rfl ?_ | refine WL.off rfl rfl rfl ?_ | refine WC.condTrue rfl ?_ | refine WC.condFalse rfl ?_)
    exact WQ.ret1 (v := .int .u32 (Crc.crcN l : Nat)) rfl (congrArg (fun z => some (Value.int .u32 z)) hfin) ⟨rfl, hB⟩
end K
end Go.Proofs.Ytdkkaliiofcflaa

/- Frames (chapter 4): what they are, when they are read; no program in sight. -/
namespace Go.Proofs.Ytdkkaliiofcflaa
namespace Frm
open Crc
abbrev Byt (l : List Int) : Prop := ∀ c ∈ l, 0 ≤ c ∧ c ≤ 255
def headF (n : Nat) : List Int := be4 n ++ be4 (crcN (be4 n))
def frameL (p : List Int) : List Int := headF p.length ++ (p ++ be4 (crcN (headF p.length ++ p)))
/-- What Decode tells: an error, what the frame holds, how long it is. -/
def decF (l : List Int) : Int × List Int × Nat :=
  if l.length < 8 then (2, [], 0)
  else if num4 (l.drop 4) ≠ crcN (be4 (num4 l)) then (4, [], 0)
  else if 524288 < num4 l then (5, [], 0)
  else if l.length < num4 l + 12 then (2, [], 0)
  else if num4 (l.drop (8 + num4 l)) ≠ crcN (l.take (8 + num4 l)) then (4, [], 0)
  else (0, (l.take (8 + num4 l)).drop 8, num4 l + 12)
theorem headF_len (n : Nat) : (headF n).length = 8 := rfl
theorem frameL_len (p : List Int) : (frameL p).length = p.length + 12 := by
  unfold frameL
  rw [List.length_append, headF_len, List.length_append]
  show 8 + (p.length + 4) = _
  omega
theorem num4_head {n : Nat} (h : n < 4294967296) (r : List Int) : num4 (headF n ++ r) = n := by
  unfold headF
  rw [List.append_assoc]
  exact num4_be4 h _
theorem num4_sum (n : Nat) (r : List Int) : num4 ((headF n ++ r).drop 4) = crcN (be4 n) := by
  show num4 (be4 (crcN (be4 n)) ++ r) = _
  exact num4_be4 (crcN_lt _) r
theorem four {X : List Int} (h : X.length = 4) : ∃ a b c d, X = [a, b, c, d] := by
  match X, h with
  | [a, b, c, d], _ => exact ⟨a, b, c, d, rfl⟩
theorem num4_inj {X Y r r' : List Int} (hx : X.length = 4) (hy : Y.length = 4) (bx : Byt X) (bY : Byt Y) (h : num4 (X ++ r) = num4 (Y ++ r')) : X = Y := by
  obtain ⟨a, b, c, d, rfl⟩ := four hx
  obtain ⟨a', b', c', d', rfl⟩ := four hy
  have h1 := (be4_num4 (bx a (by simp)) (bx b (by simp)) (bx c (by simp)) (bx d (by simp)) r).1
  have h2 := (be4_num4 (bY a' (by simp)) (bY b' (by simp)) (bY c' (by simp)) (bY d' (by simp)) r').1
  have h3 : num4 (a :: b :: c :: d :: r) = num4 (a' :: b' :: c' :: d' :: r') := h
  rw [← h1, h3, h2]
theorem be4_of {X r : List Int} (hx : X.length = 4) (bx : Byt X) : be4 (num4 (X ++ r)) = X := by
  obtain ⟨a, b, c, d, rfl⟩ := four hx
  exact (be4_num4 (bx a (by simp)) (bx b (by simp)) (bx c (by simp)) (bx d (by simp)) r).1
theorem set_ne {X : List Int} {k : Nat} {y : Int} (hk : k < X.length) (h : y ≠ X.getD k 0) : X.set k y ≠ X := fun e => by
  have := congrArg (fun l => l.getD k 0) e
  simp only [List.getD_eq_getElem?_getD, List.getElem?_set, hk, if_pos] at this
  rw [List.getD_eq_getElem?_getD] at h
  exact h (by simpa using this)
theorem set_byt {X : List Int} {k : Nat} {y : Int} (hX : Byt X) (hy : 0 ≤ y ∧ y ≤ 255) : Byt (X.set k y) := fun c hc => (List.mem_or_eq_of_mem_set hc).elim (hX c) fun e => by rw [e]; exact hy
theorem crcN_set {X : List Int} {k : Nat} {y : Int} (hk : k < X.length) (hX : Byt X) (hy : 0 ≤ y ∧ y ≤ 255) (h : y ≠ X.getD k 0) : crcN (X.set k y) ≠ crcN X := by
  have e1 : X.set k y = X.take k ++ (y :: X.drop (k + 1)) := List.set_eq_take_append_cons_drop .. |>.trans (if_pos hk)
  have e2 : X = X.take k ++ (X.getD k 0 :: X.drop (k + 1)) := by
    rw [show X.getD k 0 = X[k] by simp [hk], ← List.drop_eq_getElem_cons hk, List.take_append_drop]
  rw [e1]
  conv => rhs; rw [e2]
  refine crcN_one hy (hX _ ?_) h
  simp [hk]
theorem decF_enc {p : List Int} (hp : p.length ≤ 524288) (r : List Int) : decF (frameL p ++ r) = (0, p, p.length + 12) := by
  have e1 : frameL p ++ r = headF p.length ++ (p ++ (be4 (crcN (headF p.length ++ p)) ++ r)) := by unfold frameL; simp [List.append_assoc]
  have hl : (frameL p ++ r).length = p.length + 12 + r.length := by rw [List.length_append, frameL_len]
  have h1 : num4 (frameL p ++ r) = p.length := by rw [e1]; exact num4_head (by omega) _
  have h2 : num4 ((frameL p ++ r).drop 4) = crcN (be4 p.length) := by rw [e1]; exact num4_sum _ _
  have e2 : frameL p ++ r = (headF p.length ++ p) ++ (be4 (crcN (headF p.length ++ p)) ++ r) := by rw [e1, List.append_assoc]
  have h8 : (headF p.length ++ p).length = 8 + p.length := by rw [List.length_append, headF_len]
  have h3 : (frameL p ++ r).take (8 + p.length) = headF p.length ++ p := by rw [e2, ← h8, List.take_left']; rfl
  have h4 : num4 ((frameL p ++ r).drop (8 + p.length)) = crcN (headF p.length ++ p) := by
    rw [e2, ← h8, List.drop_left' rfl]
    exact num4_be4 (crcN_lt _) r
  unfold decF
  rw [if_neg (by omega), h1, if_neg (by rw [h2]; simp), if_neg (by omega), if_neg (by omega), if_neg (by rw [h4, h3]; simp), h3]
  rfl
/-- A frame that is cut short is refused. -/
theorem decF_cut {p : List Int} (hp : p.length ≤ 524288) {k : Nat} (hk : k < (frameL p).length) : (decF ((frameL p).take k)).1 = 2 := by
  have hl := frameL_len p
  have hlt : ((frameL p).take k).length = k := by rw [List.length_take]; omega
  unfold decF
  by_cases h8 : k < 8
  · rw [if_pos (by omega)]
  have e1 : (frameL p).take k = headF p.length ++ ((p ++ be4 (crcN (headF p.length ++ p))).take (k - 8)) := by
    unfold frameL
    rw [List.take_append, List.take_of_length_le (by rw [headF_len]; omega), headF_len]
  have h1 : num4 ((frameL p).take k) = p.length := by rw [e1]; exact num4_head (by omega) _
  have h2 : num4 (((frameL p).take k).drop 4) = crcN (be4 p.length) := by rw [e1]; exact num4_sum _ _
  rw [if_neg (by omega), h1, if_neg (by rw [h2]; simp), if_neg (by omega), if_pos (by omega)]
/-- A frame of which one byte is another one is refused. -/
theorem decF_one {p : List Int} (hp : p.length ≤ 524288) (hb : Byt p) {k : Nat} {y : Int} (hk : k < (frameL p).length) (hy : 0 ≤ y ∧ y ≤ 255) (hne : y ≠ (frameL p).getD k 0) : (decF ((frameL p).set k y)).1 = 4 := by
  have hl := frameL_len p
  have hls : ((frameL p).set k y).length = p.length + 12 := by rw [List.length_set, hl]
  have hB1 := be4_byt p.length
  have hB2 := be4_byt (crcN (be4 p.length))
  have hB3 := be4_byt (crcN (headF p.length ++ p))
  have hHb : Byt (headF p.length) := fun c hc => by
    unfold headF at hc
    exact (List.mem_append.1 hc).elim (hB1 c) (hB2 c)
  by_cases k4 : k < 4
  · have e0 : frameL p = be4 p.length ++ (be4 (crcN (be4 p.length)) ++ (p ++ be4 (crcN (headF p.length ++ p)))) := by unfold frameL headF; simp [List.append_assoc]
    have e1 : (frameL p).set k y = (be4 p.length).set k y ++ (be4 (crcN (be4 p.length)) ++ (p ++ be4 (crcN (headF p.length ++ p)))) := by
      rw [e0, List.set_append_left _ _ (show k < (be4 p.length).length from k4)]
    have hne' : y ≠ (be4 p.length).getD k 0 := by
      rw [e0, List.getD_eq_getElem?_getD, List.getElem?_append_left (show k < (be4 p.length).length from k4), ← List.getD_eq_getElem?_getD] at hne
      exact hne
    have hl4 : ((be4 p.length).set k y).length = 4 := by rw [List.length_set]; rfl
    have h1 : be4 (num4 ((frameL p).set k y)) = (be4 p.length).set k y := by rw [e1]; exact be4_of hl4 (set_byt hB1 hy)
    have h2 : num4 (((frameL p).set k y).drop 4) = crcN (be4 p.length) := by
      rw [e1, ← hl4, List.drop_left' rfl]
      exact num4_be4 (crcN_lt _) _
    unfold decF
    rw [if_neg (by omega), if_pos]
    rw [h1, h2]
    exact fun e => crcN_set (show k < (be4 p.length).length from k4) hB1 hy hne' e.symm
  by_cases k8 : k < 8
  · have e0 : frameL p = be4 p.length ++ (be4 (crcN (be4 p.length)) ++ (p ++ be4 (crcN (headF p.length ++ p)))) := by unfold frameL headF; simp [List.append_assoc]
    have hk2 : k - 4 < (be4 (crcN (be4 p.length))).length := by show k - 4 < 4; omega
    have e1 : (frameL p).set k y = be4 p.length ++ ((be4 (crcN (be4 p.length))).set (k - 4) y ++ (p ++ be4 (crcN (headF p.length ++ p)))) := by
      rw [e0, List.set_append_right _ _ (show (be4 p.length).length ≤ k by show 4 ≤ k; omega)]
      show be4 p.length ++ (be4 (crcN (be4 p.length)) ++ (p ++ be4 (crcN (headF p.length ++ p)))).set (k - 4) y = _
      rw [List.set_append_left _ _ hk2]
    have hne' : y ≠ (be4 (crcN (be4 p.length))).getD (k - 4) 0 := by
      rw [e0, List.getD_eq_getElem?_getD, List.getElem?_append_right (show (be4 p.length).length ≤ k by show 4 ≤ k; omega)] at hne
      rw [List.getD_eq_getElem?_getD]
      rw [show k - (be4 p.length).length = k - 4 from rfl, List.getElem?_append_left hk2] at hne
      exact hne
    have h1 : num4 ((frameL p).set k y) = p.length := by rw [e1]; exact num4_be4 (by omega) _
    have h2 : num4 (((frameL p).set k y).drop 4) ≠ crcN (be4 p.length) := by
      rw [e1, List.drop_left' (show (be4 p.length).length = 4 from rfl)]
      intro e
      have e2 : num4 ((be4 (crcN (be4 p.length))).set (k - 4) y ++ (p ++ be4 (crcN (headF p.length ++ p)))) = num4 (be4 (crcN (be4 p.length)) ++ []) := by rw [e, num4_be4 (crcN_lt _)]
      exact set_ne hk2 hne' (num4_inj (by rw [List.length_set]; rfl) rfl (set_byt hB2 hy) hB2 e2)
    unfold decF
    rw [if_neg (by omega), h1, if_pos h2]
  -- behind the head
  have hH8 : (headF p.length).length = 8 := rfl
  have e1 : (frameL p).set k y = headF p.length ++ ((p ++ be4 (crcN (headF p.length ++ p))).set (k - 8) y) := by
    unfold frameL
    rw [List.set_append_right _ _ (by omega)]
    rfl
  have hne1 : y ≠ (p ++ be4 (crcN (headF p.length ++ p))).getD (k - 8) 0 := by
    unfold frameL at hne
    rw [List.getD_eq_getElem?_getD, List.getElem?_append_right (by omega)] at hne
    rw [List.getD_eq_getElem?_getD]
    exact hne
  have h1 : num4 ((frameL p).set k y) = p.length := by rw [e1]; exact num4_head (by omega) _
  have h2 : num4 (((frameL p).set k y).drop 4) = crcN (be4 p.length) := by rw [e1]; exact num4_sum _ _
  unfold decF
  rw [if_neg (by omega), h1, if_neg (by rw [h2]; simp), if_neg (by omega), if_neg (by omega), if_pos]
  by_cases kn : k - 8 < p.length
  · have e2 : (frameL p).set k y = (headF p.length ++ p.set (k - 8) y) ++ be4 (crcN (headF p.length ++ p)) := by
      rw [e1, List.set_append_left _ _ kn, List.append_assoc]
    have hl8 : (headF p.length ++ p.set (k - 8) y).length = 8 + p.length := by rw [List.length_append, List.length_set, hH8]
    have hne2 : y ≠ p.getD (k - 8) 0 := by
      rw [List.getD_eq_getElem?_getD, List.getElem?_append_left kn, ← List.getD_eq_getElem?_getD] at hne1
      exact hne1
    rw [e2, List.drop_left' hl8, List.take_left' hl8]
    have h3 : num4 (be4 (crcN (headF p.length ++ p))) = crcN (headF p.length ++ p) := by
      have := num4_be4 (crcN_lt (headF p.length ++ p)) []
      rwa [List.append_nil] at this
    rw [h3]
    have e3 : headF p.length ++ p.set (k - 8) y = (headF p.length ++ p).set k y := by
      rw [List.set_append_right _ _ (by omega)]
      rfl
    rw [e3]
    refine fun e => crcN_set (by rw [List.length_append]; omega) (fun c hc => (List.mem_append.1 hc).elim (hHb c) (hb c)) hy ?_ e.symm
    rw [List.getD_eq_getElem?_getD, List.getElem?_append_right (by omega), ← List.getD_eq_getElem?_getD]
    exact hne2
  · have hk2 : k - 8 - p.length < (be4 (crcN (headF p.length ++ p))).length := by show _ < 4; omega
    have e2 : (frameL p).set k y = (headF p.length ++ p) ++ (be4 (crcN (headF p.length ++ p))).set (k - 8 - p.length) y := by
      rw [e1, List.set_append_right _ _ (by omega), List.append_assoc]
    have hl8 : (headF p.length ++ p).length = 8 + p.length := by rw [List.length_append, hH8]
    have hne2 : y ≠ (be4 (crcN (headF p.length ++ p))).getD (k - 8 - p.length) 0 := by
      rw [List.getD_eq_getElem?_getD, List.getElem?_append_right (by omega), ← List.getD_eq_getElem?_getD] at hne1
      exact hne1
    rw [e2, List.drop_left' hl8, List.take_left' hl8]
    intro e
    have e4 : num4 ((be4 (crcN (headF p.length ++ p))).set (k - 8 - p.length) y ++ []) = num4 (be4 (crcN (headF p.length ++ p)) ++ []) := by rw [List.append_nil, e, num4_be4 (crcN_lt _)]
    exact set_ne hk2 hne2 (num4_inj (by rw [List.length_set]; rfl) rfl (set_byt hB3 hy) hB3 e4)
end Frm
end Go.Proofs.Ytdkkaliiofcflaa

/- Numbers of four and eight bytes (chapter 1), the head of a frame (chapter 4): the program's. -/
namespace Go.Proofs.Ytdkkaliiofcflaa
open Go.RowKit
namespace K
/-- A call that makes bytes of its own, and writes nothing else. -/
def Makes (w : World) (l : List Int) : Ending → World → Prop := fun e w' => ∃ b, e = .returned b ∧ Bu w' b l ∧ Below w.heap.size w w' ∧ ∀ g, b.ownBlock = some g → w.heap.size ≤ g
theorem short_any (n : Nat) (w : World) : Calls Try.prog 48 #[.int .u32 (n : Int)] w (Makes w (Crc.be4 n)) := by
  refine enter (args := [.int .u32 (n : Int)]) Try.func48 rfl Try.ntmps48 rfl ?_
  have h4 : [IntKind.u8.wrap ((n : Int) / ((2 ^ min 24 IntKind.u32.bits : Nat) : Int)), IntKind.u8.wrap ((n : Int) / ((2 ^ min 16 IntKind.u32.bits : Nat) : Int)), IntKind.u8.wrap ((n : Int) / ((2 ^ min 8 IntKind.u32.bits : Nat) : Int)), IntKind.u8.wrap (n : Int)] = Crc.be4 n := by
    unfold Crc.be4
    rw [show ((2 ^ min 24 IntKind.u32.bits : Nat) : Int) = 16777216 from rfl, show ((2 ^ min 16 IntKind.u32.bits : Nat) : Int) = 65536 from rfl, show ((2 ^ min 8 IntKind.u32.bits : Nat) : Int) = 256 from rfl]
    simp only [IntKind.wrap_u8]
    simp
  repeat (first | ((with_reducible refine WL.topT ?_ ?_); omega) | ((with_reducible refine WL.topF ?_ ?_); omega) | ((with_reducible refine WL.top64 ?_ ?_); omega) | refine WC.seq ?_ | refine WC.block ?_ | refine WC.region ?_ | refine WL.nil ?_ | refine WC.skip ?_ | refine WC.exit ?_ | refine WC.ret ?_ | refine WQ.then rfl ?_ | refine WQ.thenExit ?_ | refine WQ.thenRet ?_ | refine WQ.blk ?_ | refine WQ.blkRet ?_ | refine WQ.blkHere rfl ?_ | refine WQ.blkOther rfl ?_ | refine WL.pure rfl rfl rfl rfl ?_ | refine WL.on rfl rfl ?_ | refine WL.off rfl rfl rfl ?_ | refine WC.condTrue rfl ?_ | refine WC.condFalse rfl ?_)
  refine WL.lit rfl rfl rfl rfl rfl rfl rfl fun v w1 h1 h2 h3 => ?_
  rw [h4] at h1
  repeat (first | ((with_reducible refine WL.topT ?_ ?_); omega) | ((with_reducible refine WL.topF ?_ ?_); omega) | ((with_reducible refine WL.top64 ?_ ?_); omega) | refine WC.seq ?_ | refine WC.block ?_ | refine WC.region ?_ | refine WL.nil ?_ | refine WC.skip ?_ | refine WC.exit ?_ | refine WC.ret ?_ | refine WQ.then rfl ?_ | refine WQ.thenExit ?_ | refine WQ.thenRet ?_ | refine WQ.blk ?_ | refine WQ.blkRet ?_ | refine WQ.blkHere rfl ?_ | refine WQ.blkOther rfl ?_ | refine WL.pure rfl rfl rfl rfl ?_ | refine WL.on rfl rfl ?_ | refine WL.off rfl rfl rfl ?_ | refine WC.condTrue rfl ?_ | refine WC.condFalse rfl ?_)
  exact WQ.ret1 rfl rfl ⟨v, rfl, h1, h2, h3⟩
theorem wraps_u32 (n : Int) (h0 : 0 ≤ n) (h1 : n < 2 ^ 32) : IntKind.u32.wrap n = n := by rw [IntKind.wrap_u32]; omega
theorem wraps_u64 (n : Int) (h0 : 0 ≤ n) (h1 : n < 2 ^ 64) : IntKind.u64.wrap n = n := by rw [IntKind.wrap_u64]; omega
theorem four32 (a b c d : Int) (ha : 0 ≤ a ∧ a ≤ 255) (hb : 0 ≤ b ∧ b ≤ 255) (hc : 0 ≤ c ∧ c ≤ 255) (hd : 0 ≤ d ∧ d ≤ 255) :
    bits .or .u32 (bits .or .u32 (bits .or .u32 (IntKind.u32.wrap (IntKind.u32.wrap a * ((2 ^ min 24 IntKind.u32.bits : Nat) : Int))) (IntKind.u32.wrap (IntKind.u32.wrap b * ((2 ^ min 16 IntKind.u32.bits : Nat) : Int))))
      (IntKind.u32.wrap (IntKind.u32.wrap c * ((2 ^ min 8 IntKind.u32.bits : Nat) : Int)))) (IntKind.u32.wrap d) = a * 16777216 + b * 65536 + c * 256 + d := by
  rw [show ((2 ^ min 24 IntKind.u32.bits : Nat) : Int) = 16777216 from rfl, show ((2 ^ min 16 IntKind.u32.bits : Nat) : Int) = 65536 from rfl, show ((2 ^ min 8 IntKind.u32.bits : Nat) : Int) = 256 from rfl]
  rw [wraps_u32 a (by omega) (by omega), wraps_u32 b (by omega) (by omega), wraps_u32 c (by omega) (by omega), wraps_u32 d (by omega) (by omega), wraps_u32 (a * 16777216) (by omega) (by omega), wraps_u32 (b * 65536) (by omega) (by omega), wraps_u32 (c * 256) (by omega) (by omega)]
  rw [bits_join .u32 32 (by decide) wraps_u32 24 (a * 16777216) (b * 65536) (by omega) (by omega) (by omega) (by omega) (by omega) (by omega)]
  rw [bits_join .u32 32 (by decide) wraps_u32 16 (a * 16777216 + b * 65536) (c * 256) (by omega) (by omega) (by omega) (by omega) (by omega) (by omega)]
  rw [bits_join .u32 32 (by decide) wraps_u32 8 (a * 16777216 + b * 65536 + c * 256) d (by omega) (by omega) (by omega) (by omega) (by omega) (by omega)]
theorem two64 (h l : Nat) (hh : h < 4294967296) (hl : l < 4294967296) : bits .or .u64 (IntKind.u64.wrap (IntKind.u64.wrap (h : Int) * ((2 ^ min 32 IntKind.u64.bits : Nat) : Int))) (IntKind.u64.wrap (l : Int)) = ((h * 4294967296 + l : Nat) : Int) := by
  rw [show ((2 ^ min 32 IntKind.u64.bits : Nat) : Int) = 4294967296 from rfl, wraps_u64 (h : Int) (by omega) (by omega), wraps_u64 (l : Int) (by omega) (by omega), wraps_u64 ((h : Int) * 4294967296) (by omega) (by omega)]
  rw [bits_join .u64 64 (by decide) wraps_u64 32 ((h : Int) * 4294967296) (l : Int) (by omega) (by omega) (by omega) (by omega) (by omega) (by omega)]
  omega
theorem num4_nth {l : List Int} (hl : 4 ≤ l.length) (hb : Frm.Byt l) : nth l 0 * 16777216 + nth l 1 * 65536 + nth l 2 * 256 + nth l 3 = ((Crc.num4 l : Nat) : Int) := by
  match l, hl, hb with
  | a :: b :: c :: d :: r, _, hb =>
    have h1 := hb a (by simp)
    have h2 := hb b (by simp)
    have h3 := hb c (by simp)
    have h4 := hb d (by simp)
    show a * 16777216 + b * 65536 + c * 256 + d = ((a.toNat * 16777216 + b.toNat * 65536 + c.toNat * 256 + d.toNat : Nat) : Int)
    omega
/-- What ReadShort tells. -/
def rsV (l : List Int) : List Value := if l.length < 4 then [.int .u32 0, .int .i64 2] else [.int .u32 (Crc.num4 l : Nat), .int .i64 0]
theorem readShort_any {w : World} {v : Value} {l : List Int} (hv : Sl .u8 w v l) (hb : Frm.Byt l) :
    Calls Try.prog 70 #[v] w fun e w' => e = .returned (.tuple (rsV l).toArray) ∧ Below w.heap.size w w' := by
  obtain ⟨sp, cap, rfl, h1, h2, -⟩ := id hv
  refine enter (args := [.slice sp l.length cap]) Try.func70 rfl Try.ntmps70 rfl ?_
  unfold rsV
  by_cases h : l.length < 4
  · rw [if_pos h]
    repeat (first | ((with_reducible refine WL.topT ?_ ?_); omega) | ((with_reducible refine WL.topF ?_ ?_); omega) | ((with_reducible refine WL.top64 ?_ ?_); omega) | refine WC.seq ?_ | refine WC.block ?_ | refine WC.region ?_ | refine WL.nil ?_ | refine WC.skip ?_ | refine WC.exit ?_ | refine WC.ret ?_ | refine WQ.then rfl ?_ | refine WQ.thenExit ?_ | refine WQ.thenRet ?_ | refine WQ.blk ?_ | refine WQ.blkRet ?_ | refine WQ.blkHere rfl ?_ | refine WQ.blkOther rfl ?_ | refine WL.pure rfl rfl rfl rfl ?_ | refine WL.on rfl rfl ?_ | refine WL.off rfl rfl rfl ?_ | refine WC.condTrue rfl ?_ | refine WC.condFalse rfl ?_)
    exact WQ.ret2 rfl rfl rfl ⟨rfl, Below.refl _ _⟩
  rw [if_neg h]
  have hfin := num4_nth (by omega) hb
  have a0 := hb _ (nth_mem' l 0 (by omega))
  have a1 := hb _ (nth_mem' l 1 (by omega))
  have a2 := hb _ (nth_mem' l 2 (by omega))
  have a3 := hb _ (nth_mem' l 3 (by omega))
  have h32 := four32 _ _ _ _ a0 a1 a2 a3
  rw [hfin] at h32
  clear hfin a0 a1 a2 a3
  repeat (first | ((with_reducible refine WL.topT ?_ ?_); omega) | ((with_reducible refine WL.topF ?_ ?_); omega) | ((with_reducible refine WL.top64 ?_ ?_); omega) | refine WC.seq ?_ | refine WC.block ?_ | refine WC.region ?_ | refine WL.nil ?_ | refine WC.skip ?_ | refine WC.exit ?_ | refine WC.ret ?_ | refine WQ.then rfl ?_ | refine WQ.thenExit ?_ | refine WQ.thenRet ?_ | refine WQ.blk ?_ | refine WQ.blkRet ?_ | refine WQ.blkHere rfl ?_ | refine WQ.blkOther rfl ?_ | refine WL.pure rfl rfl rfl rfl ?_ | refine WL.on rfl rfl ?_ | refine WL.off rfl rfl rfl ?_ | refine WC.condTrue rfl ?_ | refine WC.condFalse rfl ?_)
  refine WC.drawn 21 (fun wx => wx.heap = w.heap) fun w2 hd => ?_
  have hb2 : Below w.heap.size w w2 := hd.below _
  have hS : w2.heap = w.heap := hd.heap
  clear hd
  (((first | refine WD.free 0 rfl (by kernel_rfl) rfl rfl (fun _ _ _ _ _ h => h) rfl rfl (.inr hS) ?_ | refine WD.skip 0 rfl (by kernel_rfl) rfl rfl (fun _ _ _ _ _ h => h) rfl (.inr hS) ?_); try (first | ((with_reducible refine WD.topT ?_ ?_); omega) | ((with_reducible refine WD.topF ?_ ?_); omega) | ((with_reducible refine WD.top64 ?_ ?_); omega))); ((first | refine WD.free 5 rfl (by kernel_rfl) rfl rfl (fun _ _ _ _ _ h => h) rfl rfl (.inr hS) ?_ | refine WD.skip 5 rfl (by kernel_rfl) rfl rfl (fun _ _ _ _ _ h => h) rfl (.inr hS) ?_); try (first | ((with_reducible refine WD.topT ?_ ?_); omega) | ((with_reducible refine WD.topF ?_ ?_); omega) | ((with_reducible refine WD.top64 ?_ ?_); omega))); ((first | refine WD.free 11 rfl (by kernel_rfl) rfl rfl (fun _ _ _ _ _ h => h) rfl rfl (.inr hS) ?_ | refine WD.skip 11 rfl (by kernel_rfl) rfl rfl (fun _ _ _ _ _ h => h) rfl (.inr hS) ?_); try (first | ((with_reducible refine WD.topT ?_ ?_); omega) | ((with_reducible refine WD.topF ?_ ?_); omega) | ((with_reducible refine WD.top64 ?_ ?_); omega))); ((first | refine WD.free 17 rfl (by kernel_rfl) rfl rfl (fun _ _ _ _ _ h => h) rfl rfl (.inr hS) ?_ | refine WD.skip 17 rfl (by kernel_rfl) rfl rfl (fun _ _ _ _ _ h => h) rfl (.inr hS) ?_); try (first | ((with_reducible refine WD.topT ?_ ?_); omega) | ((with_reducible refine WD.topF ?_ ?_); omega) | ((with_reducible refine WD.top64 ?_ ?_); omega))))
  refine WD.idxI 1 0 rfl (by kernel_rfl) rfl rfl (fun _ _ _ _ _ h => h) rfl rfl rfl rfl hv rfl rfl (by omega) (.inr hS) fun p0 q0 => ?_
  refine WD.load 2 [3, 4, 10, 16, 21, 22, 23] rfl (by kernel_rfl) rfl rfl (fun _ _ _ _ _ h => h) rfl rfl rfl rfl (fun wx hx => (heap_cell hx _).trans q0) hS ?_
  refine WD.idxI 6 1 rfl (by kernel_rfl) rfl rfl (fun _ _ _ _ _ h => h) rfl rfl rfl rfl hv rfl rfl (by omega) (.inr hS) fun p1 q1 => ?_
  refine WD.load 7 [8, 9, 10, 16, 21, 22, 23] rfl (by kernel_rfl) rfl rfl (fun _ _ _ _ _ h => h) rfl rfl rfl rfl (fun wx hx => (heap_cell hx _).trans q1) hS ?_
  refine WD.idxI 12 2 rfl (by kernel_rfl) rfl rfl (fun _ _ _ _ _ h => h) rfl rfl rfl rfl hv rfl rfl (by omega) (.inr hS) fun p2 q2 => ?_
  refine WD.load 13 [14, 15, 16, 21, 22, 23] rfl (by kernel_rfl) rfl rfl (fun _ _ _ _ _ h => h) rfl rfl rfl rfl (fun wx hx => (heap_cell hx _).trans q2) hS ?_
  refine WD.idxI 18 3 rfl (by kernel_rfl) rfl rfl (fun _ _ _ _ _ h => h) rfl rfl rfl rfl hv rfl rfl (by omega) (.inr hS) fun p3 q3 => ?_
  refine WD.load 19 [20, 21, 22, 23] rfl (by kernel_rfl) rfl rfl (fun _ _ _ _ _ h => h) rfl rfl rfl rfl (fun wx hx => (heap_cell hx _).trans q3) hS ?_
  (((first | refine WD.free 3 rfl (by kernel_rfl) rfl rfl (fun _ _ _ _ _ h => h) rfl rfl (.inr hS) ?_ | refine WD.skip 3 rfl (by kernel_rfl) rfl rfl (fun _ _ _ _ _ h => h) rfl (.inr hS) ?_); try (first | ((with_reducible refine WD.topT ?_ ?_); omega) | ((with_reducible refine WD.topF ?_ ?_); omega) | ((with_reducible refine WD.top64 ?_ ?_); omega))); ((first | refine WD.free 4 rfl (by kernel_rfl) rfl rfl (fun _ _ _ _ _ h => h) rfl rfl (.inr hS) ?_ | refine WD.skip 4 rfl (by kernel_rfl) rfl rfl (fun _ _ _ _ _ h => h) rfl (.inr hS) ?_); try (first | ((with_reducible refine WD.topT ?_ ?_); omega) | ((with_reducible refine WD.topF ?_ ?_); omega) | ((with_reducible refine WD.top64 ?_ ?_); omega))); ((first | refine WD.free 8 rfl (by kernel_rfl) rfl rfl (fun _ _ _ _ _ h => h) rfl rfl (.inr hS) ?_ | refine WD.skip 8 rfl (by kernel_rfl) rfl rfl (fun _ _ _ _ _ h => h) rfl (.inr hS) ?_); try (first | ((with_reducible refine WD.topT ?_ ?_); omega) | ((with_reducible refine WD.topF ?_ ?_); omega) | ((with_reducible refine WD.top64 ?_ ?_); omega))); ((first | refine WD.free 9 rfl (by kernel_rfl) rfl rfl (fun _ _ _ _ _ h => h) rfl rfl (.inr hS) ?_ | refine WD.skip 9 rfl (by kernel_rfl) rfl rfl (fun _ _ _ _ _ h => h) rfl (.inr hS) ?_); try (first | ((with_reducible refine WD.topT ?_ ?_); omega) | ((with_reducible refine WD.topF ?_ ?_); omega) | ((with_reducible refine WD.top64 ?_ ?_); omega))); ((first | refine WD.free 10 rfl (by kernel_rfl) rfl rfl (fun _ _ _ _ _ h => h) rfl rfl (.inr hS) ?_ | refine WD.skip 10 rfl (by kernel_rfl) rfl rfl (fun _ _ _ _ _ h => h) rfl (.inr hS) ?_); try (first | ((with_reducible refine WD.topT ?_ ?_); omega) | ((with_reducible refine WD.topF ?_ ?_); omega) | ((with_reducible refine WD.top64 ?_ ?_); omega))); ((first | refine WD.free 14 rfl (by kernel_rfl) rfl rfl (fun _ _ _ _ _ h => h) rfl rfl (.inr hS) ?_ | refine WD.skip 14 rfl (by kernel_rfl) rfl rfl (fun _ _ _ _ _ h => h) rfl (.inr hS) ?_); try (first | ((with_reducible refine WD.topT ?_ ?_); omega) | ((with_reducible refine WD.topF ?_ ?_); omega) | ((with_reducible refine WD.top64 ?_ ?_); omega))); ((first | refine WD.free 15 rfl (by kernel_rfl) rfl rfl (fun _ _ _ _ _ h => h) rfl rfl (.inr hS) ?_ | refine WD.skip 15 rfl (by kernel_rfl) rfl rfl (fun _ _ _ _ _ h => h) rfl (.inr hS) ?_); try (first | ((with_reducible refine WD.topT ?_ ?_); omega) | ((with_reducible refine WD.topF ?_ ?_); omega) | ((with_reducible refine WD.top64 ?_ ?_); omega))); ((first | refine WD.free 16 rfl (by kernel_rfl) rfl rfl (fun _ _ _ _ _ h => h) rfl rfl (.inr hS) ?_ | refine WD.skip 16 rfl (by kernel_rfl) rfl rfl (fun _ _ _ _ _ h => h) rfl (.inr hS) ?_); try (first | ((with_reducible refine WD.topT ?_ ?_); omega) | ((with_reducible refine WD.topF ?_ ?_); omega) | ((with_reducible refine WD.top64 ?_ ?_); omega))); ((first | refine WD.free 20 rfl (by kernel_rfl) rfl rfl (fun _ _ _ _ _ h => h) rfl rfl (.inr hS) ?_ | refine WD.skip 20 rfl (by kernel_rfl) rfl rfl (fun _ _ _ _ _ h => h) rfl (.inr hS) ?_); try (first | ((with_reducible refine WD.topT ?_ ?_); omega) | ((with_reducible refine WD.topF ?_ ?_); omega) | ((with_reducible refine WD.top64 ?_ ?_); omega))))
  refine WD.one 21 (by kernel_rfl) rfl ?_
  refine WL.pure rfl rfl rfl rfl ?_
  refine WL.as 28 (.int .u32 ((Crc.num4 l : Nat) : Int)) rfl (congrArg (Value.int .u32) h32) ?_
  refine WL.nil (WQ.dk (.inl rfl) ?_)
  (((first | refine WD.free 22 rfl (by kernel_rfl) rfl rfl (fun _ _ _ _ _ h => h) rfl rfl (.inl rfl) ?_ | refine WD.skip 22 rfl (by kernel_rfl) rfl rfl (fun _ _ _ _ _ h => h) rfl (.inl rfl) ?_); try (first | ((with_reducible refine WD.topT ?_ ?_); omega) | ((with_reducible refine WD.topF ?_ ?_); omega) | ((with_reducible refine WD.top64 ?_ ?_); omega))); ((first | refine WD.free 23 rfl (by kernel_rfl) rfl rfl (fun _ _ _ _ _ h => h) rfl rfl (.inl rfl) ?_ | refine WD.skip 23 rfl (by kernel_rfl) rfl rfl (fun _ _ _ _ _ h => h) rfl (.inl rfl) ?_); try (first | ((with_reducible refine WD.topT ?_ ?_); omega) | ((with_reducible refine WD.topF ?_ ?_); omega) | ((with_reducible refine WD.top64 ?_ ?_); omega))))
  refine WD.done (by kernel_rfl) ?_
  repeat (first | ((with_reducible refine WL.topT ?_ ?_); omega) | ((with_reducible refine WL.topF ?_ ?_); omega) | ((with_reducible refine WL.top64 ?_ ?_); omega) | refine WC.seq ?_ | refine WC.block ?_ | refine WC.region ?_ | refine WL.nil ?_ | refine WC.skip ?_ | refine WC.exit ?_ | refine WC.ret ?_ | refine WQ.then rfl ?_ | refine WQ.thenExit ?_ | refine WQ.thenRet ?_ | refine WQ.blk ?_ | refine WQ.blkRet ?_ | refine WQ.blkHere rfl ?_ | refine WQ.blkOther rfl ?_ | refine WL.pure rfl rfl rfl rfl ?_ | refine WL.on rfl rfl ?_ | refine WL.off rfl rfl rfl ?_ | refine WC.condTrue rfl ?_ | refine WC.condFalse rfl ?_)
  exact WQ.ret2 rfl rfl rfl ⟨rfl, hb2⟩
/-- What ReadBig tells. -/
def rbV (l : List Int) : List Value := if l.length < 8 then [.int .u64 0, .int .i64 2] else [.int .u64 ((Crc.num4 l * 4294967296 + Crc.num4 (l.drop 4) : Nat) : Int), .int .i64 0]
theorem readBig_any {w : World} {v : Value} {l : List Int} (hv : Sl .u8 w v l) (hb : Frm.Byt l) :
    Calls Try.prog 69 #[v] w fun e w' => e = .returned (.tuple (rbV l).toArray) ∧ Below w.heap.size w w' := by
  obtain ⟨sp, cap, rfl, h1, h2, -⟩ := id hv
  refine enter (args := [.slice sp l.length cap]) Try.func69 rfl Try.ntmps69 rfl ?_
  unfold rbV
  by_cases h : l.length < 8
  · rw [if_pos h]
    repeat (first | ((with_reducible refine WL.topT ?_ ?_); omega) | ((with_reducible refine WL.topF ?_ ?_); omega) | ((with_reducible refine WL.top64 ?_ ?_); omega) | refine WC.seq ?_ | refine WC.block ?_ | refine WC.region ?_ | refine WL.nil ?_ | refine WC.skip ?_ | refine WC.exit ?_ | refine WC.ret ?_ | refine WQ.then rfl ?_ | refine WQ.thenExit ?_ | refine WQ.thenRet ?_ | refine WQ.blk ?_ | refine WQ.blkRet ?_ | refine WQ.blkHere rfl ?_ | refine WQ.blkOther rfl ?_ | refine WL.pure rfl rfl rfl rfl ?_ | refine WL.on rfl rfl ?_ | refine WL.off rfl rfl rfl ?_ | refine WC.condTrue rfl ?_ | refine WC.condFalse rfl ?_)
    exact WQ.ret2 rfl rfl rfl ⟨rfl, Below.refl _ _⟩
  rw [if_neg h]
  have e1 : rsV l = [.int .u32 (Crc.num4 l : Nat), .int .i64 0] := by unfold rsV; rw [if_neg (by omega)]
  have e2 : rsV (l.drop 4) = [.int .u32 (Crc.num4 (l.drop 4) : Nat), .int .i64 0] := by unfold rsV; rw [if_neg (by rw [List.length_drop]; omega)]
  have hbd : Frm.Byt (l.drop 4) := fun c hc => hb c (List.mem_of_mem_drop hc)
  have h64 := two64 (Crc.num4 l) (Crc.num4 (l.drop 4)) (Crc.num4_lt _ hb) (Crc.num4_lt _ hbd)
  repeat (first | ((with_reducible refine WL.topT ?_ ?_); omega) | ((with_reducible refine WL.topF ?_ ?_); omega) | ((with_reducible refine WL.top64 ?_ ?_); omega) | refine WC.seq ?_ | refine WC.block ?_ | refine WC.region ?_ | refine WL.nil ?_ | refine WC.skip ?_ | refine WC.exit ?_ | refine WC.ret ?_ | refine WQ.then rfl ?_ | refine WQ.thenExit ?_ | refine WQ.thenRet ?_ | refine WQ.blk ?_ | refine WQ.blkRet ?_ | refine WQ.blkHere rfl ?_ | refine WQ.blkOther rfl ?_ | refine WL.pure rfl rfl rfl rfl ?_ | refine WL.on rfl rfl ?_ | refine WL.off rfl rfl rfl ?_ | refine WC.condTrue rfl ?_ | refine WC.condFalse rfl ?_)
  refine WL.call rfl rfl rfl rfl rfl Try.func70 rfl (by kernel_rfl) (readShort_any hv hb) ?_
  rintro _ w1 ⟨rfl, k1⟩
  refine ⟨_, rfl, ?_⟩
  rw [e1]
  repeat (first | ((with_reducible refine WL.topT ?_ ?_); omega) | ((with_reducible refine WL.topF ?_ ?_); omega) | ((with_reducible refine WL.top64 ?_ ?_); omega) | refine WC.seq ?_ | refine WC.block ?_ | refine WC.region ?_ | refine WL.nil ?_ | refine WC.skip ?_ | refine WC.exit ?_ | refine WC.ret ?_ | refine WQ.then rfl ?_ | refine WQ.thenExit ?_ | refine WQ.thenRet ?_ | refine WQ.blk ?_ | refine WQ.blkRet ?_ | refine WQ.blkHere rfl ?_ | refine WQ.blkOther rfl ?_ | refine WL.pure rfl rfl rfl rfl ?_ | refine WL.on rfl rfl ?_ | refine WL.off rfl rfl rfl ?_ | refine WC.condTrue rfl ?_ | refine WC.condFalse rfl ?_)
  refine WL.from rfl rfl rfl rfl rfl rfl rfl (by omega) (by omega) (hv.of_below k1) fun v2 hv2 => ?_
  refine WL.call rfl rfl rfl rfl rfl Try.func70 rfl (by kernel_rfl) (readShort_any hv2 hbd) ?_
  rintro _ w2 ⟨rfl, k2⟩
  refine ⟨_, rfl, ?_⟩
  rw [show (4 : Int).toNat = 4 from rfl, e2]
  repeat (first | ((with_reducible refine WL.topT ?_ ?_); omega) | ((with_reducible refine WL.topF ?_ ?_); omega) | ((with_reducible refine WL.top64 ?_ ?_); omega) | refine WC.seq ?_ | refine WC.block ?_ | refine WC.region ?_ | refine WL.nil ?_ | refine WC.skip ?_ | refine WC.exit ?_ | refine WC.ret ?_ | refine WQ.then rfl ?_ | refine WQ.thenExit ?_ | refine WQ.thenRet ?_ | refine WQ.blk ?_ | refine WQ.blkRet ?_ | refine WQ.blkHere rfl ?_ | refine WQ.blkOther rfl ?_ | refine WL.pure rfl rfl rfl rfl ?_ | refine WL.on rfl rfl ?_ | refine WL.off rfl rfl rfl ?_ | refine WC.condTrue rfl ?_ | refine WC.condFalse rfl ?_)
  exact WQ.ret2 rfl (congrArg (fun z => some (Value.int .u64 z)) h64) rfl ⟨rfl, k1.trans (k2.mono k1.size)⟩
theorem big_any (n : Nat) (w : World) : Calls Try.prog 46 #[.int .u64 (n : Int)] w (Makes w (Crc.be4 (n / 4294967296 % 4294967296) ++ Crc.be4 (n % 4294967296))) := by
  refine enter (args := [.int .u64 (n : Int)]) Try.func46 rfl Try.ntmps46 rfl ?_
  have x1 : IntKind.u32.wrap ((n : Int) / ((2 ^ min 32 IntKind.u64.bits : Nat) : Int)) = ((n / 4294967296 % 4294967296 : Nat) : Int) := by
    rw [show ((2 ^ min 32 IntKind.u64.bits : Nat) : Int) = 4294967296 from rfl, IntKind.wrap_u32]; simp
  have x2 : IntKind.u32.wrap (n : Int) = ((n % 4294967296 : Nat) : Int) := by rw [IntKind.wrap_u32]; simp
  repeat (first | ((with_reducible refine WL.topT ?_ ?_); omega) | ((with_reducible refine WL.topF ?_ ?_); omega) | ((with_reducible refine WL.top64 ?_ ?_); omega) | refine WC.seq ?_ | refine WC.block ?_ | refine WC.region ?_ | refine WL.nil ?_ | refine WC.skip ?_ | refine WC.exit ?_ | refine WC.ret ?_ | refine WQ.then rfl ?_ | refine WQ.thenExit ?_ | refine WQ.thenRet ?_ | refine WQ.blk ?_ | refine WQ.blkRet ?_ | refine WQ.blkHere rfl ?_ | refine WQ.blkOther rfl ?_ | refine WL.pure rfl rfl rfl rfl ?_ | refine WL.on rfl rfl ?_ | refine WL.off rfl rfl rfl ?_ | refine WC.condTrue rfl ?_ | refine WC.condFalse rfl ?_)
  refine WL.as 5 (.int .u32 ((n / 4294967296 % 4294967296 : Nat) : Int)) rfl (congrArg (Value.int .u32) x1) ?_
  refine WL.call rfl rfl rfl rfl rfl Try.func48 rfl (by kernel_rfl) (short_any _ w) ?_
  rintro _ w1 ⟨b1, rfl, h1, k1, o1⟩
  refine ⟨_, rfl, ?_⟩
  repeat (first | ((with_reducible refine WL.topT ?_ ?_); omega) | ((with_reducible refine WL.topF ?_ ?_); omega) | ((with_reducible refine WL.top64 ?_ ?_); omega) | refine WC.seq ?_ | refine WC.block ?_ | refine WC.region ?_ | refine WL.nil ?_ | refine WC.skip ?_ | refine WC.exit ?_ | refine WC.ret ?_ | refine WQ.then rfl ?_ | refine WQ.thenExit ?_ | refine WQ.thenRet ?_ | refine WQ.blk ?_ | refine WQ.blkRet ?_ | refine WQ.blkHere rfl ?_ | refine WQ.blkOther rfl ?_ | refine WL.pure rfl rfl rfl rfl ?_ | refine WL.on rfl rfl ?_ | refine WL.off rfl rfl rfl ?_ | refine WC.condTrue rfl ?_ | refine WC.condFalse rfl ?_)
  refine WL.as 8 (.int .u32 ((n % 4294967296 : Nat) : Int)) rfl (congrArg (Value.int .u32) x2) ?_
  refine WL.call rfl rfl rfl rfl rfl Try.func48 rfl (by kernel_rfl) (short_any _ w1) ?_
  rintro _ w2 ⟨b2, rfl, h2, k2, o2⟩
  refine ⟨_, rfl, ?_⟩
  have h1' := h1.below k2
  refine WL.app rfl rfl rfl rfl rfl h1' rfl h2.sl (by show 4 + 4 ≤ _; omega) fun b3 w3 h3 g3 => ?_
  repeat (first | ((with_reducible refine WL.topT ?_ ?_); omega) | ((with_reducible refine WL.topF ?_ ?_); omega) | ((with_reducible refine WL.top64 ?_ ?_); omega) | refine WC.seq ?_ | refine WC.block ?_ | refine WC.region ?_ | refine WL.nil ?_ | refine WC.skip ?_ | refine WC.exit ?_ | refine WC.ret ?_ | refine WQ.then rfl ?_ | refine WQ.thenExit ?_ | refine WQ.thenRet ?_ | refine WQ.blk ?_ | refine WQ.blkRet ?_ | refine WQ.blkHere rfl ?_ | refine WQ.blkOther rfl ?_ | refine WL.pure rfl rfl rfl rfl ?_ | refine WL.on rfl rfl ?_ | refine WL.off rfl rfl rfl ?_ | refine WC.condTrue rfl ?_ | refine WC.condFalse rfl ?_)
  have hw2 : Below w.heap.size w w2 := k1.trans (k2.mono k1.size)
  have o1' : ∀ g, b1.ownBlock = some g → w.heap.size ≤ g := o1
  exact WQ.ret1 rfl rfl ⟨b3, rfl, h3, hw2.trans (g3.old hw2.size o1'), fun g hg => g3.own hw2.size o1' g hg⟩
theorem head_any (n : Nat) (hn : n < 4294967296) (w : World) : Calls Try.prog 47 #[.int .u32 (n : Int)] w fun e w' => e = .returned (.int .u64 ((n * 4294967296 + Crc.crcN (Crc.be4 n) : Nat) : Int)) ∧ Below w.heap.size w w' := by
  refine enter (args := [.int .u32 (n : Int)]) Try.func47 rfl Try.ntmps47 rfl ?_
  have h64 := two64 n (Crc.crcN (Crc.be4 n)) hn (Crc.crcN_lt _)
  repeat (first | ((with_reducible refine WL.topT ?_ ?_); omega) | ((with_reducible refine WL.topF ?_ ?_); omega) | ((with_reducible refine WL.top64 ?_ ?_); omega) | refine WC.seq ?_ | refine WC.block ?_ | refine WC.region ?_ | refine WL.nil ?_ | refine WC.skip ?_ | refine WC.exit ?_ | refine WC.ret ?_ | refine WQ.then rfl ?_ | refine WQ.thenExit ?_ | refine WQ.thenRet ?_ | refine WQ.blk ?_ | refine WQ.blkRet ?_ | refine WQ.blkHere rfl ?_ | refine WQ.blkOther rfl ?_ | refine WL.pure rfl rfl rfl rfl ?_ | refine WL.on rfl rfl ?_ | refine WL.off rfl rfl rfl ?_ | refine WC.condTrue rfl ?_ | refine WC.condFalse rfl ?_)
  refine WL.call rfl rfl rfl rfl rfl Try.func48 rfl (by kernel_rfl) (short_any _ w) ?_
  rintro _ w1 ⟨b1, rfl, h1, k1, o1⟩
  refine ⟨_, rfl, ?_⟩
  refine WL.call rfl rfl rfl rfl rfl Try.func49 rfl (by kernel_rfl) (sum_any h1.sl (Crc.be4_byt n) (by show 4 ≤ _; omega)) ?_
  rintro _ w2 ⟨rfl, k2⟩
  refine ⟨_, rfl, ?_⟩
  repeat (first | ((with_reducible refine WL.topT ?_ ?_); omega) | ((with_reducible refine WL.topF ?_ ?_); omega) | ((with_reducible refine WL.top64 ?_ ?_); omega) | refine WC.seq ?_ | refine WC.block ?_ | refine WC.region ?_ | refine WL.nil ?_ | refine WC.skip ?_ | refine WC.exit ?_ | refine WC.ret ?_ | refine WQ.then rfl ?_ | refine WQ.thenExit ?_ | refine WQ.thenRet ?_ | refine WQ.blk ?_ | refine WQ.blkRet ?_ | refine WQ.blkHere rfl ?_ | refine WQ.blkOther rfl ?_ | refine WL.pure rfl rfl rfl rfl ?_ | refine WL.on rfl rfl ?_ | refine WL.off rfl rfl rfl ?_ | refine WC.condTrue rfl ?_ | refine WC.condFalse rfl ?_)
  exact WQ.ret1 rfl (congrArg (fun z => some (Value.int .u64 z)) h64) ⟨rfl, k1.trans (k2.mono k1.size)⟩
end K
end Go.Proofs.Ytdkkaliiofcflaa

/- Frames (chapter 4): the program's Encode and Decode; bytes.Clone. -/
namespace Go.Proofs.Ytdkkaliiofcflaa
open Go.RowKit
namespace K
section
variable {n : Nat} {Q : Exit → Act → World → Prop} {l : Env} {w w' : World} {ops : Array Oper} {o : Oper} {rest : List Oper} {d : Nat}
theorem WL.nilB {x y : Operand} {t t2 e sz m c : Nat} {sp : Option Addr} (hg : o.guard = none) (hd : o.dst = some d) (hn : Nat.blt d n = true) (ho : o.op = .binOp .eql t x y t2) (ht : tyOf ty t = some (.slice e sz)) (hx : evl l x = some (.slice sp m c)) (hy : evl l y = some (.slice none 0 0))
    (h : WL n ops Q rest ((d, .bool sp.isNone) :: l) w) : WL n ops Q (o :: rest) l w :=
  WL.step hg hd hn (fun a ha => by
    unfold execOp
    rw [ho]
    obtain ⟨hu, -⟩ := TyOk.of tyOk ht
    have := Lib.run_eql_slice_nil w t e sp m c 0 0 hu
    have hq : (eqGuard .eql t x y (.slice sp m c) (.slice none 0 0)).run Try.prog w = .ok () w := by simp [eqGuard]
    simp only [ha.eval hx, ha.eval hy, Sem.run_bind, hq, Result.andThen_ok, this]
    rfl) h
end
section
variable {n : Nat} {l : Env} {w : World} {fn : Func} {R : Ending → World → Prop}
theorem WQ.ret3w {t t2 t3 : Nat} {v v2 v3 : Value} (hr : fn.results = #[.tmp t, .tmp t2, .tmp t3]) (hl : look l t = some v) (hl2 : look l t2 = some v2) (hl3 : look l t3 = some v3) (h : R (.returned (.tuple #[v, v2, v3])) w) : WQ n (bodyPost Try.prog fn R) .ret l w :=
  ⟨fun a ha => ⟨ha.defers, _, by rw [results_tmp3 hr, ha.getD hl, ha.getD hl2, ha.getD hl3], h⟩⟩
end
theorem bclone_any {w : World} {v : Value} {l : List Int} (hv : Sl .u8 w v l) (hl : l.length ≤ 140737488355328) : Calls Try.prog 71 #[v] w (Makes w l) := by
  obtain ⟨sp, cap, rfl, h1, h2, h3, h4⟩ := id hv
  refine enter (args := [.slice sp l.length cap]) Try.func71 rfl Try.ntmps71 rfl ?_
  repeat (first | ((with_reducible refine WL.topT ?_ ?_); omega) | ((with_reducible refine WL.topF ?_ ?_); omega) | ((with_reducible refine WL.top64 ?_ ?_); omega) | refine WC.seq ?_ | refine WC.block ?_ | refine WC.region ?_ | refine WL.nil ?_ | refine WC.skip ?_ | refine WC.exit ?_ | refine WC.ret ?_ | refine WQ.then rfl ?_ | refine WQ.thenExit ?_ | refine WQ.thenRet ?_ | refine WQ.blk ?_ | refine WQ.blkRet ?_ | refine WQ.blkHere rfl ?_ | refine WQ.blkOther rfl ?_ | refine WL.pure rfl rfl rfl rfl ?_ | refine WL.on rfl rfl ?_ | refine WL.off rfl rfl rfl ?_ | refine WC.condTrue rfl ?_ | refine WC.condFalse rfl ?_)
  refine WL.nilB rfl rfl rfl rfl rfl rfl rfl ?_
  cases sp with
  | none =>
    have hc := h4 rfl
    obtain rfl : l = [] := List.eq_nil_of_length_eq_zero (by omega)
    repeat (first | ((with_reducible refine WL.topT ?_ ?_); omega) | ((with_reducible refine WL.topF ?_ ?_); omega) | ((with_reducible refine WL.top64 ?_ ?_); omega) | refine WC.seq ?_ | refine WC.block ?_ | refine WC.region ?_ | refine WL.nil ?_ | refine WC.skip ?_ | refine WC.exit ?_ | refine WC.ret ?_ | refine WQ.then rfl ?_ | refine WQ.thenExit ?_ | refine WQ.thenRet ?_ | refine WQ.blk ?_ | refine WQ.blkRet ?_ | refine WQ.blkHere rfl ?_ | refine WQ.blkOther rfl ?_ | refine WL.pure rfl rfl rfl rfl ?_ | refine WL.on rfl rfl ?_ | refine WL.off rfl rfl rfl ?_ | refine WC.condTrue rfl ?_ | refine WC.condFalse rfl ?_)
    exact WQ.ret1 rfl rfl ⟨_, rfl, Bu.nil w, Below.refl _ _, fun g h => by cases h⟩
  | some p =>
    repeat (first | ((with_reducible refine WL.topT ?_ ?_); omega) | ((with_reducible refine WL.topF ?_ ?_); omega) | ((with_reducible refine WL.top64 ?_ ?_); omega) | refine WC.seq ?_ | refine WC.block ?_ | refine WC.region ?_ | refine WL.nil ?_ | refine WC.skip ?_ | refine WC.exit ?_ | refine WC.ret ?_ | refine WQ.then rfl ?_ | refine WQ.thenExit ?_ | refine WQ.thenRet ?_ | refine WQ.blk ?_ | refine WQ.blkRet ?_ | refine WQ.blkHere rfl ?_ | refine WQ.blkOther rfl ?_ | refine WL.pure rfl rfl rfl rfl ?_ | refine WL.on rfl rfl ?_ | refine WL.off rfl rfl rfl ?_ | refine WC.condTrue rfl ?_ | refine WC.condFalse rfl ?_)
    refine WL.empty rfl rfl rfl rfl rfl fun g w1 hf => ?_
    have hB := hf.below
    have hg := hf.eq
    repeat (first | ((with_reducible refine WL.topT ?_ ?_); omega) | ((with_reducible refine WL.topF ?_ ?_); omega) | ((with_reducible refine WL.top64 ?_ ?_); omega) | refine WC.seq ?_ | refine WC.block ?_ | refine WC.region ?_ | refine WL.nil ?_ | refine WC.skip ?_ | refine WC.exit ?_ | refine WC.ret ?_ | refine WQ.then rfl ?_ | refine WQ.thenExit ?_ | refine WQ.thenRet ?_ | refine WQ.blk ?_ | refine WQ.blkRet ?_ | refine WQ.blkHere rfl ?_ | refine WQ.blkOther rfl ?_ | refine WL.pure rfl rfl rfl rfl ?_ | refine WL.on rfl rfl ?_ | refine WL.off rfl rfl rfl ?_ | refine WC.condTrue rfl ?_ | refine WC.condFalse rfl ?_)
    refine WL.app rfl rfl rfl rfl rfl (Bu.ofFresh hf) rfl (hv.of_below hB) (by simpa using hl) fun b w2 hb gr => ?_
    repeat (first | ((with_reducible refine WL.topT ?_ ?_); omega) | ((with_reducible refine WL.topF ?_ ?_); omega) | ((with_reducible refine WL.top64 ?_ ?_); omega) | refine WC.seq ?_ | refine WC.block ?_ | refine WC.region ?_ | refine WL.nil ?_ | refine WC.skip ?_ | refine WC.exit ?_ | refine WC.ret ?_ | refine WQ.then rfl ?_ | refine WQ.thenExit ?_ | refine WQ.thenRet ?_ | refine WQ.blk ?_ | refine WQ.blkRet ?_ | refine WQ.blkHere rfl ?_ | refine WQ.blkOther rfl ?_ | refine WL.pure rfl rfl rfl rfl ?_ | refine WL.on rfl rfl ?_ | refine WL.off rfl rfl rfl ?_ | refine WC.condTrue rfl ?_ | refine WC.condFalse rfl ?_)
    have hg' : ∀ g', (Value.slice (some ⟨g, 0, none⟩) 0 0).ownBlock = some g' → w.heap.size ≤ g' := fun g' h => by cases h; show w.heap.size ≤ g; omega
    exact WQ.ret1 rfl rfl ⟨b, rfl, hb, hB.trans (gr.old hB.size hg'), fun g' h => gr.own hB.size hg' g' h⟩
/-- What Encode of a frame tells. -/
def FrmOut (w : World) (p : List Int) : Ending → World → Prop := fun e w' => ∃ b, e = .returned (.tuple #[b, .int .i64 (if 524288 < p.length then 5 else 0)]) ∧ Bu w' b (if 524288 < p.length then [] else Frm.frameL p) ∧ Below w.heap.size w w' ∧ ∀ g, b.ownBlock = some g → w.heap.size ≤ g
theorem fenc_any {w : World} {v : Value} {p : List Int} (hv : Sl .u8 w v p) (hp : Frm.Byt p) (hl : p.length ≤ 140737488355328) : Calls Try.prog 25 #[v] w (FrmOut w p) := by
  obtain ⟨sp, cap, rfl, h1, h2, -⟩ := id hv
  refine enter (args := [.slice sp p.length cap]) Try.func25 rfl Try.ntmps25 rfl ?_
  unfold FrmOut
  by_cases h : 524288 < p.length
  · rw [if_pos h, if_pos h]
    repeat (first | ((with_reducible refine WL.topT ?_ ?_); omega) | ((with_reducible refine WL.topF ?_ ?_); omega) | ((with_reducible refine WL.top64 ?_ ?_); omega) | refine WC.seq ?_ | refine WC.block ?_ | refine WC.region ?_ | refine WL.nil ?_ | refine WC.skip ?_ | refine WC.exit ?_ | refine WC.ret ?_ | refine WQ.then rfl ?_ | refine WQ.thenExit ?_ | refine WQ.thenRet ?_ | refine WQ.blk ?_ | refine WQ.blkRet ?_ | refine WQ.blkHere rfl ?_ | refine WQ.blkOther rfl ?_ | refine WL.pure rfl rfl rfl rfl ?_ | refine WL.on rfl rfl ?_ | refine WL.off rfl rfl rfl ?_ | refine WC.condTrue rfl ?_ | refine WC.condFalse rfl ?_)
    exact WQ.ret2 rfl rfl rfl ⟨_, rfl, Bu.nil w, Below.refl _ _, fun g h => by cases h⟩
  rw [if_neg h, if_neg h]
  have hw32 : IntKind.u32.wrap (p.length : Int) = (p.length : Int) := wraps_u32 _ (by omega) (by omega)
  repeat (first | ((with_reducible refine WL.topT ?_ ?_); omega) | ((with_reducible refine WL.topF ?_ ?_); omega) | ((with_reducible refine WL.top64 ?_ ?_); omega) | refine WC.seq ?_ | refine WC.block ?_ | refine WC.region ?_ | refine WL.nil ?_ | refine WC.skip ?_ | refine WC.exit ?_ | refine WC.ret ?_ | refine WQ.then rfl ?_ | refine WQ.thenExit ?_ | refine WQ.thenRet ?_ | refine WQ.blk ?_ | refine WQ.blkRet ?_ | refine WQ.blkHere rfl ?_ | refine WQ.blkOther rfl ?_ | refine WL.pure rfl rfl rfl rfl ?_ | refine WL.on rfl rfl ?_ | refine WL.off rfl rfl rfl ?_ | refine WC.condTrue rfl ?_ | refine WC.condFalse rfl ?_)
  refine WL.as 10 (.int .u32 (p.length : Int)) rfl (congrArg (Value.int .u32) hw32) ?_
  refine WL.call rfl rfl rfl rfl rfl Try.func47 rfl (by kernel_rfl) (head_any p.length (by omega) w) ?_
  rintro _ w1 ⟨rfl, k1⟩
  refine ⟨_, rfl, ?_⟩
  refine WL.call rfl rfl rfl rfl rfl Try.func46 rfl (by kernel_rfl) (big_any _ w1) ?_
  rintro _ w2 ⟨b2, rfl, q2, k2, o2⟩
  refine ⟨_, rfl, ?_⟩
  have hhd : Crc.be4 ((p.length * 4294967296 + Crc.crcN (Crc.be4 p.length)) / 4294967296 % 4294967296) ++ Crc.be4 ((p.length * 4294967296 + Crc.crcN (Crc.be4 p.length)) % 4294967296) = Frm.headF p.length := by
    have hc := Crc.crcN_lt (Crc.be4 p.length)
    rw [show (p.length * 4294967296 + Crc.crcN (Crc.be4 p.length)) / 4294967296 % 4294967296 = p.length by omega, show (p.length * 4294967296 + Crc.crcN (Crc.be4 p.length)) % 4294967296 = Crc.crcN (Crc.be4 p.length) by omega]
    rfl
  rw [hhd] at q2
  have hw2 : Below w.heap.size w w2 := k1.trans (k2.mono k1.size)
  have o2' : ∀ g, b2.ownBlock = some g → w.heap.size ≤ g := fun g hg => Nat.le_trans k1.size (o2 g hg)
  repeat (first | ((with_reducible refine WL.topT ?_ ?_); omega) | ((with_reducible refine WL.topF ?_ ?_); omega) | ((with_reducible refine WL.top64 ?_ ?_); omega) | refine WC.seq ?_ | refine WC.block ?_ | refine WC.region ?_ | refine WL.nil ?_ | refine WC.skip ?_ | refine WC.exit ?_ | refine WC.ret ?_ | refine WQ.then rfl ?_ | refine WQ.thenExit ?_ | refine WQ.thenRet ?_ | refine WQ.blk ?_ | refine WQ.blkRet ?_ | refine WQ.blkHere rfl ?_ | refine WQ.blkOther rfl ?_ | refine WL.pure rfl rfl rfl rfl ?_ | refine WL.on rfl rfl ?_ | refine WL.off rfl rfl rfl ?_ | refine WC.condTrue rfl ?_ | refine WC.condFalse rfl ?_)
  refine WL.app rfl rfl rfl rfl rfl q2 rfl (hv.of_below hw2) (by rw [Frm.headF_len]; omega) fun b3 w3 q3 g3 => ?_
  have hw3 : Below w.heap.size w w3 := hw2.trans (g3.old hw2.size o2')
  have o3 : ∀ g, b3.ownBlock = some g → w.heap.size ≤ g := fun g hg => g3.own hw2.size o2' g hg
  clear g3
  have hH : Frm.Byt (Frm.headF p.length ++ p) := fun c hc => (List.mem_append.1 hc).elim (fun h => by unfold Frm.headF at h; exact (List.mem_append.1 h).elim (Crc.be4_byt _ c) (Crc.be4_byt _ c)) (hp c)
  have hHl : (Frm.headF p.length ++ p).length = p.length + 8 := by rw [List.length_append, Frm.headF_len]; omega
  repeat (first | ((with_reducible refine WL.topT ?_ ?_); omega) | ((with_reducible refine WL.topF ?_ ?_); omega) | ((with_reducible refine WL.top64 ?_ ?_); omega) | refine WC.seq ?_ | refine WC.block ?_ | refine WC.region ?_ | refine WL.nil ?_ | refine WC.skip ?_ | refine WC.exit ?_ | refine WC.ret ?_ | refine WQ.then rfl ?_ | refine WQ.thenExit ?_ | refine WQ.thenRet ?_ | refine WQ.blk ?_ | refine WQ.blkRet ?_ | refine WQ.blkHere rfl ?_ | refine WQ.blkOther rfl ?_ | refine WL.pure rfl rfl rfl rfl ?_ | refine WL.on rfl rfl ?_ | refine WL.off rfl rfl rfl ?_ | refine WC.condTrue rfl ?_ | refine WC.condFalse rfl ?_)
  refine WL.call rfl rfl rfl rfl rfl Try.func49 rfl (by kernel_rfl) (sum_any q3.sl hH (by omega)) ?_
  rintro _ w4 ⟨rfl, k4⟩
  refine ⟨_, rfl, ?_⟩
  refine WL.call rfl rfl rfl rfl rfl Try.func48 rfl (by kernel_rfl) (short_any _ w4) ?_
  rintro _ w5 ⟨b5, rfl, q5, k5, o5⟩
  refine ⟨_, rfl, ?_⟩
  have k45 : Below w3.heap.size w3 w5 := k4.trans (k5.mono k4.size)
  refine WL.app rfl rfl rfl rfl rfl (q3.below k45) rfl q5.sl (by rw [hHl]; show p.length + 8 + 4 ≤ _; omega) fun b6 w6 q6 g6 => ?_
  repeat (first | ((with_reducible refine WL.topT ?_ ?_); omega) | ((with_reducible refine WL.topF ?_ ?_); omega) | ((with_reducible refine WL.top64 ?_ ?_); omega) | refine WC.seq ?_ | refine WC.block ?_ | refine WC.region ?_ | refine WL.nil ?_ | refine WC.skip ?_ | refine WC.exit ?_ | refine WC.ret ?_ | refine WQ.then rfl ?_ | refine WQ.thenExit ?_ | refine WQ.thenRet ?_ | refine WQ.blk ?_ | refine WQ.blkRet ?_ | refine WQ.blkHere rfl ?_ | refine WQ.blkOther rfl ?_ | refine WL.pure rfl rfl rfl rfl ?_ | refine WL.on rfl rfl ?_ | refine WL.off rfl rfl rfl ?_ | refine WC.condTrue rfl ?_ | refine WC.condFalse rfl ?_)
  have hw5 : Below w.heap.size w w5 := hw3.trans (k45.mono hw3.size)
  refine WQ.ret2 rfl rfl rfl ⟨b6, rfl, ?_, hw5.trans (g6.old hw5.size o3), fun g hg => g6.own hw5.size o3 g hg⟩
  have : Frm.frameL p = Frm.headF p.length ++ p ++ Crc.be4 (Crc.crcN (Frm.headF p.length ++ p)) := by unfold Frm.frameL; rw [List.append_assoc]
  rw [this]
  exact q6
/-- What Decode of a frame tells. -/
def FdcOut (w : World) (l : List Int) : Ending → World → Prop := fun e w' => ∃ b, e = .returned (.tuple #[b, .int .i64 ((Frm.decF l).2.2 : Nat), .int .i64 (Frm.decF l).1]) ∧ Bu w' b (Frm.decF l).2.1 ∧ Below w.heap.size w w' ∧ ∀ g, b.ownBlock = some g → w.heap.size ≤ g
theorem FdcOut.bad {w w' : World} {l : List Int} {x : Int} (h : Frm.decF l = (x, [], 0)) (hB : Below w.heap.size w w') : FdcOut w l (.returned (.tuple #[.slice none 0 0, .int .i64 0, .int .i64 x])) w' := by
  unfold FdcOut
  rw [h]
  exact ⟨_, rfl, Bu.nil w', hB, fun g h => by cases h⟩
theorem head_any2 (n : Nat) (hn : n < 4294967296) {B : Int} (hB : B = ((n * 4294967296 + Crc.crcN (Crc.be4 n) : Nat) : Int)) (w : World) : Calls Try.prog 47 #[.int .u32 (n : Int)] w fun e w' => e = .returned (.int .u64 B) ∧ Below w.heap.size w w' := by
  subst hB
  exact head_any n hn w
set_option maxHeartbeats 400000 in
theorem fdec_any {w : World} {v : Value} {l : List Int} (hv : Sl .u8 w v l) (hb : Frm.Byt l) (hl : l.length ≤ 140737488355328) : Calls Try.prog 55 #[v] w (FdcOut w l) := by
  obtain ⟨sp, cap, rfl, h1, h2, -⟩ := id hv
  refine enter (args := [.slice sp l.length cap]) Try.func55 rfl Try.ntmps55 rfl ?_
  repeat (first | ((with_reducible refine WL.topT ?_ ?_); omega) | ((with_reducible refine WL.topF ?_ ?_); omega) | ((with_reducible refine WL.top64 ?_ ?_); omega) | refine WC.seq ?_ | refine WC.block ?_ | refine WC.region ?_ | refine WL.nil ?_ | refine WC.skip ?_ | refine WC.exit ?_ | refine WC.ret ?_ | refine WQ.then rfl ?_ | refine WQ.thenExit ?_ | refine WQ.thenRet ?_ | refine WQ.blk ?_ | refine WQ.blkRet ?_ | refine WQ.blkHere rfl ?_ | refine WQ.blkOther rfl ?_ | refine WL.pure rfl rfl rfl rfl ?_ | refine WL.on rfl rfl ?_ | refine WL.off rfl rfl rfl ?_ | refine WC.condTrue rfl ?_ | refine WC.condFalse rfl ?_)
  refine WL.call rfl rfl rfl rfl rfl Try.func69 rfl (by kernel_rfl) (readBig_any hv hb) ?_
  rintro _ w1 ⟨rfl, k1⟩
  refine ⟨_, rfl, ?_⟩
  have hv1 := hv.of_below k1
  by_cases c8 : l.length < 8
  · have e1 : rbV l = [.int .u64 0, .int .i64 2] := by unfold rbV; rw [if_pos c8]
    have e2 : Frm.decF l = (2, [], 0) := by unfold Frm.decF; rw [if_pos c8]
    rw [e1]
    repeat (first | ((with_reducible refine WL.topT ?_ ?_); omega) | ((with_reducible refine WL.topF ?_ ?_); omega) | ((with_reducible refine WL.top64 ?_ ?_); omega) | refine WC.seq ?_ | refine WC.block ?_ | refine WC.region ?_ | refine WL.nil ?_ | refine WC.skip ?_ | refine WC.exit ?_ | refine WC.ret ?_ | refine WQ.then rfl ?_ | refine WQ.thenExit ?_ | refine WQ.thenRet ?_ | refine WQ.blk ?_ | refine WQ.blkRet ?_ | refine WQ.blkHere rfl ?_ | refine WQ.blkOther rfl ?_ | refine WL.pure rfl rfl rfl rfl ?_ | refine WL.on rfl rfl ?_ | refine WL.off rfl rfl rfl ?_ | refine WC.condTrue rfl ?_ | refine WC.condFalse rfl ?_)
    exact WQ.ret3w rfl rfl rfl rfl (FdcOut.bad e2 k1)
  obtain ⟨A, hA⟩ : ∃ A : Int, A = ((Crc.num4 l * 4294967296 + Crc.num4 (l.drop 4) : Nat) : Int) := ⟨_, rfl⟩
  have e1 : rbV l = [.int .u64 A, .int .i64 0] := by unfold rbV; rw [if_neg c8, hA]
  rw [e1]
  have hbd : Frm.Byt (l.drop 4) := fun c hc => hb c (List.mem_of_mem_drop hc)
  have hn := Crc.num4_lt l hb
  have hm := Crc.num4_lt _ hbd
  have hcs := Crc.crcN_lt (Crc.be4 (Crc.num4 l))
  have hdef : Frm.decF l = (if Crc.num4 (l.drop 4) ≠ Crc.crcN (Crc.be4 (Crc.num4 l)) then (4, [], 0)
    else if 524288 < Crc.num4 l then (5, [], 0)
    else if l.length < Crc.num4 l + 12 then (2, [], 0)
    else if Crc.num4 (l.drop (8 + Crc.num4 l)) ≠ Crc.crcN (l.take (8 + Crc.num4 l)) then (4, [], 0)
    else (0, (l.take (8 + Crc.num4 l)).drop 8, Crc.num4 l + 12)) := by
    conv => lhs; unfold Frm.decF
    rw [if_neg c8]
  generalize hN : Crc.num4 l = N at hA hn hcs hdef ⊢
  generalize hM : Crc.num4 (l.drop 4) = M at hA hm hdef ⊢
  have x1 : IntKind.u32.wrap (A / ((2 ^ min 32 IntKind.u64.bits : Nat) : Int)) = (N : Int) := by
    rw [hA]
    rw [show ((2 ^ min 32 IntKind.u64.bits : Nat) : Int) = 4294967296 from rfl, IntKind.wrap_u32]; omega
  repeat (first | ((with_reducible refine WL.topT ?_ ?_); omega) | ((with_reducible refine WL.topF ?_ ?_); omega) | ((with_reducible refine WL.top64 ?_ ?_); omega) | refine WC.seq ?_ | refine WC.block ?_ | refine WC.region ?_ | refine WL.nil ?_ | refine WC.skip ?_ | refine WC.exit ?_ | refine WC.ret ?_ | refine WQ.then rfl ?_ | refine WQ.thenExit ?_ | refine WQ.thenRet ?_ | refine WQ.blk ?_ | refine WQ.blkRet ?_ | refine WQ.blkHere rfl ?_ | refine WQ.blkOther rfl ?_ | refine WL.pure rfl rfl rfl rfl ?_ | refine WL.on rfl rfl ?_ | refine WL.off rfl rfl rfl ?_ | refine WC.condTrue rfl ?_ | refine WC.condFalse rfl ?_)
  refine WL.as 7 (.int .u32 (N : Int)) rfl (congrArg (Value.int .u32) x1) ?_
  refine WL.as 24 (.int .u32 (N : Int)) rfl (congrArg (Value.int .u32) x1) ?_
  obtain ⟨B, hB⟩ : ∃ B : Int, B = ((N * 4294967296 + Crc.crcN (Crc.be4 N) : Nat) : Int) := ⟨_, rfl⟩
  have hhd := head_any2 N hn hB w1
  repeat (first | ((with_reducible refine WL.topT ?_ ?_); omega) | ((with_reducible refine WL.topF ?_ ?_); omega) | ((with_reducible refine WL.top64 ?_ ?_); omega) | refine WC.seq ?_ | refine WC.block ?_ | refine WC.region ?_ | refine WL.nil ?_ | refine WC.skip ?_ | refine WC.exit ?_ | refine WC.ret ?_ | refine WQ.then rfl ?_ | refine WQ.thenExit ?_ | refine WQ.thenRet ?_ | refine WQ.blk ?_ | refine WQ.blkRet ?_ | refine WQ.blkHere rfl ?_ | refine WQ.blkOther rfl ?_ | refine WL.pure rfl rfl rfl rfl ?_ | refine WL.on rfl rfl ?_ | refine WL.off rfl rfl rfl ?_ | refine WC.condTrue rfl ?_ | refine WC.condFalse rfl ?_)
  refine WL.call rfl rfl rfl rfl rfl Try.func47 rfl (by kernel_rfl) hhd ?_
  rintro _ w2 ⟨rfl, k2⟩
  refine ⟨_, rfl, ?_⟩
  have hw2 : Below w.heap.size w w2 := k1.trans (k2.mono k1.size)
  have hv2 := hv.of_below hw2
  clear k1 k2 hv1
  generalize hC : Crc.crcN (Crc.be4 N) = C at hB hcs hdef ⊢
  by_cases c1 : ¬ M = C
  · rw [if_pos c1] at hdef
    have hne : A ≠ B := by omega
    clear hA hB
    repeat (first | ((with_reducible refine WL.topT ?_ ?_); omega) | ((with_reducible refine WL.topF ?_ ?_); omega) | ((with_reducible refine WL.top64 ?_ ?_); omega) | refine WC.seq ?_ | refine WC.block ?_ | refine WC.region ?_ | refine WL.nil ?_ | refine WC.skip ?_ | refine WC.exit ?_ | refine WC.ret ?_ | refine WQ.then rfl ?_ | refine WQ.thenExit ?_ | refine WQ.thenRet ?_ | refine WQ.blk ?_ | refine WQ.blkRet ?_ | refine WQ.blkHere rfl ?_ | refine WQ.blkOther rfl ?_ | refine WL.pure rfl rfl rfl rfl ?_ | refine WL.on rfl rfl ?_ | refine WL.off rfl rfl rfl ?_ | refine WC.condTrue rfl ?_ | refine WC.condFalse rfl ?_)
    exact WQ.ret3w rfl rfl rfl rfl (FdcOut.bad hdef hw2)
  rw [if_neg c1] at hdef
  replace c1 : M = C := by omega
  have heq : A = B := by rw [hA, hB, c1]
  clear hA hB hhd x1
  by_cases c2 : 524288 < N
  · rw [if_pos c2] at hdef
    repeat (first | ((with_reducible refine WL.topT ?_ ?_); omega) | ((with_reducible refine WL.topF ?_ ?_); omega) | ((with_reducible refine WL.top64 ?_ ?_); omega) | refine WC.seq ?_ | refine WC.block ?_ | refine WC.region ?_ | refine WL.nil ?_ | refine WC.skip ?_ | refine WC.exit ?_ | refine WC.ret ?_ | refine WQ.then rfl ?_ | refine WQ.thenExit ?_ | refine WQ.thenRet ?_ | refine WQ.blk ?_ | refine WQ.blkRet ?_ | refine WQ.blkHere rfl ?_ | refine WQ.blkOther rfl ?_ | refine WL.pure rfl rfl rfl rfl ?_ | refine WL.on rfl rfl ?_ | refine WL.off rfl rfl rfl ?_ | refine WC.condTrue rfl ?_ | refine WC.condFalse rfl ?_)
    exact WQ.ret3w rfl rfl rfl rfl (FdcOut.bad hdef hw2)
  rw [if_neg c2] at hdef
  by_cases c3 : l.length < N + 12
  · rw [if_pos c3] at hdef
    repeat (first | ((with_reducible refine WL.topT ?_ ?_); omega) | ((with_reducible refine WL.topF ?_ ?_); omega) | ((with_reducible refine WL.top64 ?_ ?_); omega) | refine WC.seq ?_ | refine WC.block ?_ | refine WC.region ?_ | refine WL.nil ?_ | refine WC.skip ?_ | refine WC.exit ?_ | refine WC.ret ?_ | refine WQ.then rfl ?_ | refine WQ.thenExit ?_ | refine WQ.thenRet ?_ | refine WQ.blk ?_ | refine WQ.blkRet ?_ | refine WQ.blkHere rfl ?_ | refine WQ.blkOther rfl ?_ | refine WL.pure rfl rfl rfl rfl ?_ | refine WL.on rfl rfl ?_ | refine WL.off rfl rfl rfl ?_ | refine WC.condTrue rfl ?_ | refine WC.condFalse rfl ?_)
    exact WQ.ret3w rfl rfl rfl rfl (FdcOut.bad hdef hw2)
  rw [if_neg c3] at hdef
  repeat (first | ((with_reducible refine WL.topT ?_ ?_); omega) | ((with_reducible refine WL.topF ?_ ?_); omega) | ((with_reducible refine WL.top64 ?_ ?_); omega) | refine WC.seq ?_ | refine WC.block ?_ | refine WC.region ?_ | refine WL.nil ?_ | refine WC.skip ?_ | refine WC.exit ?_ | refine WC.ret ?_ | refine WQ.then rfl ?_ | refine WQ.thenExit ?_ | refine WQ.thenRet ?_ | refine WQ.blk ?_ | refine WQ.blkRet ?_ | refine WQ.blkHere rfl ?_ | refine WQ.blkOther rfl ?_ | refine WL.pure rfl rfl rfl rfl ?_ | refine WL.on rfl rfl ?_ | refine WL.off rfl rfl rfl ?_ | refine WC.condTrue rfl ?_ | refine WC.condFalse rfl ?_)
  refine WL.upto rfl rfl rfl rfl rfl rfl rfl (by omega) (by omega) hv2 fun v3 hv3 => ?_
  have hz3 : ((8 : Int) + (N : Int)).toNat = 8 + N := by omega
  rw [hz3] at hv3
  have hl3 : (l.take (8 + N)).length = 8 + N := by rw [List.length_take]; omega
  obtain ⟨sp3, cap3, rfl, -⟩ := id hv3
  repeat (first | ((with_reducible refine WL.topT ?_ ?_); omega) | ((with_reducible refine WL.topF ?_ ?_); omega) | ((with_reducible refine WL.top64 ?_ ?_); omega) | refine WC.seq ?_ | refine WC.block ?_ | refine WC.region ?_ | refine WL.nil ?_ | refine WC.skip ?_ | refine WC.exit ?_ | refine WC.ret ?_ | refine WQ.then rfl ?_ | refine WQ.thenExit ?_ | refine WQ.thenRet ?_ | refine WQ.blk ?_ | refine WQ.blkRet ?_ | refine WQ.blkHere rfl ?_ | refine WQ.blkOther rfl ?_ | refine WL.pure rfl rfl rfl rfl ?_ | refine WL.on rfl rfl ?_ | refine WL.off rfl rfl rfl ?_ | refine WC.condTrue rfl ?_ | refine WC.condFalse rfl ?_)
  refine WL.from rfl rfl rfl rfl rfl rfl rfl (by omega) (by rw [hl3]; omega) hv2 fun v4 hv4 => ?_
  have hz4 : (((l.take (8 + N)).length : Nat) : Int).toNat = 8 + N := by omega
  rw [hz4] at hv4
  have hbd4 : Frm.Byt (l.drop (8 + N)) := fun c hc => hb c (List.mem_of_mem_drop hc)
  refine WL.call rfl rfl rfl rfl rfl Try.func70 rfl (by kernel_rfl) (readShort_any hv4 hbd4) ?_
  rintro _ w3 ⟨rfl, k3⟩
  refine ⟨_, rfl, ?_⟩
  have e4 : rsV (l.drop (8 + N)) = [.int .u32 (Crc.num4 (l.drop (8 + N)) : Nat), .int .i64 0] := by unfold rsV; rw [if_neg (by rw [List.length_drop]; omega)]
  rw [e4]
  have hw3 : Below w.heap.size w w3 := hw2.trans (k3.mono hw2.size)
  have hv33 := hv3.of_below k3
  repeat (first | ((with_reducible refine WL.topT ?_ ?_); omega) | ((with_reducible refine WL.topF ?_ ?_); omega) | ((with_reducible refine WL.top64 ?_ ?_); omega) | refine WC.seq ?_ | refine WC.block ?_ | refine WC.region ?_ | refine WL.nil ?_ | refine WC.skip ?_ | refine WC.exit ?_ | refine WC.ret ?_ | refine WQ.then rfl ?_ | refine WQ.thenExit ?_ | refine WQ.thenRet ?_ | refine WQ.blk ?_ | refine WQ.blkRet ?_ | refine WQ.blkHere rfl ?_ | refine WQ.blkOther rfl ?_ | refine WL.pure rfl rfl rfl rfl ?_ | refine WL.on rfl rfl ?_ | refine WL.off rfl rfl rfl ?_ | refine WC.condTrue rfl ?_ | refine WC.condFalse rfl ?_)
  have hbt : Frm.Byt (l.take (8 + N)) := fun c hc => hb c (List.mem_of_mem_take hc)
  refine WL.call rfl rfl rfl rfl rfl Try.func49 rfl (by kernel_rfl) (sum_any hv33 hbt (by omega)) ?_
  rintro _ w4 ⟨rfl, k4⟩
  refine ⟨_, rfl, ?_⟩
  have hw4 : Below w.heap.size w w4 := hw3.trans (k4.mono hw3.size)
  have hv34 := hv33.of_below k4
  generalize Crc.num4 (l.drop (8 + N)) = x at hdef ⊢
  generalize Crc.crcN (l.take (8 + N)) = y at hdef ⊢
  by_cases c4 : x ≠ y
  · rw [if_pos c4] at hdef
    repeat (first | ((with_reducible refine WL.topT ?_ ?_); omega) | ((with_reducible refine WL.topF ?_ ?_); omega) | ((with_reducible refine WL.top64 ?_ ?_); omega) | refine WC.seq ?_ | refine WC.block ?_ | refine WC.region ?_ | refine WL.nil ?_ | refine WC.skip ?_ | refine WC.exit ?_ | refine WC.ret ?_ | refine WQ.then rfl ?_ | refine WQ.thenExit ?_ | refine WQ.thenRet ?_ | refine WQ.blk ?_ | refine WQ.blkRet ?_ | refine WQ.blkHere rfl ?_ | refine WQ.blkOther rfl ?_ | refine WL.pure rfl rfl rfl rfl ?_ | refine WL.on rfl rfl ?_ | refine WL.off rfl rfl rfl ?_ | refine WC.condTrue rfl ?_ | refine WC.condFalse rfl ?_)
    exact WQ.ret3w rfl rfl rfl rfl (FdcOut.bad hdef hw4)
  rw [if_neg c4] at hdef
  repeat (first | ((with_reducible refine WL.topT ?_ ?_); omega) | ((with_reducible refine WL.topF ?_ ?_); omega) | ((with_reducible refine WL.top64 ?_ ?_); omega) | refine WC.seq ?_ | refine WC.block ?_ | refine WC.region ?_ | refine WL.nil ?_ | refine WC.skip ?_ | refine WC.exit ?_ | refine WC.ret ?_ | refine WQ.then rfl ?_ | refine WQ.thenExit ?_ | refine WQ.thenRet ?_ | refine WQ.blk ?_ | refine WQ.blkRet ?_ | refine WQ.blkHere rfl ?_ | refine WQ.blkOther rfl ?_ | refine WL.pure rfl rfl rfl rfl ?_ | refine WL.on rfl rfl ?_ | refine WL.off rfl rfl rfl ?_ | refine WC.condTrue rfl ?_ | refine WC.condFalse rfl ?_)
  refine WL.from rfl rfl rfl rfl rfl rfl rfl (by omega) (by rw [hl3]; omega) hv34 fun v5 hv5 => ?_
  rw [show (8 : Int).toNat = 8 from rfl] at hv5
  have hl5 : ((l.take (8 + N)).drop 8).length = N := by rw [List.length_drop]; omega
  refine WL.call rfl rfl rfl rfl rfl Try.func71 rfl (by kernel_rfl) (bclone_any hv5 (by omega)) ?_
  rintro _ w5 ⟨b5, rfl, q5, k5, o5⟩
  refine ⟨_, rfl, ?_⟩
  repeat (first | ((with_reducible refine WL.topT ?_ ?_); omega) | ((with_reducible refine WL.topF ?_ ?_); omega) | ((with_reducible refine WL.top64 ?_ ?_); omega) | refine WC.seq ?_ | refine WC.block ?_ | refine WC.region ?_ | refine WL.nil ?_ | refine WC.skip ?_ | refine WC.exit ?_ | refine WC.ret ?_ | refine WQ.then rfl ?_ | refine WQ.thenExit ?_ | refine WQ.thenRet ?_ | refine WQ.blk ?_ | refine WQ.blkRet ?_ | refine WQ.blkHere rfl ?_ | refine WQ.blkOther rfl ?_ | refine WL.pure rfl rfl rfl rfl ?_ | refine WL.on rfl rfl ?_ | refine WL.off rfl rfl rfl ?_ | refine WC.condTrue rfl ?_ | refine WC.condFalse rfl ?_)
  refine WQ.ret3w rfl rfl rfl rfl ?_
  unfold FdcOut
  rw [hdef]
  refine ⟨b5, ?_, q5, hw4.trans (k5.mono hw4.size), fun g hg => Nat.le_trans hw4.size (o5 g hg)⟩
  have hfin : (((l.take (8 + N)).length : Nat) : Int) + 4 = ((N + 12 : Nat) : Int) := by omega
  show Ending.returned (.tuple #[b5, .int .i64 ((((l.take (8 + N)).length : Nat) : Int) + 4), .int .i64 0]) = _
  rw [hfin]
end K
end Go.Proofs.Ytdkkaliiofcflaa
