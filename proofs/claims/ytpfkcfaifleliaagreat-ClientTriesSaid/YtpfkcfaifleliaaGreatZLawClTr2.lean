/- Texts for LawClTr, part 2 of 6. -/
import Derived.Test.YtpfkcfaifleliaaGreatZLawClTr1
import Derived.Laws.CopyRow
import Derived.ProofKit
import Derived.OpenShut
import Derived.ShutString
import Derived.ChangeOld
import Derived.Below
import Derived.Deep.Slices
import Derived.Deep.MidRow
import Derived.Laws.Bits64b
import Derived.Laws.BitsLemmas
import Derived.Laws.BitsAllLaws
namespace Go.Proofs.YtpfkcfaifleliaaGreat
open Go.RowKit
namespace K
variable {n : NN} {Q : Exit → Act → World → Prop} {l : Env} {w w' : World} {ops : Array Oper} {o : Oper} {rest : List Oper} {d : Nat}

def Els {α : Type} (m : Nat) (z : α) (P : α → List Value → Prop) (O : Nat → Prop) (w : World) (v : Value) (l : List α) : Prop :=
  ∃ sp cap, v = .slice sp l.length cap ∧ l.length ≤ cap ∧ cap ≤ 9223372036854775807 ∧ (sp = none → cap = 0) ∧
    (0 < l.length → ∃ b o, sp = some ⟨b, o, none⟩ ∧ b < w.heap.size ∧ O b ∧ ∀ j, j < l.length → ∃ cs, cs.length = m ∧ P (l.getD j z) cs ∧ w.rangeAt b (o + j * m) cs)
theorem Els.nil {α : Type} (m : Nat) (z : α) (P : α → List Value → Prop) (O : Nat → Prop) (w : World) : Els m z P O w (.slice none 0 0) [] :=
  ⟨none, 0, rfl, Nat.le_refl _, by omega, fun _ => rfl, fun h => absurd h (by simp)⟩
theorem Els.keep {α : Type} {m : Nat} {z : α} {P P' : α → List Value → Prop} {O O' : Nat → Prop} {w w' : World} {v : Value} {l : List α} (h : Els m z P O w v l) {K : Nat → Prop} (hk : Keep K w w') (hK : ∀ b, O b → b < w.heap.size → K b)
    (hO : ∀ b, O b → O' b) (hP : ∀ x cs, P x cs → P' x cs) : Els m z P' O' w' v l := by
  obtain ⟨sp, cap, h1, h2, h3, h5, h4⟩ := h; refine ⟨sp, cap, h1, h2, h3, h5, fun h0 => ?_⟩; obtain ⟨b, o, e, hlt, hOb, hr⟩ := h4 h0; refine ⟨b, o, e, Nat.lt_of_lt_of_le hlt hk.size, hO b hOb, fun j hj => ?_⟩; obtain ⟨cs, hc, hp, hat⟩ := hr j hj; exact ⟨cs, hc, hP _ _ hp, fun i u hu => by rw [hk.cell (p := ⟨b, o + j * m + i, none⟩) (hK b hOb hlt)]; exact hat i u hu⟩
theorem Els.mono {α : Type} {m : Nat} {z : α} {P P' : α → List Value → Prop} {O O' : Nat → Prop} {w : World} {v : Value} {l : List α} (h : Els m z P O w v l) (hO : ∀ b, O b → O' b) (hP : ∀ x cs, P x cs → P' x cs) : Els m z P' O' w v l :=
  h.keep (Keep.refl (fun _ => True) w) (fun _ _ _ => trivial) hO hP

def OwnE {α : Type} (e : TypeId) (m : Nat) (z : α) (P : α → List Value → Prop) (O : Nat → Prop) (w : World) (v : Value) (l : List α) : Prop :=
  ∃ kcs : List (List Value), kcs.length = l.length ∧ (∀ j, j < l.length → (kcs.getD j []).length = m ∧ P (l.getD j z) (kcs.getD j [])) ∧ OwnV e m w O v l.length kcs.flatten
theorem OwnE.nil {α : Type} (e : TypeId) (m : Nat) (z : α) (P : α → List Value → Prop) (O : Nat → Prop) (w : World) : OwnE e m z P O w (.slice none 0 0) [] := ⟨[], rfl, fun j hj => absurd hj (by simp), OwnV.nil _ _ _ _⟩
theorem OwnE.keep {α : Type} {e : TypeId} {m : Nat} {z : α} {P P' : α → List Value → Prop} {O O' : Nat → Prop} {w w' : World} {v : Value} {l : List α} (h : OwnE e m z P O w v l) {K : Nat → Prop} (hk : Keep K w w') (hK : ∀ g, v.ownBlock = some g → K g)
    (hO : ∀ b, O b → O' b) (hP : ∀ x cs, P x cs → P' x cs) : OwnE e m z P' O' w' v l := by
  obtain ⟨kcs, h1, h2, h3⟩ := h; exact ⟨kcs, h1, fun j hj => ⟨(h2 j hj).1, hP _ _ (h2 j hj).2⟩, (h3.keep hk hK).mono hO⟩
theorem OwnE.lt {α : Type} {e : TypeId} {m : Nat} {z : α} {P : α → List Value → Prop} {O : Nat → Prop} {w : World} {v : Value} {l : List α} (h : OwnE e m z P O w v l) {g : Nat} (hg : v.ownBlock = some g) : g < w.heap.size := by
  obtain ⟨kcs, -, -, h3⟩ := h; exact h3.lt hg
theorem OwnE.own {α : Type} {e : TypeId} {m : Nat} {z : α} {P : α → List Value → Prop} {O : Nat → Prop} {w : World} {v : Value} {l : List α} (h : OwnE e m z P O w v l) {g : Nat} (hg : v.ownBlock = some g) : O g := by
  obtain ⟨kcs, -, -, h3⟩ := h; exact h3.own hg
theorem OwnE.one {α : Type} {e : TypeId} {m : Nat} {z : α} {P : α → List Value → Prop} {O : Nat → Prop} {w : World} {v : Value} {l : List α} (h : OwnE e m z P O w v l) : v.oneCell' = true := by
  obtain ⟨kcs, -, -, h3⟩ := h; obtain ⟨sp, c, rfl, -⟩ := h3.slice; rfl
theorem flatten_get {m : Nat} : ∀ (k : List (List Value)), (∀ x ∈ k, x.length = m) → ∀ j i, j < k.length → i < m → k.flatten[j * m + i]? = (k.getD j [])[i]?
  | [], _, j, i, hj, _ => by simp at hj
  | x :: k, hx, j, i, hj, hi => by
    have h0 := hx x (by simp); cases j with
    | zero => simp only [List.flatten_cons, List.getD_cons_zero, Nat.zero_mul, Nat.zero_add]; rw [List.getElem?_append_left (by omega)]
    | succ j =>
      simp only [List.flatten_cons, List.getD_cons_succ]; rw [List.getElem?_append_right (by rw [h0, Nat.succ_mul]; omega), h0, show (j + 1) * m + i - m = j * m + i by rw [Nat.succ_mul]; omega]; exact flatten_get k (fun y hy => hx y (by simp [hy])) j i (by simpa using hj) hi
theorem all_of_getD {m : Nat} {k : List (List Value)} (h : ∀ j, j < k.length → (k.getD j []).length = m) : ∀ x ∈ k, x.length = m := by
  intro x hx; obtain ⟨j, hj, rfl⟩ := List.getElem_of_mem hx; have := h j hj
  simpa [hj] using this
theorem OwnE.els {α : Type} {e : TypeId} {m : Nat} {z : α} {P : α → List Value → Prop} {O : Nat → Prop} {w : World} {v : Value} {l : List α} (h : OwnE e m z P O w v l) : Els m z P O w v l := by
  obtain ⟨kcs, h1, h2, h3⟩ := h; obtain ⟨q1, q2, sp, cap, rfl, h4, h5, h6, h7⟩ := h3.slV; refine ⟨sp, cap, rfl, h4, h5, h6, fun h0 => ?_⟩; obtain ⟨b, o, e, hb, hO, hr⟩ := h7 h0; have hall := all_of_getD (k := kcs) (m := m) fun j hj => (h2 j (by omega)).1; refine ⟨b, o, e, hb, hO, fun j hj => ⟨kcs.getD j [], (h2 j hj).1, (h2 j hj).2, fun i u hu => ?_⟩⟩; have him : i < m := by
    rcases Nat.lt_or_ge i m with h | h
    · exact h
    · rw [List.getElem?_eq_none (by rw [(h2 j hj).1]; exact h)] at hu; cases hu
  have hg := flatten_get kcs hall j i (by omega) him; have hlt : j * m + i < kcs.flatten.length := by
    rcases Nat.lt_or_ge (j * m + i) kcs.flatten.length with h | h
    · exact h
    · rw [List.getElem?_eq_none h, hu] at hg; cases hg
  have := hr (j * m + i) hlt; rw [Nat.add_assoc, this, List.getD_eq_getElem?_getD, hg, hu]
  rfl
theorem OwnE.snoc {α : Type} {e : TypeId} {m : Nat} {z : α} {P : α → List Value → Prop} {O : Nat → Prop} {w' : World} {v' : Value} {l : List α} {kcs : List (List Value)} {x : α} {cs : List Value} (h1 : kcs.length = l.length) (h2 : ∀ j, j < l.length → (kcs.getD j []).length = m ∧ P (l.getD j z) (kcs.getD j []))
    (hc : cs.length = m) (hp : P x cs) (h : OwnV e m w' O v' (l.length + 1) (kcs.flatten ++ cs)) : OwnE e m z P O w' v' (l ++ [x]) := by
  refine ⟨kcs ++ [cs], by simp [h1], fun j hj => ?_, ?_⟩
  · rcases Nat.lt_or_ge j l.length with hl | hl
    · have := h2 j hl
      simp only [List.getD_eq_getElem?_getD] at this ⊢; rw [List.getElem?_append_left (by omega), List.getElem?_append_left (by omega)]; exact this
    · obtain rfl : j = l.length := by simp at hj; omega
      simp only [List.getD_eq_getElem?_getD]; rw [List.getElem?_append_right (by omega), List.getElem?_append_right (by omega), h1]; simp [hc, hp]
  · rw [List.length_append, List.length_singleton, List.flatten_append]
    simpa using h

theorem WL.lit1 {t e s : Nat} {x : Operand} {u : Value} {cs : List Value} (hg : o.guard = none) (hd : o.dst = some d) (hn : Nat.blt d n.n = true) (ho : o.op = .buildSlice t 1 #[(0, x)]) (ht : tyOf ty t = some (.slice e s))
    (hx : evl l x = some u) (hu : u.cells = cs.toArray) (hcs : cs.length = s) (hs : 0 < s ∧ s ≤ 1000) (hz : (Tryz.prog.info? e).bind (fun i => i.zero.map fun _ => i.size) = some s) (h : ∀ g w', Fresh w g w' e cs → WL n ops Q rest ((d, .slice (some ⟨g, 0, none⟩) 1 1) :: l) w') : WL n ops Q (o :: rest) l w :=
  WL.step hg hd hn (fun a ha => by
    obtain ⟨ie, hie, hz⟩ := Option.bind_eq_some_iff.1 hz; obtain ⟨z, hz, hsz⟩ := Option.map_eq_some_iff.1 hz; unfold execOp; rw [ho]; have e2 := Great.fill_whole (s := s) hs.1 [u] ((Array.range (1 * s)).map (z.cells[· % z.cells.size]!)) (by intro v hv; simp at hv; rw [hv, hu]; simpa using hcs) (by simp); have := run_buildSlice (P := Tryz.prog) w t e 1 (#[(0, x)].map fun (p : Nat × Operand) => (p.1, a.eval p.2)) cs.toArray ie z (TyOk.of tyOk ht).1 hie hz (by rw [hsz]; omega) (by rw [hsz]; omega) (by
      rw [hsz]; simp only [List.map_toArray, List.map_cons, List.map_nil, ha.eval hx]; refine Eq.trans e2 ?_; simp [hu])
    simp only [Sem.run_bind, this, Result.andThen_ok]
    rfl) (h _ _ (Fresh.mk' w e cs))
theorem WL.empty {t e s : Nat} (hg : o.guard = none) (hd : o.dst = some d) (hn : Nat.blt d n.n = true) (ho : o.op = .buildSlice t 0 #[]) (ht : tyOf ty t = some (.slice e s))
    (h : ∀ g w', Fresh w g w' e [] → WL n ops Q rest ((d, .slice (some ⟨g, 0, none⟩) 0 0) :: l) w') : WL n ops Q (o :: rest) l w :=
  WL.step hg hd hn (fun a _ => by
    obtain ⟨hu, hsz⟩ := TyOk.of tyOk ht; have hs : (sizeOf e).run Tryz.prog w = .ok s w := by
      cases hq : Tryz.prog.info? e with
      | none => rw [hq] at hsz; cases hsz
      | some q => rw [hq] at hsz; simp at hsz; simp [sizeOf, typeInfo, hq, hsz]
    unfold execOp; rw [ho]; simp [Instr.buildSlice, run_underlying hu, hs, Instr.fill, newRow]
    rw [show (Array.range 0) = #[] from by decide]; simp) (h _ _ (Fresh.mk' w e []))
theorem Bu.ofFresh {w w' : World} {g : Nat} (h : Fresh w g w' 5 []) : Bu w' (.slice (some ⟨g, 0, none⟩) 0 0) [] :=
  ⟨by simp, .inr ⟨g, 0, #[], rfl, Nat.zero_le _, h.blk, Nat.le_refl _, by unfold maxLen; omega, by simp, by simp⟩⟩
theorem WL.snoc {α : Type} {s x : Operand} {t e : TypeId} {m bytes : Nat} {z : α} {P : α → List Value → Prop} {O : Nat → Prop} {v : Value} {k : List α} {y : α} {cs : List Value} {g : Nat} (hg : o.guard = none) (hd : o.dst = some d) (hn : Nat.blt d n.n = true)
    (ho : o.op = .call { callee := .builtin .append, args := #[s, x], argTypes := #[t, t] }) (E : ElemV Tryz.prog t e m bytes) (hs : evl l s = some v) (hown : OwnE e m z P O w v k) (hx : evl l x = some (.slice (some ⟨g, 0, none⟩) 1 1))
    (hf : VBlk e w g cs) (h1 : Ones cs) (hc : cs.length = m) (hp : P y cs) (hb : (k.length + 1) * bytes ≤ 140737488355328) (hb1 : k.length + 1 ≤ 140737488355328)
    (h : ∀ v' w', OwnE e m z P (fun b => O b ∨ b = w.heap.size) w' v' (k ++ [y]) → Grow w v w' v' → WL n ops Q rest ((d, v') :: l) w') : WL n ops Q (o :: rest) l w := by
  obtain ⟨kcs, h2, h3, h4⟩ := hown; have hsl : SlV w (fun b => b = g) m (.slice (some ⟨g, 0, none⟩) 1 1) 1 cs := ⟨by rw [hc, Nat.one_mul], h1, _, 1, rfl, Nat.le_refl _, by omega, (fun h => by cases h), fun _ => ⟨g, 0, rfl, hf.lt, rfl, RowV.of_vblk hf⟩⟩; refine WL.appV hg hd hn ho E hs h4 hx hsl hb hb1 fun v' w' h5 h6 => h v' w' ?_ h6; exact OwnE.snoc h2 h3 hc hp h5
end K
end Go.Proofs.YtpfkcfaifleliaaGreat

namespace Go.Proofs.YtpfkcfaifleliaaGreat
open Go.RowKit
namespace K
variable {n : NN} {Q : Exit → Act → World → Prop} {l : Env} {w w' : World} {ops : Array Oper} {o : Oper} {rest : List Oper} {d : Nat}
theorem WL.storeMid {t mm T b off : Nat} {x y : Operand} {m cs : List Value} (hg : o.guard = none) (hd : o.dst = none) (ho : o.op = .store t x y) (hx : evl l x = some (.pointer (some ⟨b, off, none⟩))) (hy : evl l y = some (.agg m.toArray))
    (ht : cellsN (tyOf ty t) = some mm) (hb : VBlk T w b cs) (hm : m.length = mm) (hfit : off + mm ≤ cs.length) (h1 : Ones m) (h : WL n ops Q rest l (w.setRow b (cs.take off ++ m ++ cs.drop (off + mm)).toArray)) : WL n ops Q (o :: rest) l w :=
  WL.stepU hg hd (fun a ha => by
    obtain ⟨_, -, -, hsz⟩ := cellsN_ok tyOk ht; have hs : (sizeOf t).run Tryz.prog w = .ok mm w := by
      cases hq : Tryz.prog.info? t with
      | none => rw [hq] at hsz; cases hsz
      | some q => rw [hq] at hsz; simp at hsz; simp [sizeOf, typeInfo, hq, hsz]
    have hrun := run_storeCells_at (P := Tryz.prog) b off T m 0 cs.toArray w hb (by simp only [List.size_toArray]; omega) h1; simp only [Nat.add_zero] at hrun; subst hm; unfold execOp; rw [ho]; simp [ha.eval hx, ha.eval hy, Instr.storeAt, Instr.sureAddr, storeVar, hs, Value.cells, hrun]) h
theorem all_run {a : Act} {t e s m b off : Nat} {x : Operand} (ho : o.op = .slice t x none none none) (ht : tyOf ty t = some (.arr m e s)) (hx : a.eval x = .pointer (some ⟨b, off, none⟩)) : (execOp a.eval o).run Tryz.prog w = .ok (.value (.slice (some ⟨b, off, none⟩) m m)) w := by
  obtain ⟨hu, hse, -⟩ := TyOk.of tyOk ht; have h1 : Tryz.prog.elem t = e := by simp [Program.elem, hu]
  have h2 : Tryz.prog.arrayLen t = m := by simp [Program.arrayLen, hu]
  have hs : (sizeOf e).run Tryz.prog w = .ok s w := by
    cases hq : Tryz.prog.info? e with
    | none => rw [hq] at hse; cases hse
    | some q => rw [hq] at hse; simp at hse; simp [sizeOf, typeInfo, hq, hse]
  have hr := run_sliceAt_array_all (P := Tryz.prog) w t ⟨b, off, none⟩ (by rw [h1, h2]; exact hu); unfold execOp; rw [ho]; have ha : slicedAt ⟨b, off, none⟩ 0 m m s = .slice (some ⟨b, off, none⟩) m m := by
    unfold slicedAt
    by_cases h0 : m = 0
    · rw [if_pos h0]; simp
    · rw [if_neg h0, Nat.zero_mul]; rfl
  simp [hx, hr, h1, h2, hs, ha]
theorem WL.all {t e s m b off : Nat} {x : Operand} (hg : o.guard = none) (hd : o.dst = some d) (hn : Nat.blt d n.n = true) (ho : o.op = .slice t x none none none) (ht : tyOf ty t = some (.arr m e s)) (hx : evl l x = some (.pointer (some ⟨b, off, none⟩)))
    (h : WL n ops Q rest ((d, .slice (some ⟨b, off, none⟩) m m) :: l) w) : WL n ops Q (o :: rest) l w := WL.step hg hd hn (fun _ ha => all_run ho ht (ha.eval hx)) h
section
variable {S : World → Prop} {m fuel : Nat} {listed : Array Bool}
theorem WD.all {oi : Oper} {t e s mm b off : Nat} {x : Operand} (i : Nat) (hi : ops[i]? = some oi) (hs : mayB ops listed i m = true) (hd : oi.dst = some d) (hn : Nat.blt d n.n = true) (hQ : Passes Q) (hw : wants ops l oi = some true)
    (ho : oi.op = .slice t x none none none) (ht : tyOf ty t = some (.arr mm e s)) (hx : evl l x = some (.pointer (some ⟨b, off, none⟩))) (hS : listed.getD m false = true ∨ S w)
    (h : WD n ops Q S m fuel (listed.setIfInBounds i true) ((d, .slice (some ⟨b, off, none⟩) mm mm) :: l) w) : WD n ops Q S m (fuel + 1) listed l w :=
  WD.first i hi hs hd hn hQ (fun _ ha => .inl ⟨wants_run ha hw, fun _ _ => all_run ho ht (ha.eval hx)⟩) hS h
end
end K
end Go.Proofs.YtpfkcfaifleliaaGreat

namespace Go.Proofs.YtpfkcfaifleliaaGreat
open Go.RowKit
namespace K
variable {n : NN} {Q : Exit → Act → World → Prop} {l : Env} {w w' : World} {ops : Array Oper} {o : Oper} {rest : List Oper} {d : Nat}
theorem arr_facts {t e s m : Nat} (ht : tyOf ty t = some (.arr m e s)) : Tryz.prog.underlying t = some (.array (Tryz.prog.arrayLen t) (Tryz.prog.elem t)) ∧ Tryz.prog.arrayLen t = m ∧ ∀ w, (sizeOf (Tryz.prog.elem t)).run Tryz.prog w = .ok s w := by
  obtain ⟨hu, hse, -⟩ := TyOk.of tyOk ht; have h1 : Tryz.prog.elem t = e := by simp [Program.elem, hu]
  have h2 : Tryz.prog.arrayLen t = m := by simp [Program.arrayLen, hu]
  refine ⟨by rw [h1, h2]; exact hu, h2, fun w => ?_⟩; rw [h1]; cases hq : Tryz.prog.info? e with
  | none => rw [hq] at hse; cases hse
  | some q => rw [hq] at hse; simp at hse; simp [sizeOf, typeInfo, hq, hse]
theorem idxA_run {a : Act} {t e s m b off : Nat} {x i : Operand} {k : IntKind} {z : Int} {j : Nat} (ho : o.op = .indexAddr t x i) (ht : tyOf ty t = some (.arr m e s)) (hx : a.eval x = .pointer (some ⟨b, off, none⟩)) (hi : a.eval i = .int k z) (hz : z = (j : Int)) (hj : j < m) :
    (execOp a.eval o).run Tryz.prog w = .ok (.value (.pointer (some ⟨b, off + j * s, none⟩))) w := by
  obtain ⟨hu, hm, hs⟩ := arr_facts ht; unfold execOp; rw [ho]; simp only [hx, hi, Sem.run_bind, run_indexAt_array w t _ k z hu]; rw [if_pos (by rw [hm]; omega), hs, hz]; simp [Addr.add_mid]
theorem WL.idxA {t e s m b off : Nat} {x i : Operand} {k : IntKind} {z : Int} (j q : Nat) (hg : o.guard = none) (hd : o.dst = some d) (hn : Nat.blt d n.n = true) (ho : o.op = .indexAddr t x i) (ht : tyOf ty t = some (.arr m e s))
    (hx : evl l x = some (.pointer (some ⟨b, off, none⟩))) (hi : evl l i = some (.int k z)) (hz : z = (j : Int)) (hj : j < m) (hq : off + j * s = q) (h : WL n ops Q rest ((d, .pointer (some ⟨b, q, none⟩)) :: l) w) : WL n ops Q (o :: rest) l w :=
  WL.step hg hd hn (fun _ ha => by rw [← hq]; exact idxA_run ho ht (ha.eval hx) (ha.eval hi) hz hj) h
section
variable {S : World → Prop} {m fuel : Nat} {listed : Array Bool}
end
end K
end Go.Proofs.YtpfkcfaifleliaaGreat

namespace Go.Proofs.YtpfkcfaifleliaaGreat
namespace Frm
abbrev Byt (l : List Int) : Prop := ∀ c ∈ l, 0 ≤ c ∧ c ≤ 255
end Frm
namespace Crc
def be4 (n : Nat) : List Int := [((n / 16777216 % 256 : Nat) : Int), ((n / 65536 % 256 : Nat) : Int), ((n / 256 % 256 : Nat) : Int), ((n % 256 : Nat) : Int)]
def num4 : List Int → Nat
  | a :: b :: c :: d :: _ => a.toNat * 16777216 + b.toNat * 65536 + c.toNat * 256 + d.toNat
  | _ => 0
theorem num4_be4 {n : Nat} (h : n < 4294967296) (r : List Int) : num4 (be4 n ++ r) = n := by
  show (((n / 16777216 % 256 : Nat) : Int)).toNat * 16777216 + (((n / 65536 % 256 : Nat) : Int)).toNat * 65536 + (((n / 256 % 256 : Nat) : Int)).toNat * 256 + (((n % 256 : Nat) : Int)).toNat = n
  simp only [Int.toNat_natCast]; omega
theorem be4_byt (n : Nat) : ∀ c ∈ be4 n, 0 ≤ c ∧ c ≤ 255 := by
  intro c hc; unfold be4 at hc; simp only [List.mem_cons, List.not_mem_nil, or_false] at hc; rcases hc with rfl | rfl | rfl | rfl <;> omega
theorem be4_num4 {a b c d : Int} (ha : 0 ≤ a ∧ a ≤ 255) (hb : 0 ≤ b ∧ b ≤ 255) (hc : 0 ≤ c ∧ c ≤ 255) (hd : 0 ≤ d ∧ d ≤ 255) (r : List Int) : be4 (num4 (a :: b :: c :: d :: r)) = [a, b, c, d] ∧ num4 (a :: b :: c :: d :: r) < 4294967296 := by
  refine ⟨?_, by show a.toNat * 16777216 + b.toNat * 65536 + c.toNat * 256 + d.toNat < 4294967296; omega⟩
  show be4 (a.toNat * 16777216 + b.toNat * 65536 + c.toNat * 256 + d.toNat) = _
  unfold be4; have h1 : ((a.toNat * 16777216 + b.toNat * 65536 + c.toNat * 256 + d.toNat) / 16777216 % 256 : Nat) = a.toNat := by omega
  have h2 : ((a.toNat * 16777216 + b.toNat * 65536 + c.toNat * 256 + d.toNat) / 65536 % 256 : Nat) = b.toNat := by omega
  have h3 : ((a.toNat * 16777216 + b.toNat * 65536 + c.toNat * 256 + d.toNat) / 256 % 256 : Nat) = c.toNat := by omega
  have h4 : ((a.toNat * 16777216 + b.toNat * 65536 + c.toNat * 256 + d.toNat) % 256 : Nat) = d.toNat := by omega
  rw [h1, h2, h3, h4, Int.toNat_of_nonneg ha.1, Int.toNat_of_nonneg hb.1, Int.toNat_of_nonneg hc.1, Int.toNat_of_nonneg hd.1]
theorem num4_lt (l : List Int) (h : ∀ c ∈ l, 0 ≤ c ∧ c ≤ 255) : num4 l < 4294967296 := by
  match l, h with
  | [], _ => simp [num4]
  | [_], _ => simp [num4]
  | [_, _], _ => simp [num4]
  | [_, _, _], _ => simp [num4]
  | a :: b :: c :: d :: r, h => exact (be4_num4 (h a (by simp)) (h b (by simp)) (h c (by simp)) (h d (by simp)) r).2
end Crc
end Go.Proofs.YtpfkcfaifleliaaGreat

namespace Go.Proofs.YtpfkcfaifleliaaGreat
namespace Crc

def P : BitVec 32 := 0xedb88320#32
def step (c : BitVec 32) : BitVec 32 := (c >>> 1) ^^^ (if c.getLsbD 0 then P else 0#32)
def tab : List Nat := [0x00000000, 0x1db71064, 0x3b6e20c8, 0x26d930ac, 0x76dc4190, 0x6b6b51f4, 0x4db26158, 0x5005713c, 0xedb88320, 0xf00f9344, 0xd6d6a3e8, 0xcb61b38c, 0x9b64c2b0, 0x86d3d2d4, 0xa00ae278, 0xbdbdf21c]
def nib (c : BitVec 32) : BitVec 32 := (c >>> 4) ^^^ BitVec.ofNat 32 (tab.getD (c.toNat % 16) 0)
theorem step_xor (a b : BitVec 32) : step (a ^^^ b) = step a ^^^ step b := by
  unfold step; rw [BitVec.getLsbD_xor, BitVec.ushiftRight_xor_distrib]; cases a.getLsbD 0 <;> cases b.getLsbD 0
  · simp
  · simp [BitVec.xor_assoc]
  · simp only [Bool.xor_false, if_true, Bool.false_eq_true, if_false, BitVec.xor_zero]
    rw [BitVec.xor_assoc, BitVec.xor_assoc, BitVec.xor_comm (b >>> 1)]
  · simp only [Bool.xor_true, Bool.not_true, Bool.false_eq_true, if_false, if_true, BitVec.xor_zero]
    rw [BitVec.xor_assoc, ← BitVec.xor_assoc P, BitVec.xor_comm P, BitVec.xor_assoc, BitVec.xor_self, BitVec.xor_zero]
theorem step_even (c : BitVec 32) (h : c.getLsbD 0 = false) : step c = c >>> 1 := by unfold step; rw [h]; simp
theorem low_high (c : BitVec 32) : c = (c &&& 0xfffffff0#32) ^^^ (c &&& 15#32) := by
  apply BitVec.eq_of_getLsbD_eq
  intro i hi; rw [BitVec.getLsbD_xor, BitVec.getLsbD_and, BitVec.getLsbD_and]; have : ∀ i : Fin 32, (0xfffffff0#32).getLsbD i.val = !((15#32).getLsbD i.val) := by decide
  rw [this ⟨i, hi⟩]; cases c.getLsbD i <;> cases (15#32).getLsbD i <;> rfl
theorem step4_high (c : BitVec 32) : step (step (step (step (c &&& 0xfffffff0#32)))) = (c >>> 4) := by
  have h0 : (c &&& 0xfffffff0#32).getLsbD 0 = false := by rw [BitVec.getLsbD_and]; simp
  have h1 : ((c &&& 0xfffffff0#32) >>> 1).getLsbD 0 = false := by rw [BitVec.getLsbD_ushiftRight, BitVec.getLsbD_and]; simp
  have h2 : ((c &&& 0xfffffff0#32) >>> 1 >>> 1).getLsbD 0 = false := by rw [BitVec.getLsbD_ushiftRight, BitVec.getLsbD_ushiftRight, BitVec.getLsbD_and]; simp
  have h3 : ((c &&& 0xfffffff0#32) >>> 1 >>> 1 >>> 1).getLsbD 0 = false := by rw [BitVec.getLsbD_ushiftRight, BitVec.getLsbD_ushiftRight, BitVec.getLsbD_ushiftRight, BitVec.getLsbD_and]; simp
  rw [step_even _ h0, step_even _ h1, step_even _ h2, step_even _ h3]
  apply BitVec.eq_of_getLsbD_eq
  intro i hi; simp only [BitVec.getLsbD_ushiftRight, BitVec.getLsbD_and]; have : ∀ i : Fin 32, (0xfffffff0#32).getLsbD (1 + (1 + (1 + (1 + i.val)))) = decide (4 + i.val < 32) := by decide
  rw [this ⟨i, hi⟩]; have e : 1 + (1 + (1 + (1 + i))) = 4 + i := by omega
  rw [e]
  by_cases h : 4 + i < 32
  · simp [h]
  · rw [BitVec.getLsbD_of_ge c (4 + i) (by omega)]; simp
theorem step4_low : ∀ k : Fin 16, step (step (step (step (BitVec.ofNat 32 k.val)))) = BitVec.ofNat 32 (tab.getD k.val 0) := by decide
theorem step4 (c : BitVec 32) : step (step (step (step c))) = nib c := by
  have hl : c &&& 15#32 = BitVec.ofNat 32 (c.toNat % 16) := by
    apply BitVec.eq_of_toNat_eq
    rw [BitVec.toNat_and, BitVec.toNat_ofNat]; have h15 : (15 % 2 ^ 32 : Nat) = 2 ^ 4 - 1 := by decide
    rw [BitVec.toNat_ofNat, h15, Nat.and_two_pow_sub_one_eq_mod]; omega
  have h16 : c.toNat % 16 < 16 := Nat.mod_lt _ (by omega)
  conv => lhs; rw [low_high c]
  rw [step_xor, step_xor, step_xor, step_xor, step4_high, hl]; have := step4_low ⟨c.toNat % 16, h16⟩; simp only at this; rw [this]
  rfl
def step8 (c : BitVec 32) : BitVec 32 := step (step (step (step (step (step (step (step c)))))))
theorem step8_nib (c : BitVec 32) : step8 c = nib (nib c) := by
  unfold step8; rw [step4, step4]
def run (c : BitVec 32) : List Int → BitVec 32
  | [] => c
  | x :: r => run (step8 (c ^^^ BitVec.ofInt 32 x)) r
def sum (l : List Int) : BitVec 32 := ~~~ (run (0xffffffff#32) l)
theorem run_app (c : BitVec 32) (a b : List Int) : run c (a ++ b) = run (run c a) b := by
  induction a generalizing c with
  | nil => rfl
  | cons x r ih => exact ih _
def crcN (l : List Int) : Nat := (sum l).toNat
theorem crcN_lt (l : List Int) : crcN l < 4294967296 := (sum l).isLt
end Crc
end Go.Proofs.YtpfkcfaifleliaaGreat

namespace Go.Proofs.YtpfkcfaifleliaaGreat
open Go.ChangeShapes Go.WideShapes Go.ChangeAt Go.RowKit

theorem Tryz.ownKnob : ownKnob Tryz.prog.godebug = none := by kernel_rfl
theorem Tryz.laid : laidOutB Tryz.prog = true := by kernel_rfl

end Go.Proofs.YtpfkcfaifleliaaGreat

namespace Go.Proofs.YtpfkcfaifleliaaGreat
open Go.ChangeShapes Go.WideShapes Go.ChangeAt Go.RowKit

inductive V where
  | mk (k n s : Int) (t : ByteArray) (names : List ByteArray) (kids : List V)
namespace V
def k : V → Int | .mk k _ _ _ _ _ => k
def n : V → Int | .mk _ n _ _ _ _ => n
def s : V → Int | .mk _ _ s _ _ _ => s
def t : V → ByteArray | .mk _ _ _ t _ _ => t
def names : V → List ByteArray | .mk _ _ _ _ l _ => l
def kids : V → List V | .mk _ _ _ _ _ l => l
end V
def noV : V := .mk 0 0 0 ByteArray.empty [] []
def noT : ByteArray := ByteArray.empty

def Strs (w : World) (v : Value) (l : List ByteArray) : Prop :=
  ∃ sp cap, v = .slice sp l.length cap ∧ l.length ≤ cap ∧ cap ≤ 9223372036854775807 ∧ (∀ j, j < l.length → (l.getD j noT).size ≤ 140737488355328) ∧
    (0 < l.length → ∃ b o, sp = some ⟨b, o, none⟩ ∧ b < w.heap.size ∧ ∀ j, j < l.length → w.cell? ⟨b, o + j, none⟩ = some (.string (l.getD j noT)))
theorem Strs.below {w w' : World} {v : Value} {l : List ByteArray} (h : Strs w v l) (hb : Below w.heap.size w w') : Strs w' v l := by
  obtain ⟨sp, cap, h1, h2, h3, h4, h5⟩ := h; refine ⟨sp, cap, h1, h2, h3, h4, fun h0 => ?_⟩; obtain ⟨b, o, e, hlt, hr⟩ := h5 h0; exact ⟨b, o, e, Nat.lt_of_lt_of_le hlt hb.size, fun j hj => by rw [hb.cell (p := ⟨b, o + j, none⟩) hlt]; exact hr j hj⟩

def Six (P : V → List Value → Prop) (w : World) (v : Value) (l : List V) : Prop :=
  ∃ sp cap, v = .slice sp l.length cap ∧ l.length ≤ cap ∧ cap ≤ 9223372036854775807 ∧
    (0 < l.length → ∃ b o, sp = some ⟨b, o, none⟩ ∧ b < w.heap.size ∧ ∀ j, j < l.length → ∃ cs, cs.length = 6 ∧ P (l.getD j noV) cs ∧ w.rangeAt b (o + j * 6) cs)

def IsV : Nat → World → V → List Value → Prop
  | 0, _, _, _ => False
  | f + 1, w, v, cs => ∃ sn sk, cs = [.int .i64 v.k, .int .i64 v.n, .int .i64 v.s, .string v.t, sn, sk] ∧
      (Lit.int .i64 v.k).wf = true ∧ (Lit.int .i64 v.n).wf = true ∧ (Lit.int .i64 v.s).wf = true ∧ v.t.size ≤ 140737488355328 ∧ Strs w sn v.names ∧ Six (IsV f w) w sk v.kids
def IsVs (f : Nat) (w : World) (v : Value) (l : List V) : Prop := Six (IsV f w) w v l

theorem Six.below {P P' : V → List Value → Prop} {w w' : World} {v : Value} {l : List V} (h : Six P w v l) (hb : Below w.heap.size w w') (hP : ∀ x cs, P x cs → P' x cs) : Six P' w' v l := by
  obtain ⟨sp, cap, h1, h2, h3, h4⟩ := h; refine ⟨sp, cap, h1, h2, h3, fun h0 => ?_⟩; obtain ⟨b, o, e, hlt, hr⟩ := h4 h0; refine ⟨b, o, e, Nat.lt_of_lt_of_le hlt hb.size, fun j hj => ?_⟩; obtain ⟨cs, hc, hp, hat⟩ := hr j hj; exact ⟨cs, hc, hP _ _ hp, fun i u hu => by rw [hb.cell (p := ⟨b, o + j * 6 + i, none⟩) hlt]; exact hat i u hu⟩
theorem IsV.below {w w' : World} (hb : Below w.heap.size w w') : ∀ {f : Nat} {v : V} {cs : List Value}, IsV f w v cs → IsV f w' v cs
  | 0, _, _, h => h
  | _ + 1, _, _, ⟨sn, sk, h1, h2, h3, h4, h5, h6, h7⟩ => ⟨sn, sk, h1, h2, h3, h4, h5, h6.below hb, h7.below hb fun _ _ hp => IsV.below hb hp⟩
theorem IsVs.below {f : Nat} {w w' : World} {v : Value} {l : List V} (h : IsVs f w v l) (hb : Below w.heap.size w w') : IsVs f w' v l := Six.below h hb fun _ _ hp => IsV.below hb hp
theorem IsV.len {f : Nat} {w : World} {v : V} {cs : List Value} (h : IsV f w v cs) : cs.length = 6 := by
  cases f with
  | zero => exact h.elim
  | succ f => obtain ⟨_, _, rfl, _⟩ := h; rfl

def isNameB (s : ByteArray) : Bool := decide (1 ≤ s.size) && decide (s.size ≤ 40)
def risesB : List ByteArray → Bool
  | [] => true
  | [_] => true
  | a :: b :: l => Op.bytesLess a.toList b.toList && risesB (b :: l)
def fieldsB (v : V) : Bool := v.names.all isNameB && risesB v.names && decide (v.names.length = v.kids.length)
def bareB (v : V) : Bool := decide (v.n = 0) && decide (v.s = 0)
def plainB (v : V) : Bool := decide (v.names.length = 0) && decide (v.kids.length = 0)
def noTextB (v : V) : Bool := decide (v.t.size = 0)
def formB (v : V) : Bool :=
  if v.k = 1 then bareB v && plainB v && noTextB v
  else if v.k = 2 then decide (0 ≤ v.n) && decide (v.n ≤ 1) && decide (v.s = 0) && plainB v && noTextB v
  else if v.k = 3 then decide (v.s = 0) && plainB v && noTextB v
  else if v.k = 4 then decide (1 ≤ v.s) && decide (v.s ≤ 18) && decide (¬ v.n.tmod 10 = 0) && plainB v && noTextB v
  else if v.k = 5 then decide (0 ≤ v.n) && decide (v.n ≤ 9007199254740992) && decide (v.s = 0) && plainB v && noTextB v
  else if v.k = 6 ∨ v.k = 7 then bareB v && plainB v
  else if v.k = 8 then bareB v && decide (v.names.length = 0) && noTextB v
  else if v.k = 9 then bareB v && noTextB v
  else false
def shp (v : V) : Int :=
  if formB v = false then 3
  else if 16384 < v.t.size ∨ 200 < v.kids.length then 5
  else if v.k = 9 ∧ fieldsB v = false then 3
  else 0
def firstBad : List Int → Int
  | [] => 0
  | e :: l => if e = 0 then firstBad l else e
def chk : Nat → V → Int
  | 0, _ => 9
  | m + 1, v => if shp v = 0 then firstBad (v.kids.map (chk m)) else shp v

theorem firstBad_zero {l : List Int} : firstBad l = 0 ↔ ∀ e ∈ l, e = 0 := by
  induction l with
  | nil => simp [firstBad]
  | cons a l ih =>
    unfold firstBad
    by_cases h : a = 0
    · rw [if_pos h, ih]; simp [h]
    · rw [if_neg h]; simp [h]
theorem firstBad_take {l : List Int} {i : Nat} (hi : i < l.length) (h : ∀ j, j < i → l.getD j 0 = 0) (hn : ¬ l.getD i 0 = 0) : firstBad l = l.getD i 0 := by
  induction l generalizing i with
  | nil => simp at hi
  | cons a l ih =>
    cases i with
    | zero => unfold firstBad; rw [if_neg (by simpa using hn)]; simp
    | succ i =>
      have h0 := h 0 (by omega); simp only [List.getD_cons_zero] at h0; unfold firstBad; rw [if_pos h0]; simp only [List.getD_cons_succ] at hn ⊢; exact ih (by simpa using hi) (fun j hj => by simpa using h (j + 1) (by omega)) hn
theorem firstBad_all {l : List Int} (h : ∀ j, j < l.length → l.getD j 0 = 0) : firstBad l = 0 := by
  rw [firstBad_zero]; intro e he; obtain ⟨j, hj, rfl⟩ := List.getElem_of_mem he
  simpa [hj] using h j hj
theorem chk_kid {m : Nat} {v : V} {j : Nat} (h : chk (m + 1) v = 0) (hj : j < v.kids.length) : chk m (v.kids.getD j noV) = 0 := by
  unfold chk at h
  by_cases hs : shp v = 0
  · rw [if_pos hs, firstBad_zero] at h
    exact h _ (List.mem_map.2 ⟨v.kids[j], List.getElem_mem hj, by simp [hj]⟩)
  · rw [if_neg hs] at h; exact (hs h).elim
theorem chk_shp {m : Nat} {v : V} (h : chk (m + 1) v = 0) : shp v = 0 := by
  unfold chk at h
  by_cases hs : shp v = 0
  · exact hs
  · rw [if_neg hs] at h; exact h
theorem chk_map (m : Nat) (l : List V) (j : Nat) (hj : j < l.length) : (l.map (chk m)).getD j 0 = chk m (l.getD j noV) := by simp [hj]

theorem rises_iff : ∀ {l : List ByteArray}, risesB l = true ↔ ∀ i, i + 1 < l.length → Op.bytesLess (l.getD i noT).toList (l.getD (i + 1) noT).toList = true
  | [] => by simp [risesB]
  | [a] => by simp [risesB]
  | a :: b :: l => by
    unfold risesB; rw [Bool.and_eq_true, rises_iff (l := b :: l)]
    constructor
    · rintro ⟨h1, h2⟩ i hi
      cases i with
      | zero => simpa using h1
      | succ i => simpa using h2 i (by simp at hi ⊢; omega)
    · intro h
      exact ⟨by simpa using h 0 (by simp), fun i hi => by simpa using h (i + 1) (by simp at hi ⊢; omega)⟩
end Go.Proofs.YtpfkcfaifleliaaGreat

namespace Go.Proofs.YtpfkcfaifleliaaGreat
namespace K

def uvF : Nat → Nat → List Int
  | 0, _ => []
  | f + 1, u => if u < 128 then [(u : Int)] else ((u % 128 + 128 : Nat) : Int) :: uvF f (u / 128)
def uvB (u : Nat) : List Int := uvF 10 u
def zig (v : Int) : Nat := if 0 ≤ v then (2 * v).toNat else (-2 * v - 1).toNat
def zag (u : Nat) : Int := if u % 2 = 0 then ((u / 2 : Nat) : Int) else -((u / 2 : Nat) : Int) - 1
def byI (s : ByteArray) : List Int := s.toList.map fun c => (c.toNat : Int)
def pieceE (ky : V → List Int) (st : Bool) (names : List ByteArray) (kids : List V) (j : Nat) : List Int :=
  (if st then uvB (names.getD j noT).size ++ byI (names.getD j noT) else []) ++ ky (kids.getD j noV)
def encV : Nat → V → List Int
  | 0, _ => []
  | m + 1, v => v.k ::
    (if v.k = 2 then [v.n] else if v.k = 3 then uvB (zig v.n) else if v.k = 4 then uvB (zig v.n) ++ [v.s] else if v.k = 5 then uvB v.n.toNat
     else if v.k = 6 ∨ v.k = 7 then uvB v.t.size ++ byI v.t
     else if v.k = 8 ∨ v.k = 9 then uvB v.kids.length ++ (List.range v.kids.length).flatMap (pieceE (encV m) (decide (v.k = 9)) v.names v.kids) else [])

inductive Rd (α : Type) where
  | ok (a : α) (r : List Int)
  | bad (e : Int)
def Rd.bind {α β : Type} : Rd α → (α → List Int → Rd β) → Rd β
  | .ok a r, f => f a r
  | .bad e, _ => .bad e
def rdB : List Int → Rd Int
  | [] => .bad 2
  | c :: r => .ok c r
def rdUF : Nat → Bool → List Int → Rd Nat
  | 0, _, _ => .bad 3
  | _ + 1, _, [] => .bad 2
  | f + 1, st, c :: r => if (f = 0 ∧ 1 < c) ∨ (st = true ∧ c = 0) then .bad 3 else if c < 128 then .ok c.toNat r else (rdUF f true r).bind fun v r' => .ok (c.toNat - 128 + 128 * v) r'
def rdU (l : List Int) : Rd Nat := rdUF 10 false l
def rdC (l : List Int) : Rd Nat := (rdU l).bind fun n r => if 65536 < n then .bad 3 else .ok n r
def rdT (l : List Int) : Rd ByteArray := (rdC l).bind fun n r => if r.length < n then .bad 2 else .ok ⟨((r.take n).map fun c => UInt8.ofNat c.toNat).toArray⟩ (r.drop n)
def rdK (rd : List Int → Rd V) (st : Bool) : Nat → List ByteArray → List V → List Int → Rd (List ByteArray × List V)
  | 0, ns, ks, l => .ok (ns, ks) l
  | n + 1, ns, ks, l =>
    if st = true then (rdT l).bind fun s r => (rd r).bind fun v r' => rdK rd st n (ns ++ [s]) (ks ++ [v]) r'
    else (rd l).bind fun v r' => rdK rd st n ns (ks ++ [v]) r'
def rdV : Nat → List Int → Rd V
  | 0, _ => .bad 9
  | m + 1, l => (rdB l).bind fun k r =>
    if k = 1 then .ok (.mk 1 0 0 noT [] []) r
    else if k = 2 then (rdB r).bind fun c r => if 1 < c then .bad 3 else .ok (.mk 2 c 0 noT [] []) r
    else if k = 3 then (rdU r).bind fun u r => .ok (.mk 3 (zag u) 0 noT [] []) r
    else if k = 4 then (rdU r).bind fun u r => (rdB r).bind fun s r => .ok (.mk 4 (zag u) s noT [] []) r
    else if k = 5 then (rdU r).bind fun u r => .ok (.mk 5 (IntKind.i64.wrap (u : Int)) 0 noT [] []) r
    else if k = 6 ∨ k = 7 then (rdT r).bind fun t r => .ok (.mk k 0 0 t [] []) r
    else if k = 8 ∨ k = 9 then (rdC r).bind fun n r => (rdK (rdV m) (decide (k = 9)) n [] [] r).bind fun p r => .ok (.mk k 0 0 noT p.1 p.2) r
    else .bad 3

end K
end Go.Proofs.YtpfkcfaifleliaaGreat

namespace Go.Proofs.YtpfkcfaifleliaaGreat
namespace K

def Byt (l : List Int) : Prop := ∀ c ∈ l, 0 ≤ c ∧ c ≤ 255
theorem Byt.tail {c : Int} {l : List Int} (h : Byt (c :: l)) : Byt l := fun x hx => h x (List.mem_cons_of_mem _ hx)
theorem Byt.right {k l : List Int} (h : Byt (k ++ l)) : Byt l := fun x hx => h x (List.mem_append_right _ hx)
theorem Byt.app {k l : List Int} (h : Byt k) (h' : Byt l) : Byt (k ++ l) := fun x hx => (List.mem_append.1 hx).elim (h x) (h' x)

theorem rdUF_enc : ∀ (f u : Nat) (st : Bool) (r : List Int), u < 2 * 128 ^ f → (st = true → u ≠ 0) → rdUF (f + 1) st (uvF (f + 1) u ++ r) = .ok u r
  | 0, u, st, r, h, hs => by
    simp at h
    unfold uvF; rw [if_pos (by omega), List.singleton_append]; unfold rdUF; rw [if_neg (fun h1 => h1.elim (fun h => by omega) (fun h => by have := hs h.1; omega)), if_pos (by omega)]; simp
  | f + 1, u, st, r, h, hs => by
    unfold uvF
    by_cases hu : u < 128
    · rw [if_pos hu, List.singleton_append]
      unfold rdUF; rw [if_neg (fun h1 => h1.elim (fun h => by omega) (fun h => by have := hs h.1; omega)), if_pos (by omega)]; simp
    · rw [if_neg hu, List.cons_append]
      unfold rdUF; rw [Nat.pow_succ] at h; rw [if_neg (by rintro (h1 | h1) <;> omega), if_neg (by omega), rdUF_enc f (u / 128) true r (by omega) (fun _ => by omega)]; simp only [Rd.bind]; rw [show (((u % 128 + 128 : Nat) : Int)).toNat - 128 + 128 * (u / 128) = u by omega]
theorem uvF_big {f u : Nat} (h : 128 ≤ u) : uvF (f + 1) u = ((u % 128 + 128 : Nat) : Int) :: uvF f (u / 128) := by rw [uvF, if_neg (by omega)]
theorem rdUF_can : ∀ (f u : Nat) (st : Bool) (l r : List Int), Byt l → rdUF (f + 1) st l = .ok u r → l = uvF (f + 1) u ++ r ∧ u < 2 * 128 ^ f ∧ (st = true → u ≠ 0)
  | f, u, st, [], r, _, h => by simp [rdUF] at h
  | f, u, st, c :: t, r, hb, h => by
    unfold rdUF at h; have hc := hb c (by simp)
    by_cases h1 : (f = 0 ∧ 1 < c) ∨ (st = true ∧ c = 0)
    · rw [if_pos h1] at h; cases h
    rw [if_neg h1] at h
    by_cases h2 : c < 128
    · rw [if_pos h2] at h
      cases h
      unfold uvF; rw [if_pos (by omega), List.singleton_append]; refine ⟨by rw [Int.toNat_of_nonneg hc.1], ?_, fun hs e => h1 (.inr ⟨hs, by omega⟩)⟩; cases f with
      | zero => simp; have : ¬ 1 < c := fun e => h1 (.inl ⟨rfl, e⟩); omega
      | succ f => have := Nat.pos_of_ne_zero (show 128 ^ f ≠ 0 by simp); rw [Nat.pow_succ]; omega
    · rw [if_neg h2] at h
      cases hr : rdUF f true t with
      | bad e => rw [hr] at h; cases h
      | ok v r' =>
        rw [hr] at h; simp only [Rd.bind] at h; cases h
        cases f with
        | zero => cases hr
        | succ f =>
          obtain ⟨rfl, h3, h4⟩ := rdUF_can f v true t r hb.tail hr; have h5 := h4 rfl; rw [uvF_big (show 128 ≤ c.toNat - 128 + 128 * v by omega), List.cons_append, show (c.toNat - 128 + 128 * v) / 128 = v by omega, show (c.toNat - 128 + 128 * v) % 128 + 128 = c.toNat by omega]; refine ⟨by rw [Int.toNat_of_nonneg hc.1], by rw [Nat.pow_succ]; omega, fun _ => by omega⟩
theorem rdU_enc {u : Nat} (h : u < 18446744073709551616) (r : List Int) : rdU (uvB u ++ r) = .ok u r := rdUF_enc 9 u false r (by omega) (fun h => by cases h)
theorem rdU_can {u : Nat} {l r : List Int} (hb : Byt l) (h : rdU l = .ok u r) : l = uvB u ++ r ∧ u < 18446744073709551616 := by
  obtain ⟨h1, h2, -⟩ := rdUF_can 9 u false l r hb h; exact ⟨h1, by omega⟩
theorem zag_zig (v : Int) : zag (zig v) = v := by unfold zag zig; split <;> split <;> omega
theorem zig_lt {v : Int} (h : -9223372036854775808 ≤ v ∧ v ≤ 9223372036854775807) : zig v < 18446744073709551616 := by unfold zig; split <;> omega
theorem byI_len (s : ByteArray) : (byI s).length = s.size := by
  unfold byI; rw [List.length_map, ByteArray.toList_eq]; rfl
end K
end Go.Proofs.YtpfkcfaifleliaaGreat

namespace Go.Proofs.YtpfkcfaifleliaaGreat
namespace K

end K
end Go.Proofs.YtpfkcfaifleliaaGreat

namespace Go.Proofs.YtpfkcfaifleliaaGreat
namespace K

theorem noT_of {t : ByteArray} (h : t.size = 0) : t = noT := by
  apply ByteArray.ext
  apply Array.eq_empty_of_size_eq_zero h
theorem shp_full {v : V} (h : shp v = 0) :
    (v.k = 1 ∧ v = .mk 1 0 0 noT [] []) ∨ (v.k = 2 ∧ v = .mk 2 v.n 0 noT [] [] ∧ 0 ≤ v.n ∧ v.n ≤ 1) ∨ (v.k = 3 ∧ v = .mk 3 v.n 0 noT [] []) ∨ (v.k = 4 ∧ v = .mk 4 v.n v.s noT [] [] ∧ 1 ≤ v.s ∧ v.s ≤ 18) ∨
    (v.k = 5 ∧ v = .mk 5 v.n 0 noT [] [] ∧ 0 ≤ v.n ∧ v.n ≤ 9007199254740992) ∨ ((v.k = 6 ∨ v.k = 7) ∧ v = .mk v.k 0 0 v.t [] [] ∧ v.t.size ≤ 16384) ∨
    (v.k = 8 ∧ v = .mk 8 0 0 noT [] v.kids ∧ v.kids.length ≤ 200) ∨ (v.k = 9 ∧ v = .mk 9 0 0 noT v.names v.kids ∧ v.kids.length ≤ 200 ∧ v.names.length = v.kids.length ∧ ∀ s ∈ v.names, s.size ≤ 40) := by
  obtain ⟨k, n, s, t, names, kids⟩ := v; unfold shp at h
  by_cases h1 : formB (.mk k n s t names kids) = false
  · rw [if_pos h1] at h; cases h
  rw [if_neg h1] at h
  by_cases h2 : 16384 < (V.mk k n s t names kids).t.size ∨ 200 < (V.mk k n s t names kids).kids.length
  · rw [if_pos h2] at h; cases h
  rw [if_neg h2] at h
  by_cases h3 : (V.mk k n s t names kids).k = 9 ∧ fieldsB (.mk k n s t names kids) = false
  · rw [if_pos h3] at h; cases h
  have hf : formB (.mk k n s t names kids) = true := by simpa using h1
  clear h h1; simp only [V.k, V.t, V.kids] at h2 h3; unfold formB at hf; simp only [V.k, V.n, V.s, V.t, V.names, V.kids]
  by_cases a1 : k = 1
  · subst a1; left
    rw [if_pos (show (V.mk 1 n s t names kids).k = 1 from rfl)] at hf; simp only [bareB, plainB, noTextB, Bool.and_eq_true, decide_eq_true_eq, List.length_eq_zero_iff] at hf; simp only [V.n, V.s, V.t, V.names, V.kids] at hf; obtain ⟨⟨⟨rfl, rfl⟩, rfl, rfl⟩, ht⟩ := hf; exact ⟨rfl, by rw [noT_of ht]⟩
  rw [if_neg (show ¬ (V.mk k n s t names kids).k = 1 from a1)] at hf; right
  by_cases a2 : k = 2
  · subst a2; left
    rw [if_pos (show (V.mk 2 n s t names kids).k = 2 from rfl)] at hf; simp only [plainB, noTextB, Bool.and_eq_true, decide_eq_true_eq, List.length_eq_zero_iff] at hf; simp only [V.n, V.s, V.t, V.names, V.kids] at hf; obtain ⟨⟨⟨⟨b1, b2⟩, rfl⟩, rfl, rfl⟩, ht⟩ := hf; exact ⟨rfl, by rw [noT_of ht], b1, b2⟩
  rw [if_neg (show ¬ (V.mk k n s t names kids).k = 2 from a2)] at hf; right
  by_cases a3 : k = 3
  · subst a3; left
    rw [if_pos (show (V.mk 3 n s t names kids).k = 3 from rfl)] at hf; simp only [plainB, noTextB, Bool.and_eq_true, decide_eq_true_eq, List.length_eq_zero_iff] at hf; simp only [V.s, V.t, V.names, V.kids] at hf; obtain ⟨⟨rfl, rfl, rfl⟩, ht⟩ := hf; exact ⟨rfl, by rw [noT_of ht]⟩
  rw [if_neg (show ¬ (V.mk k n s t names kids).k = 3 from a3)] at hf; right
  by_cases a4 : k = 4
  · subst a4; left
    rw [if_pos (show (V.mk 4 n s t names kids).k = 4 from rfl)] at hf; simp only [plainB, noTextB, Bool.and_eq_true, decide_eq_true_eq, List.length_eq_zero_iff] at hf; simp only [V.n, V.s, V.t, V.names, V.kids] at hf; obtain ⟨⟨⟨⟨b1, b2⟩, -⟩, rfl, rfl⟩, ht⟩ := hf; exact ⟨rfl, by rw [noT_of ht], b1, b2⟩
  rw [if_neg (show ¬ (V.mk k n s t names kids).k = 4 from a4)] at hf; right
  by_cases a5 : k = 5
  · subst a5; left
    rw [if_pos (show (V.mk 5 n s t names kids).k = 5 from rfl)] at hf; simp only [plainB, noTextB, Bool.and_eq_true, decide_eq_true_eq, List.length_eq_zero_iff] at hf; simp only [V.n, V.s, V.t, V.names, V.kids] at hf; obtain ⟨⟨⟨⟨b1, b2⟩, rfl⟩, rfl, rfl⟩, ht⟩ := hf; exact ⟨rfl, by rw [noT_of ht], b1, b2⟩
  rw [if_neg (show ¬ (V.mk k n s t names kids).k = 5 from a5)] at hf; right
  by_cases a6 : k = 6 ∨ k = 7
  · left
    rw [if_pos (show (V.mk k n s t names kids).k = 6 ∨ (V.mk k n s t names kids).k = 7 from a6)] at hf; simp only [bareB, plainB, Bool.and_eq_true, decide_eq_true_eq, List.length_eq_zero_iff] at hf; simp only [V.n, V.s, V.names, V.kids] at hf; obtain ⟨⟨rfl, rfl⟩, rfl, rfl⟩ := hf; exact ⟨a6, rfl, by omega⟩
  rw [if_neg (show ¬ ((V.mk k n s t names kids).k = 6 ∨ (V.mk k n s t names kids).k = 7) from a6)] at hf; right
  by_cases a8 : k = 8
  · subst a8; left
    rw [if_pos (show (V.mk 8 n s t names kids).k = 8 from rfl)] at hf; simp only [bareB, noTextB, Bool.and_eq_true, decide_eq_true_eq, List.length_eq_zero_iff] at hf; simp only [V.n, V.s, V.t, V.names] at hf; obtain ⟨⟨⟨rfl, rfl⟩, rfl⟩, ht⟩ := hf; exact ⟨rfl, by rw [noT_of ht], by omega⟩
  rw [if_neg (show ¬ (V.mk k n s t names kids).k = 8 from a8)] at hf; right
  by_cases a9 : k = 9
  · subst a9
    rw [if_pos (show (V.mk 9 n s t names kids).k = 9 from rfl)] at hf; simp only [bareB, noTextB, Bool.and_eq_true, decide_eq_true_eq] at hf; simp only [V.n, V.s, V.t] at hf; obtain ⟨⟨rfl, rfl⟩, ht⟩ := hf; have h4 : fieldsB (.mk 9 0 0 t names kids) = true := by
      cases hb : fieldsB (.mk 9 0 0 t names kids) with
      | true => rfl
      | false => exact (h3 ⟨rfl, hb⟩).elim
    unfold fieldsB at h4; simp only [Bool.and_eq_true, List.all_eq_true, decide_eq_true_eq] at h4; refine ⟨rfl, by rw [noT_of ht], by omega, h4.2, fun s hs => ?_⟩; have := h4.1.1 s hs; unfold isNameB at this; simp at this
    omega
  · rw [if_neg (show ¬ (V.mk k n s t names kids).k = 9 from a9)] at hf; cases hf

theorem chk_mem {m : Nat} {v x : V} (h : chk (m + 1) v = 0) (hx : x ∈ v.kids) : chk m x = 0 := by
  obtain ⟨j, hj, rfl⟩ := List.getElem_of_mem hx; have := chk_kid h hj
  rwa [List.getD_eq_getElem?_getD, List.getElem?_eq_getElem hj] at this

end K
end Go.Proofs.YtpfkcfaifleliaaGreat

namespace Go.Proofs.YtpfkcfaifleliaaGreat
open Go.RowKit
namespace K

theorem uvF_len : ∀ (f u : Nat), (uvF f u).length ≤ f
  | 0, _ => by simp [uvF]
  | f + 1, u => by
    unfold uvF
    split
    · simp
    · simp [uvF_len f (u / 128)]
theorem or128 : ∀ x : Nat, x < 256 → bits .or .u8 (x : Int) 128 = ((x % 128 + 128 : Nat) : Int) := by decide +kernel
theorem and127 (u : Nat) (h : u < 18446744073709551616) : bits .and .u64 (u : Int) 127 = ((u % 128 : Nat) : Int) := by
  have h := bits_and_u64_nat u 127 h (by omega); have e : u &&& 127 = u % 128 := Nat.and_two_pow_sub_one_eq_mod u 7; rw [e] at h; exact h
theorem shr7 (u : Nat) : (u : Int) / ((2 ^ min 7 IntKind.u64.bits : Nat) : Int) = ((u / 128 : Nat) : Int) := by
  rw [show ((2 ^ min 7 IntKind.u64.bits : Nat) : Int) = 128 from rfl]; omega

theorem uvarint_any (u : Nat) (hu : u < 18446744073709551616) (w : World) :
    Calls Tryz.prog 75 #[.int .u64 u] w fun e w' => ∃ b, e = .returned b ∧ Bu w' b (uvB u) ∧ Below w.heap.size w w' ∧ ∀ g, b.ownBlock = some g → w.heap.size ≤ g := by
  refine enter (args := [.int .u64 u]) Tryz.func75 rfl Tryz.ntmps75 rfl ?_; have h1 : u < 2 * 128 ^ 9 := by omega
  have h2 : uvB u = [] ++ uvF (9 + 1) u := by rw [List.nil_append]; rfl
  refine K.kgo ?_; refine WC.loop (fun i : Nat × Nat × List Int × Value => [(0, .int .u64 i.2.1), (3, i.2.2.2)])
    (fun i w' => i.2.1 < 2 * 128 ^ i.1 ∧ i.1 ≤ 9 ∧ uvB u = i.2.2.1 ++ uvF (i.1 + 1) i.2.1 ∧ i.2.2.1.length ≤ 9 ∧ Bu w' i.2.2.2 i.2.2.1 ∧ Grow w (.slice none 0 0) w' i.2.2.2) (fun i => i.1) (9, u, [], .slice none 0 0) ⟨rfl, rfl, trivial⟩ ⟨h1, Nat.le_refl 9, h2, Nat.zero_le 9, Bu.nil w, Grow.refl _ _⟩ ?_
  rintro ⟨f, c, A, v⟩ wr ⟨hc, hf, hA, hl, hb, hg⟩; simp only at hc hf hA hl hb hg ⊢; have hle : (128 : Nat) ^ f ≤ 128 ^ 9 := Nat.pow_le_pow_right (by decide) hf
  by_cases h : c < 128
  · have hw : IntKind.u8.wrap (c : Int) = (c : Int) := by rw [IntKind.wrap_u8]; omega
    have hfin : uvF (f + 1) c = [(c : Int)] := by rw [uvF, if_pos h]
    refine K.kgo ?_; refine WL.push rfl rfl rfl rfl rfl rfl rfl rfl rfl rfl rfl (fun _ => rfl) rfl hb (by simp only [List.length_cons, List.length_nil]; omega) fun b2 w2 hb2 hg2 => ?_; refine K.kgo ?_; have hg3 := hg.trans hg2; refine WQ.ret1 rfl rfl ⟨b2, rfl, ?_, hg3.old (Nat.le_refl _) (fun g h => by cases h), hg3.own (Nat.le_refl _) (fun g h => by cases h)⟩; rw [hw] at hb2; rw [hA, hfin]; exact hb2
  · obtain ⟨f, rfl⟩ : ∃ f', f = f' + 1 := ⟨f - 1, by
      cases f with
      | zero => simp at hc; omega
      | succ f => rfl⟩
    have hbig : uvF (f + 1 + 1) c = ((c % 128 + 128 : Nat) : Int) :: uvF (f + 1) (c / 128) := uvF_big (by omega); have hw : bits .or .u8 (IntKind.u8.wrap (c : Int)) 128 = ((c % 128 + 128 : Nat) : Int) := by
      have := or128 (c % 256) (by omega); rw [IntKind.wrap_u8, show (c : Int) % 256 = ((c % 256 : Nat) : Int) by omega, this]; omega
    refine K.kgo ?_; refine WL.push rfl rfl rfl rfl rfl rfl rfl rfl rfl rfl rfl (fun _ => rfl) rfl hb (by simp only [List.length_cons, List.length_nil]; omega) fun b2 w2 hb2 hg2 => ?_; rw [hw] at hb2; refine K.kgo ?_; refine WQ.again (f, c / 128, A ++ [((c % 128 + 128 : Nat) : Int)], b2) ⟨congrArg (fun z => some (Value.int .u64 z)) (shr7 c), rfl, trivial⟩
      ⟨by rw [Nat.pow_succ] at hc; show c / 128 < 2 * 128 ^ f; omega, by show f ≤ 9; omega, by show uvB u = A ++ [((c % 128 + 128 : Nat) : Int)] ++ uvF (f + 1) (c / 128); rw [hA, hbig]; simp, ?_, hb2, hg.trans hg2⟩ (by show f < f + 1; omega)
    show (A ++ [((c % 128 + 128 : Nat) : Int)]).length ≤ 9
    have := congrArg List.length hA; rw [List.length_append, hbig, List.length_cons] at this; have h10 : (uvB u).length ≤ 10 := uvF_len 10 u; have h1 : 1 ≤ (uvF (f + 1) (c / 128)).length := by unfold uvF; split <;> simp
    rw [List.length_append]; simp only [List.length_cons, List.length_nil]; omega
end K
end Go.Proofs.YtpfkcfaifleliaaGreat

namespace Go.Proofs.YtpfkcfaifleliaaGreat
open Go.RowKit
namespace K
theorem nth_mem' (l : List Int) (i : Nat) (h : i < l.length) : nth l i ∈ l := by simp [nth, h]
theorem wraps_u32 (n : Int) (h0 : 0 ≤ n) (h1 : n < 2 ^ 32) : IntKind.u32.wrap n = n := by rw [IntKind.wrap_u32]; omega
theorem wraps_u64 (n : Int) (h0 : 0 ≤ n) (h1 : n < 2 ^ 64) : IntKind.u64.wrap n = n := by rw [IntKind.wrap_u64]; omega
theorem four32 (a b c d : Int) (ha : 0 ≤ a ∧ a ≤ 255) (hb : 0 ≤ b ∧ b ≤ 255) (hc : 0 ≤ c ∧ c ≤ 255) (hd : 0 ≤ d ∧ d ≤ 255) :
    bits .or .u32 (bits .or .u32 (bits .or .u32 (IntKind.u32.wrap (IntKind.u32.wrap a * ((2 ^ min 24 IntKind.u32.bits : Nat) : Int))) (IntKind.u32.wrap (IntKind.u32.wrap b * ((2 ^ min 16 IntKind.u32.bits : Nat) : Int))))
      (IntKind.u32.wrap (IntKind.u32.wrap c * ((2 ^ min 8 IntKind.u32.bits : Nat) : Int)))) (IntKind.u32.wrap d) = a * 16777216 + b * 65536 + c * 256 + d := by
  rw [show ((2 ^ min 24 IntKind.u32.bits : Nat) : Int) = 16777216 from rfl, show ((2 ^ min 16 IntKind.u32.bits : Nat) : Int) = 65536 from rfl, show ((2 ^ min 8 IntKind.u32.bits : Nat) : Int) = 256 from rfl]; rw [wraps_u32 a (by omega) (by omega), wraps_u32 b (by omega) (by omega), wraps_u32 c (by omega) (by omega), wraps_u32 d (by omega) (by omega), wraps_u32 (a * 16777216) (by omega) (by omega), wraps_u32 (b * 65536) (by omega) (by omega), wraps_u32 (c * 256) (by omega) (by omega)]; rw [bits_join .u32 32 (by decide) wraps_u32 24 (a * 16777216) (b * 65536) (by omega) (by omega) (by omega) (by omega) (by omega) (by omega)]; rw [bits_join .u32 32 (by decide) wraps_u32 16 (a * 16777216 + b * 65536) (c * 256) (by omega) (by omega) (by omega) (by omega) (by omega) (by omega)]; rw [bits_join .u32 32 (by decide) wraps_u32 8 (a * 16777216 + b * 65536 + c * 256) d (by omega) (by omega) (by omega) (by omega) (by omega) (by omega)]
theorem two64 (h l : Nat) (hh : h < 4294967296) (hl : l < 4294967296) : bits .or .u64 (IntKind.u64.wrap (IntKind.u64.wrap (h : Int) * ((2 ^ min 32 IntKind.u64.bits : Nat) : Int))) (IntKind.u64.wrap (l : Int)) = ((h * 4294967296 + l : Nat) : Int) := by
  rw [show ((2 ^ min 32 IntKind.u64.bits : Nat) : Int) = 4294967296 from rfl, wraps_u64 (h : Int) (by omega) (by omega), wraps_u64 (l : Int) (by omega) (by omega), wraps_u64 ((h : Int) * 4294967296) (by omega) (by omega)]; rw [bits_join .u64 64 (by decide) wraps_u64 32 ((h : Int) * 4294967296) (l : Int) (by omega) (by omega) (by omega) (by omega) (by omega) (by omega)]; omega
theorem num4_nth {l : List Int} (hl : 4 ≤ l.length) (hb : Frm.Byt l) : nth l 0 * 16777216 + nth l 1 * 65536 + nth l 2 * 256 + nth l 3 = ((Crc.num4 l : Nat) : Int) := by
  match l, hl, hb with
  | a :: b :: c :: d :: r, _, hb =>
    have h1 := hb a (by simp); have h2 := hb b (by simp); have h3 := hb c (by simp); have h4 := hb d (by simp)
    show a * 16777216 + b * 65536 + c * 256 + d = ((a.toNat * 16777216 + b.toNat * 65536 + c.toNat * 256 + d.toNat : Nat) : Int)
    omega
def rsV (l : List Int) : List Value := if l.length < 4 then [.int .u32 0, .int .i64 2] else [.int .u32 (Crc.num4 l : Nat), .int .i64 0]
theorem readShort_any {w : World} {v : Value} {l : List Int} (hv : Sl .u8 w v l) (hb : Frm.Byt l) :
    Calls Tryz.prog 117 #[v] w fun e w' => e = .returned (.tuple (rsV l).toArray) ∧ Below w.heap.size w w' := by
  obtain ⟨sp, cap, rfl, h1, h2, -⟩ := id hv; refine enter (args := [.slice sp l.length cap]) Tryz.func117 rfl Tryz.ntmps117 rfl ?_; unfold rsV
  by_cases h : l.length < 4
  · rw [if_pos h]
    refine K.kgo ?_; exact WQ.ret2 rfl rfl rfl ⟨rfl, Below.refl _ _⟩
  rw [if_neg h]; have hfin := num4_nth (by omega) hb; have a0 := hb _ (nth_mem' l 0 (by omega)); have a1 := hb _ (nth_mem' l 1 (by omega)); have a2 := hb _ (nth_mem' l 2 (by omega)); have a3 := hb _ (nth_mem' l 3 (by omega)); have h32 := four32 _ _ _ _ a0 a1 a2 a3; rw [hfin] at h32; clear hfin a0 a1 a2 a3; refine K.kgo ?_; refine WC.drawn 21 (fun wx => wx.heap = w.heap) fun w2 hd => ?_; have hb2 : Below w.heap.size w w2 := hd.below _; have hS : w2.heap = w.heap := hd.heap; clear hd; refine K.fr [0, 5, 11, 17] hS ?_; refine WD.idxI 1 0 rfl (by kernel_rfl) rfl rfl (fun _ _ _ _ _ h => h) rfl rfl rfl rfl hv rfl rfl (by omega) (.inr hS) fun p0 q0 => ?_; refine K.wl 2 [3, 4, 10, 16, 21, 22, 23] rfl rfl rfl rfl rfl rfl rfl (fun wx hx => (heap_cell hx _).trans q0) hS ?_; refine WD.idxI 6 1 rfl (by kernel_rfl) rfl rfl (fun _ _ _ _ _ h => h) rfl rfl rfl rfl hv rfl rfl (by omega) (.inr hS) fun p1 q1 => ?_; refine K.wl 7 [8, 9, 10, 16, 21, 22, 23] rfl rfl rfl rfl rfl rfl rfl (fun wx hx => (heap_cell hx _).trans q1) hS ?_; refine WD.idxI 12 2 rfl (by kernel_rfl) rfl rfl (fun _ _ _ _ _ h => h) rfl rfl rfl rfl hv rfl rfl (by omega) (.inr hS) fun p2 q2 => ?_; refine K.wl 13 [14, 15, 16, 21, 22, 23] rfl rfl rfl rfl rfl rfl rfl (fun wx hx => (heap_cell hx _).trans q2) hS ?_; refine WD.idxI 18 3 rfl (by kernel_rfl) rfl rfl (fun _ _ _ _ _ h => h) rfl rfl rfl rfl hv rfl rfl (by omega) (.inr hS) fun p3 q3 => ?_; refine K.wl 19 [20, 21, 22, 23] rfl rfl rfl rfl rfl rfl rfl (fun wx hx => (heap_cell hx _).trans q3) hS ?_; refine K.fr [3, 4, 8, 9, 10, 14, 15, 16, 20] hS ?_; refine K.wo 21 ?_; refine WL.pure rfl rfl rfl rfl ?_; refine WL.as 28 (.int .u32 ((Crc.num4 l : Nat) : Int)) rfl (congrArg (Value.int .u32) h32) ?_; refine K.dl ?_
  (refine K.fzl 22 rfl (q := ?_); refine K.fzl 23 rfl (q := ?_))
  refine WD.done (by kernel_rfl) ?_; refine K.kgo ?_; exact WQ.ret2 rfl rfl rfl ⟨rfl, hb2⟩
def rbV (l : List Int) : List Value := if l.length < 8 then [.int .u64 0, .int .i64 2] else [.int .u64 ((Crc.num4 l * 4294967296 + Crc.num4 (l.drop 4) : Nat) : Int), .int .i64 0]
theorem readBig_any {w : World} {v : Value} {l : List Int} (hv : Sl .u8 w v l) (hb : Frm.Byt l) :
    Calls Tryz.prog 116 #[v] w fun e w' => e = .returned (.tuple (rbV l).toArray) ∧ Below w.heap.size w w' := by
  obtain ⟨sp, cap, rfl, h1, h2, -⟩ := id hv; refine enter (args := [.slice sp l.length cap]) Tryz.func116 rfl Tryz.ntmps116 rfl ?_; unfold rbV
  by_cases h : l.length < 8
  · rw [if_pos h]
    refine K.kgo ?_; exact WQ.ret2 rfl rfl rfl ⟨rfl, Below.refl _ _⟩
  rw [if_neg h]; have e1 : rsV l = [.int .u32 (Crc.num4 l : Nat), .int .i64 0] := by unfold rsV; rw [if_neg (by omega)]
  have e2 : rsV (l.drop 4) = [.int .u32 (Crc.num4 (l.drop 4) : Nat), .int .i64 0] := by unfold rsV; rw [if_neg (by rw [List.length_drop]; omega)]
  have hbd : Frm.Byt (l.drop 4) := fun c hc => hb c (List.mem_of_mem_drop hc); have h64 := two64 (Crc.num4 l) (Crc.num4 (l.drop 4)) (Crc.num4_lt _ hb) (Crc.num4_lt _ hbd); refine K.kgo ?_; refine WL.call rfl rfl rfl rfl rfl Tryz.func117 rfl (by kernel_rfl) (readShort_any hv hb) ?_; rintro _ w1 ⟨rfl, k1⟩; refine ⟨_, rfl, ?_⟩; rw [e1]; refine K.kgo ?_; refine WL.from rfl rfl rfl rfl rfl rfl rfl (by omega) (by omega) (hv.of_below k1) fun v2 hv2 => ?_
  refine WL.call rfl rfl rfl rfl rfl Tryz.func117 rfl (by kernel_rfl) (readShort_any hv2 hbd) ?_; rintro _ w2 ⟨rfl, k2⟩; refine ⟨_, rfl, ?_⟩; rw [show (4 : Int).toNat = 4 from rfl, e2]; refine K.kgo ?_; exact WQ.ret2 rfl (congrArg (fun z => some (Value.int .u64 z)) h64) rfl ⟨rfl, k1.trans (k2.mono k1.size)⟩
end K
end Go.Proofs.YtpfkcfaifleliaaGreat

namespace Go.Proofs.YtpfkcfaifleliaaGreat
open Go.RowKit
namespace K
theorem xor32 (c : BitVec 32) (x : Int) : bits .xor .u32 (c.toNat : Int) x = ((c ^^^ BitVec.ofInt 32 x).toNat : Int) := by
  show IntKind.u32.wrap ((BitVec.ofInt 32 (c.toNat : Int) ^^^ BitVec.ofInt 32 x).toNat : Int) = _
  have h := (c ^^^ BitVec.ofInt 32 x).isLt; rw [BitVec.ofInt_natCast, BitVec.ofNat_toNat, BitVec.setWidth_eq, IntKind.wrap_u32]; omega
theorem and15_32 (c : BitVec 32) : bits .and .u32 (c.toNat : Int) 15 = ((c.toNat % 16 : Nat) : Int) := by
  have h := c.isLt; have := Go.bits_mask .u32 32 (by decide) (fun n h0 h1 => by rw [IntKind.wrap_u32]; omega) 4 (by decide) (c.toNat : Int) (by omega) (by omega); rw [show ((2 : Int) ^ 4 - 1) = 15 by decide, show ((2 : Int) ^ 4) = 16 by decide] at this; omega
theorem nib32 (c : BitVec 32) : bits .xor .u32 ((c.toNat : Int) / ((2 ^ min 4 IntKind.u32.bits : Nat) : Int)) ((Crc.tab.getD (c.toNat % 16) 0 : Nat) : Int) = ((Crc.nib c).toNat : Int) := by
  have h := c.isLt; have e : ((c.toNat : Int) / ((2 ^ min 4 IntKind.u32.bits : Nat) : Int)) = ((c >>> 4).toNat : Int) := by
    rw [show ((2 ^ min 4 IntKind.u32.bits : Nat) : Int) = 16 from rfl, BitVec.toNat_ushiftRight, Nat.shiftRight_eq_div_pow]; omega
  rw [e, xor32, BitVec.ofInt_natCast]
  rfl
def tabC : List Value := Crc.tab.map fun (n : Nat) => Value.int .u32 (n : Int)
theorem tab_cell {w : World} {g : Nat} {T : TypeId} (h : VBlk T w g tabC) (k : Nat) (hk : k < 16) : w.cell? ⟨g, k, none⟩ = some (.int .u32 ((Crc.tab.getD k 0 : Nat) : Int)) := by
  have hr : w.rangeAt g 0 tabC := VBlk.rangeAt h; have := hr k (.int .u32 ((Crc.tab.getD k 0 : Nat) : Int)) (by
    unfold tabC; have : k < Crc.tab.length := hk; simp [this])
  simpa using this
theorem take_succ' (l : List Int) (i : Nat) (h : i < l.length) : l.take (i + 1) = l.take i ++ [nth l i] := by rw [List.take_add_one]; simp [nth, h]
theorem sum_any {w : World} {v : Value} {l : List Int} (hv : Sl .u8 w v l) (hb : ∀ c ∈ l, 0 ≤ c ∧ c ≤ 255) (hl : l.length ≤ 140737488355328) :
    Calls Tryz.prog 81 #[v] w fun e w' => e = .returned (.int .u32 (Crc.crcN l : Nat)) ∧ Below w.heap.size w w' := by
  obtain ⟨sp, cap, rfl, -⟩ := id hv; refine enter (args := [.slice sp l.length cap]) Tryz.func81 rfl Tryz.ntmps81 rfl ?_; refine K.kgo ?_; refine WL.build tabC rfl rfl rfl rfl rfl (by kernel_rfl) ?_; refine WL.alloc (z := .agg (List.replicate 16 (Value.int .u32 0)).toArray) rfl rfl rfl rfl (fun _ => by kernel_rfl) fun g w1 hf0 => ?_; have hf : Fresh w g w1 236 (List.replicate 16 (Value.int .u32 0)) := hf0; clear hf0; refine K.kgo ?_; refine WL.storeRow rfl rfl rfl rfl rfl rfl hf.blk rfl rfl (by intro u hu; unfold tabC at hu; simp only [List.mem_map] at hu; obtain ⟨a, -, rfl⟩ := hu; rfl) ?_; have hB : Below w.heap.size w (w1.setRow g tabC.toArray) := below_setRow hf.below (by have := hf.eq; omega) _; have hT := hf.blk.setRow tabC; have hsl : Sl .u8 (w1.setRow g tabC.toArray) (.slice sp l.length cap) l := hv.of_below hB; generalize w1.setRow g tabC.toArray = w2 at hB hT hsl ⊢; clear hf hv; refine K.kgo ?_; refine WC.loop (fun i : Nat × BitVec 32 => [(3, .pointer (some ⟨g, 0, none⟩)), (4, .int .u32 (i.2.toNat : Int)), (8, .slice sp l.length cap), (9, .int .i64 l.length), (10, .int .i64 i.1)])
    (fun i w' => i.1 ≤ l.length ∧ i.2 = Crc.run 0xffffffff#32 (l.take i.1) ∧ w' = w2) (fun i => l.length - i.1) (0, 0xffffffff#32) ⟨rfl, rfl, rfl, rfl, rfl, trivial⟩ ⟨Nat.zero_le _, rfl, rfl⟩ ?_
  rintro ⟨i, c⟩ _ ⟨hi, hc, rfl⟩; simp only at hi hc ⊢
  by_cases h : i < l.length
  · have hbc := hb (nth l i) (nth_mem' l i h)
    have hu : IntKind.u32.wrap (nth l i) = nth l i := by rw [IntKind.wrap_u32]; omega
    refine K.kgo ?_; refine WL.idxI i rfl rfl rfl rfl rfl rfl hsl rfl rfl h fun p hp => ?_; refine K.kgl ?_; have e1 : bits .xor .u32 (c.toNat : Int) (IntKind.u32.wrap (nth l i)) = ((c ^^^ BitVec.ofInt 32 (nth l i)).toNat : Int) := by rw [hu]; exact xor32 c _
    have hnext : Crc.run 0xffffffff#32 (l.take (i + 1)) = Crc.nib (Crc.nib (c ^^^ BitVec.ofInt 32 (nth l i))) := by
      rw [take_succ' l i h, Crc.run_app, ← hc, ← Crc.step8_nib]; rfl
    generalize hd : c ^^^ BitVec.ofInt 32 (nth l i) = d at e1 hnext; have hd16 : d.toNat % 16 < 16 := by omega
    have hn16 : (Crc.nib d).toNat % 16 < 16 := by omega
    refine WL.as 4 (.int .u32 (d.toNat : Int)) rfl (congrArg (Value.int .u32) e1) ?_; refine WL.as 19 (.int .u32 ((d.toNat : Int) / ((2 ^ min 4 IntKind.u32.bits : Nat) : Int))) rfl (congrArg (fun z => Value.int .u32 (z / ((2 ^ min 4 IntKind.u32.bits : Nat) : Int))) e1) ?_; refine WL.as 21 (.int .u32 ((d.toNat % 16 : Nat) : Int)) rfl (by rw [e1, and15_32]) ?_; refine WL.idxA (d.toNat % 16) (d.toNat % 16) rfl rfl rfl rfl rfl rfl rfl rfl hd16 (by omega) ?_; have hcell := tab_cell hT (d.toNat % 16) hd16; refine K.kgl ?_; refine WL.as 4 (.int .u32 ((Crc.nib d).toNat : Int)) rfl (congrArg (Value.int .u32) (nib32 d)) ?_; refine WL.as 26 (.int .u32 (((Crc.nib d).toNat : Int) / ((2 ^ min 4 IntKind.u32.bits : Nat) : Int))) rfl (congrArg (fun z => Value.int .u32 (z / ((2 ^ min 4 IntKind.u32.bits : Nat) : Int))) (nib32 d)) ?_; refine WL.as 28 (.int .u32 (((Crc.nib d).toNat % 16 : Nat) : Int)) rfl (by rw [nib32, and15_32]) ?_; refine WL.idxA ((Crc.nib d).toNat % 16) ((Crc.nib d).toNat % 16) rfl rfl rfl rfl rfl rfl rfl rfl hn16 (by omega) ?_; have hcell2 := tab_cell hT ((Crc.nib d).toNat % 16) hn16; refine K.kgl ?_; refine WQ.again (i + 1, Crc.nib (Crc.nib d)) ⟨rfl, congrArg (fun z => some (Value.int .u32 z)) (nib32 (Crc.nib d)), rfl, rfl, rfl, trivial⟩ ⟨by show i + 1 ≤ l.length; omega, hnext.symm, rfl⟩ (by show l.length - (i + 1) < l.length - i; omega)
  · have hfin : bits .xor .u32 (if IntKind.u32.signed = true then -1 else IntKind.u32.max) (c.toNat : Int) = ((Crc.crcN l : Nat) : Int) := by
      rw [List.take_of_length_le (by omega)] at hc
      show bits .xor .u32 4294967295 (c.toNat : Int) = ((Crc.sum l).toNat : Int)
      have := xor32 0xffffffff#32 (c.toNat : Int); rw [show (((0xffffffff#32).toNat : Nat) : Int) = 4294967295 from rfl] at this; rw [this, BitVec.ofInt_natCast, BitVec.ofNat_toNat, BitVec.setWidth_eq]; unfold Crc.sum; rw [← hc, show (0xffffffff#32 : BitVec 32) = BitVec.allOnes 32 by decide, BitVec.allOnes_xor]
    refine K.kgo ?_; exact WQ.ret1 (v := .int .u32 (Crc.crcN l : Nat)) rfl (congrArg (fun z => some (Value.int .u32 z)) hfin) ⟨rfl, hB⟩
end K
end Go.Proofs.YtpfkcfaifleliaaGreat

namespace Go.Proofs.YtpfkcfaifleliaaGreat
namespace Frm
open Crc
def headF (n : Nat) : List Int := be4 n ++ be4 (crcN (be4 n))
def frameL (p : List Int) : List Int := headF p.length ++ (p ++ be4 (crcN (headF p.length ++ p)))
def decF (l : List Int) : Int × List Int × Nat :=
  if l.length < 8 then (2, [], 0)
  else if num4 (l.drop 4) ≠ crcN (be4 (num4 l)) then (4, [], 0)
  else if 524288 < num4 l then (5, [], 0)
  else if l.length < num4 l + 12 then (2, [], 0)
  else if num4 (l.drop (8 + num4 l)) ≠ crcN (l.take (8 + num4 l)) then (4, [], 0)
  else (0, (l.take (8 + num4 l)).drop 8, num4 l + 12)
theorem headF_len (n : Nat) : (headF n).length = 8 := rfl
theorem frameL_len (p : List Int) : (frameL p).length = p.length + 12 := by
  unfold frameL; rw [List.length_append, headF_len, List.length_append]
  show 8 + (p.length + 4) = _
  omega
theorem num4_head {n : Nat} (h : n < 4294967296) (r : List Int) : num4 (headF n ++ r) = n := by
  unfold headF; rw [List.append_assoc]; exact num4_be4 h _
theorem num4_sum (n : Nat) (r : List Int) : num4 ((headF n ++ r).drop 4) = crcN (be4 n) := by
  show num4 (be4 (crcN (be4 n)) ++ r) = _
  exact num4_be4 (crcN_lt _) r
theorem four {X : List Int} (h : X.length = 4) : ∃ a b c d, X = [a, b, c, d] := by
  match X, h with
  | [a, b, c, d], _ => exact ⟨a, b, c, d, rfl⟩
theorem decF_enc {p : List Int} (hp : p.length ≤ 524288) (r : List Int) : decF (frameL p ++ r) = (0, p, p.length + 12) := by
  have e1 : frameL p ++ r = headF p.length ++ (p ++ (be4 (crcN (headF p.length ++ p)) ++ r)) := by unfold frameL; simp [List.append_assoc]
  have hl : (frameL p ++ r).length = p.length + 12 + r.length := by rw [List.length_append, frameL_len]
  have h1 : num4 (frameL p ++ r) = p.length := by rw [e1]; exact num4_head (by omega) _
  have h2 : num4 ((frameL p ++ r).drop 4) = crcN (be4 p.length) := by rw [e1]; exact num4_sum _ _
  have e2 : frameL p ++ r = (headF p.length ++ p) ++ (be4 (crcN (headF p.length ++ p)) ++ r) := by rw [e1, List.append_assoc]
  have h8 : (headF p.length ++ p).length = 8 + p.length := by rw [List.length_append, headF_len]
  have h3 : (frameL p ++ r).take (8 + p.length) = headF p.length ++ p := by rw [e2, ← h8, List.take_left']; rfl
  have h4 : num4 ((frameL p ++ r).drop (8 + p.length)) = crcN (headF p.length ++ p) := by
    rw [e2, ← h8, List.drop_left' rfl]; exact num4_be4 (crcN_lt _) r
  unfold decF; rw [if_neg (by omega), h1, if_neg (by rw [h2]; simp), if_neg (by omega), if_neg (by omega), if_neg (by rw [h4, h3]; simp), h3]
  rfl
end Frm
end Go.Proofs.YtpfkcfaifleliaaGreat

namespace Go.Proofs.YtpfkcfaifleliaaGreat
open Go.RowKit
namespace K
def Makes (w : World) (l : List Int) : Ending → World → Prop := fun e w' => ∃ b, e = .returned b ∧ Bu w' b l ∧ Below w.heap.size w w' ∧ ∀ g, b.ownBlock = some g → w.heap.size ≤ g
theorem short_any (n : Nat) (w : World) : Calls Tryz.prog 80 #[.int .u32 (n : Int)] w (Makes w (Crc.be4 n)) := by
  refine enter (args := [.int .u32 (n : Int)]) Tryz.func80 rfl Tryz.ntmps80 rfl ?_; have h4 : [IntKind.u8.wrap ((n : Int) / ((2 ^ min 24 IntKind.u32.bits : Nat) : Int)), IntKind.u8.wrap ((n : Int) / ((2 ^ min 16 IntKind.u32.bits : Nat) : Int)), IntKind.u8.wrap ((n : Int) / ((2 ^ min 8 IntKind.u32.bits : Nat) : Int)), IntKind.u8.wrap (n : Int)] = Crc.be4 n := by
    unfold Crc.be4; rw [show ((2 ^ min 24 IntKind.u32.bits : Nat) : Int) = 16777216 from rfl, show ((2 ^ min 16 IntKind.u32.bits : Nat) : Int) = 65536 from rfl, show ((2 ^ min 8 IntKind.u32.bits : Nat) : Int) = 256 from rfl]; simp only [IntKind.wrap_u8]; simp
  refine K.kgo ?_; refine WL.lit rfl rfl rfl rfl rfl rfl rfl fun v w1 h1 h2 h3 => ?_; rw [h4] at h1; refine K.kgo ?_; exact WQ.ret1 rfl rfl ⟨v, rfl, h1, h2, h3⟩
theorem big_any (n : Nat) (w : World) : Calls Tryz.prog 78 #[.int .u64 (n : Int)] w (Makes w (Crc.be4 (n / 4294967296 % 4294967296) ++ Crc.be4 (n % 4294967296))) := by
  refine enter (args := [.int .u64 (n : Int)]) Tryz.func78 rfl Tryz.ntmps78 rfl ?_; have x1 : IntKind.u32.wrap ((n : Int) / ((2 ^ min 32 IntKind.u64.bits : Nat) : Int)) = ((n / 4294967296 % 4294967296 : Nat) : Int) := by
    rw [show ((2 ^ min 32 IntKind.u64.bits : Nat) : Int) = 4294967296 from rfl, IntKind.wrap_u32]; simp
  have x2 : IntKind.u32.wrap (n : Int) = ((n % 4294967296 : Nat) : Int) := by rw [IntKind.wrap_u32]; simp
  refine K.kgo ?_; refine WL.as 5 (.int .u32 ((n / 4294967296 % 4294967296 : Nat) : Int)) rfl (congrArg (Value.int .u32) x1) ?_; refine WL.call rfl rfl rfl rfl rfl Tryz.func80 rfl (by kernel_rfl) (short_any _ w) ?_; rintro _ w1 ⟨b1, rfl, h1, k1, o1⟩; refine ⟨_, rfl, ?_⟩; refine K.kgo ?_; refine WL.as 8 (.int .u32 ((n % 4294967296 : Nat) : Int)) rfl (congrArg (Value.int .u32) x2) ?_; refine WL.call rfl rfl rfl rfl rfl Tryz.func80 rfl (by kernel_rfl) (short_any _ w1) ?_; rintro _ w2 ⟨b2, rfl, h2, k2, o2⟩; refine ⟨_, rfl, ?_⟩; have h1' := h1.below k2; refine WL.app rfl rfl rfl rfl rfl h1' rfl h2.sl (by show 4 + 4 ≤ _; omega) fun b3 w3 h3 g3 => ?_; refine K.kgo ?_; have hw2 : Below w.heap.size w w2 := k1.trans (k2.mono k1.size); have o1' : ∀ g, b1.ownBlock = some g → w.heap.size ≤ g := o1; exact WQ.ret1 rfl rfl ⟨b3, rfl, h3, hw2.trans (g3.old hw2.size o1'), fun g hg => g3.own hw2.size o1' g hg⟩
theorem head_any (n : Nat) (hn : n < 4294967296) (w : World) : Calls Tryz.prog 79 #[.int .u32 (n : Int)] w fun e w' => e = .returned (.int .u64 ((n * 4294967296 + Crc.crcN (Crc.be4 n) : Nat) : Int)) ∧ Below w.heap.size w w' := by
  refine enter (args := [.int .u32 (n : Int)]) Tryz.func79 rfl Tryz.ntmps79 rfl ?_; have h64 := two64 n (Crc.crcN (Crc.be4 n)) hn (Crc.crcN_lt _); refine K.kgo ?_; refine WL.call rfl rfl rfl rfl rfl Tryz.func80 rfl (by kernel_rfl) (short_any _ w) ?_; rintro _ w1 ⟨b1, rfl, h1, k1, o1⟩; refine ⟨_, rfl, ?_⟩; refine WL.call rfl rfl rfl rfl rfl Tryz.func81 rfl (by kernel_rfl) (sum_any h1.sl (Crc.be4_byt n) (by show 4 ≤ _; omega)) ?_; rintro _ w2 ⟨rfl, k2⟩; refine ⟨_, rfl, ?_⟩; refine K.kgo ?_; exact WQ.ret1 rfl (congrArg (fun z => some (Value.int .u64 z)) h64) ⟨rfl, k1.trans (k2.mono k1.size)⟩
end K
end Go.Proofs.YtpfkcfaifleliaaGreat

namespace Go.Proofs.YtpfkcfaifleliaaGreat
open Go.RowKit
namespace K
section
variable {n : NN} {Q : Exit → Act → World → Prop} {l : Env} {w w' : World} {ops : Array Oper} {o : Oper} {rest : List Oper} {d : Nat}
theorem WL.nilB {x y : Operand} {t t2 e sz m c : Nat} {sp : Option Addr} (hg : o.guard = none) (hd : o.dst = some d) (hn : Nat.blt d n.n = true) (ho : o.op = .binOp .eql t x y t2) (ht : tyOf ty t = some (.slice e sz)) (hx : evl l x = some (.slice sp m c)) (hy : evl l y = some (.slice none 0 0))
    (h : WL n ops Q rest ((d, .bool sp.isNone) :: l) w) : WL n ops Q (o :: rest) l w :=
  WL.step hg hd hn (fun a ha => by
    unfold execOp; rw [ho]; obtain ⟨hu, -⟩ := TyOk.of tyOk ht; have := Lib.run_eql_slice_nil w t e sp m c 0 0 hu; have hq : (eqGuard .eql t x y (.slice sp m c) (.slice none 0 0)).run Tryz.prog w = .ok () w := by simp [eqGuard]
    simp only [ha.eval hx, ha.eval hy, Sem.run_bind, hq, Result.andThen_ok, this]
    rfl) h
end
section
variable {n : Nat} {l : Env} {w : World} {fn : Func} {R : Ending → World → Prop}
theorem WQ.ret3w {kn : Nat} {md : Option (Option Nat)} {t t2 t3 : Nat} {v v2 v3 : Value} (hr : fn.results = #[.tmp t, .tmp t2, .tmp t3]) (hl : look l t = some v) (hl2 : look l t2 = some v2) (hl3 : look l t3 = some v3) (h : R (.returned (.tuple #[v, v2, v3])) w) : WQ ⟨kn, [], md⟩ (bodyPost Tryz.prog fn R) .ret l w :=
  ⟨fun a ha => ⟨ha.defers, _, by rw [results_tmp3 hr, ha.getD hl, ha.getD hl2, ha.getD hl3], h⟩⟩
end
theorem bclone_any {w : World} {v : Value} {l : List Int} (hv : Sl .u8 w v l) (hl : l.length ≤ 140737488355328) : Calls Tryz.prog 118 #[v] w (Makes w l) := by
  obtain ⟨sp, cap, rfl, h1, h2, h3, h4⟩ := id hv; refine enter (args := [.slice sp l.length cap]) Tryz.func118 rfl Tryz.ntmps118 rfl ?_; refine K.kgo ?_; refine WL.nilB rfl rfl rfl rfl rfl rfl rfl ?_; cases sp with
  | none =>
    have hc := h4 rfl; obtain rfl : l = [] := List.eq_nil_of_length_eq_zero (by omega); refine K.kgo ?_; exact WQ.ret1 rfl rfl ⟨_, rfl, Bu.nil w, Below.refl _ _, fun g h => by cases h⟩
  | some p =>
    refine K.kgo ?_; refine WL.empty rfl rfl rfl rfl rfl fun g w1 hf => ?_; have hB := hf.below; have hg := hf.eq; refine K.kgo ?_; refine WL.app rfl rfl rfl rfl rfl (Bu.ofFresh hf) rfl (hv.of_below hB) (by simpa using hl) fun b w2 hb gr => ?_; refine K.kgo ?_; have hg' : ∀ g', (Value.slice (some ⟨g, 0, none⟩) 0 0).ownBlock = some g' → w.heap.size ≤ g' := fun g' h => by cases h; show w.heap.size ≤ g; omega
    exact WQ.ret1 rfl rfl ⟨b, rfl, hb, hB.trans (gr.old hB.size hg'), fun g' h => gr.own hB.size hg' g' h⟩
def FrmOut (w : World) (p : List Int) : Ending → World → Prop := fun e w' => ∃ b, e = .returned (.tuple #[b, .int .i64 (if 524288 < p.length then 5 else 0)]) ∧ Bu w' b (if 524288 < p.length then [] else Frm.frameL p) ∧ Below w.heap.size w w' ∧ ∀ g, b.ownBlock = some g → w.heap.size ≤ g
theorem fenc_any {w : World} {v : Value} {p : List Int} (hv : Sl .u8 w v p) (hp : Frm.Byt p) (hl : p.length ≤ 140737488355328) : Calls Tryz.prog 46 #[v] w (FrmOut w p) := by
  obtain ⟨sp, cap, rfl, h1, h2, -⟩ := id hv; refine enter (args := [.slice sp p.length cap]) Tryz.func46 rfl Tryz.ntmps46 rfl ?_; unfold FrmOut
  by_cases h : 524288 < p.length
  · rw [if_pos h, if_pos h]
    refine K.kgo ?_; exact WQ.ret2 rfl rfl rfl ⟨_, rfl, Bu.nil w, Below.refl _ _, fun g h => by cases h⟩
  rw [if_neg h, if_neg h]; have hw32 : IntKind.u32.wrap (p.length : Int) = (p.length : Int) := wraps_u32 _ (by omega) (by omega); refine K.kgo ?_; refine WL.as 10 (.int .u32 (p.length : Int)) rfl (congrArg (Value.int .u32) hw32) ?_; refine WL.call rfl rfl rfl rfl rfl Tryz.func79 rfl (by kernel_rfl) (head_any p.length (by omega) w) ?_; rintro _ w1 ⟨rfl, k1⟩; refine ⟨_, rfl, ?_⟩; refine WL.call rfl rfl rfl rfl rfl Tryz.func78 rfl (by kernel_rfl) (big_any _ w1) ?_; rintro _ w2 ⟨b2, rfl, q2, k2, o2⟩; refine ⟨_, rfl, ?_⟩; have hhd : Crc.be4 ((p.length * 4294967296 + Crc.crcN (Crc.be4 p.length)) / 4294967296 % 4294967296) ++ Crc.be4 ((p.length * 4294967296 + Crc.crcN (Crc.be4 p.length)) % 4294967296) = Frm.headF p.length := by
    have hc := Crc.crcN_lt (Crc.be4 p.length); rw [show (p.length * 4294967296 + Crc.crcN (Crc.be4 p.length)) / 4294967296 % 4294967296 = p.length by omega, show (p.length * 4294967296 + Crc.crcN (Crc.be4 p.length)) % 4294967296 = Crc.crcN (Crc.be4 p.length) by omega]
    rfl
  rw [hhd] at q2; have hw2 : Below w.heap.size w w2 := k1.trans (k2.mono k1.size); have o2' : ∀ g, b2.ownBlock = some g → w.heap.size ≤ g := fun g hg => Nat.le_trans k1.size (o2 g hg); refine K.kgo ?_; refine WL.app rfl rfl rfl rfl rfl q2 rfl (hv.of_below hw2) (by rw [Frm.headF_len]; omega) fun b3 w3 q3 g3 => ?_; have hw3 : Below w.heap.size w w3 := hw2.trans (g3.old hw2.size o2'); have o3 : ∀ g, b3.ownBlock = some g → w.heap.size ≤ g := fun g hg => g3.own hw2.size o2' g hg; clear g3; have hH : Frm.Byt (Frm.headF p.length ++ p) := fun c hc => (List.mem_append.1 hc).elim (fun h => by unfold Frm.headF at h; exact (List.mem_append.1 h).elim (Crc.be4_byt _ c) (Crc.be4_byt _ c)) (hp c); have hHl : (Frm.headF p.length ++ p).length = p.length + 8 := by rw [List.length_append, Frm.headF_len]; omega
  refine K.kgo ?_; refine WL.call rfl rfl rfl rfl rfl Tryz.func81 rfl (by kernel_rfl) (sum_any q3.sl hH (by omega)) ?_; rintro _ w4 ⟨rfl, k4⟩; refine ⟨_, rfl, ?_⟩; refine WL.call rfl rfl rfl rfl rfl Tryz.func80 rfl (by kernel_rfl) (short_any _ w4) ?_; rintro _ w5 ⟨b5, rfl, q5, k5, o5⟩; refine ⟨_, rfl, ?_⟩; have k45 : Below w3.heap.size w3 w5 := k4.trans (k5.mono k4.size); refine WL.app rfl rfl rfl rfl rfl (q3.below k45) rfl q5.sl (by rw [hHl]; show p.length + 8 + 4 ≤ _; omega) fun b6 w6 q6 g6 => ?_; refine K.kgo ?_; have hw5 : Below w.heap.size w w5 := hw3.trans (k45.mono hw3.size); refine WQ.ret2 rfl rfl rfl ⟨b6, rfl, ?_, hw5.trans (g6.old hw5.size o3), fun g hg => g6.own hw5.size o3 g hg⟩; have : Frm.frameL p = Frm.headF p.length ++ p ++ Crc.be4 (Crc.crcN (Frm.headF p.length ++ p)) := by unfold Frm.frameL; rw [List.append_assoc]
  rw [this]; exact q6
def FdcOut (w : World) (l : List Int) : Ending → World → Prop := fun e w' => ∃ b, e = .returned (.tuple #[b, .int .i64 ((Frm.decF l).2.2 : Nat), .int .i64 (Frm.decF l).1]) ∧ Bu w' b (Frm.decF l).2.1 ∧ Below w.heap.size w w' ∧ ∀ g, b.ownBlock = some g → w.heap.size ≤ g
theorem FdcOut.bad {w w' : World} {l : List Int} {x : Int} (h : Frm.decF l = (x, [], 0)) (hB : Below w.heap.size w w') : FdcOut w l (.returned (.tuple #[.slice none 0 0, .int .i64 0, .int .i64 x])) w' := by
  unfold FdcOut; rw [h]; exact ⟨_, rfl, Bu.nil w', hB, fun g h => by cases h⟩
theorem head_any2 (n : Nat) (hn : n < 4294967296) {B : Int} (hB : B = ((n * 4294967296 + Crc.crcN (Crc.be4 n) : Nat) : Int)) (w : World) : Calls Tryz.prog 79 #[.int .u32 (n : Int)] w fun e w' => e = .returned (.int .u64 B) ∧ Below w.heap.size w w' := by
  subst hB; exact head_any n hn w
set_option maxHeartbeats 400000 in
theorem fdec_any {w : World} {v : Value} {l : List Int} (hv : Sl .u8 w v l) (hb : Frm.Byt l) (hl : l.length ≤ 140737488355328) : Calls Tryz.prog 86 #[v] w (FdcOut w l) := by
  obtain ⟨sp, cap, rfl, h1, h2, -⟩ := id hv; refine enter (args := [.slice sp l.length cap]) Tryz.func86 rfl Tryz.ntmps86 rfl ?_; refine K.kgo ?_; refine WL.call rfl rfl rfl rfl rfl Tryz.func116 rfl (by kernel_rfl) (readBig_any hv hb) ?_; rintro _ w1 ⟨rfl, k1⟩; refine ⟨_, rfl, ?_⟩; have hv1 := hv.of_below k1
  by_cases c8 : l.length < 8
  · have e1 : rbV l = [.int .u64 0, .int .i64 2] := by unfold rbV; rw [if_pos c8]
    have e2 : Frm.decF l = (2, [], 0) := by unfold Frm.decF; rw [if_pos c8]
    rw [e1]; refine K.kgo ?_; exact WQ.ret3w rfl rfl rfl rfl (FdcOut.bad e2 k1)
  obtain ⟨A, hA⟩ : ∃ A : Int, A = ((Crc.num4 l * 4294967296 + Crc.num4 (l.drop 4) : Nat) : Int) := ⟨_, rfl⟩; have e1 : rbV l = [.int .u64 A, .int .i64 0] := by unfold rbV; rw [if_neg c8, hA]
  rw [e1]; have hbd : Frm.Byt (l.drop 4) := fun c hc => hb c (List.mem_of_mem_drop hc); have hn := Crc.num4_lt l hb; have hm := Crc.num4_lt _ hbd; have hcs := Crc.crcN_lt (Crc.be4 (Crc.num4 l)); have hdef : Frm.decF l = (if Crc.num4 (l.drop 4) ≠ Crc.crcN (Crc.be4 (Crc.num4 l)) then (4, [], 0)
    else if 524288 < Crc.num4 l then (5, [], 0)
    else if l.length < Crc.num4 l + 12 then (2, [], 0)
    else if Crc.num4 (l.drop (8 + Crc.num4 l)) ≠ Crc.crcN (l.take (8 + Crc.num4 l)) then (4, [], 0)
    else (0, (l.take (8 + Crc.num4 l)).drop 8, Crc.num4 l + 12)) := by
    conv => lhs; unfold Frm.decF
    rw [if_neg c8]
  generalize hN : Crc.num4 l = N at hA hn hcs hdef ⊢; generalize hM : Crc.num4 (l.drop 4) = M at hA hm hdef ⊢; have x1 : IntKind.u32.wrap (A / ((2 ^ min 32 IntKind.u64.bits : Nat) : Int)) = (N : Int) := by
    rw [hA]; rw [show ((2 ^ min 32 IntKind.u64.bits : Nat) : Int) = 4294967296 from rfl, IntKind.wrap_u32]; omega
  refine K.kgo ?_; refine WL.as 7 (.int .u32 (N : Int)) rfl (congrArg (Value.int .u32) x1) ?_; refine WL.as 24 (.int .u32 (N : Int)) rfl (congrArg (Value.int .u32) x1) ?_; obtain ⟨B, hB⟩ : ∃ B : Int, B = ((N * 4294967296 + Crc.crcN (Crc.be4 N) : Nat) : Int) := ⟨_, rfl⟩; have hhd := head_any2 N hn hB w1; refine K.kgo ?_; refine WL.call rfl rfl rfl rfl rfl Tryz.func79 rfl (by kernel_rfl) hhd ?_; rintro _ w2 ⟨rfl, k2⟩; refine ⟨_, rfl, ?_⟩; have hw2 : Below w.heap.size w w2 := k1.trans (k2.mono k1.size); have hv2 := hv.of_below hw2; clear k1 k2 hv1; generalize hC : Crc.crcN (Crc.be4 N) = C at hB hcs hdef ⊢
  by_cases c1 : ¬ M = C
  · rw [if_pos c1] at hdef
    have hne : A ≠ B := by omega
    clear hA hB; refine K.kgo ?_; exact WQ.ret3w rfl rfl rfl rfl (FdcOut.bad hdef hw2)
  rw [if_neg c1] at hdef; replace c1 : M = C := by omega
  have heq : A = B := by rw [hA, hB, c1]
  clear hA hB hhd x1
  by_cases c2 : 524288 < N
  · rw [if_pos c2] at hdef
    refine K.kgo ?_; exact WQ.ret3w rfl rfl rfl rfl (FdcOut.bad hdef hw2)
  rw [if_neg c2] at hdef
  by_cases c3 : l.length < N + 12
  · rw [if_pos c3] at hdef
    refine K.kgo ?_; exact WQ.ret3w rfl rfl rfl rfl (FdcOut.bad hdef hw2)
  rw [if_neg c3] at hdef; refine K.kgo ?_; refine WL.upto rfl rfl rfl rfl rfl rfl rfl (by omega) (by omega) hv2 fun v3 hv3 => ?_; have hz3 : ((8 : Int) + (N : Int)).toNat = 8 + N := by omega
  rw [hz3] at hv3; have hl3 : (l.take (8 + N)).length = 8 + N := by rw [List.length_take]; omega
  obtain ⟨sp3, cap3, rfl, -⟩ := id hv3; refine K.kgo ?_; refine WL.from rfl rfl rfl rfl rfl rfl rfl (by omega) (by rw [hl3]; omega) hv2 fun v4 hv4 => ?_
  have hz4 : (((l.take (8 + N)).length : Nat) : Int).toNat = 8 + N := by omega
  rw [hz4] at hv4; have hbd4 : Frm.Byt (l.drop (8 + N)) := fun c hc => hb c (List.mem_of_mem_drop hc); refine WL.call rfl rfl rfl rfl rfl Tryz.func117 rfl (by kernel_rfl) (readShort_any hv4 hbd4) ?_; rintro _ w3 ⟨rfl, k3⟩; refine ⟨_, rfl, ?_⟩; have e4 : rsV (l.drop (8 + N)) = [.int .u32 (Crc.num4 (l.drop (8 + N)) : Nat), .int .i64 0] := by unfold rsV; rw [if_neg (by rw [List.length_drop]; omega)]
  rw [e4]; have hw3 : Below w.heap.size w w3 := hw2.trans (k3.mono hw2.size); have hv33 := hv3.of_below k3; refine K.kgo ?_; have hbt : Frm.Byt (l.take (8 + N)) := fun c hc => hb c (List.mem_of_mem_take hc); refine WL.call rfl rfl rfl rfl rfl Tryz.func81 rfl (by kernel_rfl) (sum_any hv33 hbt (by omega)) ?_; rintro _ w4 ⟨rfl, k4⟩; refine ⟨_, rfl, ?_⟩; have hw4 : Below w.heap.size w w4 := hw3.trans (k4.mono hw3.size); have hv34 := hv33.of_below k4; generalize Crc.num4 (l.drop (8 + N)) = x at hdef ⊢; generalize Crc.crcN (l.take (8 + N)) = y at hdef ⊢
  by_cases c4 : x ≠ y
  · rw [if_pos c4] at hdef
    refine K.kgo ?_; exact WQ.ret3w rfl rfl rfl rfl (FdcOut.bad hdef hw4)
  rw [if_neg c4] at hdef; refine K.kgo ?_; refine WL.from rfl rfl rfl rfl rfl rfl rfl (by omega) (by rw [hl3]; omega) hv34 fun v5 hv5 => ?_
  rw [show (8 : Int).toNat = 8 from rfl] at hv5; have hl5 : ((l.take (8 + N)).drop 8).length = N := by rw [List.length_drop]; omega
  refine WL.call rfl rfl rfl rfl rfl Tryz.func118 rfl (by kernel_rfl) (bclone_any hv5 (by omega)) ?_; rintro _ w5 ⟨b5, rfl, q5, k5, o5⟩; refine ⟨_, rfl, ?_⟩; refine K.kgo ?_; refine WQ.ret3w rfl rfl rfl rfl ?_; unfold FdcOut; rw [hdef]; refine ⟨b5, ?_, q5, hw4.trans (k5.mono hw4.size), fun g hg => Nat.le_trans hw4.size (o5 g hg)⟩; have hfin : (((l.take (8 + N)).length : Nat) : Int) + 4 = ((N + 12 : Nat) : Int) := by omega
  show Ending.returned (.tuple #[b5, .int .i64 ((((l.take (8 + N)).length : Nat) : Int) + 4), .int .i64 0]) = _
  rw [hfin]
end K
end Go.Proofs.YtpfkcfaifleliaaGreat

namespace Go.Proofs.YtpfkcfaifleliaaGreat
open Go.RowKit
namespace K
theorem uvF_bytw : ∀ (f u : Nat), Frm.Byt (uvF f u)
  | 0, _ => fun c h => by cases h
  | f + 1, u => by
    unfold uvF
    split
    · intro c hc; simp at hc; omega
    · intro c hc
      rcases List.mem_cons.1 hc with rfl | h
      · omega
      · exact uvF_bytw f (u / 128) c h
theorem uvB_bytw (u : Nat) : Frm.Byt (uvB u) := uvF_bytw 10 u
theorem uvB_lenw (u : Nat) : (uvB u).length ≤ 10 := uvF_len 10 u
theorem bytesI_byt (s : ByteArray) : Frm.Byt (bytesI s) := fun c hc => by
  unfold bytesI at hc; obtain ⟨x, -, rfl⟩ := List.mem_map.1 hc; have := x.toNat_lt; omega
def Adds (w : World) (b : Value) (l : List Int) : Ending → World → Prop := fun e w' => ∃ b', e = .returned b' ∧ Bu w' b' l ∧ Grow w b w' b'
theorem wcount_any {w : World} {b : Value} {l : List Int} (hb : Bu w b l) (n : Nat) (hn : n ≤ 9007199254740992) (hl : l.length ≤ 100000000) : Calls Tryz.prog 45 #[b, .int .i64 (n : Int)] w (Adds w b (l ++ uvB n)) := by
  refine enter (args := [b, .int .i64 (n : Int)]) Tryz.func45 rfl Tryz.ntmps45 rfl ?_; have hw64 : IntKind.u64.wrap (n : Int) = (n : Int) := wraps_u64 _ (by omega) (by omega); have hul := uvB_lenw n; refine K.kgo ?_; refine WL.as 7 (.int .u64 (n : Int)) rfl (congrArg (Value.int .u64) hw64) ?_; refine WL.call rfl rfl rfl rfl rfl Tryz.func75 rfl (by kernel_rfl) (uvarint_any n (by omega) w) ?_; rintro _ w1 ⟨u, rfl, h1, k1, o1⟩; refine ⟨_, rfl, ?_⟩; refine WL.app rfl rfl rfl rfl rfl (hb.below k1) rfl h1.sl (by omega) fun b2 w2 h2 g2 => ?_; refine K.kgo ?_; exact WQ.ret1 rfl rfl ⟨b2, rfl, h2, ((Grow.refl w b).below k1).trans g2⟩
def reqC (kind seq : Int) (text : ByteArray) : List Value := .int .i64 kind :: .int .i64 seq :: .slice none 0 0 :: .string text :: .slice none 0 0 :: List.replicate 32 (.int .u8 0)
end K
end Go.Proofs.YtpfkcfaifleliaaGreat

namespace Go.Proofs.YtpfkcfaifleliaaGreat
open Go.RowKit
namespace K
section
variable {n : Nat} {l : Env} {w : World} {fn : Func} {R : Ending → World → Prop}
theorem WQ.retCTw {kn : Nat} {md : Option (Option Nat)} {p q g T m : Nat} {ty' : TypeId} {cs : List Value} {x : Value} (hr : fn.results = #[.cell p ty', .tmp q]) (hl : look l p = some (.pointer (some ⟨g, 0, none⟩))) (hq : look l q = some x) (ht : cellsN (tyOf ty ty') = some m) (hm : cs.length = m) (hb : VBlk T w g cs)
    (h : R (.returned (.tuple #[.agg cs.toArray, x])) w) : WQ ⟨kn, [], md⟩ (bodyPost Tryz.prog fn R) .ret l w :=
  ⟨fun a ha => ⟨ha.defers, _, by
    obtain ⟨_, hu, hdd, hsz⟩ := cellsN_ok tyOk ht; have hp := ha.getD hl; have hx := ha.getD hq; simp only [Array.getD_eq_getD_getElem?] at hp hx; have := run_loadVar_mid (P := Tryz.prog) w g 0 ty' cs _ (VBlk.rangeAt hb) hu hdd (by rw [hsz, hm]); simp [results, hr, hp, hx, asAddr, this], h⟩⟩
end
def zReq : List Value := reqC 0 0 (ByteArray.mk #[])
end K
end Go.Proofs.YtpfkcfaifleliaaGreat

namespace Go.Proofs.YtpfkcfaifleliaaGreat
open Go.RowKit
namespace K

structure Apart (w0 w : World) (b : Value) : Prop where
  below : Below w0.heap.size w0 w
  own : ∀ g, b.ownBlock = some g → w0.heap.size ≤ g
theorem Apart.grow {w0 w w' : World} {b b' : Value} (h : Apart w0 w b) (g : Grow w b w' b') : Apart w0 w' b' := ⟨h.below.trans (g.old h.below.size h.own), g.own h.below.size h.own⟩
abbrev six (v : V) (sn sk : Value) : List Value := [.int .i64 v.k, .int .i64 v.n, .int .i64 v.s, .string v.t, sn, sk]
theorem IsV.one {f : Nat} {w : World} {v : V} {cs : List Value} (h : IsV f w v cs) : Ones cs := by
  cases f with
  | zero => exact h.elim
  | succ f =>
    obtain ⟨sn, sk, rfl, -, -, -, -, ⟨_, _, rfl, -⟩, ⟨_, _, rfl, -⟩⟩ := h; intro u hu; simp at hu
    rcases hu with rfl | rfl | rfl | rfl | rfl | rfl <;> rfl
theorem Fresh.stand {w w1 wk : World} {g T : Nat} {cs : List Value} {b vk : Value} {l : List Int} (h : Fresh w g w1 T cs) (hb : Bu w b l) (hg : Grow w1 b wk vk) : VBlk T wk g cs :=
  h.blk.keep hg.1 ⟨by rw [h.size, h.eq]; omega, fun e => by have := hb.lt _ e; rw [h.eq] at this; omega⟩
end K
end Go.Proofs.YtpfkcfaifleliaaGreat

namespace Go.Proofs.YtpfkcfaifleliaaGreat
open Go.RowKit
namespace K
variable {n : NN} {Q : Exit → Act → World → Prop} {l : Env} {w w' : World} {ops : Array Oper} {o : Oper} {rest : List Oper} {d : Nat}

def strP (s : ByteArray) (cs : List Value) : Prop := cs = [.string s] ∧ s.size ≤ 140737488355328
def IsVo (O : Nat → Prop) : Nat → World → V → List Value → Prop
  | 0, _, _, _ => False
  | f + 1, w, v, cs => ∃ sn sk, cs = [.int .i64 v.k, .int .i64 v.n, .int .i64 v.s, .string v.t, sn, sk] ∧
      (Lit.int .i64 v.k).wf = true ∧ (Lit.int .i64 v.n).wf = true ∧ (Lit.int .i64 v.s).wf = true ∧ v.t.size ≤ 140737488355328 ∧ Els 1 noT strP O w sn v.names ∧ Els 6 noV (IsVo O f w) O w sk v.kids
theorem IsVo.keep {O O' : Nat → Prop} {K : Nat → Prop} {w w' : World} (hk : Keep K w w') (hK : ∀ b, O b → b < w.heap.size → K b) (hO : ∀ b, O b → O' b) : ∀ {f : Nat} {v : V} {cs : List Value}, IsVo O f w v cs → IsVo O' f w' v cs
  | 0, _, _, h => h
  | _ + 1, _, _, ⟨sn, sk, h1, h2, h3, h4, h5, h6, h7⟩ => ⟨sn, sk, h1, h2, h3, h4, h5, h6.keep hk hK hO fun _ _ h => h, h7.keep hk hK hO fun _ _ h => IsVo.keep hk hK hO h⟩
theorem IsVo.mono {O O' : Nat → Prop} {w : World} (hO : ∀ b, O b → O' b) {f : Nat} {v : V} {cs : List Value} (h : IsVo O f w v cs) : IsVo O' f w v cs := h.keep (Keep.refl (fun _ => True) w) (fun _ _ _ => trivial) hO
theorem Els.there {α : Type} {m : Nat} {z : α} {P P' : α → List Value → Prop} {O : Nat → Prop} {w : World} {v : Value} {l : List α} (h : Els m z P O w v l) (hP : ∀ x cs, P x cs → P' x cs) : Els m z P' (fun b => O b ∧ b < w.heap.size) w v l := by
  obtain ⟨sp, cap, h1, h2, h3, h5, h4⟩ := h; refine ⟨sp, cap, h1, h2, h3, h5, fun h0 => ?_⟩; obtain ⟨b, o, e, hlt, hOb, hr⟩ := h4 h0; refine ⟨b, o, e, hlt, ⟨hOb, hlt⟩, fun j hj => ?_⟩; obtain ⟨cs, hc, hp, hat⟩ := hr j hj; exact ⟨cs, hc, hP _ _ hp, hat⟩
theorem IsVo.there {O : Nat → Prop} {w : World} : ∀ {f : Nat} {v : V} {cs : List Value}, IsVo O f w v cs → IsVo (fun b => O b ∧ b < w.heap.size) f w v cs
  | 0, _, _, h => h
  | _ + 1, _, _, ⟨sn, sk, h1, h2, h3, h4, h5, h6, h7⟩ => ⟨sn, sk, h1, h2, h3, h4, h5, h6.there fun _ _ h => h, h7.there fun _ _ h => IsVo.there h⟩
theorem Els.strs {O : Nat → Prop} {w : World} {v : Value} {l : List ByteArray} (h : Els 1 noT strP O w v l) : Strs w v l := by
  obtain ⟨sp, cap, h1, h2, h3, -, h4⟩ := h; refine ⟨sp, cap, h1, h2, h3, fun j hj => ?_, fun h0 => ?_⟩
  · obtain ⟨b, o, -, -, -, hr⟩ := h4 (by omega)
    obtain ⟨cs, -, ⟨-, hp⟩, -⟩ := hr j hj; exact hp
  · obtain ⟨b, o, e, hb, -, hr⟩ := h4 h0
    refine ⟨b, o, e, hb, fun j hj => ?_⟩; obtain ⟨cs, -, ⟨rfl, -⟩, hat⟩ := hr j hj; have := hat 0 _ rfl; rw [Nat.mul_one] at this; exact this
theorem IsVo.isV {O : Nat → Prop} {w : World} : ∀ {f : Nat} {v : V} {cs : List Value}, IsVo O f w v cs → IsV f w v cs
  | 0, _, _, h => h
  | _ + 1, _, _, ⟨sn, sk, h1, h2, h3, h4, h5, h6, h7⟩ => ⟨sn, sk, h1, h2, h3, h4, h5, h6.strs, by
      obtain ⟨sp, cap, k1, k2, k3, -, k4⟩ := h7; refine ⟨sp, cap, k1, k2, k3, fun h0 => ?_⟩; obtain ⟨b, o, e, hb, -, hr⟩ := k4 h0; refine ⟨b, o, e, hb, fun j hj => ?_⟩; obtain ⟨cs, hc, hp, hat⟩ := hr j hj; exact ⟨cs, hc, IsVo.isV hp, hat⟩⟩
theorem IsVo.len {O : Nat → Prop} {f : Nat} {w : World} {v : V} {cs : List Value} (h : IsVo O f w v cs) : cs.length = 6 := h.isV.len
theorem IsVo.one {O : Nat → Prop} {f : Nat} {w : World} {v : V} {cs : List Value} (h : IsVo O f w v cs) : Ones cs := IsV.one h.isV

structure SlB (O : Nat → Prop) (w : World) (v : Value) (l : List Int) : Prop where
  sl : Sl .u8 w v l
  lt : 0 < l.length → ∀ b o s n c, v = .slice (some ⟨b, o, s⟩) n c → O b
theorem SlB.keep {O : Nat → Prop} {w w' : World} {v : Value} {l : List Int} (h : SlB O w v l) {K : Nat → Prop} (hk : Keep K w w') (hK : ∀ b, O b → K b) : SlB O w' v l := by
  refine ⟨?_, h.lt⟩; rcases Nat.eq_zero_or_pos l.length with h0 | h0
  · obtain ⟨sp, cap, rfl, h2, h3, h4, h5⟩ := h.sl
    exact ⟨sp, cap, rfl, h2, h3, fun h1 => absurd h1 (by omega), h5⟩
  · exact h.sl.keep hk fun b o n c e _ => hK b (h.lt h0 b o none n c e)
theorem SlB.mono {O O' : Nat → Prop} {w : World} {v : Value} {l : List Int} (h : SlB O w v l) (hO : ∀ b, O b → O' b) : SlB O' w v l := ⟨h.sl, fun h0 b o s n c e => hO b (h.lt h0 b o s n c e)⟩
theorem SlB.of_sl {w : World} {v : Value} {l : List Int} (h : Sl .u8 w v l) : SlB (fun b => b < w.heap.size) w v l :=
  ⟨h, fun h0 b o s n c e => by
    obtain ⟨sp, cap, rfl, -, -, h3, -⟩ := h; obtain ⟨b', o', rfl, hb, -⟩ := h3 h0
    injection e with e1 _ _; cases e1; exact hb⟩
theorem WL.fromB {O : Nat → Prop} {t e : Nat} {x lo : Operand} {v : Value} {kk : IntKind} {z : Int} {zs : List Int} {w0 : World} (hg : o.guard = none) (hd : o.dst = some d) (hn : Nat.blt d n.n = true) (ho : o.op = .slice t x (some lo) none none) (ht : tyOf ty t = some (.slice e 1))
    (hx : evl l x = some v) (hlo : evl l lo = some (.int kk z)) (h0 : 0 ≤ z) (h1 : z ≤ zs.length) (hs : SlB O w0 v zs) (h : ∀ v', SlB O w0 v' (zs.drop z.toNat) → WL n ops Q rest ((d, v') :: l) w) : WL n ops Q (o :: rest) l w := by
  have hs0 := hs.sl; have hlt := hs.lt; obtain ⟨sp, cap, rfl, hc, hm, hr, hn0⟩ := hs.sl; refine WL.step hg hd hn (v := sliced sp z.toNat zs.length cap 1) (fun a ha => ?_) (h _ ⟨sl_from hs0 (by omega), fun hl0 b o s m c e => ?_⟩)
  · obtain ⟨hu, hsz⟩ := TyOk.of tyOk ht
    have he : Tryz.prog.elem t = e := by simp [Program.elem, hu]
    have hu' : Tryz.prog.underlying t = some (.slice (Tryz.prog.elem t)) := by rw [he]; exact hu
    have hs : (sizeOf e).run Tryz.prog w = .ok 1 w := by
      cases hq : Tryz.prog.info? e with
      | none => rw [hq] at hsz; cases hsz
      | some q => rw [hq] at hsz; simp at hsz; simp [sizeOf, typeInfo, hq, hsz]
    unfold execOp; rw [ho]; simp [ha.eval hx, ha.eval hlo, run_sliceAt_slice w t _ _ _ _ hu', run_slice_l w t sp zs.length cap hu' kk z h0 (by omega), he, hs]
  · unfold sliced at e
    injection e with e1 _ _
    cases sp with
    | none => split at e1 <;> cases e1
    | some p =>
      obtain ⟨pb, po, ps⟩ := p; have := hlt (by rw [List.length_drop] at hl0; omega) pb po ps _ _ rfl
      split at e1
      · cases e1; exact this
      · have e2 := congrArg (fun q => q.map Addr.block) e1
        have e3 : ((⟨pb, po, ps⟩ : Addr).add (z.toNat * 1)).block = pb := by unfold Addr.add; split <;> rfl
        simp only [Option.map_some, Option.some.injEq, e3] at e2; rw [← e2]; exact this

structure RS (B : Nat) (w : World) (rb : Nat) (l : List Int) (e : Int) : Prop where
  rlt : rb < B
  byt : Byt l
  ex : ∃ sp cap, VBlk 272 w rb [.slice sp l.length cap, .int .i64 e] ∧ SlB (fun b => b < B ∧ b ≠ rb) w (.slice sp l.length cap) l
theorem RS.keep {B : Nat} {w w' : World} {rb : Nat} {l : List Int} {e : Int} (h : RS B w rb l e) {K : Nat → Prop} (hk : Keep K w w') (hK : ∀ b, b < B → K b) : RS B w' rb l e := by
  obtain ⟨sp, cap, h1, h2⟩ := h.ex; exact ⟨h.rlt, h.byt, sp, cap, h1.keep hk (hK _ h.rlt), h2.keep hk fun b hb => hK b hb.1⟩
theorem RS.setE {B : Nat} {w : World} {rb : Nat} {l : List Int} {e : Int} (h : RS B w rb l e) (x : Int) : RS B (w.setCell ⟨rb, 1, none⟩ (.int .i64 x)) rb l x := by
  obtain ⟨sp, cap, h1, h2⟩ := h.ex; exact ⟨h.rlt, h.byt, sp, cap, h1.set 1 (.int .i64 x), h2.keep (K := fun b => b ≠ rb) ((Keep.refl _ w).setCell (fun hk => hk rfl) _) fun b hb => hb.2⟩
theorem RS.setL {B : Nat} {w : World} {rb : Nat} {l l' : List Int} {e : Int} {v' : Value} (h : RS B w rb l e) (hb : Byt l') (hv : SlB (fun b => b < B ∧ b ≠ rb) w v' l') : RS B (w.setCell ⟨rb, 0, none⟩ v') rb l' e := by
  obtain ⟨sp, cap, h1, h2⟩ := h.ex; obtain ⟨sp', cap', rfl, -⟩ := hv.sl; exact ⟨h.rlt, hb, sp', cap', h1.set 0 (.slice sp' l'.length cap'), hv.keep (K := fun b => b ≠ rb) ((Keep.refl _ w).setCell (fun hk => hk rfl) _) fun b hb => hb.2⟩
def KeepR (rb : Nat) (w w' : World) : Prop := Keep (fun b => b < w.heap.size ∧ b ≠ rb) w w'
theorem KeepR.refl (rb : Nat) (w : World) : KeepR rb w w := Keep.refl _ _
theorem KeepR.trans {rb : Nat} {w w1 w2 : World} (h : KeepR rb w w1) (k : KeepR rb w1 w2) : KeepR rb w w2 := Keep.trans h (Keep.mono k fun _ hb => ⟨Nat.lt_of_lt_of_le hb.1 h.size, hb.2⟩)
theorem KeepR.below {rb : Nat} {w w1 : World} (h : Below w.heap.size w w1) : KeepR rb w w1 := (Keep.of_below h).mono fun _ hb => hb.1
theorem KeepR.set (rb i : Nat) (w : World) (v : Value) : KeepR rb w (w.setCell ⟨rb, i, none⟩ v) := (Keep.refl _ w).setCell (fun h => h.2 rfl) _
structure Out {α : Type} (f : List Int → Rd α) (l : List Int) (e : Int) (a : α) (l' : List Int) (e' : Int) : Prop where
  len : l'.length ≤ l.length
  bad : e ≠ 0 → e' = e
  ok : e = 0 → match f l with | .ok x r => a = x ∧ l' = r ∧ e' = 0 | .bad x => e' = x ∧ x ≠ 0
end K
end Go.Proofs.YtpfkcfaifleliaaGreat

namespace Go.Proofs.YtpfkcfaifleliaaGreat
namespace K
theorem range_piece (g : Nat → List Int) (i : Nat) : (List.range (i + 1)).flatMap g = (List.range i).flatMap g ++ g i := by
  rw [List.range_succ, List.flatMap_append]; simp
theorem range_len_le (g : Nat → List Int) {i n : Nat} (h : i ≤ n) : ((List.range i).flatMap g).length ≤ ((List.range n).flatMap g).length := by
  induction n with
  | zero => obtain rfl : i = 0 := by omega
            exact Nat.le_refl _
  | succ n ih =>
    rcases Nat.lt_or_ge n i with h' | h'
    · obtain rfl : i = n + 1 := by omega
      exact Nat.le_refl _
    · rw [range_piece, List.length_append]; have := ih h'; omega
theorem shp_form {v : V} (h : shp v = 0) : (1 ≤ v.k ∧ v.k ≤ 9) ∧ (v.k = 2 → 0 ≤ v.n ∧ v.n ≤ 1) ∧ (v.k = 3 → v.s = 0) ∧ (v.k = 4 → 1 ≤ v.s ∧ v.s ≤ 18 ∧ ¬ v.n.tmod 10 = 0) ∧ (v.k = 5 → 0 ≤ v.n ∧ v.n ≤ 9007199254740992) ∧
    v.kids.length ≤ 200 ∧ v.t.size ≤ 16384 ∧ (v.k = 9 → v.names.length = v.kids.length ∧ ∀ s ∈ v.names, s.size ≤ 40) := by
  unfold shp at h
  by_cases h1 : formB v = false
  · rw [if_pos h1] at h; cases h
  rw [if_neg h1] at h
  by_cases h2 : 16384 < v.t.size ∨ 200 < v.kids.length
  · rw [if_pos h2] at h; cases h
  rw [if_neg h2] at h
  by_cases h3 : v.k = 9 ∧ fieldsB v = false
  · rw [if_pos h3] at h; cases h
  have hf : formB v = true := by simpa using h1
  clear h h1; refine ⟨?_, ?_, ?_, ?_, ?_, by omega, by omega, ?_⟩
  · unfold formB at hf
    by_cases a1 : v.k = 1
    · omega
    by_cases a2 : v.k = 2
    · omega
    by_cases a3 : v.k = 3
    · omega
    by_cases a4 : v.k = 4
    · omega
    by_cases a5 : v.k = 5
    · omega
    by_cases a6 : v.k = 6 ∨ v.k = 7
    · omega
    by_cases a8 : v.k = 8
    · omega
    by_cases a9 : v.k = 9
    · omega
    rw [if_neg a1, if_neg a2, if_neg a3, if_neg a4, if_neg a5, if_neg a6, if_neg a8, if_neg a9] at hf; cases hf
  · intro e; unfold formB at hf; simp [e] at hf; omega
  · intro e; unfold formB at hf; simp [e] at hf; omega
  · intro e; unfold formB at hf; simp [e] at hf; exact ⟨hf.1.1.1.1, hf.1.1.1.2, hf.1.1.2⟩
  · intro e; unfold formB at hf; simp [e] at hf; omega
  · intro e
    have h4 : fieldsB v = true := by
      cases hb : fieldsB v with
      | true => rfl
      | false => exact (h3 ⟨e, hb⟩).elim
    unfold fieldsB at h4; simp only [Bool.and_eq_true, List.all_eq_true, decide_eq_true_eq] at h4; refine ⟨h4.2, fun s hs => ?_⟩; have := h4.1.1 s hs; unfold isNameB at this; simp at this
    omega
end K
end Go.Proofs.YtpfkcfaifleliaaGreat

namespace Go.Proofs.YtpfkcfaifleliaaGreat
open Go.RowKit
namespace K

theorem xor_ones (x : Nat) (h : x < 18446744073709551616) : x ^^^ 18446744073709551615 = 18446744073709551615 - x := by
  have e := congrArg BitVec.toNat (BitVec.xor_allOnes (x := BitVec.ofNat 64 x)); rw [BitVec.toNat_xor, BitVec.toNat_not, BitVec.toNat_ofNat, BitVec.toNat_allOnes, Nat.mod_eq_of_lt (by omega)] at e
  simpa using e
theorem zig_xor (v : Int) (h : -9223372036854775808 ≤ v ∧ v ≤ 9223372036854775807) :
    bits .xor .u64 (IntKind.u64.wrap (IntKind.i64.wrap (v * ((2 ^ min 1 IntKind.i64.bits : Nat) : Int)))) (IntKind.u64.wrap (v / ((2 ^ min 63 IntKind.i64.bits : Nat) : Int))) = zig v := by
  rw [show ((2 ^ min 1 IntKind.i64.bits : Nat) : Int) = 2 from rfl, show ((2 ^ min 63 IntKind.i64.bits : Nat) : Int) = 9223372036854775808 from rfl]; unfold zig
  by_cases hv : 0 ≤ v
  · rw [if_pos hv, show v / 9223372036854775808 = 0 by omega, show IntKind.u64.wrap 0 = ((0 : Nat) : Int) by rw [IntKind.wrap_u64]; omega,
      show IntKind.u64.wrap (IntKind.i64.wrap (v * 2)) = (((2 * v).toNat : Nat) : Int) by rw [IntKind.wrap_u64, IntKind.wrap_i64]; omega, bits_xor_u64_nat _ _ (by omega) (by omega), Nat.xor_zero]
  · rw [if_neg hv, show v / 9223372036854775808 = -1 by omega, show IntKind.u64.wrap (-1) = ((18446744073709551615 : Nat) : Int) by rw [IntKind.wrap_u64]; omega,
      show IntKind.u64.wrap (IntKind.i64.wrap (v * 2)) = (((2 * v + 18446744073709551616).toNat : Nat) : Int) by rw [IntKind.wrap_u64, IntKind.wrap_i64]; omega, bits_xor_u64_nat _ _ (by omega) (by omega), xor_ones _ (by omega)]
    omega
theorem zig_any (v : Int) (h : -9223372036854775808 ≤ v ∧ v ≤ 9223372036854775807) (w : World) : Calls Tryz.prog 76 #[.int .i64 v] w fun e w' => e = .returned (.int .u64 (zig v : Nat)) ∧ w' = w := by
  refine enter (args := [.int .i64 v]) Tryz.func76 rfl Tryz.ntmps76 rfl ?_; have hz := zig_xor v h; generalize (zig v : Nat) = z at hz ⊢; refine K.kgn ?_; refine WL.pure rfl rfl rfl rfl ?_; refine K.kgn ?_; refine WL.pure rfl rfl rfl rfl ?_; refine WL.pure rfl rfl rfl rfl ?_; refine WL.pure rfl rfl rfl rfl ?_; refine WL.pure rfl rfl rfl rfl ?_; refine WL.pure rfl rfl rfl rfl ?_; refine WL.pure rfl rfl rfl rfl ?_; refine WL.pure rfl rfl rfl rfl ?_; refine WL.pure rfl rfl rfl rfl ?_; refine K.kgn ?_; exact WQ.ret1 rfl rfl ⟨congrArg (fun z => Ending.returned (Value.int .u64 z)) hz, rfl⟩

theorem lay1_any {w : World} {bb u : Nat} {v : Value} {l : List Int} (hu : u < 18446744073709551616) (hb : Bx bb w v l) (hl : l.length ≤ 70368744177664) :
    Calls Tryz.prog 145 #[.int .u64 u, .pointer (some ⟨bb, 0, none⟩)] w fun e w' => e = .returned (.tuple #[]) ∧ ∃ v', Bx bb w' v' (l ++ uvB u) ∧ GrowB bb w v w' v' := by
  refine enter (args := [.int .u64 u, .pointer (some ⟨bb, 0, none⟩)]) Tryz.func145 rfl Tryz.ntmps145 rfl ?_; refine K.kgo ?_; refine WC.drawn 4 (fun wx => VBlk 47 wx bb [v]) fun w2 hd2 => ?_; have hb2 : Bx bb w2 v l := hb.below (hd2.below _); have hS : VBlk 47 w2 bb [v] := hb2.blk; have hgd : GrowB bb w v w2 v := (GrowB.refl bb w v).below (hd2.below _); have hul : (uvB u).length ≤ 10 := uvF_len 10 u; refine K.wl 0 [3, 4] rfl rfl rfl rfl rfl rfl rfl (fun wx hx => hx.cell 0 (by simp)) hS ?_; refine K.fr [1] hS ?_; refine K.wo 2 ?_; refine WL.call rfl rfl rfl rfl rfl Tryz.func75 rfl (by kernel_rfl) (uvarint_any u hu w2) ?_; rintro e w3 ⟨b3, rfl, hb3, k3, g3⟩; refine ⟨_, rfl, ?_⟩; have hbx3 : Bx bb w3 v l := hb2.below k3; refine WL.nil (WQ.dk (.inr hbx3.blk) ?_); refine K.wo 3 ?_; refine WL.app rfl rfl rfl rfl rfl hbx3.bu rfl hb3.sl (by omega) fun b4 w4 hb4 hg4 => ?_; obtain ⟨hblk, hbx, hgb⟩ := hbx3.put hb4 hg4; refine K.di hblk ?_; refine K.wo 4 ?_; refine WL.store rfl rfl rfl rfl rfl hb4.cell1 (by kernel_rfl) (hblk.cell 0 (by simp)) (hblk.free 0) ?_; refine K.dl ?_; refine WD.done (by kernel_rfl) ?_; exact WQ.end0 rfl ⟨rfl, b4, hbx, (hgd.below k3).trans hgb⟩
end K
end Go.Proofs.YtpfkcfaifleliaaGreat

namespace Go.Proofs.YtpfkcfaifleliaaGreat
open Go.RowKit
namespace K
section
variable {n : Nat} {l : Env} {w : World} {fn : Func} {R : Ending → World → Prop}
theorem WQ.ret3 {kn : Nat} {md : Option (Option Nat)} {t t2 t3 : Nat} {v v2 v3 : Value} (hr : fn.results = #[.tmp t, .tmp t2, .tmp t3]) (hl : look l t = some v) (hl2 : look l t2 = some v2) (hl3 : look l t3 = some v3) (h : R (.returned (.tuple #[v, v2, v3])) w) : WQ ⟨kn, [], md⟩ (bodyPost Tryz.prog fn R) .ret l w :=
  ⟨fun a ha => ⟨ha.defers, _, by rw [results_tmp3 hr, ha.getD hl, ha.getD hl2, ha.getD hl3], h⟩⟩
end

theorem and127b : ∀ x : Nat, x < 256 → bits .and .u8 (x : Int) 127 = ((x % 128 : Nat) : Int) := by decide +kernel
theorem or_shl (a c i : Nat) (ha : a < 128 ^ i) (h : c * 128 ^ i < 18446744073709551616) (h2 : a < 18446744073709551616) : bits .or .u64 (a : Int) ((c * 128 ^ i : Nat) : Int) = ((a + 128 ^ i * c : Nat) : Int) := by
  rw [bits_or_u64_nat _ _ h2 h, Nat.or_comm, Nat.mul_comm c]; rw [show 128 ^ i = 2 ^ (7 * i) by rw [Nat.pow_mul]] at ha ⊢; rw [← Nat.two_pow_add_eq_or_of_lt ha, Nat.add_comm]
theorem zag_xor (u : Nat) (h : u < 18446744073709551616) :
    bits .xor .i64 (IntKind.i64.wrap ((u : Int) / ((2 ^ min 1 IntKind.u64.bits : Nat) : Int))) (IntKind.i64.wrap (0 - IntKind.i64.wrap (bits .and .u64 (u : Int) 1))) = zag u := by
  have e1 : bits .and .u64 (u : Int) 1 = ((u % 2 : Nat) : Int) := by
    have := bits_and_u64_nat u 1 h (by omega); rw [show u &&& 1 = u % 2 from Nat.and_two_pow_sub_one_eq_mod u 1] at this; exact this
  rw [e1, show ((2 ^ min 1 IntKind.u64.bits : Nat) : Int) = 2 from rfl]; unfold zag; have ea : IntKind.i64.wrap ((u : Int) / 2) = ((u / 2 : Nat) : Int) := by rw [IntKind.wrap_i64]; omega
  rw [ea]
  by_cases hu : u % 2 = 0
  · rw [if_pos hu, hu, show IntKind.i64.wrap (0 - IntKind.i64.wrap ((0 : Nat) : Int)) = 0 by rw [IntKind.wrap_i64, IntKind.wrap_i64]; omega]
    show IntKind.i64.wrap ((BitVec.ofInt 64 ((u / 2 : Nat) : Int) ^^^ BitVec.ofInt 64 0).toNat : Nat) = _
    rw [show BitVec.ofInt 64 0 = 0#64 from rfl, BitVec.xor_zero, BitVec.ofInt_natCast, BitVec.toNat_ofNat, Nat.mod_eq_of_lt (by omega), IntKind.wrap_i64]; omega
  · rw [if_neg hu, show u % 2 = 1 by omega, show IntKind.i64.wrap (0 - IntKind.i64.wrap ((1 : Nat) : Int)) = -1 by rw [IntKind.wrap_i64, IntKind.wrap_i64]; omega]
    show IntKind.i64.wrap ((BitVec.ofInt 64 ((u / 2 : Nat) : Int) ^^^ BitVec.ofInt 64 (-1)).toNat : Nat) = _
    rw [show BitVec.ofInt 64 (-1) = BitVec.allOnes 64 from by decide, BitVec.xor_allOnes, BitVec.toNat_not, BitVec.ofInt_natCast, BitVec.toNat_ofNat, Nat.mod_eq_of_lt (by omega), IntKind.wrap_i64]; omega
theorem zag_any (u : Nat) (h : u < 18446744073709551616) (w : World) : Calls Tryz.prog 88 #[.int .u64 u] w fun e w' => e = .returned (.int .i64 (zag u)) ∧ w' = w := by
  refine enter (args := [.int .u64 u]) Tryz.func88 rfl Tryz.ntmps88 rfl ?_; have hz := zag_xor u h; generalize zag u = z at hz ⊢; refine K.kgn ?_; refine WL.pure rfl rfl rfl rfl ?_; refine K.kgn ?_
  iterate 8 refine WL.pure rfl rfl rfl rfl ?_
  refine WL.pure rfl rfl rfl rfl ?_; refine K.kgn ?_; exact WQ.ret1 rfl rfl ⟨congrArg (fun z => Ending.returned (Value.int .i64 z)) hz, rfl⟩

def ruV (l : List Int) : List Value := match rdU l with
  | .ok u r => [.int .u64 (u : Nat), .int .i64 ((l.length - r.length : Nat) : Int), .int .i64 0]
  | .bad e => [.int .u64 0, .int .i64 0, .int .i64 e]
theorem rdUF_bad : ∀ (f : Nat) (st : Bool) (l : List Int) (e : Int), rdUF f st l = .bad e → e = 2 ∨ e = 3
  | 0, _, _, e, h => by cases h; exact .inr rfl
  | f + 1, st, [], e, h => by cases h; exact .inl rfl
  | f + 1, st, c :: t, e, h => by
    unfold rdUF at h
    split at h
    · cases h; exact .inr rfl
    split at h
    · cases h
    cases hr : rdUF f true t with
    | ok v r => rw [hr] at h; cases h
    | bad x => rw [hr] at h; cases h; exact rdUF_bad f true t _ hr

set_option maxHeartbeats 1000000 in
theorem readUvarint_any {w : World} {v : Value} {l : List Int} (hs : Sl .u8 w v l) (hb : Byt l) :
    Calls Tryz.prog 119 #[v] w fun e w' => e = .returned (.tuple (ruV l).toArray) ∧ w' = w := by
  refine enter (args := [v]) Tryz.func119 rfl Tryz.ntmps119 rfl ?_; have hs0 := hs; obtain ⟨sp, cap, rfl, hc1, hc2, -, -⟩ := hs; refine K.kgo ?_; refine WC.loop (fun i : Nat × Nat => [(8, .slice sp l.length cap), (9, .int .i64 l.length), (10, .int .i64 i.1), (5, .int .u64 i.2)])
    (fun i w' => w' = w ∧ i.1 ≤ 9 ∧ i.1 ≤ l.length ∧ i.2 < 128 ^ i.1 ∧ rdU l = (rdUF (10 - i.1) (decide (0 < i.1)) (l.drop i.1)).bind fun v r => .ok (i.2 + 128 ^ i.1 * v) r) (fun i => l.length - i.1) (0, 0) ⟨rfl, rfl, rfl, rfl, trivial⟩
    ⟨rfl, by omega, by omega, by simp, by
      show rdUF 10 false l = _
      cases h : rdUF 10 false l with
      | ok a r => simp [Rd.bind, h]
      | bad e => simp [Rd.bind, h]⟩ ?_
  rintro ⟨i, a⟩ wr ⟨rfl, hi9, hil, ha, hR⟩; simp only at hi9 hil ha hR ⊢
  by_cases hik : i < l.length
  · have hdr : l.drop i = nth l i :: l.drop (i + 1) := by rw [List.drop_eq_getElem_cons hik]; simp [nth, hik]
    have hc := hb (nth l i) (by unfold nth; simp [hik]); rw [hdr] at hR; generalize hcc : nth l i = c at hR hc; rw [show 10 - i = (9 - i) + 1 by omega] at hR; unfold rdUF at hR; refine K.kgo ?_; refine WL.idxI i rfl rfl rfl rfl rfl rfl hs0 rfl rfl hik fun p hp => ?_; rw [hcc] at hp; refine WL.load rfl rfl rfl rfl rfl rfl hp ?_
    by_cases hbad : (9 - i = 0 ∧ 1 < c) ∨ (decide (0 < i) = true ∧ c = 0)
    · rw [if_pos hbad] at hR
      have hfin : ruV l = [.int .u64 0, .int .i64 0, .int .i64 3] := by unfold ruV; rw [hR]; rfl
      by_cases h1 : i = 9
      · subst h1
        by_cases h2 : 1 < c
        · refine K.kgo ?_
          refine WQ.ret3 rfl rfl rfl rfl ⟨by rw [hfin], rfl⟩
        · obtain rfl : c = 0 := by simp at hbad; omega
          refine K.kgo ?_; refine WQ.ret3 rfl rfl rfl rfl ⟨by rw [hfin], rfl⟩
      · obtain ⟨h2, rfl⟩ : 0 < i ∧ c = 0 := by simp at hbad; omega
        refine K.kgo ?_; refine WQ.ret3 rfl rfl rfl rfl ⟨by rw [hfin], rfl⟩
    · rw [if_neg hbad] at hR
      simp only [decide_eq_true_eq, not_or, not_and] at hbad; have e1 : bits .and .u8 c 127 = ((c.toNat % 128 : Nat) : Int) := by
        have := and127b c.toNat (by omega)
        rwa [Int.toNat_of_nonneg hc.1] at this
      have hle : 128 ^ i ≤ 128 ^ 9 := Nat.pow_le_pow_right (by decide) hi9; have hcm : c.toNat % 128 * 128 ^ i < 18446744073709551616 := by
        by_cases h9 : i = 9
        · subst h9
          have : c ≤ 1 := by have := hbad.1 (by omega); omega
          have : c.toNat % 128 ≤ 1 := by omega
          generalize c.toNat % 128 = q at this; omega
        · have : 128 ^ i ≤ 128 ^ 8 := Nat.pow_le_pow_right (by decide) (by omega)
          have h2 : c.toNat % 128 < 128 := Nat.mod_lt _ (by decide); generalize c.toNat % 128 = q at h2; generalize 128 ^ i = r at this; have := Nat.mul_le_mul (Nat.le_of_lt h2) this; omega
      have e2 : IntKind.u64.wrap (((c.toNat % 128 : Nat) : Int) * ((2 ^ min (7 * i) IntKind.u64.bits : Nat) : Int)) = ((c.toNat % 128 * 128 ^ i : Nat) : Int) := by
        rw [show min (7 * i) IntKind.u64.bits = 7 * i from Nat.min_eq_left (by show 7 * i ≤ 64; omega), Nat.pow_mul, ← Int.natCast_mul, IntKind.wrap_u64]; generalize c.toNat % 128 * 128 ^ i = q at hcm; omega
      have e3 := or_shl a (c.toNat % 128) i ha hcm (by omega); have e5 : IntKind.u64.wrap ((c.toNat % 128 : Nat) : Int) = ((c.toNat % 128 : Nat) : Int) := by rw [IntKind.wrap_u64]; omega
      have e6 : i % (2 ^ IntKind.u64.bits : Int).natAbs * 7 % (2 ^ IntKind.u64.bits : Int).natAbs = 7 * i := by
        rw [show (2 ^ IntKind.u64.bits : Int).natAbs = 18446744073709551616 from rfl]; omega
      have E : bits .or .u64 (a : Int) (IntKind.u64.wrap (IntKind.u64.wrap (bits .and .u8 c 127) * ((2 ^ min (i % (2 ^ IntKind.u64.bits : Int).natAbs * 7 % (2 ^ IntKind.u64.bits : Int).natAbs) IntKind.u64.bits : Nat) : Int))) = ((a + 128 ^ i * (c.toNat % 128) : Nat) : Int) := by
        rw [e6, e1, e5, e2, e3]
      clear e1 e2 e3 e5 e6
      by_cases hc8 : c < 128
      · rw [if_pos hc8] at hR
        have hfin : ruV l = [.int .u64 ((a + 128 ^ i * (c.toNat % 128) : Nat) : Int), .int .i64 ((i : Int) + 1), .int .i64 0] := by
          unfold ruV; rw [hR]; simp only [Rd.bind, List.length_drop]; rw [show c.toNat % 128 = c.toNat by omega, show ((l.length - (l.length - (i + 1)) : Nat) : Int) = (i : Int) + 1 by omega]
        have hcase : (i = 9 ∧ ¬ c = 0 ∧ ¬ 1 < c) ∨ (¬ i = 9 ∧ ¬ c = 0) ∨ (i = 0 ∧ c = 0) := by omega
        rcases hcase with ⟨h9, hc0, hc1⟩ | ⟨h9, hc0⟩ | ⟨h9, hc0⟩
        all_goals
          refine K.kgo ?_; refine WQ.ret3 rfl rfl rfl rfl ⟨by rw [hfin, ← E], rfl⟩
      · rw [if_neg hc8] at hR
        have h9 : ¬ i = 9 := fun h => by have := hbad.1 (by omega); omega
        have hc0 : ¬ c = 0 := by omega
        refine K.kgo ?_; refine WQ.again (i + 1, a + 128 ^ i * (c.toNat % 128)) ⟨rfl, rfl, rfl, congrArg (fun z => some (Value.int .u64 z)) E, trivial⟩ ⟨rfl, by show i + 1 ≤ 9; omega, hik, ?_, ?_⟩ (by show l.length - (i + 1) < l.length - i; omega)
        · show a + 128 ^ i * (c.toNat % 128) < 128 ^ (i + 1)
          have h2 : c.toNat % 128 < 128 := Nat.mod_lt _ (by decide); rw [Nat.pow_succ]; generalize c.toNat % 128 = q at h2; have := Nat.mul_le_mul_left (128 ^ i) (show q + 1 ≤ 128 by omega); rw [Nat.mul_add] at this; omega
        · show rdU l = (rdUF (10 - (i + 1)) (decide (0 < i + 1)) (l.drop (i + 1))).bind fun v r => .ok (a + 128 ^ i * (c.toNat % 128) + 128 ^ (i + 1) * v) r
          rw [hR, show 10 - (i + 1) = 9 - i by omega, show decide (0 < i + 1) = true from decide_eq_true (by omega)]; cases rdUF (9 - i) true (l.drop (i + 1)) with
          | bad e => rfl
          | ok v r =>
            simp only [Rd.bind]; rw [show c.toNat % 128 = c.toNat - 128 by omega, Nat.pow_succ, Nat.mul_add, Nat.mul_assoc (128 ^ i) 128 v, Nat.add_assoc]
  · obtain rfl : i = l.length := by omega
    rw [List.drop_length, show 10 - l.length = (9 - l.length) + 1 by omega] at hR; have hfin : ruV l = [.int .u64 0, .int .i64 0, .int .i64 2] := by unfold ruV; rw [hR]; rfl
    refine K.kgo ?_; refine WQ.ret3 rfl rfl rfl rfl ⟨by rw [hfin], rfl⟩
end K
end Go.Proofs.YtpfkcfaifleliaaGreat

namespace Go.Proofs.YtpfkcfaifleliaaGreat
open Go.RowKit
namespace K
variable {B rb : Nat} {w : World} {l : List Int} {e : Int}

theorem fail_any (h : RS B w rb l e) (x : Int) :
    Calls Tryz.prog 147 #[.pointer (some ⟨rb, 0, none⟩), .int .i64 x] w fun r w' => r = .returned (.tuple #[]) ∧ RS B w' rb l (if e = 0 then x else e) ∧ KeepR rb w w' := by
  refine enter (args := [.pointer (some ⟨rb, 0, none⟩), .int .i64 x]) Tryz.func147 rfl Tryz.ntmps147 rfl ?_; obtain ⟨sp, cap, h1, h2⟩ := h.ex; refine K.kgo ?_; refine WL.load rfl rfl rfl rfl rfl rfl (h1.cell 1 (by simp)) ?_
  by_cases he : e = 0
  · rw [if_pos he]
    refine K.kgo ?_; refine WL.store rfl rfl rfl rfl rfl rfl (by kernel_rfl) (h1.cell 1 (by simp)) (h1.free 1) ?_; refine K.kgo ?_; exact WQ.end0 rfl ⟨rfl, h.setE x, KeepR.set _ _ _ _⟩
  · rw [if_neg he]
    refine K.kgo ?_; exact WQ.end0 rfl ⟨rfl, h, KeepR.refl _ _⟩
theorem Out.ofBad {α : Type} {f : List Int → Rd α} {a : α} (he : ¬ e = 0) : Out f l e a l e := ⟨Nat.le_refl _, fun _ => rfl, fun h => absurd h he⟩

theorem byte_any (h : RS B w rb l e) :
    Calls Tryz.prog 174 #[.pointer (some ⟨rb, 0, none⟩)] w fun r w' => ∃ c l' e', r = .returned (.int .u8 c) ∧ 0 ≤ c ∧ c ≤ 255 ∧ RS B w' rb l' e' ∧ KeepR rb w w' ∧ Out rdB l e c l' e' := by
  refine enter (args := [.pointer (some ⟨rb, 0, none⟩)]) Tryz.func174 rfl Tryz.ntmps174 rfl ?_; obtain ⟨sp, cap, h1, h2⟩ := h.ex; refine K.kgo ?_; refine WL.load rfl rfl rfl rfl rfl rfl (h1.cell 1 (by simp)) ?_
  by_cases he : e = 0
  · subst he
    cases l with
    | nil =>
      simp only [List.length_nil] at h1 h2; refine K.kgo ?_; refine WL.load rfl rfl rfl rfl rfl rfl (h1.cell 0 (by simp)) ?_; refine K.kgo ?_; refine WL.call rfl rfl rfl rfl rfl Tryz.func147 rfl (by kernel_rfl) (fail_any h 2) ?_; rintro _ w2 ⟨rfl, hr, hk⟩; refine ⟨_, rfl, ?_⟩; rw [if_pos rfl] at hr; obtain ⟨sp2, cap2, h3, h4⟩ := hr.ex; refine K.kgo ?_; refine WL.load rfl rfl rfl rfl rfl rfl (h3.cell 1 (by simp)) ?_; refine K.kgo ?_; exact WQ.ret1 rfl rfl ⟨0, [], 2, rfl, by omega, by omega, hr, hk, Nat.le_refl _, fun h => absurd rfl h, fun _ => ⟨rfl, by omega⟩⟩
    | cons c r =>
      have hc := h.byt c (by simp); have hlen : ((c :: r).length : Int) = (r.length : Int) + 1 := by simp
      refine K.kgo ?_; refine WL.load rfl rfl rfl rfl rfl rfl (h1.cell 0 (by simp)) ?_; refine K.kgo ?_; refine WL.load rfl rfl rfl rfl rfl rfl (h1.cell 1 (by simp)) ?_; refine K.kgo ?_; refine WL.load rfl rfl rfl rfl rfl rfl (h1.cell 0 (by simp)) ?_; refine WL.idxI 0 rfl rfl rfl rfl rfl rfl h2.sl rfl rfl (by simp) fun p hp => ?_; refine WL.load rfl rfl rfl rfl rfl rfl hp ?_; refine K.kgo ?_; refine WL.load rfl rfl rfl rfl rfl rfl (h1.cell 0 (by simp)) ?_; refine WL.fromB (z := 1) rfl rfl rfl rfl rfl rfl rfl (by omega) (by omega) h2 fun v' hv' => ?_; have hv : v'.oneCell' = true := by obtain ⟨_, _, rfl, -⟩ := hv'.sl; rfl
      refine K.kgo ?_; refine WL.store rfl rfl rfl rfl rfl hv (by kernel_rfl) (h1.cell 0 (by simp)) (h1.free 0) ?_; refine K.kgo ?_; exact WQ.ret1 rfl rfl ⟨c, r, 0, rfl, hc.1, hc.2, h.setL h.byt.tail hv', KeepR.set _ _ _ _, by simp, fun h => absurd rfl h, fun _ => ⟨rfl, rfl, rfl⟩⟩
  · refine K.kgo ?_
    refine WL.load rfl rfl rfl rfl rfl rfl (h1.cell 1 (by simp)) ?_; refine K.kgo ?_; exact WQ.ret1 rfl rfl ⟨0, l, e, rfl, by omega, by omega, h, KeepR.refl _ _, .ofBad he⟩

theorem number_any (h : RS B w rb l e) :
    Calls Tryz.prog 175 #[.pointer (some ⟨rb, 0, none⟩)] w fun r w' => ∃ (u : Nat) (l' : List Int) (e' : Int), r = .returned (.int .u64 u) ∧ u < 18446744073709551616 ∧ RS B w' rb l' e' ∧ KeepR rb w w' ∧ Out rdU l e u l' e' := by
  refine enter (args := [.pointer (some ⟨rb, 0, none⟩)]) Tryz.func175 rfl Tryz.ntmps175 rfl ?_; obtain ⟨sp, cap, h1, h2⟩ := h.ex; refine K.kgo ?_; refine WL.load rfl rfl rfl rfl rfl rfl (h1.cell 1 (by simp)) ?_
  by_cases he : e = 0
  · subst he
    refine K.kgo ?_; refine WL.load rfl rfl rfl rfl rfl rfl (h1.cell 0 (by simp)) ?_; refine WL.call rfl rfl rfl rfl rfl Tryz.func119 rfl (by kernel_rfl) (readUvarint_any h2.sl h.byt) ?_; rintro _ _ ⟨rfl, rfl⟩; refine ⟨_, rfl, ?_⟩; unfold ruV; cases hr : rdU l with
    | bad x =>
      have hx := rdUF_bad 10 false l x hr; refine K.kgo ?_; refine WL.call rfl rfl rfl rfl rfl Tryz.func147 rfl (by kernel_rfl) (fail_any h x) ?_; rintro _ w2 ⟨rfl, hr2, hk⟩; refine ⟨_, rfl, ?_⟩; rw [if_pos rfl] at hr2; refine K.kgo ?_; exact WQ.ret1 rfl rfl ⟨0, l, x, rfl, by omega, hr2, hk, Nat.le_refl _, fun h => absurd rfl h, fun _ => by rw [hr]; exact ⟨rfl, by omega⟩⟩
    | ok u r =>
      obtain ⟨hcan, hu⟩ := rdU_can h.byt hr; have hdrop : l.drop (((l.length - r.length : Nat) : Int).toNat) = r := by rw [hcan]; simp
      have hlr : r.length ≤ l.length := by rw [hcan]; simp
      refine K.kgo ?_; refine WL.load rfl rfl rfl rfl rfl rfl (h1.cell 0 (by simp)) ?_; refine K.kgo ?_; refine WL.fromB (z := ((l.length - r.length : Nat) : Int)) rfl rfl rfl rfl rfl rfl rfl (by omega) (by omega) h2 fun v' hv' => ?_; rw [hdrop] at hv'; have hv : v'.oneCell' = true := by obtain ⟨_, _, rfl, -⟩ := hv'.sl; rfl
      refine K.kgo ?_; refine WL.store rfl rfl rfl rfl rfl hv (by kernel_rfl) (h1.cell 0 (by simp)) (h1.free 0) ?_; refine K.kgo ?_; exact WQ.ret1 rfl rfl ⟨u, r, 0, rfl, hu, h.setL (by have := h.byt; rw [hcan] at this; exact this.right) hv', KeepR.set _ _ _ _, hlr, fun h => absurd rfl h, fun _ => by rw [hr]; exact ⟨rfl, rfl, rfl⟩⟩
  · refine K.kgo ?_
    exact WQ.ret1 rfl rfl ⟨0, l, e, rfl, by omega, h, KeepR.refl _ _, .ofBad he⟩

theorem count_any (h : RS B w rb l e) :
    Calls Tryz.prog 177 #[.pointer (some ⟨rb, 0, none⟩)] w fun r w' => ∃ (u : Nat) (l' : List Int) (e' : Int), r = .returned (.int .i64 u) ∧ u ≤ 65536 ∧ RS B w' rb l' e' ∧ KeepR rb w w' ∧ Out rdC l e u l' e' := by
  refine enter (args := [.pointer (some ⟨rb, 0, none⟩)]) Tryz.func177 rfl Tryz.ntmps177 rfl ?_; refine K.kgo ?_; refine WL.call rfl rfl rfl rfl rfl Tryz.func175 rfl (by kernel_rfl) (number_any h) ?_; rintro _ w2 ⟨u, l2, e2, rfl, hu, hr, hk, ho⟩; refine ⟨_, rfl, ?_⟩
  by_cases hbig : 65536 < u
  · refine K.kgo ?_
    refine WL.call rfl rfl rfl rfl rfl Tryz.func147 rfl (by kernel_rfl) (fail_any hr 3) ?_; rintro _ w3 ⟨rfl, hr3, hk3⟩; refine ⟨_, rfl, ?_⟩; refine K.kgo ?_; refine WQ.ret1 rfl rfl ⟨0, l2, if e2 = 0 then 3 else e2, rfl, by omega, hr3, hk.trans hk3, ho.len, fun h0 => ?_, fun h0 => ?_⟩
    · rw [ho.bad h0, if_neg h0]
    · have h1 := ho.ok h0
      unfold rdC; cases hq : rdU l with
      | bad x =>
        rw [hq] at h1; obtain ⟨rfl, hx⟩ := h1; simp only [Rd.bind]; rw [if_neg hx]; exact ⟨rfl, hx⟩
      | ok x r =>
        rw [hq] at h1; obtain ⟨rfl, rfl, rfl⟩ := h1; simp only [Rd.bind]; rw [if_pos hbig]; exact ⟨rfl, by omega⟩
  · have e8 : IntKind.i64.wrap (u : Int) = (u : Int) := by rw [IntKind.wrap_i64]; omega
    refine K.kgo ?_; refine WQ.ret1 rfl rfl ⟨u, l2, e2, rfl, by omega, hr, hk, ho.len, ho.bad, fun h0 => ?_⟩; have h1 := ho.ok h0; unfold rdC; cases hq : rdU l with
    | bad x => rw [hq] at h1; exact h1
    | ok x r =>
      rw [hq] at h1; obtain ⟨rfl, rfl, rfl⟩ := h1; simp only [Rd.bind]; rw [if_neg hbig]; simp
theorem strOfNums_mk (zs : List Int) : strOfNums zs = ⟨(zs.map fun c => UInt8.ofNat c.toNat).toArray⟩ := rfl
theorem text_any (h : RS B w rb l e) :
    Calls Tryz.prog 176 #[.pointer (some ⟨rb, 0, none⟩)] w fun r w' => ∃ (s : ByteArray) (l' : List Int) (e' : Int), r = .returned (.string s) ∧ s.size ≤ 65536 ∧ RS B w' rb l' e' ∧ KeepR rb w w' ∧ Out rdT l e s l' e' := by
  refine enter (args := [.pointer (some ⟨rb, 0, none⟩)]) Tryz.func176 rfl Tryz.ntmps176 rfl ?_; refine K.kgo ?_; refine WL.call rfl rfl rfl rfl rfl Tryz.func177 rfl (by kernel_rfl) (count_any h) ?_; rintro _ w2 ⟨u, l2, e2, rfl, hu, hr, hk, ho⟩; refine ⟨_, rfl, ?_⟩; obtain ⟨sp, cap, h1, h2⟩ := hr.ex; have hle := ho.len; refine K.kgo ?_; refine WL.load rfl rfl rfl rfl rfl rfl (h1.cell 1 (by simp)) ?_
  by_cases he : e2 = 0
  · subst he
    by_cases hshort : l2.length < u
    · refine K.kgo ?_
      refine WL.load rfl rfl rfl rfl rfl rfl (h1.cell 0 (by simp)) ?_; refine K.kgo ?_; refine WL.call rfl rfl rfl rfl rfl Tryz.func147 rfl (by kernel_rfl) (fail_any hr 2) ?_; rintro _ w3 ⟨rfl, hr3, hk3⟩; refine ⟨_, rfl, ?_⟩; rw [if_pos rfl] at hr3; obtain ⟨sp3, cap3, h3, h4⟩ := hr3.ex; refine K.kgo ?_; refine WL.load rfl rfl rfl rfl rfl rfl (h3.cell 1 (by simp)) ?_; refine K.kgo ?_; refine WQ.ret1 rfl rfl ⟨ByteArray.empty, l2, 2, rfl, by decide, hr3, hk.trans hk3, ho.len, fun h0 => absurd (ho.bad h0).symm h0, fun h0 => ?_⟩; have h5 := ho.ok h0; unfold rdT; cases hq : rdC l with
      | bad x => rw [hq] at h5; exact absurd h5.1.symm h5.2
      | ok x r =>
        rw [hq] at h5; obtain ⟨rfl, rfl, -⟩ := h5; simp only [Rd.bind]; rw [if_pos hshort]; exact ⟨rfl, by omega⟩
    · have htl : (l2.take ((u : Int).toNat)) = l2.take u := by simp
      have hdl : (l2.drop ((u : Int).toNat)) = l2.drop u := by simp
      refine K.kgo ?_; refine WL.load rfl rfl rfl rfl rfl rfl (h1.cell 0 (by simp)) ?_; refine K.kgo ?_; refine WL.load rfl rfl rfl rfl rfl rfl (h1.cell 1 (by simp)) ?_; refine K.kgo ?_; refine WL.load rfl rfl rfl rfl rfl rfl (h1.cell 0 (by simp)) ?_; refine K.kgo ?_; refine WL.upto (z := (u : Int)) rfl rfl rfl rfl rfl rfl rfl (by omega) (by omega) h2.sl fun v3 hv3 => ?_; rw [htl] at hv3; refine WL.strOf rfl rfl rfl rfl rfl rfl rfl rfl hv3 ?_; refine K.kgo ?_; refine WL.load rfl rfl rfl rfl rfl rfl (h1.cell 0 (by simp)) ?_; refine K.kgo ?_; refine WL.fromB (z := (u : Int)) rfl rfl rfl rfl rfl rfl rfl (by omega) (by omega) h2 fun v' hv' => ?_; rw [hdl] at hv'; have hv : v'.oneCell' = true := by obtain ⟨_, _, rfl, -⟩ := hv'.sl; rfl
      refine K.kgo ?_; refine WL.store rfl rfl rfl rfl rfl hv (by kernel_rfl) (h1.cell 0 (by simp)) (h1.free 0) ?_; refine K.kgo ?_; refine WQ.ret1 rfl rfl ⟨strOfNums (l2.take u), l2.drop u, 0, rfl, ?_, hr.setL (fun c hc => hr.byt c (List.mem_of_mem_drop hc)) hv', hk.trans (KeepR.set _ _ _ _), by rw [List.length_drop]; omega, fun h0 => absurd (ho.bad h0).symm h0, fun h0 => ?_⟩
      · rw [strOfNums_mk]
        show ((l2.take u).map _).toArray.size ≤ _
        simp
        omega
      · have h5 := ho.ok h0
        unfold rdT; cases hq : rdC l with
        | bad x => rw [hq] at h5; exact absurd h5.1.symm h5.2
        | ok x r =>
          rw [hq] at h5; obtain ⟨rfl, rfl, -⟩ := h5; simp only [Rd.bind]; rw [if_neg hshort, strOfNums_mk]; simp
  · refine K.kgo ?_
    refine WL.load rfl rfl rfl rfl rfl rfl (h1.cell 1 (by simp)) ?_; refine K.kgo ?_; refine WQ.ret1 rfl rfl ⟨ByteArray.empty, l2, e2, rfl, by decide, hr, hk, ho.len, ho.bad, fun h0 => ?_⟩; have h5 := ho.ok h0; unfold rdT; cases hq : rdC l with
    | bad x => rw [hq] at h5; exact h5
    | ok x r => rw [hq] at h5; exact absurd h5.2.2 he
end K
end Go.Proofs.YtpfkcfaifleliaaGreat

namespace Go.Proofs.YtpfkcfaifleliaaGreat
open Go.RowKit
namespace K
theorem Keep.setRow {K : Nat → Prop} {a w : World} (h : Keep K a w) {g : Nat} (hg : ¬ K g) (cs : Array Value) : Keep K a (w.setRow g cs) :=
  ⟨h.os, h.tape, h.output, by simpa using h.size, fun k hk => (setRow_other w g k cs (fun e => hg (e ▸ hk))).trans (h.block k hk)⟩

theorem wf_i64 {x : Int} (h : -9223372036854775808 ≤ x ∧ x ≤ 9223372036854775807) : (Lit.int .i64 x).wf = true := by
  simp [Lit.wf, IntKind.min, IntKind.max, IntKind.bits, IntKind.signed]; omega
theorem isVo_leaf {O : Nat → Prop} {f : Nat} {w : World} {k n s : Int} {t : ByteArray} (hk : 0 ≤ k ∧ k ≤ 255) (hn : -9223372036854775808 ≤ n ∧ n ≤ 9223372036854775807) (hs : 0 ≤ s ∧ s ≤ 255) (ht : t.size ≤ 140737488355328) :
    IsVo O (f + 1) w (.mk k n s t [] []) [.int .i64 k, .int .i64 n, .int .i64 s, .string t, .slice none 0 0, .slice none 0 0] :=
  ⟨_, _, rfl, wf_i64 (by show -9223372036854775808 ≤ k ∧ k ≤ _; omega), wf_i64 hn, wf_i64 (by show -9223372036854775808 ≤ s ∧ s ≤ _; omega), ht, Els.nil _ _ _ _ _, Els.nil _ _ _ _ _⟩

structure KidsW (rb vb f : Nat) (k : Int) (w0 w : World) (ns : List ByteArray) (ks : List V) (sn sk : Value) (q : Nat → Prop) : Prop where
  blk : VBlk 82 w vb [.int .i64 k, .int .i64 0, .int .i64 0, .string ByteArray.empty, sn, sk]
  names : OwnE 9 1 noT strP (fun b => w0.heap.size ≤ b ∧ b ≠ vb) w sn ns
  kids : OwnE 82 6 noV (IsVo q f w) (fun b => w0.heap.size ≤ b ∧ b ≠ vb) w sk ks
  apart : ∀ g, sn.ownBlock = some g → sk.ownBlock ≠ some g
  qs : ∀ b, q b → w0.heap.size ≤ b ∧ b < w.heap.size ∧ b ≠ vb ∧ sn.ownBlock ≠ some b ∧ sk.ownBlock ≠ some b
  keep : KeepR rb w0 w
  vbe : vb = w0.heap.size
  rlt : rb < w0.heap.size
section
variable {rb vb f : Nat} {k : Int} {w0 w w' : World} {ns : List ByteArray} {ks : List V} {sn sk sn' sk' : Value} {q : Nat → Prop}
theorem KidsW.read (h : KidsW rb vb f k w0 w ns ks sn sk q) (hk : KeepR rb w w') : KidsW rb vb f k w0 w' ns ks sn sk q := by
  have hr := h.rlt; refine ⟨h.blk.keep hk ⟨h.blk.lt, by have := h.vbe; omega⟩, h.names.keep hk (fun g hg => ⟨h.names.lt hg, fun e => by have := (h.names.own hg).1; omega⟩) (fun _ h => h) fun _ _ h => h,
    h.kids.keep hk (fun g hg => ⟨h.kids.lt hg, fun e => by have := (h.kids.own hg).1; omega⟩) (fun _ h => h) fun x cs hx => hx.keep hk (fun b hb _ => ⟨(h.qs b hb).2.1, fun e => by have := (h.qs b hb).1; omega⟩) fun _ h => h,
    h.apart, fun b hb => ?_, h.keep.trans hk, h.vbe, h.rlt⟩
  obtain ⟨h1, h2, h3⟩ := h.qs b hb; exact ⟨h1, Nat.lt_of_lt_of_le h2 hk.size, h3⟩
theorem KidsW.below (h : KidsW rb vb f k w0 w ns ks sn sk q) (hk : Below w.heap.size w w') : KidsW rb vb f k w0 w' ns ks sn sk q := h.read (KeepR.below hk)
theorem KidsW.widen (h : KidsW rb vb f k w0 w ns ks sn sk q) {S : Nat} (hS : w0.heap.size ≤ S) (h1 : vb < S) (h2 : ∀ g, sn.ownBlock = some g → g < S) (h3 : ∀ g, sk.ownBlock = some g → g < S) : KidsW rb vb f k w0 w ns ks sn sk (fun b => q b ∨ (S ≤ b ∧ b < w.heap.size)) := by
  refine ⟨h.blk, h.names, h.kids.keep (Keep.refl (fun _ => True) w) (fun _ _ => trivial) (fun _ h => h) fun x cs hx => hx.mono fun b hb => .inl hb, h.apart, fun b hb => ?_, h.keep, h.vbe, h.rlt⟩; rcases hb with hb | ⟨hb1, hb2⟩
  · exact h.qs b hb
  · exact ⟨by omega, hb2, by omega, fun e => by have := h2 b e; omega, fun e => by have := h3 b e; omega⟩
theorem KidsW.setN (h : KidsW rb vb f k w0 w ns ks sn sk q) {s : ByteArray} (ho : OwnE 9 1 noT strP (fun b => (w0.heap.size ≤ b ∧ b ≠ vb) ∨ b = w.heap.size) w' sn' (ns ++ [s])) (hg : Grow w sn w' sn') :
    VBlk 82 w' vb [.int .i64 k, .int .i64 0, .int .i64 0, .string ByteArray.empty, sn, sk] ∧ KidsW rb vb f k w0 (w'.setCell ⟨vb, 4, none⟩ sn') (ns ++ [s]) ks sn' sk q := by
  have hvo : sn.ownBlock ≠ some vb := fun e => (h.names.own e).2 rfl; have hvb := h.blk.lt; have hblk : VBlk 82 w' vb [.int .i64 k, .int .i64 0, .int .i64 0, .string ByteArray.empty, sn, sk] := h.blk.keep hg.1 ⟨hvb, hvo⟩; have hsz := h.keep.size; have hO : ∀ b, (w0.heap.size ≤ b ∧ b ≠ vb) ∨ b = w.heap.size → w0.heap.size ≤ b ∧ b ≠ vb := fun b hb => hb.elim id fun e => by omega
  have hset : Keep (fun b => b ≠ vb) w' (w'.setCell ⟨vb, 4, none⟩ sn') := (Keep.refl _ w').setCell (fun hk => hk rfl) _; refine ⟨hblk, hblk.set 4 sn', ho.keep hset (fun g hg2 => (hO g (ho.own hg2)).2) hO fun _ _ h => h,
    (h.kids.keep hg.1 (fun g hg2 => ⟨h.kids.lt hg2, fun e => h.apart g e hg2⟩) (fun _ h => h) fun x cs hx => hx.keep hg.1 (fun b hb _ => ⟨(h.qs b hb).2.1, (h.qs b hb).2.2.2.1⟩) fun _ h => h).keep hset (fun g hg2 => (h.kids.own hg2).2) (fun _ h => h) fun x cs hx => hx.keep hset (fun b hb _ => (h.qs b hb).2.2.1) fun _ h => h,
    fun g hg2 e => (hg.2 g hg2).elim (fun h2 => h.apart g h2 e) fun h2 => by have := h.kids.lt e; omega, fun b hb => ?_, ?_, h.vbe, h.rlt⟩
  · obtain ⟨h1, h2, h3, h4, h5⟩ := h.qs b hb
    exact ⟨h1, Nat.lt_of_lt_of_le h2 (Nat.le_trans hg.1.size hset.size), h3, fun e => (hg.2 b e).elim h4 fun h6 => by omega, h5⟩
  · have hvb2 := h.vbe
    exact (Keep.trans h.keep ((Keep.mono hg.1 fun b hb => ⟨Nat.lt_of_lt_of_le hb.1 hsz, fun e => by have := (h.names.own e).1; omega⟩))).setCell (p := ⟨vb, 4, none⟩) (fun hk => by have := hk.1; simp only at this; omega) _
theorem KidsW.setK (h : KidsW rb vb f k w0 w ns ks sn sk q) {v : V} (ho : OwnE 82 6 noV (IsVo q f w) (fun b => (w0.heap.size ≤ b ∧ b ≠ vb) ∨ b = w.heap.size) w' sk' (ks ++ [v])) (hg : Grow w sk w' sk') :
    VBlk 82 w' vb [.int .i64 k, .int .i64 0, .int .i64 0, .string ByteArray.empty, sn, sk] ∧ KidsW rb vb f k w0 (w'.setCell ⟨vb, 5, none⟩ sk') ns (ks ++ [v]) sn sk' q := by
  have hvo : sk.ownBlock ≠ some vb := fun e => (h.kids.own e).2 rfl; have hvb := h.blk.lt; have hblk : VBlk 82 w' vb [.int .i64 k, .int .i64 0, .int .i64 0, .string ByteArray.empty, sn, sk] := h.blk.keep hg.1 ⟨hvb, hvo⟩; have hsz := h.keep.size; have hO : ∀ b, (w0.heap.size ≤ b ∧ b ≠ vb) ∨ b = w.heap.size → w0.heap.size ≤ b ∧ b ≠ vb := fun b hb => hb.elim id fun e => by omega
  have hset : Keep (fun b => b ≠ vb) w' (w'.setCell ⟨vb, 5, none⟩ sk') := (Keep.refl _ w').setCell (fun hk => hk rfl) _; have hP : ∀ x cs, IsVo q f w x cs → IsVo q f (w'.setCell ⟨vb, 5, none⟩ sk') x cs := fun x cs hx =>
    (hx.keep (O' := q) hg.1 (fun b hb _ => ⟨(h.qs b hb).2.1, (h.qs b hb).2.2.2.2⟩) fun _ h => h).keep hset (fun b hb _ => (h.qs b hb).2.2.1) fun _ h => h
  refine ⟨hblk, hblk.set 5 sk', (h.names.keep hg.1 (fun g hg2 => ⟨h.names.lt hg2, fun e => h.apart g hg2 e⟩) (fun _ h => h) fun _ _ h => h).keep hset (fun g hg2 => (h.names.own hg2).2) (fun _ h => h) fun _ _ h => h,
    ho.keep hset (fun g hg2 => (hO g (ho.own hg2)).2) hO hP, fun g hg2 e => (hg.2 g e).elim (fun h2 => h.apart g hg2 h2) fun h2 => by have := h.names.lt hg2; omega, fun b hb => ?_, ?_, h.vbe, h.rlt⟩
  · obtain ⟨h1, h2, h3, h4, h5⟩ := h.qs b hb
    exact ⟨h1, Nat.lt_of_lt_of_le h2 (Nat.le_trans hg.1.size hset.size), h3, h4, fun e => (hg.2 b e).elim h5 fun h6 => by omega⟩
  · have hvb2 := h.vbe
    exact (Keep.trans h.keep ((Keep.mono hg.1 fun b hb => ⟨Nat.lt_of_lt_of_le hb.1 hsz, fun e => by have := (h.kids.own e).1; omega⟩))).setCell (p := ⟨vb, 5, none⟩) (fun hk => by have := hk.1; simp only at this; omega) _
end
theorem elemV6 : ElemV Tryz.prog 46 82 6 88 := ElemV.mk' (z := .agg #[.int .i64 0, .int .i64 0, .int .i64 0, .string ByteArray.empty, .slice none 0 0, .slice none 0 0]) Tryz.underlying46 (by kernel_rfl) rfl (by omega)
theorem elemS1 : ElemV Tryz.prog 80 9 1 16 := ElemV.mk' (z := .string ByteArray.empty) Tryz.underlying80 (by kernel_rfl) rfl (by omega)

section
variable {n : Nat} {l : Env} {w : World} {fn : Func} {R : Ending → World → Prop}
theorem WQ.retCT {kn : Nat} {md : Option (Option Nat)} {p q g T m : Nat} {ty' : TypeId} {cs : List Value} {x : Value} (hr : fn.results = #[.cell p ty', .tmp q]) (hl : look l p = some (.pointer (some ⟨g, 0, none⟩))) (hq : look l q = some x) (ht : cellsN (tyOf ty ty') = some m) (hm : cs.length = m) (hb : VBlk T w g cs)
    (h : R (.returned (.tuple #[.agg cs.toArray, x])) w) : WQ ⟨kn, [], md⟩ (bodyPost Tryz.prog fn R) .ret l w :=
  ⟨fun a ha => ⟨ha.defers, _, by
    obtain ⟨_, hu, hdd, hsz⟩ := cellsN_ok tyOk ht; have hp := ha.getD hl; have hx := ha.getD hq; simp only [Array.getD_eq_getD_getElem?] at hp hx; have := run_loadVar_mid (P := Tryz.prog) w g 0 ty' cs _ (VBlk.rangeAt hb) hu hdd (by rw [hsz, hm]); simp [results, hr, hp, hx, asAddr, this], h⟩⟩
theorem WQ.retCTT {kn : Nat} {md : Option (Option Nat)} {p q q2 g T m : Nat} {ty' : TypeId} {cs : List Value} {x x2 : Value} (hr : fn.results = #[.cell p ty', .tmp q, .tmp q2]) (hl : look l p = some (.pointer (some ⟨g, 0, none⟩))) (hq : look l q = some x) (hq2 : look l q2 = some x2) (ht : cellsN (tyOf ty ty') = some m) (hm : cs.length = m) (hb : VBlk T w g cs)
    (h : R (.returned (.tuple #[.agg cs.toArray, x, x2])) w) : WQ ⟨kn, [], md⟩ (bodyPost Tryz.prog fn R) .ret l w :=
  ⟨fun a ha => ⟨ha.defers, _, by
    obtain ⟨_, hu, hdd, hsz⟩ := cellsN_ok tyOk ht; have hp := ha.getD hl; have hx := ha.getD hq; have hx2 := ha.getD hq2; simp only [Array.getD_eq_getD_getElem?] at hp hx hx2; have := run_loadVar_mid (P := Tryz.prog) w g 0 ty' cs _ (VBlk.rangeAt hb) hu hdd (by rw [hsz, hm]); simp [results, hr, hp, hx, hx2, asAddr, this], h⟩⟩
end
section
variable {n : NN} {Q : Exit → Act → World → Prop} {l : Env} {w : World} {ops : Array Oper} {d : Nat} {S : World → Prop} {m fuel : Nat} {listed : Array Bool}
theorem WD.build {oi : Oper} {t : Nat} {parts : List (Nat × Operand)} {ps : List (Nat × Value)} (cells : List Value) (i : Nat) (hi : ops[i]? = some oi) (hs : mayB ops listed i m = true) (hd : oi.dst = some d) (hn : Nat.blt d n.n = true)
    (hQ : Passes Q) (hw : wants ops l oi = some true) (ho : oi.op = .build t parts.toArray) (hp : evlParts l parts = some ps) (hf : Tryz.prog.built t ps = some cells.toArray) (hS : listed.getD m false = true ∨ S w)
    (h : WD n ops Q S m fuel (listed.setIfInBounds i true) ((d, .agg cells.toArray) :: l) w) : WD n ops Q S m (fuel + 1) listed l w :=
  WD.first i hi hs hd hn hQ (fun a ha => .inl ⟨wants_run ha hw, fun w _ => by
    unfold execOp; rw [ho]; have := run_build (P := Tryz.prog) w t (parts.toArray.map fun (i, x) => (i, a.eval x)) cells.toArray (by
      rw [show (parts.toArray.map fun (x : Nat × Operand) => (x.1, a.eval x.2)).toList = ps by rw [Array.toList_map]; exact evlParts_map ha hp]; exact hf)
    simp only [Sem.run_bind, this, Result.andThen_ok]
    rfl⟩) hS h
end

def zV : V := .mk 0 0 0 noT [] []
def zCells : List Value := [.int .i64 0, .int .i64 0, .int .i64 0, .string ByteArray.empty, .slice none 0 0, .slice none 0 0]
theorem zV_is (O : Nat → Prop) (f : Nat) (w : World) : IsVo O (f + 1) w zV zCells := isVo_leaf (k := 0) (n := 0) (s := 0) (t := noT) (by omega) (by omega) (by omega) (by decide)
end K
end Go.Proofs.YtpfkcfaifleliaaGreat

namespace Go.Proofs.YtpfkcfaifleliaaGreat
open Go.RowKit
namespace K

section
variable {α β : Type} {l l1 l2 : List Int} {e e1 e2 : Int}
theorem Out.bind {f : List Int → Rd α} {g : α → List Int → Rd β} {a : α} {b : β} (h1 : Out f l e a l1 e1) (h2 : Out (g a) l1 e1 b l2 e2) : Out (fun l => (f l).bind g) l e b l2 e2 := by
  refine ⟨Nat.le_trans h2.len h1.len, fun h => ?_, fun h => ?_⟩
  · have := h1.bad h
    rw [h2.bad (by rw [this]; exact h), this]
  · have h3 := h1.ok h
    cases hq : f l with
    | bad x =>
      rw [hq] at h3; obtain ⟨rfl, hx⟩ := h3; simp only [Rd.bind]; exact ⟨h2.bad hx, hx⟩
    | ok x r =>
      rw [hq] at h3; obtain ⟨rfl, rfl, rfl⟩ := h3; have h4 := h2.ok rfl; simp only [Rd.bind]; exact h4
theorem Out.stop {f : List Int → Rd α} {g : α → List Int → Rd β} {a : α} {b : β} (h1 : Out f l e a l1 e1) (hne : ¬ e1 = 0) (hl : l2.length ≤ l1.length) : Out (fun l => (f l).bind g) l e b l2 e1 := by
  refine ⟨Nat.le_trans hl h1.len, h1.bad, fun h => ?_⟩; have h3 := h1.ok h; cases hq : f l with
  | bad x =>
    rw [hq] at h3; simp only [Rd.bind]; exact h3
  | ok x r => rw [hq] at h3; exact absurd h3.2.2 hne
theorem Out.pure (a : α) : Out (fun l => .ok a l) l e a l e := ⟨Nat.le_refl _, fun _ => rfl, fun h => ⟨rfl, rfl, h⟩⟩
theorem Out.fail {a : α} (x : Int) (hx : x ≠ 0) : Out (fun _ => .bad x) l e a l (if e = 0 then x else e) := ⟨Nat.le_refl _, fun h => if_neg h, fun h => ⟨if_pos h, hx⟩⟩
theorem Out.congr {f g : List Int → Rd α} {a : α} (h : Out f l e a l1 e1) (hfg : f l = g l) : Out g l e a l1 e1 := ⟨h.len, h.bad, fun h0 => by have := h.ok h0; rw [hfg] at this; exact this⟩
end

def GV (m : Nat) (k : Int) (r : List Int) : Rd V :=
  if k = 1 then .ok (.mk 1 0 0 noT [] []) r
  else if k = 2 then (rdB r).bind fun c r => if 1 < c then .bad 3 else .ok (.mk 2 c 0 noT [] []) r
  else if k = 3 then (rdU r).bind fun u r => .ok (.mk 3 (zag u) 0 noT [] []) r
  else if k = 4 then (rdU r).bind fun u r => (rdB r).bind fun s r => .ok (.mk 4 (zag u) s noT [] []) r
  else if k = 5 then (rdU r).bind fun u r => .ok (.mk 5 (IntKind.i64.wrap (u : Int)) 0 noT [] []) r
  else if k = 6 ∨ k = 7 then (rdT r).bind fun t r => .ok (.mk k 0 0 t [] []) r
  else if k = 8 ∨ k = 9 then (rdC r).bind fun n r => (rdK (rdV m) (decide (k = 9)) n [] [] r).bind fun p r => .ok (.mk k 0 0 noT p.1 p.2) r
  else .bad 3
theorem rdV_GV (m : Nat) : rdV (m + 1) = fun l => (rdB l).bind (GV m) := rfl

end K
end Go.Proofs.YtpfkcfaifleliaaGreat

namespace Go.Proofs.YtpfkcfaifleliaaGreat
open Go.RowKit
namespace K
theorem zag_range {u : Nat} (h : u < 18446744073709551616) : -9223372036854775808 ≤ zag u ∧ zag u ≤ 9223372036854775807 := by unfold zag; split <;> omega
def ValPost (m B rb : Nat) (w : World) (l : List Int) (e : Int) (r : Ending) (w' : World) : Prop :=
  ∃ v cs l' e', r = .returned (.agg cs.toArray) ∧ IsVo (fun b => w.heap.size ≤ b) (m + 1) w' v cs ∧ RS B w' rb l' e' ∧ KeepR rb w w' ∧ Out (rdV m) l e v l' e'

theorem Out.gv {m : Nat} {l l1 l2 : List Int} {e e1 e2 c : Int} {v : V} (h1 : Out rdB l e c l1 e1) (h2 : Out (GV m c) l1 e1 v l2 e2) : Out (rdV (m + 1)) l e v l2 e2 := by rw [rdV_GV]; exact h1.bind h2

set_option maxHeartbeats 16000000 in
theorem value_step (m : Nat) (ih : ∀ {B rb : Nat} {w : World} {l : List Int} {e : Int} (d : Int), d = 17 - (m : Int) → RS B w rb l e → B ≤ w.heap.size → Calls Tryz.prog 146 #[.pointer (some ⟨rb, 0, none⟩), .int .i64 d] w (ValPost m B rb w l e))
    {B rb : Nat} {w : World} {l : List Int} {e : Int} (d : Int) (hd : d = 17 - ((m + 1 : Nat) : Int)) (hm : m + 1 ≤ 16) (h : RS B w rb l e) (hB : B ≤ w.heap.size) :
    Calls Tryz.prog 146 #[.pointer (some ⟨rb, 0, none⟩), .int .i64 d] w (ValPost (m + 1) B rb w l e) := by
  refine enter (args := [.pointer (some ⟨rb, 0, none⟩), .int .i64 d]) Tryz.func146 rfl Tryz.ntmps146 rfl ?_; refine K.kgo ?_; refine WL.alloc (z := .agg #[.int .i64 0, .int .i64 0, .int .i64 0, .string ByteArray.empty, .slice none 0 0, .slice none 0 0]) rfl rfl rfl rfl (fun _ => by kernel_rfl) fun vb w1 hf => ?_; have hf' : Fresh w vb w1 82 [.int .i64 0, .int .i64 0, .int .i64 0, .string ByteArray.empty, .slice none 0 0, .slice none 0 0] := hf; clear hf; have hvbe := hf'.eq; have hrB := h.rlt; have h1 : RS B w1 rb l e := h.keep (Keep.of_below hf'.below) fun b hb => Nat.lt_of_lt_of_le hb hB; have hk1 : KeepR rb w w1 := KeepR.below hf'.below; have hblk1 := hf'.blk; have hsz1 := hf'.size; clear hf'; refine K.kgo ?_; refine WL.call rfl rfl rfl rfl rfl Tryz.func174 rfl (by kernel_rfl) (byte_any h1) ?_; rintro _ w2 ⟨c, l2, e2, rfl, hc0, hc1, h2, hk2, ho2⟩; refine ⟨_, rfl, ?_⟩; have hblk2 := hblk1.keep hk2 ⟨hblk1.lt, by omega⟩; refine K.kgo ?_; refine WL.store (v := .int .i64 c) rfl rfl rfl rfl rfl rfl (by kernel_rfl) (hblk2.cell 0 (by simp)) (hblk2.free 0) ?_
  -- the store into the box
  have stB : ∀ {wx : World} {i : Nat} (u : Value) {lx : List Int} {ex : Int}, RS B wx rb lx ex → KeepR rb w wx → RS B (wx.setCell ⟨vb, i, none⟩ u) rb lx ex ∧ KeepR rb w (wx.setCell ⟨vb, i, none⟩ u) := fun {wx i} u {lx ex} hr hk =>
    ⟨hr.keep (K := fun b => b ≠ vb) ((Keep.refl _ wx).setCell (fun hk => hk rfl) _) (fun b hb => by omega), Keep.setCell hk (fun hk => by have := hk.1; simp only at this; omega) _⟩
  obtain ⟨h3, hk3⟩ := stB (i := 0) (.int .i64 c) h2 (hk1.trans hk2); have hblk3 := hblk2.set 0 (.int .i64 c); generalize w2.setCell ⟨vb, 0, none⟩ (.int .i64 c) = w3 at h3 hk3 hblk3; clear hblk2 h2 hk2 hblk1 hk1 h1; simp only [List.set_cons_zero] at hblk3; refine K.kgb ?_; refine WL.load rfl rfl rfl rfl rfl rfl (hblk3.cell 0 (by simp)) ?_; refine K.kgb ?_; refine WC.mid (fun _ : V × List Value × List Int × Int => [(4, .pointer (some ⟨vb, 0, none⟩))])
    (fun i w' => VBlk 82 w' vb i.2.1 ∧ IsVo (fun b => w.heap.size ≤ b ∧ b ≠ vb) (m + 1 + 1) w' i.1 i.2.1 ∧ RS B w' rb i.2.2.1 i.2.2.2 ∧ KeepR rb w w' ∧ Out (rdV (m + 1)) l e i.1 i.2.2.1 i.2.2.2) rfl ?_ ?_
  rotate_left
  · rintro ⟨v, cs, l4, e4⟩ w4 ⟨hb4, hv4, hr4, hk4, ho4⟩
    simp only at hb4 hv4 hr4 hk4 ho4 ⊢; have hcs := hv4.len; refine K.kgo ?_; refine WL.loadMid rfl rfl rfl rfl rfl rfl (VBlk.rangeAt hb4) hcs ?_; refine WL.storeRow rfl rfl rfl rfl rfl rfl hb4 hcs hcs hv4.one ?_; refine K.kgo ?_; have hset : Keep (fun b => b ≠ vb) w4 (w4.setRow vb cs.toArray) := Keep.setRow (Keep.refl _ w4) (fun hk => hk rfl) _; exact WQ.retC rfl rfl rfl hcs (hb4.setRow cs) ⟨v, cs, l4, e4, rfl, hv4.keep hset (fun b hb _ => hb.2) (fun b hb => hb.1), hr4.keep hset (fun b hb => by omega), Keep.setRow hk4 (fun hk => by have := hk.1; omega) _, ho4⟩
  by_cases k1 : c = 1
  · subst k1
    refine K.kgo ?_; exact WQ.meet (.mk 1 0 0 noT [] [], _, l2, e2) ⟨rfl, trivial⟩ ⟨hblk3, isVo_leaf (by omega) (by omega) (by omega) (by decide), h3, hk3, ho2.gv (Out.congr (Out.pure _) (by unfold GV; rw [if_pos rfl]))⟩
  by_cases k2 : c = 2
  · subst k2
    refine K.kgo ?_; refine WL.call rfl rfl rfl rfl rfl Tryz.func174 rfl (by kernel_rfl) (byte_any h3) ?_; rintro _ w4 ⟨c2, l4, e4, rfl, hc20, hc21, h4, hk4, ho4⟩; refine ⟨_, rfl, ?_⟩; have hblk4 := hblk3.keep hk4 ⟨hblk3.lt, by omega⟩; refine K.kgo ?_; refine WL.store (v := .int .i64 c2) rfl rfl rfl rfl rfl rfl (by kernel_rfl) (hblk4.cell 1 (by simp)) (hblk4.free 1) ?_; obtain ⟨h5, hk5⟩ := stB (i := 1) (.int .i64 c2) h4 (hk3.trans hk4); have hblk5 := hblk4.set 1 (.int .i64 c2); generalize w4.setCell ⟨vb, 1, none⟩ (.int .i64 c2) = w5 at h5 hk5 hblk5; simp only [List.set_cons_zero, List.set_cons_succ] at hblk5; refine K.kgo ?_; refine WL.load rfl rfl rfl rfl rfl rfl (hblk5.cell 1 (by simp)) ?_
    by_cases hb2 : 1 < c2
    · refine K.kgo ?_
      refine WL.call rfl rfl rfl rfl rfl Tryz.func147 rfl (by kernel_rfl) (fail_any h5 3) ?_; rintro _ w6 ⟨rfl, h6, hk6⟩; refine ⟨_, rfl, ?_⟩; refine K.kgo ?_; refine WQ.meet (.mk 2 c2 0 noT [] [], _, l4, _) ⟨rfl, trivial⟩ ⟨hblk5.keep hk6 ⟨hblk5.lt, by omega⟩, isVo_leaf (by omega) (by omega) (by omega) (by decide), h6, hk5.trans hk6, ho2.gv (Out.congr (ho4.bind (Out.congr (Out.fail 3 (by omega)) ?_)) (by unfold GV; rw [if_neg k1, if_pos rfl]))⟩; rw [if_pos hb2]
    · refine K.kgo ?_
      refine WQ.meet (.mk 2 c2 0 noT [] [], _, l4, _) ⟨rfl, trivial⟩ ⟨hblk5, isVo_leaf (by omega) (by omega) (by omega) (by decide), h5, hk5, ho2.gv (Out.congr (ho4.bind (Out.congr (Out.pure _) ?_)) (by unfold GV; rw [if_neg k1, if_pos rfl]))⟩; rw [if_neg hb2]
  by_cases k3 : c = 3
  · subst k3
    refine K.kgo ?_; refine WL.call rfl rfl rfl rfl rfl Tryz.func175 rfl (by kernel_rfl) (number_any h3) ?_; rintro _ w4 ⟨u, l4, e4, rfl, hu, h4, hk4, ho4⟩; refine ⟨_, rfl, ?_⟩; refine WL.call rfl rfl rfl rfl rfl Tryz.func88 rfl (by kernel_rfl) (zag_any u hu w4) ?_; rintro _ w4 ⟨rfl, rfl⟩; refine ⟨_, rfl, ?_⟩; have hz := zag_range hu; have hblk4 := hblk3.keep hk4 ⟨hblk3.lt, by omega⟩; refine K.kgo ?_; refine WL.store (v := .int .i64 (zag u)) rfl rfl rfl rfl rfl rfl (by kernel_rfl) (hblk4.cell 1 (by simp)) (hblk4.free 1) ?_; obtain ⟨h5, hk5⟩ := stB (i := 1) (.int .i64 (zag u)) h4 (hk3.trans hk4); have hblk5 := hblk4.set 1 (.int .i64 (zag u)); refine K.kgo ?_; exact WQ.meet (.mk 3 (zag u) 0 noT [] [], _, l4, _) ⟨rfl, trivial⟩ ⟨hblk5, isVo_leaf (by omega) hz (by omega) (by decide), h5, hk5, ho2.gv (Out.congr (ho4.bind (Out.pure (V.mk 3 (zag u) 0 noT [] []))) (by unfold GV; rw [if_neg k1, if_neg k2, if_pos rfl]))⟩
  by_cases k4 : c = 4
  · subst k4
    refine K.kgo ?_; refine WL.call rfl rfl rfl rfl rfl Tryz.func175 rfl (by kernel_rfl) (number_any h3) ?_; rintro _ w4 ⟨u, l4, e4, rfl, hu, h4, hk4, ho4⟩; refine ⟨_, rfl, ?_⟩; refine WL.call rfl rfl rfl rfl rfl Tryz.func88 rfl (by kernel_rfl) (zag_any u hu w4) ?_; rintro _ w4 ⟨rfl, rfl⟩; refine ⟨_, rfl, ?_⟩; have hz := zag_range hu; have hblk4 := hblk3.keep hk4 ⟨hblk3.lt, by omega⟩; refine K.kgo ?_; refine WL.store (v := .int .i64 (zag u)) rfl rfl rfl rfl rfl rfl (by kernel_rfl) (hblk4.cell 1 (by simp)) (hblk4.free 1) ?_; obtain ⟨h5, hk5⟩ := stB (i := 1) (.int .i64 (zag u)) h4 (hk3.trans hk4); have hblk5 := hblk4.set 1 (.int .i64 (zag u)); generalize w4.setCell ⟨vb, 1, none⟩ (.int .i64 (zag u)) = w5 at h5 hk5 hblk5; simp only [List.set_cons_zero, List.set_cons_succ] at hblk5; refine K.kgo ?_; refine WL.call rfl rfl rfl rfl rfl Tryz.func174 rfl (by kernel_rfl) (byte_any h5) ?_; rintro _ w6 ⟨c2, l6, e6, rfl, hc20, hc21, h6, hk6, ho6⟩; refine ⟨_, rfl, ?_⟩; have hblk6 := hblk5.keep hk6 ⟨hblk5.lt, by omega⟩; refine K.kgo ?_; refine WL.store (v := .int .i64 c2) rfl rfl rfl rfl rfl rfl (by kernel_rfl) (hblk6.cell 2 (by simp)) (hblk6.free 2) ?_; obtain ⟨h7, hk7⟩ := stB (i := 2) (.int .i64 c2) h6 (hk5.trans hk6); have hblk7 := hblk6.set 2 (.int .i64 c2); refine K.kgo ?_; exact WQ.meet (.mk 4 (zag u) c2 noT [] [], _, l6, _) ⟨rfl, trivial⟩ ⟨hblk7, isVo_leaf (by omega) hz (by omega) (by decide), h7, hk7, ho2.gv (Out.congr (ho4.bind (ho6.bind (Out.pure (V.mk 4 (zag u) c2 noT [] [])))) (by unfold GV; rw [if_neg k1, if_neg k2, if_neg k3, if_pos rfl]))⟩
  by_cases k5 : c = 5
  · subst k5
    refine K.kgo ?_; refine WL.call rfl rfl rfl rfl rfl Tryz.func175 rfl (by kernel_rfl) (number_any h3) ?_; rintro _ w4 ⟨u, l4, e4, rfl, hu, h4, hk4, ho4⟩; refine ⟨_, rfl, ?_⟩; have hz : -9223372036854775808 ≤ IntKind.i64.wrap (u : Int) ∧ IntKind.i64.wrap (u : Int) ≤ 9223372036854775807 := by rw [IntKind.wrap_i64]; omega
    have hblk4 := hblk3.keep hk4 ⟨hblk3.lt, by omega⟩; refine WL.pure rfl rfl rfl rfl ?_; refine WL.pure rfl rfl rfl rfl ?_; refine WL.store (v := .int .i64 (IntKind.i64.wrap (u : Int))) rfl rfl rfl rfl rfl rfl (by kernel_rfl) (hblk4.cell 1 (by simp)) (hblk4.free 1) ?_; obtain ⟨h5, hk5⟩ := stB (i := 1) (.int .i64 (IntKind.i64.wrap (u : Int))) h4 (hk3.trans hk4); have hblk5 := hblk4.set 1 (.int .i64 (IntKind.i64.wrap (u : Int))); refine K.kgo ?_; exact WQ.meet (.mk 5 (IntKind.i64.wrap (u : Int)) 0 noT [] [], _, l4, _) ⟨rfl, trivial⟩ ⟨hblk5, isVo_leaf (by omega) hz (by omega) (by decide), h5, hk5, ho2.gv (Out.congr (ho4.bind (Out.pure (V.mk 5 (IntKind.i64.wrap (u : Int)) 0 noT [] []))) (by unfold GV; rw [if_neg k1, if_neg k2, if_neg k3, if_neg k4, if_pos rfl]))⟩
  by_cases k67 : c = 6 ∨ c = 7
  · have hg : GV m c = fun r => (rdT r).bind fun t r => .ok (.mk c 0 0 t [] []) r := by funext r; unfold GV; rw [if_neg k1, if_neg k2, if_neg k3, if_neg k4, if_neg k5, if_pos k67]
    rcases k67 with k6 | k7
    all_goals
      refine K.kgo ?_; refine WL.call rfl rfl rfl rfl rfl Tryz.func176 rfl (by kernel_rfl) (text_any h3) ?_; rintro _ w4 ⟨t, l4, e4, rfl, ht, h4, hk4, ho4⟩; refine ⟨_, rfl, ?_⟩; have hblk4 := hblk3.keep hk4 ⟨hblk3.lt, by omega⟩; refine K.kgo ?_; refine WL.store (v := .string t) rfl rfl rfl rfl rfl rfl (by kernel_rfl) (hblk4.cell 3 (by simp)) (hblk4.free 3) ?_; obtain ⟨h5, hk5⟩ := stB (i := 3) (.string t) h4 (hk3.trans hk4); have hblk5 := hblk4.set 3 (.string t); refine K.kgo ?_; exact WQ.meet (.mk c 0 0 t [] [], _, l4, _) ⟨rfl, trivial⟩ ⟨hblk5, isVo_leaf (by omega) (by omega) (by omega) (by omega), h5, hk5, ho2.gv (by rw [hg]; exact ho4.bind (Out.pure (V.mk c 0 0 t [] [])))⟩
  by_cases k89 : c = 8 ∨ c = 9
  · have hg : GV m c = fun r => (rdC r).bind fun n r => (rdK (rdV m) (decide (c = 9)) n [] [] r).bind fun p r => .ok (.mk c 0 0 noT p.1 p.2) r := by
      funext r; unfold GV; rw [if_neg k1, if_neg k2, if_neg k3, if_neg k4, if_neg k5, if_neg k67, if_pos k89]
    rcases k89 with k8 | k9
    · refine K.kgo ?_
      refine WL.call rfl rfl rfl rfl rfl Tryz.func177 rfl (by kernel_rfl) (count_any h3) ?_; rintro _ w4 ⟨n, l4, e4, rfl, hn, h4, hk4, ho4⟩; refine ⟨_, rfl, ?_⟩; have hblk4 := hblk3.keep hk4 ⟨hblk3.lt, by omega⟩; rw [show decide (c = 9) = false by simp [k8]] at hg; refine K.kgo ?_; refine WC.loop (fun i : Nat × List ByteArray × List V × List Int × Int => [(0, .pointer (some ⟨rb, 0, none⟩)), (1, .int .i64 d), (4, .pointer (some ⟨vb, 0, none⟩)), (63, .int .i64 n), (64, .int .i64 i.1)])
        (fun i wr => i.1 ≤ n ∧ i.2.1.length ≤ i.1 ∧ i.2.2.1.length ≤ i.1 ∧ (∃ sn sk q, KidsW rb vb (m + 1) c w wr i.2.1 i.2.2.1 sn sk q) ∧ RS B wr rb i.2.2.2.1 i.2.2.2.2 ∧
          ∀ p l' e', Out (rdK (rdV m) false (n - i.1) i.2.1 i.2.2.1) i.2.2.2.1 i.2.2.2.2 p l' e' → Out (rdK (rdV m) false n [] []) l4 e4 p l' e') (fun i => n - i.1) (0, [], [], l4, e4)
        ⟨rfl, rfl, rfl, rfl, rfl, trivial⟩ ⟨Nat.zero_le _, Nat.le_refl _, Nat.le_refl _, ⟨_, _, fun _ => False, hblk4, OwnE.nil _ _ _ _ _ _, OwnE.nil _ _ _ _ _ _, (fun g hg => by cases hg), (fun b hb => hb.elim), hk3.trans hk4, hvbe, by omega⟩, h4, fun _ _ _ h => h⟩ ?_
      rintro ⟨i, ns, ks, li, ei⟩ wr ⟨hi, hnl, hkl, ⟨sn, sk, q, hK⟩, hr, hcont⟩; simp only at hi hnl hkl hK hr hcont ⊢; have hend : ∀ {wx : World} {sn sk : Value} {ns : List ByteArray} {ks : List V} {q : Nat → Prop} {li : List Int} {ei : Int}, KidsW rb vb (m + 1) c w wx ns ks sn sk q → RS B wx rb li ei → Out (rdK (rdV m) false n [] []) l4 e4 (ns, ks) li ei →
          VBlk 82 wx vb [.int .i64 c, .int .i64 0, .int .i64 0, .string ByteArray.empty, sn, sk] ∧ IsVo (fun b => w.heap.size ≤ b ∧ b ≠ vb) (m + 1 + 1) wx (.mk c 0 0 noT ns ks) [.int .i64 c, .int .i64 0, .int .i64 0, .string ByteArray.empty, sn, sk] ∧ RS B wx rb li ei ∧ KeepR rb w wx ∧ Out (rdV (m + 1)) l e (.mk c 0 0 noT ns ks) li ei :=
        fun {wx sn sk ns ks q li ei} h1 h2 h3 => ⟨h1.blk, ⟨sn, sk, rfl, wf_i64 (by show -9223372036854775808 ≤ c ∧ c ≤ _; omega), wf_i64 (by show -9223372036854775808 ≤ (0 : Int) ∧ (0 : Int) ≤ _; omega), wf_i64 (by show -9223372036854775808 ≤ (0 : Int) ∧ (0 : Int) ≤ _; omega), by show ByteArray.empty.size ≤ _; decide, h1.names.els, h1.kids.els.mono (fun _ h => h) fun x cs hx => hx.mono fun b hb => ⟨(h1.qs b hb).1, (h1.qs b hb).2.2.1⟩⟩, h2, h1.keep,
          ho2.gv (by rw [hg]; exact ho4.bind (h3.bind (Out.pure (V.mk c 0 0 noT ns ks))))⟩
      by_cases hin : i < n
      · obtain ⟨rsp, rcap, hrb, -⟩ := hr.ex
        refine K.kgo ?_; refine WL.load rfl rfl rfl rfl rfl rfl (hrb.cell 1 (by simp)) ?_
        by_cases hei : ei = 0
        · subst hei
          have hni : n - i = (n - (i + 1)) + 1 := by omega
          rw [hni] at hcont; have hwr := hK.keep.size; refine K.kgo ?_; refine WL.load rfl rfl rfl rfl rfl rfl (hK.blk.cell 0 (by simp)) ?_; refine K.kgo ?_; refine WL.load rfl rfl rfl rfl rfl rfl (hrb.cell 1 (by simp)) ?_; refine K.kgo ?_; refine WC.drawn 9 (fun wx => VBlk 82 wx vb [.int .i64 c, .int .i64 0, .int .i64 0, .string ByteArray.empty, sn, sk]) fun w5 hd5 => ?_; have hK5 := hK.below (hd5.below _); have hr5 := hr.keep (Keep.of_below (hd5.below wr.heap.size)) fun b hb => by omega
          have hsz5 : wr.heap.size ≤ w5.heap.size := (hd5.below 0).size; have hS := hK5.blk; refine K.fr [0] hS ?_; refine K.wl 1 [7, 8, 9] rfl rfl rfl rfl rfl rfl rfl (fun wx hx => hx.cell 5 (by simp)) hS ?_; refine K.fr [2, 3, 4] hS ?_; refine K.wo 5 ?_; refine WL.call rfl rfl rfl rfl rfl Tryz.func146 rfl (by kernel_rfl) (ih (d + 1) (by omega) hr5 (by omega)) ?_; rintro _ w6 ⟨v, cs, l6, e6, rfl, hv6, hr6, hk6, ho6⟩; refine ⟨_, rfl, ?_⟩; have hvb5 := hK5.blk.lt; have hsn5 : ∀ g, (sn).ownBlock = some g → g < w5.heap.size := fun g hg => hK5.names.lt hg; have hsk5 : ∀ g, sk.ownBlock = some g → g < w5.heap.size := fun g hg => hK5.kids.lt hg; have hK6 := hK5.read hk6; refine WL.nil (WQ.dk (.inr hK6.blk) ?_); refine K.wo 6 ?_; refine WL.lit1 rfl rfl rfl rfl rfl rfl rfl hv6.len ⟨by omega, by omega⟩ (by kernel_rfl) fun g7 w7 hf7 => ?_; have hK7 := (hK6.below hf7.below).widen (S := w5.heap.size) (by have := hK5.keep.size; omega) hvb5 hsn5 hsk5; have hr7 := hr6.keep (Keep.of_below hf7.below) fun b hb => by have := hk6.size; omega
          have hv7 := hv6.there.keep (O' := fun b => q b ∨ (w5.heap.size ≤ b ∧ b < w7.heap.size)) (Keep.of_below hf7.below) (fun b _ h => h) fun b hb => .inr ⟨hb.1, by have := hf7.size; omega⟩; refine WL.nil (WQ.dk (.inr hK7.blk) ?_); refine K.wo 7 ?_; refine WL.snoc rfl rfl rfl rfl elemV6 rfl hK7.kids rfl hf7.blk hv6.one hv6.len hv7 (by omega) (by omega) fun sk8 w8 ho8 hg8 => ?_; obtain ⟨hb8, hK9⟩ := hK7.setK ho8 hg8; refine K.di hb8 ?_; have hsk8 : sk8.oneCell' = true := ho8.one; refine K.wo 8 ?_; refine WL.pure rfl rfl rfl rfl ?_; refine K.di hb8 ?_; refine K.wo 9 ?_; refine WL.store rfl rfl rfl rfl rfl hsk8 (by kernel_rfl) (hb8.cell 5 (by simp)) (hb8.free 5) ?_; have hr9 : RS B (w8.setCell ⟨vb, 5, none⟩ sk8) rb l6 e6 := (hr7.keep hg8.1 fun b hb => ⟨by have := hr7.ex; have := hf7.size; have := hk6.size; omega, fun e => by have := (hK7.kids.own e).1; omega⟩).keep (K := fun b => b ≠ vb) ((Keep.refl _ w8).setCell (fun hk => hk rfl) _) fun b hb => by omega
          generalize w8.setCell ⟨vb, 5, none⟩ sk8 = w9 at hK9 hr9; refine K.dl ?_; refine WD.done (by kernel_rfl) ?_; refine K.kgo ?_; refine WQ.again (i + 1, ns, ks ++ [v], l6, e6) ⟨rfl, rfl, rfl, rfl, rfl, trivial⟩ ⟨hin, by show ns.length ≤ i + 1; omega, by simp only [List.length_append, List.length_cons, List.length_nil]; omega, ⟨sn, sk8, _, hK9⟩, hr9, fun p l' e' ho => ?_⟩ (by show n - (i + 1) < n - i; omega); refine hcont p l' e' (Out.congr (ho6.bind (g := fun v r' => rdK (rdV m) false (n - (i + 1)) ns (ks ++ [v]) r') ho) ?_); rw [rdK, if_neg (by simp)]
        · refine K.kgo ?_
          exact WQ.meet (.mk c 0 0 noT ns ks, _, li, ei) ⟨rfl, trivial⟩ (hend hK hr (hcont _ _ _ (.ofBad hei)))
      · obtain rfl : i = n := by omega
        refine K.kgo ?_; exact WQ.meet (.mk c 0 0 noT ns ks, _, li, ei) ⟨rfl, trivial⟩ (hend hK hr (hcont _ _ _ (Out.congr (Out.pure _) (by rw [Nat.sub_self]; rfl))))
    · refine K.kgo ?_
      refine WL.call rfl rfl rfl rfl rfl Tryz.func177 rfl (by kernel_rfl) (count_any h3) ?_; rintro _ w4 ⟨n, l4, e4, rfl, hn, h4, hk4, ho4⟩; refine ⟨_, rfl, ?_⟩; have hblk4 := hblk3.keep hk4 ⟨hblk3.lt, by omega⟩; rw [show decide (c = 9) = true by simp [k9]] at hg; refine K.kgo ?_; refine WC.loop (fun i : Nat × List ByteArray × List V × List Int × Int => [(0, .pointer (some ⟨rb, 0, none⟩)), (1, .int .i64 d), (4, .pointer (some ⟨vb, 0, none⟩)), (63, .int .i64 n), (64, .int .i64 i.1)])
        (fun i wr => i.1 ≤ n ∧ i.2.1.length ≤ i.1 ∧ i.2.2.1.length ≤ i.1 ∧ (∃ sn sk q, KidsW rb vb (m + 1) c w wr i.2.1 i.2.2.1 sn sk q) ∧ RS B wr rb i.2.2.2.1 i.2.2.2.2 ∧
          ∀ p l' e', Out (rdK (rdV m) true (n - i.1) i.2.1 i.2.2.1) i.2.2.2.1 i.2.2.2.2 p l' e' → Out (rdK (rdV m) true n [] []) l4 e4 p l' e') (fun i => n - i.1) (0, [], [], l4, e4)
        ⟨rfl, rfl, rfl, rfl, rfl, trivial⟩ ⟨Nat.zero_le _, Nat.le_refl _, Nat.le_refl _, ⟨_, _, fun _ => False, hblk4, OwnE.nil _ _ _ _ _ _, OwnE.nil _ _ _ _ _ _, (fun g hg => by cases hg), (fun b hb => hb.elim), hk3.trans hk4, hvbe, by omega⟩, h4, fun _ _ _ h => h⟩ ?_
      rintro ⟨i, ns, ks, li, ei⟩ wr ⟨hi, hnl, hkl, ⟨sn, sk, q, hK⟩, hr, hcont⟩; simp only at hi hnl hkl hK hr hcont ⊢; have hend : ∀ {wx : World} {sn sk : Value} {ns : List ByteArray} {ks : List V} {q : Nat → Prop} {li : List Int} {ei : Int}, KidsW rb vb (m + 1) c w wx ns ks sn sk q → RS B wx rb li ei → Out (rdK (rdV m) true n [] []) l4 e4 (ns, ks) li ei →
          VBlk 82 wx vb [.int .i64 c, .int .i64 0, .int .i64 0, .string ByteArray.empty, sn, sk] ∧ IsVo (fun b => w.heap.size ≤ b ∧ b ≠ vb) (m + 1 + 1) wx (.mk c 0 0 noT ns ks) [.int .i64 c, .int .i64 0, .int .i64 0, .string ByteArray.empty, sn, sk] ∧ RS B wx rb li ei ∧ KeepR rb w wx ∧ Out (rdV (m + 1)) l e (.mk c 0 0 noT ns ks) li ei :=
        fun {wx sn sk ns ks q li ei} h1 h2 h3 => ⟨h1.blk, ⟨sn, sk, rfl, wf_i64 (by show -9223372036854775808 ≤ c ∧ c ≤ _; omega), wf_i64 (by show -9223372036854775808 ≤ (0 : Int) ∧ (0 : Int) ≤ _; omega), wf_i64 (by show -9223372036854775808 ≤ (0 : Int) ∧ (0 : Int) ≤ _; omega), by show ByteArray.empty.size ≤ _; decide, h1.names.els, h1.kids.els.mono (fun _ h => h) fun x cs hx => hx.mono fun b hb => ⟨(h1.qs b hb).1, (h1.qs b hb).2.2.1⟩⟩, h2, h1.keep,
          ho2.gv (by rw [hg]; exact ho4.bind (h3.bind (Out.pure (V.mk c 0 0 noT ns ks))))⟩
      by_cases hin : i < n
      · obtain ⟨rsp, rcap, hrb, -⟩ := hr.ex
        refine K.kgo ?_; refine WL.load rfl rfl rfl rfl rfl rfl (hrb.cell 1 (by simp)) ?_
        by_cases hei : ei = 0
        · subst hei
          have hni : n - i = (n - (i + 1)) + 1 := by omega
          rw [hni] at hcont; have hwr := hK.keep.size; refine K.kgo ?_; refine WL.load rfl rfl rfl rfl rfl rfl (hK.blk.cell 0 (by simp)) ?_; refine K.kgo ?_; refine WC.drawn 7 (fun wx => VBlk 82 wx vb [.int .i64 c, .int .i64 0, .int .i64 0, .string ByteArray.empty, sn, sk]) fun w5 hd5 => ?_; have hK5 := hK.below (hd5.below _); have hr5 := hr.keep (Keep.of_below (hd5.below wr.heap.size)) fun b hb => by omega
          have hsz5 : wr.heap.size ≤ w5.heap.size := (hd5.below 0).size; have hS := hK5.blk; refine K.fr [0] hS ?_; refine K.wl 1 [5, 6, 7] rfl rfl rfl rfl rfl rfl rfl (fun wx hx => hx.cell 4 (by simp)) hS ?_; refine K.fr [2] hS ?_; refine K.wo 3 ?_; refine WL.call rfl rfl rfl rfl rfl Tryz.func176 rfl (by kernel_rfl) (text_any hr5) ?_; rintro _ w6 ⟨t, lt, et, rfl, ht, hr6, hk6, hot⟩; refine ⟨_, rfl, ?_⟩; have hK6 := hK5.read hk6; refine WL.nil (WQ.dk (.inr hK6.blk) ?_); refine K.wo 4 ?_; refine WL.lit1 (cs := [.string t]) rfl rfl rfl rfl rfl rfl rfl rfl ⟨by omega, by omega⟩ (by kernel_rfl) fun g7 w7 hf7 => ?_; have hK7 := hK6.below hf7.below; have hr7 := hr6.keep (Keep.of_below hf7.below) fun b hb => by have := hk6.size; omega
          refine WL.nil (WQ.dk (.inr hK7.blk) ?_); refine K.wo 5 ?_; refine WL.snoc (y := t) rfl rfl rfl rfl elemS1 rfl hK7.names rfl hf7.blk (by intro u hu; simp at hu; rw [hu]; rfl) rfl ⟨rfl, by omega⟩ (by omega) (by omega) fun sn8 w8 ho8 hg8 => ?_; obtain ⟨hb8, hK9⟩ := hK7.setN ho8 hg8; refine K.di hb8 ?_; have hsn8 : sn8.oneCell' = true := ho8.one; refine K.wo 6 ?_; refine WL.pure rfl rfl rfl rfl ?_; refine K.di hb8 ?_; refine K.wo 7 ?_; refine WL.store rfl rfl rfl rfl rfl hsn8 (by kernel_rfl) (hb8.cell 4 (by simp)) (hb8.free 4) ?_; have hr9 : RS B (w8.setCell ⟨vb, 4, none⟩ sn8) rb lt et := (hr7.keep hg8.1 fun b hb => ⟨by have := hf7.size; have := hk6.size; omega, fun e => by have := (hK7.names.own e).1; omega⟩).keep (K := fun b => b ≠ vb) ((Keep.refl _ w8).setCell (fun hk => hk rfl) _) fun b hb => by omega
          generalize w8.setCell ⟨vb, 4, none⟩ sn8 = w9 at hK9 hr9; refine K.dl ?_; refine WD.done (by kernel_rfl) ?_; obtain ⟨rsp9, rcap9, hrb9, -⟩ := hr9.ex; clear hK7 hr7 hb8 hK6 hr6 hK5 hr5 hS hk6 ho8 hg8; refine K.kgo ?_; refine WL.load rfl rfl rfl rfl rfl rfl (hrb9.cell 1 (by simp)) ?_
          by_cases het : et = 0
          · subst het
            have hwr := hK9.keep.size; refine K.kgo ?_; refine WC.drawn 9 (fun wx => VBlk 82 wx vb [.int .i64 c, .int .i64 0, .int .i64 0, .string ByteArray.empty, sn8, sk]) fun w15 hd5 => ?_; have hK5 := hK9.below (hd5.below _); have hr5 := hr9.keep (Keep.of_below (hd5.below w9.heap.size)) fun b hb => by omega
            have hsz5 : w9.heap.size ≤ w15.heap.size := (hd5.below 0).size; have hS := hK5.blk; refine K.fr [0] hS ?_; refine K.wl 1 [7, 8, 9] rfl rfl rfl rfl rfl rfl rfl (fun wx hx => hx.cell 5 (by simp)) hS ?_; refine K.fr [2, 3, 4] hS ?_; refine K.wo 5 ?_; refine WL.call rfl rfl rfl rfl rfl Tryz.func146 rfl (by kernel_rfl) (ih (d + 1) (by omega) hr5 (by omega)) ?_; rintro _ w16 ⟨v, cs, l6, e6, rfl, hv6, hr6, hk6, ho6⟩; refine ⟨_, rfl, ?_⟩; have hvb5 := hK5.blk.lt; have hsn5 : ∀ g, (sn8).ownBlock = some g → g < w15.heap.size := fun g hg => hK5.names.lt hg; have hsk5 : ∀ g, sk.ownBlock = some g → g < w15.heap.size := fun g hg => hK5.kids.lt hg; have hK6 := hK5.read hk6; refine WL.nil (WQ.dk (.inr hK6.blk) ?_); refine K.wo 6 ?_; refine WL.lit1 rfl rfl rfl rfl rfl rfl rfl hv6.len ⟨by omega, by omega⟩ (by kernel_rfl) fun g7 w17 hf7 => ?_; have hK7 := (hK6.below hf7.below).widen (S := w15.heap.size) (by have := hK5.keep.size; omega) hvb5 hsn5 hsk5; have hr7 := hr6.keep (Keep.of_below hf7.below) fun b hb => by have := hk6.size; omega
            have hv7 := hv6.there.keep (O' := fun b => q b ∨ (w15.heap.size ≤ b ∧ b < w17.heap.size)) (Keep.of_below hf7.below) (fun b _ h => h) fun b hb => .inr ⟨hb.1, by have := hf7.size; omega⟩; refine WL.nil (WQ.dk (.inr hK7.blk) ?_); refine K.wo 7 ?_; refine WL.snoc rfl rfl rfl rfl elemV6 rfl hK7.kids rfl hf7.blk hv6.one hv6.len hv7 (by omega) (by omega) fun sk8 w18 ho8 hg8 => ?_; obtain ⟨hb8, hK9⟩ := hK7.setK ho8 hg8; refine K.di hb8 ?_; have hsk8 : sk8.oneCell' = true := ho8.one; refine K.wo 8 ?_; refine WL.pure rfl rfl rfl rfl ?_; refine K.di hb8 ?_; refine K.wo 9 ?_; refine WL.store rfl rfl rfl rfl rfl hsk8 (by kernel_rfl) (hb8.cell 5 (by simp)) (hb8.free 5) ?_; have hr9 : RS B (w18.setCell ⟨vb, 5, none⟩ sk8) rb l6 e6 := (hr7.keep hg8.1 fun b hb => ⟨by have := hr7.ex; have := hf7.size; have := hk6.size; omega, fun e => by have := (hK7.kids.own e).1; omega⟩).keep (K := fun b => b ≠ vb) ((Keep.refl _ w18).setCell (fun hk => hk rfl) _) fun b hb => by omega
            generalize w18.setCell ⟨vb, 5, none⟩ sk8 = w19 at hK9 hr9; refine K.dl ?_; refine WD.done (by kernel_rfl) ?_; refine K.kgo ?_; refine WQ.again (i + 1, (ns ++ [t]), ks ++ [v], l6, e6) ⟨rfl, rfl, rfl, rfl, rfl, trivial⟩ ⟨hin, by simp only [List.length_append, List.length_cons, List.length_nil]; omega, by simp only [List.length_append, List.length_cons, List.length_nil]; omega, ⟨sn8, sk8, _, hK9⟩, hr9, fun p l' e' ho => ?_⟩ (by show n - (i + 1) < n - i; omega); refine hcont p l' e' (Out.congr (hot.bind (g := fun s r => (rdV m r).bind fun v r' => rdK (rdV m) true (n - (i + 1)) (ns ++ [s]) (ks ++ [v]) r') (ho6.bind (g := fun v r' => rdK (rdV m) true (n - (i + 1)) (ns ++ [t]) (ks ++ [v]) r') ho)) ?_); rw [rdK, if_pos rfl]
          · refine K.kgo ?_
            refine WQ.again (i + 1, ns ++ [t], ks, lt, et) ⟨rfl, rfl, rfl, rfl, rfl, trivial⟩ ⟨hin, by simp only [List.length_append, List.length_cons, List.length_nil]; omega, by show ks.length ≤ i + 1; omega, ⟨sn8, sk, q, hK9⟩, hr9, fun p l' e' ho => ?_⟩ (by show n - (i + 1) < n - i; omega); obtain rfl : e' = et := ho.bad het; refine hcont p l' e' (Out.congr (Out.stop (g := fun s r => (rdV m r).bind fun v r' => rdK (rdV m) true (n - (i + 1)) (ns ++ [s]) (ks ++ [v]) r') hot het ho.len) ?_); rw [rdK, if_pos rfl]
        · refine K.kgo ?_
          exact WQ.meet (.mk c 0 0 noT ns ks, _, li, ei) ⟨rfl, trivial⟩ (hend hK hr (hcont _ _ _ (.ofBad hei)))
      · obtain rfl : i = n := by omega
        refine K.kgo ?_; exact WQ.meet (.mk c 0 0 noT ns ks, _, li, ei) ⟨rfl, trivial⟩ (hend hK hr (hcont _ _ _ (Out.congr (Out.pure _) (by rw [Nat.sub_self]; rfl))))
  · have hg : GV m c = fun _ => .bad 3 := by
      funext r; unfold GV; rw [if_neg k1, if_neg k2, if_neg k3, if_neg k4, if_neg k5, if_neg k67, if_neg k89]
    refine K.kgo ?_; refine WL.call rfl rfl rfl rfl rfl Tryz.func147 rfl (by kernel_rfl) (fail_any h3 3) ?_; rintro _ w4 ⟨rfl, h4, hk4⟩; refine ⟨_, rfl, ?_⟩; refine K.kgo ?_; exact WQ.meet (.mk c 0 0 noT [] [], _, l2, _) ⟨rfl, trivial⟩ ⟨hblk3.keep hk4 ⟨hblk3.lt, by omega⟩, isVo_leaf (by omega) (by omega) (by omega) (by decide), h4, hk3.trans hk4, ho2.gv (by rw [hg]; exact Out.fail 3 (by omega))⟩

theorem value_any : ∀ (m : Nat) {B rb : Nat} {w : World} {l : List Int} {e : Int} (d : Int), d = 17 - (m : Int) → m ≤ 16 → RS B w rb l e → B ≤ w.heap.size → Calls Tryz.prog 146 #[.pointer (some ⟨rb, 0, none⟩), .int .i64 d] w (ValPost m B rb w l e)
  | 0, B, rb, w, l, e, d, hd, _, h, hB => by
    refine enter (args := [.pointer (some ⟨rb, 0, none⟩), .int .i64 d]) Tryz.func146 rfl Tryz.ntmps146 rfl ?_; refine K.kgo ?_; refine WL.alloc (z := .agg #[.int .i64 0, .int .i64 0, .int .i64 0, .string ByteArray.empty, .slice none 0 0, .slice none 0 0]) rfl rfl rfl rfl (fun _ => by kernel_rfl) fun vb w1 hf => ?_; have hf' : Fresh w vb w1 82 [.int .i64 0, .int .i64 0, .int .i64 0, .string ByteArray.empty, .slice none 0 0, .slice none 0 0] := hf; clear hf; have hvbe := hf'.eq; have hrB := h.rlt; have h1 : RS B w1 rb l e := h.keep (Keep.of_below hf'.below) fun b hb => Nat.lt_of_lt_of_le hb hB; have hk1 : KeepR rb w w1 := KeepR.below hf'.below; refine K.kgo ?_; refine WL.call rfl rfl rfl rfl rfl Tryz.func147 rfl (by kernel_rfl) (fail_any h1 9) ?_; rintro _ w2 ⟨rfl, h2, hk2⟩; refine ⟨_, rfl, ?_⟩; have hblk := hf'.blk.keep hk2 ⟨hf'.blk.lt, by omega⟩; have hv : IsVo (fun b => w.heap.size ≤ b) 1 w2 (.mk 0 0 0 noT [] []) _ := isVo_leaf (k := 0) (n := 0) (s := 0) (t := noT) (by omega) (by omega) (by omega) (by decide); refine K.kgo ?_; refine WL.loadMid rfl rfl rfl rfl rfl rfl (VBlk.rangeAt hblk) rfl ?_; refine WL.storeRow rfl rfl rfl rfl rfl rfl hblk rfl rfl hv.one ?_; refine K.kgo ?_; have hset : ∀ a, Keep (fun b => b ≠ vb) w2 (w2.setRow vb a) := fun a => Keep.setRow (Keep.refl _ w2) (fun hk => hk rfl) a; exact WQ.retC rfl rfl rfl rfl (hblk.setRow _) ⟨.mk 0 0 0 noT [] [], _, l, _, rfl, isVo_leaf (k := 0) (n := 0) (s := 0) (t := noT) (by omega) (by omega) (by omega) (by decide), h2.keep (hset _) (fun b hb => by omega), Keep.setRow (hk1.trans hk2) (fun hk => by have := hk.1; omega) _, Out.fail 9 (by omega)⟩
  | m + 1, _, _, _, _, _, d, hd, hm, h, hB => value_step m (fun d hd h hB => value_any m d hd (by omega) h hB) d hd hm h hB
end K
end Go.Proofs.YtpfkcfaifleliaaGreat

namespace Go.Proofs.YtpfkcfaifleliaaGreat
open Go.RowKit
namespace Vl

set_option maxHeartbeats 400000 in
theorem isName_any (s : ByteArray) (w : World) : Calls Tryz.prog 196 #[.string s] w fun e w' => e = .returned (.bool (isNameB s)) ∧ w = w' := by
  by_cases h1 : 1 ≤ s.size
  · have h1' : (1 : Int) ≤ s.size := by omega
    go_enter Tryz.func196, Tryz.ntmps196
    go_wp2
    go_ret
    exact ⟨by simp [isNameB, h1]; omega, rfl⟩
  · have h1' : decide ((1 : Int) ≤ s.size) = false := decide_eq_false (by omega)
    go_enter Tryz.func196, Tryz.ntmps196
    go_wp2
    go_ret
    exact ⟨by simp [isNameB, h1], rfl⟩

theorem leq_not : ∀ (a p : List UInt8), (Op.bytesLess a p || a == p) = !Op.bytesLess p a
  | [], [] => rfl
  | [], _ :: _ => by simp [Op.bytesLess]
  | _ :: _, [] => by simp [Op.bytesLess]
  | x :: a, y :: p => by
    have ih := leq_not a p; unfold Op.bytesLess; rcases Nat.lt_trichotomy x.toNat y.toNat with h | h | h
    · have h1 : x < y := UInt8.lt_iff_toNat_lt.2 h
      have h2 : ¬ y < x := fun e => by have := UInt8.lt_iff_toNat_lt.1 e; omega
      have h3 : ¬ y = x := fun e => by subst e; omega
      simp [h1, h2, h3]
    · obtain rfl : x = y := UInt8.toNat.inj h
      simpa using ih
    · have h1 : y < x := UInt8.lt_iff_toNat_lt.2 h
      have h2 : ¬ x < y := fun e => by have := UInt8.lt_iff_toNat_lt.1 e; omega
      have h3 : ¬ x = y := fun e => by subst e; omega
      simp [h1, h2, h3]

theorem ret_bool {b b' : Bool} (h : b = b') : Ending.returned (.bool b) = Ending.returned (.bool b') := by rw [h]
abbrev six (v : V) (sn sk : Value) : List Value := [.int .i64 v.k, .int .i64 v.n, .int .i64 v.s, .string v.t, sn, sk]
def okN (l : List ByteArray) (i : Nat) : Bool := isNameB (l.getD i noT) && (decide (i = 0) || Op.bytesLess (l.getD (i - 1) noT).toList (l.getD i noT).toList)
theorem fields_iff (v : V) : fieldsB v = true ↔ (∀ i, i < v.names.length → okN v.names i = true) ∧ v.names.length = v.kids.length := by
  unfold fieldsB; rw [Bool.and_eq_true, Bool.and_eq_true, rises_iff, List.all_eq_true, decide_eq_true_iff, and_congr_left_iff]; intro _
  constructor
  · rintro ⟨h1, h2⟩ i hi
    unfold okN; rw [Bool.and_eq_true, Bool.or_eq_true, decide_eq_true_iff]; refine ⟨h1 _ (by simp [hi]), ?_⟩; cases i with
    | zero => exact .inl rfl
    | succ i => exact .inr (h2 i hi)
  · intro h
    constructor
    · intro x hx
      obtain ⟨j, hj, rfl⟩ := List.getElem_of_mem hx; have := h j hj; unfold okN at this; rw [Bool.and_eq_true] at this
      simpa [hj] using this.1
    · intro i hi
      have := h (i + 1) hi; unfold okN at this; rw [Bool.and_eq_true, Bool.or_eq_true, decide_eq_true_iff] at this; exact this.2.resolve_left (by omega)

set_option maxHeartbeats 8000000 in
theorem fields_any {f : Nat} {w : World} {v : V} {cs : List Value} (h : IsV f w v cs) :
    Calls Tryz.prog 191 #[.agg cs.toArray] w fun e w' => e = .returned (.bool (fieldsB v)) ∧ Below w.heap.size w w' := by
  cases f with
  | zero => exact h.elim
  | succ f =>
  obtain ⟨sn, sk, rfl, -, -, -, -, hn, kp, kc, rfl, kl, kc2, -⟩ := h; have hbel : Below w.heap.size w (w.alloc (.cells (six v sn (.slice kp v.kids.length kc)).toArray 82)) := (Below.refl _ w).alloc (Nat.le_refl _) _; have hR : VBlk 82 (w.alloc (.cells (six v sn (.slice kp v.kids.length kc)).toArray 82)) w.heap.size (six v sn (.slice kp v.kids.length kc)) := VBlk.mk w _ _; have hn1 := hn.below hbel; obtain ⟨np, nc, rfl, nl, nc2, nsz, nr⟩ := hn1; have c4 := hR.cell 4 (by simp); have c5 := hR.cell 5 (by simp); simp only [List.getD_cons_zero, List.getD_cons_succ] at c4 c5; have Hnr := Hid2.mk nr; have Hsz := Hid2.mk nsz; have HB := Hid2.mk hbel; have Hfi := Hid2.mk (fields_iff v); clear hbel hn hR nr nsz; generalize hN : v.names.length = N at nl c4 c5 HB Hnr Hsz Hfi ⊢; generalize hK : v.kids.length = K at kl c4 c5 Hnr Hsz HB Hfi ⊢; generalize v.names = nm at Hnr Hsz Hfi hN ⊢; clear hN hK
  go_enter Tryz.func191, Tryz.ntmps191
  go_wp2_with fail
  go_loopw [8] (fun i wr => ∃ k : Nat, k ≤ N ∧ i = .int .i64 (k : Nat) ∧ (∃ n, wr = (w.alloc (.cells (six v (.slice np N nc) (.slice kp K kc)).toArray 82)).drewN n) ∧ ∀ j, j < k → okN nm j = true) (fun i _ => N - (intOf i).toNat)
  case atStart => exact ⟨0, Nat.zero_le _, rfl, ⟨0, rfl⟩, fun j hj => absurd hj (by omega)⟩
  case round =>
    obtain ⟨k, hk, rfl, ⟨n, rfl⟩, hall⟩ := hrel
    by_cases hkN : k < N
    · have hkz : (k : Int) < (N : Int) := by omega
      obtain ⟨b, o, rfl, hb, hr⟩ := Hnr.out (by omega); have ck := hr k hkN; have hka := Hsz.out k hkN; have Hok := Hid2.mk (show okN nm k = (isNameB (nm.getD k noT) && (decide (k = 0) || Op.bytesLess (nm.getD (k - 1) noT).toList (nm.getD k noT).toList)) from rfl); have Hall := Hid2.mk hall
      by_cases hk0 : k = 0
      · have hk0' : ((k : Int) == 0) = true := by simp [hk0]
        have hk0'' : ¬ (0 : Int) < (k : Int) := by omega
        have hk00 := decide_eq_true hk0; rw [hk00] at Hok; clear hr hall hk0 hk00; generalize nm.getD k noT = a at ck hka Hok; generalize nm.getD (k - 1) noT = p at Hok; cases ha : isNameB a with
        | true =>
          rw [ha] at Hok; have Ha := Hid2.mk ha; clear ha
          go_wp2_with (go_fit (isName_any a _); rw [Ha.out]; rintro e w' ⟨rfl, rfl⟩)
          refine ⟨⟨k + 1, by omega, rfl, ⟨_, rfl⟩, fun j hj => (Nat.lt_succ_iff_lt_or_eq.1 hj).elim (Hall.out j) (fun e => by rw [e, Hok.out]; rfl)⟩, by show N - ((k : Int) + 1).toNat < N - ((k : Int)).toNat; omega⟩
        | false =>
          rw [ha] at Hok; have Ha := Hid2.mk ha; clear ha
          go_wp2_with (go_fit (isName_any a _); rw [Ha.out]; rintro e w' ⟨rfl, rfl⟩)
          go_ret
          refine ⟨ret_bool (b := false) (Bool.eq_false_iff.2 fun h => ?_).symm, belowN HB.out _⟩; have := (Hfi.out.1 h).1 k hkN; rw [Hok.out] at this; cases this
      · obtain ⟨m, rfl⟩ : ∃ m, k = m + 1 := ⟨k - 1, by omega⟩
        have cm := hr m (by omega); have hkm : IntKind.i64.wrap (((m + 1 : Nat) : Int) - 1) = (m : Nat) := by rw [IntWalk.i64_in _ (by omega)]; omega
        have hk0'' : (0 : Int) < ((m + 1 : Nat) : Int) := by omega
        have hk00 := decide_eq_false hk0; rw [hk00, Nat.add_sub_cancel] at Hok; clear hr hall hk0 hk00; generalize nm.getD (m + 1) noT = a at ck hka Hok; generalize nm.getD m noT = p at cm Hok; cases ha : isNameB a with
        | true =>
          cases hp : Op.bytesLess p.toList a.toList with
          | true =>
            have hle : (Op.bytesLess a.toList p.toList || a.toList == p.toList) = false := by rw [leq_not, hp]; rfl
            rw [ha, hp] at Hok; have Ha := Hid2.mk ha; have Hp := Hid2.mk hp; clear ha hp
            go_wp2_with (go_fit (isName_any a _); rw [Ha.out]; rintro e w' ⟨rfl, rfl⟩)
            refine ⟨⟨m + 2, by omega, rfl, ⟨_, rfl⟩, fun j hj => (Nat.lt_succ_iff_lt_or_eq.1 hj).elim (Hall.out j) (fun e => by rw [e, Hok.out]; rfl)⟩, by show N - ((m : Int) + 1 + 1).toNat < N - (((m + 1 : Nat) : Int)).toNat; omega⟩
          | false =>
            have hle : (Op.bytesLess a.toList p.toList || a.toList == p.toList) = true := by rw [leq_not, hp]; rfl
            rw [ha, hp] at Hok; have Ha := Hid2.mk ha; have Hp := Hid2.mk hp; clear ha hp
            go_wp2_with (go_fit (isName_any a _); rw [Ha.out]; rintro e w' ⟨rfl, rfl⟩)
            go_ret
            refine ⟨ret_bool (b := false) (Bool.eq_false_iff.2 fun h => ?_).symm, belowN HB.out _⟩; have := (Hfi.out.1 h).1 _ hkN; rw [Hok.out] at this; cases this
        | false =>
          rw [ha] at Hok; have Ha := Hid2.mk ha; clear ha
          go_wp2_with (go_fit (isName_any a _); rw [Ha.out]; rintro e w' ⟨rfl, rfl⟩)
          go_ret
          refine ⟨ret_bool (b := false) (Bool.eq_false_iff.2 fun h => ?_).symm, belowN HB.out _⟩; have := (Hfi.out.1 h).1 _ hkN; rw [Hok.out] at this; cases this
    · obtain rfl : k = N := by omega
      have hd : (k : Int) ≤ k := by omega
      have Hall := Hid2.mk hall; clear hall
      go_wp2_with fail
      go_ret
      refine ⟨ret_bool (b := (k : Int) == K) ?_, belowN HB.out _⟩; cases hf : fieldsB v with
      | true => have := (Hfi.out.1 hf).2; simp [this]
      | false =>
        refine beq_eq_false_iff_ne.2 fun e => ?_; have := Hfi.out.2 ⟨Hall.out, by omega⟩; rw [hf] at this; cases this
end Vl
end Go.Proofs.YtpfkcfaifleliaaGreat
