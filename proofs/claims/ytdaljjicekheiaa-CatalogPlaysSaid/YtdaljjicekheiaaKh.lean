/- Walks over the slots that are asked for: parts of a block, stored. -/
import Derived.Test.YtdaljjicekheiaaKg
import Derived.Laws.CopyRow
namespace Go.Proofs.Ytdaljjicekheiaa
open Go.RowKit
namespace K
variable {n : NN} {Q : Exit → Act → World → Prop} {l : Env} {w w' : World} {ops : Array Oper} {o : Oper} {rest : List Oper} {d : Nat}
/-- Some cells in the middle of a block. -/
theorem WL.storeMid {t mm T b off : Nat} {x y : Operand} {m cs : List Value} (hg : o.guard = none) (hd : o.dst = none) (ho : o.op = .store t x y) (hx : evl l x = some (.pointer (some ⟨b, off, none⟩))) (hy : evl l y = some (.agg m.toArray))
    (ht : cellsN (tyOf ty t) = some mm) (hb : VBlk T w b cs) (hm : m.length = mm) (hfit : off + mm ≤ cs.length) (h1 : Ones m) (h : WL n ops Q rest l (w.setRow b (cs.take off ++ m ++ cs.drop (off + mm)).toArray)) : WL n ops Q (o :: rest) l w :=
  WL.stepU hg hd (fun a ha => by
    obtain ⟨_, -, -, hsz⟩ := cellsN_ok tyOk ht
    have hs : (sizeOf t).run Try.prog w = .ok mm w := by
      cases hq : Try.prog.info? t with
      | none => rw [hq] at hsz; cases hsz
      | some q => rw [hq] at hsz; simp at hsz; simp [sizeOf, typeInfo, hq, hsz]
    have hrun := run_storeCells_at (P := Try.prog) b off T m 0 cs.toArray w hb (by simp only [List.size_toArray]; omega) h1
    simp only [Nat.add_zero] at hrun
    subst hm
    unfold execOp
    rw [ho]
    simp [ha.eval hx, ha.eval hy, Instr.storeAt, Instr.sureAddr, storeVar, hs, Value.cells, hrun]) h
theorem all_run {a : Act} {t e s m b off : Nat} {x : Operand} (ho : o.op = .slice t x none none none) (ht : tyOf ty t = some (.arr m e s)) (hx : a.eval x = .pointer (some ⟨b, off, none⟩)) : (execOp a.eval o).run Try.prog w = .ok (.value (.slice (some ⟨b, off, none⟩) m m)) w := by
  obtain ⟨hu, hse, -⟩ := TyOk.of tyOk ht
  have h1 : Try.prog.elem t = e := by simp [Program.elem, hu]
  have h2 : Try.prog.arrayLen t = m := by simp [Program.arrayLen, hu]
  have hs : (sizeOf e).run Try.prog w = .ok s w := by
    cases hq : Try.prog.info? e with
    | none => rw [hq] at hse; cases hse
    | some q => rw [hq] at hse; simp at hse; simp [sizeOf, typeInfo, hq, hse]
  have hr := run_sliceAt_array_all (P := Try.prog) w t ⟨b, off, none⟩ (by rw [h1, h2]; exact hu)
  unfold execOp
  rw [ho]
  have ha : slicedAt ⟨b, off, none⟩ 0 m m s = .slice (some ⟨b, off, none⟩) m m := by
    unfold slicedAt
    by_cases h0 : m = 0
    · rw [if_pos h0]; simp
    · rw [if_neg h0, Nat.zero_mul]; rfl
  simp [hx, hr, h1, h2, hs, ha]
/-- An array as a slice. -/
theorem WL.all {t e s m b off : Nat} {x : Operand} (hg : o.guard = none) (hd : o.dst = some d) (hn : Nat.blt d n.n = true) (ho : o.op = .slice t x none none none) (ht : tyOf ty t = some (.arr m e s)) (hx : evl l x = some (.pointer (some ⟨b, off, none⟩)))
    (h : WL n ops Q rest ((d, .slice (some ⟨b, off, none⟩) m m) :: l) w) : WL n ops Q (o :: rest) l w := WL.step hg hd hn (fun _ ha => all_run ho ht (ha.eval hx)) h
/-- An element of an array. -/
theorem WL.elem {t e m : Nat} {x i : Operand} {cs : List Value} {k : IntKind} {v : Value} (j : Nat) (hg : o.guard = none) (hd : o.dst = some d) (hn : Nat.blt d n.n = true) (ho : o.op = .index t x i) (ht : tyOf ty t = some (.arr m e 1)) (he : scal (tyOf ty e) = true)
    (hx : evl l x = some (.agg cs.toArray)) (hi : evl l i = some (.int k (j : Int))) (hj : j < m) (hv : cs[j]? = some v) (h : WL n ops Q rest ((d, v) :: l) w) : WL n ops Q (o :: rest) l w :=
  WL.step hg hd hn (fun a ha => by
    obtain ⟨hu, hse, -⟩ := TyOk.of tyOk ht
    obtain ⟨ie, hie, hsz⟩ := Option.map_eq_some_iff.1 hse
    have hd : ∃ d, Try.prog.underlying e = some d ∧ (match d with | .struct _ | .array _ _ => false | _ => true) = true := by
      cases hq : tyOf ty e with
      | none => rw [hq] at he; cases he
      | some z =>
        rw [hq] at he
        have hz := TyOk.of tyOk hq
        cases z with
        | int k => exact ⟨_, hz, rfl⟩
        | str => exact ⟨_, hz, rfl⟩
        | bool => exact ⟨_, hz, rfl⟩
        | ptr e => exact ⟨_, hz, rfl⟩
        | map k e => exact ⟨_, hz, rfl⟩
        | slice e s => exact ⟨_, hz.1, rfl⟩
        | struct m fs => cases he
        | arr m e s => cases he
    obtain ⟨dd, h1, h2⟩ := hd
    have := run_index_arr (P := Try.prog) w t e m dd ie hu hie hsz h1 (by cases dd <;> first | rfl | exact absurd h2 (by simp)) cs.toArray k j hj v (by simpa using hv)
    unfold execOp
    rw [ho]
    simp [ha.eval hx, ha.eval hi, this]) h
section
variable {S : World → Prop} {m fuel : Nat} {listed : Array Bool}
theorem WD.all {oi : Oper} {t e s mm b off : Nat} {x : Operand} (i : Nat) (hi : ops[i]? = some oi) (hs : mayB ops listed i m = true) (hd : oi.dst = some d) (hn : Nat.blt d n.n = true) (hQ : Passes Q) (hw : wants ops l oi = some true)
    (ho : oi.op = .slice t x none none none) (ht : tyOf ty t = some (.arr mm e s)) (hx : evl l x = some (.pointer (some ⟨b, off, none⟩))) (hS : listed.getD m false = true ∨ S w)
    (h : WD n ops Q S m fuel (listed.setIfInBounds i true) ((d, .slice (some ⟨b, off, none⟩) mm mm) :: l) w) : WD n ops Q S m (fuel + 1) listed l w :=
  WD.first i hi hs hd hn hQ (fun _ ha => .inl ⟨wants_run ha hw, fun _ _ => all_run ho ht (ha.eval hx)⟩) hS h
end
end K
end Go.Proofs.Ytdaljjicekheiaa
