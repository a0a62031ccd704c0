/- Walks over the slots that are asked for: closures; append of anything; parts of slices; a result that is a block. -/
import Derived.Test.YtdaljjicekheiaaKd
namespace Go.Proofs.Ytdaljjicekheiaa
open Go.RowKit
namespace K
variable {n : NN} {Q : Exit → Act → World → Prop} {l : Env} {w w' : World} {ops : Array Oper} {o : Oper} {rest : List Oper} {d : Nat}

/-- A function with what it holds of its surroundings. -/
theorem WL.fn {f : FuncId} {caps : List Operand} {cs : List Value} (hg : o.guard = none) (hd : o.dst = some d) (hn : Nat.blt d n.n = true) (ho : o.op = .makeFunc (.func f) #[] caps.toArray) (hv : evlAll l caps = some cs)
    (h : WL n ops Q rest ((d, .func (.func f) #[] cs.toArray) :: l) w) : WL n ops Q (o :: rest) l w :=
  WL.step hg hd hn (fun a ha => by
    unfold execOp
    rw [ho]
    have := evlAll_map ha hv
    have e1 : (caps.toArray.map a.eval) = cs.toArray := by rw [List.map_toArray, this]
    simp [Instr.makeFunc, e1]) h
/-- Such a function is called. -/
theorem WL.callF {f : FuncId} {fn : Func} {x : Operand} {args : List Operand} {ts : Array TypeId} {vs cs : List Value} {R : Ending → World → Prop} (hg : o.guard = none) (hd : o.dst = some d) (hn : Nat.blt d n.n = true)
    (ho : o.op = .call { callee := .value x, args := args.toArray, argTypes := ts }) (hx : evl l x = some (.func (.func f) #[] cs.toArray)) (hv : evlAll l args = some vs) (hf : Try.prog.funcs[f]? = some fn) (hb : fn.body.isNone = false) (hname : (fn.name == "runtime.NumGoroutine") = false)
    (hc : Calls Try.prog f (vs ++ cs).toArray w R) (h : ∀ e w', R e w' → ∃ v, e = .returned v ∧ WL n ops Q rest ((d, v) :: l) w') : WL n ops Q (o :: rest) l w :=
  ⟨fun a ha => by
    have hrun : (execOp a.eval o).run Try.prog w = .ok (.enter f (vs ++ cs).toArray) w := by
      unfold execOp
      rw [ho]
      have := evlAll_map ha hv
      have e1 : (args.toArray.map a.eval) = vs.toArray := by rw [List.map_toArray, this]
      have e2 : a.eval x = .func (.func f) #[] cs.toArray := ha.eval hx
      have hb' : ¬ fn.body = none := fun e => by rw [e] at hb; cases hb
      have hn' : ¬ fn.name = "runtime.NumGoroutine" := by simpa using hname
      simp [resolve, e1, e2, Deferred.ofValue, invoke, callFunc, hf, hb', hn']
    refine lw_enter hg hrun (hc.mono fun e w'' hh => ?_)
    obtain ⟨v, rfl, hwl⟩ := h e w'' hh
    exact ⟨v, rfl, by rw [hd]; exact hwl.go _ (ha.put hn v)⟩⟩
/-- append of anything onto an own slice. -/
theorem WL.appV {s x : Operand} {t e : TypeId} {m bytes : Nat} {v xv : Value} {k k2 : Nat} {l1 l2 : List Value} {O O2 : Nat → Prop} (hg : o.guard = none) (hd : o.dst = some d) (hn : Nat.blt d n.n = true)
    (ho : o.op = .call { callee := .builtin .append, args := #[s, x], argTypes := #[t, t] }) (E : ElemV Try.prog t e m bytes) (hs : evl l s = some v) (hown : OwnV e m w O v k l1) (hx : evl l x = some xv) (hsl : SlV w O2 m xv k2 l2) (hb : (k + k2) * bytes ≤ 140737488355328) (hb1 : k + k2 ≤ 140737488355328)
    (h : ∀ v' w', OwnV e m w' (fun g => O g ∨ g = w.heap.size) v' (k + k2) (l1 ++ l2) → Grow w v w' v' → WL n ops Q rest ((d, v') :: l) w') : WL n ops Q (o :: rest) l w :=
  ⟨fun a ha => by
    refine lw_via hg (by rw [ho]; intro c hc; cases hc) ?_
    refine wpList_appV hg s x t ho E (ha.eval hs) hown (ha.eval hx) hsl rfl (by unfold maxLen; omega) hb ?_
    intro sp c w' h2 h3 h4
    rw [hd]
    exact (h _ w' h2 ⟨grown_keep h3, fun g hg => (h4 g hg).imp id (fun e => by omega)⟩).go _ (ha.put hn _)⟩

theorem sl_from {w0 : World} {sp : Option Addr} {cap : Nat} {k : IntKind} {zs : List Int} (h : Sl k w0 (.slice sp zs.length cap) zs) {j : Nat} (hj : j ≤ zs.length) : Sl k w0 (sliced sp j zs.length cap 1) (zs.drop j) := by
  obtain ⟨sp', cap', he, hc, hm, hr, h0⟩ := h
  obtain ⟨rfl, -, rfl⟩ : sp = sp' ∧ zs.length = zs.length ∧ cap = cap' := by injection he with a b c; exact ⟨a, b, c⟩
  unfold sliced
  refine ⟨if cap = j then sp else sp.map (·.add (j * 1)), cap - j, by rw [List.length_drop], by rw [List.length_drop]; omega, by omega, fun hl => ?_, fun hn => ?_⟩
  · rw [List.length_drop] at hl
    obtain ⟨b, o, rfl, hb, hrow⟩ := hr (by omega)
    rw [if_neg (by omega)]
    refine ⟨b, o + j, by simp [Addr.add_mid], hb, fun i hi => ?_⟩
    rw [List.length_drop] at hi
    have := hrow (j + i) (by omega)
    rw [show o + j + i = o + (j + i) by omega, this]
    simp [nth, List.getD_eq_getElem?_getD, List.getElem?_drop]
  · by_cases e : cap = j
    · omega
    · rw [if_neg e] at hn
      cases sp with
      | none => have := h0 rfl; omega
      | some p => cases hn
/-- A slice from a place on. -/
theorem WL.from {t e : Nat} {x lo : Operand} {v : Value} {k kk : IntKind} {z : Int} {zs : List Int} {w0 : World} (hg : o.guard = none) (hd : o.dst = some d) (hn : Nat.blt d n.n = true) (ho : o.op = .slice t x (some lo) none none) (ht : tyOf ty t = some (.slice e 1))
    (hx : evl l x = some v) (hlo : evl l lo = some (.int kk z)) (h0 : 0 ≤ z) (h1 : z ≤ zs.length) (hs : Sl k w0 v zs) (h : ∀ v', Sl k w0 v' (zs.drop z.toNat) → WL n ops Q rest ((d, v') :: l) w) : WL n ops Q (o :: rest) l w := by
  have hs0 := hs
  obtain ⟨sp, cap, rfl, hc, hm, hr, hn0⟩ := hs
  refine WL.step hg hd hn (v := sliced sp z.toNat zs.length cap 1) (fun a ha => ?_) (h _ (sl_from hs0 (by omega)))
  obtain ⟨hu, hsz⟩ := TyOk.of tyOk ht
  have he : Try.prog.elem t = e := by simp [Program.elem, hu]
  have hu' : Try.prog.underlying t = some (.slice (Try.prog.elem t)) := by rw [he]; exact hu
  have hs : (sizeOf e).run Try.prog w = .ok 1 w := by
    cases hq : Try.prog.info? e with
    | none => rw [hq] at hsz; cases hsz
    | some q => rw [hq] at hsz; simp at hsz; simp [sizeOf, typeInfo, hq, hsz]
  unfold execOp
  rw [ho]
  simp [ha.eval hx, ha.eval hlo, run_sliceAt_slice w t _ _ _ _ hu', run_slice_l w t sp zs.length cap hu' kk z h0 (by omega), he, hs]
theorem sl_to {w0 : World} {sp : Option Addr} {cap : Nat} {k : IntKind} {zs : List Int} (h : Sl k w0 (.slice sp zs.length cap) zs) {j : Nat} (hj : j ≤ zs.length) : Sl k w0 (sliced sp 0 j cap 1) (zs.take j) := by
  obtain ⟨sp', cap', he, hc, hm, hr, h0⟩ := h
  obtain ⟨rfl, -, rfl⟩ : sp = sp' ∧ zs.length = zs.length ∧ cap = cap' := by injection he with a b c; exact ⟨a, b, c⟩
  unfold sliced
  have hl : (zs.take j).length = j := by rw [List.length_take]; omega
  refine ⟨if cap = 0 then sp else sp.map (·.add (0 * 1)), cap - 0, by rw [hl]; rfl, by rw [hl]; omega, by omega, fun h1 => ?_, fun hn => ?_⟩
  · rw [hl] at h1
    obtain ⟨b, o, rfl, hb, hrow⟩ := hr (by omega)
    rw [if_neg (by omega)]
    refine ⟨b, o, by simp [Addr.add_mid], hb, fun i hi => ?_⟩
    rw [hl] at hi
    rw [hrow i (by omega)]
    simp [nth, List.getD_eq_getElem?_getD, hi]
  · by_cases e : cap = 0
    · omega
    · rw [if_neg e] at hn
      cases sp with
      | none => have := h0 rfl; omega
      | some p => cases hn
/-- A slice up to a place. -/
theorem WL.upto {t e : Nat} {x hi : Operand} {v : Value} {k kk : IntKind} {z : Int} {zs : List Int} {w0 : World} (hg : o.guard = none) (hd : o.dst = some d) (hn : Nat.blt d n.n = true) (ho : o.op = .slice t x none (some hi) none) (ht : tyOf ty t = some (.slice e 1))
    (hx : evl l x = some v) (hhi : evl l hi = some (.int kk z)) (h0 : 0 ≤ z) (h1 : z ≤ zs.length) (hs : Sl k w0 v zs) (h : ∀ v', Sl k w0 v' (zs.take z.toNat) → WL n ops Q rest ((d, v') :: l) w) : WL n ops Q (o :: rest) l w := by
  have hs0 := hs
  obtain ⟨sp, cap, rfl, hc, hm, hr, hn0⟩ := hs
  refine WL.step hg hd hn (v := sliced sp 0 z.toNat cap 1) (fun a ha => ?_) (h _ (sl_to hs0 (by omega)))
  obtain ⟨hu, hsz⟩ := TyOk.of tyOk ht
  have he : Try.prog.elem t = e := by simp [Program.elem, hu]
  have hu' : Try.prog.underlying t = some (.slice (Try.prog.elem t)) := by rw [he]; exact hu
  have hs : (sizeOf e).run Try.prog w = .ok 1 w := by
    cases hq : Try.prog.info? e with
    | none => rw [hq] at hsz; cases hsz
    | some q => rw [hq] at hsz; simp at hsz; simp [sizeOf, typeInfo, hq, hsz]
  unfold execOp
  rw [ho]
  simp [ha.eval hx, ha.eval hhi, run_sliceAt_slice w t _ _ _ _ hu', run_slice_h w t sp zs.length cap hu' kk z h0 (by omega), he, hs]
section
variable {fn : Func} {R : Ending → World → Prop}
theorem WQ.ret0 {kn : Nat} {md : Option (Option Nat)} (hr : fn.results = #[]) (h : R (.returned (.tuple #[])) w) : WQ ⟨kn, [], md⟩ (bodyPost Try.prog fn R) .ret l w := ⟨fun _ ha => ⟨ha.defers, _, results_none hr _ _ _, h⟩⟩
theorem WQ.end0 {kn : Nat} {md : Option (Option Nat)} (hr : fn.results = #[]) (h : R (.returned (.tuple #[])) w) : WQ ⟨kn, [], md⟩ (bodyPost Try.prog fn R) .normal l w := ⟨fun _ ha => ⟨ha.defers, _, results_none hr _ _ _, h⟩⟩
/-- The result is a whole block. -/
theorem WQ.retC {kn : Nat} {md : Option (Option Nat)} {p g T m : Nat} {ty' : TypeId} {cs : List Value} (hr : fn.results = #[.cell p ty']) (hl : look l p = some (.pointer (some ⟨g, 0, none⟩))) (ht : cellsN (tyOf ty ty') = some m) (hm : cs.length = m) (hb : VBlk T w g cs)
    (h : R (.returned (.agg cs.toArray)) w) : WQ ⟨kn, [], md⟩ (bodyPost Try.prog fn R) .ret l w :=
  ⟨fun a ha => ⟨ha.defers, _, by
    obtain ⟨_, hu, hdd, hsz⟩ := cellsN_ok tyOk ht
    have hp := ha.getD hl
    simp only [Array.getD_eq_getD_getElem?] at hp
    have := run_loadVar_mid (P := Try.prog) w g 0 ty' cs _ (VBlk.rangeAt hb) hu hdd (by rw [hsz, hm])
    simp [results, hr, hp, asAddr, this], h⟩⟩
end
end K
end Go.Proofs.Ytdaljjicekheiaa
