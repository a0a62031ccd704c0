/- Three ways to walk: plain; within the wide fence (where a round may be called); in a round of a loop over a function. -/
import Derived.Test.YtdaljjicekheiaaLoads
import Derived.Test.YtdaljjicekheiaaBaseC
import Derived.RangeFuncNested
import Derived.RangeFuncLeaves
import Derived.Sort.LoopGhostIn
namespace Go.Proofs.Ytdaljjicekheiaa
open Go.RowKit
namespace K

def FF (r : Option Nat) : Fence := { Fence.wide with round := r }
theorem FF.in (l : Nat) : FF (some l) = Fence.wide.inRound l := rfl
theorem FF.none : FF none = Fence.wide := rfl
/-- A code by its way. -/
def cw (md : Option (Option Nat)) (P : Program) (c : Code) (Q : Exit → Act → World → Prop) (a : Act) (w : World) : Prop :=
  match md with
  | none => c.wp P Q a w
  | some r => c.wpIn (FF r) 1 P Q a w
def lw (md : Option (Option Nat)) (P : Program) (ops : Array Oper) (Q : Exit → Act → World → Prop) (rest : List Oper) (a : Act) (w : World) : Prop :=
  match md with
  | none => wpList P ops Q rest a w
  | some r => wpListIn (FF r) 1 P ops Q rest a w
section
variable {md : Option (Option Nat)} {P : Program} {Q Q' : Exit → Act → World → Prop} {a : Act} {w w' : World} {ops : Array Oper} {rest : List Oper} {o : Oper} {K K' : Act → World → Prop} {r : Option Nat}

theorem cw_mono {c : Code} (hq : ∀ e a w, Q e a w → Q' e a w) (h : cw md P c Q a w) : cw md P c Q' a w := by
  cases md with
  | none => exact Code.wp_mono hq h
  | some r => exact Go.wpIn_mono h hq
theorem cw_seq {x y : Code} (h : cw md P x (Exit.then (cw md P y Q) Q) a w) : cw md P (.seq x y) Q a w := by
  cases md with
  | none => exact wp_seq h
  | some r => exact wpIn_seq h
theorem cw_block {id : Nat} {c : Code} (h : cw md P c (Exit.inBlock id Q) a w) : cw md P (.block id c) Q a w := by
  cases md with
  | none => exact wp_block h
  | some r => exact wpIn_block h
theorem cw_skip (h : Q .normal a w) : cw md P .skip Q a w := by
  cases md with
  | none => exact wp_skip h
  | some r => exact wpIn_skip h
theorem cw_exit {id : Nat} (h : Q (.exit id) a w) : cw md P (.exit id) Q a w := by
  cases md with
  | none => exact wp_exit h
  | some r => exact wpIn_exit h
theorem cw_ret (h : Q .ret a w) : cw md P .ret Q a w := by
  cases md with
  | none => exact wp_ret h
  | some r => exact wpIn_ret h
theorem cw_region {id : Nat} {l : List Oper} (h : lw md P l.toArray Q l a w) : cw md P (.region id l.toArray false) Q a w := by
  cases md with
  | none => exact wp_region_lit h
  | some r => exact wpIn_region_lit h
theorem cw_cond {c : Operand} {x y : Code} {t : Bool} (hc : a.eval c = .bool t) (ht : t = true → cw md P x Q a w) (hf : t = false → cw md P y Q a w) : cw md P (.cond c x y) Q a w := by
  cases md with
  | none => exact wp_cond_split hc ht hf
  | some r => exact wpIn_cond_split hc ht hf
theorem cw_loop {c : Code} (I : Nat → Act → World → Prop) (n₀ : Nat) (h₀ : I n₀ a w)
    (round : ∀ n a w, I n a w → cw md P c (Exit.then (fun a' w' => ∃ n', n' < n ∧ I n' a' w') Q) a w) : cw md P (.loop c) Q a w := by
  cases md with
  | none => exact wp_loop_ghost I n₀ h₀ round
  | some r => exact wpIn_loop_ghost I n₀ h₀ round
theorem lw_nil {P : Program} (h : Q .normal a w) : lw md P ops Q [] a w := by
  cases md with
  | none => exact h
  | some r => exact h
theorem not_defer {v : Next} (hv : ∀ d, v ≠ .defer d) (hr : (execOp a.eval o).run P w = .ok v w') : ∀ c, o.op ≠ .defer c := by
  intro c hc
  unfold execOp at hr
  rw [hc] at hr
  simp only [Sem.run_bind] at hr
  cases h : (resolve a.eval c o.type).run P w with
  | ok d w2 => rw [h] at hr; simp at hr; exact hv _ hr.1.symm
  | halt x w2 => rw [h] at hr; cases hr
theorem semAt_run {v : Next} (hv : ∀ d, v ≠ .defer d) (hr : (execOp a.eval o).run P w = .ok v w') : (o.semAt r a.eval).run P w = .ok v w' := by
  rw [Oper.semAt_eq r a.eval o (not_defer hv hr)]
  exact hr
theorem lw_value {v : Value} (hg : o.guard = none) (hr : (execOp a.eval o).run P w = .ok (.value v) w') (h : lw md P ops Q rest (a.put o.dst v) w') : lw md P ops Q (o :: rest) a w := by
  cases md with
  | none => exact wpList_plain hg fun K hK => by unfold Oper.wp; rw [hr, Oper.upon_value]; exact hK _ _ h
  | some r => exact wpListIn_plain hg fun K hK => ⟨fun _ _ => trivial, by show o.uponIn (FF r) 1 P a K Q ((o.semAt r a.eval).run P w); rw [semAt_run (by intro d hd; cases hd) hr, Oper.uponIn_value]; exact hK _ _ h⟩
theorem lw_skip (hg : o.guard = none) (hr : (execOp a.eval o).run P w = .ok .skip w') (h : lw md P ops Q rest (a.put o.dst undef) w') : lw md P ops Q (o :: rest) a w := by
  cases md with
  | none => exact wpList_plain hg fun K hK => by unfold Oper.wp; rw [hr, Oper.upon_skip]; exact hK _ _ h
  | some r => exact wpListIn_plain hg fun K hK => ⟨fun _ _ => trivial, by show o.uponIn (FF r) 1 P a K Q ((o.semAt r a.eval).run P w); rw [semAt_run (by intro d hd; cases hd) hr, Oper.uponIn_skip]; exact hK _ _ h⟩
theorem callsFF {n f : Nat} {args : Array Value} {R : Ending → World → Prop} (h : Calls P f args w R) : CallsIn (FF r) n P f args w R := by
  cases r with
  | none => exact callsIn_wide.2 h
  | some l => exact CallsIn.inRound l (callsIn_wide.2 h)
theorem lw_enter {f : Nat} {args : Array Value} (hg : o.guard = none) (hr : (execOp a.eval o).run P w = .ok (.enter f args) w')
    (h : Calls P f args w' fun e w2 => ∃ v, e = .returned v ∧ lw md P ops Q rest (a.put o.dst v) w2) : lw md P ops Q (o :: rest) a w := by
  cases md with
  | none =>
    exact wpList_plain hg fun K hK => by
      unfold Oper.wp
      rw [hr, Oper.upon_enter]
      refine h.mono fun e w2 hh => ?_
      obtain ⟨v, rfl, h2⟩ := hh
      exact hK _ _ h2
  | some r =>
    refine wpListIn_plain hg fun K hK => ⟨fun _ _ => trivial, ?_⟩
    show o.uponIn (FF r) 1 P a K Q ((o.semAt r a.eval).run P w)
    rw [semAt_run (by intro d hd; cases hd) hr, Oper.uponIn_enter]
    refine ⟨fun _ => Nat.le_refl 1, (callsFF h).mono fun e w2 hh => ?_⟩
    obtain ⟨v, rfl, h2⟩ := hh
    exact hK _ _ h2
/-- A round is called. -/
theorem lw_round {l : Nat} {args : Array Value} {R : Ending → World → Prop} (hg : o.guard = none) (hr : (execOp a.eval o).run P w = (Instr.yield l args).run P w) (hy : YieldAt Fence.wide 0 P l args w R)
    (h : ∀ e w2, R e w2 → ∃ v, e = .returned v ∧ lw (some none) P ops Q rest (a.put o.dst v) w2) : lw (some none) P ops Q (o :: rest) a w := by
  obtain ⟨fn, tmps, assign, body, h1, h2⟩ := hy
  refine wpListIn_plain hg fun K hK => ⟨fun _ _ => trivial, ?_⟩
  show o.uponIn (FF none) 1 P a K Q ((o.semAt none a.eval).run P w)
  rw [semAt_run (by intro d hd; cases hd) (hr.trans h1), Oper.uponIn_round]
  refine ⟨fun _ => Nat.le_refl 1, RoundIn.mono h2 fun e w2 hh => ?_⟩
  obtain ⟨v, rfl, h3⟩ := h e w2 hh
  exact hK _ _ h3
theorem lw_on (hw : Region.wanted o (yielded ops a.tmps) = true) (h : lw md P ops Q ({ o with guard := none } :: rest) a w) : lw md P ops Q (o :: rest) a w := by
  have hw2 : Region.wanted { o with guard := none } (yielded ops a.tmps) = true := rfl
  cases md with
  | none =>
    change wpList P ops Q _ a w at h
    show wpList P ops Q _ a w
    unfold wpList at h ⊢
    rw [if_pos hw2] at h
    rw [if_pos hw]
    exact h
  | some r =>
    change wpListIn (FF r) 1 P ops Q _ a w at h
    show wpListIn (FF r) 1 P ops Q _ a w
    unfold wpListIn at h ⊢
    rw [if_pos hw2] at h
    rw [if_pos hw]
    exact h
theorem lw_off (hw : Region.wanted o (yielded ops a.tmps) = false) (h : lw md P ops Q rest (a.put o.dst undef) w) : lw md P ops Q (o :: rest) a w := by
  have hw2 : ¬ Region.wanted o (yielded ops a.tmps) = true := by rw [hw]; exact Bool.false_ne_true
  cases md with
  | none => show wpList P ops Q _ a w; unfold wpList; rw [if_neg hw2]; exact h
  | some r => show wpListIn (FF r) 1 P ops Q _ a w; unfold wpListIn; rw [if_neg hw2]; exact ⟨fun _ _ => trivial, h⟩
/-- No way out at want of room. -/
def NoOut (Q : Exit → Act → World → Prop) : Exit → Act → World → Prop
  | .outgrown, _, _ => False
  | e, a, w => Q e a w
theorem rowsFF {n : Nat} {row : String} {args : Array Value} {R : Value → World → Prop} (h : Rows P row args w R) : RowsIn (FF r) n P row args w R := by
  have h1 : RowsIn Fence.wide n P row args w R := fun c cs _ => let ⟨v, w', hR, hs⟩ := h c cs; ⟨v, w', hR, stepsIn_wide.2 hs⟩
  exact h1
theorem wp_noOut (hk : ∀ a w, K a w → K' a w) (h : o.wp P a w K (Exit.then K (NoOut Q))) : o.wp P a w K' Q := by
  unfold Oper.wp at h ⊢
  revert h
  generalize (execOp a.eval o).run P w = x
  intro h
  cases x with
  | ok x w2 =>
    cases x <;> first | exact hk _ _ h | exact h | skip
    all_goals first
      | (refine Calls.mono h fun e w3 h3 => ?_
         cases e with
         | returned v => exact hk _ _ h3
         | panicked ch => exact h3
         | outgrown => obtain ⟨a4, w4, h4⟩ := h3; exact h4.elim)
      | exact Rows.mono h fun v w3 h3 => hk _ _ h3
  | halt x w2 => cases x <;> first | exact h | skip
theorem wpIn_noOut (hd : ∀ c, o.op ≠ .defer c) (hk : ∀ a w, K a w → K' a w) (h : o.wp P a w K (Exit.then K (NoOut Q))) : o.wpIn (FF r) 1 P a w K' Q := by
  refine ⟨fun _ _ => trivial, ?_⟩
  show o.uponIn (FF r) 1 P a K' Q ((o.semAt r a.eval).run P w)
  rw [Oper.semAt_eq r a.eval o hd]
  unfold Oper.wp at h
  revert h
  generalize (execOp a.eval o).run P w = x
  intro h
  cases x with
  | ok x w2 =>
    cases x <;> first | exact hk _ _ h | exact h.elim | skip
    all_goals first
      | (refine ⟨fun _ => Nat.le_refl 1, (callsFF h).mono fun e w3 h3 => ?_⟩
         cases e with
         | returned v => exact hk _ _ h3
         | panicked ch => exact h3
         | outgrown => obtain ⟨a4, w4, h4⟩ := h3; exact h4.elim)
      | exact ⟨fun _ => Nat.le_refl 1, (rowsFF h).mono fun v w3 h3 => hk _ _ h3⟩
  | halt x w2 => cases x <;> first | exact h | exact h.elim | skip
/-- Whatever a plain law says of one operation. -/
theorem lw_via (hg : o.guard = none) (hd : ∀ c, o.op ≠ .defer c) (h : wpList P ops (Exit.then (lw md P ops Q rest) (NoOut Q)) [o] a w) : lw md P ops Q (o :: rest) a w := by
  have hw : Region.wanted o (yielded ops a.tmps) = true := by simp [Region.wanted, hg]
  unfold wpList at h
  rw [if_pos hw] at h
  have h1 : o.wp P a w (lw md P ops Q rest) (Exit.then (lw md P ops Q rest) (NoOut Q)) := by
    rcases h with h | ⟨-, a2, w2, h2⟩
    · exact h
    · exact h2.elim
  cases md with
  | none => exact wpList_plain hg fun K hK => wp_noOut hK h1
  | some r => exact wpListIn_plain hg fun K hK => wpIn_noOut hd hK h1
theorem wpOper_mono {o : Oper} (hq : ∀ e a w, Q e a w → Q' e a w) (hk : ∀ a w, K a w → K' a w) (h : o.wp P a w K Q) : o.wp P a w K' Q' := by
  unfold Oper.wp at h ⊢
  revert h
  generalize (execOp a.eval o).run P w = r
  intro h
  cases r with
  | ok x w2 =>
    cases x <;> first | exact hk _ _ h | exact h | skip
    all_goals first
      | (refine Calls.mono h fun e w3 h3 => ?_
         cases e with
         | returned v => exact hk _ _ h3
         | panicked ch => exact hq _ _ _ h3
         | outgrown => obtain ⟨a4, w4, h4⟩ := h3; exact ⟨a4, w4, hq _ _ _ h4⟩)
      | exact Rows.mono h fun v w3 h3 => hk _ _ h3
  | halt x w2 => cases x <;> first | exact hq _ _ _ h | exact h | skip
theorem wpOperIn_mono {F : Fence} {n : Nat} {o : Oper} (hq : ∀ e a w, Q e a w → Q' e a w) (hk : ∀ a w, K a w → K' a w) (h : o.wpIn F n P a w K Q) : o.wpIn F n P a w K' Q' := by
  refine ⟨h.1, ?_⟩
  have h := h.2
  revert h
  generalize (o.semAt F.round a.eval).run P w = r
  intro h
  cases r with
  | ok x w2 =>
    cases x <;> first | exact hk _ _ h | exact h | skip
    all_goals first
      | (refine ⟨h.1, CallsIn.mono h.2 fun e w3 h3 => ?_⟩
         cases e with
         | returned v => exact hk _ _ h3
         | panicked ch => exact hq _ _ _ h3
         | outgrown => obtain ⟨a4, w4, h4⟩ := h3; exact ⟨a4, w4, hq _ _ _ h4⟩)
      | exact ⟨h.1, RowsIn.mono h.2 fun v w3 h3 => hk _ _ h3⟩
      | (refine ⟨h.1, RoundIn.mono h.2 fun e w3 h3 => ?_⟩
         cases e with
         | returned v => exact hk _ _ h3
         | panicked ch => exact hq _ _ _ h3
         | outgrown => obtain ⟨a4, w4, h4⟩ := h3; exact ⟨a4, w4, hq _ _ _ h4⟩)
  | halt x w2 => cases x <;> first | exact hq _ _ _ h | exact h | skip
theorem wpList_mono' (hq : ∀ e a w, Q e a w → Q' e a w) (hl : LetsOut Q → LetsOut Q') : ∀ (rest : List Oper) (a : Act) (w : World), wpList P ops Q rest a w → wpList P ops Q' rest a w
  | [], a, w, h => hq _ _ _ h
  | o :: rest, a, w, h => by
    unfold wpList at h ⊢
    split
    · rename_i hw
      rw [if_pos hw] at h
      rcases h with h | h
      · exact .inl (wpOper_mono hq (fun a w h => wpList_mono' hq hl rest a w h) h)
      · exact .inr ⟨h.1, hl h.2⟩
    · rename_i hw
      rw [if_neg hw] at h
      exact wpList_mono' hq hl rest _ w h
theorem wpListIn_mono' {F : Fence} {n : Nat} (hq : ∀ e a w, Q e a w → Q' e a w) : ∀ (rest : List Oper) (a : Act) (w : World), wpListIn F n P ops Q rest a w → wpListIn F n P ops Q' rest a w
  | [], a, w, h => hq _ _ _ h
  | o :: rest, a, w, h => by
    unfold wpListIn at h ⊢
    split
    · rename_i hw
      rw [if_pos hw] at h
      exact wpOperIn_mono hq (fun a w h => wpListIn_mono' hq rest a w h) h
    · rename_i hw
      rw [if_neg hw] at h
      exact ⟨h.1, wpListIn_mono' hq rest _ w h.2⟩
theorem lw_mono (hq : ∀ e a w, Q e a w → Q' e a w) (h : lw md P ops Q rest a w) : lw md P ops Q' rest a w := by
  cases md with
  | none => exact wpList_mono' hq (fun ⟨a, w, q⟩ => ⟨a, w, hq _ _ _ q⟩) rest a w h
  | some r => exact wpListIn_mono' hq rest a w h
end
end K
end Go.Proofs.Ytdaljjicekheiaa
