/- append onto a slice of the call's own, as one step of a region that draws its order. -/
import Derived.Test.YtfdgclnjpbkggaaDoorBaseC
import Derived.Deep.RegionLaw
namespace Go.Proofs.YtfdgclnjpbkggaaDoor
open Go.RowKit

theorem wp_app {P : Program} {w : World} {o : Oper} {a : Act} {K : Act → World → Prop} {Q : Exit → Act → World → Prop} (s x : Operand) (t : TypeId)
    (ho : o.op = .call { callee := .builtin .append, args := #[s, x], argTypes := #[t, t] }) {e : TypeId} {k : IntKind} {bytes : Nat} (E : Elem P t e bytes)
    (base : Nat) (v : Value) (l : List Int) (hs : a.eval s = v) (hown : Buf k e w base v l) (xv : Value) (l2 : List Int) (hx : a.eval x = xv) (hsl : Sl k w xv l2)
    (n : Nat) (hn : l.length + l2.length = n) (hb1 : n ≤ maxLen) (hb2 : n * bytes ≤ 140737488355328) (hbase : base ≤ w.heap.size)
    (h : ∀ sp c w', Buf k e w' base (.slice sp n c) (l ++ l2) → Keep (fun b => b < base) w w' → K (a.put o.dst (.slice sp n c)) w') : o.wp P a w K Q := by
  subst hn
  obtain ⟨i, z, hi, hz, hz1, hz2, hz3⟩ := E.ex
  obtain ⟨sp, cap, rfl, hc1, hc2, hrow, hnil⟩ := hsl
  have go : ∀ v' w', w'.ownsRow base e 1 v' (l.length + l2.length) (l.map (Value.int k) ++ l2.map (Value.int k)) → w.grownBy w' v.ownBlock → K (a.put o.dst v') w' := by
    intro v' w' h1 h2
    have h1' : Buf k e w' base v' (l ++ l2) := by
      unfold Buf; rw [List.map_append, List.length_append]; exact h1
    have hk := keep_grown h2 (fun g hg => (hown.own g hg).1) hbase
    rcases h1'.block with ⟨e1, e2⟩ | ⟨g, c, r, e1, -⟩
    · subst e1
      have e3 : l.length + l2.length = 0 := by rw [← List.length_append, e2]; rfl
      rw [e3] at h
      exact h none 0 w' h1' hk
    · subst e1
      rw [List.length_append] at h1' ⊢
      exact h _ c w' h1' hk
  by_cases h0 : sp = none
  · subst h0
    have hc0 := hnil rfl
    subst hc0
    have hl2 : l2 = [] := List.eq_nil_of_length_eq_zero (by omega)
    subst hl2
    have hrun := run_append_owned_none (P := P) (w := w) base t o.type e i 1 E.ht hi v l.length _ hown
    have hgo := go v w (by unfold Buf at hown; simpa using hown) (World.grownBy.refl _ _)
    have hx' : a.eval x = .slice none 0 0 := hx
    unfold Oper.wp
    simp [execOp, ho, resolve, invoke, builtin, hs, hx', hrun, Result.andThen]
    exact hgo
  · obtain ⟨ad, had⟩ := Option.ne_none_iff_exists'.1 h0
    refine wp_append_own w s x t ho base e i z 1 bytes E.ht hi hz hz1 hz2 hz3 (by decide) v l.length _ hs hown ad l2.length cap (l2.map (Value.int k)) (by rw [hx, had]) (by simp) ?_ ?_ hb1 hb2 hbase (fun v' w' h1 h2 _ => go v' w' h1 h2)
    · intro j u hu
      have hj : j < l2.length := by
        rcases Nat.lt_or_ge j l2.length with h | h
        · exact h
        · simp [h] at hu
      obtain ⟨b, o, e1, hlt, hr⟩ := hrow (by omega)
      rw [e1] at had
      cases had
      rw [addr_add, hr j hj]
      simpa [nth, hj] using hu
    · intro u hu
      obtain ⟨_, _, rfl⟩ := List.mem_map.1 hu
      rfl

theorem step_app {P : Program} {ops : Array Oper} {w : World} {o : Oper} {a : Act} {K : Act → World → Prop} {Q : Exit → Act → World → Prop} {F : Prop} (hgd : o.guard = none) (s x : Operand) (t : TypeId)
    (ho : o.op = .call { callee := .builtin .append, args := #[s, x], argTypes := #[t, t] }) {e : TypeId} {k : IntKind} {bytes : Nat} (E : Elem P t e bytes)
    (base : Nat) (v : Value) (l : List Int) (hs : a.eval s = v) (hown : Buf k e w base v l) (xv : Value) (l2 : List Int) (hx : a.eval x = xv) (hsl : Sl k w xv l2)
    (n : Nat) (hn : l.length + l2.length = n) (hb1 : n ≤ maxLen) (hb2 : n * bytes ≤ 140737488355328) (hbase : base ≤ w.heap.size)
    (h : ∀ sp c w', Buf k e w' base (.slice sp n c) (l ++ l2) → Keep (fun b => b < base) w w' → K (a.put o.dst (.slice sp n c)) w') :
    if Region.wanted o (yielded ops a.tmps) = true then Oper.wp P o a w K Q else F := by
  rw [if_pos (by simp [Region.wanted, hgd])]
  exact wp_app s x t ho E base v l hs hown xv l2 hx hsl n hn hb1 hb2 hbase h

end Go.Proofs.YtfdgclnjpbkggaaDoor
