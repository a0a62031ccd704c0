/- The six cells of a value; what is apart from old memory. -/
import Derived.Test.YtnboloilljlfiaaKd
import Derived.Test.YtnboloilljlfiaaVal
namespace Go.Proofs.Ytnboloilljlfiaa
open Go.RowKit
namespace K

/-- What comes behind is apart from what was there ahead of w0. -/
structure Apart (w0 w : World) (b : Value) : Prop where
  below : Below w0.heap.size w0 w
  own : ∀ g, b.ownBlock = some g → w0.heap.size ≤ g
theorem Apart.grow {w0 w w' : World} {b b' : Value} (h : Apart w0 w b) (g : Grow w b w' b') : Apart w0 w' b' := ⟨h.below.trans (g.old h.below.size h.own), g.own h.below.size h.own⟩
abbrev six (v : V) (sn sk : Value) : List Value := [.int .i64 v.k, .int .i64 v.n, .int .i64 v.s, .string v.t, sn, sk]
theorem IsV.one {f : Nat} {w : World} {v : V} {cs : List Value} (h : IsV f w v cs) : Ones cs := by
  cases f with
  | zero => exact h.elim
  | succ f =>
    obtain ⟨sn, sk, rfl, -, -, -, -, ⟨_, _, rfl, -⟩, ⟨_, _, rfl, -⟩⟩ := h
    intro u hu
    simp at hu
    rcases hu with rfl | rfl | rfl | rfl | rfl | rfl <;> rfl
/-- A box that stands while an own row grows. -/
theorem Fresh.stand {w w1 wk : World} {g T : Nat} {cs : List Value} {b vk : Value} {l : List Int} (h : Fresh w g w1 T cs) (hb : Bu w b l) (hg : Grow w1 b wk vk) : VBlk T wk g cs :=
  h.blk.keep hg.1 ⟨by rw [h.size, h.eq]; omega, fun e => by have := hb.lt _ e; rw [h.eq] at this; omega⟩
end K
end Go.Proofs.Ytnboloilljlfiaa
