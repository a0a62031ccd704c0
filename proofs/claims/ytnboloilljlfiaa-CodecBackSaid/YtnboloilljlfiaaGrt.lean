/- How great values are (the laws' great). -/
import Derived.Test.YtnboloilljlfiaaVal
namespace Go.Proofs.Ytnboloilljlfiaa
namespace K

/-- One by one, as long as it is not too much. -/
def grtK (B : Nat) (g : V → Nat → Nat) : List V → Nat → Nat
  | [], n => n
  | k :: r, n => if n ≤ B then grtK B g r (g k n) else n
/-- How great a value is, so many levels deep. -/
def grt (B : Nat) : Nat → V → Nat → Nat
  | 0, _, n => n
  | f + 1, v, n => grtK B (grt B f) v.kids (n + 1 + v.t.size / 20 + v.names.length)
/-- A value is f deep at most, and its lists are as memory can hold them. -/
def Sml : Nat → V → Prop
  | 0, _ => False
  | f + 1, v => v.names.length ≤ 140737488355328 ∧ v.kids.length ≤ 140737488355328 ∧ ∀ x ∈ v.kids, Sml f x

theorem grtK_over {B : Nat} {g : V → Nat → Nat} {n : Nat} (l : List V) (h : B < n) : grtK B g l n = n := by
  cases l with
  | nil => rfl
  | cons k r => unfold grtK; rw [if_neg (by omega)]
end K
end Go.Proofs.Ytnboloilljlfiaa
