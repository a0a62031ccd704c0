/- What is proved is taken; no program in sight. -/
import Derived.Test.YtfdgclnjpbkggaaDoorMkY
import Derived.Test.YtfdgclnjpbkggaaDoorMkP
namespace Go.Proofs.YtfdgclnjpbkggaaDoor
open Go.RowKit
namespace Mk

theorem getD_take {l : List H} {i k : Nat} (h : i < k) : (l.take k).getD i [] = l.getD i [] := by
  simp [List.getD_eq_getElem?_getD, h]
theorem getD_drop {l : List H} {i k : Nat} (h : k ≤ i) : (l.drop k).getD (i - k) [] = l.getD i [] := by
  simp only [List.getD_eq_getElem?_getD, List.getElem?_drop]
  rw [show k + (i - k) = i by omega]

section
variable {node : H → H → H} {none z : H}
theorem up_path : ∀ (n : Nat) (l : List H) (i : Nat), l.length = n → i < n → up node z (l.getD i []) i n (path node none i l) = (root node none l, true) := by
  intro n
  induction n using Nat.strongRecOn with
  | ind n ih =>
    intro l i hn hi
    by_cases h2 : 2 ≤ n
    · have hk := half_lt h2
      have hkp := half_pos n
      rw [up, dif_pos h2, path, dif_pos (by omega), root_two (l := l) (by omega), hn]
      by_cases h : i < half n
      · rw [if_pos h, if_neg (by simp), if_pos h, List.dropLast_concat, last_app]
        have e := ih (half n) hk (l.take (half n)) i (by rw [List.length_take]; omega) h
        rw [getD_take h] at e
        rw [e]
      · rw [if_neg h, if_neg (by simp), if_neg h, List.dropLast_concat, last_app]
        have e := ih (n - half n) (by omega) (l.drop (half n)) (i - half n) (by rw [List.length_drop]; omega) (by omega)
        rw [getD_drop (by omega)] at e
        rw [e]
    · obtain ⟨a, rfl⟩ : ∃ a, l = [a] := List.length_eq_one_iff.1 (by omega)
      have hi0 : i = 0 := by simp at hn; omega
      subst hi0
      rw [up, dif_neg h2, path, dif_neg (by simp), root_one]
      rfl
theorem ups_sub : ∀ (n : Nat) (l : List H) (m : Nat) (whole : Bool) (a : H), l.length = n → 1 ≤ m → m ≤ n → (whole = true → a = root node none (l.take m)) →
    ups node z m n whole (sub node none m l whole) a = ((root node none (l.take m), root node none l), true) := by
  intro n
  induction n using Nat.strongRecOn with
  | ind n ih =>
    intro l m whole a hn h1 hm ha
    subst hn
    by_cases he : m = l.length
    · have et : l.take m = l := List.take_of_length_le (by omega)
      rw [ups, if_pos he]
      cases whole with
      | true =>
        have es : sub node none m l true = [] := by rw [sub, if_pos he, if_pos rfl]
        rw [if_pos rfl, es, ha rfl, et]
        rfl
      | false =>
        have es : sub node none m l false = [root node none l] := by rw [sub, if_pos he, if_neg (by decide)]
        rw [if_neg (by decide), es, et]
        rfl
    · have h2 : 2 ≤ l.length := by omega
      have hk := half_lt h2
      have hkp := half_pos l.length
      by_cases h : m ≤ half l.length
      · have es : sub node none m l whole = sub node none m (l.take (half l.length)) whole ++ [root node none (l.drop (half l.length))] := by rw [sub, if_neg he, dif_pos h2, if_pos h]
        rw [ups, if_neg he, dif_pos h2, es, if_neg (by simp), if_pos h, List.dropLast_concat, last_app, root_two (l := l) h2]
        have e2 : (l.take (half l.length)).take m = l.take m := by rw [List.take_take, Nat.min_eq_left h]
        have e := ih (half l.length) hk (l.take (half l.length)) m whole a (by rw [List.length_take]; omega) h1 h (by rw [e2]; exact ha)
        rw [e2] at e
        rw [e]
      · have es : sub node none m l whole = sub node none (m - half l.length) (l.drop (half l.length)) false ++ [root node none (l.take (half l.length))] := by rw [sub, if_neg he, dif_pos h2, if_neg h]
        have e := ih (l.length - half l.length) (by omega) (l.drop (half l.length)) (m - half l.length) false a (by rw [List.length_drop]) (by omega) (by omega) (by intro h; cases h)
        have hh : half m = half l.length := half_eq (j := Nat.log2 (l.length - 1)) (by unfold half at h; omega) (by have := half_ge h2; unfold half at this; rw [Nat.pow_succ]; omega)
        have hl : (l.take m).length = m := by rw [List.length_take]; omega
        have e3 : root node none (l.take m) = node (root node none (l.take (half l.length))) (root node none ((l.drop (half l.length)).take (m - half l.length))) := by
          rw [root_two (l := l.take m) (by omega), hl, hh, List.take_take, Nat.min_eq_left (by omega), List.drop_take]
        rw [ups, if_neg he, dif_pos h2, es, if_neg (by simp), if_neg h, List.dropLast_concat, last_app, root_two (l := l) h2, e, e3]
end

end Mk
end Go.Proofs.YtfdgclnjpbkggaaDoor
