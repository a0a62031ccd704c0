/- Taking a proof: what a taker makes of hashes, what the document makes of them; no program in sight. -/
import Derived.Test.YtfdgclnjpbkggaaDoorMkPure
namespace Go.Proofs.YtfdgclnjpbkggaaDoor
open Go.RowKit
namespace Mk

/-- What a taker holds: the hashes to come, and whether there has been one each time. -/
abbrev Tkr := List H × Bool

section
variable (node : H → H → H) (z : H)
def next (s : Tkr) : H × Tkr := match s.1 with
  | [] => (z, ([], false))
  | h :: r => (h, (r, s.2))
def climb (leaf : H) (i n : Nat) (s : Tkr) : H × Tkr :=
  if _ : 2 ≤ n then
    (if i < half n then (node (climb leaf i (half n) s).1 (next z (climb leaf i (half n) s).2).1, (next z (climb leaf i (half n) s).2).2)
     else (node (next z (climb leaf (i - half n) (n - half n) s).2).1 (climb leaf (i - half n) (n - half n) s).1, (next z (climb leaf (i - half n) (n - half n) s).2).2))
  else (leaf, s)
termination_by n
decreasing_by all_goals (have := half_lt (n := n) (by assumption); have := half_pos n; omega)
def up (h : H) (i n : Nat) (p : List H) : H × Bool :=
  if _ : 2 ≤ n then
    (if p = [] then (z, false) else
     if i < half n then (node (up h i (half n) p.dropLast).1 (p.getLastD z), (up h i (half n) p.dropLast).2)
     else (node (p.getLastD z) (up h (i - half n) (n - half n) p.dropLast).1, (up h (i - half n) (n - half n) p.dropLast).2))
  else (h, p.length == 0)
termination_by n
decreasing_by all_goals (have := half_lt (n := n) (by assumption); have := half_pos n; omega)
def both (m n : Nat) (whole : Bool) (a : H) (s : Tkr) : (H × H) × Tkr :=
  if m = n then (if whole then ((a, a), s) else (((next z s).1, (next z s).1), (next z s).2))
  else if _ : 2 ≤ n then
    (if m ≤ half n then (((both m (half n) whole a s).1.1, node (both m (half n) whole a s).1.2 (next z (both m (half n) whole a s).2).1), (next z (both m (half n) whole a s).2).2)
     else ((node (next z (both (m - half n) (n - half n) false a s).2).1 (both (m - half n) (n - half n) false a s).1.1, node (next z (both (m - half n) (n - half n) false a s).2).1 (both (m - half n) (n - half n) false a s).1.2), (next z (both (m - half n) (n - half n) false a s).2).2))
  else ((a, a), s)
termination_by n
decreasing_by all_goals (have := half_lt (n := n) (by assumption); have := half_pos n; omega)
def ups (m n : Nat) (whole : Bool) (p : List H) (a : H) : (H × H) × Bool :=
  if m = n then (if whole then ((a, a), p.length == 0) else if p.length ≠ 1 then ((z, z), false) else ((p.getLastD z, p.getLastD z), true))
  else if _ : 2 ≤ n then
    (if p = [] then ((z, z), false) else
     if m ≤ half n then (((ups m (half n) whole p.dropLast a).1.1, node (ups m (half n) whole p.dropLast a).1.2 (p.getLastD z)), (ups m (half n) whole p.dropLast a).2)
     else ((node (p.getLastD z) (ups (m - half n) (n - half n) false p.dropLast a).1.1, node (p.getLastD z) (ups (m - half n) (n - half n) false p.dropLast a).1.2), (ups (m - half n) (n - half n) false p.dropLast a).2))
  else ((a, a), p.length == 0)
termination_by n
decreasing_by all_goals (have := half_lt (n := n) (by assumption); have := half_pos n; omega)
/-- How many hashes a path has. -/
def deep (i n : Nat) : Nat :=
  if _ : 2 ≤ n then (if i < half n then deep i (half n) + 1 else deep (i - half n) (n - half n) + 1) else 0
termination_by n
decreasing_by all_goals (have := half_lt (n := n) (by assumption); have := half_pos n; omega)
/-- How many hashes a consistency has. -/
def deep2 (m n : Nat) (whole : Bool) : Nat :=
  if m = n then (if whole then 0 else 1)
  else if _ : 2 ≤ n then (if m ≤ half n then deep2 m (half n) whole + 1 else deep2 (m - half n) (n - half n) false + 1) else 0
termination_by n
decreasing_by all_goals (have := half_lt (n := n) (by assumption); have := half_pos n; omega)
end

section
variable {node : H → H → H} {z : H}
theorem next_off (s : Tkr) (h : s.2 = false) : (next z s).2.2 = false := by
  obtain ⟨l, ok⟩ := s
  cases l <;> simp_all [next]
theorem last_app (p : List H) (x : H) : (p ++ [x]).getLastD z = x := by simp
theorem split_last {p : List H} (h : p ≠ []) : ∃ q x, p = q ++ [x] := ⟨p.dropLast, p.getLast h, (List.dropLast_concat_getLast h).symm⟩

/-- Of as many hashes as it wants. -/
theorem climb_exact : ∀ (n : Nat) (leaf : H) (i : Nat) (p r : List H) (ok : Bool), p.length = deep i n →
    climb node z leaf i n (p ++ r, ok) = ((up node z leaf i n p).1, (r, ok)) ∧ (up node z leaf i n p).2 = true := by
  intro n
  induction n using Nat.strongRecOn with
  | ind n ih =>
    intro leaf i p r ok hp
    rw [deep] at hp
    rw [climb, up]
    by_cases h2 : 2 ≤ n
    · have hk := half_lt h2
      have hkp := half_pos n
      rw [dif_pos h2] at hp ⊢
      rw [dif_pos h2]
      by_cases hi : i < half n
      · rw [if_pos hi] at hp ⊢
        have hne : p ≠ [] := by rintro rfl; simp at hp
        obtain ⟨q, x, rfl⟩ := split_last hne
        rw [if_neg hne, if_pos hi, last_app, List.dropLast_concat]
        obtain ⟨e1, e2⟩ := ih (half n) hk leaf i q (x :: r) ok (by simpa using hp)
        rw [List.append_assoc, List.singleton_append, e1]
        exact ⟨rfl, e2⟩
      · rw [if_neg hi] at hp ⊢
        have hne : p ≠ [] := by rintro rfl; simp at hp
        obtain ⟨q, x, rfl⟩ := split_last hne
        rw [if_neg hne, if_neg hi, last_app, List.dropLast_concat]
        obtain ⟨e1, e2⟩ := ih (n - half n) (by omega) leaf (i - half n) q (x :: r) ok (by simpa using hp)
        rw [List.append_assoc, List.singleton_append, e1]
        exact ⟨rfl, e2⟩
    · rw [dif_neg h2] at hp ⊢
      rw [dif_neg h2]
      have : p = [] := List.eq_nil_of_length_eq_zero hp
      subst this
      exact ⟨rfl, rfl⟩
/-- Of fewer. -/
theorem climb_short : ∀ (n : Nat) (leaf : H) (i : Nat) (p : List H) (ok : Bool), p.length < deep i n → (climb node z leaf i n (p, ok)).2.2 = false := by
  intro n
  induction n using Nat.strongRecOn with
  | ind n ih =>
    intro leaf i p ok hp
    have key : ∀ (i' n' : Nat), n' < n → p.length < deep i' n' + 1 → (next z (climb node z leaf i' n' (p, ok)).2).2.2 = false := by
      intro i' n' hn hp
      rcases Nat.lt_or_ge p.length (deep i' n') with h | h
      · exact next_off _ (ih n' hn leaf i' p ok h)
      · have e := (climb_exact (node := node) (z := z) n' leaf i' p [] ok (by omega)).1
        rw [List.append_nil] at e
        rw [e]; rfl
    rw [deep] at hp
    rw [climb]
    by_cases h2 : 2 ≤ n
    · have hk := half_lt h2
      have hkp := half_pos n
      rw [dif_pos h2] at hp ⊢
      by_cases hi : i < half n
      · rw [if_pos hi] at hp ⊢
        exact key i (half n) hk hp
      · rw [if_neg hi] at hp ⊢
        exact key _ _ (by omega) hp
    · rw [dif_neg h2] at hp; omega
theorem up_wrong : ∀ (n : Nat) (leaf : H) (i : Nat) (p : List H), p.length ≠ deep i n → (up node z leaf i n p).2 = false := by
  intro n
  induction n using Nat.strongRecOn with
  | ind n ih =>
    intro leaf i p hp
    rw [deep] at hp
    rw [up]
    by_cases h2 : 2 ≤ n
    · have hk := half_lt h2
      have hkp := half_pos n
      rw [dif_pos h2] at hp ⊢
      by_cases h0 : p = []
      · rw [if_pos h0]
      · rw [if_neg h0]
        obtain ⟨q, x, rfl⟩ := split_last h0
        rw [List.dropLast_concat]
        by_cases hi : i < half n
        · rw [if_pos hi] at hp ⊢
          exact ih (half n) hk leaf i q (by simpa using hp)
        · rw [if_neg hi] at hp ⊢
          exact ih (n - half n) (by omega) leaf _ q (by simpa using hp)
    · rw [dif_neg h2] at hp ⊢
      simpa using hp

variable (node z) in
/-- What Verify says. -/
def verT (leaf : H) (i n : Nat) (p : List H) (rt : H) : Bool := (climb node z leaf i n (p, true)).2.2 && ((climb node z leaf i n (p, true)).2.1.length == 0) && ((climb node z leaf i n (p, true)).1 == rt)
variable (node z) in
/-- What the document says. -/
def verR (leaf : H) (i n : Nat) (p : List H) (rt : H) : Bool := (up node z leaf i n p).2 && ((up node z leaf i n p).1 == rt)
theorem ver_eq (leaf : H) (i n : Nat) (p : List H) (rt : H) : verT node z leaf i n p rt = verR node z leaf i n p rt := by
  unfold verT verR
  rcases Nat.lt_trichotomy p.length (deep i n) with h | h | h
  · rw [climb_short n leaf i p true h, up_wrong n leaf i p (by omega)]; rfl
  · obtain ⟨e1, e2⟩ := climb_exact (node := node) (z := z) n leaf i p [] true h
    rw [List.append_nil] at e1
    rw [e1, e2]; rfl
  · obtain ⟨e1, e2⟩ := climb_exact (node := node) (z := z) n leaf i (p.take (deep i n)) (p.drop (deep i n)) true (by rw [List.length_take]; omega)
    rw [List.take_append_drop] at e1
    rw [e1, up_wrong n leaf i p (by omega)]
    have : ((p.drop (deep i n)).length == 0) = false := by rw [List.length_drop]; simp; omega
    rw [this]; rfl

theorem both_exact : ∀ (n m : Nat) (whole : Bool) (a : H) (p r : List H) (ok : Bool), p.length = deep2 m n whole →
    both node z m n whole a (p ++ r, ok) = ((ups node z m n whole p a).1, (r, ok)) ∧ (ups node z m n whole p a).2 = true := by
  intro n
  induction n using Nat.strongRecOn with
  | ind n ih =>
    intro m whole a p r ok hp
    rw [deep2] at hp
    rw [both, ups]
    by_cases hm : m = n
    · rw [if_pos hm] at hp ⊢
      rw [if_pos hm]
      cases whole with
      | true =>
        have : p = [] := List.eq_nil_of_length_eq_zero hp
        subst this
        exact ⟨rfl, rfl⟩
      | false =>
        obtain ⟨x, rfl⟩ := List.length_eq_one_iff.1 hp
        exact ⟨rfl, rfl⟩
    · rw [if_neg hm] at hp ⊢
      rw [if_neg hm]
      by_cases h2 : 2 ≤ n
      · have hk := half_lt h2
        have hkp := half_pos n
        rw [dif_pos h2] at hp ⊢
        rw [dif_pos h2]
        by_cases hi : m ≤ half n
        · rw [if_pos hi] at hp ⊢
          have hne : p ≠ [] := by rintro rfl; simp at hp
          obtain ⟨q, x, rfl⟩ := split_last hne
          rw [if_neg hne, if_pos hi, last_app, List.dropLast_concat]
          obtain ⟨e1, e2⟩ := ih (half n) hk m whole a q (x :: r) ok (by simpa using hp)
          rw [List.append_assoc, List.singleton_append, e1]
          exact ⟨rfl, e2⟩
        · rw [if_neg hi] at hp ⊢
          have hne : p ≠ [] := by rintro rfl; simp at hp
          obtain ⟨q, x, rfl⟩ := split_last hne
          rw [if_neg hne, if_neg hi, last_app, List.dropLast_concat]
          obtain ⟨e1, e2⟩ := ih (n - half n) (by omega) (m - half n) false a q (x :: r) ok (by simpa using hp)
          rw [List.append_assoc, List.singleton_append, e1]
          exact ⟨rfl, e2⟩
      · rw [dif_neg h2] at hp ⊢
        rw [dif_neg h2]
        have : p = [] := List.eq_nil_of_length_eq_zero hp
        subst this
        exact ⟨rfl, rfl⟩
theorem both_short : ∀ (n m : Nat) (whole : Bool) (a : H) (p : List H) (ok : Bool), p.length < deep2 m n whole → (both node z m n whole a (p, ok)).2.2 = false := by
  intro n
  induction n using Nat.strongRecOn with
  | ind n ih =>
    intro m whole a p ok hp
    have key : ∀ (m' n' : Nat) (wh : Bool), n' < n → p.length < deep2 m' n' wh + 1 → (next z (both node z m' n' wh a (p, ok)).2).2.2 = false := by
      intro m' n' wh hn hp
      rcases Nat.lt_or_ge p.length (deep2 m' n' wh) with h | h
      · exact next_off _ (ih n' hn m' wh a p ok h)
      · have e := (both_exact (node := node) (z := z) n' m' wh a p [] ok (by omega)).1
        rw [List.append_nil] at e
        rw [e]; rfl
    rw [deep2] at hp
    rw [both]
    by_cases hm : m = n
    · rw [if_pos hm] at hp ⊢
      cases whole with
      | true => simp at hp
      | false =>
        have : p = [] := List.eq_nil_of_length_eq_zero (by simpa using hp)
        subst this
        rfl
    · rw [if_neg hm] at hp ⊢
      by_cases h2 : 2 ≤ n
      · have hk := half_lt h2
        have hkp := half_pos n
        rw [dif_pos h2] at hp ⊢
        by_cases hi : m ≤ half n
        · rw [if_pos hi] at hp ⊢
          exact key m (half n) whole hk hp
        · rw [if_neg hi] at hp ⊢
          exact key _ _ false (by omega) hp
      · rw [dif_neg h2] at hp; omega
theorem ups_wrong : ∀ (n m : Nat) (whole : Bool) (p : List H) (a : H), p.length ≠ deep2 m n whole → (ups node z m n whole p a).2 = false := by
  intro n
  induction n using Nat.strongRecOn with
  | ind n ih =>
    intro m whole p a hp
    rw [deep2] at hp
    rw [ups]
    by_cases hm : m = n
    · rw [if_pos hm] at hp ⊢
      cases whole with
      | true => simpa using hp
      | false => rw [if_neg (by decide), if_pos (by simpa using hp)]
    · rw [if_neg hm] at hp ⊢
      by_cases h2 : 2 ≤ n
      · have hk := half_lt h2
        have hkp := half_pos n
        rw [dif_pos h2] at hp ⊢
        by_cases h0 : p = []
        · rw [if_pos h0]
        · rw [if_neg h0]
          obtain ⟨q, x, rfl⟩ := split_last h0
          rw [List.dropLast_concat]
          by_cases hi : m ≤ half n
          · rw [if_pos hi] at hp ⊢
            exact ih (half n) hk m whole q a (by simpa using hp)
          · rw [if_neg hi] at hp ⊢
            exact ih (n - half n) (by omega) _ false q a (by simpa using hp)
      · rw [dif_neg h2] at hp ⊢
        simpa using hp

variable (node z) in
/-- What VerifyConsist says. -/
def vconT (m n : Nat) (p : List H) (a b : H) : Bool := (both node z m n true a (p, true)).2.2 && ((both node z m n true a (p, true)).2.1.length == 0) && ((both node z m n true a (p, true)).1.1 == a) && ((both node z m n true a (p, true)).1.2 == b)
variable (node z) in
def vconR (m n : Nat) (p : List H) (a b : H) : Bool := (ups node z m n true p a).2 && ((ups node z m n true p a).1.1 == a) && ((ups node z m n true p a).1.2 == b)
theorem vcon_eq (m n : Nat) (p : List H) (a b : H) : vconT node z m n p a b = vconR node z m n p a b := by
  unfold vconT vconR
  rcases Nat.lt_trichotomy p.length (deep2 m n true) with h | h | h
  · rw [both_short n m true a p true h, ups_wrong n m true p a (by omega)]; rfl
  · obtain ⟨e1, e2⟩ := both_exact (node := node) (z := z) n m true a p [] true h
    rw [List.append_nil] at e1
    rw [e1, e2]; rfl
  · obtain ⟨e1, e2⟩ := both_exact (node := node) (z := z) n m true a (p.take (deep2 m n true)) (p.drop (deep2 m n true)) true (by rw [List.length_take]; omega)
    rw [List.take_append_drop] at e1
    rw [e1, ups_wrong n m true p a (by omega)]
    have : ((p.drop (deep2 m n true)).length == 0) = false := by rw [List.length_drop]; simp; omega
    rw [this]; rfl
end

end Mk
end Go.Proofs.YtfdgclnjpbkggaaDoor
