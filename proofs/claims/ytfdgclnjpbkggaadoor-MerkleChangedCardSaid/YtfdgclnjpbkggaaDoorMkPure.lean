/- Trees of digests, with no program in sight: halves, roots, what a tree's map holds. -/
import Derived.Test.YtfdgclnjpbkggaaDoorMapF
namespace Go.Proofs.YtfdgclnjpbkggaaDoor
open Go.RowKit
namespace Mk

/-- A digest. -/
abbrev H := List Int

/-- The greatest power of two below n (n above 1). -/
def half (n : Nat) : Nat := 2 ^ Nat.log2 (n - 1)
theorem half_pos (n : Nat) : 0 < half n := Nat.pow_pos (by decide)
theorem half_lt {n : Nat} (h : 2 ≤ n) : half n < n := by
  have := Nat.log2_self_le (n := n - 1) (by omega)
  unfold half; omega
theorem half_ge {n : Nat} (h : 2 ≤ n) : n ≤ 2 * half n := by
  have := Nat.lt_log2_self (n := n - 1)
  unfold half
  rw [Nat.pow_succ] at this
  omega
theorem half_eq {n j : Nat} (h1 : 2 ^ j < n) (h2 : n ≤ 2 ^ (j + 1)) : half n = 2 ^ j := by
  have hp : 0 < 2 ^ j := Nat.pow_pos (by decide)
  have : Nat.log2 (n - 1) = j := (Nat.log2_eq_iff (by omega)).2 ⟨by omega, by omega⟩
  unfold half; rw [this]
theorem half_pow (j : Nat) : half (2 ^ (j + 1)) = 2 ^ j := by
  have hp : 0 < 2 ^ j := Nat.pow_pos (by decide)
  exact half_eq (by rw [Nat.pow_succ]; omega) (Nat.le_refl _)

/-- n digests from one on. -/
def seg (l : List H) (f n : Nat) : List H := (l.drop f).take n
theorem seg_len {l : List H} {f n : Nat} (h : f + n ≤ l.length) : (seg l f n).length = n := by
  unfold seg; rw [List.length_take, List.length_drop]; omega
theorem seg_all (l : List H) : seg l 0 l.length = l := by simp [seg]
theorem seg_left {l : List H} {f n : Nat} (h : f + n ≤ l.length) (r : List H) : seg (l ++ r) f n = seg l f n := by
  unfold seg
  rw [List.drop_append_of_le_length (by omega), List.take_append_of_le_length (by rw [List.length_drop]; omega)]
theorem seg_take {l : List H} {f n k : Nat} (h : k ≤ n) : (seg l f n).take k = seg l f k := by
  unfold seg; rw [List.take_take, Nat.min_eq_left h]
theorem seg_drop {l : List H} {f n k : Nat} : (seg l f n).drop k = seg l (f + k) (n - k) := by
  unfold seg; rw [List.drop_take, List.drop_drop]
theorem seg_take_of {l : List H} {f n m : Nat} (h : f + n ≤ m) : seg (l.take m) f n = seg l f n := by
  unfold seg; rw [List.drop_take, List.take_take, Nat.min_eq_left (by omega)]
theorem seg_one {l : List H} {f : Nat} (h : f < l.length) : seg l f 1 = [l.getD f []] := by
  unfold seg
  rw [List.drop_eq_getElem_cons h, List.take_succ_cons, List.take_zero]
  simp [h]

section
variable (node : H → H → H) (none : H)
/-- The root of leaves. -/
def root (l : List H) : H :=
  if _ : 2 ≤ l.length then node (root (l.take (half l.length))) (root (l.drop (half l.length))) else match l with | [] => none | a :: _ => a
termination_by l.length
decreasing_by
  · rename_i h; rw [List.length_take]; have := half_lt h; omega
  · rename_i h; rw [List.length_drop]; have := half_pos l.length; omega
end

section
variable {node : H → H → H} {none : H}
theorem root_nil : root node none [] = none := by rw [root]; simp
theorem root_one (a : H) : root node none [a] = a := by rw [root]; simp
theorem root_two {l : List H} (h : 2 ≤ l.length) : root node none l = node (root node none (l.take (half l.length))) (root node none (l.drop (half l.length))) := by rw [root, dif_pos h]
theorem root_seg {l : List H} {f n : Nat} (h : 2 ≤ n) (hl : f + n ≤ l.length) : root node none (seg l f n) = node (root node none (seg l f (half n))) (root node none (seg l (f + half n) (n - half n))) := by
  have e := seg_len hl
  rw [root_two (by omega), e, seg_take (by have := half_lt h; omega), seg_drop]
theorem root_seg1 {l : List H} {f : Nat} (h : f < l.length) : root node none (seg l f 1) = l.getD f [] := by rw [seg_one h, root_one]
theorem root_double {l : List H} {f j : Nat} (hl : f + 2 ^ (j + 1) ≤ l.length) : root node none (seg l f (2 ^ (j + 1))) = node (root node none (seg l f (2 ^ j))) (root node none (seg l (f + 2 ^ j) (2 ^ j))) := by
  have hp : 0 < 2 ^ j := Nat.pow_pos (by decide)
  have e : 2 ^ (j + 1) - 2 ^ j = 2 ^ j := by rw [Nat.pow_succ]; omega
  rw [root_seg (by rw [Nat.pow_succ]; omega) hl, half_pow, e]

/-- A digest's value. -/
def hv (h : H) : Value := .agg (h.map (Value.int .u8)).toArray
theorem hv_inj {a b : H} (h : hv a = hv b) : a = b := by
  unfold hv at h
  injection h with h
  have h2 : a.map (Value.int .u8) = b.map (Value.int .u8) := by simpa using h
  exact (List.map_inj_right (fun x y e => by injection e)).1 h2

variable (node none) in
/-- What the map of a tree of leaves holds: by level and place. -/
def wholeF (l : List H) (x : Int × Int) : Option Value :=
  if 0 ≤ x.1 ∧ 0 ≤ x.2 ∧ (x.2.toNat + 1) * 2 ^ x.1.toNat ≤ l.length then some (hv (root node none (seg l (x.2.toNat * 2 ^ x.1.toNat) (2 ^ x.1.toNat)))) else Option.none
theorem wholeF_nil (x : Int × Int) : wholeF node none [] x = Option.none := by
  unfold wholeF
  rw [if_neg]
  rintro ⟨-, -, h⟩
  have : 0 < (x.2.toNat + 1) * 2 ^ x.1.toNat := Nat.mul_pos (by omega) (Nat.pow_pos (by decide))
  simp at h; omega
theorem wholeF_at {l : List H} {j p : Nat} (h : (p + 1) * 2 ^ j ≤ l.length) : wholeF node none l ((j : Int), (p : Int)) = some (hv (root node none (seg l (p * 2 ^ j) (2 ^ j)))) := by
  unfold wholeF
  rw [if_pos ⟨by simp, by simp, by simpa using h⟩]
  simp
/-- One more leaf: what was whole is as it was. -/
theorem wholeF_old {l : List H} {h : H} {x : Int × Int} (hx : ¬ (0 ≤ x.1 ∧ 0 ≤ x.2 ∧ (x.2.toNat + 1) * 2 ^ x.1.toNat = l.length + 1)) : wholeF node none (l ++ [h]) x = wholeF node none l x := by
  unfold wholeF
  by_cases h1 : 0 ≤ x.1 ∧ 0 ≤ x.2 ∧ (x.2.toNat + 1) * 2 ^ x.1.toNat ≤ l.length
  · obtain ⟨a, b, c⟩ := h1
    have c2 : (x.2.toNat + 1) * 2 ^ x.1.toNat ≤ (l ++ [h]).length := by rw [List.length_append]; omega
    rw [if_pos (show 0 ≤ x.1 ∧ 0 ≤ x.2 ∧ (x.2.toNat + 1) * 2 ^ x.1.toNat ≤ l.length from ⟨a, b, c⟩), if_pos ⟨a, b, c2⟩]
    rw [seg_left]
    have : x.2.toNat * 2 ^ x.1.toNat + 2 ^ x.1.toNat = (x.2.toNat + 1) * 2 ^ x.1.toNat := by rw [Nat.add_mul, Nat.one_mul]
    omega
  · rw [if_neg h1, if_neg]
    rintro ⟨a, b, c⟩
    simp only [List.length_append, List.length_cons, List.length_nil] at c
    exact (by
      by_cases e : (x.2.toNat + 1) * 2 ^ x.1.toNat = l.length + 1
      · exact hx ⟨a, b, e⟩
      · exact h1 ⟨a, b, by omega⟩)

variable (node none) in
/-- The map while a leaf comes in: up to the level j it is as it will be. -/
def stepF (l : List H) (h : H) (j : Nat) (x : Int × Int) : Option Value := if x.1 ≤ j then wholeF node none (l ++ [h]) x else wholeF node none l x
theorem stepF_zero {l : List H} {h : H} (x : Int × Int) : mfPut (wholeF node none l) (((0 : Nat) : Int), (l.length : Int)) (hv h) x = stepF node none l h 0 x := by
  unfold stepF mfPut
  by_cases e : x = (((0 : Nat) : Int), (l.length : Int))
  · subst e
    rw [if_pos rfl, if_pos (by simp), wholeF_at (by simp)]
    have e1 : l.length * 2 ^ 0 = l.length := by simp
    have e2 : 2 ^ 0 = 1 := rfl
    rw [e1, e2, root_seg1 (by simp)]
    simp
  · rw [if_neg e]
    by_cases h0 : x.1 ≤ ((0 : Nat) : Int)
    · rw [if_pos h0, wholeF_old]
      rintro ⟨a, b, c⟩
      apply e
      have e0 : x.1 = 0 := by omega
      rw [e0] at c
      simp at c
      exact Prod.ext (by simpa using e0) (by show x.2 = _; omega)
    · rw [if_neg h0]
/-- The leaves' count is p places of the level j, and full: the next level's place is full too. -/
theorem stepF_succ {l : List H} {h : H} {j p : Nat} (hp : (2 * p + 1 + 1) * 2 ^ j = l.length + 1) (x : Int × Int) :
    mfPut (stepF node none l h j) (((j + 1 : Nat) : Int), (p : Int)) (hv (root node none (seg (l ++ [h]) (p * 2 ^ (j + 1)) (2 ^ (j + 1))))) x = stepF node none l h (j + 1) x := by
  have hp2 : (p + 1) * 2 ^ (j + 1) = l.length + 1 := by
    rw [← hp, Nat.pow_succ, Nat.mul_comm (2 ^ j) 2, ← Nat.mul_assoc]
    congr 1; omega
  show (if x = (((j + 1 : Nat) : Int), (p : Int)) then some (hv (root node none (seg (l ++ [h]) (p * 2 ^ (j + 1)) (2 ^ (j + 1))))) else stepF node none l h j x) = _
  unfold stepF
  by_cases e : x = (((j + 1 : Nat) : Int), (p : Int))
  · subst e
    rw [if_pos rfl, if_pos (by simp), wholeF_at (by simp; omega)]
  · rw [if_neg e]
    by_cases h0 : x.1 ≤ (j : Int)
    · rw [if_pos h0, if_pos (by omega)]
    · rw [if_neg h0]
      by_cases h1 : x.1 ≤ ((j + 1 : Nat) : Int)
      · rw [if_pos h1, wholeF_old]
        rintro ⟨a, b, c⟩
        apply e
        have e0 : x.1 = ((j + 1 : Nat) : Int) := by omega
        rw [e0] at c
        have e1 : ((j + 1 : Nat) : Int).toNat = j + 1 := by omega
        rw [e1, ← hp2] at c
        have := Nat.eq_of_mul_eq_mul_right (Nat.pow_pos (by decide) : 0 < 2 ^ (j + 1)) c
        exact Prod.ext e0 (by show x.2 = _; omega)
      · rw [if_neg h1]
/-- At an even place it is done. -/
theorem stepF_done {l : List H} {h : H} {j p : Nat} (hp : (2 * p + 1) * 2 ^ j = l.length + 1) (x : Int × Int) : stepF node none l h j x = wholeF node none (l ++ [h]) x := by
  unfold stepF
  by_cases h0 : x.1 ≤ (j : Int)
  · rw [if_pos h0]
  · rw [if_neg h0, wholeF_old]
    rintro ⟨a, b, c⟩
    obtain ⟨m, hm⟩ : ∃ m, x.1.toNat = j + 1 + m := ⟨x.1.toNat - (j + 1), by omega⟩
    rw [hm, ← hp] at c
    have e : 2 ^ (j + 1 + m) = 2 ^ j * (2 * 2 ^ m) := by
      rw [Nat.pow_add, Nat.pow_succ]; simp [Nat.mul_assoc]
    rw [e, Nat.mul_comm (2 * p + 1), Nat.mul_left_comm] at c
    have := Nat.eq_of_mul_eq_mul_left (Nat.pow_pos (by decide) : 0 < 2 ^ j) c
    have : (x.2.toNat + 1) * (2 * 2 ^ m) = 2 * ((x.2.toNat + 1) * 2 ^ m) := by rw [Nat.mul_left_comm]
    omega

/-- A place that a half may have. -/
def Al (f n : Nat) : Prop := ∃ e, n ≤ 2 ^ e ∧ 2 ^ e ∣ f
theorem al_zero (n : Nat) : Al 0 n := ⟨n, Nat.le_of_lt Nat.lt_two_pow_self, Nat.dvd_zero _⟩
theorem al_left {f n : Nat} (h : Al f n) (h2 : 2 ≤ n) : Al f (half n) := by
  obtain ⟨e, h1, hd⟩ := h
  exact ⟨e, Nat.le_trans (Nat.le_of_lt (half_lt h2)) h1, hd⟩
theorem al_right {f n : Nat} (h : Al f n) (h2 : 2 ≤ n) : Al (f + half n) (n - half n) := by
  obtain ⟨e, h1, hd⟩ := h
  have h3 : Nat.log2 (n - 1) < e := by
    have := Nat.log2_self_le (n := n - 1) (by omega)
    exact (Nat.pow_lt_pow_iff_right (a := 2) (by decide)).1 (by omega)
  refine ⟨Nat.log2 (n - 1), ?_, ?_⟩
  · have := half_ge h2
    show n - half n ≤ half n
    omega
  · refine Nat.dvd_add (Nat.dvd_trans (Nat.pow_dvd_pow 2 (Nat.le_of_lt h3)) hd) (Nat.dvd_refl _)
theorem al_pow {f j : Nat} (h : Al f (2 ^ j)) : 2 ^ j ∣ f := by
  obtain ⟨e, h1, hd⟩ := h
  exact Nat.dvd_trans (Nat.pow_dvd_pow 2 ((Nat.pow_le_pow_iff_right (by decide)).1 h1)) hd
end
end Mk
end Go.Proofs.YtfdgclnjpbkggaaDoor
