/- Values' keys (chapter 8): what they are; no program in sight. -/
import Derived.Test.YtfpakjbaiohcaaaVal
import Derived.Test.YtfpakjbaiohcaaaOrdNp
namespace Go.Proofs.Ytfpakjbaiohcaaa
namespace K
/-- A value's class. -/
def classI (k : Int) : Int := if k ≤ 2 then 16 * k else if k ≤ 4 then 48 else 16 * (k - 1)
/-- Four bytes, the greatest first. -/
def shortI (v : Int) : List Int := [v / 16777216 % 256, v / 65536 % 256, v / 256 % 256, v % 256]
/-- Eight bytes. -/
def bigI (v : Int) : List Int := shortI (v / 4294967296) ++ shortI (v % 4294967296)
/-- A text's bytes, but for its end. -/
def textP : List UInt8 → List Int
  | [] => []
  | c :: r => if c = 0 then 0 :: 255 :: textP r else (c.toNat : Int) :: textP r
def textK (s : List UInt8) : List Int := textP s ++ [0, 0]
theorem textP_snoc (l : List UInt8) (c : UInt8) : textP (l ++ [c]) = textP l ++ if c = 0 then [0, 255] else [(c.toNat : Int)] := by
  induction l with
  | nil => rw [List.nil_append, textP]; split <;> simp_all [textP]
  | cons a l ih => rw [List.cons_append, textP, ih, textP]; by_cases h : a = 0 <;> simp [h]
theorem textP_le (l : List UInt8) : (textP l).length ≤ 2 * l.length := by
  induction l with
  | nil => simp [textP]
  | cons a l ih => rw [textP]; split <;> simp <;> omega
theorem textP_app (l m : List UInt8) : textP (l ++ m) = textP l ++ textP m := by
  induction l with
  | nil => rfl
  | cons a l ih => rw [List.cons_append, textP, ih, textP]; split <;> simp

/-- The bytes of what stands at a place of a List or Struct. -/
def pieceK (ky : V → List Int) (st : Bool) (names : List ByteArray) (kids : List V) (j : Nat) : List Int :=
  (if st then 1 :: textK (names.getD j noT).toList else []) ++ ky (kids.getD j noV)
/-- A value's key, so many levels deep. -/
def keyV : Nat → V → List Int
  | 0, _ => []
  | m + 1, v => classI v.k ::
    (if v.k = 2 then [v.n] else if v.k = 3 ∨ v.k = 4 then numB v.n v.s else if v.k = 5 then bigI v.n else if v.k = 6 ∨ v.k = 7 then textK v.t.toList
     else if v.k = 8 ∨ v.k = 9 then (List.range v.kids.length).flatMap (pieceK (keyV m) (decide (v.k = 9)) v.names v.kids) ++ [0] else [])
/-- The key of values. -/
def keysV (m : Nat) (l : List V) : List Int := l.flatMap (keyV m)

theorem range_piece (g : Nat → List Int) (i : Nat) : (List.range (i + 1)).flatMap g = (List.range i).flatMap g ++ g i := by
  rw [List.range_succ, List.flatMap_append]; simp
theorem range_len_le (g : Nat → List Int) {i n : Nat} (h : i ≤ n) : ((List.range i).flatMap g).length ≤ ((List.range n).flatMap g).length := by
  induction n with
  | zero => obtain rfl : i = 0 := by omega
            exact Nat.le_refl _
  | succ n ih =>
    rcases Nat.lt_or_ge n i with h' | h'
    · obtain rfl : i = n + 1 := by omega
      exact Nat.le_refl _
    · rw [range_piece, List.length_append]; have := ih h'; omega
/-- What a value's form is, by its kind. -/
theorem shp_form {v : V} (h : shp v = 0) : (1 ≤ v.k ∧ v.k ≤ 9) ∧ (v.k = 2 → 0 ≤ v.n ∧ v.n ≤ 1) ∧ (v.k = 3 → v.s = 0) ∧ (v.k = 4 → 1 ≤ v.s ∧ v.s ≤ 18 ∧ ¬ v.n.tmod 10 = 0) ∧ (v.k = 5 → 0 ≤ v.n ∧ v.n ≤ 9007199254740992) ∧
    v.kids.length ≤ 200 ∧ v.t.size ≤ 16384 ∧ (v.k = 9 → v.names.length = v.kids.length ∧ ∀ s ∈ v.names, s.size ≤ 40) := by
  unfold shp at h
  by_cases h1 : formB v = false
  · rw [if_pos h1] at h; cases h
  rw [if_neg h1] at h
  by_cases h2 : 16384 < v.t.size ∨ 200 < v.kids.length
  · rw [if_pos h2] at h; cases h
  rw [if_neg h2] at h
  by_cases h3 : v.k = 9 ∧ fieldsB v = false
  · rw [if_pos h3] at h; cases h
  have hf : formB v = true := by simpa using h1
  clear h h1
  refine ⟨?_, ?_, ?_, ?_, ?_, by omega, by omega, ?_⟩
  · unfold formB at hf
    by_cases a1 : v.k = 1
    · omega
    by_cases a2 : v.k = 2
    · omega
    by_cases a3 : v.k = 3
    · omega
    by_cases a4 : v.k = 4
    · omega
    by_cases a5 : v.k = 5
    · omega
    by_cases a6 : v.k = 6 ∨ v.k = 7
    · omega
    by_cases a8 : v.k = 8
    · omega
    by_cases a9 : v.k = 9
    · omega
    rw [if_neg a1, if_neg a2, if_neg a3, if_neg a4, if_neg a5, if_neg a6, if_neg a8, if_neg a9] at hf
    cases hf
  · intro e; unfold formB at hf; simp [e] at hf; omega
  · intro e; unfold formB at hf; simp [e] at hf; omega
  · intro e; unfold formB at hf; simp [e] at hf; exact ⟨hf.1.1.1.1, hf.1.1.1.2, hf.1.1.2⟩
  · intro e; unfold formB at hf; simp [e] at hf; omega
  · intro e
    have h4 : fieldsB v = true := by
      cases hb : fieldsB v with
      | true => rfl
      | false => exact (h3 ⟨e, hb⟩).elim
    unfold fieldsB at h4
    simp only [Bool.and_eq_true, List.all_eq_true, decide_eq_true_eq] at h4
    refine ⟨h4.2, fun s hs => ?_⟩
    have := h4.1.1 s hs
    unfold isNameB at this
    simp at this
    omega
end K
end Go.Proofs.Ytfpakjbaiohcaaa
