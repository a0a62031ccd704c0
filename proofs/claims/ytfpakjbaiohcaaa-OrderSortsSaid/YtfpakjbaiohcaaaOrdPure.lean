/- Chapter 8: what is above all texts that begin with one; no program in sight. -/
import Derived.WideShapes
import Derived.Laws.Strings
import GoSem.Op.String
namespace Go.Proofs.Ytfpakjbaiohcaaa
namespace Ord
open Go.Op

/-- A text without the bytes 255 at its end. -/
def strip : List UInt8 → List UInt8
  | [] => []
  | a :: r => match strip r with
    | [] => if a = 255 then [] else [a]
    | b :: q => a :: b :: q
/-- The last byte one more. -/
def bump : List UInt8 → List UInt8
  | [] => []
  | [a] => [a + 1]
  | a :: b :: r => a :: bump (b :: r)
theorem strip_cons (a : UInt8) (r : List UInt8) : strip (a :: r) = match strip r with | [] => if a = 255 then [] else [a] | b :: q => a :: b :: q := rfl
theorem strip_nil : ∀ {s : List UInt8}, strip s = [] → ∀ x ∈ s, x = 255
  | [], _, x, hx => (List.not_mem_nil hx).elim
  | a :: r, h, x, hx => by
    rw [strip_cons] at h
    cases hr : strip r with
    | nil =>
      rw [hr] at h
      simp only at h
      have ha : a = 255 := by
        by_cases ha : a = 255
        · exact ha
        · rw [if_neg ha] at h; cases h
      rcases List.mem_cons.1 hx with e | e
      · rw [e]; exact ha
      · exact strip_nil hr x e
    | cons b q => rw [hr] at h; cases h
theorem less_bump_top {a : UInt8} (ha : ¬ a = 255) : a < a + 1 := by
  have h1 : a.toNat < 256 := a.toNat_lt
  have h2 : ¬ a.toNat = 255 := fun e => ha (UInt8.toNat.inj e)
  rw [UInt8.lt_iff_toNat_lt, UInt8.toNat_add]
  simp
  omega
/-- What begins with a text is below what is above it. -/
theorem below_above : ∀ {s : List UInt8} (m : List UInt8), strip s ≠ [] → bytesLess (s ++ m) (bump (strip s)) = true
  | [], m, h => (h rfl).elim
  | a :: r, m, h => by
    rw [strip_cons] at h ⊢
    cases hr : strip r with
    | nil =>
      rw [hr] at h
      simp only at h ⊢
      by_cases ha : a = 255
      · rw [if_pos ha] at h; exact (h rfl).elim
      · rw [if_neg ha]
        show (decide (a < a + 1) || _) = true
        rw [decide_eq_true (less_bump_top ha)]; rfl
    | cons b q =>
      have ih := below_above (s := r) m (by rw [hr]; intro h; cases h)
      rw [hr] at ih
      show (decide (a < a) || (a == a && bytesLess (r ++ m) (bump (b :: q)))) = true
      rw [ih]; simp
/-- Nothing is above a row of bytes 255. -/
theorem all_top : ∀ {s : List UInt8} (o : List UInt8), strip s = [] → bytesLess o s = true ∨ s <+: o
  | [], o, _ => .inr (List.nil_prefix)
  | a :: r, o, h => by
    have ha : a = 255 := strip_nil h a List.mem_cons_self
    have hr : strip r = [] := by
      rw [strip_cons] at h
      cases hr : strip r with
      | nil => rfl
      | cons b q => rw [hr] at h; cases h
    cases o with
    | nil => exact .inl rfl
    | cons c o =>
      by_cases hc : c = a
      · subst hc
        rcases all_top o hr with h1 | h1
        · left
          show (decide (c < c) || (c == c && bytesLess o r)) = true
          rw [h1]; simp
        · exact .inr (List.cons_prefix_cons.2 ⟨rfl, h1⟩)
      · left
        have hlt : c < a := by
          have h1 : c.toNat < 256 := c.toNat_lt
          have h2 : ¬ c.toNat = a.toNat := fun e => hc (UInt8.toNat.inj e)
          rw [UInt8.lt_iff_toNat_lt]
          rw [ha] at h2 ⊢
          simp at h2 ⊢
          omega
        show (decide (c < a) || _) = true
        rw [decide_eq_true hlt]; rfl
/-- What is below what is above a text is below that text, or begins with it. -/
theorem between : ∀ {s : List UInt8} (o : List UInt8), strip s ≠ [] → bytesLess o (bump (strip s)) = true → bytesLess o s = true ∨ s <+: o
  | [], o, h, _ => (h rfl).elim
  | a :: r, o, h, hl => by
    cases o with
    | nil => exact .inl rfl
    | cons c o =>
      rw [strip_cons] at h hl
      cases hr : strip r with
      | nil =>
        rw [hr] at h hl
        simp only at h hl
        by_cases ha : a = 255
        · rw [if_pos ha] at h; exact (h rfl).elim
        · rw [if_neg ha] at hl
          have hl' : (decide (c < a + 1) || (c == a + 1 && bytesLess o [])) = true := hl
          have e0 : bytesLess o [] = false := by cases o <;> rfl
          rw [e0] at hl'
          simp at hl'
          by_cases hc : c = a
          · subst hc
            rcases all_top o hr with h1 | h1
            · left
              show (decide (c < c) || (c == c && bytesLess o r)) = true
              rw [h1]; simp
            · exact .inr (List.cons_prefix_cons.2 ⟨rfl, h1⟩)
          · left
            have hlt : c < a := by
              have h1 : a.toNat < 256 := a.toNat_lt
              have h2 : ¬ c.toNat = a.toNat := fun e => hc (UInt8.toNat.inj e)
              have h3 : ¬ a.toNat = 255 := fun e => ha (UInt8.toNat.inj e)
              rw [UInt8.lt_iff_toNat_lt] at hl' ⊢
              rw [UInt8.toNat_add] at hl'
              simp at hl'
              omega
            show (decide (c < a) || _) = true
            rw [decide_eq_true hlt]; rfl
      | cons b q =>
        rw [hr] at hl
        have hl' : (decide (c < a) || (c == a && bytesLess o (bump (b :: q)))) = true := hl
        by_cases hlt : c < a
        · left
          show (decide (c < a) || _) = true
          rw [decide_eq_true hlt]; rfl
        · rw [decide_eq_false hlt] at hl'
          simp only [Bool.false_or, Bool.and_eq_true, beq_iff_eq] at hl'
          obtain ⟨hc, hl2⟩ := hl'
          subst hc
          rcases between (s := r) o (by rw [hr]; intro h; cases h) (by rw [hr]; exact hl2) with h1 | h1
          · left
            show (decide (c < c) || (c == c && bytesLess o r)) = true
            rw [h1]; simp
          · exact .inr (List.cons_prefix_cons.2 ⟨rfl, h1⟩)

theorem strip_top : ∀ (l : List UInt8), strip (l ++ [255]) = strip l
  | [] => rfl
  | a :: r => by
    show strip (a :: (r ++ [255])) = _
    rw [strip_cons, strip_cons, strip_top r]
theorem strip_low : ∀ (l : List UInt8) {c : UInt8}, ¬ c = 255 → strip (l ++ [c]) = l ++ [c]
  | [], c, h => by show strip [c] = [c]; rw [strip_cons]; show (if c = 255 then [] else [c]) = [c]; rw [if_neg h]
  | a :: r, c, h => by
    show strip (a :: (r ++ [c])) = _
    rw [strip_cons, strip_low r h]
    cases r <;> rfl
theorem bump_end : ∀ (l : List UInt8) (c : UInt8), bump (l ++ [c]) = l ++ [c + 1]
  | [], c => rfl
  | [a], c => rfl
  | a :: b :: r, c => by
    show a :: bump ((b :: r) ++ [c]) = _
    rw [bump_end (b :: r) c]
    rfl
theorem list_split {t : ByteArray} {k : Nat} (hk : t.size = k + 1) : t.toList = (t.extract 0 k).toList ++ [t[k]'(by omega)] := by
  rw [ByteArray.toList_eq, ByteArray.toList_eq]
  have h1 : (t.extract 0 k).data = t.data.extract 0 k := by simp [ByteArray.data_extract]
  rw [h1]
  have hs : t.data.toList.length = k + 1 := by rw [Array.length_toList]; exact hk
  have h2 : (t.data.extract 0 k).toList = t.data.toList.take k := by simp
  rw [h2]
  have h3 : t[k]'(by omega) = t.data.toList[k]'(by omega) := by rfl
  rw [h3, List.take_append_getElem]
  exact (List.take_of_length_le (by omega)).symm
theorem list_empty {t : ByteArray} (h : t.size = 0) : t.toList = [] := by
  rw [ByteArray.toList_eq]
  exact List.eq_nil_of_length_eq_zero (by rw [Array.length_toList]; exact h)

end Ord
end Go.Proofs.Ytfpakjbaiohcaaa
