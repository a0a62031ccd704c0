/- digest: digests out of digits: what both functions reckon. -/
import Derived.Test.YtokdbdebmlpdaaaDigHex
import Derived.Test.YtokdbdebmlpdaaaDigKnown
import Derived.Laws.BitsAllLaws
namespace Go.Proofs.Ytokdbdebmlpdaaa
open Go.RowKit
namespace Dig

/-- The bytes of a string. -/
def strI (s : ByteArray) : List Int := s.data.toList.map fun b => (b.toNat : Int)
theorem strI_length (s : ByteArray) : (strI s).length = s.size := by
  unfold strI; rw [List.length_map, Array.length_toList]; rfl
theorem strI_nth (s : ByteArray) (i : Nat) (h : i < s.size) : nth (strI s) i = ((s[i]'h).toNat : Int) := by
  have h' : i < s.data.size := h
  have e : (s.data.toList)[i]? = some (s[i]'h) := by
    rw [Array.getElem?_toList, Array.getElem?_eq_getElem h']; rfl
  simp [nth, strI, List.getD, List.getElem?_map, e]
theorem strI_range (s : ByteArray) (i : Nat) (h : i < s.size) : 0 ≤ nth (strI s) i ∧ nth (strI s) i ≤ 255 := by
  rw [strI_nth s i h]
  have := (s[i]'h).toNat_lt
  omega
theorem strI_nums (l : List Int) (hl : ∀ x ∈ l, 0 ≤ x ∧ x ≤ 255) : strI (strOfNums l) = l := by
  unfold strI
  rw [strOfNums_data, List.map_map]
  conv => rhs; rw [← List.map_id l]
  apply List.map_congr_left
  intro x hx
  have := hl x hx
  simp only [Function.comp, id]
  rw [UInt8.toNat_ofNat']
  omega

/-- A digit, and what it says. -/
def isDig (c : Int) : Prop := (48 ≤ c ∧ c ≤ 57) ∨ (97 ≤ c ∧ c ≤ 102)
instance (c : Int) : Decidable (isDig c) := by unfold isDig; infer_instance
def dv (c : Int) : Int := if c ≤ 57 then c - 48 else c - 97 + 10
theorem dv_range (c : Int) (h : isDig c) : 0 ≤ dv c ∧ dv c ≤ 15 := by
  unfold isDig at h; unfold dv; split <;> omega
/-- The bytes after n digits. -/
def fh (l : List Int) : Nat → List Int
  | 0 => Z32
  | n + 1 => (fh l n).set (n / 2) (nth (fh l n) (n / 2) * 16 + dv (nth l n))
theorem fh_length (l : List Int) (n : Nat) : (fh l n).length = 32 := by
  induction n with
  | zero => rfl
  | succ n ih => rw [fh, List.length_set, ih]
theorem z32_nth (i : Nat) : nth Z32 i = 0 := by
  unfold nth
  by_cases h : i < 32
  · have : ∀ i, i < 32 → Z32.getD i 0 = 0 := by decide
    exact this i h
  · have : Z32[i]? = none := List.getElem?_eq_none (by have : Z32.length = 32 := rfl; omega)
    simp [List.getD, this]
/-- What lies in the bytes after n digits. -/
theorem fh_at (l : List Int) (n : Nat) (hn : n ≤ 64) (j : Nat) :
    nth (fh l n) j = if 2 * j + 1 < n then dv (nth l (2 * j)) * 16 + dv (nth l (2 * j + 1)) else if 2 * j < n then dv (nth l (2 * j)) else 0 := by
  induction n with
  | zero => rw [fh, z32_nth]; simp
  | succ n ih =>
    have ih' := ih (by omega)
    rw [fh]
    by_cases hj : j = n / 2
    · subst hj
      rw [nth_set_eq _ _ _ (by rw [fh_length]; omega), ih']
      by_cases he : n % 2 = 0
      · rw [if_neg (by omega), if_neg (by omega), if_neg (by omega), if_pos (by omega), show 2 * (n / 2) = n by omega]
        omega
      · rw [if_neg (by omega), if_pos (by omega), if_pos (by omega), show 2 * (n / 2) + 1 = n by omega]
    · rw [nth_set_ne _ _ _ _ hj, ih']
      by_cases h1 : 2 * j + 1 < n
      · rw [if_pos h1, if_pos (by omega)]
      · rw [if_neg h1, if_neg (by omega)]
        by_cases h2 : 2 * j < n
        · omega
        · rw [if_neg (by omega), if_neg (by omega)]
theorem fh_low (l : List Int) (n : Nat) (hn : n < 64) (hl : ∀ j, j < n → isDig (nth l j)) : 0 ≤ nth (fh l n) (n / 2) ∧ nth (fh l n) (n / 2) ≤ 15 := by
  rw [fh_at l n (by omega)]
  rw [if_neg (by omega)]
  by_cases h : 2 * (n / 2) < n
  · rw [if_pos h]; exact dv_range _ (hl _ h)
  · rw [if_neg h]; omega
theorem or_low (x n : Int) (h0 : 0 ≤ x) (h1 : x ≤ 15) (h2 : 0 ≤ n) (h3 : n ≤ 15) : bits .or .u8 (x * 16) n = x * 16 + n := by
  rw [u8_or _ _ (by omega) (by omega) (by omega) (by omega)]
  have key : ∀ a b : Fin 16, (a.val * 16 ||| b.val) = a.val * 16 + b.val := by decide
  have := key ⟨x.toNat, by omega⟩ ⟨n.toNat, by omega⟩
  simp only at this
  rw [show (x * 16).toNat = x.toNat * 16 by omega, this]
  omega

/-- What comes of the digits l. -/
def goodHex (l : List Int) : Prop := l.length = 64 ∧ ∀ j, j < 64 → isDig (nth l j)
instance (l : List Int) : Decidable (goodHex l) := by unfold goodHex; infer_instance
def resL (l : List Int) : List Int := if goodHex l then fh l 64 else Z32
def resC (l : List Int) : Int := if goodHex l then 0 else 3
theorem res_good (l : List Int) (h : goodHex l) : resL l = fh l 64 ∧ resC l = 0 := by unfold resL resC; rw [if_pos h, if_pos h]; exact ⟨rfl, rfl⟩
theorem res_bad (l : List Int) (h : ¬ goodHex l) : resL l = Z32 ∧ resC l = 3 := by unfold resL resC; rw [if_neg h, if_neg h]; exact ⟨rfl, rfl⟩
theorem resL_length (l : List Int) : (resL l).length = 32 := by
  unfold resL; split
  · exact fh_length _ _
  · rfl

theorem hexN_nth (l : List Int) (n j : Nat) (h : j < n) : nth (hexN l n) j = dig (nib (nth l (j / 2)) (j % 2)) := by
  induction n with
  | zero => omega
  | succ n ih =>
    rw [hexN]
    by_cases hj : j < n
    · rw [← ih hj]; rw [nth_left _ _ _ (by rw [hexN_length]; exact hj)]
    · have : j = n := by omega
      subst this
      have e : ∀ x : Int, (hexN l j ++ [x])[j]? = some x := fun x => by
        rw [List.getElem?_append_right (by rw [hexN_length]; exact Nat.le_refl _), hexN_length]; simp
      show ((hexN l j ++ [_])[j]?).getD 0 = _
      rw [e]; rfl
theorem dig_isDig (n : Int) (h0 : 0 ≤ n) (h1 : n ≤ 15) : isDig (dig n) ∧ dv (dig n) = n ∧ dig n ≤ 255 ∧ 0 ≤ dig n := by
  unfold isDig dig dv
  refine ⟨?_, ?_, ?_, ?_⟩ <;> (try split) <;> omega
theorem hexN_good (l : List Int) (hr : ∀ i, i < 32 → 0 ≤ nth l i ∧ nth l i ≤ 255) : goodHex (hexN l 64) :=
  ⟨hexN_length _ _, fun j hj => by
    rw [hexN_nth l 64 j hj]
    obtain ⟨a, b⟩ := hr (j / 2) (by omega)
    obtain ⟨c, d⟩ := nib_range _ (j % 2) a b
    exact (dig_isDig _ c d).1⟩
theorem back (l : List Int) (hl : l.length = 32) (hr : ∀ i, i < 32 → 0 ≤ nth l i ∧ nth l i ≤ 255) : fh (hexN l 64) 64 = l := by
  apply List.ext_getElem
  · rw [fh_length, hl]
  · intro j h1 h2
    have e := fh_at (hexN l 64) 64 (Nat.le_refl _) j
    rw [fh_length] at h1
    rw [if_pos (by omega), hexN_nth l 64 _ (by omega), hexN_nth l 64 _ (by omega)] at e
    obtain ⟨a, b⟩ := hr j h1
    rw [show 2 * j / 2 = j by omega, show 2 * j % 2 = 0 by omega, show (2 * j + 1) / 2 = j by omega, show (2 * j + 1) % 2 = 1 by omega] at e
    obtain ⟨c, d⟩ := nib_range (nth l j) 0 a b
    obtain ⟨c', d'⟩ := nib_range (nth l j) 1 a b
    rw [(dig_isDig _ c d).2.1, (dig_isDig _ c' d').2.1] at e
    have e0 : nib (nth l j) 0 = nth l j / 16 := rfl
    have e1 : nib (nth l j) 1 = nth l j % 16 := rfl
    rw [e0, e1] at e
    have e2 : nth (fh (hexN l 64) 64) j = nth l j := by rw [e]; omega
    have g1 : j < (fh (hexN l 64) 64).length := by rw [fh_length]; exact h1
    simpa [nth, List.getD, List.getElem?_eq_getElem g1, List.getElem?_eq_getElem h2] using e2
theorem back_res (l : List Int) (hl : l.length = 32) (hr : ∀ i, i < 32 → 0 ≤ nth l i ∧ nth l i ≤ 255) : resL (hexN l 64) = l ∧ resC (hexN l 64) = 0 := by
  obtain ⟨a, b⟩ := res_good _ (hexN_good l hr)
  exact ⟨a.trans (back l hl hr), b⟩
theorem hexN_str (l : List Int) (hr : ∀ i, i < 32 → 0 ≤ nth l i ∧ nth l i ≤ 255) : strI (strOfNums (hexN l 64)) = hexN l 64 := by
  apply strI_nums
  intro x hx
  obtain ⟨j, hj', rfl⟩ := List.mem_iff_getElem.1 hx
  have hj := hj'
  rw [hexN_length] at hj
  have e := hexN_nth l 64 j hj
  generalize hexN l 64 = h at hj' e ⊢
  have e2 : nth h j = h[j] := by simp [nth, List.getD, List.getElem?_eq_getElem hj']
  rw [← e2, e]
  obtain ⟨a, b⟩ := hr (j / 2) (by omega)
  obtain ⟨c, d⟩ := nib_range _ (j % 2) a b
  exact ⟨(dig_isDig _ c d).2.2.2, (dig_isDig _ c d).2.2.1⟩

end Dig
end Go.Proofs.Ytokdbdebmlpdaaa
