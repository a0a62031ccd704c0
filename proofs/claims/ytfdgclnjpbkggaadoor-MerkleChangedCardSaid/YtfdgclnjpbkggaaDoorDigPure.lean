/- digest: what the program reckons and what the reference reckons are one. Plain lists: no walk. -/
import Derived.Test.YtfdgclnjpbkggaaDoorDigRefB
namespace Go.Proofs.YtfdgclnjpbkggaaDoor
namespace Dig

theorem ext_nth (a b : List Int) (hl : a.length = b.length) (h : ∀ i, i < a.length → nth a i = nth b i) : a = b := by
  apply List.ext_getElem hl
  intro i h1 h2
  have := h i h1
  simpa [nth, h1, h2] using this
theorem nth_outR (st : List Int) (n i : Nat) (hi : i < n) (hn : n ≤ 32) : nth (outR st n) i = nth st (i / 4) / 2 ^ (24 - 8 * (i % 4)) % 256 := by
  induction n with
  | zero => omega
  | succ n ih =>
    rw [outR]
    by_cases h : i = n
    · subst h; exact nth_set_eq _ _ _ (by rw [outR_length]; omega)
    · rw [nth_set_ne _ _ _ _ h]; exact ih (by omega) (by omega)
theorem nth_outH (st : List Int) (n i : Nat) (hi : i < 4 * n) (hn : n ≤ 8) : nth (outH st n) i = nth st (i / 4) / 2 ^ (24 - 8 * (i % 4)) % 256 := by
  induction n with
  | zero => omega
  | succ n ih =>
    rw [outH]
    have hl := outH_length st n
    by_cases h3 : i = 4 * n + 3
    · subst h3
      rw [nth_set_eq _ _ _ (by simp [hl]; omega), show (4 * n + 3) / 4 = n from by omega, show (4 * n + 3) % 4 = 3 from by omega]
      simp
    · rw [nth_set_ne _ _ _ _ h3]
      by_cases h2 : i = 4 * n + 2
      · subst h2
        rw [nth_set_eq _ _ _ (by simp [hl]; omega), show (4 * n + 2) / 4 = n from by omega, show (4 * n + 2) % 4 = 2 from by omega]
        rfl
      · rw [nth_set_ne _ _ _ _ h2]
        by_cases h1 : i = 4 * n + 1
        · subst h1
          rw [nth_set_eq _ _ _ (by simp [hl]; omega), show (4 * n + 1) / 4 = n from by omega, show (4 * n + 1) % 4 = 1 from by omega]
          rfl
        · rw [nth_set_ne _ _ _ _ h1]
          by_cases h0 : i = 4 * n
          · subst h0
            rw [nth_set_eq _ _ _ (by simp [hl]; omega), show (4 * n) / 4 = n from by omega, show (4 * n) % 4 = 0 from by omega]
            rfl
          · rw [nth_set_ne _ _ _ _ h0]; exact ih (by omega) (by omega)
theorem outR_eq (st : List Int) : outR st 32 = outH st 8 :=
  ext_nth _ _ (by rw [outR_length, outH_length]) (fun i hi => by
    rw [outR_length] at hi
    rw [nth_outR st 32 i hi (Nat.le_refl _), nth_outH st 8 i (by omega) (Nat.le_refl _)])

theorem nth_left (a b : List Int) (i : Nat) (h : i < a.length) : nth (a ++ b) i = nth a i := by
  simp [nth, List.getElem?_append_left h]
theorem nth_right (a b : List Int) (i : Nat) (h : a.length ≤ i) : nth (a ++ b) i = nth b (i - a.length) := by
  simp [nth, List.getElem?_append_right h]
theorem nth_drop (a : List Int) (n i : Nat) : nth (a.drop n) i = nth a (n + i) := by simp [nth]
theorem nth_zs (n i : Nat) : nth (zs n) i = 0 := by
  unfold nth zs
  by_cases h : i < n
  · simp [h]
  · simp [List.getElem?_eq_none (show (List.replicate n (0 : Int)).length ≤ i by simp; omega)]

theorem load_congr (a b : List Int) (n : Nat) (hn : n ≤ 16) (h : ∀ i, i < 64 → nth a i = nth b i) : load a n = load b n := by
  induction n with
  | zero => rfl
  | succ n ih =>
    rw [load, load, ih (by omega)]
    unfold wordAt
    rw [h _ (by omega), h _ (by omega), h _ (by omega), h _ (by omega)]
theorem compress_congr (kk a b st : List Int) (h : ∀ i, i < 64 → nth a i = nth b i) : compress kk a st = compress kk b st := by
  unfold compress; rw [load_congr a b 16 (Nat.le_refl _) h]
theorem absorb_congr (a b st : List Int) (e : Nat) (h : ∀ i, i < 64 * e → nth a i = nth b i) : absorb a st e = absorb b st e := by
  induction e with
  | zero => rfl
  | succ e ih =>
    rw [absorb, absorb, ih (fun i hi => h i (by omega))]
    exact compress_congr _ _ _ _ (fun i hi => by rw [nth_drop, nth_drop]; exact h _ (by omega))
theorem absorb_add (a st : List Int) (j e : Nat) : absorb a st (j + e) = absorb (a.drop (64 * j)) (absorb a st j) e := by
  induction e with
  | zero => rfl
  | succ e ih =>
    rw [← Nat.add_assoc, absorb, absorb, ih, List.drop_drop, Nat.mul_add]

theorem nth_lenB (n i t : Nat) (h : t < i) : nth (lenB n i) t = (n : Int) * 8 / 2 ^ (8 * (7 - t)) % 256 := by
  induction i with
  | zero => omega
  | succ i ih =>
    rw [lenB]
    by_cases ht : t < i
    · rw [nth_left _ _ _ (by rw [lenB_length]; exact ht)]; exact ih ht
    · have : t = i := by omega
      subst this
      rw [nth_right _ _ _ (by rw [lenB_length]; exact Nat.le_refl _), lenB_length, Nat.sub_self]
      rfl
theorem nth_putLen (p : List Int) (E n i x : Nat) (hE : E ≤ p.length) (hi : i ≤ E) :
    nth (putLen p E n i) x = if E - i ≤ x ∧ x < E then (n : Int) * 8 / 2 ^ (8 * (E - 1 - x)) % 256 else nth p x := by
  induction i with
  | zero => rw [if_neg (by omega)]; rfl
  | succ i ih =>
    rw [putLen]
    by_cases hx : x = E - 1 - i
    · rw [if_pos (by omega), hx, nth_set_eq _ _ _ (by rw [putLen_length]; omega)]
      rw [show E - 1 - (E - 1 - i) = i from by omega]
    · rw [nth_set_ne _ _ _ _ hx, ih (by omega)]
      by_cases h1 : E - i ≤ x ∧ x < E
      · rw [if_pos h1, if_pos (by omega)]
      · rw [if_neg h1, if_neg (by omega)]

theorem zs_length (n : Nat) : (zs n).length = n := by simp [zs]
theorem padded_length (l : List Int) : (padded l).length = l.length + 1 + padN l.length + 8 := by
  unfold padded; rw [List.length_append, List.length_append, List.length_append, lenB_length, zs_length]; rfl
theorem padded_lo (l : List Int) (y : Nat) (h : y < l.length) : nth (padded l) y = nth l y := by
  unfold padded; rw [List.append_assoc, List.append_assoc, nth_left _ _ _ h]
theorem padded_at (l : List Int) (y : Nat) (h : y = l.length) : nth (padded l) y = 128 := by
  unfold padded; rw [List.append_assoc, List.append_assoc, nth_right _ _ _ (by omega), h, Nat.sub_self]; rfl
theorem padded_mid (l : List Int) (y : Nat) (h : l.length < y) (h2 : y < l.length + 1 + padN l.length) : nth (padded l) y = 0 := by
  unfold padded
  have h1 : (l ++ [128]).length = l.length + 1 := by simp
  rw [List.append_assoc (l ++ [128]), nth_right _ _ _ (by omega), nth_left _ _ _ (by rw [zs_length]; omega), nth_zs]
theorem padded_hi (l : List Int) (y t : Nat) (h : y = l.length + 1 + padN l.length + t) (ht : t < 8) : nth (padded l) y = (l.length : Int) * 8 / 2 ^ (8 * (7 - t)) % 256 := by
  unfold padded
  have h1 : (l ++ [128] ++ zs (padN l.length)).length = l.length + 1 + padN l.length := by rw [List.length_append, zs_length]; simp
  rw [nth_right _ _ _ (by omega), h1, h, Nat.add_sub_cancel_left, nth_lenB _ _ _ ht]

theorem refL_eq (l : List Int) : refL l = sumL l := by
  have hrl : (l.drop (64 * (l.length / 64))).length = l.length % 64 := by rw [List.length_drop]; omega
  have hpl := padded_length l
  have hpre : ∀ i, i ≤ l.length / 64 → absorb (padded l) H0 i = absorb l H0 i := fun i hi =>
    absorb_congr _ _ _ _ (fun x hx => padded_lo l x (by omega))
  have key : ∀ e, (padded l).length / 64 = l.length / 64 + e → e ≤ 2 → l.length % 64 + 1 + padN l.length + 8 = 64 * e →
      refL l = outH (absorb (putLen ((l.drop (64 * (l.length / 64)) ++ List.replicate (128 - l.length % 64) 0).set (l.length % 64) 128) (64 * e) l.length 8) (absorb l H0 (l.length / 64)) e) 8 := by
    intro e he he2 hlen
    unfold refL
    rw [outR_eq, he, absorb_add, hpre _ (Nat.le_refl _)]
    congr 1
    refine absorb_congr _ _ _ _ (fun x hx => ?_)
    obtain ⟨rl, hrle⟩ : ∃ rl, rl = l.drop (64 * (l.length / 64)) := ⟨_, rfl⟩
    have hrx : ∀ y, nth rl y = nth l (64 * (l.length / 64) + y) := fun y => by rw [hrle, nth_drop]
    rw [← hrle] at hrl ⊢
    have hbl : (rl ++ List.replicate (128 - l.length % 64) (0 : Int)).length = 128 := by
      rw [List.length_append, hrl, List.length_replicate]; omega
    rw [nth_drop, nth_putLen _ _ _ _ _ (by rw [List.length_set, hbl]; omega) (by omega)]
    by_cases h1 : x < l.length % 64
    · rw [if_neg (by omega), nth_set_ne _ _ _ _ (by omega), nth_left _ _ _ (by rw [hrl]; exact h1), hrx]
      exact padded_lo l _ (by omega)
    · by_cases h2 : x = l.length % 64
      · rw [if_neg (by omega), h2, nth_set_eq _ _ _ (by rw [hbl]; omega)]
        exact padded_at l _ (by omega)
      · by_cases h3 : x < 64 * e - 8
        · rw [if_neg (by omega), nth_set_ne _ _ _ _ h2, nth_right _ _ _ (by rw [hrl]; omega), padded_mid l _ (by omega) (by omega)]
          exact (nth_zs _ _).symm
        · rw [if_pos (by omega), padded_hi l _ (x - (64 * e - 8)) (by omega) (by omega), show 7 - (x - (64 * e - 8)) = 64 * e - 1 - x from by omega]
  unfold sumL
  simp only [hrl]
  by_cases h56 : 56 ≤ l.length % 64
  · rw [if_pos h56]
    exact key 2 (by unfold padN at hpl; omega) (by omega) (by unfold padN; omega)
  · rw [if_neg h56]
    exact key 1 (by unfold padN at hpl; omega) (by omega) (by unfold padN; omega)

theorem outH_range (st : List Int) : ∀ i, i < 32 → 0 ≤ nth (outH st 8) i ∧ nth (outH st 8) i ≤ 255 := by
  intro i hi
  rw [nth_outH st 8 i (by omega) (Nat.le_refl _)]
  omega
theorem sumL_range (l : List Int) : ∀ i, i < 32 → 0 ≤ nth (sumL l) i ∧ nth (sumL l) i ≤ 255 := outH_range _

end Dig
end Go.Proofs.YtfdgclnjpbkggaaDoor
