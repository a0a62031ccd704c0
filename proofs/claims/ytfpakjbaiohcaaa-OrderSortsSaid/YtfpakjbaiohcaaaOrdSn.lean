/- Keys sort as their values do (chapter 8): numbers; no program in sight. -/
import Derived.Test.YtfpakjbaiohcaaaOrdS
namespace Go.Proofs.Ytfpakjbaiohcaaa
namespace K
theorem sgn_zero {x y : Int} : sgn x y = 0 ↔ x = y := by unfold sgn; split <;> (try split) <;> constructor <;> intro h <;> omega
theorem sgn_lt {x y : Int} (h : x < y) : sgn x y = -1 := if_pos h
theorem sgn_gt {x y : Int} (h : y < x) : sgn x y = 1 := by unfold sgn; rw [if_neg (by omega), if_pos h]
theorem SC.zero {k l : List Int} {c : Int} (h : SC k l c) : cmpL k l = c := by
  have := h [] []
  rw [List.append_nil, List.append_nil] at this
  rw [this]
  split
  · next e => rw [e]; rfl
  · rfl
theorem SC.tail {x : Int} {k l : List Int} {c : Int} (h : SC (x :: k) (x :: l) c) : SC k l c := fun r s => by
  have := h r s
  rw [List.cons_append, List.cons_append, cmpL, if_neg (by omega), if_neg (by omega)] at this
  exact this
theorem SC.flip : ∀ {k l : List Int} {c : Int}, SC k l c → SC (flipB k) (flipB l) (-c)
  | [], [], c, h => by
    have := h.zero
    obtain rfl : c = 0 := this.symm
    exact SC.nil
  | [], b :: l, c, h => by
    have e1 : cmpL [b - 1] (b :: (l ++ [])) = -1 := by rw [cmpL, if_pos (show b - 1 < b by omega)]
    have e2 : cmpL [b + 1] (b :: (l ++ [])) = 1 := by rw [cmpL, if_neg (show ¬ b + 1 < b by omega), if_pos (show b < b + 1 by omega)]
    have h1 : -1 = if c = 0 then 1 else c := e1.symm.trans (h [b - 1] [])
    have h2 : 1 = if c = 0 then 1 else c := e2.symm.trans (h [b + 1] [])
    rw [← h1] at h2; cases h2
  | a :: k, [], c, h => by
    have e1 : cmpL (a :: (k ++ [])) [a - 1] = 1 := by rw [cmpL, if_neg (show ¬ a < a - 1 by omega), if_pos (show a - 1 < a by omega)]
    have e2 : cmpL (a :: (k ++ [])) [a + 1] = -1 := by rw [cmpL, if_pos (show a < a + 1 by omega)]
    have h1 : 1 = if c = 0 then -1 else c := e1.symm.trans (h [] [a - 1])
    have h2 : -1 = if c = 0 then -1 else c := e2.symm.trans (h [] [a + 1])
    rw [← h1] at h2; cases h2
  | a :: k, b :: l, c, h => by
    have hz := h.zero
    show SC ((255 - a) :: flipB k) ((255 - b) :: flipB l) (-c)
    unfold cmpL at hz
    by_cases h1 : a < b
    · rw [if_pos h1] at hz; subst hz; exact SC.gt (by omega) _ _
    · rw [if_neg h1] at hz
      by_cases h2 : b < a
      · rw [if_pos h2] at hz; subst hz; exact SC.lt (by omega) _ _
      · obtain rfl : a = b := by omega
        exact SC.cons _ h.tail.flip
/-- A row of digits, the first one first, of so many places. -/
def fv : Nat → List Nat → Nat
  | _, [] => 0
  | 0, _ :: _ => 0
  | W + 1, d :: D => d * 10 ^ W + fv W D
/-- It does not end with a nought. -/
def nt : List Nat → Prop
  | [] => True
  | d :: D => (D = [] → d ≠ 0) ∧ nt D
theorem fv_lt : ∀ {W : Nat} {D : List Nat}, (∀ d ∈ D, d < 10) → fv W D < 10 ^ W
  | W, [], _ => by unfold fv; exact Nat.pos_of_ne_zero (by simp)
  | 0, _ :: _, _ => by simp [fv]
  | W + 1, d :: D, h => by
    have h1 := fv_lt (W := W) (D := D) fun x hx => h x (List.mem_cons_of_mem _ hx)
    have h2 := h d (by simp)
    rw [fv, Nat.pow_succ]
    have : d * 10 ^ W ≤ 9 * 10 ^ W := Nat.mul_le_mul_right _ (by omega)
    omega
theorem fv_pos : ∀ {W : Nat} {D : List Nat}, nt D → D.length ≤ W → D ≠ [] → 0 < fv W D
  | W, [], _, _, h => absurd rfl h
  | 0, _ :: _, _, h, _ => by simp at h
  | W + 1, d :: D, h, hl, _ => by
    rw [fv]
    by_cases e : D = []
    · have := h.1 e
      have : 0 < 10 ^ W := Nat.pos_of_ne_zero (by simp)
      have : 0 < d * 10 ^ W := Nat.mul_pos (by omega) this
      omega
    · have := fv_pos (W := W) h.2 (by simpa using hl) e
      omega
theorem fv_wide : ∀ {W : Nat} (m : Nat) {D : List Nat}, D.length ≤ W → fv (W + m) D = fv W D * 10 ^ m
  | W, m, [], _ => by simp [fv]
  | 0, _, _ :: _, h => by simp at h
  | W + 1, m, d :: D, h => by
    have := fv_wide (W := W) m (D := D) (by simpa using h)
    rw [show W + 1 + m = (W + m) + 1 by omega, fv, fv, this, Nat.pow_add, Nat.add_mul, Nat.mul_assoc]
theorem SC.digits : ∀ (W : Nat) (D E : List Nat), nt D → nt E → (∀ d ∈ D, d < 10) → (∀ d ∈ E, d < 10) → D.length ≤ W → E.length ≤ W →
    SC (D.map (fun d : Nat => (d : Int) + 1) ++ [0]) (E.map (fun d : Nat => (d : Int) + 1) ++ [0]) (sgn (fv W D) (fv W E))
  | _, [], [], _, _, _, _, _, _ => by
    rw [sgn_zero.2 (by simp [fv])]
    exact SC.refl _
  | W, [], e :: E, _, h2, _, _, _, h3 => by
    have := fv_pos h2 h3 (by simp)
    rw [sgn_lt (by simp [fv]; omega)]
    exact SC.lt (show (0 : Int) < (e : Int) + 1 by omega) _ _
  | W, d :: D, [], h1, _, _, _, h3, _ => by
    have := fv_pos h1 h3 (by simp)
    rw [sgn_gt (by simp [fv]; omega)]
    exact SC.gt (show (0 : Int) < (d : Int) + 1 by omega) _ _
  | 0, _ :: _, _ :: _, _, _, _, _, h, _ => by simp at h
  | W + 1, d :: D, e :: E, h1, h2, h3, h4, h5, h6 => by
    have l1 := fv_lt (W := W) (D := D) fun x hx => h3 x (List.mem_cons_of_mem _ hx)
    have l2 := fv_lt (W := W) (D := E) fun x hx => h4 x (List.mem_cons_of_mem _ hx)
    rw [List.map_cons, List.map_cons, List.cons_append, List.cons_append, fv, fv]
    rcases Nat.lt_trichotomy d e with h | h | h
    · have : (d + 1) * 10 ^ W ≤ e * 10 ^ W := Nat.mul_le_mul_right _ h
      rw [Nat.add_mul] at this
      rw [sgn_lt (by omega)]
      exact SC.lt (show (d : Int) + 1 < (e : Int) + 1 by omega) _ _
    · subst h
      have ih := SC.digits W D E h1.2 h2.2 (fun x hx => h3 x (List.mem_cons_of_mem _ hx)) (fun x hx => h4 x (List.mem_cons_of_mem _ hx)) (by simpa using h5) (by simpa using h6)
      have : sgn (d * 10 ^ W + fv W D : Nat) (d * 10 ^ W + fv W E : Nat) = sgn (fv W D) (fv W E) := by
        unfold sgn
        by_cases h7 : fv W D < fv W E
        · rw [if_pos (show ((d * 10 ^ W + fv W D : Nat) : Int) < (d * 10 ^ W + fv W E : Nat) by omega), if_pos (show ((fv W D : Nat) : Int) < (fv W E : Nat) by omega)]
        · rw [if_neg (show ¬ ((d * 10 ^ W + fv W D : Nat) : Int) < (d * 10 ^ W + fv W E : Nat) by omega), if_neg (show ¬ ((fv W D : Nat) : Int) < (fv W E : Nat) by omega)]
          by_cases h8 : fv W E < fv W D
          · rw [if_pos (show ((d * 10 ^ W + fv W E : Nat) : Int) < (d * 10 ^ W + fv W D : Nat) by omega), if_pos (show ((fv W E : Nat) : Int) < (fv W D : Nat) by omega)]
          · rw [if_neg (show ¬ ((d * 10 ^ W + fv W E : Nat) : Int) < (d * 10 ^ W + fv W D : Nat) by omega), if_neg (show ¬ ((fv W E : Nat) : Int) < (fv W D : Nat) by omega)]
      rw [this]
      exact SC.cons _ ih
    · have : (e + 1) * 10 ^ W ≤ d * 10 ^ W := Nat.mul_le_mul_right _ h
      rw [Nat.add_mul] at this
      rw [sgn_gt (by omega)]
      exact SC.gt (show (e : Int) + 1 < (d : Int) + 1 by omega) _ _
/-- A row of digits, the last one first. -/
def lv : List Nat → Nat
  | [] => 0
  | a :: r => a + 10 * lv r
theorem fv_snoc : ∀ (X : List Nat) (a : Nat), fv (X.length + 1) (X ++ [a]) = 10 * fv X.length X + a
  | [], a => by simp [fv]
  | d :: D, a => by
    rw [List.length_cons, List.cons_append, fv, fv_snoc D a, fv, Nat.pow_succ, Nat.mul_add]
    have : d * (10 ^ D.length * 10) = 10 * (d * 10 ^ D.length) := by rw [← Nat.mul_assoc, Nat.mul_comm]
    omega
theorem fv_rev : ∀ (A : List Nat), fv A.length A.reverse = lv A
  | [] => rfl
  | a :: r => by
    have := fv_snoc r.reverse a
    rw [List.length_reverse] at this
    rw [List.reverse_cons, List.length_cons, this, fv_rev r, lv]; omega
theorem fv_nzs : ∀ (A : List Nat), fv A.length (nzs A).reverse = lv A
  | [] => rfl
  | a :: r => by
    by_cases h : a = 0
    · have h1 := fv_wide (W := r.length) 1 (D := (nzs r).reverse) (by rw [List.length_reverse]; exact nzs_len r)
      unfold nzs
      rw [if_pos h, List.length_cons, h1, fv_nzs r, lv]; omega
    · unfold nzs
      rw [if_neg h]; exact fv_rev _
theorem nt_snoc : ∀ (X : List Nat) {a : Nat}, a ≠ 0 → nt (X ++ [a])
  | [], a, h => ⟨fun _ => h, trivial⟩
  | x :: X, a, h => ⟨fun e => by simp at e, nt_snoc X h⟩
theorem nt_nzs : ∀ (A : List Nat), nt (nzs A).reverse
  | [] => trivial
  | a :: r => by
    unfold nzs
    by_cases h : a = 0
    · rw [if_pos h]; exact nt_nzs r
    · rw [if_neg h, List.reverse_cons]; exact nt_snoc _ h
theorem digsF_val : ∀ (f u : Nat), u < 10 ^ f → lv (digsF f u) = u
  | 0, u, h => by simp at h; simp [digsF, lv, h]
  | f + 1, u, h => by
    unfold digsF
    by_cases e : u = 0
    · rw [if_pos e]; simp [lv, e]
    · rw [if_neg e, lv, digsF_val f (u / 10) (by rw [Nat.pow_succ] at h; omega)]; omega
theorem digsF_low : ∀ (f u : Nat), u ≠ 0 → u < 10 ^ f → 1 ≤ (digsF f u).length ∧ 10 ^ (digsF f u).length ≤ 10 * u
  | 0, u, h, h2 => by simp at h2; omega
  | f + 1, u, h, h2 => by
    unfold digsF
    rw [if_neg h, List.length_cons, Nat.pow_succ]
    by_cases e : u / 10 = 0
    · have : (digsF f (u / 10)).length = 0 := by rw [e]; cases f <;> simp [digsF]
      rw [this]; simp; omega
    · have := digsF_low f (u / 10) e (by rw [Nat.pow_succ] at h2; omega)
      omega
theorem digs_val {u : Nat} (h : u < 10 ^ 20) : lv (digs u) = u := digsF_val 20 u h
theorem digs_high {u : Nat} (h : u < 10 ^ 20) : u < 10 ^ (digs u).length := by
  have h1 := fv_lt (W := (digs u).length) (D := (digs u).reverse) fun d hd => digsF_lt 20 u d (List.mem_reverse.1 hd)
  rw [fv_rev, digs_val h] at h1
  exact h1

/-- Two numbers above nought. -/
theorem SC.pos {u u' s s' : Nat} (hu0 : u ≠ 0) (hu1 : u' ≠ 0) (hu : u < 10 ^ 20) (hu' : u' < 10 ^ 20) (hs : s ≤ 18) (hs' : s' ≤ 18) :
    SC (posB (digs u) s) (posB (digs u') s') (sgn (u * 10 ^ s' : Nat) (u' * 10 ^ s : Nat)) := by
  have hL : (digs u).length ≤ 20 := digsF_len 20 u
  have hL' : (digs u').length ≤ 20 := digsF_len 20 u'
  have lo := digsF_low 20 u hu0 hu
  have lo' := digsF_low 20 u' hu1 hu'
  have hi := digs_high hu
  have hi' := digs_high hu'
  have v := fv_nzs (digs u)
  have v' := fv_nzs (digs u')
  rw [digs_val hu] at v
  rw [digs_val hu'] at v'
  have nl : ((nzs (digs u)).reverse).length ≤ (digs u).length := by rw [List.length_reverse]; exact nzs_len _
  have nl' : ((nzs (digs u')).reverse).length ≤ (digs u').length := by rw [List.length_reverse]; exact nzs_len _
  have r : ∀ d ∈ (nzs (digs u)).reverse, d < 10 := fun d hd => digsF_lt 20 u d (nzs_sub _ d (List.mem_reverse.1 hd))
  have r' : ∀ d ∈ (nzs (digs u')).reverse, d < 10 := fun d hd => digsF_lt 20 u' d (nzs_sub _ d (List.mem_reverse.1 hd))
  unfold posB digB
  change 1 ≤ (digs u).length ∧ _ at lo
  change 1 ≤ (digs u').length ∧ _ at lo'
  replace lo : 1 ≤ (digs u).length ∧ 10 ^ (digs u).length ≤ 10 * u := lo
  replace lo' : 1 ≤ (digs u').length ∧ 10 ^ (digs u').length ≤ 10 * u' := lo'
  generalize (digs u).length = L at *
  generalize (digs u').length = L' at *
  have apart : ∀ {x y L L' s s' : Nat}, L + s' < L' + s → x < 10 ^ L → 10 ^ L' ≤ 10 * y → x * 10 ^ s' < y * 10 ^ s := by
    intro x y L L' s s' h h1 h2
    have h3 : (x + 1) * 10 ^ s' ≤ 10 ^ L * 10 ^ s' := Nat.mul_le_mul_right _ h1
    have h4 : 10 ^ L' * 10 ^ s ≤ 10 * y * 10 ^ s := Nat.mul_le_mul_right _ h2
    rw [← Nat.pow_add, Nat.add_mul] at h3
    rw [← Nat.pow_add, Nat.mul_assoc] at h4
    have h5 : 10 ^ (L + s' + 1) ≤ 10 ^ (L' + s) := Nat.pow_le_pow_right (by decide) h
    rw [Nat.pow_succ] at h5
    have h6 : 0 < 10 ^ s' := Nat.pos_of_ne_zero (by simp)
    omega
  rcases Nat.lt_trichotomy (L + s') (L' + s) with h | h | h
  · have := apart h hi lo'.2
    rw [sgn_lt (by omega)]
    exact SC.lt (by omega) _ _
  · have e : ((L : Int) - s + 192) % 256 = ((L' : Int) - s' + 192) % 256 := by omega
    have e2 : u * 10 ^ s' = fv (L + s') (nzs (digs u)).reverse := by rw [fv_wide s' nl, v]
    have e3 : u' * 10 ^ s = fv (L' + s) (nzs (digs u')).reverse := by rw [fv_wide s nl', v']
    rw [e, e2, e3, h]
    exact SC.cons _ (SC.digits (L' + s) _ _ (nt_nzs _) (nt_nzs _) r r' (by omega) (by omega))
  · have := apart h hi' lo.2
    rw [sgn_gt (by omega)]
    exact SC.gt (by omega) _ _

/-- How two numbers stand to each other. -/
def ordN (n s n' s' : Int) : Int :=
  if sgn n 0 = sgn n' 0 then sgn (n.natAbs * 10 ^ s'.toNat : Nat) (n'.natAbs * 10 ^ s.toNat : Nat) * sgn n 0 else sgn (sgn n 0) (sgn n' 0)
theorem posB_head (u : Nat) (s : Int) : posB (digs u) s = (((digs u).length : Int) - s + 192) % 256 :: (digB (digs u) ++ [0]) := rfl
theorem flipB_cons (x : Int) (l : List Int) : flipB (x :: l) = (255 - x) :: flipB l := rfl
theorem SC.number {n s n' s' : Int} (hn : n.natAbs < 10 ^ 20) (hn' : n'.natAbs < 10 ^ 20) (hs : 0 ≤ s ∧ s ≤ 18) (hs' : 0 ≤ s' ∧ s' ≤ 18) : SC (numB n s) (numB n' s') (ordN n s n' s') := by
  obtain ⟨a, rfl⟩ := Int.eq_ofNat_of_zero_le hs.1
  obtain ⟨a', rfl⟩ := Int.eq_ofNat_of_zero_le hs'.1
  have hL : (digs n.natAbs).length ≤ 20 := digsF_len 20 _
  have hL' : (digs n'.natAbs).length ≤ 20 := digsF_len 20 _
  unfold ordN numB
  rcases Int.lt_trichotomy n 0 with h | h | h
  · rw [if_neg (show ¬ n = 0 by omega), if_pos h, sgn_lt h]
    rcases Int.lt_trichotomy n' 0 with h' | h' | h'
    · rw [if_neg (show ¬ n' = 0 by omega), if_pos h', sgn_lt h', if_pos rfl, Int.mul_neg, Int.mul_one]
      exact (SC.pos (by omega) (by omega) hn hn' (by omega) (by omega)).flip
    · rw [if_pos h', sgn_zero.2 h', if_neg (by decide), posB_head, flipB_cons]
      exact SC.lt (by omega) _ _
    · rw [if_neg (show ¬ n' = 0 by omega), if_neg (show ¬ n' < 0 by omega), sgn_gt h', if_neg (by decide), posB_head, posB_head, flipB_cons]
      exact SC.lt (by omega) _ _
  · rw [if_pos h, sgn_zero.2 h]
    rcases Int.lt_trichotomy n' 0 with h' | h' | h'
    · rw [if_neg (show ¬ n' = 0 by omega), if_pos h', sgn_lt h', if_neg (by decide), posB_head, flipB_cons]
      exact SC.gt (by omega) _ _
    · rw [if_pos h', sgn_zero.2 h', if_pos rfl, Int.mul_zero]
      exact SC.refl _
    · rw [if_neg (show ¬ n' = 0 by omega), if_neg (show ¬ n' < 0 by omega), sgn_gt h', if_neg (by decide), posB_head]
      exact SC.lt (by omega) _ _
  · rw [if_neg (show ¬ n = 0 by omega), if_neg (show ¬ n < 0 by omega), sgn_gt h]
    rcases Int.lt_trichotomy n' 0 with h' | h' | h'
    · rw [if_neg (show ¬ n' = 0 by omega), if_pos h', sgn_lt h', if_neg (by decide), posB_head, posB_head, flipB_cons]
      exact SC.gt (by omega) _ _
    · rw [if_pos h', sgn_zero.2 h', if_neg (by decide), posB_head]
      exact SC.gt (by omega) _ _
    · rw [if_neg (show ¬ n' = 0 by omega), if_neg (show ¬ n' < 0 by omega), sgn_gt h', if_pos rfl, Int.mul_one]
      exact SC.pos (by omega) (by omega) hn hn' (by omega) (by omega)
end K
end Go.Proofs.Ytfpakjbaiohcaaa
