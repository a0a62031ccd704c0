/- Keys sort as their values do (chapter 8): the plain law; no program in sight. -/
import Derived.Test.YtfpakjbaiohcaaaOrdV
namespace Go.Proofs.Ytfpakjbaiohcaaa
namespace K
open Op (bytesLess)

def sgn (x y : Int) : Int := if x < y then -1 else if y < x then 1 else 0
/-- Two rows: -1, 0 or 1. -/
def cmpL : List Int → List Int → Int
  | [], [] => 0
  | [], _ :: _ => -1
  | _ :: _, [] => 1
  | a :: r, b :: s => if a < b then -1 else if b < a then 1 else cmpL r s
theorem cmpL_zero : ∀ {k l : List Int}, cmpL k l = 0 → k = l
  | [], [], _ => rfl
  | [], _ :: _, h => by simp [cmpL] at h
  | _ :: _, [], h => by simp [cmpL] at h
  | a :: r, b :: s, h => by
    unfold cmpL at h
    by_cases h1 : a < b
    · rw [if_pos h1] at h; cases h
    · rw [if_neg h1] at h
      by_cases h2 : b < a
      · rw [if_pos h2] at h; cases h
      · rw [if_neg h2] at h
        rw [show a = b by omega, cmpL_zero h]
theorem cmpL_self : ∀ (k : List Int), cmpL k k = 0
  | [] => rfl
  | a :: r => by unfold cmpL; rw [if_neg (by omega), if_neg (by omega), cmpL_self r]
/-- Where two rows are parted, whatever stands behind: c tells; 0: they are one. -/
def SC (k l : List Int) (c : Int) : Prop := ∀ r s, cmpL (k ++ r) (l ++ s) = if c = 0 then cmpL r s else c
theorem SC.nil : SC [] [] 0 := fun r s => by simp
theorem SC.refl (k : List Int) : SC k k 0 := fun r s => by
  rw [if_pos rfl]
  induction k with
  | nil => rfl
  | cons a k ih => rw [List.cons_append, List.cons_append, cmpL, if_neg (by omega), if_neg (by omega), ih]
theorem SC.byte (x y : Int) : SC [x] [y] (sgn x y) := fun r s => by
  unfold sgn
  rw [List.singleton_append, List.singleton_append, cmpL]
  by_cases h1 : x < y
  · rw [if_pos h1, if_pos h1]; rfl
  · rw [if_neg h1, if_neg h1]
    by_cases h2 : y < x
    · rw [if_pos h2, if_pos h2]; rfl
    · rw [if_neg h2, if_neg h2, if_pos rfl]
theorem SC.app {k l m n : List Int} {c d : Int} (h : SC k l c) (h' : SC m n d) : SC (k ++ m) (l ++ n) (if c = 0 then d else c) := fun r s => by
  rw [List.append_assoc, List.append_assoc, h]
  by_cases hc : c = 0
  · rw [if_pos hc, if_pos hc, h']
  · rw [if_neg hc, if_neg hc, if_neg hc]
theorem SC.cons {m n : List Int} {d : Int} (x : Int) (h : SC m n d) : SC (x :: m) (x :: n) d := by
  have := (SC.refl [x]).app h
  simpa using this
theorem SC.lt {x y : Int} (h : x < y) (m n : List Int) : SC (x :: m) (y :: n) (-1) := fun r s => by
  rw [List.cons_append, List.cons_append, cmpL, if_pos h]; rfl
theorem SC.gt {x y : Int} (h : y < x) (m n : List Int) : SC (x :: m) (y :: n) 1 := fun r s => by
  rw [List.cons_append, List.cons_append, cmpL, if_neg (by omega), if_pos h]; rfl
theorem SC.eq0 {k l : List Int} (h : SC k l 0) : k = l := by
  have := h [] []
  rw [if_pos rfl, List.append_nil, List.append_nil] at this
  exact cmpL_zero (this.trans rfl)

/-- Two texts: -1, 0 or 1. -/
def cmpB : List UInt8 → List UInt8 → Int
  | [], [] => 0
  | [], _ :: _ => -1
  | _ :: _, [] => 1
  | a :: r, b :: s => if a < b then -1 else if b < a then 1 else cmpB r s
theorem cmpB_range : ∀ (s t : List UInt8), cmpB s t = -1 ∨ cmpB s t = 0 ∨ cmpB s t = 1
  | [], [] => by simp [cmpB]
  | [], _ :: _ => by simp [cmpB]
  | _ :: _, [] => by simp [cmpB]
  | a :: r, b :: s => by
    unfold cmpB
    by_cases h1 : a < b
    · simp [h1]
    · by_cases h2 : b < a
      · simp [h1, h2]
      · simp only [h1, h2, if_false]; exact cmpB_range r s
theorem cmpB_less : ∀ (s t : List UInt8), bytesLess s t = decide (cmpB s t = -1)
  | [], [] => by simp [cmpB, bytesLess]
  | [], _ :: _ => by simp [cmpB, bytesLess]
  | _ :: _, [] => by simp [cmpB, bytesLess]
  | a :: r, b :: s => by
    unfold cmpB bytesLess
    by_cases h1 : a < b
    · simp [h1]
    · by_cases h2 : b < a
      · have h3 : ¬ a = b := fun e => by subst e; exact h1 h2
        simp [h1, h2, h3]
      · have h3 : a = b := UInt8.le_antisymm (UInt8.not_lt.1 h2) (UInt8.not_lt.1 h1)
        subst h3
        simp [h1, cmpB_less r s]
theorem cmpB_swap : ∀ (s t : List UInt8), cmpB t s = - cmpB s t
  | [], [] => rfl
  | [], _ :: _ => rfl
  | _ :: _, [] => rfl
  | a :: r, b :: s => by
    unfold cmpB
    by_cases h1 : a < b
    · have h2 : ¬ b < a := fun e => UInt8.lt_irrefl _ (UInt8.lt_trans h1 e)
      simp [h1, h2]
    · by_cases h2 : b < a
      · simp [h1, h2]
      · simp only [h1, h2, if_false]; exact cmpB_swap r s
theorem SC.text : ∀ (s t : List UInt8), SC (textK s) (textK t) (cmpB s t)
  | [], [] => SC.refl _
  | [], b :: s => by
    unfold textK textP cmpB
    by_cases h : b = 0
    · rw [if_pos h]
      show SC (0 :: 0 :: []) (0 :: 255 :: _) (-1)
      exact SC.cons 0 (SC.lt (by decide) _ _)
    · rw [if_neg h]
      show SC (0 :: _) ((b.toNat : Int) :: _) (-1)
      have : b.toNat ≠ 0 := fun e => h (UInt8.toNat.inj e)
      exact SC.lt (by omega) _ _
  | a :: r, [] => by
    unfold textK textP cmpB
    by_cases h : a = 0
    · rw [if_pos h]
      show SC (0 :: 255 :: _) (0 :: 0 :: []) 1
      exact SC.cons 0 (SC.gt (by decide) _ _)
    · rw [if_neg h]
      show SC ((a.toNat : Int) :: _) (0 :: _) 1
      have : a.toNat ≠ 0 := fun e => h (UInt8.toNat.inj e)
      exact SC.gt (by omega) _ _
  | a :: r, b :: s => by
    have ih := SC.text r s
    have e : ∀ (c : UInt8) (q : List UInt8), textK (c :: q) = if c = 0 then 0 :: 255 :: textK q else (c.toNat : Int) :: textK q := fun c q => by
      unfold textK
      rw [textP]
      split <;> rfl
    rw [e, e]
    unfold cmpB
    by_cases h1 : a < b
    · rw [if_pos h1]
      have hb : ¬ b = 0 := fun e => by subst e; exact absurd h1 (UInt8.not_lt.2 (UInt8.zero_le))
      have hab : a.toNat < b.toNat := UInt8.lt_iff_toNat_lt.1 h1
      rw [if_neg hb]
      by_cases ha : a = 0
      · rw [if_pos ha]; exact SC.lt (by omega) _ _
      · rw [if_neg ha]; exact SC.lt (by omega) _ _
    · rw [if_neg h1]
      by_cases h2 : b < a
      · rw [if_pos h2]
        have ha : ¬ a = 0 := fun e => by subst e; exact absurd h2 (UInt8.not_lt.2 (UInt8.zero_le))
        have hab : b.toNat < a.toNat := UInt8.lt_iff_toNat_lt.1 h2
        rw [if_neg ha]
        by_cases hb : b = 0
        · rw [if_pos hb]; exact SC.gt (by omega) _ _
        · rw [if_neg hb]; exact SC.gt (by omega) _ _
      · rw [if_neg h2]
        have h3 : a = b := UInt8.le_antisymm (UInt8.not_lt.1 h2) (UInt8.not_lt.1 h1)
        subst h3
        by_cases ha : a = 0
        · rw [if_pos ha, if_pos ha]; exact SC.cons 0 (SC.cons 255 ih)
        · rw [if_neg ha, if_neg ha]; exact SC.cons _ ih

theorem firstBad_snoc (l : List Int) (x : Int) : firstBad (l ++ [x]) = if firstBad l = 0 then x else firstBad l := by
  induction l with
  | nil =>
    rw [List.nil_append]
    unfold firstBad
    by_cases h : x = 0
    · rw [if_pos h]; simp [firstBad]; exact h.symm
    · rw [if_neg h]; simp
  | cons a l ih =>
    rw [List.cons_append]
    unfold firstBad
    by_cases h : a = 0
    · rw [if_pos h, if_pos h, ih]
    · rw [if_neg h, if_neg h, if_neg h]
theorem SC.flat {g g' : Nat → List Int} {c : Nat → Int} : ∀ (m : Nat), (∀ j, j < m → SC (g j) (g' j) (c j)) → SC ((List.range m).flatMap g) ((List.range m).flatMap g') (firstBad ((List.range m).map c))
  | 0, _ => SC.nil
  | m + 1, h => by
    have h1 := SC.flat m fun j hj => h j (by omega)
    have h2 := h1.app (h m (by omega))
    rw [range_piece, range_piece, List.range_succ, List.map_append, List.map_singleton, firstBad_snoc]
    exact h2
theorem rows_split (g : Nat → List Int) (n m : Nat) (hm : m ≤ n) (hx : ∀ j, j < n → ∃ x r, g j = x :: r ∧ 0 < x) : ∃ q, (List.range n).flatMap g = (List.range m).flatMap g ++ q ∧ (m = n → q = []) ∧ (m < n → ∃ x r, q = x :: r ∧ 0 < x) := by
  induction n with
  | zero => obtain rfl : m = 0 := by omega
            exact ⟨[], by simp, fun _ => rfl, fun h => absurd h (by omega)⟩
  | succ n ih =>
    rcases Nat.lt_or_ge n m with hlt | hge
    · obtain rfl : m = n + 1 := by omega
      exact ⟨[], by simp, fun _ => rfl, fun h => absurd h (by omega)⟩
    · obtain ⟨q, hq, hq1, hq2⟩ := ih hge fun j hj => hx j (by omega)
      rw [range_piece, hq]
      refine ⟨q ++ g n, by rw [List.append_assoc], fun h => absurd h (by omega), fun _ => ?_⟩
      rcases Nat.lt_or_ge m n with h3 | h3
      · obtain ⟨x, r, rfl, hx0⟩ := hq2 h3
        exact ⟨x, r ++ g n, rfl, hx0⟩
      · obtain rfl : m = n := by omega
        rw [hq1 rfl]
        exact hx m (by omega)
/-- Two rows of pieces, each with a mark behind that is below what every piece begins with. -/
theorem SC.rows {g g' : Nat → List Int} {c : Nat → Int} {n n' : Nat} (h : ∀ j, j < n → j < n' → SC (g j) (g' j) (c j)) (h1 : ∀ j, j < n → ∃ x r, g j = x :: r ∧ 0 < x) (h2 : ∀ j, j < n' → ∃ x r, g' j = x :: r ∧ 0 < x) :
    SC ((List.range n).flatMap g ++ [0]) ((List.range n').flatMap g' ++ [0]) (let d := firstBad ((List.range (min n n')).map c); if d = 0 then sgn n n' else d) := by
  obtain ⟨q, hq, hq1, hq2⟩ := rows_split g n (min n n') (Nat.min_le_left _ _) h1
  obtain ⟨q', hq', hq1', hq2'⟩ := rows_split g' n' (min n n') (Nat.min_le_right _ _) h2
  rw [hq, hq', List.append_assoc, List.append_assoc]
  refine (SC.flat (min n n') fun j hj => h j (by omega) (by omega)).app ?_
  unfold sgn
  rcases Nat.lt_trichotomy n n' with h3 | h3 | h3
  · have e : min n n' = n := by omega
    obtain ⟨x, r, rfl, hx0⟩ := hq2' (by omega)
    rw [hq1 e, if_pos (by omega)]
    exact SC.lt hx0 _ _
  · subst h3
    rw [hq1 (by omega), hq1' (by omega), if_neg (by omega), if_neg (by omega)]
    exact SC.refl _
  · have e : min n n' = n' := by omega
    obtain ⟨x, r, rfl, hx0⟩ := hq2 (by omega)
    rw [hq1' e, if_neg (by omega), if_pos (by omega)]
    exact SC.gt hx0 _ _
/-- Rows of bytes of one length: numbers to the base 256. -/
theorem SC.short {a b : Int} (ha : 0 ≤ a ∧ a < 4294967296) (hb : 0 ≤ b ∧ b < 4294967296) : SC (shortI a) (shortI b) (sgn a b) := by
  have h := (SC.byte (a / 16777216 % 256) (b / 16777216 % 256)).app ((SC.byte (a / 65536 % 256) (b / 65536 % 256)).app ((SC.byte (a / 256 % 256) (b / 256 % 256)).app (SC.byte (a % 256) (b % 256))))
  have e : (if sgn (a / 16777216 % 256) (b / 16777216 % 256) = 0 then if sgn (a / 65536 % 256) (b / 65536 % 256) = 0 then if sgn (a / 256 % 256) (b / 256 % 256) = 0 then sgn (a % 256) (b % 256) else sgn (a / 256 % 256) (b / 256 % 256) else sgn (a / 65536 % 256) (b / 65536 % 256) else sgn (a / 16777216 % 256) (b / 16777216 % 256)) = sgn a b := by
    have z : ∀ x y : Int, sgn x y = 0 ↔ x = y := fun x y => by unfold sgn; split <;> (try split) <;> constructor <;> intro h <;> omega
    simp only [z]
    unfold sgn
    by_cases h1 : a / 16777216 % 256 = b / 16777216 % 256
    · rw [if_pos h1]
      by_cases h2 : a / 65536 % 256 = b / 65536 % 256
      · rw [if_pos h2]
        by_cases h3 : a / 256 % 256 = b / 256 % 256
        · rw [if_pos h3]
          by_cases h4 : a < b
          · rw [if_pos h4, if_pos (by omega)]
          · rw [if_neg h4]
            by_cases h5 : b < a
            · rw [if_pos h5, if_neg (by omega), if_pos (by omega)]
            · rw [if_neg h5, if_neg (by omega), if_neg (by omega)]
        · rw [if_neg h3]
          by_cases h4 : a < b
          · rw [if_pos h4, if_pos (by omega)]
          · rw [if_neg h4, if_pos (show b < a by omega), if_neg (by omega), if_pos (by omega)]
      · rw [if_neg h2]
        by_cases h4 : a < b
        · rw [if_pos h4, if_pos (by omega)]
        · rw [if_neg h4, if_pos (show b < a by omega), if_neg (by omega), if_pos (by omega)]
    · rw [if_neg h1]
      by_cases h4 : a < b
      · rw [if_pos h4, if_pos (by omega)]
      · rw [if_neg h4, if_pos (show b < a by omega), if_neg (by omega), if_pos (by omega)]
  rw [e] at h
  exact h
theorem SC.big {a b : Int} (ha : 0 ≤ a ∧ a < 18446744073709551616) (hb : 0 ≤ b ∧ b < 18446744073709551616) : SC (bigI a) (bigI b) (sgn a b) := by
  have h := (SC.short (a := a / 4294967296) (b := b / 4294967296) (by omega) (by omega)).app (SC.short (a := a % 4294967296) (b := b % 4294967296) (by omega) (by omega))
  have e : (if sgn (a / 4294967296) (b / 4294967296) = 0 then sgn (a % 4294967296) (b % 4294967296) else sgn (a / 4294967296) (b / 4294967296)) = sgn a b := by
    have z : ∀ x y : Int, sgn x y = 0 ↔ x = y := fun x y => by unfold sgn; split <;> (try split) <;> constructor <;> intro h <;> omega
    simp only [z]
    unfold sgn
    by_cases h1 : a / 4294967296 = b / 4294967296
    · rw [if_pos h1]
      by_cases h4 : a < b
      · rw [if_pos h4, if_pos (by omega)]
      · rw [if_neg h4]
        by_cases h5 : b < a
        · rw [if_pos h5, if_neg (by omega), if_pos (by omega)]
        · rw [if_neg h5, if_neg (by omega), if_neg (by omega)]
    · rw [if_neg h1]
      by_cases h4 : a < b
      · rw [if_pos h4, if_pos (by omega)]
      · rw [if_neg h4, if_pos (show b < a by omega), if_neg (by omega), if_pos (by omega)]
  rw [e] at h
  exact h
end K
end Go.Proofs.Ytfpakjbaiohcaaa
