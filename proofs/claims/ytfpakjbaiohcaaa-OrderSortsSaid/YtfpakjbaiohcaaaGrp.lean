/- How great values are: what the laws look at; no program in sight. -/
import Derived.Test.YtfpakjbaiohcaaaOrdV
namespace Go.Proofs.Ytfpakjbaiohcaaa
namespace K

/-- One by one, as long as it is not too much. -/
def grtK (B : Nat) (g : V → Nat → Nat) : List V → Nat → Nat
  | [], n => n
  | k :: r, n => if n ≤ B then grtK B g r (g k n) else n
/-- How great a value is, so many levels deep. -/
def grt (B : Nat) : Nat → V → Nat → Nat
  | 0, _, n => n
  | f + 1, v, n => grtK B (grt B f) v.kids (n + 1 + v.t.size / 20 + v.names.length)
/-- A value is f deep at most, and its lists are as memory can hold them. -/
def Sml : Nat → V → Prop
  | 0, _ => False
  | f + 1, v => v.names.length ≤ 140737488355328 ∧ v.kids.length ≤ 140737488355328 ∧ ∀ x ∈ v.kids, Sml f x

theorem grtK_over {B : Nat} {g : V → Nat → Nat} {n : Nat} (l : List V) (h : B < n) : grtK B g l n = n := by
  cases l with
  | nil => rfl
  | cons k r => unfold grtK; rw [if_neg (by omega)]
theorem textK_len (l : List UInt8) : (textK l).length ≤ 2 * l.length + 2 := by
  unfold textK
  rw [List.length_append]
  have := textP_le l
  simp
  omega

theorem grtK_key {B f m : Nat} (ih : ∀ (v : V) (n : Nat), Sml f v → chk m v = 0 → grt B f v n ≤ B → n ≤ grt B f v n ∧ (keyV m v).length + 100 * n ≤ 100 * grt B f v n) :
    ∀ (l : List V) (n : Nat), (∀ x ∈ l, Sml f x ∧ chk m x = 0) → grtK B (grt B f) l n ≤ B → n ≤ grtK B (grt B f) l n ∧ (keysV m l).length + 100 * n ≤ 100 * grtK B (grt B f) l n
  | [], n, _, _ => by simp [grtK, keysV]
  | k :: r, n, h, hB => by
    unfold grtK at hB ⊢
    by_cases hn : n ≤ B
    · rw [if_pos hn] at hB ⊢
      have hk := h k List.mem_cons_self
      have hle : grt B f k n ≤ B := by
        rcases Nat.lt_or_ge B (grt B f k n) with h1 | h1
        · rw [grtK_over r h1] at hB; omega
        · exact h1
      have h1 := ih k n hk.1 hk.2 hle
      have h2 := grtK_key ih r (grt B f k n) (fun x hx => h x (List.mem_cons_of_mem _ hx)) hB
      have e : (keysV m (k :: r)).length = (keyV m k).length + (keysV m r).length := by simp [keysV]
      rw [e]
      omega
    · rw [if_neg hn] at hB; omega
theorem pieces_len (ky : V → List Int) (st : Bool) (names : List ByteArray) (kids : List V) (hn : ∀ s ∈ names, s.size ≤ 40) :
    ((List.range kids.length).flatMap (pieceK ky st names kids)).length ≤ 83 * kids.length + (kids.flatMap ky).length := by
  have key : ∀ i, i ≤ kids.length → ((List.range i).flatMap (pieceK ky st names kids)).length ≤ 83 * i + ((kids.take i).flatMap ky).length := by
    intro i
    induction i with
    | zero => intro _; simp
    | succ i ih =>
      intro hi
      have h1 := ih (by omega)
      have ht : kids.take (i + 1) = kids.take i ++ [kids.getD i noV] := by
        rw [List.take_add_one]
        simp [show i < kids.length by omega]
      rw [range_piece, List.length_append, ht, List.flatMap_append, List.length_append]
      have h2 : (pieceK ky st names kids i).length ≤ 83 + ([kids.getD i noV].flatMap ky).length := by
        unfold pieceK
        rw [List.length_append]
        have hs : (names.getD i noT).size ≤ 40 := by
          rcases Nat.lt_or_ge i names.length with h | h
          · rw [List.getD_eq_getElem?_getD, List.getElem?_eq_getElem h]; exact hn _ (List.getElem_mem h)
          · rw [List.getD_eq_getElem?_getD, List.getElem?_eq_none h]; decide
        have hk := textK_len (names.getD i noT).toList
        have hz : (names.getD i noT).toList.length = (names.getD i noT).size := by rw [ByteArray.toList_eq]; rfl
        generalize names.getD i noT = nm at hs hk hz ⊢
        generalize kids.getD i noV = kd
        cases st <;> simp <;> omega
      omega
  have := key kids.length (Nat.le_refl _)
  rwa [List.take_length] at this
theorem grt_key {B : Nat} : ∀ (f m : Nat) (v : V) (n : Nat), Sml f v → chk m v = 0 → grt B f v n ≤ B → n ≤ grt B f v n ∧ (keyV m v).length + 100 * n ≤ 100 * grt B f v n
  | 0, _, _, _, h, _, _ => h.elim
  | _ + 1, 0, _, _, _, h, _ => by cases h
  | f + 1, m + 1, v, n, hs, hc, hB => by
    obtain ⟨-, -, hsk⟩ := hs
    have hk : ∀ x ∈ v.kids, Sml f x ∧ chk m x = 0 := fun x hx => by
      obtain ⟨j, hj, rfl⟩ := List.getElem_of_mem hx
      exact ⟨hsk _ hx, by simpa [hj] using chk_kid hc hj⟩
    unfold grt at hB ⊢
    have h1 := grtK_key (grt_key f m) v.kids _ hk hB
    obtain ⟨-, -, -, -, -, -, -, f9⟩ := shp_form (chk_shp hc)
    refine ⟨by omega, ?_⟩
    have hbody : (keyV (m + 1) v).length ≤ 100 + 40 * (v.t.size / 20) + 83 * v.names.length + (keysV m v.kids).length := by
      have e : keyV (m + 1) v = classI v.k ::
        (if v.k = 2 then [v.n] else if v.k = 3 ∨ v.k = 4 then numB v.n v.s else if v.k = 5 then bigI v.n else if v.k = 6 ∨ v.k = 7 then textK v.t.toList
         else if v.k = 8 ∨ v.k = 9 then (List.range v.kids.length).flatMap (pieceK (keyV m) (decide (v.k = 9)) v.names v.kids) ++ [0] else []) := rfl
      rw [e, List.length_cons]
      by_cases k2 : v.k = 2
      · rw [if_pos k2]; simp; omega
      by_cases k34 : v.k = 3 ∨ v.k = 4
      · rw [if_neg k2, if_pos k34]; have := numB_len v.n v.s; omega
      by_cases k5 : v.k = 5
      · rw [if_neg k2, if_neg k34, if_pos k5]; simp [bigI, shortI]; omega
      by_cases k67 : v.k = 6 ∨ v.k = 7
      · rw [if_neg k2, if_neg k34, if_neg k5, if_pos k67]
        have := textK_len v.t.toList
        have hz : v.t.toList.length = v.t.size := by rw [ByteArray.toList_eq]; rfl
        omega
      by_cases k89 : v.k = 8 ∨ v.k = 9
      · rw [if_neg k2, if_neg k34, if_neg k5, if_neg k67, if_pos k89, List.length_append]
        by_cases k9 : v.k = 9
        · have hp : _ ≤ 83 * v.kids.length + (keysV m v.kids).length := pieces_len (keyV m) (decide (v.k = 9)) v.names v.kids (f9 k9).2
          have := (f9 k9).1
          simp only [List.length_cons, List.length_nil]
          omega
        · have hz : ((List.range v.kids.length).flatMap (pieceK (keyV m) (decide (v.k = 9)) v.names v.kids)).length = (keysV m v.kids).length := by
            have key : ∀ i, i ≤ v.kids.length → (List.range i).flatMap (pieceK (keyV m) (decide (v.k = 9)) v.names v.kids) = (v.kids.take i).flatMap (keyV m) := by
              intro i
              induction i with
              | zero => intro _; simp
              | succ i ih =>
                intro hi
                have ht : v.kids.take (i + 1) = v.kids.take i ++ [v.kids.getD i noV] := by
                  rw [List.take_add_one]
                  simp [show i < v.kids.length by omega]
                rw [range_piece, ih (by omega), ht, List.flatMap_append]
                simp [pieceK, k9]
            rw [key _ (Nat.le_refl _), List.take_length]
            rfl
          rw [hz]; simp; omega
      · rw [if_neg k2, if_neg k34, if_neg k5, if_neg k67, if_neg k89]; simp; omega
    omega
/-- The keys of values that are not too great are not too long. -/
theorem grt_keys {B f : Nat} {l : List V} (hs : ∀ x ∈ l, Sml f x) (h : ¬ B < grtK B (grt B f) l 0) (hc : firstBad (l.map (chk 16)) = 0) : (keysV 16 l).length ≤ 100 * B := by
  have h2 := grtK_key (B := B) (f := f) (m := 16) (fun v n => grt_key f 16 v n) l 0 (fun x hx => ⟨hs x hx, firstBad_zero.1 hc _ (List.mem_map_of_mem hx)⟩) (by omega)
  omega
end K
end Go.Proofs.Ytfpakjbaiohcaaa
