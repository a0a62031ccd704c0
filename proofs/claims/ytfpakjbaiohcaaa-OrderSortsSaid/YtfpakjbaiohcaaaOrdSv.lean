/- Keys sort as their values do (chapter 8): values; no program in sight. -/
import Derived.Test.YtfpakjbaiohcaaaOrdSn
import Derived.Laws.BytesArg
import Derived.Lib.Bytes
namespace Go.Proofs.Ytfpakjbaiohcaaa
namespace K
open Op (bytesLess)

def clsI (k : Int) : Int := if k = 4 then 3 else k
def ordP (o : V → V → Int) (st : Bool) (a b : V) (j : Nat) : Int :=
  if (if st then cmpB (a.names.getD j noT).toList (b.names.getD j noT).toList else 0) = 0 then o (a.kids.getD j noV) (b.kids.getD j noV) else if st then cmpB (a.names.getD j noT).toList (b.names.getD j noT).toList else 0
/-- Pieces in turn, then the lengths. -/
def ordK (c : Nat → Int) (n n' : Nat) : Int := if firstBad ((List.range (min n n')).map c) = 0 then sgn n n' else firstBad ((List.range (min n n')).map c)
/-- How two values stand to each other, so many levels deep. -/
def ordV : Nat → V → V → Int
  | 0, _, _ => 0
  | m + 1, a, b =>
    if clsI a.k = clsI b.k then
      if a.k = 2 ∨ a.k = 5 then sgn a.n b.n else if a.k = 3 ∨ a.k = 4 then ordN a.n a.s b.n b.s else if a.k = 6 ∨ a.k = 7 then cmpB a.t.toList b.t.toList
      else ordK (ordP (ordV m) (decide (a.k = 9)) a b) a.kids.length b.kids.length
    else sgn (clsI a.k) (clsI b.k)
/-- The numbers that stand in a value are not too great. -/
def Ran : Nat → V → Prop
  | 0, _ => False
  | f + 1, v => v.n.natAbs < 10 ^ 20 ∧ ∀ x ∈ v.kids, Ran f x
theorem getD_mem {l : List V} {j : Nat} (h : j < l.length) : l.getD j noV ∈ l := by
  rw [List.getD_eq_getElem?_getD, List.getElem?_eq_getElem h]; exact List.getElem_mem h
theorem keyV_head {m : Nat} {v : V} (h : chk m v = 0) : ∃ x r, keyV m v = x :: r ∧ 0 < x := by
  cases m with
  | zero => cases h
  | succ m =>
    refine ⟨_, _, rfl, ?_⟩
    have := (shp_form (chk_shp h)).1
    unfold classI; split
    · omega
    · split <;> omega
theorem piece_head {m : Nat} {st : Bool} {names : List ByteArray} {kids : List V} {j : Nat} (h : chk m (kids.getD j noV) = 0) : ∃ x r, pieceK (keyV m) st names kids j = x :: r ∧ 0 < x := by
  cases st with
  | true => exact ⟨1, _, rfl, by decide⟩
  | false => exact keyV_head h
theorem SC.piece {m : Nat} {st : Bool} {a b : V} {j : Nat} (h : SC (keyV m (a.kids.getD j noV)) (keyV m (b.kids.getD j noV)) (ordV m (a.kids.getD j noV) (b.kids.getD j noV))) :
    SC (pieceK (keyV m) st a.names a.kids j) (pieceK (keyV m) st b.names b.kids j) (ordP (ordV m) st a b j) := by
  cases st with
  | true => exact (SC.cons 1 (SC.text _ _)).app h
  | false => exact h
theorem SC.key : ∀ (m : Nat) {f f' : Nat} {a b : V}, chk m a = 0 → chk m b = 0 → Ran f a → Ran f' b → SC (keyV m a) (keyV m b) (ordV m a b)
  | 0, _, _, _, _, h, _, _, _ => by cases h
  | _ + 1, 0, _, _, _, _, _, h, _ => h.elim
  | _ + 1, _ + 1, 0, _, _, _, _, _, h => h.elim
  | m + 1, f + 1, f' + 1, a, b, ha, hb, ra, rb => by
    obtain ⟨a1, a2, a3, a4, a5, a6, a7, a8⟩ := shp_form (chk_shp ha)
    obtain ⟨b1, b2, b3, b4, b5, b6, b7, b8⟩ := shp_form (chk_shp hb)
    have hka : ∀ j, j < a.kids.length → chk m (a.kids.getD j noV) = 0 := fun j hj => chk_kid ha hj
    have hkb : ∀ j, j < b.kids.length → chk m (b.kids.getD j noV) = 0 := fun j hj => chk_kid hb hj
    have hp : ∀ st, SC ((List.range a.kids.length).flatMap (pieceK (keyV m) st a.names a.kids) ++ [0]) ((List.range b.kids.length).flatMap (pieceK (keyV m) st b.names b.kids) ++ [0]) (ordK (ordP (ordV m) st a b) a.kids.length b.kids.length) := fun st =>
      SC.rows (fun j h1 h2 => SC.piece (SC.key m (hka j h1) (hkb j h2) (ra.2 _ (getD_mem h1)) (rb.2 _ (getD_mem h2)))) (fun j hj => piece_head (hka j hj)) (fun j hj => piece_head (hkb j hj))
    unfold keyV ordV
    by_cases hc : clsI a.k = clsI b.k
    · rw [if_pos hc]
      have hcl : classI a.k = classI b.k := by
        unfold clsI at hc
        unfold classI
        by_cases h1 : a.k = 4
        · rw [if_pos h1] at hc
          by_cases h2 : b.k = 4
          · rw [h1, h2]
          · rw [if_neg h2] at hc; rw [h1, ← hc]; rfl
        · rw [if_neg h1] at hc
          by_cases h2 : b.k = 4
          · rw [if_pos h2] at hc; rw [h2, hc]; rfl
          · rw [if_neg h2] at hc; rw [hc]
      have hk : a.k = b.k ∨ ((a.k = 3 ∨ a.k = 4) ∧ (b.k = 3 ∨ b.k = 4)) := by
        unfold clsI at hc
        split at hc <;> split at hc <;> omega
      rw [hcl]
      refine SC.cons _ ?_
      by_cases k2 : a.k = 2
      · rw [if_pos k2, if_pos (show b.k = 2 by omega), if_pos (Or.inl k2)]
        exact SC.byte _ _
      rw [if_neg k2, if_neg (show ¬ b.k = 2 by omega)]
      by_cases k3 : a.k = 3 ∨ a.k = 4
      · rw [if_pos k3, if_pos (show b.k = 3 ∨ b.k = 4 by omega), if_neg (show ¬ (a.k = 2 ∨ a.k = 5) by omega), if_pos k3]
        exact SC.number ra.1 rb.1 (by omega) (by omega)
      rw [if_neg k3, if_neg (show ¬ (b.k = 3 ∨ b.k = 4) by omega)]
      by_cases k5 : a.k = 5
      · rw [if_pos k5, if_pos (show b.k = 5 by omega), if_pos (Or.inr k5)]
        exact SC.big (by omega) (by omega)
      rw [if_neg k5, if_neg (show ¬ b.k = 5 by omega), if_neg (show ¬ (a.k = 2 ∨ a.k = 5) by omega), if_neg k3]
      by_cases k6 : a.k = 6 ∨ a.k = 7
      · rw [if_pos k6, if_pos (show b.k = 6 ∨ b.k = 7 by omega), if_pos k6]
        exact SC.text _ _
      rw [if_neg k6, if_neg (show ¬ (b.k = 6 ∨ b.k = 7) by omega), if_neg k6]
      by_cases k8 : a.k = 8 ∨ a.k = 9
      · rw [if_pos k8, if_pos (show b.k = 8 ∨ b.k = 9 by omega), show b.k = a.k by omega]
        exact hp _
      · rw [if_neg k8, if_neg (show ¬ (b.k = 8 ∨ b.k = 9) by omega)]
        have l1 : a.kids.length = 0 := shp_one (chk_shp ha) (by omega)
        have l2 : b.kids.length = 0 := shp_one (chk_shp hb) (by omega)
        unfold ordK
        rw [l1, l2]
        exact SC.nil
    · rw [if_neg hc]
      have hlt : ∀ x y : Int, 1 ≤ x ∧ x ≤ 9 → 1 ≤ y ∧ y ≤ 9 → clsI x < clsI y → classI x < classI y := by
        intro x y hx hy h
        unfold clsI at h
        unfold classI
        split at h <;> split at h <;> split <;> (try split) <;> (try split) <;> omega
      rcases Int.lt_trichotomy (clsI a.k) (clsI b.k) with h | h | h
      · rw [sgn_lt h]; exact SC.lt (hlt _ _ a1 b1 h) _ _
      · exact absurd h hc
      · rw [sgn_gt h]; exact SC.gt (hlt _ _ b1 a1 h) _ _
where
  shp_one {v : V} (h : shp v = 0) (e : v.k = 1) : v.kids.length = 0 := by
    unfold shp at h
    by_cases h1 : formB v = false
    · rw [if_pos h1] at h; cases h
    · have hf : formB v = true := by simpa using h1
      unfold formB at hf
      rw [if_pos e] at hf
      simp only [plainB, Bool.and_eq_true, decide_eq_true_eq] at hf
      exact hf.1.2.2

/-- How two rows of values stand to each other. -/
def ordR (l l' : List V) : Int :=
  if firstBad ((List.range (min l.length l'.length)).map fun j => ordV 16 (l.getD j noV) (l'.getD j noV)) = 0 then (l.length : Int) - l'.length
  else firstBad ((List.range (min l.length l'.length)).map fun j => ordV 16 (l.getD j noV) (l'.getD j noV))
theorem flatMap_range (g : V → List Int) (l : List V) : l.flatMap g = (List.range l.length).flatMap fun j => g (l.getD j noV) := by
  have : ∀ i, i ≤ l.length → (l.take i).flatMap g = (List.range i).flatMap fun j => g (l.getD j noV) := by
    intro i
    induction i with
    | zero => intro _; simp
    | succ i ih =>
      intro hi
      rw [range_piece, ← ih (by omega), show l.take (i + 1) = l.take i ++ [l.getD i noV] by rw [List.take_add_one]; simp [show i < l.length by omega], List.flatMap_append]
      simp
  have h := this l.length (Nat.le_refl _)
  rwa [List.take_length] at h
theorem keys_cmp {f f' : Nat} {l l' : List V} (h : firstBad (l.map (chk 16)) = 0) (h' : firstBad (l'.map (chk 16)) = 0) (r : ∀ x ∈ l, Ran f x) (r' : ∀ x ∈ l', Ran f' x) :
    (cmpL (keysV 16 l) (keysV 16 l') = 0 ↔ ordR l l' = 0) ∧ (cmpL (keysV 16 l) (keysV 16 l') = -1 ↔ ordR l l' < 0) := by
  have hk : ∀ j, j < l.length → chk 16 (l.getD j noV) = 0 := fun j hj => by
    have := firstBad_zero.1 h _ (List.mem_map.2 ⟨_, getD_mem hj, rfl⟩); exact this
  have hk' : ∀ j, j < l'.length → chk 16 (l'.getD j noV) = 0 := fun j hj => by
    have := firstBad_zero.1 h' _ (List.mem_map.2 ⟨_, getD_mem hj, rfl⟩); exact this
  obtain ⟨q, hq, hq1, hq2⟩ := rows_split (fun j => keyV 16 (l.getD j noV)) l.length (min l.length l'.length) (Nat.min_le_left _ _) (fun j hj => keyV_head (hk j hj))
  obtain ⟨q', hq', hq1', hq2'⟩ := rows_split (fun j => keyV 16 (l'.getD j noV)) l'.length (min l.length l'.length) (Nat.min_le_right _ _) (fun j hj => keyV_head (hk' j hj))
  have hs : SC ((List.range (min l.length l'.length)).flatMap fun j => keyV 16 (l.getD j noV)) ((List.range (min l.length l'.length)).flatMap fun j => keyV 16 (l'.getD j noV)) (firstBad ((List.range (min l.length l'.length)).map fun j => ordV 16 (l.getD j noV) (l'.getD j noV))) :=
    SC.flat _ fun j hj => SC.key 16 (hk j (by omega)) (hk' j (by omega)) (r _ (getD_mem (by omega))) (r' _ (getD_mem (by omega)))
  unfold keysV ordR
  rw [flatMap_range (keyV 16) l, flatMap_range (keyV 16) l', hq, hq', hs]
  have rng := firstBad_range (fun j => ordV 16 (l.getD j noV) (l'.getD j noV)) (fun j => ordV_range 16 (l.getD j noV) (l'.getD j noV)) (min l.length l'.length)
  generalize firstBad ((List.range (min l.length l'.length)).map fun j => ordV 16 (l.getD j noV) (l'.getD j noV)) = d at rng ⊢
  by_cases hd : d = 0
  · rw [if_pos hd, if_pos hd]
    rcases Nat.lt_trichotomy l.length l'.length with h3 | h3 | h3
    · obtain ⟨x, t, rfl, _⟩ := hq2' (by omega)
      rw [hq1 (by omega)]
      show ((-1 : Int) = 0 ↔ _) ∧ ((-1 : Int) = -1 ↔ _)
      omega
    · rw [hq1 (by omega), hq1' (by omega)]
      show ((0 : Int) = 0 ↔ _) ∧ ((0 : Int) = -1 ↔ _)
      omega
    · obtain ⟨x, t, rfl, _⟩ := hq2 (by omega)
      rw [hq1' (by omega)]
      show ((1 : Int) = 0 ↔ _) ∧ ((1 : Int) = -1 ↔ _)
      omega
  · rw [if_neg hd, if_neg hd]
    omega
where
  sgn_range (x y : Int) : sgn x y = -1 ∨ sgn x y = 0 ∨ sgn x y = 1 := by unfold sgn; split <;> (try split) <;> omega
  firstBad_range (c : Nat → Int) (h : ∀ j, c j = -1 ∨ c j = 0 ∨ c j = 1) (m : Nat) : firstBad ((List.range m).map c) = -1 ∨ firstBad ((List.range m).map c) = 0 ∨ firstBad ((List.range m).map c) = 1 := by
    induction m with
    | zero => exact .inr (.inl rfl)
    | succ m ih =>
      rw [List.range_succ, List.map_append, List.map_singleton, firstBad_snoc]
      split
      · exact h m
      · exact ih
  ordV_range : ∀ (m : Nat) (a b : V), ordV m a b = -1 ∨ ordV m a b = 0 ∨ ordV m a b = 1
    | 0, _, _ => .inr (.inl rfl)
    | m + 1, a, b => by
      unfold ordV
      split
      · split
        · exact sgn_range _ _
        · split
          · unfold ordN
            split
            · rcases sgn_range (a.n.natAbs * 10 ^ b.s.toNat : Nat) (b.n.natAbs * 10 ^ a.s.toNat : Nat) with h | h | h <;> rcases sgn_range a.n 0 with h2 | h2 | h2 <;> rw [h, h2] <;> decide
            · exact sgn_range _ _
          · split
            · exact cmpB_range _ _
            · unfold ordK
              split
              · exact sgn_range _ _
              · refine firstBad_range _ (fun j => ?_) _
                unfold ordP
                by_cases h0 : a.k = 9
                · rw [decide_eq_true h0, if_pos rfl]
                  split
                  · exact ordV_range m _ _
                  · exact cmpB_range _ _
                · rw [decide_eq_false h0, if_neg Bool.false_ne_true, if_pos rfl]
                  exact ordV_range m _ _
      · exact sgn_range _ _

/-- The bytes of a key are bytes. -/
theorem textP_range : ∀ (s : List UInt8), ∀ c ∈ textP s, 0 ≤ c ∧ c ≤ 255
  | [], c, h => by simp [textP] at h
  | a :: s, c, h => by
    rw [textP] at h
    have := a.toNat_lt
    split at h
    · rcases List.mem_cons.1 h with rfl | h
      · omega
      · rcases List.mem_cons.1 h with rfl | h
        · omega
        · exact textP_range s c h
    · rcases List.mem_cons.1 h with rfl | h
      · omega
      · exact textP_range s c h
theorem textK_range (s : List UInt8) : ∀ c ∈ textK s, 0 ≤ c ∧ c ≤ 255 := by
  intro c h
  unfold textK at h
  rcases List.mem_append.1 h with h | h
  · exact textP_range s c h
  · simp at h; omega
theorem numB_range (n s : Int) : ∀ c ∈ numB n s, 0 ≤ c ∧ c ≤ 255 := by
  intro c h
  unfold numB at h
  split at h
  · simp at h; omega
  · split at h
    · unfold flipB at h
      obtain ⟨x, hx, rfl⟩ := List.mem_map.1 h
      have := posB_range _ _ x hx
      omega
    · exact posB_range _ _ c h
theorem bigI_range (n : Int) : ∀ c ∈ bigI n, 0 ≤ c ∧ c ≤ 255 := by
  intro c h
  simp [bigI, shortI] at h
  omega
theorem keyV_range : ∀ (m : Nat) {v : V}, chk m v = 0 → ∀ c ∈ keyV m v, 0 ≤ c ∧ c ≤ 255
  | 0, _, h, _, _ => by cases h
  | m + 1, v, h, c, hc => by
    obtain ⟨a1, a2, a3, a4, a5, a6, a7, a8⟩ := shp_form (chk_shp h)
    unfold keyV at hc
    rcases List.mem_cons.1 hc with rfl | hc
    · unfold classI; split
      · omega
      · split <;> omega
    · split at hc
      · simp at hc; omega
      · split at hc
        · exact numB_range _ _ c hc
        · split at hc
          · exact bigI_range _ c hc
          · split at hc
            · exact textK_range _ c hc
            · split at hc
              · rcases List.mem_append.1 hc with hc | hc
                · obtain ⟨j, hj, hc⟩ := List.mem_flatMap.1 hc
                  have hj' := List.mem_range.1 hj
                  unfold pieceK at hc
                  rcases List.mem_append.1 hc with hc | hc
                  · split at hc
                    · rcases List.mem_cons.1 hc with rfl | hc
                      · omega
                      · exact textK_range _ c hc
                    · simp at hc
                  · exact keyV_range m (chk_kid h hj') c hc
                · simp at hc; omega
              · simp at hc
theorem keysV_range {l : List V} (h : firstBad (l.map (chk 16)) = 0) : ∀ c ∈ keysV 16 l, 0 ≤ c ∧ c ≤ 255 := by
  intro c hc
  obtain ⟨x, hx, hc⟩ := List.mem_flatMap.1 hc
  exact keyV_range 16 (firstBad_zero.1 h _ (List.mem_map.2 ⟨x, hx, rfl⟩)) c hc
theorem cmpB_nums : ∀ {k l : List Int}, (∀ c ∈ k, 0 ≤ c ∧ c ≤ 255) → (∀ c ∈ l, 0 ≤ c ∧ c ≤ 255) → cmpB (k.map fun n => UInt8.ofNat n.toNat) (l.map fun n => UInt8.ofNat n.toNat) = cmpL k l
  | [], [], _, _ => rfl
  | [], _ :: _, _, _ => rfl
  | _ :: _, [], _, _ => rfl
  | a :: k, b :: l, h, h' => by
    have ha := h a (by simp)
    have hb := h' b (by simp)
    have ih := cmpB_nums (k := k) (l := l) (fun c hc => h c (List.mem_cons_of_mem _ hc)) (fun c hc => h' c (List.mem_cons_of_mem _ hc))
    have lt : ∀ x y : Int, 0 ≤ x ∧ x ≤ 255 → 0 ≤ y ∧ y ≤ 255 → (UInt8.ofNat x.toNat < UInt8.ofNat y.toNat ↔ x < y) := by
      intro x y hx hy
      rw [UInt8.lt_iff_toNat_lt, UInt8.toNat_ofNat', UInt8.toNat_ofNat']
      omega
    rw [List.map_cons, List.map_cons, cmpB, cmpL, ih]
    simp only [lt a b ha hb, lt b a hb ha]
theorem keyOf_less {f f' : Nat} {l l' : List V} (h : firstBad (l.map (chk 16)) = 0) (h' : firstBad (l'.map (chk 16)) = 0) (r : ∀ x ∈ l, Ran f x) (r' : ∀ x ∈ l', Ran f' x) :
    bytesLess (strOfNums (keysV 16 l)).toList (strOfNums (keysV 16 l')).toList = decide (ordR l l' < 0) := by
  rw [cmpB_less, Lib.strOfNums_toList, Lib.strOfNums_toList]
  have := (keys_cmp h h' r r').2
  rw [← cmpB_nums (keysV_range h) (keysV_range h')] at this
  exact decide_eq_decide.2 this
theorem keyOf_eq {f f' : Nat} {l l' : List V} (h : firstBad (l.map (chk 16)) = 0) (h' : firstBad (l'.map (chk 16)) = 0) (r : ∀ x ∈ l, Ran f x) (r' : ∀ x ∈ l', Ran f' x) :
    (strOfNums (keysV 16 l) = strOfNums (keysV 16 l')) ↔ ordR l l' = 0 := by
  have h1 := (keys_cmp h h' r r').1
  rw [← h1]
  constructor
  · intro e
    have h2 := cmpB_nums (keysV_range h) (keysV_range h')
    have e2 := congrArg (fun s : ByteArray => s.data.toList) e
    simp only [strOfNums_data] at e2
    rw [e2] at h2
    rw [← h2]
    have : ∀ s : List UInt8, cmpB s s = 0 := by
      intro s
      induction s with
      | nil => rfl
      | cons a s ih => unfold cmpB; simp [ih]
    exact this _
  · intro e; rw [cmpL_zero e]
end K
end Go.Proofs.Ytfpakjbaiohcaaa
