/- Frames (chapter 4): what they are, when they are read; no program in sight. -/
import Derived.Test.YtfkjiehkfimmhaaCrc
namespace Go.Proofs.Ytfkjiehkfimmhaa
namespace Frm
open Crc
abbrev Byt (l : List Int) : Prop := ∀ c ∈ l, 0 ≤ c ∧ c ≤ 255
def headF (n : Nat) : List Int := be4 n ++ be4 (crcN (be4 n))
def frameL (p : List Int) : List Int := headF p.length ++ (p ++ be4 (crcN (headF p.length ++ p)))
/-- What Decode tells: an error, what the frame holds, how long it is. -/
def decF (l : List Int) : Int × List Int × Nat :=
  if l.length < 8 then (2, [], 0)
  else if num4 (l.drop 4) ≠ crcN (be4 (num4 l)) then (4, [], 0)
  else if 524288 < num4 l then (5, [], 0)
  else if l.length < num4 l + 12 then (2, [], 0)
  else if num4 (l.drop (8 + num4 l)) ≠ crcN (l.take (8 + num4 l)) then (4, [], 0)
  else (0, (l.take (8 + num4 l)).drop 8, num4 l + 12)
theorem headF_len (n : Nat) : (headF n).length = 8 := rfl
theorem frameL_len (p : List Int) : (frameL p).length = p.length + 12 := by
  unfold frameL
  rw [List.length_append, headF_len, List.length_append]
  show 8 + (p.length + 4) = _
  omega
theorem num4_head {n : Nat} (h : n < 4294967296) (r : List Int) : num4 (headF n ++ r) = n := by
  unfold headF
  rw [List.append_assoc]
  exact num4_be4 h _
theorem num4_sum (n : Nat) (r : List Int) : num4 ((headF n ++ r).drop 4) = crcN (be4 n) := by
  show num4 (be4 (crcN (be4 n)) ++ r) = _
  exact num4_be4 (crcN_lt _) r
theorem four {X : List Int} (h : X.length = 4) : ∃ a b c d, X = [a, b, c, d] := by
  match X, h with
  | [a, b, c, d], _ => exact ⟨a, b, c, d, rfl⟩
theorem num4_inj {X Y r r' : List Int} (hx : X.length = 4) (hy : Y.length = 4) (bx : Byt X) (bY : Byt Y) (h : num4 (X ++ r) = num4 (Y ++ r')) : X = Y := by
  obtain ⟨a, b, c, d, rfl⟩ := four hx
  obtain ⟨a', b', c', d', rfl⟩ := four hy
  have h1 := (be4_num4 (bx a (by simp)) (bx b (by simp)) (bx c (by simp)) (bx d (by simp)) r).1
  have h2 := (be4_num4 (bY a' (by simp)) (bY b' (by simp)) (bY c' (by simp)) (bY d' (by simp)) r').1
  have h3 : num4 (a :: b :: c :: d :: r) = num4 (a' :: b' :: c' :: d' :: r') := h
  rw [← h1, h3, h2]
theorem be4_of {X r : List Int} (hx : X.length = 4) (bx : Byt X) : be4 (num4 (X ++ r)) = X := by
  obtain ⟨a, b, c, d, rfl⟩ := four hx
  exact (be4_num4 (bx a (by simp)) (bx b (by simp)) (bx c (by simp)) (bx d (by simp)) r).1
theorem set_ne {X : List Int} {k : Nat} {y : Int} (hk : k < X.length) (h : y ≠ X.getD k 0) : X.set k y ≠ X := fun e => by
  have := congrArg (fun l => l.getD k 0) e
  simp only [List.getD_eq_getElem?_getD, List.getElem?_set, hk, if_pos] at this
  rw [List.getD_eq_getElem?_getD] at h
  exact h (by simpa using this)
theorem set_byt {X : List Int} {k : Nat} {y : Int} (hX : Byt X) (hy : 0 ≤ y ∧ y ≤ 255) : Byt (X.set k y) := fun c hc => (List.mem_or_eq_of_mem_set hc).elim (hX c) fun e => by rw [e]; exact hy
theorem crcN_set {X : List Int} {k : Nat} {y : Int} (hk : k < X.length) (hX : Byt X) (hy : 0 ≤ y ∧ y ≤ 255) (h : y ≠ X.getD k 0) : crcN (X.set k y) ≠ crcN X := by
  have e1 : X.set k y = X.take k ++ (y :: X.drop (k + 1)) := List.set_eq_take_append_cons_drop .. |>.trans (if_pos hk)
  have e2 : X = X.take k ++ (X.getD k 0 :: X.drop (k + 1)) := by
    rw [show X.getD k 0 = X[k] by simp [hk], ← List.drop_eq_getElem_cons hk, List.take_append_drop]
  rw [e1]
  conv => rhs; rw [e2]
  refine crcN_one hy (hX _ ?_) h
  simp [hk]
theorem decF_enc {p : List Int} (hp : p.length ≤ 524288) (r : List Int) : decF (frameL p ++ r) = (0, p, p.length + 12) := by
  have e1 : frameL p ++ r = headF p.length ++ (p ++ (be4 (crcN (headF p.length ++ p)) ++ r)) := by unfold frameL; simp [List.append_assoc]
  have hl : (frameL p ++ r).length = p.length + 12 + r.length := by rw [List.length_append, frameL_len]
  have h1 : num4 (frameL p ++ r) = p.length := by rw [e1]; exact num4_head (by omega) _
  have h2 : num4 ((frameL p ++ r).drop 4) = crcN (be4 p.length) := by rw [e1]; exact num4_sum _ _
  have e2 : frameL p ++ r = (headF p.length ++ p) ++ (be4 (crcN (headF p.length ++ p)) ++ r) := by rw [e1, List.append_assoc]
  have h8 : (headF p.length ++ p).length = 8 + p.length := by rw [List.length_append, headF_len]
  have h3 : (frameL p ++ r).take (8 + p.length) = headF p.length ++ p := by rw [e2, ← h8, List.take_left']; rfl
  have h4 : num4 ((frameL p ++ r).drop (8 + p.length)) = crcN (headF p.length ++ p) := by
    rw [e2, ← h8, List.drop_left' rfl]
    exact num4_be4 (crcN_lt _) r
  unfold decF
  rw [if_neg (by omega), h1, if_neg (by rw [h2]; simp), if_neg (by omega), if_neg (by omega), if_neg (by rw [h4, h3]; simp), h3]
  rfl
/-- A frame that is cut short is refused. -/
theorem decF_cut {p : List Int} (hp : p.length ≤ 524288) {k : Nat} (hk : k < (frameL p).length) : (decF ((frameL p).take k)).1 = 2 := by
  have hl := frameL_len p
  have hlt : ((frameL p).take k).length = k := by rw [List.length_take]; omega
  unfold decF
  by_cases h8 : k < 8
  · rw [if_pos (by omega)]
  have e1 : (frameL p).take k = headF p.length ++ ((p ++ be4 (crcN (headF p.length ++ p))).take (k - 8)) := by
    unfold frameL
    rw [List.take_append, List.take_of_length_le (by rw [headF_len]; omega), headF_len]
  have h1 : num4 ((frameL p).take k) = p.length := by rw [e1]; exact num4_head (by omega) _
  have h2 : num4 (((frameL p).take k).drop 4) = crcN (be4 p.length) := by rw [e1]; exact num4_sum _ _
  rw [if_neg (by omega), h1, if_neg (by rw [h2]; simp), if_neg (by omega), if_pos (by omega)]
/-- A frame of which one byte is another one is refused. -/
theorem decF_one {p : List Int} (hp : p.length ≤ 524288) (hb : Byt p) {k : Nat} {y : Int} (hk : k < (frameL p).length) (hy : 0 ≤ y ∧ y ≤ 255) (hne : y ≠ (frameL p).getD k 0) : (decF ((frameL p).set k y)).1 = 4 := by
  have hl := frameL_len p
  have hls : ((frameL p).set k y).length = p.length + 12 := by rw [List.length_set, hl]
  have hB1 := be4_byt p.length
  have hB2 := be4_byt (crcN (be4 p.length))
  have hB3 := be4_byt (crcN (headF p.length ++ p))
  have hHb : Byt (headF p.length) := fun c hc => by
    unfold headF at hc
    exact (List.mem_append.1 hc).elim (hB1 c) (hB2 c)
  by_cases k4 : k < 4
  · have e0 : frameL p = be4 p.length ++ (be4 (crcN (be4 p.length)) ++ (p ++ be4 (crcN (headF p.length ++ p)))) := by unfold frameL headF; simp [List.append_assoc]
    have e1 : (frameL p).set k y = (be4 p.length).set k y ++ (be4 (crcN (be4 p.length)) ++ (p ++ be4 (crcN (headF p.length ++ p)))) := by
      rw [e0, List.set_append_left _ _ (show k < (be4 p.length).length from k4)]
    have hne' : y ≠ (be4 p.length).getD k 0 := by
      rw [e0, List.getD_eq_getElem?_getD, List.getElem?_append_left (show k < (be4 p.length).length from k4), ← List.getD_eq_getElem?_getD] at hne
      exact hne
    have hl4 : ((be4 p.length).set k y).length = 4 := by rw [List.length_set]; rfl
    have h1 : be4 (num4 ((frameL p).set k y)) = (be4 p.length).set k y := by rw [e1]; exact be4_of hl4 (set_byt hB1 hy)
    have h2 : num4 (((frameL p).set k y).drop 4) = crcN (be4 p.length) := by
      rw [e1, ← hl4, List.drop_left' rfl]
      exact num4_be4 (crcN_lt _) _
    unfold decF
    rw [if_neg (by omega), if_pos]
    rw [h1, h2]
    exact fun e => crcN_set (show k < (be4 p.length).length from k4) hB1 hy hne' e.symm
  by_cases k8 : k < 8
  · have e0 : frameL p = be4 p.length ++ (be4 (crcN (be4 p.length)) ++ (p ++ be4 (crcN (headF p.length ++ p)))) := by unfold frameL headF; simp [List.append_assoc]
    have hk2 : k - 4 < (be4 (crcN (be4 p.length))).length := by show k - 4 < 4; omega
    have e1 : (frameL p).set k y = be4 p.length ++ ((be4 (crcN (be4 p.length))).set (k - 4) y ++ (p ++ be4 (crcN (headF p.length ++ p)))) := by
      rw [e0, List.set_append_right _ _ (show (be4 p.length).length ≤ k by show 4 ≤ k; omega)]
      show be4 p.length ++ (be4 (crcN (be4 p.length)) ++ (p ++ be4 (crcN (headF p.length ++ p)))).set (k - 4) y = _
      rw [List.set_append_left _ _ hk2]
    have hne' : y ≠ (be4 (crcN (be4 p.length))).getD (k - 4) 0 := by
      rw [e0, List.getD_eq_getElem?_getD, List.getElem?_append_right (show (be4 p.length).length ≤ k by show 4 ≤ k; omega)] at hne
      rw [List.getD_eq_getElem?_getD]
      rw [show k - (be4 p.length).length = k - 4 from rfl, List.getElem?_append_left hk2] at hne
      exact hne
    have h1 : num4 ((frameL p).set k y) = p.length := by rw [e1]; exact num4_be4 (by omega) _
    have h2 : num4 (((frameL p).set k y).drop 4) ≠ crcN (be4 p.length) := by
      rw [e1, List.drop_left' (show (be4 p.length).length = 4 from rfl)]
      intro e
      have e2 : num4 ((be4 (crcN (be4 p.length))).set (k - 4) y ++ (p ++ be4 (crcN (headF p.length ++ p)))) = num4 (be4 (crcN (be4 p.length)) ++ []) := by rw [e, num4_be4 (crcN_lt _)]
      exact set_ne hk2 hne' (num4_inj (by rw [List.length_set]; rfl) rfl (set_byt hB2 hy) hB2 e2)
    unfold decF
    rw [if_neg (by omega), h1, if_pos h2]
  -- behind the head
  have hH8 : (headF p.length).length = 8 := rfl
  have e1 : (frameL p).set k y = headF p.length ++ ((p ++ be4 (crcN (headF p.length ++ p))).set (k - 8) y) := by
    unfold frameL
    rw [List.set_append_right _ _ (by omega)]
    rfl
  have hne1 : y ≠ (p ++ be4 (crcN (headF p.length ++ p))).getD (k - 8) 0 := by
    unfold frameL at hne
    rw [List.getD_eq_getElem?_getD, List.getElem?_append_right (by omega)] at hne
    rw [List.getD_eq_getElem?_getD]
    exact hne
  have h1 : num4 ((frameL p).set k y) = p.length := by rw [e1]; exact num4_head (by omega) _
  have h2 : num4 (((frameL p).set k y).drop 4) = crcN (be4 p.length) := by rw [e1]; exact num4_sum _ _
  unfold decF
  rw [if_neg (by omega), h1, if_neg (by rw [h2]; simp), if_neg (by omega), if_neg (by omega), if_pos]
  by_cases kn : k - 8 < p.length
  · have e2 : (frameL p).set k y = (headF p.length ++ p.set (k - 8) y) ++ be4 (crcN (headF p.length ++ p)) := by
      rw [e1, List.set_append_left _ _ kn, List.append_assoc]
    have hl8 : (headF p.length ++ p.set (k - 8) y).length = 8 + p.length := by rw [List.length_append, List.length_set, hH8]
    have hne2 : y ≠ p.getD (k - 8) 0 := by
      rw [List.getD_eq_getElem?_getD, List.getElem?_append_left kn, ← List.getD_eq_getElem?_getD] at hne1
      exact hne1
    rw [e2, List.drop_left' hl8, List.take_left' hl8]
    have h3 : num4 (be4 (crcN (headF p.length ++ p))) = crcN (headF p.length ++ p) := by
      have := num4_be4 (crcN_lt (headF p.length ++ p)) []
      rwa [List.append_nil] at this
    rw [h3]
    have e3 : headF p.length ++ p.set (k - 8) y = (headF p.length ++ p).set k y := by
      rw [List.set_append_right _ _ (by omega)]
      rfl
    rw [e3]
    refine fun e => crcN_set (by rw [List.length_append]; omega) (fun c hc => (List.mem_append.1 hc).elim (hHb c) (hb c)) hy ?_ e.symm
    rw [List.getD_eq_getElem?_getD, List.getElem?_append_right (by omega), ← List.getD_eq_getElem?_getD]
    exact hne2
  · have hk2 : k - 8 - p.length < (be4 (crcN (headF p.length ++ p))).length := by show _ < 4; omega
    have e2 : (frameL p).set k y = (headF p.length ++ p) ++ (be4 (crcN (headF p.length ++ p))).set (k - 8 - p.length) y := by
      rw [e1, List.set_append_right _ _ (by omega), List.append_assoc]
    have hl8 : (headF p.length ++ p).length = 8 + p.length := by rw [List.length_append, hH8]
    have hne2 : y ≠ (be4 (crcN (headF p.length ++ p))).getD (k - 8 - p.length) 0 := by
      rw [List.getD_eq_getElem?_getD, List.getElem?_append_right (by omega), ← List.getD_eq_getElem?_getD] at hne1
      exact hne1
    rw [e2, List.drop_left' hl8, List.take_left' hl8]
    intro e
    have e4 : num4 ((be4 (crcN (headF p.length ++ p))).set (k - 8 - p.length) y ++ []) = num4 (be4 (crcN (headF p.length ++ p)) ++ []) := by rw [List.append_nil, e, num4_be4 (crcN_lt _)]
    exact set_ne hk2 hne2 (num4_inj (by rw [List.length_set]; rfl) rfl (set_byt hB3 hy) hB3 e4)
end Frm
end Go.Proofs.Ytfkjiehkfimmhaa
