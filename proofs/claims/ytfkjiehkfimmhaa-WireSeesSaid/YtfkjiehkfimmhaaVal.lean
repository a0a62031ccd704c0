/- Values (chapter 5), nested: how they lie in memory, and what is wrong with one. -/
import Derived.Test.YtfkjiehkfimmhaaBaseC
import Derived.Test.YtfkjiehkfimmhaaArgs
import Derived.Deep.Slices
import Derived.Deep.MidRow
namespace Go.Proofs.Ytfkjiehkfimmhaa
open Go.ChangeShapes Go.WideShapes Go.ChangeAt Go.RowKit

inductive V where
  | mk (k n s : Int) (t : ByteArray) (names : List ByteArray) (kids : List V)
namespace V
def k : V → Int | .mk k _ _ _ _ _ => k
def n : V → Int | .mk _ n _ _ _ _ => n
def s : V → Int | .mk _ _ s _ _ _ => s
def t : V → ByteArray | .mk _ _ _ t _ _ => t
def names : V → List ByteArray | .mk _ _ _ _ l _ => l
def kids : V → List V | .mk _ _ _ _ _ l => l
end V
def noV : V := .mk 0 0 0 ByteArray.empty [] []
instance : Inhabited V := ⟨noV⟩
def noT : ByteArray := ByteArray.empty

/-- The slice v reads as the texts l. -/
def Strs (w : World) (v : Value) (l : List ByteArray) : Prop :=
  ∃ sp cap, v = .slice sp l.length cap ∧ l.length ≤ cap ∧ cap ≤ 9223372036854775807 ∧ (∀ j, j < l.length → (l.getD j noT).size ≤ 140737488355328) ∧
    (0 < l.length → ∃ b o, sp = some ⟨b, o, none⟩ ∧ b < w.heap.size ∧ ∀ j, j < l.length → w.cell? ⟨b, o + j, none⟩ = some (.string (l.getD j noT)))
theorem Strs.below {w w' : World} {v : Value} {l : List ByteArray} (h : Strs w v l) (hb : Below w.heap.size w w') : Strs w' v l := by
  obtain ⟨sp, cap, h1, h2, h3, h4, h5⟩ := h
  refine ⟨sp, cap, h1, h2, h3, h4, fun h0 => ?_⟩
  obtain ⟨b, o, e, hlt, hr⟩ := h5 h0
  exact ⟨b, o, e, Nat.lt_of_lt_of_le hlt hb.size, fun j hj => by rw [hb.cell (p := ⟨b, o + j, none⟩) hlt]; exact hr j hj⟩

/-- The slice v reads as l values of six cells each, which P says of. -/
def Six (P : V → List Value → Prop) (w : World) (v : Value) (l : List V) : Prop :=
  ∃ sp cap, v = .slice sp l.length cap ∧ l.length ≤ cap ∧ cap ≤ 9223372036854775807 ∧
    (0 < l.length → ∃ b o, sp = some ⟨b, o, none⟩ ∧ b < w.heap.size ∧ ∀ j, j < l.length → ∃ cs, cs.length = 6 ∧ P (l.getD j noV) cs ∧ w.rangeAt b (o + j * 6) cs)

/-- The six cells of a value that is f deep at most. -/
def IsV : Nat → World → V → List Value → Prop
  | 0, _, _, _ => False
  | f + 1, w, v, cs => ∃ sn sk, cs = [.int .i64 v.k, .int .i64 v.n, .int .i64 v.s, .string v.t, sn, sk] ∧
      (Lit.int .i64 v.k).wf = true ∧ (Lit.int .i64 v.n).wf = true ∧ (Lit.int .i64 v.s).wf = true ∧ v.t.size ≤ 140737488355328 ∧ Strs w sn v.names ∧ Six (IsV f w) w sk v.kids
/-- A row of values. -/
def IsVs (f : Nat) (w : World) (v : Value) (l : List V) : Prop := Six (IsV f w) w v l

theorem Six.below {P P' : V → List Value → Prop} {w w' : World} {v : Value} {l : List V} (h : Six P w v l) (hb : Below w.heap.size w w') (hP : ∀ x cs, P x cs → P' x cs) : Six P' w' v l := by
  obtain ⟨sp, cap, h1, h2, h3, h4⟩ := h
  refine ⟨sp, cap, h1, h2, h3, fun h0 => ?_⟩
  obtain ⟨b, o, e, hlt, hr⟩ := h4 h0
  refine ⟨b, o, e, Nat.lt_of_lt_of_le hlt hb.size, fun j hj => ?_⟩
  obtain ⟨cs, hc, hp, hat⟩ := hr j hj
  exact ⟨cs, hc, hP _ _ hp, fun i u hu => by rw [hb.cell (p := ⟨b, o + j * 6 + i, none⟩) hlt]; exact hat i u hu⟩
theorem IsV.below {w w' : World} (hb : Below w.heap.size w w') : ∀ {f : Nat} {v : V} {cs : List Value}, IsV f w v cs → IsV f w' v cs
  | 0, _, _, h => h
  | _ + 1, _, _, ⟨sn, sk, h1, h2, h3, h4, h5, h6, h7⟩ => ⟨sn, sk, h1, h2, h3, h4, h5, h6.below hb, h7.below hb fun _ _ hp => IsV.below hb hp⟩
theorem IsVs.below {f : Nat} {w w' : World} {v : Value} {l : List V} (h : IsVs f w v l) (hb : Below w.heap.size w w') : IsVs f w' v l := Six.below h hb fun _ _ hp => IsV.below hb hp
theorem IsV.len {f : Nat} {w : World} {v : V} {cs : List Value} (h : IsV f w v cs) : cs.length = 6 := by
  cases f with
  | zero => exact h.elim
  | succ f => obtain ⟨_, _, rfl, _⟩ := h; rfl

/-- What is wrong with a value, but for its kids. -/
def isNameB (s : ByteArray) : Bool := decide (1 ≤ s.size) && decide (s.size ≤ 40)
/-- The names from the second on are each above the one ahead. -/
def risesB : List ByteArray → Bool
  | [] => true
  | [_] => true
  | a :: b :: l => Op.bytesLess a.toList b.toList && risesB (b :: l)
def fieldsB (v : V) : Bool := v.names.all isNameB && risesB v.names && decide (v.names.length = v.kids.length)
def bareB (v : V) : Bool := decide (v.n = 0) && decide (v.s = 0)
def plainB (v : V) : Bool := decide (v.names.length = 0) && decide (v.kids.length = 0)
def noTextB (v : V) : Bool := decide (v.t.size = 0)
def formB (v : V) : Bool :=
  if v.k = 1 then bareB v && plainB v && noTextB v
  else if v.k = 2 then decide (0 ≤ v.n) && decide (v.n ≤ 1) && decide (v.s = 0) && plainB v && noTextB v
  else if v.k = 3 then decide (v.s = 0) && plainB v && noTextB v
  else if v.k = 4 then decide (1 ≤ v.s) && decide (v.s ≤ 18) && decide (¬ v.n.tmod 10 = 0) && plainB v && noTextB v
  else if v.k = 5 then decide (0 ≤ v.n) && decide (v.n ≤ 9007199254740992) && decide (v.s = 0) && plainB v && noTextB v
  else if v.k = 6 ∨ v.k = 7 then bareB v && plainB v
  else if v.k = 8 then bareB v && decide (v.names.length = 0) && noTextB v
  else if v.k = 9 then bareB v && noTextB v
  else false
def shp (v : V) : Int :=
  if formB v = false then 3
  else if 16384 < v.t.size ∨ 200 < v.kids.length then 5
  else if v.k = 9 ∧ fieldsB v = false then 3
  else 0
/-- The first of some that is not 0. -/
def firstBad : List Int → Int
  | [] => 0
  | e :: l => if e = 0 then firstBad l else e
/-- What is wrong with a value, with so many levels left. -/
def chk : Nat → V → Int
  | 0, _ => 9
  | m + 1, v => if shp v = 0 then firstBad (v.kids.map (chk m)) else shp v

theorem firstBad_zero {l : List Int} : firstBad l = 0 ↔ ∀ e ∈ l, e = 0 := by
  induction l with
  | nil => simp [firstBad]
  | cons a l ih =>
    unfold firstBad
    by_cases h : a = 0
    · rw [if_pos h, ih]; simp [h]
    · rw [if_neg h]; simp [h]
theorem firstBad_take {l : List Int} {i : Nat} (hi : i < l.length) (h : ∀ j, j < i → l.getD j 0 = 0) (hn : ¬ l.getD i 0 = 0) : firstBad l = l.getD i 0 := by
  induction l generalizing i with
  | nil => simp at hi
  | cons a l ih =>
    cases i with
    | zero => unfold firstBad; rw [if_neg (by simpa using hn)]; simp
    | succ i =>
      have h0 := h 0 (by omega)
      simp only [List.getD_cons_zero] at h0
      unfold firstBad
      rw [if_pos h0]
      simp only [List.getD_cons_succ] at hn ⊢
      exact ih (by simpa using hi) (fun j hj => by simpa using h (j + 1) (by omega)) hn
theorem firstBad_all {l : List Int} (h : ∀ j, j < l.length → l.getD j 0 = 0) : firstBad l = 0 := by
  rw [firstBad_zero]
  intro e he
  obtain ⟨j, hj, rfl⟩ := List.getElem_of_mem he
  simpa [hj] using h j hj
theorem chk_kid {m : Nat} {v : V} {j : Nat} (h : chk (m + 1) v = 0) (hj : j < v.kids.length) : chk m (v.kids.getD j noV) = 0 := by
  unfold chk at h
  by_cases hs : shp v = 0
  · rw [if_pos hs, firstBad_zero] at h
    exact h _ (List.mem_map.2 ⟨v.kids[j], List.getElem_mem hj, by simp [hj]⟩)
  · rw [if_neg hs] at h; exact (hs h).elim
theorem chk_shp {m : Nat} {v : V} (h : chk (m + 1) v = 0) : shp v = 0 := by
  unfold chk at h
  by_cases hs : shp v = 0
  · exact hs
  · rw [if_neg hs] at h; exact h
theorem chk_map (m : Nat) (l : List V) (j : Nat) (hj : j < l.length) : (l.map (chk m)).getD j 0 = chk m (l.getD j noV) := by simp [hj]

/-- The names rise: the i-th is below the one behind it. -/
theorem rises_iff : ∀ {l : List ByteArray}, risesB l = true ↔ ∀ i, i + 1 < l.length → Op.bytesLess (l.getD i noT).toList (l.getD (i + 1) noT).toList = true
  | [] => by simp [risesB]
  | [a] => by simp [risesB]
  | a :: b :: l => by
    unfold risesB
    rw [Bool.and_eq_true, rises_iff (l := b :: l)]
    constructor
    · rintro ⟨h1, h2⟩ i hi
      cases i with
      | zero => simpa using h1
      | succ i => simpa using h2 i (by simp at hi ⊢; omega)
    · intro h
      exact ⟨by simpa using h 0 (by simp), fun i hi => by simpa using h (i + 1) (by simp at hi ⊢; omega)⟩
end Go.Proofs.Ytfkjiehkfimmhaa
