/- Numbers' keys (chapter 8): digits; no program in sight. -/
import Derived.WideShapes
namespace Go.Proofs.Ytfpakjbaiohcaaa
namespace K

/-- The digits of a number, the last one first. -/
def digsF : Nat → Nat → List Nat
  | 0, _ => []
  | f + 1, u => if u = 0 then [] else u % 10 :: digsF f (u / 10)
def digs (u : Nat) : List Nat := digsF 20 u
/-- Without the noughts that stand first. -/
def nzs : List Nat → List Nat
  | [] => []
  | a :: r => if a = 0 then nzs r else a :: r
theorem nzs_snoc (A : List Nat) (d : Nat) : nzs (A ++ [d]) = if nzs A = [] then (if d = 0 then [] else [d]) else nzs A ++ [d] := by
  induction A with
  | nil => simp [nzs]
  | cons a A ih =>
    rw [List.cons_append, nzs, nzs]
    by_cases h : a = 0
    · rw [if_pos h, if_pos h, ih]
    · rw [if_neg h, if_neg h, if_neg (by simp)]; simp
theorem digsF_len : ∀ (f u : Nat), (digsF f u).length ≤ f
  | 0, _ => by simp [digsF]
  | f + 1, u => by
    unfold digsF
    split
    · simp
    · simp [digsF_len f (u / 10)]
theorem digsF_lt : ∀ (f u : Nat), ∀ d ∈ digsF f u, d < 10
  | 0, _, d, h => by simp [digsF] at h
  | f + 1, u, d, h => by
    unfold digsF at h
    split at h
    · simp at h
    · rcases List.mem_cons.1 h with rfl | h
      · omega
      · exact digsF_lt f (u / 10) d h
theorem nzs_sub (l : List Nat) : ∀ d ∈ nzs l, d ∈ l := by
  induction l with
  | nil => intro d h; exact h
  | cons a l ih =>
    intro d h
    unfold nzs at h
    split at h
    · exact List.mem_cons_of_mem _ (ih d h)
    · exact h
theorem nzs_len (l : List Nat) : (nzs l).length ≤ l.length := by
  induction l with
  | nil => simp [nzs]
  | cons a l ih => unfold nzs; split <;> simp <;> omega
/-- The digits' bytes, from the first digit on. -/
def digB (ds : List Nat) : List Int := (nzs ds).reverse.map fun d : Nat => (d : Int) + 1
/-- A number's bytes, if it is none below nought. -/
def posB (ds : List Nat) (s : Int) : List Int := ((ds.length : Int) - s + 192) % 256 :: digB ds ++ [0]
def flipB (l : List Int) : List Int := l.map fun c => 255 - c
/-- A number's bytes. -/
def numB (n s : Int) : List Int := if n = 0 then [128] else if n < 0 then flipB (posB (digs n.natAbs) s) else posB (digs n.natAbs) s
theorem posB_len (u : Nat) (s : Int) : (posB (digs u) s).length ≤ 22 := by
  have h1 := nzs_len (digs u)
  have h2 : (digs u).length ≤ 20 := digsF_len 20 u
  simp [posB, digB]
  omega
theorem numB_len (n s : Int) : (numB n s).length ≤ 22 := by
  unfold numB
  have := posB_len n.natAbs s
  split
  · simp
  · split
    · simpa [flipB] using this
    · exact this
theorem digB_range (u : Nat) : ∀ c ∈ digB (digs u), 1 ≤ c ∧ c ≤ 10 := by
  intro c hc
  unfold digB at hc
  obtain ⟨d, hd, rfl⟩ := List.mem_map.1 hc
  have := digsF_lt 20 u d (nzs_sub _ d (List.mem_reverse.1 hd))
  omega
theorem posB_range (u : Nat) (s : Int) : ∀ c ∈ posB (digs u) s, 0 ≤ c ∧ c ≤ 255 := by
  intro c hc
  unfold posB at hc
  simp only [List.mem_append, List.mem_cons, List.mem_nil_iff, or_false] at hc
  rcases hc with (rfl | hc) | rfl
  · omega
  · have := digB_range u c hc; omega
  · omega
end K
end Go.Proofs.Ytfpakjbaiohcaaa
