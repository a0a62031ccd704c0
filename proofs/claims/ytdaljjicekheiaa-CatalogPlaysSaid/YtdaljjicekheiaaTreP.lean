/- Texts in order, rows that rise (chapter 13); no program in sight. -/
import Derived.WideShapes
import Derived.Laws.Strings
import GoSem.Op.String
namespace Go.Proofs.Ytdaljjicekheiaa
namespace Tre
open Go.Op

abbrev Ky := ByteArray
theorem bl_irr : ∀ x : List UInt8, bytesLess x x = false
  | [] => rfl
  | a :: r => by
    unfold bytesLess
    have : ¬ a < a := by rw [UInt8.lt_iff_toNat_lt]; omega
    simp [this, bl_irr r]
theorem bl_trans : ∀ {x y z : List UInt8}, bytesLess x y = true → bytesLess y z = true → bytesLess x z = true
  | x, [], _, h, _ => by
    have e : bytesLess x [] = false := by cases x <;> rfl
    rw [e] at h; cases h
  | _, _ :: _, [], _, h => by cases h
  | [], _ :: _, _ :: _, _, _ => rfl
  | a :: x, b :: y, c :: z, h1, h2 => by
    unfold bytesLess at h1 h2 ⊢
    simp only [Bool.or_eq_true, Bool.and_eq_true, decide_eq_true_eq, beq_iff_eq, UInt8.lt_iff_toNat_lt] at h1 h2 ⊢
    rcases h1 with h1 | ⟨rfl, h1⟩
    · rcases h2 with h2 | ⟨rfl, h2⟩
      · left; omega
      · left; exact h1
    · rcases h2 with h2 | ⟨rfl, h2⟩
      · left; exact h2
      · right; exact ⟨rfl, bl_trans h1 h2⟩
theorem bl_tri : ∀ {x y : List UInt8}, bytesLess x y = false → bytesLess y x = false → x = y
  | [], [], _, _ => rfl
  | [], _ :: _, h, _ => by cases h
  | _ :: _, [], _, h => by cases h
  | a :: x, b :: y, h1, h2 => by
    unfold bytesLess at h1 h2
    simp only [Bool.or_eq_false_iff, Bool.and_eq_false_iff, decide_eq_false_iff_not, beq_eq_false_iff_ne, UInt8.lt_iff_toNat_lt] at h1 h2
    have e : a = b := UInt8.toNat_inj.1 (by omega)
    subst e
    have h3 : bytesLess x y = false := by rcases h1.2 with h | h; exact absurd rfl h; exact h
    have h4 : bytesLess y x = false := by rcases h2.2 with h | h; exact absurd rfl h; exact h
    rw [bl_tri h3 h4]
/-- Is a text below another one? -/
def kl (a b : Ky) : Bool := bytesLess a.toList b.toList
theorem ky_eq {a b : Ky} (h : a.toList = b.toList) : a = b := by
  rw [ByteArray.toList_eq, ByteArray.toList_eq] at h
  exact ByteArray.ext (Array.toList_inj.1 h)
theorem kl_irr (a : Ky) : kl a a = false := bl_irr _
theorem kl_trans {a b c : Ky} (h1 : kl a b = true) (h2 : kl b c = true) : kl a c = true := bl_trans h1 h2
theorem kl_tri {a b : Ky} (h1 : kl a b = false) (h2 : kl b a = false) : a = b := ky_eq (bl_tri h1 h2)
theorem kl_asymm {a b : Ky} (h : kl a b = true) : kl b a = false := by
  cases h2 : kl b a with
  | false => rfl
  | true => have := kl_trans h h2; rw [kl_irr] at this; cases this
theorem kl_ne {a b : Ky} (h : kl a b = true) : a ≠ b := fun e => by subst e; rw [kl_irr] at h; cases h
/-- a is not above b, b is below c. -/
theorem kl_le_lt {a b c : Ky} (h1 : kl b a = false) (h2 : kl b c = true) : kl a c = true := by
  cases h3 : kl a b with
  | true => exact kl_trans h3 h2
  | false => rw [kl_tri h3 h1]; exact h2
theorem kl_lt_le {a b c : Ky} (h1 : kl a b = true) (h2 : kl c b = false) : kl a c = true := by
  cases h3 : kl b c with
  | true => exact kl_trans h1 h3
  | false => rw [← kl_tri h3 h2]; exact h1
theorem kl_le_le {a b c : Ky} (h1 : kl b a = false) (h2 : kl c b = false) : kl c a = false := by
  cases h3 : kl c a with
  | false => rfl
  | true => rw [kl_lt_le h3 h1] at h2; cases h2
def kmin (a b : Ky) : Ky := if kl b a then b else a

abbrev KV := Ky × Int
/-- It rises. -/
def Srt (l : List KV) : Prop := l.Pairwise fun a b => kl a.1 b.1 = true
/-- All are below a text; all are above it. -/
def Lo (l : List KV) (k : Ky) : Prop := ∀ e ∈ l, kl e.1 k = true
def Hi (l : List KV) (k : Ky) : Prop := ∀ e ∈ l, kl k e.1 = true
theorem Lo.app {a b : List KV} {k : Ky} : Lo (a ++ b) k ↔ Lo a k ∧ Lo b k := by
  unfold Lo
  simp only [List.mem_append]
  exact ⟨fun h => ⟨fun e he => h e (.inl he), fun e he => h e (.inr he)⟩, fun h e he => he.elim (h.1 e) (h.2 e)⟩
theorem Hi.app {a b : List KV} {k : Ky} : Hi (a ++ b) k ↔ Hi a k ∧ Hi b k := by
  unfold Hi
  simp only [List.mem_append]
  exact ⟨fun h => ⟨fun e he => h e (.inl he), fun e he => h e (.inr he)⟩, fun h e he => he.elim (h.1 e) (h.2 e)⟩
theorem Lo.nil {k : Ky} : Lo [] k := fun _ h => by cases h
theorem Hi.nil {k : Ky} : Hi [] k := fun _ h => by cases h

def getL (k : Ky) : List KV → Option Int
  | [] => none
  | (a, m) :: r => if a = k then some m else getL k r
def insL (k : Ky) (n : Int) : List KV → List KV
  | [] => [(k, n)]
  | (a, m) :: r => if kl a k then (a, m) :: insL k n r else if a = k then (k, n) :: r else (k, n) :: (a, m) :: r
def delL (k : Ky) (l : List KV) : List KV := l.filter fun p => decide (p.1 ≠ k)

theorem getL_lo {k : Ky} : ∀ {a b : List KV}, Lo a k → getL k (a ++ b) = getL k b
  | [], _, _ => rfl
  | (x, m) :: a, b, h => by
    have hx := h (x, m) (by simp)
    simp only [List.cons_append, getL]
    rw [if_neg (kl_ne hx)]
    exact getL_lo fun e he => h e (by simp [he])
theorem getL_hi {k : Ky} : ∀ {a b : List KV}, Hi b k → getL k (a ++ b) = getL k a
  | [], [], _ => rfl
  | [], (x, m) :: b, h => by
    have hx := h (x, m) (by simp)
    simp only [List.nil_append, getL]
    rw [if_neg (fun e => kl_ne hx e.symm)]
    have := getL_hi (a := []) (b := b) fun e he => h e (by simp [he])
    simpa [getL] using this
  | (x, m) :: a, b, h => by
    simp only [List.cons_append, getL]
    rw [getL_hi h]
theorem insL_lo {k : Ky} {n : Int} : ∀ {a b : List KV}, Lo a k → insL k n (a ++ b) = a ++ insL k n b
  | [], _, _ => rfl
  | (x, m) :: a, b, h => by
    have hx := h (x, m) (by simp)
    simp only [List.cons_append, insL]
    rw [if_pos hx, insL_lo fun e he => h e (by simp [he])]
theorem insL_hi {k : Ky} {n : Int} : ∀ {a b : List KV}, Hi b k → insL k n (a ++ b) = insL k n a ++ b
  | [], [], _ => rfl
  | [], (x, m) :: b, h => by
    have hx := h (x, m) (by simp)
    simp only [List.nil_append, insL]
    rw [if_neg (by rw [kl_asymm hx]; exact Bool.false_ne_true), if_neg (fun e => kl_ne hx e.symm)]
    rfl
  | (x, m) :: a, b, h => by
    simp only [List.cons_append, insL]
    split
    · rw [insL_hi h]; rfl
    · split <;> rfl
theorem delL_app {k : Ky} {a b : List KV} : delL k (a ++ b) = delL k a ++ delL k b := by unfold delL; rw [List.filter_append]
theorem delL_lo {k : Ky} {a : List KV} (h : Lo a k) : delL k a = a := by
  unfold delL
  rw [List.filter_eq_self]
  intro e he
  exact decide_eq_true (kl_ne (h e he))
theorem delL_hi {k : Ky} {a : List KV} (h : Hi a k) : delL k a = a := by
  unfold delL
  rw [List.filter_eq_self]
  intro e he
  exact decide_eq_true (fun e2 => kl_ne (h e he) e2.symm)
theorem insL_mem {k : Ky} {n : Int} : ∀ {l : List KV} {e : KV}, e ∈ insL k n l → e = (k, n) ∨ e ∈ l
  | [], e, h => by simp [insL] at h; exact .inl h
  | (a, m) :: r, e, h => by
    unfold insL at h
    split at h
    · rcases List.mem_cons.1 h with h | h
      · exact .inr (by simp [h])
      · rcases insL_mem h with h | h
        · exact .inl h
        · exact .inr (by simp [h])
    · split at h
      · rcases List.mem_cons.1 h with h | h
        · exact .inl h
        · exact .inr (by simp [h])
      · rcases List.mem_cons.1 h with h | h
        · exact .inl h
        · exact .inr h
theorem insL_srt {k : Ky} {n : Int} : ∀ {l : List KV}, Srt l → Srt (insL k n l)
  | [], _ => by simp [insL, Srt]
  | (a, m) :: r, h => by
    obtain ⟨h1, h2⟩ := List.pairwise_cons.1 h
    unfold insL
    split
    · rename_i hk
      refine List.pairwise_cons.2 ⟨fun e he => ?_, insL_srt h2⟩
      rcases insL_mem he with rfl | he
      · exact hk
      · exact h1 e he
    · rename_i hk
      split
      · rename_i he
        subst he
        exact List.pairwise_cons.2 ⟨h1, h2⟩
      · rename_i hne
        have hka : kl k a = true := by
          cases hq : kl k a with
          | true => rfl
          | false => exact absurd (kl_tri (by simpa using hk) hq) hne
        refine List.pairwise_cons.2 ⟨fun e he => ?_, h⟩
        rcases List.mem_cons.1 he with rfl | he
        · exact hka
        · exact kl_trans hka (h1 e he)
theorem delL_srt {k : Ky} {l : List KV} (h : Srt l) : Srt (delL k l) := List.Pairwise.filter _ h
/-- A row that rises, cut at a text. -/
theorem srt_app {a b : List KV} : Srt (a ++ b) ↔ Srt a ∧ Srt b ∧ ∀ x ∈ a, ∀ y ∈ b, kl x.1 y.1 = true := List.pairwise_append
theorem getL_none {k : Ky} : ∀ {l : List KV}, getL k l = none → ∀ e ∈ l, e.1 ≠ k
  | [], _, _, h => by cases h
  | (a, m) :: r, h, e, he => by
    unfold getL at h
    split at h
    · cases h
    · rename_i hne
      rcases List.mem_cons.1 he with rfl | he
      · exact hne
      · exact getL_none h e he
theorem delL_none {k : Ky} {l : List KV} (h : getL k l = none) : delL k l = l := by
  unfold delL
  rw [List.filter_eq_self]
  intro e he
  exact decide_eq_true (getL_none h e he)

/-- Where a text stands, or would stand, in a row. -/
def plc (k : Ky) : List Ky → Nat
  | [] => 0
  | a :: r => if kl a k then plc k r + 1 else 0
theorem plc_le (k : Ky) : ∀ l, plc k l ≤ l.length
  | [] => Nat.le_refl _
  | a :: r => by unfold plc; split <;> simp [plc_le k r]
/-- The walk finds it: the first that is not below. -/
theorem plc_at {k : Ky} : ∀ {l : List Ky} {i : Nat}, i ≤ l.length → (∀ j, j < i → kl (l.getD j ByteArray.empty) k = true) → (i < l.length → kl (l.getD i ByteArray.empty) k = false) → plc k l = i
  | [], i, h, _, _ => by simp at h; subst h; rfl
  | a :: r, 0, _, _, h2 => by
    have := h2 (by simp)
    simp only [List.getD_cons_zero] at this
    unfold plc
    rw [this]; rfl
  | a :: r, i + 1, h, h1, h2 => by
    have h0 := h1 0 (by omega)
    simp only [List.getD_cons_zero] at h0
    unfold plc
    rw [if_pos h0, plc_at (i := i) (by simpa using h) (fun j hj => by have := h1 (j + 1) (by omega); simpa using this) (fun hi => by have := h2 (by simpa using hi); simpa using this)]
theorem ins_at {k : Ky} {n : Int} : ∀ {l : List KV}, Srt l →
    insL k n l = l.take (plc k (l.map Prod.fst)) ++ (k, n) :: l.drop (if (l.map Prod.fst)[plc k (l.map Prod.fst)]? = some k then plc k (l.map Prod.fst) + 1 else plc k (l.map Prod.fst))
  | [], _ => by simp [insL, plc]
  | (a, m) :: r, h => by
    obtain ⟨h1, h2⟩ := List.pairwise_cons.1 h
    simp only [List.map_cons]
    unfold insL plc
    split
    · rw [ins_at h2]
      simp only [List.take_succ_cons, List.getElem?_cons_succ, List.cons_append]
      congr 2
      split <;> simp
    · simp only [List.take_zero, List.nil_append, List.getElem?_cons_zero, Option.some.injEq]
      split <;> simp
theorem getL_at {k : Ky} : ∀ {l : List KV}, Srt l → getL k l = if (l.map Prod.fst)[plc k (l.map Prod.fst)]? = some k then (l[plc k (l.map Prod.fst)]?).map Prod.snd else none
  | [], _ => by simp [getL, plc]
  | (a, m) :: r, h => by
    obtain ⟨h1, h2⟩ := List.pairwise_cons.1 h
    simp only [List.map_cons]
    unfold getL plc
    by_cases hk : kl a k = true
    · rw [if_neg (kl_ne hk), if_pos hk, getL_at h2]
      simp only [List.getElem?_cons_succ]
    · rw [if_neg hk]
      simp only [List.getElem?_cons_zero, Option.some.injEq]
      by_cases e : a = k
      · rw [if_pos e, if_pos e]; rfl
      · rw [if_neg e, if_neg e]
        have hka : kl k a = true := by
          cases hq : kl k a with
          | true => rfl
          | false => exact absurd (kl_tri (by simpa using hk) hq) e
        have hh : Hi r k := fun e he => kl_trans hka (h1 e he)
        have := getL_hi (a := []) hh
        simpa [getL] using this
theorem del_at {k : Ky} : ∀ {l : List KV}, Srt l → delL k l = if (l.map Prod.fst)[plc k (l.map Prod.fst)]? = some k then l.take (plc k (l.map Prod.fst)) ++ l.drop (plc k (l.map Prod.fst) + 1) else l
  | [], _ => by simp [delL]
  | (a, m) :: r, h => by
    obtain ⟨h1, h2⟩ := List.pairwise_cons.1 h
    simp only [List.map_cons]
    unfold plc
    by_cases hk : kl a k = true
    · have hd : delL k ((a, m) :: r) = (a, m) :: delL k r := by
        unfold delL
        rw [List.filter_cons, if_pos (decide_eq_true (kl_ne hk))]
      rw [if_pos hk, hd, del_at h2]
      simp only [List.getElem?_cons_succ]
      split <;> simp
    · rw [if_neg hk]
      simp only [List.getElem?_cons_zero, Option.some.injEq, List.take_zero, List.nil_append]
      by_cases e : a = k
      · subst e
        have hd : delL a ((a, m) :: r) = delL a r := by unfold delL; rw [List.filter_cons_of_neg (by simp)]
        rw [if_pos rfl, hd, delL_hi (fun e he => h1 e he)]
        simp
      · rw [if_neg e]
        have hka : kl k a = true := by
          cases hq : kl k a with
          | true => rfl
          | false => exact absurd (kl_tri (by simpa using hk) hq) e
        exact delL_hi (fun x hx => by
          rcases List.mem_cons.1 hx with rfl | hx
          · exact hka
          · exact kl_trans hka (h1 x hx))
end Tre
end Go.Proofs.Ytdaljjicekheiaa
