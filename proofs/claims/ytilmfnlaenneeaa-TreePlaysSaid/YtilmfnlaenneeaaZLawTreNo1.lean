/- Texts for LawTreNo, part 1 of 6. -/
import Derived.WideShapes
import Derived.Laws.Strings
import GoSem.Op.String
import Derived.Test.YtilmfnlaenneeaaRows
import Derived.WalkKit
import Derived.WalkSpells
import Derived.WalkLawsBesides
import Derived.Deep.QuietTactic
import Derived.BigQuiet
import Derived.OneCell
import Derived.Lib.Hide
import Derived.Laws.Rows
import Derived.Laws.CopyOwn
import Derived.Laws.AppendOwnNone
import Derived.Deep.AppendLies
import Derived.Deep.RegionLawGrows
import Derived.Deep.RegionHeld3
import Derived.ArgAppend
import Derived.Deep.Onto
import Derived.Deep.MidRow
import Derived.Deep.DeepFit
import Derived.Deep.CutBlock
import Derived.Deep.DeepCutAuto
import Derived.RangeFuncNested
import Derived.RangeFuncLeaves
import Derived.Sort.LoopGhostIn
import Derived.IntWalk
/- Texts in order, rows that rise (chapter 13); no program in sight. -/
namespace Go.Proofs.Ytilmfnlaenneeaa
namespace Tre
open Go.Op

abbrev Ky := ByteArray
theorem bl_irr : ∀ x : List UInt8, bytesLess x x = false
  | [] => rfl
  | a :: r => by
    unfold bytesLess
    have : ¬ a < a := by rw [UInt8.lt_iff_toNat_lt]; omega
    simp [this, bl_irr r]
theorem bl_trans : ∀ {x y z : List UInt8}, bytesLess x y = true → bytesLess y z = true → bytesLess x z = true
  | x, [], _, h, _ => by
    have e : bytesLess x [] = false := by cases x <;> rfl
    rw [e] at h; cases h
  | _, _ :: _, [], _, h => by cases h
  | [], _ :: _, _ :: _, _, _ => rfl
  | a :: x, b :: y, c :: z, h1, h2 => by
    unfold bytesLess at h1 h2 ⊢
    simp only [Bool.or_eq_true, Bool.and_eq_true, decide_eq_true_eq, beq_iff_eq, UInt8.lt_iff_toNat_lt] at h1 h2 ⊢
    rcases h1 with h1 | ⟨rfl, h1⟩
    · rcases h2 with h2 | ⟨rfl, h2⟩
      · left; omega
      · left; exact h1
    · rcases h2 with h2 | ⟨rfl, h2⟩
      · left; exact h2
      · right; exact ⟨rfl, bl_trans h1 h2⟩
theorem bl_tri : ∀ {x y : List UInt8}, bytesLess x y = false → bytesLess y x = false → x = y
  | [], [], _, _ => rfl
  | [], _ :: _, h, _ => by cases h
  | _ :: _, [], _, h => by cases h
  | a :: x, b :: y, h1, h2 => by
    unfold bytesLess at h1 h2
    simp only [Bool.or_eq_false_iff, Bool.and_eq_false_iff, decide_eq_false_iff_not, beq_eq_false_iff_ne, UInt8.lt_iff_toNat_lt] at h1 h2
    have e : a = b := UInt8.toNat_inj.1 (by omega)
    subst e
    have h3 : bytesLess x y = false := by rcases h1.2 with h | h; exact absurd rfl h; exact h
    have h4 : bytesLess y x = false := by rcases h2.2 with h | h; exact absurd rfl h; exact h
    rw [bl_tri h3 h4]
/-- Is a text below another one? -/
def kl (a b : Ky) : Bool := bytesLess a.toList b.toList
theorem ky_eq {a b : Ky} (h : a.toList = b.toList) : a = b := by
  rw [ByteArray.toList_eq, ByteArray.toList_eq] at h
  exact ByteArray.ext (Array.toList_inj.1 h)
theorem kl_irr (a : Ky) : kl a a = false := bl_irr _
theorem kl_trans {a b c : Ky} (h1 : kl a b = true) (h2 : kl b c = true) : kl a c = true := bl_trans h1 h2
theorem kl_tri {a b : Ky} (h1 : kl a b = false) (h2 : kl b a = false) : a = b := ky_eq (bl_tri h1 h2)
theorem kl_asymm {a b : Ky} (h : kl a b = true) : kl b a = false := by
  cases h2 : kl b a with
  | false => rfl
  | true => have := kl_trans h h2; rw [kl_irr] at this; cases this
theorem kl_ne {a b : Ky} (h : kl a b = true) : a ≠ b := fun e => by subst e; rw [kl_irr] at h; cases h
/-- a is not above b, b is below c. -/
theorem kl_le_lt {a b c : Ky} (h1 : kl b a = false) (h2 : kl b c = true) : kl a c = true := by
  cases h3 : kl a b with
  | true => exact kl_trans h3 h2
  | false => rw [kl_tri h3 h1]; exact h2
theorem kl_lt_le {a b c : Ky} (h1 : kl a b = true) (h2 : kl c b = false) : kl a c = true := by
  cases h3 : kl b c with
  | true => exact kl_trans h1 h3
  | false => rw [← kl_tri h3 h2]; exact h1
theorem kl_le_le {a b c : Ky} (h1 : kl b a = false) (h2 : kl c b = false) : kl c a = false := by
  cases h3 : kl c a with
  | false => rfl
  | true => rw [kl_lt_le h3 h1] at h2; cases h2
def kmin (a b : Ky) : Ky := if kl b a then b else a

abbrev KV := Ky × Int
/-- It rises. -/
def Srt (l : List KV) : Prop := l.Pairwise fun a b => kl a.1 b.1 = true
/-- All are below a text; all are above it. -/
def Lo (l : List KV) (k : Ky) : Prop := ∀ e ∈ l, kl e.1 k = true
def Hi (l : List KV) (k : Ky) : Prop := ∀ e ∈ l, kl k e.1 = true
theorem Lo.app {a b : List KV} {k : Ky} : Lo (a ++ b) k ↔ Lo a k ∧ Lo b k := by
  unfold Lo
  simp only [List.mem_append]
  exact ⟨fun h => ⟨fun e he => h e (.inl he), fun e he => h e (.inr he)⟩, fun h e he => he.elim (h.1 e) (h.2 e)⟩
theorem Hi.app {a b : List KV} {k : Ky} : Hi (a ++ b) k ↔ Hi a k ∧ Hi b k := by
  unfold Hi
  simp only [List.mem_append]
  exact ⟨fun h => ⟨fun e he => h e (.inl he), fun e he => h e (.inr he)⟩, fun h e he => he.elim (h.1 e) (h.2 e)⟩
theorem Lo.nil {k : Ky} : Lo [] k := fun _ h => by cases h
theorem Hi.nil {k : Ky} : Hi [] k := fun _ h => by cases h

def getL (k : Ky) : List KV → Option Int
  | [] => none
  | (a, m) :: r => if a = k then some m else getL k r
def insL (k : Ky) (n : Int) : List KV → List KV
  | [] => [(k, n)]
  | (a, m) :: r => if kl a k then (a, m) :: insL k n r else if a = k then (k, n) :: r else (k, n) :: (a, m) :: r
def delL (k : Ky) (l : List KV) : List KV := l.filter fun p => decide (p.1 ≠ k)

theorem getL_lo {k : Ky} : ∀ {a b : List KV}, Lo a k → getL k (a ++ b) = getL k b
  | [], _, _ => rfl
  | (x, m) :: a, b, h => by
    have hx := h (x, m) (by simp)
    simp only [List.cons_append, getL]
    rw [if_neg (kl_ne hx)]
    exact getL_lo fun e he => h e (by simp [he])
theorem getL_hi {k : Ky} : ∀ {a b : List KV}, Hi b k → getL k (a ++ b) = getL k a
  | [], [], _ => rfl
  | [], (x, m) :: b, h => by
    have hx := h (x, m) (by simp)
    simp only [List.nil_append, getL]
    rw [if_neg (fun e => kl_ne hx e.symm)]
    have := getL_hi (a := []) (b := b) fun e he => h e (by simp [he])
    simpa [getL] using this
  | (x, m) :: a, b, h => by
    simp only [List.cons_append, getL]
    rw [getL_hi h]
theorem insL_lo {k : Ky} {n : Int} : ∀ {a b : List KV}, Lo a k → insL k n (a ++ b) = a ++ insL k n b
  | [], _, _ => rfl
  | (x, m) :: a, b, h => by
    have hx := h (x, m) (by simp)
    simp only [List.cons_append, insL]
    rw [if_pos hx, insL_lo fun e he => h e (by simp [he])]
theorem insL_hi {k : Ky} {n : Int} : ∀ {a b : List KV}, Hi b k → insL k n (a ++ b) = insL k n a ++ b
  | [], [], _ => rfl
  | [], (x, m) :: b, h => by
    have hx := h (x, m) (by simp)
    simp only [List.nil_append, insL]
    rw [if_neg (by rw [kl_asymm hx]; exact Bool.false_ne_true), if_neg (fun e => kl_ne hx e.symm)]
    rfl
  | (x, m) :: a, b, h => by
    simp only [List.cons_append, insL]
    split
    · rw [insL_hi h]; rfl
    · split <;> rfl
theorem delL_app {k : Ky} {a b : List KV} : delL k (a ++ b) = delL k a ++ delL k b := by unfold delL; rw [List.filter_append]
theorem delL_lo {k : Ky} {a : List KV} (h : Lo a k) : delL k a = a := by
  unfold delL
  rw [List.filter_eq_self]
  intro e he
  exact decide_eq_true (kl_ne (h e he))
theorem delL_hi {k : Ky} {a : List KV} (h : Hi a k) : delL k a = a := by
  unfold delL
  rw [List.filter_eq_self]
  intro e he
  exact decide_eq_true (fun e2 => kl_ne (h e he) e2.symm)
theorem insL_mem {k : Ky} {n : Int} : ∀ {l : List KV} {e : KV}, e ∈ insL k n l → e = (k, n) ∨ e ∈ l
  | [], e, h => by simp [insL] at h; exact .inl h
  | (a, m) :: r, e, h => by
    unfold insL at h
    split at h
    · rcases List.mem_cons.1 h with h | h
      · exact .inr (by simp [h])
      · rcases insL_mem h with h | h
        · exact .inl h
        · exact .inr (by simp [h])
    · split at h
      · rcases List.mem_cons.1 h with h | h
        · exact .inl h
        · exact .inr (by simp [h])
      · rcases List.mem_cons.1 h with h | h
        · exact .inl h
        · exact .inr h
theorem insL_srt {k : Ky} {n : Int} : ∀ {l : List KV}, Srt l → Srt (insL k n l)
  | [], _ => by simp [insL, Srt]
  | (a, m) :: r, h => by
    obtain ⟨h1, h2⟩ := List.pairwise_cons.1 h
    unfold insL
    split
    · rename_i hk
      refine List.pairwise_cons.2 ⟨fun e he => ?_, insL_srt h2⟩
      rcases insL_mem he with rfl | he
      · exact hk
      · exact h1 e he
    · rename_i hk
      split
      · rename_i he
        subst he
        exact List.pairwise_cons.2 ⟨h1, h2⟩
      · rename_i hne
        have hka : kl k a = true := by
          cases hq : kl k a with
          | true => rfl
          | false => exact absurd (kl_tri (by simpa using hk) hq) hne
        refine List.pairwise_cons.2 ⟨fun e he => ?_, h⟩
        rcases List.mem_cons.1 he with rfl | he
        · exact hka
        · exact kl_trans hka (h1 e he)
theorem delL_srt {k : Ky} {l : List KV} (h : Srt l) : Srt (delL k l) := List.Pairwise.filter _ h
/-- A row that rises, cut at a text. -/
theorem srt_app {a b : List KV} : Srt (a ++ b) ↔ Srt a ∧ Srt b ∧ ∀ x ∈ a, ∀ y ∈ b, kl x.1 y.1 = true := List.pairwise_append
theorem getL_none {k : Ky} : ∀ {l : List KV}, getL k l = none → ∀ e ∈ l, e.1 ≠ k
  | [], _, _, h => by cases h
  | (a, m) :: r, h, e, he => by
    unfold getL at h
    split at h
    · cases h
    · rename_i hne
      rcases List.mem_cons.1 he with rfl | he
      · exact hne
      · exact getL_none h e he
theorem delL_none {k : Ky} {l : List KV} (h : getL k l = none) : delL k l = l := by
  unfold delL
  rw [List.filter_eq_self]
  intro e he
  exact decide_eq_true (getL_none h e he)

/-- Where a text stands, or would stand, in a row. -/
def plc (k : Ky) : List Ky → Nat
  | [] => 0
  | a :: r => if kl a k then plc k r + 1 else 0
theorem plc_le (k : Ky) : ∀ l, plc k l ≤ l.length
  | [] => Nat.le_refl _
  | a :: r => by unfold plc; split <;> simp [plc_le k r]
/-- The walk finds it: the first that is not below. -/
theorem plc_at {k : Ky} : ∀ {l : List Ky} {i : Nat}, i ≤ l.length → (∀ j, j < i → kl (l.getD j ByteArray.empty) k = true) → (i < l.length → kl (l.getD i ByteArray.empty) k = false) → plc k l = i
  | [], i, h, _, _ => by simp at h; subst h; rfl
  | a :: r, 0, _, _, h2 => by
    have := h2 (by simp)
    simp only [List.getD_cons_zero] at this
    unfold plc
    rw [this]; rfl
  | a :: r, i + 1, h, h1, h2 => by
    have h0 := h1 0 (by omega)
    simp only [List.getD_cons_zero] at h0
    unfold plc
    rw [if_pos h0, plc_at (i := i) (by simpa using h) (fun j hj => by have := h1 (j + 1) (by omega); simpa using this) (fun hi => by have := h2 (by simpa using hi); simpa using this)]
theorem ins_at {k : Ky} {n : Int} : ∀ {l : List KV}, Srt l →
    insL k n l = l.take (plc k (l.map Prod.fst)) ++ (k, n) :: l.drop (if (l.map Prod.fst)[plc k (l.map Prod.fst)]? = some k then plc k (l.map Prod.fst) + 1 else plc k (l.map Prod.fst))
  | [], _ => by simp [insL, plc]
  | (a, m) :: r, h => by
    obtain ⟨h1, h2⟩ := List.pairwise_cons.1 h
    simp only [List.map_cons]
    unfold insL plc
    split
    · rw [ins_at h2]
      simp only [List.take_succ_cons, List.getElem?_cons_succ, List.cons_append]
      congr 2
      split <;> simp
    · simp only [List.take_zero, List.nil_append, List.getElem?_cons_zero, Option.some.injEq]
      split <;> simp
theorem getL_at {k : Ky} : ∀ {l : List KV}, Srt l → getL k l = if (l.map Prod.fst)[plc k (l.map Prod.fst)]? = some k then (l[plc k (l.map Prod.fst)]?).map Prod.snd else none
  | [], _ => by simp [getL, plc]
  | (a, m) :: r, h => by
    obtain ⟨h1, h2⟩ := List.pairwise_cons.1 h
    simp only [List.map_cons]
    unfold getL plc
    by_cases hk : kl a k = true
    · rw [if_neg (kl_ne hk), if_pos hk, getL_at h2]
      simp only [List.getElem?_cons_succ]
    · rw [if_neg hk]
      simp only [List.getElem?_cons_zero, Option.some.injEq]
      by_cases e : a = k
      · rw [if_pos e, if_pos e]; rfl
      · rw [if_neg e, if_neg e]
        have hka : kl k a = true := by
          cases hq : kl k a with
          | true => rfl
          | false => exact absurd (kl_tri (by simpa using hk) hq) e
        have hh : Hi r k := fun e he => kl_trans hka (h1 e he)
        have := getL_hi (a := []) hh
        simpa [getL] using this
theorem del_at {k : Ky} : ∀ {l : List KV}, Srt l → delL k l = if (l.map Prod.fst)[plc k (l.map Prod.fst)]? = some k then l.take (plc k (l.map Prod.fst)) ++ l.drop (plc k (l.map Prod.fst) + 1) else l
  | [], _ => by simp [delL]
  | (a, m) :: r, h => by
    obtain ⟨h1, h2⟩ := List.pairwise_cons.1 h
    simp only [List.map_cons]
    unfold plc
    by_cases hk : kl a k = true
    · have hd : delL k ((a, m) :: r) = (a, m) :: delL k r := by
        unfold delL
        rw [List.filter_cons, if_pos (decide_eq_true (kl_ne hk))]
      rw [if_pos hk, hd, del_at h2]
      simp only [List.getElem?_cons_succ]
      split <;> simp
    · rw [if_neg hk]
      simp only [List.getElem?_cons_zero, Option.some.injEq, List.take_zero, List.nil_append]
      by_cases e : a = k
      · subst e
        have hd : delL a ((a, m) :: r) = delL a r := by unfold delL; rw [List.filter_cons_of_neg (by simp)]
        rw [if_pos rfl, hd, delL_hi (fun e he => h1 e he)]
        simp
      · rw [if_neg e]
        have hka : kl k a = true := by
          cases hq : kl k a with
          | true => rfl
          | false => exact absurd (kl_tri (by simpa using hk) hq) e
        exact delL_hi (fun x hx => by
          rcases List.mem_cons.1 hx with rfl | hx
          · exact hka
          · exact kl_trans hka (h1 x hx))
end Tre
end Go.Proofs.Ytilmfnlaenneeaa

/- Trees of texts (chapter 13): what lies in them, and where; no program in sight. -/
namespace Go.Proofs.Ytilmfnlaenneeaa
namespace Tre

/-- A tree of a depth: a leaf with its texts, or a node with its kids; each has its block. -/
def Tr : Nat → Type
  | 0 => Nat × List KV
  | d + 1 => Nat × List (Tr d)
def mk0 (b : Nat) (es : List KV) : Tr 0 := (b, es)
def mkS {d : Nat} (b : Nat) (l : List (Tr d)) : Tr (d + 1) := (b, l)
def blk : (d : Nat) → Tr d → Nat
  | 0, t => t.1
  | _ + 1, t => t.1
def els : (d : Nat) → Tr d → List KV
  | 0, t => t.2
  | d + 1, t => List.flatMap (els d) t.2
def lvs : (d : Nat) → Tr d → List (Nat × List KV)
  | 0, t => [(t.1, t.2)]
  | d + 1, t => List.flatMap (lvs d) t.2
def bks : (d : Nat) → Tr d → List Nat
  | 0, t => [t.1]
  | d + 1, t => t.1 :: List.flatMap (bks d) t.2
def cnt : (d : Nat) → Tr d → Nat
  | 0, t => List.length t.2
  | _ + 1, t => List.length t.2
def fstK : List KV → Ky
  | [] => ByteArray.empty
  | e :: _ => e.1
def fk (d : Nat) (t : Tr d) : Ky := fstK (els d t)
structure En where
  key : Ky
  num : Int
  kid : Option Nat
def leafE (es : List KV) : List En := es.map fun e => ⟨e.1, e.2, none⟩
def kidE (d : Nat) (s : Tr d) : En := ⟨fk d s, 0, some (blk d s)⟩
def ents : (d : Nat) → Tr d → List En
  | 0, t => leafE t.2
  | d + 1, t => List.map (kidE d) t.2
/-- What a node is in memory. -/
structure Nd where
  leaf : Bool
  es : List En
  next : Option Nat
abbrev St := Nat → Option Nd
def upd (st : St) (b : Nat) (nd : Nd) : St := fun x => if x = b then some nd else st x
theorem upd_eq (st : St) (b : Nat) (nd : Nd) : upd st b nd b = some nd := by simp [upd]
theorem upd_ne {st : St} {b x : Nat} {nd : Nd} (h : x ≠ b) : upd st b nd x = st x := by simp [upd, h]
theorem upd_upd (st : St) (b : Nat) (x y : Nd) : upd (upd st b x) b y = upd st b y := by funext z; unfold upd; split <;> rfl
/-- The nodes above the leaves. -/
def RepI : (d : Nat) → St → Tr d → Prop
  | 0, _, _ => True
  | d + 1, st, t => st t.1 = some ⟨false, ents (d + 1) t, none⟩ ∧ ∀ s, List.Mem s t.2 → RepI d st s
def hd (l : List (Nat × List KV)) (nx : Option Nat) : Option Nat :=
  match l with
  | [] => nx
  | x :: _ => some x.1
/-- The leaves, one behind the other. -/
def Lnk (st : St) : List (Nat × List KV) → Option Nat → Prop
  | [], _ => True
  | x :: r, nx => st x.1 = some ⟨true, leafE x.2, hd r nx⟩ ∧ Lnk st r nx
theorem hd_app (a b : List (Nat × List KV)) (nx : Option Nat) : hd (a ++ b) nx = hd a (hd b nx) := by cases a <;> rfl
theorem Lnk.app {st : St} : ∀ {a b : List (Nat × List KV)} {nx : Option Nat}, Lnk st (a ++ b) nx ↔ Lnk st a (hd b nx) ∧ Lnk st b nx
  | [], b, nx => by simp [Lnk]
  | x :: a, b, nx => by
    rw [List.cons_append]
    simp only [Lnk]
    rw [Lnk.app, hd_app, and_assoc]
theorem Lnk.congr {st st' : St} : ∀ {a : List (Nat × List KV)} {nx : Option Nat}, Lnk st a nx → (∀ x ∈ a, st' x.1 = st x.1) → Lnk st' a nx
  | [], _, _, _ => trivial
  | x :: a, nx, h, hc => ⟨by rw [hc x (by simp)]; exact h.1, h.2.congr fun y hy => hc y (by simp [hy])⟩
theorem blk_mem : ∀ (d : Nat) (t : Tr d), blk d t ∈ bks d t
  | 0, t => by simp [blk, bks]
  | d + 1, t => by simp [blk, bks]
theorem lvs_bks : ∀ (d : Nat) (t : Tr d) (x : Nat × List KV), x ∈ lvs d t → x.1 ∈ bks d t
  | 0, t, x, h => by simp [lvs] at h; subst h; simp [bks]
  | d + 1, t, x, h => by
    obtain ⟨s, hs, hx⟩ := List.mem_flatMap.1 h
    exact List.mem_cons_of_mem _ (List.mem_flatMap.2 ⟨s, hs, lvs_bks d s x hx⟩)
theorem RepI.congr : ∀ {d : Nat} {st st' : St} {t : Tr d}, RepI d st t → (∀ b ∈ bks d t, st' b = st b) → RepI d st' t
  | 0, _, _, _, _, _ => trivial
  | d + 1, st, st', t, h, hc => ⟨by rw [hc t.1 (by simp [bks])]; exact h.1, fun s hs => (h.2 s hs).congr fun b hb => hc b (List.mem_cons_of_mem _ (List.mem_flatMap.2 ⟨s, hs, hb⟩))⟩
theorem els_lvs : ∀ (d : Nat) (t : Tr d), els d t = (lvs d t).flatMap Prod.snd
  | 0, t => by simp [els, lvs]
  | d + 1, t => by
    show List.flatMap (els d) t.2 = List.flatMap Prod.snd (List.flatMap (lvs d) t.2)
    rw [List.flatMap_assoc]
    exact congrArg (fun f => List.flatMap f t.2) (funext (els_lvs d))

/-- How many there may be in each. -/
def Mn : (d : Nat) → Tr d → Prop
  | 0, t => List.length t.2 ≤ 8
  | d + 1, t => List.length t.2 ≤ 8 ∧ ∀ s, List.Mem s t.2 → 4 ≤ cnt d s ∧ Mn d s
theorem Mn.le : ∀ {d : Nat} {t : Tr d}, Mn d t → cnt d t ≤ 8
  | 0, _, h => h
  | _ + 1, _, h => h.1
theorem els_ne : ∀ {d : Nat} {t : Tr d}, Mn d t → 1 ≤ cnt d t → els d t ≠ []
  | 0, t, _, h => by intro e; simp only [els] at e; simp only [cnt] at h; rw [e] at h; simp at h
  | d + 1, t, hm, h => by
    obtain ⟨b, l⟩ := t
    cases l with
    | nil => simp [cnt] at h
    | cons s l =>
      intro e
      have h1 := hm.2 s (List.Mem.head _)
      have h2 := els_ne h1.2 (by omega)
      simp only [els, List.flatMap_cons, List.append_eq_nil_iff] at e
      exact h2 e.1
theorem lvs_ne : ∀ {d : Nat} {t : Tr d}, Mn d t → 1 ≤ cnt d t → lvs d t ≠ []
  | 0, t, _, _ => by simp [lvs]
  | d + 1, t, hm, h => by
    obtain ⟨b, l⟩ := t
    cases l with
    | nil => simp [cnt] at h
    | cons s l =>
      intro e
      have h1 := hm.2 s (List.Mem.head _)
      have h2 := lvs_ne h1.2 (by omega)
      simp only [lvs, List.flatMap_cons, List.append_eq_nil_iff] at e
      exact h2 e.1
theorem ents_len : ∀ (d : Nat) (t : Tr d), (ents d t).length = cnt d t
  | 0, t => by simp [ents, cnt, leafE]
  | d + 1, t => by simp [ents, cnt]
/-- Many texts, few nodes. -/
theorem bks_few : ∀ {d : Nat} {t : Tr d}, Mn d t → 4 ≤ cnt d t → 3 * (bks d t).length + 1 ≤ (els d t).length
  | 0, t, _, h => by simp only [cnt] at h; simp only [bks, els, List.length_singleton]; omega
  | d + 1, t, hm, h => by
    obtain ⟨b, l⟩ := t
    have key : ∀ l : List (Tr d), (∀ s, List.Mem s l → 4 ≤ cnt d s ∧ Mn d s) → 3 * (l.flatMap (bks d)).length + l.length ≤ (l.flatMap (els d)).length := by
      intro l
      induction l with
      | nil => intro _; simp
      | cons s l ih =>
        intro hl
        have h1 := ih fun x hx => hl x (List.Mem.tail _ hx)
        have h2 := hl s (List.Mem.head _)
        have h3 := bks_few h2.2 h2.1
        simp only [List.flatMap_cons, List.length_append, List.length_cons]
        omega
    have h2 := key l hm.2
    simp only [cnt] at h
    simp only [bks, els, List.length_cons]
    omega
theorem els_many : ∀ {d : Nat} {t : Tr d}, Mn d t → 4 ≤ cnt d t → 4 ^ (d + 1) ≤ (els d t).length
  | 0, t, _, h => by simp only [cnt] at h; simpa [els] using h
  | d + 1, t, hm, h => by
    obtain ⟨b, l⟩ := t
    have key : ∀ l : List (Tr d), (∀ s, List.Mem s l → 4 ≤ cnt d s ∧ Mn d s) → l.length * 4 ^ (d + 1) ≤ (l.flatMap (els d)).length := by
      intro l
      induction l with
      | nil => intro _; simp
      | cons s l ih =>
        intro hl
        have h1 := ih fun x hx => hl x (List.Mem.tail _ hx)
        have h2 := hl s (List.Mem.head _)
        have h3 := els_many h2.2 h2.1
        simp only [List.flatMap_cons, List.length_append, List.length_cons, Nat.succ_mul]
        omega
    have h2 := key l hm.2
    simp only [cnt] at h
    simp only [els]
    have : 4 * 4 ^ (d + 1) ≤ l.length * 4 ^ (d + 1) := Nat.mul_le_mul_right _ h
    rw [Nat.pow_succ]
    omega

/-- Under which kid a text stands. -/
def kidG (k : Ky) (l : List Ky) : Nat → Nat
  | 0 => 0
  | i + 1 => if kl k (l.getD (i + 1) ByteArray.empty) then kidG k l i else i + 1
theorem kidG_spec (k : Ky) (l : List Ky) : ∀ n, kidG k l n ≤ n ∧ (∀ j, kidG k l n < j → j ≤ n → kl k (l.getD j ByteArray.empty) = true) ∧ (kidG k l n = 0 ∨ kl k (l.getD (kidG k l n) ByteArray.empty) = false)
  | 0 => ⟨Nat.le_refl _, fun j h1 h2 => by simp [kidG] at h1; omega, .inl rfl⟩
  | i + 1 => by
    obtain ⟨h1, h2, h3⟩ := kidG_spec k l i
    unfold kidG
    split
    · rename_i hk
      refine ⟨by omega, fun j hj hj2 => ?_, h3⟩
      rcases Nat.lt_or_ge i j with h | h
      · obtain rfl : j = i + 1 := by omega
        exact hk
      · exact h2 j hj h
    · rename_i hk
      exact ⟨Nat.le_refl _, fun j hj hj2 => by omega, .inr (by simpa using hk)⟩
theorem fstK_le {l : List KV} (h : Srt l) : ∀ e ∈ l, kl e.1 (fstK l) = false := by
  cases l with
  | nil => intro e he; cases he
  | cons a r =>
    intro e he
    rcases List.mem_cons.1 he with rfl | he
    · exact kl_irr _
    · exact kl_asymm ((List.pairwise_cons.1 h).1 e he)
theorem fstK_mem {l : List KV} (h : l ≠ []) : ∃ e ∈ l, e.1 = fstK l := by
  cases l with
  | nil => exact absurd rfl h
  | cons a r => exact ⟨a, by simp, rfl⟩
/-- The kid that the walk finds parts the kids. -/
theorem kid_cut {d : Nat} {k : Ky} {ts : List (Tr d)} (hne : ∀ s ∈ ts, els d s ≠ []) (hs : Srt (ts.flatMap (els d))) (h0 : ts ≠ []) :
    ∃ l s r, ts = l ++ s :: r ∧ l.length = kidG k (ts.map (fk d)) (ts.length - 1) ∧ Lo (l.flatMap (els d)) k ∧ Hi (r.flatMap (els d)) k ∧ (l ≠ [] → kl k (fk d s) = false) := by
  obtain ⟨h1, h2, h3⟩ := kidG_spec k (ts.map (fk d)) (ts.length - 1)
  have hlen : 0 < ts.length := List.length_pos_iff.2 h0
  generalize kidG k (ts.map (fk d)) (ts.length - 1) = i at h1 h2 h3
  have hi : i < ts.length := by omega
  have hts : ts = ts.take i ++ ts[i] :: ts.drop (i + 1) := by rw [← List.drop_eq_getElem_cons hi, List.take_append_drop]
  have hget : ∀ j (hj : j < ts.length), (ts.map (fk d)).getD j ByteArray.empty = fk d ts[j] := fun j hj => by simp [hj]
  refine ⟨ts.take i, ts[i], ts.drop (i + 1), hts, by rw [List.length_take]; omega, ?_, ?_, ?_⟩
  · rw [hts] at hs
    simp only [List.flatMap_append, List.flatMap_cons] at hs
    intro e he
    rcases h3 with rfl | h3
    · simp at he
    · obtain ⟨q, hq, hqk⟩ := fstK_mem (hne ts[i] (List.getElem_mem hi))
      have := (srt_app.1 hs).2.2 e he q (List.mem_append_left _ hq)
      rw [hqk] at this
      rw [hget i hi] at h3
      exact kl_lt_le this h3
  · intro e he
    obtain ⟨s, hsm, he⟩ := List.mem_flatMap.1 he
    obtain ⟨j, hj, rfl⟩ := List.getElem_of_mem hsm
    rw [List.length_drop] at hj
    have hk := h2 (i + 1 + j) (by omega) (by omega)
    rw [hget _ (by omega)] at hk
    rw [List.getElem_drop] at he
    have hss : Srt (els d ts[i + 1 + j]) := by
      have := hts ▸ hs
      have h5 : ∀ (l : List (Tr d)), Srt (l.flatMap (els d)) → ∀ s ∈ l, Srt (els d s) := by
        intro l
        induction l with
        | nil => intro _ s h; cases h
        | cons a l ih =>
          intro hl s hsm
          rw [List.flatMap_cons] at hl
          rcases List.mem_cons.1 hsm with rfl | hsm
          · exact (srt_app.1 hl).1
          · exact ih (srt_app.1 hl).2.1 s hsm
      exact h5 ts hs _ (List.getElem_mem _)
    have hle := fstK_le hss e he
    exact kl_lt_le hk hle
  · intro hl
    rcases h3 with rfl | h3
    · simp at hl
    · rw [hget i hi] at h3; exact h3
end Tre
end Go.Proofs.Ytilmfnlaenneeaa

/- Trees of texts (chapter 13): a place in a tree; a node is cut in two; a text is laid; no program in sight. -/
namespace Go.Proofs.Ytilmfnlaenneeaa
namespace Tre

inductive Ctx : Nat → Nat → Type
  | top {d : Nat} : Ctx d d
  | down {D d : Nat} (c : Ctx D (d + 1)) (b : Nat) (l r : List (Tr d)) : Ctx D d
def plug : {D d : Nat} → Ctx D d → Tr d → Tr D
  | _, _, .top, t => t
  | _, _, .down c b l r, t => plug c (mkS b (l ++ t :: r))
def cl : {D d : Nat} → Ctx D d → List KV
  | _, _, .top => []
  | _, d, .down c _ l _ => cl c ++ l.flatMap (els d)
def cr : {D d : Nat} → Ctx D d → List KV
  | _, _, .top => []
  | _, d, .down c _ _ r => r.flatMap (els d) ++ cr c
def ll : {D d : Nat} → Ctx D d → List (Nat × List KV)
  | _, _, .top => []
  | _, d, .down c _ l _ => ll c ++ l.flatMap (lvs d)
def lr : {D d : Nat} → Ctx D d → List (Nat × List KV)
  | _, _, .top => []
  | _, d, .down c _ _ r => r.flatMap (lvs d) ++ lr c
def cb : {D d : Nat} → Ctx D d → List Nat
  | _, _, .top => []
  | _, d, .down c b l r => cb c ++ b :: (l.flatMap (bks d) ++ r.flatMap (bks d))
theorem els_mkS {d : Nat} (b : Nat) (l : List (Tr d)) : els (d + 1) (mkS b l) = l.flatMap (els d) := rfl
theorem lvs_mkS {d : Nat} (b : Nat) (l : List (Tr d)) : lvs (d + 1) (mkS b l) = l.flatMap (lvs d) := rfl
theorem bks_mkS {d : Nat} (b : Nat) (l : List (Tr d)) : bks (d + 1) (mkS b l) = b :: l.flatMap (bks d) := rfl
theorem cnt_mkS {d : Nat} (b : Nat) (l : List (Tr d)) : cnt (d + 1) (mkS b l) = l.length := rfl
theorem ents_mkS {d : Nat} (b : Nat) (l : List (Tr d)) : ents (d + 1) (mkS b l) = l.map (kidE d) := rfl
theorem els_plug : ∀ {D d : Nat} (c : Ctx D d) (t : Tr d), els D (plug c t) = cl c ++ els d t ++ cr c
  | _, _, .top, t => by simp [plug, cl, cr]
  | _, _, .down c b l r, t => by
    unfold plug cl cr
    rw [els_plug c, els_mkS, List.flatMap_append, List.flatMap_cons]
    simp only [List.append_assoc]
theorem lvs_plug : ∀ {D d : Nat} (c : Ctx D d) (t : Tr d), lvs D (plug c t) = ll c ++ lvs d t ++ lr c
  | _, _, .top, t => by simp [plug, ll, lr]
  | _, _, .down c b l r, t => by
    unfold plug ll lr
    rw [lvs_plug c, lvs_mkS, List.flatMap_append, List.flatMap_cons]
    simp only [List.append_assoc]
theorem bks_plug : ∀ {D d : Nat} (c : Ctx D d) (t : Tr d), (bks D (plug c t)).Perm (cb c ++ bks d t)
  | _, _, .top, t => by simp [plug, cb]
  | _, _, .down c b l r, t => by
    unfold plug cb
    refine (bks_plug c _).trans ?_
    rw [bks_mkS, List.flatMap_append, List.flatMap_cons, List.append_assoc, List.cons_append, List.append_assoc]
    refine List.Perm.append_left _ (List.Perm.cons _ (List.Perm.append_left _ ?_))
    exact List.perm_append_comm
def RepC (st : St) (k : Ky) : {D d : Nat} → Ctx D d → Tr d → Prop
  | _, _, .top, _ => True
  | _, d, .down c b l r, t => st b = some ⟨false, l.map (kidE d) ++ ⟨kmin (fk d t) k, 0, some (blk d t)⟩ :: r.map (kidE d), none⟩ ∧ (∀ s ∈ l, RepI d st s) ∧ (∀ s ∈ r, RepI d st s) ∧ RepC st k c (mkS b (l ++ t :: r))
theorem RepC_top {st : St} {k : Ky} {d : Nat} {t : Tr d} : RepC st k .top t := by unfold RepC; trivial
theorem RepC_down {st : St} {k : Ky} {D d : Nat} {c : Ctx D (d + 1)} {b : Nat} {l r : List (Tr d)} {t : Tr d} : RepC st k (.down c b l r) t ↔
    st b = some ⟨false, l.map (kidE d) ++ ⟨kmin (fk d t) k, 0, some (blk d t)⟩ :: r.map (kidE d), none⟩ ∧ (∀ s ∈ l, RepI d st s) ∧ (∀ s ∈ r, RepI d st s) ∧ RepC st k c (mkS b (l ++ t :: r)) := by rw [RepC]
theorem plug_top {d : Nat} {t : Tr d} : plug .top t = t := by rw [plug]
theorem plug_down {D d : Nat} {c : Ctx D (d + 1)} {b : Nat} {l r : List (Tr d)} {t : Tr d} : plug (.down c b l r) t = plug c (mkS b (l ++ t :: r)) := by rw [plug]
theorem RepC.congr {st st' : St} {k : Ky} : ∀ {D d : Nat} {c : Ctx D d} {t : Tr d}, RepC st k c t → (∀ x ∈ cb c, st' x = st x) → RepC st' k c t
  | _, _, .top, _, _, _ => RepC_top
  | _, _, .down c b l r, t, h, hc => by
    obtain ⟨h1, h2, h3, h4⟩ := RepC_down.1 h
    refine RepC_down.2 ⟨by rw [hc b (by simp [cb])]; exact h1, fun s hs => (h2 s hs).congr fun x hx => hc x ?_, fun s hs => (h3 s hs).congr fun x hx => hc x ?_, h4.congr fun x hx => hc x (by simp only [cb, List.mem_append]; exact .inl hx)⟩
    · simp only [cb, List.mem_append, List.mem_cons]; exact .inr (.inr (.inl (List.mem_flatMap.2 ⟨s, hs, hx⟩)))
    · simp only [cb, List.mem_append, List.mem_cons]; exact .inr (.inr (.inr (List.mem_flatMap.2 ⟨s, hs, hx⟩)))
theorem RepC.of {st : St} {k : Ky} : ∀ {D d : Nat} {c : Ctx D d} {t t' : Tr d}, RepC st k c t → els d t' = els d t → blk d t' = blk d t → RepC st k c t'
  | _, _, .top, _, _, _, _, _ => RepC_top
  | _, _, .down c b l r, t, t', h, he, hb => by
    obtain ⟨h1, h2, h3, h4⟩ := RepC_down.1 h
    refine RepC_down.2 ⟨by unfold fk at h1 ⊢; rw [he, hb]; exact h1, h2, h3, h4.of ?_ rfl⟩
    rw [els_mkS, els_mkS, List.flatMap_append, List.flatMap_append, List.flatMap_cons, List.flatMap_cons, he]

def lowC : {D d : Nat} → Ctx D d → Nat → Prop
  | _, _, .top, _ => True
  | _, _, .down _ _ _ _, n => 4 ≤ n
def MnC : {D d : Nat} → Ctx D d → Prop
  | _, _, .top => True
  | _, d, .down c _ l r => l.length + r.length + 1 ≤ 8 ∧ (∀ s ∈ l, 4 ≤ cnt d s ∧ Mn d s) ∧ (∀ s ∈ r, 4 ≤ cnt d s ∧ Mn d s) ∧ lowC c (l.length + r.length + 1) ∧ MnC c
theorem mem_of {α : Type} {a : α} {l : List α} (h : List.Mem a l) : a ∈ l := h
theorem Mn_mkS {d : Nat} {b : Nat} {l : List (Tr d)} : Mn (d + 1) (mkS b l) ↔ l.length ≤ 8 ∧ ∀ s ∈ l, 4 ≤ cnt d s ∧ Mn d s := Iff.rfl
theorem RepI_mkS {d : Nat} {st : St} {b : Nat} {l : List (Tr d)} : RepI (d + 1) st (mkS b l) ↔ st b = some ⟨false, l.map (kidE d), none⟩ ∧ ∀ s ∈ l, RepI d st s := Iff.rfl
theorem Mn_plug : ∀ {D d : Nat} {c : Ctx D d} {t : Tr d}, Mn D (plug c t) ↔ MnC c ∧ lowC c (cnt d t) ∧ Mn d t
  | _, _, .top, t => by simp [plug, MnC, lowC]
  | _, _, .down c b l r, t => by
    unfold plug MnC lowC
    rw [Mn_plug (c := c), Mn_mkS, cnt_mkS]
    have e : (l ++ t :: r).length = l.length + r.length + 1 := by simp only [List.length_append, List.length_cons]; omega
    rw [e]
    constructor
    · rintro ⟨h1, h2, h3, h4⟩
      have ht := h4 t (by simp)
      exact ⟨⟨h3, fun s hs => h4 s (by simp [hs]), fun s hs => h4 s (by simp [hs]), h2, h1⟩, ht.1, ht.2⟩
    · rintro ⟨⟨h3, h4, h5, h2, h1⟩, h6, h7⟩
      refine ⟨h1, h2, h3, fun s hs => ?_⟩
      rcases List.mem_append.1 hs with hs | hs
      · exact h4 s hs
      · rcases List.mem_cons.1 hs with rfl | hs
        · exact ⟨h6, h7⟩
        · exact h5 s hs
theorem cnt_plug : ∀ {D d : Nat} (c : Ctx D d) {t t' : Tr d}, cnt d t ≤ cnt d t' → cnt D (plug c t) ≤ cnt D (plug c t')
  | _, _, .top, _, _, h => by rw [plug_top, plug_top]; exact h
  | _, _, .down c b l r, t, t', _ => by
    rw [plug_down, plug_down]
    refine cnt_plug c ?_
    rw [cnt_mkS, cnt_mkS]
    simp
theorem fst_app {a b : List KV} (h : a ≠ []) : fstK (a ++ b) = fstK a := by cases a with | nil => exact absurd rfl h | cons x a => rfl
theorem flat_ne {d : Nat} {l : List (Tr d)} (h : l ≠ []) (hl : ∀ s ∈ l, 4 ≤ cnt d s ∧ Mn d s) : l.flatMap (els d) ≠ [] := by
  cases l with
  | nil => exact absurd rfl h
  | cons s l =>
    intro e
    have h1 := hl s (by simp)
    rw [List.flatMap_cons, List.append_eq_nil_iff] at e
    exact els_ne h1.2 (by omega) e.1
/-- The text is laid: the keys on the way to it say so already. -/
theorem RepC.done {st st' : St} {k : Ky} : ∀ {D d : Nat} {c : Ctx D d} {t t' : Tr d}, RepC st k c t → blk d t' = blk d t → els d t ≠ [] → els d t' ≠ [] → fk d t' = kmin (fk d t) k → Lo (cl c) k → MnC c → (∀ x ∈ cb c, st' x = st x) → RepI d st' t' → RepI D st' (plug c t')
  | _, _, .top, _, _, _, _, _, _, _, _, _, _, h => by rw [plug_top]; exact h
  | _, d, .down c b l r, t, t', h0, hb, he, he', hf, hlo, hm, hc, hr => by
    obtain ⟨h1, h2, h3, h4⟩ := RepC_down.1 h0
    rw [plug_down]
    unfold MnC at hm
    unfold cl at hlo
    obtain ⟨hm1, hm2, hm3, hm4, hm5⟩ := hm
    obtain ⟨lo1, lo2⟩ := Lo.app.1 hlo
    have e1 : els (d + 1) (mkS b (l ++ t :: r)) = l.flatMap (els d) ++ (els d t ++ r.flatMap (els d)) := by rw [els_mkS, List.flatMap_append, List.flatMap_cons]
    have e2 : els (d + 1) (mkS b (l ++ t' :: r)) = l.flatMap (els d) ++ (els d t' ++ r.flatMap (els d)) := by rw [els_mkS, List.flatMap_append, List.flatMap_cons]
    refine RepC.done h4 rfl ?_ ?_ ?_ lo1 hm5 (fun x hx => hc x (by simp only [cb, List.mem_append]; exact .inl hx)) (RepI_mkS.2 ⟨?_, ?_⟩)
    · rw [e1]; intro e; simp only [List.append_eq_nil_iff] at e; exact he e.2.1
    · rw [e2]; intro e; simp only [List.append_eq_nil_iff] at e; exact he' e.2.1
    · show fstK _ = kmin (fstK _) k
      rw [e1, e2]
      by_cases hl : l = []
      · subst hl
        simp only [List.flatMap_nil, List.nil_append]
        rw [fst_app he, fst_app he']
        exact hf
      · have hne := flat_ne hl hm2
        rw [fst_app hne, fst_app hne]
        obtain ⟨q, hq, hqk⟩ := fstK_mem hne
        have := lo2 q hq
        rw [hqk] at this
        unfold kmin
        rw [if_neg (by rw [kl_asymm this]; exact Bool.false_ne_true)]
    · rw [hc b (by simp [cb]), h1, List.map_append, List.map_cons]
      unfold kidE
      rw [hf, hb]
    · intro s hs
      rcases List.mem_append.1 hs with hs | hs
      · exact (h2 s hs).congr fun x hx => hc x (by simp only [cb, List.mem_append, List.mem_cons]; exact .inr (.inr (.inl (List.mem_flatMap.2 ⟨s, hs, hx⟩))))
      · rcases List.mem_cons.1 hs with rfl | hs
        · exact hr
        · exact (h3 s hs).congr fun x hx => hc x (by simp only [cb, List.mem_append, List.mem_cons]; exact .inr (.inr (.inr (List.mem_flatMap.2 ⟨s, hs, hx⟩))))

/-- A node is cut in two; g is the new one's block. -/
def spl : (d : Nat) → Tr d → Nat → Tr d × Tr d
  | 0, t, g => (mk0 t.1 (List.take 4 t.2), mk0 g (List.drop 4 t.2))
  | _ + 1, t, g => (mkS t.1 (List.take 4 t.2), mkS g (List.drop 4 t.2))
theorem spl_els : ∀ (d : Nat) (t : Tr d) (g : Nat), els d (spl d t g).1 ++ els d (spl d t g).2 = els d t
  | 0, t, g => List.take_append_drop 4 t.2
  | d + 1, t, g => by
    show List.flatMap (els d) (List.take 4 t.2) ++ List.flatMap (els d) (List.drop 4 t.2) = List.flatMap (els d) t.2
    rw [← List.flatMap_append, List.take_append_drop]
theorem spl_cnt : ∀ (d : Nat) (t : Tr d) (g : Nat), cnt d t = 8 → cnt d (spl d t g).1 = 4 ∧ cnt d (spl d t g).2 = 4
  | 0, t, g, h => by
    have h' : List.length t.2 = 8 := h
    exact ⟨by show List.length (List.take 4 t.2) = 4; rw [List.length_take]; omega, by show List.length (List.drop 4 t.2) = 4; rw [List.length_drop]; omega⟩
  | d + 1, t, g, h => by
    have h' : List.length t.2 = 8 := h
    exact ⟨by show List.length (List.take 4 t.2) = 4; rw [List.length_take]; omega, by show List.length (List.drop 4 t.2) = 4; rw [List.length_drop]; omega⟩
theorem spl_mn : ∀ (d : Nat) (t : Tr d) (g : Nat), cnt d t = 8 → Mn d t → Mn d (spl d t g).1 ∧ Mn d (spl d t g).2
  | 0, t, g, hc, h => by
    obtain ⟨h1, h2⟩ := spl_cnt 0 t g hc
    exact ⟨by show List.length (List.take 4 t.2) ≤ 8; rw [List.length_take]; omega, by show List.length (List.drop 4 t.2) ≤ 8; have : List.length t.2 = 8 := hc; rw [List.length_drop]; omega⟩
  | d + 1, t, g, hc, h => by
    have h' : List.length t.2 = 8 := hc
    exact ⟨⟨by show List.length (List.take 4 t.2) ≤ 8; rw [List.length_take]; omega, fun s hs => h.2 s (List.mem_of_mem_take hs)⟩, ⟨by show List.length (List.drop 4 t.2) ≤ 8; rw [List.length_drop]; omega, fun s hs => h.2 s (List.mem_of_mem_drop hs)⟩⟩
theorem spl_blk : ∀ (d : Nat) (t : Tr d) (g : Nat), blk d (spl d t g).1 = blk d t ∧ blk d (spl d t g).2 = g
  | 0, _, _ => ⟨rfl, rfl⟩
  | _ + 1, _, _ => ⟨rfl, rfl⟩
theorem spl_ents : ∀ (d : Nat) (t : Tr d) (g : Nat), ents d (spl d t g).1 = (ents d t).take 4 ∧ ents d (spl d t g).2 = (ents d t).drop 4
  | 0, t, g => ⟨by show leafE (List.take 4 t.2) = _; exact List.map_take, by show leafE (List.drop 4 t.2) = _; exact List.map_drop⟩
  | d + 1, t, g => ⟨by show List.map (kidE d) (List.take 4 t.2) = _; exact List.map_take, by show List.map (kidE d) (List.drop 4 t.2) = _; exact List.map_drop⟩
theorem spl_bks : ∀ (d : Nat) (t : Tr d) (g : Nat), (bks d (spl d t g).1 ++ bks d (spl d t g).2).Perm (g :: bks d t)
  | 0, t, g => List.Perm.swap g t.1 []
  | d + 1, t, g => by
    show ((t.1 :: List.flatMap (bks d) (List.take 4 t.2)) ++ (g :: List.flatMap (bks d) (List.drop 4 t.2))).Perm (g :: t.1 :: List.flatMap (bks d) t.2)
    conv => rhs; rw [← List.take_append_drop 4 t.2, List.flatMap_append]
    exact List.perm_middle
theorem lvs_sub : ∀ (d : Nat) (t : Tr d), ((lvs d t).map Prod.fst).Sublist (bks d t)
  | 0, t => List.Sublist.refl _
  | d + 1, t => by
    refine List.Sublist.cons _ ?_
    show (List.map Prod.fst (List.flatMap (lvs d) t.2)).Sublist (List.flatMap (bks d) t.2)
    rw [List.map_flatMap]
    induction t.2 with
    | nil => exact List.Sublist.refl _
    | cons s l ih => rw [List.flatMap_cons, List.flatMap_cons]; exact (lvs_sub d s).append ih
/-- The state behind a cut. -/
structure Spl (st st' : St) (d : Nat) (t : Tr d) (g : Nat) : Prop where
  old : ∃ nx, st (blk d t) = some ⟨d == 0, ents d t, nx⟩ ∧ st' (blk d t) = some ⟨d == 0, (ents d t).take 4, if d = 0 then some g else none⟩ ∧ st' g = some ⟨d == 0, (ents d t).drop 4, nx⟩
  rest : ∀ x, x ≠ blk d t → x ≠ g → st' x = st x
theorem spl_rep : ∀ {d : Nat} {st st' : St} {t : Tr d} {g : Nat}, RepI d st t → Spl st st' d t g → g ∉ bks d t → (bks d t).Nodup → RepI d st' (spl d t g).1 ∧ RepI d st' (spl d t g).2
  | 0, _, _, _, _, _, _, _, _ => ⟨trivial, trivial⟩
  | d + 1, st, st', t, g, h, hs, hg, hn => by
    obtain ⟨⟨nx, h1, h2, h3⟩, h4⟩ := hs
    have hnx : nx = none := by have := h.1.symm.trans h1; injection this with this; injection this with _ _ e; exact e.symm
    subst hnx
    have hn' : t.1 ∉ List.flatMap (bks d) t.2 := (List.nodup_cons.1 hn).1
    have hk : ∀ s, List.Mem s t.2 → RepI d st' s := fun s hs => (h.2 s hs).congr fun x hx => by
      have hm : x ∈ List.flatMap (bks d) t.2 := List.mem_flatMap.2 ⟨s, hs, hx⟩
      exact h4 x (fun e => hn' (by have e' : x = t.1 := e; rw [← e']; exact hm)) (fun e => hg (List.mem_cons_of_mem _ (by rw [← e]; exact hm)))
    obtain ⟨e1, e2⟩ := spl_ents (d + 1) t g
    exact ⟨⟨by show st' t.1 = some ⟨false, ents (d + 1) (spl (d + 1) t g).1, none⟩; rw [e1]; exact h2, fun s hs => hk s (List.mem_of_mem_take hs)⟩, ⟨by show st' g = some ⟨false, ents (d + 1) (spl (d + 1) t g).2, none⟩; rw [e2]; exact h3, fun s hs => hk s (List.mem_of_mem_drop hs)⟩⟩
theorem spl_lnk : ∀ {d : Nat} {st st' : St} {t : Tr d} {g : Nat} {A B : List (Nat × List KV)} {nx : Option Nat}, Spl st st' d t g → (bks d t).Nodup → (∀ x ∈ A ++ B, x.1 ≠ g ∧ x.1 ≠ blk d t) → g ∉ bks d t → Lnk st (A ++ lvs d t ++ B) nx →
    Lnk st' (A ++ (lvs d (spl d t g).1 ++ lvs d (spl d t g).2) ++ B) nx
  | 0, st, st', t, g, A, B, nx, hs, hn, hAB, hg, h => by
    obtain ⟨⟨nx0, h1, h2, h3⟩, h4⟩ := hs
    obtain ⟨hA, hB⟩ := Lnk.app.1 h
    obtain ⟨hA, ht, -⟩ := Lnk.app.1 hA
    have hnx : nx0 = hd B nx := by have := ht.symm.trans h1; injection this with this; injection this with _ _ e; exact e.symm
    subst hnx
    refine Lnk.app.2 ⟨Lnk.app.2 ⟨hA.congr fun x hx => h4 _ (hAB x (by simp [hx])).2 (hAB x (by simp [hx])).1, ⟨?_, ?_, trivial⟩⟩, hB.congr fun x hx => h4 _ (hAB x (by simp [hx])).2 (hAB x (by simp [hx])).1⟩
    · rw [show ((spl 0 t g).1.1 = t.1) from rfl]
      show st' t.1 = some ⟨true, leafE (List.take 4 t.2), some g⟩
      have : leafE (List.take 4 t.2) = (ents 0 t).take 4 := List.map_take
      rw [this]; exact h2
    · show st' g = some ⟨true, leafE (List.drop 4 t.2), hd B nx⟩
      have : leafE (List.drop 4 t.2) = (ents 0 t).drop 4 := List.map_drop
      rw [this]; exact h3
  | d + 1, st, st', t, g, A, B, nx, hs, hn, hAB, hg, h => by
    have e : lvs (d + 1) (spl (d + 1) t g).1 ++ lvs (d + 1) (spl (d + 1) t g).2 = lvs (d + 1) t := by
      show List.flatMap (lvs d) (List.take 4 t.2) ++ List.flatMap (lvs d) (List.drop 4 t.2) = List.flatMap (lvs d) t.2
      rw [← List.flatMap_append, List.take_append_drop]
    rw [e]
    refine h.congr fun x hx => ?_
    simp only [List.mem_append] at hx
    have hn' : t.1 ∉ List.flatMap (bks d) t.2 := (List.nodup_cons.1 hn).1
    rcases hx with (hx | hx) | hx
    · exact hs.rest _ (hAB x (by simp [hx])).2 (hAB x (by simp [hx])).1
    · obtain ⟨s, hsm, hxs⟩ := List.mem_flatMap.1 (show x ∈ List.flatMap (lvs d) t.2 from hx)
      have hm : x.1 ∈ List.flatMap (bks d) t.2 := List.mem_flatMap.2 ⟨s, hsm, lvs_bks d s x hxs⟩
      exact hs.rest _ (fun e => hn' (by have e' : x.1 = t.1 := e; rw [← e']; exact hm)) (fun e => hg (List.mem_cons_of_mem _ (e ▸ hm)))
    · exact hs.rest _ (hAB x (by simp [hx])).2 (hAB x (by simp [hx])).1
end Tre
end Go.Proofs.Ytilmfnlaenneeaa

/- Trees of texts (chapter 13): what holds while a text is laid; no program in sight. -/
namespace Go.Proofs.Ytilmfnlaenneeaa
namespace Tre

structure Good (st : St) (D : Nat) (T : Tr D) (l : List KV) : Prop where
  rep : RepI D st T
  lnk : Lnk st (lvs D T) none
  nodup : (bks D T).Nodup
  el : els D T = l
  srt : Srt l
  mn : Mn D T
  root : D = 0 ∨ 2 ≤ cnt D T
theorem Lnk_mem {st : St} {d : Nat} : ∀ {l : List (Tr d)} {nx : Option Nat}, Lnk st (l.flatMap (lvs d)) nx → ∀ s ∈ l, ∃ nx', Lnk st (lvs d s) nx'
  | [], _, _, _, h => by cases h
  | a :: l, nx, h, s, hs => by
    rw [List.flatMap_cons] at h
    obtain ⟨h1, h2⟩ := Lnk.app.1 h
    rcases List.mem_cons.1 hs with rfl | hs
    · exact ⟨_, h1⟩
    · exact Lnk_mem h2 s hs
theorem bks_dom : ∀ {d : Nat} {st : St} {t : Tr d} {nx : Option Nat}, RepI d st t → Lnk st (lvs d t) nx → ∀ b ∈ bks d t, st b ≠ none
  | 0, st, t, nx, _, h, b, hb => by
    simp only [bks, List.mem_singleton] at hb
    subst hb
    rw [show st t.1 = _ from h.1]
    simp
  | d + 1, st, t, nx, hr, h, b, hb => by
    rcases List.mem_cons.1 (show b ∈ t.1 :: List.flatMap (bks d) t.2 from hb) with rfl | hb
    · rw [hr.1]; simp
    · obtain ⟨s, hs, hx⟩ := List.mem_flatMap.1 hb
      obtain ⟨nx', h'⟩ := Lnk_mem (l := t.2) h s hs
      exact bks_dom (hr.2 s hs) h' b hx
theorem Good.dom {st : St} {D : Nat} {T : Tr D} {l : List KV} (h : Good st D T l) : ∀ b ∈ bks D T, st b ≠ none := bks_dom h.rep h.lnk

structure PutI (st : St) (k : Ky) {D d : Nat} (c : Ctx D d) (t : Tr d) (l : List KV) : Prop where
  repc : RepC st k c t
  repi : RepI d st t
  lnk : Lnk st (lvs D (plug c t)) none
  nodup : (bks D (plug c t)).Nodup
  el : els D (plug c t) = l
  srt : Srt l
  lo : Lo (cl c) k
  hi : Hi (cr c) k
  mn : Mn D (plug c t)
  root : D = 0 ∨ 2 ≤ cnt D (plug c t)
theorem PutI.start {st : St} {k : Ky} {D : Nat} {T : Tr D} {l : List KV} (h : Good st D T l) : PutI st k .top T l := by
  have e : plug .top T = T := plug_top
  exact ⟨RepC_top, h.rep, by rw [e]; exact h.lnk, by rw [e]; exact h.nodup, by rw [e]; exact h.el, h.srt, by unfold cl; exact Lo.nil, by unfold cr; exact Hi.nil, by rw [e]; exact h.mn, by rw [e]; exact h.root⟩
theorem ctx_dom {st : St} {k : Ky} : ∀ {D d : Nat} {c : Ctx D d} {t : Tr d} {X : List (Nat × List KV)} {nx : Option Nat}, RepC st k c t → Lnk st (ll c ++ X ++ lr c) nx → ∀ b ∈ cb c, st b ≠ none
  | _, _, .top, _, _, _, _, _, b, hb => by simp [cb] at hb
  | _, d, .down c bb l r, t, X, nx, hr, h, b, hb => by
    obtain ⟨h1, h2, h3, h4⟩ := RepC_down.1 hr
    unfold ll lr at h
    have h' : Lnk st (ll c ++ (l.flatMap (lvs d) ++ X ++ r.flatMap (lvs d)) ++ lr c) nx := by simpa only [List.append_assoc] using h
    unfold cb at hb
    simp only [List.mem_append, List.mem_cons] at hb
    rcases hb with hb | rfl | hb | hb
    · exact ctx_dom h4 h' b hb
    · rw [h1]; simp
    · obtain ⟨s, hs, hx⟩ := List.mem_flatMap.1 hb
      obtain ⟨h5, -⟩ := Lnk.app.1 h'
      obtain ⟨-, h5⟩ := Lnk.app.1 h5
      rw [List.append_assoc] at h5
      obtain ⟨h5, -⟩ := Lnk.app.1 h5
      obtain ⟨nx', h6⟩ := Lnk_mem h5 s hs
      exact bks_dom (h2 s hs) h6 b hx
    · obtain ⟨s, hs, hx⟩ := List.mem_flatMap.1 hb
      obtain ⟨h5, -⟩ := Lnk.app.1 h'
      obtain ⟨-, h5⟩ := Lnk.app.1 h5
      obtain ⟨-, h5⟩ := Lnk.app.1 h5
      obtain ⟨nx', h6⟩ := Lnk_mem h5 s hs
      exact bks_dom (h3 s hs) h6 b hx
theorem PutI.dom {st : St} {k : Ky} {D d : Nat} {c : Ctx D d} {t : Tr d} {l : List KV} (h : PutI st k c t l) : ∀ b ∈ bks D (plug c t), st b ≠ none := by
  intro b hb
  have hl := h.lnk
  rw [lvs_plug] at hl
  rcases List.mem_append.1 ((bks_plug c t).mem_iff.1 hb) with hb | hb
  · exact ctx_dom h.repc hl b hb
  · obtain ⟨h5, -⟩ := Lnk.app.1 hl
    obtain ⟨-, h5⟩ := Lnk.app.1 h5
    exact bks_dom h.repi h5 b hb
/-- The blocks of a place, apart. -/
theorem PutI.parts {st : St} {k : Ky} {D d : Nat} {c : Ctx D (d + 1)} {b : Nat} {l r : List (Tr d)} {s : Tr d} {L : List KV} (h : PutI st k c (mkS b (l ++ s :: r)) L) :
    (b :: (bks d s ++ (cb c ++ (l.flatMap (bks d) ++ r.flatMap (bks d))))).Nodup := by
  have h1 := (bks_plug c (mkS b (l ++ s :: r))).nodup_iff.1 h.nodup
  rw [bks_mkS, List.flatMap_append, List.flatMap_cons] at h1
  refine (List.Perm.nodup_iff (List.perm_iff_count.2 fun a => ?_)).1 h1
  simp only [List.count_append, List.count_cons]
  omega
theorem ll_cb : ∀ {D d : Nat} (c : Ctx D d) (x : Nat × List KV), x ∈ ll c ∨ x ∈ lr c → x.1 ∈ cb c
  | _, _, .top, x, h => by simp [ll, lr] at h
  | _, d, .down c b l r, x, h => by
    unfold ll lr at h
    unfold cb
    simp only [List.mem_append, List.mem_cons]
    rcases h with h | h
    · rcases List.mem_append.1 h with h | h
      · exact .inl (ll_cb c x (.inl h))
      · obtain ⟨s, hs, hx⟩ := List.mem_flatMap.1 h
        exact .inr (.inr (.inl (List.mem_flatMap.2 ⟨s, hs, lvs_bks d s x hx⟩)))
    · rcases List.mem_append.1 h with h | h
      · obtain ⟨s, hs, hx⟩ := List.mem_flatMap.1 h
        exact .inr (.inr (.inr (List.mem_flatMap.2 ⟨s, hs, lvs_bks d s x hx⟩)))
      · exact .inl (ll_cb c x (.inr h))
theorem flat_lvs {d : Nat} {l : List (Tr d)} {x : Nat × List KV} (h : x ∈ l.flatMap (lvs d)) : x.1 ∈ l.flatMap (bks d) := by
  obtain ⟨s, hs, hx⟩ := List.mem_flatMap.1 h
  exact List.mem_flatMap.2 ⟨s, hs, lvs_bks d s x hx⟩
/-- A kid is cut in two. -/
theorem PutI.split {st st' : St} {k : Ky} {D d : Nat} {c : Ctx D (d + 1)} {b g : Nat} {l r : List (Tr d)} {s : Tr d} {L : List KV} (h : PutI st k c (mkS b (l ++ s :: r)) L) (hroom : cnt (d + 1) (mkS b (l ++ s :: r)) < 8) (hc : cnt d s = 8) (hg : st g = none) (hs : Spl st st' d s g) :
    PutI (upd st' b ⟨false, (l ++ (spl d s g).1 :: (spl d s g).2 :: r).map (kidE d), none⟩) k c (mkS b (l ++ (spl d s g).1 :: (spl d s g).2 :: r)) L := by
  have hp := h.parts
  have hgn : ∀ x ∈ bks D (plug c (mkS b (l ++ s :: r))), x ≠ g := fun x hx e => h.dom x hx (by rw [e]; exact hg)
  have hgp : ∀ x, x ∈ b :: (bks d s ++ (cb c ++ (l.flatMap (bks d) ++ r.flatMap (bks d)))) → x ≠ g := fun x hx => hgn x ((bks_plug c _).mem_iff.2 (by
    rw [bks_mkS, List.flatMap_append, List.flatMap_cons]
    simp only [List.mem_cons, List.mem_append] at hx ⊢
    rcases hx with hx | hx | hx | hx | hx <;> simp [hx]))
  obtain ⟨hb, hp⟩ := List.nodup_cons.1 hp
  obtain ⟨hns, hp2, hdis⟩ := List.nodup_append.1 hp
  have hbs : blk d s ∈ bks d s := blk_mem d s
  simp only [List.mem_append, not_or] at hb
  obtain ⟨hb1, hb2, hb3, hb4⟩ := hb
  have hgs : g ∉ bks d s := fun hx => hgp g (by simp [hx]) rfl
  have hgb : b ≠ g := hgp b (by simp)
  have hel : els (d + 1) (mkS b (l ++ (spl d s g).1 :: (spl d s g).2 :: r)) = els (d + 1) (mkS b (l ++ s :: r)) := by
    rw [els_mkS, els_mkS, List.flatMap_append, List.flatMap_append, List.flatMap_cons, List.flatMap_cons, List.flatMap_cons, ← List.append_assoc (els d _), spl_els]
  -- what is apart stays
  have same : ∀ x, x ≠ b → x ≠ blk d s → x ≠ g → upd st' b ⟨false, (l ++ (spl d s g).1 :: (spl d s g).2 :: r).map (kidE d), none⟩ x = st x := fun x h1 h2 h3 => by rw [upd_ne h1, hs.rest x h2 h3]
  have sameR : ∀ x, x ∈ cb c ++ (l.flatMap (bks d) ++ r.flatMap (bks d)) → upd st' b ⟨false, (l ++ (spl d s g).1 :: (spl d s g).2 :: r).map (kidE d), none⟩ x = st x := fun x hx => by
    refine same x (fun e => ?_) (fun e => hdis _ hbs x hx e.symm) (hgp x (by simp only [List.mem_cons, List.mem_append] at hx ⊢; exact .inr (.inr hx)))
    subst e
    simp only [List.mem_append] at hx
    rcases hx with hx | hx | hx
    · exact hb2 hx
    · exact hb3 hx
    · exact hb4 hx
  have hri := RepI_mkS.1 h.repi
  have hm := Mn_plug.1 h.mn
  have hms := (Mn_mkS.1 hm.2.2).2 s (by simp)
  have hsp := spl_rep (hri.2 s (by simp)) hs hgs hns
  refine ⟨(h.repc.of hel rfl).congr fun x hx => sameR x (by simp [hx]), RepI_mkS.2 ⟨upd_eq _ _ _, ?_⟩, ?_, ?_, ?_, h.srt, h.lo, h.hi, ?_, ?_⟩
  · intro u hu
    simp only [List.mem_append, List.mem_cons] at hu
    rcases hu with hu | rfl | rfl | hu
    · exact (hri.2 u (by simp [hu])).congr fun x hx => sameR x (by simp only [List.mem_append]; exact .inr (.inl (List.mem_flatMap.2 ⟨u, hu, hx⟩)))
    · exact hsp.1.congr fun x hx => upd_ne (fun e => by
        subst e
        have := (spl_bks d s g).mem_iff.1 (List.mem_append_left _ hx)
        rcases List.mem_cons.1 this with e | e
        · exact hgb e
        · exact hb1 e)
    · exact hsp.2.congr fun x hx => upd_ne (fun e => by
        subst e
        have := (spl_bks d s g).mem_iff.1 (List.mem_append_right _ hx)
        rcases List.mem_cons.1 this with e | e
        · exact hgb e
        · exact hb1 e)
    · exact (hri.2 u (by simp [hu])).congr fun x hx => sameR x (by simp only [List.mem_append]; exact .inr (.inr (List.mem_flatMap.2 ⟨u, hu, hx⟩)))
  · have hl := h.lnk
    rw [lvs_plug, lvs_mkS, List.flatMap_append, List.flatMap_cons] at hl ⊢
    rw [List.flatMap_cons]
    have e1 : ll c ++ (l.flatMap (lvs d) ++ (lvs d s ++ r.flatMap (lvs d))) ++ lr c = (ll c ++ l.flatMap (lvs d)) ++ lvs d s ++ (r.flatMap (lvs d) ++ lr c) := by simp only [List.append_assoc]
    rw [e1] at hl
    have hAB : ∀ x ∈ (ll c ++ l.flatMap (lvs d)) ++ (r.flatMap (lvs d) ++ lr c), x.1 ∈ cb c ++ (l.flatMap (bks d) ++ r.flatMap (bks d)) := fun x hx => by
      simp only [List.mem_append] at hx ⊢
      rcases hx with (hx | hx) | hx | hx
      · exact .inl (ll_cb c x (.inl hx))
      · exact .inr (.inl (flat_lvs hx))
      · exact .inr (.inr (flat_lvs hx))
      · exact .inl (ll_cb c x (.inr hx))
    have h2 := spl_lnk hs hns (fun x hx => ⟨hgp x.1 (by have := hAB x hx; simp only [List.mem_cons, List.mem_append] at this ⊢; exact .inr (.inr this)), fun e => hdis _ hbs x.1 (hAB x hx) e.symm⟩) hgs hl
    have e2 : ll c ++ (l.flatMap (lvs d) ++ (lvs d (spl d s g).1 ++ (lvs d (spl d s g).2 ++ r.flatMap (lvs d)))) ++ lr c = (ll c ++ l.flatMap (lvs d)) ++ (lvs d (spl d s g).1 ++ lvs d (spl d s g).2) ++ (r.flatMap (lvs d) ++ lr c) := by simp only [List.append_assoc]
    rw [e2]
    refine h2.congr fun x hx => upd_ne fun e => ?_
    simp only [List.mem_append] at hx
    rcases hx with ((hx | hx) | hx | hx) | hx | hx
    · exact hb2 (e ▸ ll_cb c x (.inl hx))
    · exact hb3 (e ▸ flat_lvs hx)
    · have := (spl_bks d s g).mem_iff.1 (List.mem_append_left _ (lvs_bks d _ x hx))
      rw [e] at this
      rcases List.mem_cons.1 this with e | e
      · exact hgb e
      · exact hb1 e
    · have := (spl_bks d s g).mem_iff.1 (List.mem_append_right _ (lvs_bks d _ x hx))
      rw [e] at this
      rcases List.mem_cons.1 this with e | e
      · exact hgb e
      · exact hb1 e
    · exact hb4 (e ▸ flat_lvs hx)
    · exact hb2 (e ▸ ll_cb c x (.inr hx))
  · refine ((bks_plug c _).nodup_iff).2 ?_
    rw [bks_mkS, List.flatMap_append, List.flatMap_cons, List.flatMap_cons, ← List.append_assoc (bks d _)]
    have h1 := (bks_plug c (mkS b (l ++ s :: r))).nodup_iff.1 h.nodup
    have h2 : (g :: (cb c ++ bks (d + 1) (mkS b (l ++ s :: r)))).Nodup := List.nodup_cons.2 ⟨fun hx => hgn g ((bks_plug c _).mem_iff.2 hx) rfl, h1⟩
    refine (List.Perm.nodup_iff ?_).1 h2
    rw [bks_mkS, List.flatMap_append, List.flatMap_cons]
    refine List.perm_middle.symm.trans (List.Perm.append_left _ ?_)
    refine (List.Perm.swap _ _ _).trans (List.Perm.cons _ ?_)
    refine List.perm_middle.symm.trans (List.Perm.append_left _ ?_)
    rw [← List.cons_append]
    exact List.Perm.append_right _ (spl_bks d s g).symm
  · rw [els_plug, hel, ← els_plug]; exact h.el
  · refine Mn_plug.2 ⟨hm.1, ?_, Mn_mkS.2 ⟨?_, fun u hu => ?_⟩⟩
    · have := hm.2.1
      rw [cnt_mkS] at this ⊢
      cases c with
      | top => unfold lowC; trivial
      | down c b l r => unfold lowC at this ⊢; simp only [List.length_append, List.length_cons] at this ⊢; omega
    · rw [cnt_mkS] at hroom
      simp only [List.length_append, List.length_cons] at hroom ⊢
      omega
    · obtain ⟨hc1, hc2⟩ := spl_cnt d s g hc
      obtain ⟨hm1, hm2⟩ := spl_mn d s g hc hms.2
      simp only [List.mem_append, List.mem_cons] at hu
      rcases hu with hu | rfl | rfl | hu
      · exact (Mn_mkS.1 hm.2.2).2 u (by simp [hu])
      · exact ⟨by omega, hm1⟩
      · exact ⟨by omega, hm2⟩
      · exact (Mn_mkS.1 hm.2.2).2 u (by simp [hu])
  · refine h.root.imp id fun h2 => Nat.le_trans h2 (cnt_plug c ?_)
    rw [cnt_mkS, cnt_mkS]
    simp
/-- A step down. -/
theorem PutI.down {st : St} {k : Ky} {D d : Nat} {c : Ctx D (d + 1)} {b : Nat} {l r : List (Tr d)} {s : Tr d} {L : List KV} (h : PutI st k c (mkS b (l ++ s :: r)) L) (hlo : Lo (l.flatMap (els d)) k) (hhi : Hi (r.flatMap (els d)) k) :
    PutI (upd st b ⟨false, l.map (kidE d) ++ ⟨kmin (fk d s) k, 0, some (blk d s)⟩ :: r.map (kidE d), none⟩) k (.down c b l r) s L := by
  obtain ⟨hb, hp⟩ := List.nodup_cons.1 h.parts
  simp only [List.mem_append, not_or] at hb
  obtain ⟨hb1, hb2, hb3, hb4⟩ := hb
  have hri := RepI_mkS.1 h.repi
  refine ⟨RepC_down.2 ⟨upd_eq _ _ _, ?_, ?_, h.repc.congr fun x hx => upd_ne fun e => hb2 (e ▸ hx)⟩, (hri.2 s (by simp)).congr fun x hx => upd_ne fun e => hb1 (e ▸ hx), ?_, by rw [plug_down]; exact h.nodup, by rw [plug_down]; exact h.el, h.srt, ?_, ?_, by rw [plug_down]; exact h.mn, by rw [plug_down]; exact h.root⟩
  · exact fun u hu => (hri.2 u (by simp [hu])).congr fun x hx => upd_ne fun e => hb3 (e ▸ List.mem_flatMap.2 ⟨u, hu, hx⟩)
  · exact fun u hu => (hri.2 u (by simp [hu])).congr fun x hx => upd_ne fun e => hb4 (e ▸ List.mem_flatMap.2 ⟨u, hu, hx⟩)
  · rw [plug_down]
    refine h.lnk.congr fun x hx => upd_ne fun e => ?_
    rw [lvs_plug, lvs_mkS, List.flatMap_append, List.flatMap_cons] at hx
    simp only [List.mem_append] at hx
    rcases hx with (hx | hx | hx | hx) | hx
    · exact hb2 (e ▸ ll_cb c x (.inl hx))
    · exact hb3 (e ▸ flat_lvs hx)
    · exact hb1 (e ▸ lvs_bks d s x hx)
    · exact hb4 (e ▸ flat_lvs hx)
    · exact hb2 (e ▸ ll_cb c x (.inr hx))
  · unfold cl; exact Lo.app.2 ⟨h.lo, hlo⟩
  · unfold cr; exact Hi.app.2 ⟨hhi, h.hi⟩
theorem insL_len {k : Ky} {n : Int} : ∀ (l : List KV), (insL k n l).length ≤ l.length + 1 ∧ l.length ≤ (insL k n l).length ∧ 1 ≤ (insL k n l).length
  | [] => by simp [insL]
  | (a, m) :: r => by
    unfold insL
    have := insL_len (k := k) (n := n) r
    split
    · simp only [List.length_cons]; omega
    · split <;> simp
theorem fst_ins {k : Ky} {n : Int} {l : List KV} (h : l ≠ []) : fstK (insL k n l) = kmin (fstK l) k := by
  cases l with
  | nil => exact absurd rfl h
  | cons x r =>
    obtain ⟨a, m⟩ := x
    unfold insL kmin fstK
    by_cases h1 : kl a k = true
    · rw [if_pos h1, if_neg (by rw [kl_asymm h1]; exact Bool.false_ne_true)]
    · rw [if_neg h1]
      by_cases h2 : a = k
      · subst h2; rw [if_pos rfl, if_neg (by rw [kl_irr]; exact Bool.false_ne_true)]
      · rw [if_neg h2]
        have : kl k a = true := by
          cases hq : kl k a with
          | true => rfl
          | false => exact absurd (kl_tri (by simpa using h1) hq) h2
        rw [if_pos this]
/-- The text is laid into its leaf. -/
theorem PutI.fin {st st' : St} {k : Ky} {n : Int} {D : Nat} {c : Ctx D 0} {b : Nat} {es : List KV} {L : List KV} (h : PutI st k c (mk0 b es) L) (hroom : es.length < 8) (h1 : ∀ nx, st b = some ⟨true, leafE es, nx⟩ → st' b = some ⟨true, leafE (insL k n es), nx⟩) (h2 : ∀ x, x ≠ b → st' x = st x) :
    Good st' D (plug c (mk0 b (insL k n es))) (insL k n L) ∧ (bks D (plug c (mk0 b (insL k n es)))).length = (bks D (plug c (mk0 b es))).length ∧ 1 ≤ cnt D (plug c (mk0 b (insL k n es))) := by
  have hp := (bks_plug c (mk0 b es)).nodup_iff.1 h.nodup
  obtain ⟨hp1, -, hp2⟩ := List.nodup_append.1 hp
  have hbc : b ∉ cb c := fun hx => hp2 b hx b (by simp [bks, mk0]) rfl
  have hpe : (bks D (plug c (mk0 b (insL k n es)))).Perm (bks D (plug c (mk0 b es))) := (bks_plug c _).trans (bks_plug c (mk0 b es)).symm
  have hil := insL_len (k := k) (n := n) es
  have hm := Mn_plug.1 h.mn
  refine ⟨⟨?_, ?_, hpe.nodup_iff.2 h.nodup, ?_, insL_srt h.srt, Mn_plug.2 ⟨hm.1, ?_, ?_⟩, ?_⟩, hpe.length_eq, ?_⟩
  · by_cases he : es = []
    · cases c with
      | top => rw [plug_top]; trivial
      | down c b2 l r =>
        have := hm.2.1
        unfold lowC at this
        rw [he] at this
        simp [cnt, mk0] at this
    · refine h.repc.done rfl he ?_ ?_ h.lo hm.1 (fun x hx => h2 x fun e => hbc (e ▸ hx)) trivial
      · intro e; have e' : insL k n es = [] := e; rw [e'] at hil; simp at hil
      · exact fst_ins he
  · have hl := h.lnk
    rw [lvs_plug] at hl ⊢
    obtain ⟨hA, hB⟩ := Lnk.app.1 hl
    obtain ⟨hA, ht, -⟩ := Lnk.app.1 hA
    exact Lnk.app.2 ⟨Lnk.app.2 ⟨hA.congr fun x hx => h2 _ fun e => hbc (e ▸ ll_cb c x (.inl hx)), h1 _ ht, trivial⟩, hB.congr fun x hx => h2 _ fun e => hbc (e ▸ ll_cb c x (.inr hx))⟩
  · have he := h.el
    rw [els_plug] at he ⊢
    rw [← he]
    show cl c ++ insL k n es ++ cr c = insL k n (cl c ++ es ++ cr c)
    rw [List.append_assoc (cl c) es (cr c), insL_lo h.lo, insL_hi h.hi, List.append_assoc]
  · cases c with
    | top => unfold lowC; trivial
    | down c b2 l r =>
      have := hm.2.1
      unfold lowC at this ⊢
      have h3 : 4 ≤ es.length := this
      show 4 ≤ (insL k n es).length
      omega
  · show (insL k n es).length ≤ 8
    omega
  · exact h.root.imp id fun h3 => Nat.le_trans h3 (cnt_plug c (t := mk0 b es) (t' := mk0 b (insL k n es)) (show es.length ≤ (insL k n es).length by omega))
  · rcases h.root with h3 | h3
    · subst h3
      have hd : ∀ {D d : Nat} (c : Ctx D d), d ≤ D := by
        intro D d c
        induction c with
        | top => exact Nat.le_refl _
        | down c b l r ih => omega
      cases c with
      | top => rw [plug_top]; show 1 ≤ (insL k n es).length; omega
      | down c b l r => have := hd c; omega
    · exact Nat.le_trans (by omega) (Nat.le_trans h3 (cnt_plug c (t := mk0 b es) (t' := mk0 b (insL k n es)) (show es.length ≤ (insL k n es).length by omega)))
/-- A full root is cut in two, under a new one. -/
theorem Good.grow {st st' st2 : St} {k : Ky} {D : Nat} {T : Tr D} {L : List KV} {gx g : Nat} (h : Good st D T L) (hc : cnt D T = 8) (hg : st g = none) (hgxs : gx ∉ bks D T) (hne : gx ≠ g) (hs : Spl st st' D T g)
    (h1 : st2 gx = some ⟨false, [kidE D (spl D T g).1, kidE D (spl D T g).2], none⟩) (h2 : ∀ x, x ≠ gx → st2 x = st' x) : PutI st2 k .top (mkS gx [(spl D T g).1, (spl D T g).2]) L := by
  have hgs : g ∉ bks D T := fun hx => h.dom g hx hg
  have hbs := blk_mem D T
  have hsp := spl_rep h.rep hs hgs h.nodup
  have hnot : ∀ x, x ∈ bks D (spl D T g).1 ++ bks D (spl D T g).2 → x ≠ gx := fun x hx e => by
    have := (spl_bks D T g).mem_iff.1 hx
    rw [e] at this
    rcases List.mem_cons.1 this with e | e
    · exact hne e
    · exact hgxs e
  obtain ⟨hc1, hc2⟩ := spl_cnt D T g hc
  obtain ⟨hm1, hm2⟩ := spl_mn D T g hc h.mn
  have e : plug .top (mkS gx [(spl D T g).1, (spl D T g).2]) = mkS gx [(spl D T g).1, (spl D T g).2] := plug_top
  refine ⟨RepC_top, RepI_mkS.2 ⟨h1, fun s hs => ?_⟩, ?_, ?_, ?_, h.srt, by unfold cl; exact Lo.nil, by unfold cr; exact Hi.nil, ?_, .inr (by rw [e, cnt_mkS]; simp)⟩
  · simp only [List.mem_cons, List.not_mem_nil, or_false] at hs
    rcases hs with rfl | rfl
    · exact hsp.1.congr fun x hx => h2 x (hnot x (by simp [hx]))
    · exact hsp.2.congr fun x hx => h2 x (hnot x (by simp [hx]))
  · rw [e, lvs_mkS]
    simp only [List.flatMap_cons, List.flatMap_nil, List.append_nil]
    have := spl_lnk (A := []) (B := []) hs h.nodup (by simp) hgs (by simpa using h.lnk)
    simp only [List.nil_append, List.append_nil] at this
    refine this.congr fun x hx => h2 _ (hnot _ ?_)
    rcases List.mem_append.1 hx with hx | hx
    · exact List.mem_append_left _ (lvs_bks D _ x hx)
    · exact List.mem_append_right _ (lvs_bks D _ x hx)
  · rw [e, bks_mkS]
    simp only [List.flatMap_cons, List.flatMap_nil, List.append_nil]
    refine List.nodup_cons.2 ⟨fun hx => hnot gx hx rfl, (spl_bks D T g).nodup_iff.2 (List.nodup_cons.2 ⟨hgs, h.nodup⟩)⟩
  · rw [e, els_mkS]
    simp only [List.flatMap_cons, List.flatMap_nil, List.append_nil]
    rw [spl_els]; exact h.el
  · rw [e]
    refine Mn_mkS.2 ⟨by simp, fun s hs => ?_⟩
    simp only [List.mem_cons, List.not_mem_nil, or_false] at hs
    rcases hs with rfl | rfl
    · exact ⟨by omega, hm1⟩
    · exact ⟨by omega, hm2⟩
end Tre
end Go.Proofs.Ytilmfnlaenneeaa

/- Trees of texts (chapter 13): a text is taken away; no program in sight. -/
namespace Go.Proofs.Ytilmfnlaenneeaa
namespace Tre

structure At (st : St) (d : Nat) (t : Tr d) (nx : Option Nat) : Prop where
  rep : RepI d st t
  lnk : Lnk st (lvs d t) nx
  nodup : (bks d t).Nodup
/-- t became t'. -/
structure CutR (st st' : St) (d : Nat) (t t' : Tr d) (nx : Option Nat) : Prop where
  here : At st' d t' nx
  blk : blk d t' = blk d t
  hd : ∀ nx0, hd (lvs d t') nx0 = hd (lvs d t) nx0
  sub : ∀ x ∈ bks d t', x ∈ bks d t
  same : ∀ x, x ∉ bks d t → st' x = st x
theorem CutR.trans {st st1 st2 : St} {d : Nat} {t t1 t2 : Tr d} {nx : Option Nat} (h : CutR st st1 d t t1 nx) (k : CutR st1 st2 d t1 t2 nx) : CutR st st2 d t t2 nx :=
  ⟨k.here, k.blk.trans h.blk, fun n => (k.hd n).trans (h.hd n), fun x hx => h.sub x (k.sub x hx), fun x hx => (k.same x fun e => hx (h.sub x e)).trans (h.same x hx)⟩
theorem parts3 {d : Nat} {b : Nat} {l r : List (Tr d)} {s : Tr d} (h : (bks (d + 1) (mkS b (l ++ s :: r))).Nodup) : (b :: (bks d s ++ (l.flatMap (bks d) ++ r.flatMap (bks d)))).Nodup := by
  rw [bks_mkS, List.flatMap_append, List.flatMap_cons] at h
  refine (List.Perm.nodup_iff (List.perm_iff_count.2 fun a => ?_)).1 h
  simp only [List.count_append, List.count_cons]
  omega
/-- A kid became another one. -/
theorem CutR.kid {st st1 : St} {d b : Nat} {l r : List (Tr d)} {s s' : Tr d} {nx : Option Nat} (h : At st (d + 1) (mkS b (l ++ s :: r)) nx) (hk : CutR st st1 d s s' (Tre.hd (r.flatMap (lvs d)) nx)) :
    CutR st (upd st1 b ⟨false, (l ++ s' :: r).map (kidE d), none⟩) (d + 1) (mkS b (l ++ s :: r)) (mkS b (l ++ s' :: r)) nx := by
  obtain ⟨hb, hp⟩ := List.nodup_cons.1 (parts3 h.nodup)
  obtain ⟨hns, hn2, hdis⟩ := List.nodup_append.1 hp
  simp only [List.mem_append, not_or] at hb
  obtain ⟨hb1, hb2, hb3⟩ := hb
  have hri := RepI_mkS.1 h.rep
  have sameR : ∀ x, x ∈ l.flatMap (bks d) ++ r.flatMap (bks d) → upd st1 b ⟨false, (l ++ s' :: r).map (kidE d), none⟩ x = st x := fun x hx => by
    rw [upd_ne (fun e => by subst e; rcases List.mem_append.1 hx with hx | hx; exact hb2 hx; exact hb3 hx)]
    exact hk.same x fun e => hdis x e x hx rfl
  have sameS : ∀ x, x ∈ bks d s' → upd st1 b ⟨false, (l ++ s' :: r).map (kidE d), none⟩ x = st1 x := fun x hx => upd_ne fun e => hb1 (e ▸ hk.sub x hx)
  refine ⟨⟨RepI_mkS.2 ⟨upd_eq _ _ _, fun u hu => ?_⟩, ?_, ?_⟩, rfl, fun nx0 => ?_, fun x hx => ?_, fun x hx => ?_⟩
  · simp only [List.mem_append, List.mem_cons] at hu
    rcases hu with hu | rfl | hu
    · exact (hri.2 u (by simp [hu])).congr fun x hx => sameR x (List.mem_append_left _ (List.mem_flatMap.2 ⟨u, hu, hx⟩))
    · exact hk.here.rep.congr sameS
    · exact (hri.2 u (by simp [hu])).congr fun x hx => sameR x (List.mem_append_right _ (List.mem_flatMap.2 ⟨u, hu, hx⟩))
  · have hl := h.lnk
    rw [lvs_mkS, List.flatMap_append, List.flatMap_cons] at hl ⊢
    obtain ⟨h1, h2⟩ := Lnk.app.1 hl
    obtain ⟨h2, h3⟩ := Lnk.app.1 h2
    refine Lnk.app.2 ⟨?_, Lnk.app.2 ⟨?_, ?_⟩⟩
    · rw [hd_app, hk.hd, ← hd_app]
      exact h1.congr fun x hx => sameR _ (List.mem_append_left _ (flat_lvs hx))
    · exact hk.here.lnk.congr fun x hx => sameS _ (lvs_bks d _ x hx)
    · exact h3.congr fun x hx => sameR _ (List.mem_append_right _ (flat_lvs hx))
  · have : (b :: (bks d s' ++ (l.flatMap (bks d) ++ r.flatMap (bks d)))).Nodup := by
      refine List.nodup_cons.2 ⟨?_, List.nodup_append.2 ⟨hk.here.nodup, hn2, fun x hx y hy => hdis x (hk.sub x hx) y hy⟩⟩
      simp only [List.mem_append, not_or]
      exact ⟨fun e => hb1 (hk.sub b e), hb2, hb3⟩
    rw [bks_mkS, List.flatMap_append, List.flatMap_cons]
    refine (List.Perm.nodup_iff (List.perm_iff_count.2 fun a => ?_)).1 this
    simp only [List.count_append, List.count_cons]
    omega
  · rw [lvs_mkS, lvs_mkS, List.flatMap_append, List.flatMap_append, List.flatMap_cons, List.flatMap_cons]
    simp only [hd_app]
    rw [hk.hd]
  · rw [bks_mkS, List.flatMap_append, List.flatMap_cons] at hx ⊢
    simp only [List.mem_cons, List.mem_append] at hx ⊢
    rcases hx with hx | hx | hx | hx
    · exact .inl hx
    · exact .inr (.inl hx)
    · exact .inr (.inr (.inl (hk.sub x hx)))
    · exact .inr (.inr (.inr hx))
  · rw [bks_mkS, List.flatMap_append, List.flatMap_cons] at hx
    simp only [List.mem_cons, List.mem_append, not_or] at hx
    rw [upd_ne hx.1]
    exact hk.same x hx.2.2.1

def jn : (d : Nat) → Tr d → Tr d → Tr d
  | 0, a, c => mk0 a.1 (List.append a.2 c.2)
  | _ + 1, a, c => mkS a.1 (List.append a.2 c.2)
theorem jn_els : ∀ (d : Nat) (a c : Tr d), els d (jn d a c) = els d a ++ els d c
  | 0, _, _ => rfl
  | _ + 1, a, c => List.flatMap_append (xs := a.2) (ys := c.2)
theorem jn_cnt : ∀ (d : Nat) (a c : Tr d), cnt d (jn d a c) = cnt d a + cnt d c
  | 0, a, c => @List.length_append _ a.2 c.2
  | _ + 1, a, c => @List.length_append _ a.2 c.2
theorem jn_blk : ∀ (d : Nat) (a c : Tr d), blk d (jn d a c) = blk d a
  | 0, _, _ => rfl
  | _ + 1, _, _ => rfl
theorem jn_ents : ∀ (d : Nat) (a c : Tr d), ents d (jn d a c) = ents d a ++ ents d c
  | 0, a, c => List.map_append (l₁ := a.2) (l₂ := c.2)
  | _ + 1, a, c => List.map_append (l₁ := a.2) (l₂ := c.2)
theorem jn_mn : ∀ {d : Nat} {a c : Tr d}, Mn d a → Mn d c → cnt d a + cnt d c ≤ 8 → Mn d (jn d a c)
  | 0, a, c, _, _, h => by show cnt 0 (jn 0 a c) ≤ 8; rw [jn_cnt]; exact h
  | d + 1, a, c, h1, h2, h => by
    refine ⟨by show cnt (d + 1) (jn (d + 1) a c) ≤ 8; rw [jn_cnt]; exact h, fun s hs => ?_⟩
    rcases List.mem_append.1 (show s ∈ List.append a.2 c.2 from hs) with hs | hs
    · exact h1.2 s hs
    · exact h2.2 s hs
theorem jn_bks : ∀ (d : Nat) (a c : Tr d), (blk d c :: bks d (jn d a c)).Perm (bks d a ++ bks d c)
  | 0, a, c => List.Perm.swap _ _ _
  | d + 1, a, c => by
    show (c.1 :: a.1 :: List.flatMap (bks d) (List.append a.2 c.2)).Perm ((a.1 :: List.flatMap (bks d) a.2) ++ (c.1 :: List.flatMap (bks d) c.2))
    rw [show List.append a.2 c.2 = (show List (Tr d) from a.2) ++ (show List (Tr d) from c.2) from rfl, List.flatMap_append]
    refine List.perm_iff_count.2 fun x => ?_
    simp only [List.count_append, List.count_cons]
    omega
/-- The texts, or kids, of two are parted anew: the first j go to the first one. -/
def rd (j : Nat) : (d : Nat) → Tr d → Tr d → Tr d × Tr d
  | 0, a, c => (mk0 a.1 (List.take j (List.append a.2 c.2)), mk0 c.1 (List.drop j (List.append a.2 c.2)))
  | _ + 1, a, c => (mkS a.1 (List.take j (List.append a.2 c.2)), mkS c.1 (List.drop j (List.append a.2 c.2)))
theorem rd_els (j : Nat) : ∀ (d : Nat) (a c : Tr d), els d (rd j d a c).1 ++ els d (rd j d a c).2 = els d a ++ els d c
  | 0, a, c => List.take_append_drop j _
  | d + 1, a, c => by
    rw [← jn_els (d + 1) a c]
    show List.flatMap (els d) (List.take j (List.append a.2 c.2)) ++ List.flatMap (els d) (List.drop j (List.append a.2 c.2)) = List.flatMap (els d) (List.append a.2 c.2)
    rw [← List.flatMap_append, List.take_append_drop]
theorem rd_cnt (j : Nat) : ∀ (d : Nat) (a c : Tr d), j ≤ cnt d a + cnt d c → cnt d (rd j d a c).1 = j ∧ cnt d (rd j d a c).2 = cnt d a + cnt d c - j
  | 0, a, c, h => by
    have e := jn_cnt 0 a c
    have e' : List.length (List.append a.2 c.2) = cnt 0 a + cnt 0 c := e
    exact ⟨by show List.length (List.take j (List.append a.2 c.2)) = j; rw [List.length_take]; omega, by show List.length (List.drop j (List.append a.2 c.2)) = _; rw [List.length_drop, e']⟩
  | d + 1, a, c, h => by
    have e := jn_cnt (d + 1) a c
    have e' : List.length (List.append a.2 c.2) = cnt (d + 1) a + cnt (d + 1) c := e
    exact ⟨by show List.length (List.take j (List.append a.2 c.2)) = j; rw [List.length_take]; omega, by show List.length (List.drop j (List.append a.2 c.2)) = _; rw [List.length_drop, e']⟩
theorem rd_blk (j : Nat) : ∀ (d : Nat) (a c : Tr d), blk d (rd j d a c).1 = blk d a ∧ blk d (rd j d a c).2 = blk d c
  | 0, _, _ => ⟨rfl, rfl⟩
  | _ + 1, _, _ => ⟨rfl, rfl⟩
theorem rd_ents (j : Nat) : ∀ (d : Nat) (a c : Tr d), ents d (rd j d a c).1 = (ents d a ++ ents d c).take j ∧ ents d (rd j d a c).2 = (ents d a ++ ents d c).drop j
  | 0, a, c => by
    rw [← jn_ents]
    exact ⟨by show leafE (List.take j _) = _; exact List.map_take, by show leafE (List.drop j _) = _; exact List.map_drop⟩
  | d + 1, a, c => by
    rw [← jn_ents]
    exact ⟨by show List.map (kidE d) (List.take j _) = _; exact List.map_take, by show List.map (kidE d) (List.drop j _) = _; exact List.map_drop⟩
theorem rd_mn {j : Nat} : ∀ {d : Nat} {a c : Tr d}, Mn d a → Mn d c → j ≤ 8 → j ≤ cnt d a + cnt d c → cnt d a + cnt d c - j ≤ 8 → Mn d (rd j d a c).1 ∧ Mn d (rd j d a c).2
  | 0, a, c, _, _, h1, h2, h3 => by
    obtain ⟨e1, e2⟩ := rd_cnt j 0 a c h2
    exact ⟨by show cnt 0 (rd j 0 a c).1 ≤ 8; omega, by show cnt 0 (rd j 0 a c).2 ≤ 8; omega⟩
  | d + 1, a, c, m1, m2, h1, h2, h3 => by
    obtain ⟨e1, e2⟩ := rd_cnt j (d + 1) a c h2
    have hm : ∀ s, s ∈ List.append a.2 c.2 → 4 ≤ cnt d s ∧ Mn d s := fun s hs => by
      rcases List.mem_append.1 hs with hs | hs
      · exact m1.2 s hs
      · exact m2.2 s hs
    exact ⟨⟨by show cnt (d + 1) (rd j (d + 1) a c).1 ≤ 8; omega, fun s hs => hm s (List.mem_of_mem_take hs)⟩, ⟨by show cnt (d + 1) (rd j (d + 1) a c).2 ≤ 8; omega, fun s hs => hm s (List.mem_of_mem_drop hs)⟩⟩
theorem rd_bks (j : Nat) : ∀ (d : Nat) (a c : Tr d), (bks d (rd j d a c).1 ++ bks d (rd j d a c).2).Perm (bks d a ++ bks d c)
  | 0, _, _ => List.Perm.refl _
  | d + 1, a, c => by
    show ((a.1 :: List.flatMap (bks d) (List.take j (List.append a.2 c.2))) ++ (c.1 :: List.flatMap (bks d) (List.drop j (List.append a.2 c.2)))).Perm ((a.1 :: List.flatMap (bks d) a.2) ++ (c.1 :: List.flatMap (bks d) c.2))
    have e : List.flatMap (bks d) (List.take j (List.append a.2 c.2)) ++ List.flatMap (bks d) (List.drop j (List.append a.2 c.2)) = List.flatMap (bks d) a.2 ++ List.flatMap (bks d) c.2 := by
      rw [← List.flatMap_append, List.take_append_drop]
      exact List.flatMap_append (xs := a.2) (ys := c.2)
    refine List.perm_iff_count.2 fun x => ?_
    have e2 := congrArg (List.count x) e
    simp only [List.count_append, List.count_cons] at e2 ⊢
    omega
/-- The parts of two neighbours. -/
theorem parts4 {d : Nat} {b : Nat} {p q : List (Tr d)} {a c : Tr d} (h : (bks (d + 1) (mkS b (p ++ a :: c :: q))).Nodup) : (b :: ((bks d a ++ bks d c) ++ (p.flatMap (bks d) ++ q.flatMap (bks d)))).Nodup := by
  rw [bks_mkS, List.flatMap_append, List.flatMap_cons, List.flatMap_cons] at h
  refine (List.Perm.nodup_iff (List.perm_iff_count.2 fun a => ?_)).1 h
  simp only [List.count_append, List.count_cons]
  omega
/-- Two neighbours are joined. -/
theorem CutR.join : ∀ {d : Nat} {st st' : St} {b : Nat} {p q : List (Tr d)} {a c : Tr d} {nx : Option Nat}, At st (d + 1) (mkS b (p ++ a :: c :: q)) nx →
    (∀ nxc, st (Tre.blk d c) = some ⟨d == 0, ents d c, nxc⟩ → st' (Tre.blk d a) = some ⟨d == 0, ents d a ++ ents d c, nxc⟩) → st' b = some ⟨false, (p ++ jn d a c :: q).map (kidE d), none⟩ →
    (∀ x, x ≠ b → x ≠ Tre.blk d a → x ≠ Tre.blk d c → st' x = st x) → CutR st st' (d + 1) (mkS b (p ++ a :: c :: q)) (mkS b (p ++ jn d a c :: q)) nx := by
  intro d st st' b p q a c nx h h1 h2 h3
  obtain ⟨hb, hp⟩ := List.nodup_cons.1 (parts4 h.nodup)
  obtain ⟨hnac, hn2, hdis⟩ := List.nodup_append.1 hp
  simp only [List.mem_append, not_or] at hb
  obtain ⟨⟨hba, hbc⟩, hb2, hb3⟩ := hb
  obtain ⟨hna, hnc, hac⟩ := List.nodup_append.1 hnac
  have ma := blk_mem d a
  have mc := blk_mem d c
  have hri := RepI_mkS.1 h.rep
  have sameR : ∀ x, x ∈ p.flatMap (bks d) ++ q.flatMap (bks d) → st' x = st x := fun x hx => by
    refine h3 x (fun e => ?_) (fun e => ?_) (fun e => ?_)
    · subst e; rcases List.mem_append.1 hx with hx | hx; exact hb2 hx; exact hb3 hx
    · exact hdis _ (List.mem_append_left _ ma) x hx e.symm
    · exact hdis _ (List.mem_append_right _ mc) x hx e.symm
  have hl := h.lnk
  rw [lvs_mkS, List.flatMap_append, List.flatMap_cons, List.flatMap_cons] at hl
  obtain ⟨l1, l2⟩ := Lnk.app.1 hl
  obtain ⟨l2, l3⟩ := Lnk.app.1 l2
  obtain ⟨l3, l4⟩ := Lnk.app.1 l3
  have key : RepI d st' (jn d a c) ∧ Lnk st' (lvs d (jn d a c)) (Tre.hd (q.flatMap (lvs d)) nx) ∧ ∀ nx0, Tre.hd (lvs d (jn d a c)) nx0 = Tre.hd (lvs d a) (Tre.hd (lvs d c) nx0) := by
    cases d with
    | zero =>
      refine ⟨trivial, ⟨?_, trivial⟩, fun _ => rfl⟩
      have := h1 _ l3.1
      rw [show leafE (jn 0 a c).2 = ents 0 a ++ ents 0 c from jn_ents 0 a c]
      exact this
    | succ d =>
      have e : lvs (d + 1) (jn (d + 1) a c) = lvs (d + 1) a ++ lvs (d + 1) c := List.flatMap_append (xs := a.2) (ys := c.2)
      have ra := hri.2 a (by simp)
      have rc := hri.2 c (by simp)
      have hna' : a.1 ∉ List.flatMap (bks d) a.2 := (List.nodup_cons.1 hna).1
      have hnc' : c.1 ∉ List.flatMap (bks d) c.2 := (List.nodup_cons.1 hnc).1
      have ka : ∀ x, x ∈ List.flatMap (bks d) a.2 → st' x = st x := fun x hx => h3 x (fun e => hba (List.mem_cons_of_mem _ (by rw [← e]; exact hx))) (fun e => hna' (by have e' : x = a.1 := e; rw [← e']; exact hx)) (fun e => hac x (List.mem_cons_of_mem _ hx) _ mc e)
      have kc : ∀ x, x ∈ List.flatMap (bks d) c.2 → st' x = st x := fun x hx => h3 x (fun e => hbc (List.mem_cons_of_mem _ (by rw [← e]; exact hx))) (fun e => hac _ ma x (List.mem_cons_of_mem _ hx) e.symm) (fun e => hnc' (by have e' : x = c.1 := e; rw [← e']; exact hx))
      refine ⟨⟨?_, fun s hs => ?_⟩, ?_, fun nx0 => by rw [e, hd_app]⟩
      · have := h1 none rc.1
        show st' a.1 = some ⟨false, ents (d + 1) (jn (d + 1) a c), none⟩
        rw [jn_ents]; exact this
      · rcases List.mem_append.1 (show s ∈ List.append a.2 c.2 from hs) with hs | hs
        · exact (ra.2 s hs).congr fun x hx => ka x (List.mem_flatMap.2 ⟨s, hs, hx⟩)
        · exact (rc.2 s hs).congr fun x hx => kc x (List.mem_flatMap.2 ⟨s, hs, hx⟩)
      · rw [e]
        rw [hd_app] at l2
        refine Lnk.app.2 ⟨l2.congr fun x hx => ka _ (flat_lvs (l := a.2) hx), l3.congr fun x hx => kc _ (flat_lvs (l := c.2) hx)⟩
  obtain ⟨kr, kl, kh⟩ := key
  refine ⟨⟨RepI_mkS.2 ⟨h2, fun u hu => ?_⟩, ?_, ?_⟩, rfl, fun nx0 => ?_, fun x hx => ?_, fun x hx => ?_⟩
  · simp only [List.mem_append, List.mem_cons] at hu
    rcases hu with hu | rfl | hu
    · exact (hri.2 u (by simp [hu])).congr fun x hx => sameR x (List.mem_append_left _ (List.mem_flatMap.2 ⟨u, hu, hx⟩))
    · exact kr
    · exact (hri.2 u (by simp [hu])).congr fun x hx => sameR x (List.mem_append_right _ (List.mem_flatMap.2 ⟨u, hu, hx⟩))
  · rw [lvs_mkS, List.flatMap_append, List.flatMap_cons]
    refine Lnk.app.2 ⟨?_, Lnk.app.2 ⟨kl, l4.congr fun x hx => sameR _ (List.mem_append_right _ (flat_lvs hx))⟩⟩
    rw [hd_app, kh, ← hd_app, ← hd_app]
    rw [← List.append_assoc] at l1
    exact l1.congr fun x hx => sameR _ (List.mem_append_left _ (flat_lvs hx))
  · have : (Tre.blk d c :: bks (d + 1) (mkS b (p ++ jn d a c :: q))).Nodup := by
      refine (List.Perm.nodup_iff (List.perm_iff_count.2 fun x => ?_)).1 h.nodup
      have e := (jn_bks d a c).count_eq x
      rw [bks_mkS, bks_mkS]
      simp only [List.flatMap_append, List.flatMap_cons, List.count_append, List.count_cons] at e ⊢
      omega
    exact (List.nodup_cons.1 this).2
  · rw [lvs_mkS, lvs_mkS]
    simp only [List.flatMap_append, List.flatMap_cons, hd_app]
    rw [kh]
  · have e := (jn_bks d a c).mem_iff (a := x)
    rw [bks_mkS] at hx ⊢
    simp only [List.flatMap_append, List.flatMap_cons, List.mem_append, List.mem_cons] at hx e ⊢
    rcases hx with hx | hx | hx | hx
    · exact .inl hx
    · exact .inr (.inl hx)
    · rcases e.1 (.inr hx) with h | h
      · exact .inr (.inr (.inl h))
      · exact .inr (.inr (.inr (.inl h)))
    · exact .inr (.inr (.inr (.inr hx)))
  · rw [bks_mkS] at hx
    simp only [List.flatMap_append, List.flatMap_cons, List.mem_append, List.mem_cons, not_or] at hx
    exact h3 x hx.1 (fun e => hx.2.2.1 (by rw [e]; exact ma)) (fun e => hx.2.2.2.1 (by rw [e]; exact mc))
/-- Two neighbours share anew. -/
theorem CutR.share {j : Nat} : ∀ {d : Nat} {st st' : St} {b : Nat} {p q : List (Tr d)} {a c : Tr d} {nx : Option Nat}, At st (d + 1) (mkS b (p ++ a :: c :: q)) nx →
    (∀ nxa, st (Tre.blk d a) = some ⟨d == 0, ents d a, nxa⟩ → st' (Tre.blk d a) = some ⟨d == 0, (ents d a ++ ents d c).take j, nxa⟩) → (∀ nxc, st (Tre.blk d c) = some ⟨d == 0, ents d c, nxc⟩ → st' (Tre.blk d c) = some ⟨d == 0, (ents d a ++ ents d c).drop j, nxc⟩) →
    st' b = some ⟨false, (p ++ (rd j d a c).1 :: (rd j d a c).2 :: q).map (kidE d), none⟩ →
    (∀ x, x ≠ b → x ≠ Tre.blk d a → x ≠ Tre.blk d c → st' x = st x) → CutR st st' (d + 1) (mkS b (p ++ a :: c :: q)) (mkS b (p ++ (rd j d a c).1 :: (rd j d a c).2 :: q)) nx := by
  intro d st st' b p q a c nx h h1 h1' h2 h3
  obtain ⟨hb, hp⟩ := List.nodup_cons.1 (parts4 h.nodup)
  obtain ⟨hnac, hn2, hdis⟩ := List.nodup_append.1 hp
  simp only [List.mem_append, not_or] at hb
  obtain ⟨⟨hba, hbc⟩, hb2, hb3⟩ := hb
  obtain ⟨hna, hnc, hac⟩ := List.nodup_append.1 hnac
  have ma := blk_mem d a
  have mc := blk_mem d c
  have hri := RepI_mkS.1 h.rep
  have sameR : ∀ x, x ∈ p.flatMap (bks d) ++ q.flatMap (bks d) → st' x = st x := fun x hx => by
    refine h3 x (fun e => ?_) (fun e => ?_) (fun e => ?_)
    · subst e; rcases List.mem_append.1 hx with hx | hx; exact hb2 hx; exact hb3 hx
    · exact hdis _ (List.mem_append_left _ ma) x hx e.symm
    · exact hdis _ (List.mem_append_right _ mc) x hx e.symm
  have hl := h.lnk
  rw [lvs_mkS, List.flatMap_append, List.flatMap_cons, List.flatMap_cons] at hl
  obtain ⟨l1, l2⟩ := Lnk.app.1 hl
  obtain ⟨l2, l3⟩ := Lnk.app.1 l2
  obtain ⟨l3, l4⟩ := Lnk.app.1 l3
  have key : RepI d st' (rd j d a c).1 ∧ RepI d st' (rd j d a c).2 ∧ Lnk st' (lvs d (rd j d a c).1 ++ lvs d (rd j d a c).2) (Tre.hd (q.flatMap (lvs d)) nx) ∧ ∀ nx0, Tre.hd (lvs d (rd j d a c).1 ++ lvs d (rd j d a c).2) nx0 = Tre.hd (lvs d a) (Tre.hd (lvs d c) nx0) := by
    cases d with
    | zero =>
      obtain ⟨e1, e2⟩ := rd_ents j 0 a c
      refine ⟨trivial, trivial, ⟨?_, ?_, trivial⟩, fun _ => rfl⟩
      · have := h1 _ l2.1
        rw [← e1] at this
        exact this
      · have := h1' _ l3.1
        rw [← e2] at this
        exact this
    | succ d =>
      obtain ⟨e1, e2⟩ := rd_ents j (d + 1) a c
      have e : lvs (d + 1) (rd j (d + 1) a c).1 ++ lvs (d + 1) (rd j (d + 1) a c).2 = lvs (d + 1) a ++ lvs (d + 1) c := by
        show List.flatMap (lvs d) (List.take j (List.append a.2 c.2)) ++ List.flatMap (lvs d) (List.drop j (List.append a.2 c.2)) = _
        rw [← List.flatMap_append, List.take_append_drop]
        exact List.flatMap_append (xs := a.2) (ys := c.2)
      have ra := hri.2 a (by simp)
      have rc := hri.2 c (by simp)
      have hna' : a.1 ∉ List.flatMap (bks d) a.2 := (List.nodup_cons.1 hna).1
      have hnc' : c.1 ∉ List.flatMap (bks d) c.2 := (List.nodup_cons.1 hnc).1
      have ka : ∀ x, x ∈ List.flatMap (bks d) a.2 → st' x = st x := fun x hx => h3 x (fun e => hba (List.mem_cons_of_mem _ (by rw [← e]; exact hx))) (fun e => hna' (by have e' : x = a.1 := e; rw [← e']; exact hx)) (fun e => hac x (List.mem_cons_of_mem _ hx) _ mc e)
      have kc : ∀ x, x ∈ List.flatMap (bks d) c.2 → st' x = st x := fun x hx => h3 x (fun e => hbc (List.mem_cons_of_mem _ (by rw [← e]; exact hx))) (fun e => hac _ ma x (List.mem_cons_of_mem _ hx) e.symm) (fun e => hnc' (by have e' : x = c.1 := e; rw [← e']; exact hx))
      have hall : ∀ s, s ∈ List.append a.2 c.2 → RepI d st' s := fun s hs => by
        rcases List.mem_append.1 hs with hs | hs
        · exact (ra.2 s hs).congr fun x hx => ka x (List.mem_flatMap.2 ⟨s, hs, hx⟩)
        · exact (rc.2 s hs).congr fun x hx => kc x (List.mem_flatMap.2 ⟨s, hs, hx⟩)
      refine ⟨⟨?_, fun s hs => hall s (List.mem_of_mem_take hs)⟩, ⟨?_, fun s hs => hall s (List.mem_of_mem_drop hs)⟩, ?_, fun nx0 => by rw [e, hd_app]⟩
      · have := h1 none ra.1
        show st' a.1 = some ⟨false, ents (d + 1) (rd j (d + 1) a c).1, none⟩
        rw [e1]; exact this
      · have := h1' none rc.1
        show st' c.1 = some ⟨false, ents (d + 1) (rd j (d + 1) a c).2, none⟩
        rw [e2]; exact this
      · rw [e]
        rw [hd_app] at l2
        refine Lnk.app.2 ⟨l2.congr fun x hx => ka _ (flat_lvs (l := a.2) hx), l3.congr fun x hx => kc _ (flat_lvs (l := c.2) hx)⟩
  obtain ⟨kr, kr2, kl, kh⟩ := key
  refine ⟨⟨RepI_mkS.2 ⟨h2, fun u hu => ?_⟩, ?_, ?_⟩, rfl, fun nx0 => ?_, fun x hx => ?_, fun x hx => ?_⟩
  · simp only [List.mem_append, List.mem_cons] at hu
    rcases hu with hu | rfl | rfl | hu
    · exact (hri.2 u (by simp [hu])).congr fun x hx => sameR x (List.mem_append_left _ (List.mem_flatMap.2 ⟨u, hu, hx⟩))
    · exact kr
    · exact kr2
    · exact (hri.2 u (by simp [hu])).congr fun x hx => sameR x (List.mem_append_right _ (List.mem_flatMap.2 ⟨u, hu, hx⟩))
  · rw [lvs_mkS, List.flatMap_append, List.flatMap_cons, List.flatMap_cons, ← List.append_assoc (lvs d _)]
    refine Lnk.app.2 ⟨?_, Lnk.app.2 ⟨kl, l4.congr fun x hx => sameR _ (List.mem_append_right _ (flat_lvs hx))⟩⟩
    rw [hd_app, kh, ← hd_app, ← hd_app]
    rw [← List.append_assoc] at l1
    exact l1.congr fun x hx => sameR _ (List.mem_append_left _ (flat_lvs hx))
  · refine (List.Perm.nodup_iff (List.perm_iff_count.2 fun x => ?_)).1 h.nodup
    have e := (rd_bks j d a c).count_eq x
    rw [bks_mkS, bks_mkS]
    simp only [List.flatMap_append, List.flatMap_cons, List.count_append, List.count_cons] at e ⊢
    omega
  · rw [lvs_mkS, lvs_mkS, List.flatMap_append, List.flatMap_append, List.flatMap_cons, List.flatMap_cons, List.flatMap_cons, List.flatMap_cons, ← List.append_assoc (lvs d (rd j d a c).1), hd_app, hd_app (lvs d (rd j d a c).1 ++ _), kh]
    simp only [hd_app]
  · have e := (rd_bks j d a c).mem_iff (a := x)
    rw [bks_mkS] at hx ⊢
    simp only [List.flatMap_append, List.flatMap_cons, List.mem_append, List.mem_cons] at hx e ⊢
    rcases hx with hx | hx | hx | hx | hx
    · exact .inl hx
    · exact .inr (.inl hx)
    · rcases e.1 (.inl hx) with h | h
      · exact .inr (.inr (.inl h))
      · exact .inr (.inr (.inr (.inl h)))
    · rcases e.1 (.inr hx) with h | h
      · exact .inr (.inr (.inl h))
      · exact .inr (.inr (.inr (.inl h)))
    · exact .inr (.inr (.inr (.inr hx)))
  · rw [bks_mkS] at hx
    simp only [List.flatMap_append, List.flatMap_cons, List.mem_append, List.mem_cons, not_or] at hx
    exact h3 x hx.1 (fun e => hx.2.2.1 (by rw [e]; exact ma)) (fun e => hx.2.2.2.1 (by rw [e]; exact mc))
theorem jn_len (d : Nat) (a c : Tr d) : (bks d (jn d a c)).length + 1 = (bks d a).length + (bks d c).length := by
  have := (jn_bks d a c).length_eq
  simp only [List.length_cons, List.length_append] at this
  exact this
theorem rd_len (j d : Nat) (a c : Tr d) : (bks d (rd j d a c).1).length + (bks d (rd j d a c).2).length = (bks d a).length + (bks d c).length := by
  have := (rd_bks j d a c).length_eq
  simp only [List.length_append] at this
  exact this
end Tre
end Go.Proofs.Ytilmfnlaenneeaa

/- Trees of texts (chapter 13): what the walks ask of a tree; no program in sight. -/
namespace Go.Proofs.Ytilmfnlaenneeaa
namespace Tre
theorem nodeAt : ∀ {d : Nat} {st : St} {t : Tr d} {nx : Option Nat}, RepI d st t → Lnk st (lvs d t) nx → ∃ nx', st (blk d t) = some ⟨d == 0, ents d t, nx'⟩ ∧ (d ≠ 0 → nx' = none)
  | 0, _, _, _, _, h => ⟨_, h.1, fun e => absurd rfl e⟩
  | _ + 1, _, _, _, h, _ => ⟨none, h.1, fun _ => rfl⟩
theorem lnk_valid {st : St} : ∀ {l : List (Nat × List KV)}, Lnk st l none → ∀ x ∈ l, ∀ nd, st x.1 = some nd → ∀ q, nd.next = some q → st q ≠ none
  | [], _, _, h, _, _, _, _ => by cases h
  | a :: l, h, x, hx, nd, hnd, q, hq => by
    rcases List.mem_cons.1 hx with rfl | hx
    · rw [h.1] at hnd
      obtain rfl := Option.some.inj hnd
      cases l with
      | nil => cases hq
      | cons y l =>
        have : q = y.1 := (Option.some.inj hq).symm
        subst this
        rw [h.2.1]; simp
    · exact lnk_valid h.2 x hx nd hnd q hq
theorem flat_few {d : Nat} : ∀ {l : List (Tr d)}, (∀ s ∈ l, 4 ≤ cnt d s ∧ Mn d s) → 3 * (l.flatMap (bks d)).length + l.length ≤ (l.flatMap (els d)).length
  | [], _ => by simp
  | s :: l, hl => by
    have h1 := flat_few (l := l) fun x hx => hl x (by simp [hx])
    have h2 := hl s (by simp)
    have h3 := bks_few h2.2 h2.1
    simp only [List.flatMap_cons, List.length_append, List.length_cons]
    omega
theorem few {D : Nat} {T : Tr D} (hm : Mn D T) (hr : D = 0 ∨ 2 ≤ cnt D T) : (bks D T).length ≤ (els D T).length + 1 ∧ (1 ≤ cnt D T → (bks D T).length ≤ (els D T).length) := by
  cases D with
  | zero => exact ⟨by show 1 ≤ _; omega, fun h => h⟩
  | succ d =>
    have h2 : 2 ≤ cnt (d + 1) T := by rcases hr with h | h; cases h; exact h
    obtain ⟨b, l⟩ := T
    have h3 := flat_few (l := l) hm.2
    have h4 : 2 ≤ l.length := h2
    have e1 : (bks (d + 1) (mkS b l)).length = (l.flatMap (bks d)).length + 1 := by rw [bks_mkS, List.length_cons]
    have e2 : els (d + 1) (mkS b l) = l.flatMap (els d) := rfl
    show (bks (d + 1) (mkS b l)).length ≤ (els (d + 1) (mkS b l)).length + 1 ∧ (_ → (bks (d + 1) (mkS b l)).length ≤ (els (d + 1) (mkS b l)).length)
    rw [e1, e2]
    omega
theorem blk_plug : ∀ {D d : Nat} (c : Ctx D d) {t t' : Tr d}, blk d t' = blk d t → blk D (plug c t') = blk D (plug c t)
  | _, _, .top, _, _, h => by rw [plug_top, plug_top]; exact h
  | _, _, .down c b l r, t, t', _ => by rw [plug_down, plug_down]; exact blk_plug c rfl
theorem PutI.lnks {st : St} {k : Ky} {D d : Nat} {c : Ctx D d} {t : Tr d} {l : List KV} (h : PutI st k c t l) : ∃ nx, Lnk st (lvs d t) nx := by
  have hl := h.lnk
  rw [lvs_plug] at hl
  obtain ⟨h5, -⟩ := Lnk.app.1 hl
  obtain ⟨-, h5⟩ := Lnk.app.1 h5
  exact ⟨_, h5⟩
theorem PutI.kidAt {st : St} {k : Ky} {D d : Nat} {c : Ctx D (d + 1)} {b : Nat} {l r : List (Tr d)} {s : Tr d} {L : List KV} (h : PutI st k c (mkS b (l ++ s :: r)) L) : ∃ nx, st (blk d s) = some ⟨d == 0, ents d s, nx⟩ ∧ (d ≠ 0 → nx = none) ∧ ∀ q, nx = some q → st q ≠ none := by
  have hri := RepI_mkS.1 h.repi
  obtain ⟨nx1, h1⟩ := h.lnks
  obtain ⟨nx2, h2⟩ := Lnk_mem (l := l ++ s :: r) h1 s (by simp)
  obtain ⟨nx3, h3, h4⟩ := nodeAt (hri.2 s (by simp)) h2
  refine ⟨nx3, h3, h4, fun q hq => ?_⟩
  cases d with
  | zero =>
    have hm : (s.1, s.2) ∈ lvs D (plug c (mkS b (l ++ s :: r))) := by
      rw [lvs_plug, lvs_mkS]
      simp only [List.mem_append, List.flatMap_append, List.flatMap_cons]
      exact .inl (.inr (.inr (.inl (List.mem_singleton.2 rfl))))
    exact lnk_valid h.lnk _ hm _ h3 q hq
  | succ d => rw [h4 (by omega)] at hq; cases hq
theorem Good.rootAt {st : St} {D : Nat} {T : Tr D} {l : List KV} (h : Good st D T l) : ∃ nx, st (blk D T) = some ⟨D == 0, ents D T, nx⟩ ∧ (D ≠ 0 → nx = none) ∧ ∀ q, nx = some q → st q ≠ none := by
  obtain ⟨nx, h1, h2⟩ := nodeAt h.rep h.lnk
  refine ⟨nx, h1, h2, fun q hq => ?_⟩
  cases D with
  | zero => exact lnk_valid h.lnk (T.1, T.2) (List.mem_singleton.2 rfl) _ h1 q hq
  | succ d => rw [h2 (by omega)] at hq; cases hq
theorem ents_key0 : ∀ {d : Nat} {t : Tr d}, Mn d t → 1 ≤ cnt d t → ∀ (z : En), ((ents d t).getD 0 z).key = fk d t
  | 0, t, _, h, z => by
    obtain ⟨b, es⟩ := t
    cases es with
    | nil => simp [cnt] at h
    | cons e es => rfl
  | d + 1, t, hm, h, z => by
    obtain ⟨b, l⟩ := t
    cases l with
    | nil => simp [cnt] at h
    | cons s l =>
      have hs := hm.2 s (List.Mem.head _)
      show fk d s = fstK (List.flatMap (els d) (s :: l))
      rw [List.flatMap_cons, fst_app (els_ne hs.2 (by omega))]
      rfl
theorem keys_kid {d : Nat} (l : List (Tr d)) : (l.map (kidE d)).map En.key = l.map (fk d) := by rw [List.map_map]; rfl
theorem keys_leaf (es : List KV) : (leafE es).map En.key = es.map Prod.fst := by unfold leafE; rw [List.map_map]; rfl
theorem kid_at {d : Nat} (l r : List (Tr d)) (s : Tr d) (z : En) : ((l ++ s :: r).map (kidE d)).getD l.length z = kidE d s := by
  rw [List.map_append, List.map_cons, List.getD_eq_getElem?_getD, List.getElem?_append_right (by simp)]
  simp
/-- Texts of kids rise; none is empty. -/
theorem PutI.kids {st : St} {k : Ky} {D d : Nat} {c : Ctx D (d + 1)} {b : Nat} {ks : List (Tr d)} {L : List KV} (h : PutI st k c (mkS b ks) L) : (∀ s ∈ ks, 4 ≤ cnt d s ∧ Mn d s) ∧ ks.length ≤ 8 ∧ Srt (ks.flatMap (els d)) := by
  obtain ⟨-, -, h1, h2⟩ := Mn_plug.1 h.mn
  refine ⟨h2, h1, ?_⟩
  have he := h.el
  rw [els_plug] at he
  have hs := h.srt
  rw [← he] at hs
  exact (srt_app.1 (srt_app.1 hs).1).2.1
theorem PutI.two {st : St} {k : Ky} {D d : Nat} {c : Ctx D (d + 1)} {t : Tr (d + 1)} {l : List KV} (h : PutI st k c t l) : 2 ≤ cnt (d + 1) t := by
  cases c with
  | top =>
    rcases h.root with e | e
    · cases e
    · rwa [plug_top] at e
  | down c b l r =>
    have := (Mn_plug.1 h.mn).2.1
    unfold lowC at this
    omega
theorem get_mid {α : Type} (l r : List α) (x : α) : (l ++ x :: r)[l.length]? = some x := by rw [List.getElem?_append_right (Nat.le_refl _), Nat.sub_self]; rfl
/-- When a kid was cut in two, the text stands under one of the two. -/
theorem kid_again {d : Nat} {k : Ky} {l r l1 r1 : List (Tr d)} {s1 s2 s' : Tr d} (he : l ++ s1 :: s2 :: r = l1 ++ s' :: r1) (h1 : els d s1 ≠ []) (hr : ∀ x ∈ r, els d x ≠ []) (hf : l ≠ [] → kl k (fk d s1) = false) (hhi : Hi (r.flatMap (els d)) k)
    (hhi1 : Hi (r1.flatMap (els d)) k) (hf1 : l1 ≠ [] → kl k (fk d s') = false) : s' = s1 ∨ s' = s2 := by
  have g1 : (l1 ++ s' :: r1)[l.length]? = some s1 := by rw [← he]; exact get_mid _ _ _
  have g2 : (l ++ s1 :: s2 :: r)[l1.length]? = some s' := by rw [he]; exact get_mid _ _ _
  have hi_of : ∀ {q : List (Tr d)} {x : Tr d}, Hi (q.flatMap (els d)) k → x ∈ q → els d x ≠ [] → kl k (fk d x) = true := fun {q x} hq hx hn => by
    obtain ⟨e, he, hek⟩ := fstK_mem hn
    have := hq e (List.mem_flatMap.2 ⟨x, hx, he⟩)
    rw [hek] at this
    exact this
  rcases Nat.lt_or_ge l1.length l.length with hlt | hge
  · exfalso
    rw [List.getElem?_append_right (by omega), show l.length - l1.length = (l.length - l1.length - 1) + 1 by omega, List.getElem?_cons_succ] at g1
    have := hi_of hhi1 (List.mem_of_getElem? g1) h1
    rw [hf (fun e => by rw [e] at hlt; simp at hlt)] at this
    cases this
  · rw [List.getElem?_append_right hge] at g2
    rcases Nat.lt_or_ge (l1.length - l.length) 2 with h | h
    · rcases Nat.lt_or_ge (l1.length - l.length) 1 with h0 | h0
      · rw [show l1.length - l.length = 0 by omega] at g2
        left; exact (Option.some.inj g2).symm
      · rw [show l1.length - l.length = 1 by omega] at g2
        right; exact (Option.some.inj g2).symm
    · exfalso
      rw [show l1.length - l.length = (l1.length - l.length - 2) + 1 + 1 by omega, List.getElem?_cons_succ, List.getElem?_cons_succ] at g2
      have hm := List.mem_of_getElem? g2
      have := hi_of hhi hm (hr _ hm)
      rw [hf1 (fun e => by rw [e] at h; simp at h)] at this
      cases this
theorem set_kid {d : Nat} (l r : List (Tr d)) (s : Tr d) (x : En) : ((l ++ s :: r).map (kidE d)).set l.length x = l.map (kidE d) ++ x :: r.map (kidE d) := by
  rw [List.map_append, List.map_cons, List.set_append_right _ _ (by simp)]
  simp
theorem leaf_getD (es : List KV) {p : Nat} (hp : p < es.length) (z : En) : (leafE es).getD p z = ⟨es[p].1, es[p].2, none⟩ := by simp [leafE, hp]
theorem leaf_len (es : List KV) : (leafE es).length = es.length := by simp [leafE]
theorem PutI.get {st : St} {k : Ky} {D : Nat} {c : Ctx D 0} {b : Nat} {es : List KV} {L : List KV} (h : PutI st k c (mk0 b es) L) : getL k L = getL k es ∧ Srt es := by
  have he := h.el
  have hs := h.srt
  rw [els_plug] at he
  have he' : cl c ++ es ++ cr c = L := he
  rw [← he'] at hs ⊢
  refine ⟨by rw [List.append_assoc, getL_lo h.lo, getL_hi h.hi], (srt_app.1 (srt_app.1 hs).1).2.1⟩
end Tre
end Go.Proofs.Ytilmfnlaenneeaa

/- Small lemmas on rows of cells and worlds, for every walk of this seat. -/
namespace Go.Proofs.Ytilmfnlaenneeaa
open Go.RowKit

/-- The world is the same but for draws. -/
def Drawn (w w' : World) : Prop := ∃ n, w' = w.drewN n
theorem Drawn.mk (w : World) (n : Nat) : Drawn w (w.drewN n) := ⟨n, rfl⟩

/-- Element j of a list of integers. -/
def nth (l : List Int) (j : Nat) : Int := l.getD j 0

/-- The cells from offset o of block b on read as the integers l. -/
def Row (k : IntKind) (w : World) (b o : Nat) (l : List Int) : Prop :=
  ∀ j, j < l.length → w.cell? ⟨b, o + j, none⟩ = some (.int k (nth l j))

theorem Row.at {k : IntKind} {w : World} {b o : Nat} {l : List Int} (h : Row k w b o l) (j : Nat) (hj : j < l.length) :
    w.cell? ⟨b, o + j, none⟩ = some (.int k (nth l j)) := h j hj
theorem Row.at' {k : IntKind} {w : World} {b o : Nat} {l : List Int} (h : Row k w b o l) (j i : Nat) (hj : j < l.length) (hi : i = o + j) :
    w.cell? ⟨b, i, none⟩ = some (.int k (nth l j)) := by subst hi; exact h j hj
theorem Row.at0 {k : IntKind} {w : World} {b : Nat} {l : List Int} (h : Row k w b 0 l) (j : Nat) (hj : j < l.length) :
    w.cell? ⟨b, j, none⟩ = some (.int k (nth l j)) := h.at' j j hj (by omega)

theorem nth_set_eq (l : List Int) (i : Nat) (x : Int) (h : i < l.length) : nth (l.set i x) i = x := by
  simp [nth, h]
theorem nth_set_ne (l : List Int) (i j : Nat) (x : Int) (h : j ≠ i) : nth (l.set i x) j = nth l j := by
  simp [nth, Ne.symm h]

theorem Row.of_block {k : IntKind} {w w' : World} {b o : Nat} {l : List Int} (h : Row k w b o l) (hb : w'.heap[b]? = w.heap[b]?) : Row k w' b o l := by
  intro j hj; rw [← h j hj]; exact World.cell?_of_block (w := w) hb
theorem Row.below {B : Nat} {k : IntKind} {w w' : World} {b o : Nat} {l : List Int} (h : Row k w b o l) (hb : Below B w w') (hB : b < B) : Row k w' b o l :=
  h.of_block (hb.block b hB)
theorem Row.drewN {k : IntKind} {w : World} {b o : Nat} {l : List Int} (h : Row k w b o l) (n : Nat) : Row k (w.drewN n) b o l := h.of_block rfl

theorem Row.set {k : IntKind} {w : World} {b o : Nat} {l : List Int} (h : Row k w b o l) (i : Nat) (x : Int) :
    Row k (w.setCell ⟨b, o + i, none⟩ (.int k x)) b o (l.set i x) := by
  intro j hj
  simp only [List.length_set] at hj
  by_cases e : j = i
  · subst e; rw [nth_set_eq _ _ _ hj]; exact World.cell?_setCell_same _ _ _ (h j hj)
  · rw [nth_set_ne _ _ _ _ e, World.cell?_setCell_other _ _ _ _ (by intro e'; apply e; have := congrArg Addr.off e'; simp at this; omega)]; exact h j hj
theorem Row.set0 {k : IntKind} {w : World} {b : Nat} {l : List Int} (h : Row k w b 0 l) (i : Nat) (x : Int) :
    Row k (w.setCell ⟨b, i, none⟩ (.int k x)) b 0 (l.set i x) := by
  have := h.set i x; rwa [Nat.zero_add] at this
theorem Row.other {k : IntKind} {w : World} {b o : Nat} {l : List Int} (h : Row k w b o l) (a : Addr) (v : Value) (hb : b ≠ a.block) :
    Row k (w.setCell a v) b o l := h.of_block (Below.heap_setCell w a v b hb)
theorem Row.alloc {k : IntKind} {w : World} {b o : Nat} {l : List Int} (h : Row k w b o l) (ob : Obj) (hb : b < w.heap.size) :
    Row k (w.alloc ob) b o l := h.of_block (Below.heap_alloc w ob b hb)

/-- The whole block b is the integers l. -/
def IBlk (k : IntKind) (T : TypeId) (w : World) (b : Nat) (l : List Int) : Prop :=
  w.heap[b]? = some (.cells (l.map (Value.int k)).toArray T (0, 0))
/-- The whole block b is the values l. -/
def VBlk (T : TypeId) (w : World) (b : Nat) (l : List Value) : Prop := w.heap[b]? = some (.cells l.toArray T (0, 0))

theorem VBlk.lt {T : TypeId} {w : World} {b : Nat} {l : List Value} (h : VBlk T w b l) : b < w.heap.size := lt_of_block h
theorem VBlk.cell {T : TypeId} {w : World} {b : Nat} {l : List Value} (h : VBlk T w b l) (j : Nat) (hj : j < l.length) :
    w.cell? ⟨b, j, none⟩ = some (l.getD j undef) := by
  have h' : w.heap[b]? = some (.cells l.toArray T (0, 0)) := h
  rw [cell_of_row w b j _ _ _ h']; simp [hj]
theorem VBlk.free {T : TypeId} {w : World} {b : Nat} {l : List Value} (h : VBlk T w b l) (j : Nat) : w.frozen? ⟨b, j, none⟩ = false := by
  have h' : w.heap[b]? = some (.cells l.toArray T (0, 0)) := h
  simp [World.frozen?, h']
theorem VBlk.set {T : TypeId} {w : World} {b : Nat} {l : List Value} (h : VBlk T w b l) (j : Nat) (v : Value) :
    VBlk T (w.setCell ⟨b, j, none⟩ v) b (l.set j v) := by
  have hlt := h.lt
  have h' : w.heap[b]? = some (.cells l.toArray T (0, 0)) := h
  have h'' : w.heap[b] = .cells l.toArray T (0, 0) := by simpa [Array.getElem?_eq_getElem hlt] using h'
  show (w.heap.modify b _)[b]? = _
  rw [Array.getElem?_eq_getElem (by simpa using hlt), Array.getElem_modify_self, h'']
  simp
theorem VBlk.of_block {T : TypeId} {w w' : World} {b : Nat} {l : List Value} (h : VBlk T w b l) (hb : w'.heap[b]? = w.heap[b]?) : VBlk T w' b l := hb.trans h
theorem VBlk.other {T : TypeId} {w : World} {b : Nat} {l : List Value} (h : VBlk T w b l) (a : Addr) (v : Value) (hb : b ≠ a.block) : VBlk T (w.setCell a v) b l :=
  h.of_block (Below.heap_setCell w a v b hb)
theorem VBlk.alloc {T : TypeId} {w : World} {b : Nat} {l : List Value} (h : VBlk T w b l) (ob : Obj) : VBlk T (w.alloc ob) b l :=
  h.of_block (Below.heap_alloc w ob b h.lt)
theorem VBlk.drewN {T : TypeId} {w : World} {b : Nat} {l : List Value} (h : VBlk T w b l) (n : Nat) : VBlk T (w.drewN n) b l := h
theorem VBlk.mk (w : World) (l : List Value) (T : TypeId) : VBlk T (w.alloc (.cells l.toArray T)) w.heap.size l := by
  show (w.heap.push _)[w.heap.size]? = _
  simp

theorem IBlk.v {k : IntKind} {T : TypeId} {w : World} {b : Nat} {l : List Int} (h : IBlk k T w b l) : VBlk T w b (l.map (Value.int k)) := h
theorem IBlk.lt {k : IntKind} {T : TypeId} {w : World} {b : Nat} {l : List Int} (h : IBlk k T w b l) : b < w.heap.size := h.v.lt
theorem IBlk.cell {k : IntKind} {T : TypeId} {w : World} {b : Nat} {l : List Int} (h : IBlk k T w b l) (j : Nat) (hj : j < l.length) :
    w.cell? ⟨b, j, none⟩ = some (.int k (nth l j)) := by
  rw [h.v.cell j (by simpa using hj)]; simp [nth, hj]
theorem IBlk.cell' {k : IntKind} {T : TypeId} {w : World} {b : Nat} {l : List Int} (h : IBlk k T w b l) (i j : Nat) (hj : j < l.length) (hi : i = j) :
    w.cell? ⟨b, i, none⟩ = some (.int k (nth l j)) := by subst hi; exact h.cell i hj
theorem IBlk.row {k : IntKind} {T : TypeId} {w : World} {b : Nat} {l : List Int} (h : IBlk k T w b l) : Row k w b 0 l :=
  fun j hj => by rw [Nat.zero_add]; exact h.cell j hj
theorem IBlk.free {k : IntKind} {T : TypeId} {w : World} {b : Nat} {l : List Int} (h : IBlk k T w b l) (j : Nat) : w.frozen? ⟨b, j, none⟩ = false := h.v.free j
theorem IBlk.set {k : IntKind} {T : TypeId} {w : World} {b : Nat} {l : List Int} (h : IBlk k T w b l) (j : Nat) (x : Int) :
    IBlk k T (w.setCell ⟨b, j, none⟩ (.int k x)) b (l.set j x) := by
  have := h.v.set j (.int k x); unfold IBlk; rw [List.map_set]; exact this
theorem IBlk.of_block {k : IntKind} {T : TypeId} {w w' : World} {b : Nat} {l : List Int} (h : IBlk k T w b l) (hb : w'.heap[b]? = w.heap[b]?) : IBlk k T w' b l := hb.trans h
theorem IBlk.other {k : IntKind} {T : TypeId} {w : World} {b : Nat} {l : List Int} (h : IBlk k T w b l) (a : Addr) (v : Value) (hb : b ≠ a.block) : IBlk k T (w.setCell a v) b l :=
  h.of_block (Below.heap_setCell w a v b hb)
theorem IBlk.alloc {k : IntKind} {T : TypeId} {w : World} {b : Nat} {l : List Int} (h : IBlk k T w b l) (ob : Obj) : IBlk k T (w.alloc ob) b l :=
  h.of_block (Below.heap_alloc w ob b h.lt)
theorem IBlk.drewN {k : IntKind} {T : TypeId} {w : World} {b : Nat} {l : List Int} (h : IBlk k T w b l) (n : Nat) : IBlk k T (w.drewN n) b l := h

/-- The blocks in K are as they were; the streams too; no block has gone. -/
structure Keep (K : Nat → Prop) (w w' : World) : Prop where
  os : w'.os = w.os
  tape : w'.tape = w.tape
  output : w'.output = w.output
  size : w.heap.size ≤ w'.heap.size
  block : ∀ k, K k → w'.heap[k]? = w.heap[k]?

theorem Keep.refl (K : Nat → Prop) (w : World) : Keep K w w := ⟨rfl, rfl, rfl, Nat.le_refl _, fun _ _ => rfl⟩
theorem Keep.trans {K : Nat → Prop} {a b c : World} (h : Keep K a b) (k : Keep K b c) : Keep K a c :=
  ⟨k.os.trans h.os, k.tape.trans h.tape, k.output.trans h.output, Nat.le_trans h.size k.size, fun i hi => (k.block i hi).trans (h.block i hi)⟩
theorem Keep.mono {K K' : Nat → Prop} {w w' : World} (h : Keep K w w') (hK : ∀ k, K' k → K k) : Keep K' w w' := ⟨h.os, h.tape, h.output, h.size, fun k hk => h.block k (hK k hk)⟩
theorem Keep.drewN {K : Nat → Prop} {a w : World} (h : Keep K a w) (n : Nat) : Keep K a (w.drewN n) := ⟨h.os, h.tape, h.output, h.size, h.block⟩
theorem Keep.alloc {K : Nat → Prop} {a w : World} (h : Keep K a w) (hK : ∀ k, K k → k < w.heap.size) (o : Obj) : Keep K a (w.alloc o) :=
  h.trans ⟨rfl, rfl, rfl, by simp, fun k hk => Below.heap_alloc _ _ _ (hK k hk)⟩
theorem Keep.setCell {K : Nat → Prop} {a w : World} (h : Keep K a w) {p : Addr} (hp : ¬ K p.block) (u : Value) : Keep K a (w.setCell p u) :=
  h.trans ⟨rfl, rfl, rfl, by simp [World.setCell], fun k hk => Below.heap_setCell _ _ _ _ (fun e => hp (e ▸ hk))⟩
theorem Keep.of_below {B : Nat} {w w' : World} (h : Below B w w') : Keep (fun k => k < B) w w' := ⟨h.os, h.tape, h.output, h.size, h.block⟩
theorem Keep.below {B : Nat} {w w' : World} (h : Keep (fun k => k < B) w w') : Below B w w' := ⟨h.os, h.tape, h.output, h.size, h.block⟩
theorem Keep.cell {K : Nat → Prop} {w w' : World} (h : Keep K w w') {p : Addr} (hp : K p.block) : w'.cell? p = w.cell? p := World.cell?_of_block (w := w) (h.block p.block hp)
theorem Row.keep {K : Nat → Prop} {k : IntKind} {w w' : World} {b o : Nat} {l : List Int} (h : Row k w b o l) (hb : Keep K w w') (hB : K b) : Row k w' b o l := h.of_block (hb.block b hB)
theorem IBlk.keep {K : Nat → Prop} {k : IntKind} {T : TypeId} {w w' : World} {b : Nat} {l : List Int} (h : IBlk k T w b l) (hb : Keep K w w') (hB : K b) : IBlk k T w' b l := h.of_block (hb.block b hB)
theorem VBlk.keep {K : Nat → Prop} {T : TypeId} {w w' : World} {b : Nat} {l : List Value} (h : VBlk T w b l) (hb : Keep K w w') (hB : K b) : VBlk T w' b l := h.of_block (hb.block b hB)
theorem IBlk.below {B : Nat} {k : IntKind} {T : TypeId} {w w' : World} {b : Nat} {l : List Int} (h : IBlk k T w b l) (hb : Below B w w') (hB : b < B) : IBlk k T w' b l := h.of_block (hb.block b hB)
theorem VBlk.below {B : Nat} {T : TypeId} {w w' : World} {b : Nat} {l : List Value} (h : VBlk T w b l) (hb : Below B w w') (hB : b < B) : VBlk T w' b l := h.of_block (hb.block b hB)

section
variable {P : Program} {f : FuncId} {args : Array Value} {w : World} {a n : Nat} {v : Value}
/-- A callee that leaves the world alone, met in a quiet region. -/
theorem quiet_left (h : Calls P f args (w.drewN n) fun e w' => e = .returned v ∧ w.drewN n = w') : Calls P f args (w.drewN n) fun e w'' => e = .returned v ∧ ∃ m, w'' = w.drewN m :=
  h.mono fun _ _ ⟨he, hm⟩ => ⟨he, n, hm.symm⟩
theorem quiet_add_left (h : Calls P f args (w.drewN (a + n)) fun e w' => e = .returned v ∧ w.drewN (a + n) = w') : Calls P f args (w.drewN (a + n)) fun e w'' => e = .returned v ∧ ∃ m, w'' = w.drewN (a + m) :=
  h.mono fun _ _ ⟨he, hm⟩ => ⟨he, n, hm.symm⟩
/-- A callee that only draws, met in a quiet region. -/
theorem quiet_drawn (h : Calls P f args (w.drewN n) fun e w' => e = .returned v ∧ Drawn (w.drewN n) w') : Calls P f args (w.drewN n) fun e w'' => e = .returned v ∧ ∃ m, w'' = w.drewN m :=
  h.mono fun _ _ ⟨he, m, hm⟩ => ⟨he, n + m, by rw [hm, World.drewN_drewN]⟩
theorem quiet_add_drawn (h : Calls P f args (w.drewN (a + n)) fun e w' => e = .returned v ∧ Drawn (w.drewN (a + n)) w') : Calls P f args (w.drewN (a + n)) fun e w'' => e = .returned v ∧ ∃ m, w'' = w.drewN (a + m) :=
  h.mono fun _ _ ⟨he, m, hm⟩ => ⟨he, n + m, by rw [hm, World.drewN_drewN, Nat.add_assoc]⟩
end

/-- An array or struct built of constants, its cells told. -/
theorem wpList_build_to {P : Program} {ops : Array Oper} {rest : List Oper} {o : Oper} {a : Act} {w : World} {Q : Exit → Act → World → Prop} (hg : o.guard = none) (t : TypeId) (parts : Array (Nat × Operand)) (ho : o.op = .build t parts)
    (cells : Array Value) (hf : P.built t (parts.map fun (i, x) => (i, a.eval x)).toList = some cells)
    (h : wpList P ops Q rest (a.put o.dst (.agg cells)) w) : wpList P ops Q (o :: rest) a w :=
  wpList_build hg t parts ho (by rw [hf]; rfl) (by rw [hf]; exact h)
theorem below_setRow {B : Nat} {a w : World} (h : Below B a w) {g : Nat} (hg : B ≤ g) (cs : Array Value) : Below B a (w.setRow g cs) :=
  h.trans ⟨rfl, rfl, rfl, by simp, fun k hk => setRow_other w g k cs (by omega)⟩
theorem VBlk.setRow {T : TypeId} {w : World} {b : Nat} {l : List Value} (h : VBlk T w b l) (cs : List Value) : VBlk T (w.setRow b cs.toArray) b cs :=
  setRow_heap w b _ _ _ _ h
theorem VBlk.setRow_other {T : TypeId} {w : World} {b g : Nat} {l : List Value} (h : VBlk T w b l) (cs : Array Value) (hb : b ≠ g) : VBlk T (w.setRow g cs) b l :=
  h.of_block (Go.setRow_other w g b cs hb)
theorem IBlk.setRow_other {k : IntKind} {T : TypeId} {w : World} {b g : Nat} {l : List Int} (h : IBlk k T w b l) (cs : Array Value) (hb : b ≠ g) : IBlk k T (w.setRow g cs) b l :=
  h.of_block (Go.setRow_other w g b cs hb)

end Go.Proofs.Ytilmfnlaenneeaa

/- More small lemmas: slices that read as lists, an array's element, blocks behind two allocations. -/
namespace Go.Proofs.Ytilmfnlaenneeaa
open Go.RowKit

/-- A fact kept from the walk and from contradiction alike. -/
def Hid2 (p : Prop) : Prop := ∀ q : Prop, (p → q) → q
theorem Hid2.mk {p : Prop} (h : p) : Hid2 p := fun _ f => f h
theorem Hid2.out {p : Prop} (h : Hid2 p) : p := h p id

/-- The slice value v reads as the integers l (nil too). -/
def Sl (k : IntKind) (w : World) (v : Value) (l : List Int) : Prop :=
  ∃ sp cap, v = .slice sp l.length cap ∧ l.length ≤ cap ∧ cap ≤ 9223372036854775807 ∧ (0 < l.length → ∃ b o, sp = some ⟨b, o, none⟩ ∧ b < w.heap.size ∧ Row k w b o l) ∧ (sp = none → cap = 0)

theorem Sl.of_below {k : IntKind} {w w' : World} {v : Value} {l : List Int} (h : Sl k w v l) (hb : Below w.heap.size w w') : Sl k w' v l := by
  obtain ⟨sp, cap, rfl, h1, h2, h3, h4⟩ := h
  exact ⟨sp, cap, rfl, h1, h2, fun h0 => let ⟨b, o, e, hl, hr⟩ := h3 h0; ⟨b, o, e, Nat.lt_of_lt_of_le hl hb.size, hr.below hb hl⟩, h4⟩
theorem Sl.keep {K : Nat → Prop} {k : IntKind} {w w' : World} {v : Value} {l : List Int} (h : Sl k w v l) (hb : Keep K w w') (hK : ∀ b o n c, v = .slice (some ⟨b, o, none⟩) n c → b < w.heap.size → K b) : Sl k w' v l := by
  obtain ⟨sp, cap, rfl, h1, h2, h3, h4⟩ := h
  exact ⟨sp, cap, rfl, h1, h2, fun h0 => let ⟨b, o, e, hl, hr⟩ := h3 h0; ⟨b, o, e, Nat.lt_of_lt_of_le hl hb.size, hr.keep hb (hK b o _ _ (by rw [e]) hl)⟩, h4⟩
theorem Sl.nil (k : IntKind) (w : World) : Sl k w (.slice none 0 0) [] := ⟨none, 0, rfl, by simp, by omega, fun h => by simp at h, fun _ => rfl⟩
theorem Sl.mk {k : IntKind} {w : World} {b o cap : Nat} {l : List Int} (hl : l.length ≤ cap) (hc : cap ≤ 9223372036854775807) (hb : b < w.heap.size) (h : Row k w b o l) :
    Sl k w (.slice (some ⟨b, o, none⟩) l.length cap) l := ⟨_, _, rfl, hl, hc, fun _ => ⟨b, o, rfl, hb, h⟩, fun h => by cases h⟩

/-- The length in a slot that holds a slice: for a loop's measure. -/
def lenOf : Value → Nat | .slice _ n _ => n | _ => 0

theorem row_drop {k : IntKind} {w : World} {b o : Nat} {l : List Int} (h : Row k w b o l) (n : Nat) : Row k w b (o + n) (l.drop n) := by
  intro j hj
  simp only [List.length_drop] at hj
  have := h (n + j) (by omega)
  rw [show o + n + j = o + (n + j) by omega, this]
  simp [nth]

theorem two_alloc {w w1 : World} {A B : Obj} (hb : Below ((w.alloc A).alloc B).heap.size ((w.alloc A).alloc B) w1) :
    w1.heap[w.heap.size]? = some A ∧ w1.heap[w.heap.size + 1]? = some B ∧ Below w.heap.size w w1 ∧ w.heap.size + 2 ≤ w1.heap.size := by
  have hs : ((w.alloc A).alloc B).heap.size = w.heap.size + 2 := by simp
  refine ⟨?_, ?_, ?_, ?_⟩
  · rw [hb.block _ (by rw [hs]; omega), heap_alloc2_old]
  · rw [hb.block _ (by rw [hs]; omega), heap_alloc2_new]
  · exact (((Below.refl _ _).alloc (Nat.le_refl _) _).alloc (by simp) _).trans (hb.mono (by rw [hs]; omega))
  · rw [← hs]; exact hb.size

theorem run_index_arr {P : Program} (w : World) (t e : TypeId) (n : Nat) (d : TypeDesc) (i : TypeInfo) (hu : P.underlying t = some (.array n e)) (hi : P.info? e = some i) (hs : i.size = 1)
    (he : P.underlying e = some d) (hd : (match d with | .struct _ | .array _ _ => false | _ => true) = true) (cs : Array Value) (k : IntKind) (j : Nat) (h1 : j < n) (v : Value) (hv : cs[j]? = some v) :
    (Instr.index t (.agg cs) (.int k j)).run P w = .ok v w := by
  have hagg : (isAgg e).run P w = .ok false w := by
    unfold isAgg
    rw [Sem.run_bind, run_underlying he w]
    cases d <;> simp_all
  have h0 : (0 : Int) ≤ j ∧ (j : Int) < n := by omega
  simp [Instr.index, run_underlying hu, asIntOf, h0, sizeOf, typeInfo, hi, hs, part, hagg, hv, Sem.run_bind]
  omega

theorem splice_zero {α : Type} (Z X : List α) (_h : X.length ≤ Z.length) : splice Z 0 X = X ++ Z.drop X.length := by simp [splice]
theorem addr_add (b o i : Nat) : (⟨b, o, none⟩ : Addr).add i = ⟨b, o + i, none⟩ := by
  unfold Addr.add
  by_cases h : i = 0
  · subst h; rfl
  · rw [if_neg h]

end Go.Proofs.Ytilmfnlaenneeaa

/- Slices of elements of several cells: what they read as, and slices of the program's own. -/
namespace Go.Proofs.Ytilmfnlaenneeaa
open Go.RowKit

/-- The cells from offset o of block b on are l. -/
def RowV (w : World) (b o : Nat) (l : List Value) : Prop := ∀ j, j < l.length → w.cell? ⟨b, o + j, none⟩ = some (l.getD j undef)
theorem RowV.of_block {w w' : World} {b o : Nat} {l : List Value} (h : RowV w b o l) (hb : w'.heap[b]? = w.heap[b]?) : RowV w' b o l := by
  intro j hj; rw [← h j hj]; exact World.cell?_of_block (w := w) hb
theorem RowV.at {w : World} {b o : Nat} {l : List Value} (h : RowV w b o l) (j i : Nat) (hj : j < l.length) (hi : i = o + j) : w.cell? ⟨b, i, none⟩ = some (l.getD j undef) := by subst hi; exact h j hj
theorem RowV.of_vblk {T : TypeId} {w : World} {b : Nat} {l : List Value} (h : VBlk T w b l) : RowV w b 0 l := fun j hj => by rw [Nat.zero_add]; exact h.cell j hj

/-- All of one cell. -/
def Ones (l : List Value) : Prop := ∀ u ∈ l, u.oneCell' = true
theorem Ones.append {l l' : List Value} (h : Ones l) (h' : Ones l') : Ones (l ++ l') := fun u hu => (List.mem_append.1 hu).elim (h u) (h' u)
theorem Ones.str (l : List ByteArray) : Ones (l.map Value.string) := fun u hu => by obtain ⟨_, _, rfl⟩ := List.mem_map.1 hu; rfl
theorem Ones.int (k : IntKind) (l : List Int) : Ones (l.map (Value.int k)) := fun u hu => by obtain ⟨_, _, rfl⟩ := List.mem_map.1 hu; rfl

/-- The slice v of n elements of m cells each reads as the cells l, out of blocks of O. -/
def SlV (w : World) (O : Nat → Prop) (m : Nat) (v : Value) (n : Nat) (l : List Value) : Prop :=
  l.length = n * m ∧ Ones l ∧ ∃ sp cap, v = .slice sp n cap ∧ n ≤ cap ∧ cap ≤ 9223372036854775807 ∧ (sp = none → cap = 0) ∧ (0 < n → ∃ b o, sp = some ⟨b, o, none⟩ ∧ b < w.heap.size ∧ O b ∧ RowV w b o l)

theorem SlV.nil (w : World) (O : Nat → Prop) (m : Nat) : SlV w O m (.slice none 0 0) 0 [] :=
  ⟨by simp, fun _ h => (List.not_mem_nil h).elim, none, 0, rfl, by omega, by omega, fun _ => rfl, fun h => by omega⟩
theorem SlV.keep {w w' : World} {O : Nat → Prop} {m n : Nat} {v : Value} {l : List Value} (h : SlV w O m v n l) {K : Nat → Prop} (hk : Keep K w w') (hK : ∀ b, O b → b < w.heap.size → K b) : SlV w' O m v n l := by
  obtain ⟨h1, h2, sp, cap, h3, h4, h5, h6, h7⟩ := h
  exact ⟨h1, h2, sp, cap, h3, h4, h5, h6, fun hn => let ⟨b, o, e, hb, hO, hr⟩ := h7 hn; ⟨b, o, e, Nat.lt_of_lt_of_le hb hk.size, hO, hr.of_block (hk.block b (hK b hO hb))⟩⟩
theorem SlV.mono {w : World} {O O' : Nat → Prop} {m n : Nat} {v : Value} {l : List Value} (h : SlV w O m v n l) (hO : ∀ b, O b → O' b) : SlV w O' m v n l := by
  obtain ⟨h1, h2, sp, cap, h3, h4, h5, h6, h7⟩ := h
  exact ⟨h1, h2, sp, cap, h3, h4, h5, h6, fun hn => let ⟨b, o, e, hb, hO', hr⟩ := h7 hn; ⟨b, o, e, hb, hO b hO', hr⟩⟩
theorem SlV.below {w w' : World} {O : Nat → Prop} {m n : Nat} {v : Value} {l : List Value} (h : SlV w O m v n l) {B : Nat} (hk : Below B w w') (hB : w.heap.size ≤ B) : SlV w' O m v n l :=
  h.keep (Keep.of_below hk) (fun _ _ hb => Nat.lt_of_lt_of_le hb hB)

/-- The program's own slice, at the head of its block. -/
def OwnV (e : TypeId) (m : Nat) (w : World) (O : Nat → Prop) (v : Value) (n : Nat) (l : List Value) : Prop :=
  w.ownsRow 0 e m v n l ∧ Ones l ∧ ∀ g, v.ownBlock = some g → O g

theorem OwnV.nil (e : TypeId) (m : Nat) (w : World) (O : Nat → Prop) : OwnV e m w O (.slice none 0 0) 0 [] := ⟨World.ownsRow_nil _ _ _ _, fun _ h => (List.not_mem_nil h).elim, fun g h => by cases h⟩
theorem OwnV.len {e : TypeId} {m : Nat} {w : World} {O : Nat → Prop} {v : Value} {n : Nat} {l : List Value} (h : OwnV e m w O v n l) : l.length = n * m := h.1.1
theorem OwnV.form {e : TypeId} {m : Nat} {w : World} {O : Nat → Prop} {v : Value} {n : Nat} {l : List Value} (h : OwnV e m w O v n l) :
    (v = .slice none 0 0 ∧ n = 0 ∧ l = []) ∨ ∃ g cap cur, v = .slice (some ⟨g, 0, none⟩) n cap ∧ O g ∧ g < w.heap.size ∧ w.heap[g]? = some (.cells cur e (0, 0)) ∧ n ≤ cap ∧ cap ≤ maxLen ∧ cur.size = cap * m ∧ cur.toList.take (n * m) = l := by
  obtain ⟨⟨h1, h2⟩, -, h3⟩ := h
  rcases h2 with ⟨rfl, rfl⟩ | ⟨g, cap, cur, rfl, -, hg, h4, h5, h6, h7⟩
  · exact .inl ⟨rfl, rfl, List.eq_nil_of_length_eq_zero (by simpa using h1)⟩
  · exact .inr ⟨g, cap, cur, rfl, h3 g rfl, lt_of_block hg, hg, h4, h5, h6, h7⟩
theorem OwnV.slV {e : TypeId} {m : Nat} {w : World} {O : Nat → Prop} {v : Value} {n : Nat} {l : List Value} (h : OwnV e m w O v n l) : SlV w O m v n l := by
  refine ⟨h.1.1, h.2.1, ?_⟩
  have hc := h
  rcases h.form with ⟨rfl, rfl, rfl⟩ | ⟨g, cap, cur, rfl, hO, hlt, hg, h4, h5, h6, h7⟩
  · exact ⟨none, 0, rfl, by omega, by omega, fun _ => rfl, fun h => by omega⟩
  · refine ⟨_, cap, rfl, h4, h5, (fun h => by cases h), fun _ => ⟨g, 0, rfl, hlt, hO, fun j hj => ?_⟩⟩
    rw [Nat.zero_add]
    have := World.ownsRow.cellAt hc.1 j (by rw [← hc.1.1]; exact hj)
    rw [this]; simp [hj]
theorem OwnV.slice {e : TypeId} {m : Nat} {w : World} {O : Nat → Prop} {v : Value} {n : Nat} {l : List Value} (h : OwnV e m w O v n l) : ∃ sp cap, v = .slice sp n cap ∧ n ≤ cap ∧ cap ≤ 9223372036854775807 := by
  rcases h.form with ⟨rfl, rfl, -⟩ | ⟨g, cap, cur, rfl, -, -, -, h4, h5, -⟩
  · exact ⟨none, 0, rfl, by omega, by omega⟩
  · exact ⟨_, _, rfl, h4, by unfold maxLen at h5; exact h5⟩

theorem OwnV.of_block {e : TypeId} {m : Nat} {w w' : World} {O : Nat → Prop} {v : Value} {n : Nat} {l : List Value} (h : OwnV e m w O v n l) (hb : ∀ g, v.ownBlock = some g → w'.heap[g]? = w.heap[g]?) : OwnV e m w' O v n l := by
  refine ⟨⟨h.1.1, ?_⟩, h.2⟩
  rcases h.1.2 with hn | ⟨g, cap, cur, rfl, hb', hg, r⟩
  · exact .inl hn
  · exact .inr ⟨g, cap, cur, rfl, hb', by rw [hb g rfl]; exact hg, r⟩
theorem OwnV.lt {e : TypeId} {m : Nat} {w : World} {O : Nat → Prop} {v : Value} {n : Nat} {l : List Value} (h : OwnV e m w O v n l) {g : Nat} (hg : v.ownBlock = some g) : g < w.heap.size := (World.ownsRow.lt h.1 g hg).2
theorem OwnV.own {e : TypeId} {m : Nat} {w : World} {O : Nat → Prop} {v : Value} {n : Nat} {l : List Value} (h : OwnV e m w O v n l) {g : Nat} (hg : v.ownBlock = some g) : O g := h.2.2 g hg
theorem OwnV.keep {e : TypeId} {m : Nat} {w w' : World} {O : Nat → Prop} {v : Value} {n : Nat} {l : List Value} (h : OwnV e m w O v n l) {K : Nat → Prop} (hk : Keep K w w') (hK : ∀ g, v.ownBlock = some g → K g) : OwnV e m w' O v n l :=
  h.of_block fun g hg => hk.block g (hK g hg)
theorem OwnV.mono {e : TypeId} {m : Nat} {w : World} {O O' : Nat → Prop} {v : Value} {n : Nat} {l : List Value} (h : OwnV e m w O v n l) (hO : ∀ b, O b → O' b) : OwnV e m w O' v n l := ⟨h.1, h.2.1, fun g hg => hO g (h.2.2 g hg)⟩
theorem OwnV.alloc {e : TypeId} {m : Nat} {w : World} {O : Nat → Prop} {v : Value} {n : Nat} {l : List Value} (h : OwnV e m w O v n l) (o : Obj) : OwnV e m (w.alloc o) O v n l :=
  h.of_block fun g hg => Below.heap_alloc w o g (h.lt hg)
/-- The type of its block. -/
theorem OwnV.tag {e : TypeId} {m : Nat} {w : World} {O : Nat → Prop} {v : Value} {n : Nat} {l : List Value} (h : OwnV e m w O v n l) {g : Nat} (hg : v.ownBlock = some g) : ∃ cur, w.heap[g]? = some (.cells cur e (0, 0)) := by
  rcases h.form with ⟨rfl, -⟩ | ⟨g', cap, cur, rfl, -, -, hg', -⟩
  · cases hg
  · cases hg; exact ⟨cur, hg'⟩

theorem OwnV.stored {e : TypeId} {m : Nat} {w : World} {O : Nat → Prop} {g n cap : Nat} {l : List Value} (h : OwnV e m w O (.slice (some ⟨g, 0, none⟩) n cap) n l) (j : Nat) {u : Value} (hu : u.oneCell' = true) :
    OwnV e m (w.setCell ⟨g, j, none⟩ u) O (.slice (some ⟨g, 0, none⟩) n cap) n (l.set j u) :=
  ⟨(World.ownsRow.stored h.1 j u).1, fun x hx => by
    rcases List.mem_or_eq_of_mem_set hx with h1 | rfl
    · exact h.2.1 x h1
    · exact hu, h.2.2⟩
theorem OwnV.free {e : TypeId} {m : Nat} {w : World} {O : Nat → Prop} {g n cap : Nat} {l : List Value} (h : OwnV e m w O (.slice (some ⟨g, 0, none⟩) n cap) n l) (j : Nat) : w.frozen? ⟨g, j, none⟩ = false := World.ownsRow.frozenAt h.1 j
theorem OwnV.at {e : TypeId} {m : Nat} {w : World} {O : Nat → Prop} {g n cap : Nat} {l : List Value} (h : OwnV e m w O (.slice (some ⟨g, 0, none⟩) n cap) n l) (j : Nat) (hj : j < l.length) : w.cell? ⟨g, j, none⟩ = some (l.getD j undef) := by
  rw [World.ownsRow.cellAt h.1 j (by rw [← h.1.1]; exact hj)]
  simp [hj]

/-- What append asks of the element type. -/
structure ElemV (P : Program) (t e : TypeId) (m bytes : Nat) : Prop where
  ht : P.underlying t = some (.slice e)
  pos : 0 < m
  ex : ∃ i z, P.info? e = some i ∧ i.zero = some z ∧ i.size = m ∧ i.bytes = bytes ∧ z.cells.size = m
theorem ElemV.mk' {P : Program} {t e : TypeId} {m bytes : Nat} {z : Value} (ht : P.underlying t = some (.slice e)) (hi : (P.info? e).map (fun i => (i.zero, i.size, i.bytes)) = some (some z, m, bytes)) (hz : z.cells.size = m) (hp : 0 < m) : ElemV P t e m bytes :=
  ⟨ht, hp, let ⟨i, h1, h2, h3, h4⟩ := info_parts hi; ⟨i, _, h1, h2, h3, h4, hz⟩⟩

theorem grown_keep {w w' : World} {r : Option Nat} (hg : w.grownBy w' r) : Keep (fun b => b < w.heap.size ∧ r ≠ some b) w w' :=
  ⟨hg.os, hg.tape, hg.output, hg.size, fun k hk => hg.block k hk.1 (fun e => hk.2 e.symm)⟩

/-- What a source of an append reads as. -/
theorem SlV.news {w : World} {O : Nat → Prop} {m n : Nat} {v : Value} {l : List Value} (h : SlV w O m v n l) :
    (v = .slice none 0 0 ∧ n = 0 ∧ l = []) ∨ ∃ ad cap, v = .slice (some ad) n cap ∧ n ≤ cap ∧ ∀ j u, l[j]? = some u → w.cell? (ad.add j) = some u := by
  obtain ⟨h1, h2, sp, cap, h3, h4, h5, h6, h7⟩ := h
  cases hsp : sp with
  | none =>
    have := h6 hsp
    have hn : n = 0 := by omega
    subst hn
    exact .inl ⟨by rw [h3, hsp, this], rfl, List.eq_nil_of_length_eq_zero (by simpa using h1)⟩
  | some ad =>
    refine .inr ⟨ad, cap, by rw [h3, hsp], h4, fun j u hu => ?_⟩
    have hj : j < l.length := by
      rcases Nat.lt_or_ge j l.length with h | h
      · exact h
      · simp [h] at hu
    have hn : 0 < n := by
      rcases Nat.eq_zero_or_pos n with h0 | h0
      · subst h0; simp at h1; rw [h1] at hj; cases hj
      · exact h0
    obtain ⟨b, o, e, -, -, hr⟩ := h7 hn
    rw [hsp] at e
    cases e
    rw [addr_add, hr j hj]
    simpa [hj] using hu

/-- append of a slice onto an own one: the run. -/
theorem run_appV {P : Program} {w : World} {t ty e : TypeId} {m bytes : Nat} (E : ElemV P t e m bytes) {O O2 : Nat → Prop} {v : Value} {n : Nat} {l : List Value} (hown : OwnV e m w O v n l)
    {x : Value} {n2 : Nat} {l2 : List Value} (hx : SlV w O2 m x n2 l2) (h63 : n + n2 ≤ maxLen) (hby : (n + n2) * bytes ≤ 140737488355328) :
    ∃ v' w', (Builtin.append_ #[t, t] ty #[v, x]).run P w = .ok v' w' ∧ OwnV e m w' (fun g => O g ∨ g = w.heap.size) v' (n + n2) (l ++ l2) ∧ w.grownBy w' v.ownBlock ∧ (∀ g, v'.ownBlock = some g → v.ownBlock = some g ∨ g = w.heap.size) := by
  obtain ⟨i, z, hi, hz, hz1, hz2, hz3⟩ := E.ex
  rcases hx.news with ⟨rfl, rfl, rfl⟩ | ⟨ad, cap, rfl, hc, hn⟩
  · refine ⟨v, w, run_append_owned_none (P := P) (w := w) 0 t ty e i m E.ht hi v n _ hown.1, ?_, World.grownBy.refl _ _, fun g hg => .inl hg⟩
    rw [List.append_nil]
    exact hown.mono (fun _ h => .inl h)
  · rcases Nat.eq_zero_or_pos n2 with h0 | h0
    · subst h0
      have hl2 : l2 = [] := List.eq_nil_of_length_eq_zero (by simpa using hx.1)
      subst hl2
      obtain ⟨v', w', hr, h2, h3, h4, h5⟩ := run_append_own_at (P := P) w 0 t ty e i z m bytes E.ht hi hz hz1 hz2 hz3 E.pos v n l hown.1 ad 0 cap [] (by simp) (by simp) (by simp) h63 hby (Nat.zero_le _)
      have h6 : ∀ g, v'.ownBlock = some g → v.ownBlock = some g ∨ g = w.heap.size := by
        intro g hg
        rcases h5 with h5 | h5
        · exact .inl (by rw [← h5]; exact hg)
        · rw [h5] at hg; cases hg; exact .inr rfl
      exact ⟨v', w', hr, ⟨h2, hown.2.1.append hx.2.1, fun g hg => (h6 g hg).imp (hown.2.2 g) id⟩, h3, h6⟩
    · obtain ⟨g, c, w', hr, h2, h3, h4, h5⟩ := run_append_lies (P := P) w t ty 0 e i z m bytes E.ht hi hz hz1 hz2 hz3 E.pos v n l hown.1 ad n2 cap l2 hx.1 hn hx.2.1 h0 h63 hby (Nat.zero_le _) w.heap.size rfl
      have h6 : ∀ g', (Value.slice (some ⟨g, 0, none⟩) (n + n2) c).ownBlock = some g' → v.ownBlock = some g' ∨ g' = w.heap.size := by
        intro g' hg; cases hg; exact h4
      exact ⟨_, w', hr, ⟨h2, hown.2.1.append hx.2.1, fun g hg => (h6 g hg).imp (hown.2.2 g) id⟩, h3, h6⟩

theorem wp_appV {P : Program} {w : World} {o : Oper} {a : Act} {K : Act → World → Prop} {Q : Exit → Act → World → Prop} (s x : Operand) (t : TypeId)
    (ho : o.op = .call { callee := .builtin .append, args := #[s, x], argTypes := #[t, t] }) {e : TypeId} {m bytes : Nat} (E : ElemV P t e m bytes) {O O2 : Nat → Prop} {v : Value} {n : Nat} {l : List Value} (hs : a.eval s = v) (hown : OwnV e m w O v n l)
    {xv : Value} {n2 : Nat} {l2 : List Value} (hx : a.eval x = xv) (hsl : SlV w O2 m xv n2 l2) {n' : Nat} (hn : n + n2 = n') (h63 : n' ≤ maxLen) (hby : n' * bytes ≤ 140737488355328)
    (h : ∀ sp c w', OwnV e m w' (fun g => O g ∨ g = w.heap.size) (.slice sp n' c) n' (l ++ l2) → w.grownBy w' v.ownBlock → (∀ g, (Value.slice sp n' c).ownBlock = some g → v.ownBlock = some g ∨ g = w.heap.size) → K (a.put o.dst (.slice sp n' c)) w') : o.wp P a w K Q := by
  subst hn
  obtain ⟨v', w', hr, h2, h3, h4⟩ := run_appV (P := P) (ty := o.type) E hown hsl h63 hby
  have hv : ∃ sp c, v' = .slice sp (n + n2) c := by
    rcases h2.form with ⟨rfl, h0, -⟩ | ⟨g, cap, cur, rfl, -⟩
    · exact ⟨none, 0, by rw [h0]⟩
    · exact ⟨_, _, rfl⟩
  obtain ⟨sp, c, rfl⟩ := hv
  unfold Oper.wp execOp
  simp only [ho, resolve, invoke, builtin, Sem.run_bind, Sem.run_pure, Result.andThen_ok, List.map_toArray, List.map_cons, List.map_nil, hs, hx, hr]
  exact h sp c w' h2 h3 h4

/-- At a plain region's operations. -/
theorem wpList_appV {P : Program} {w : World} {ops : Array Oper} {rest : List Oper} {o : Oper} {a : Act} {Q : Exit → Act → World → Prop} (hgd : o.guard = none) (s x : Operand) (t : TypeId)
    (ho : o.op = .call { callee := .builtin .append, args := #[s, x], argTypes := #[t, t] }) {e : TypeId} {m bytes : Nat} (E : ElemV P t e m bytes) {O O2 : Nat → Prop} {v : Value} {n : Nat} {l : List Value} (hs : a.eval s = v) (hown : OwnV e m w O v n l)
    {xv : Value} {n2 : Nat} {l2 : List Value} (hx : a.eval x = xv) (hsl : SlV w O2 m xv n2 l2) {n' : Nat} (hn : n + n2 = n') (h63 : n' ≤ maxLen) (hby : n' * bytes ≤ 140737488355328)
    (h : ∀ sp c w', OwnV e m w' (fun g => O g ∨ g = w.heap.size) (.slice sp n' c) n' (l ++ l2) → w.grownBy w' v.ownBlock → (∀ g, (Value.slice sp n' c).ownBlock = some g → v.ownBlock = some g ∨ g = w.heap.size) → wpList P ops Q rest (a.put o.dst (.slice sp n' c)) w') : wpList P ops Q (o :: rest) a w :=
  wpList_plain hgd fun _ hK => wp_appV s x t ho E hs hown hx hsl hn h63 hby fun sp c w' h2 h3 h4 => hK _ _ (h sp c w' h2 h3 h4)

/-- At a step of a region that draws its order. -/
theorem step_appV {P : Program} {w : World} {ops : Array Oper} {o : Oper} {a : Act} {K : Act → World → Prop} {Q : Exit → Act → World → Prop} {F : Prop} (hgd : o.guard = none) (s x : Operand) (t : TypeId)
    (ho : o.op = .call { callee := .builtin .append, args := #[s, x], argTypes := #[t, t] }) {e : TypeId} {m bytes : Nat} (E : ElemV P t e m bytes) {O O2 : Nat → Prop} {v : Value} {n : Nat} {l : List Value} (hs : a.eval s = v) (hown : OwnV e m w O v n l)
    {xv : Value} {n2 : Nat} {l2 : List Value} (hx : a.eval x = xv) (hsl : SlV w O2 m xv n2 l2) {n' : Nat} (hn : n + n2 = n') (h63 : n' ≤ maxLen) (hby : n' * bytes ≤ 140737488355328)
    (h : ∀ sp c w', OwnV e m w' (fun g => O g ∨ g = w.heap.size) (.slice sp n' c) n' (l ++ l2) → w.grownBy w' v.ownBlock → (∀ g, (Value.slice sp n' c).ownBlock = some g → v.ownBlock = some g ∨ g = w.heap.size) → K (a.put o.dst (.slice sp n' c)) w') :
    if Region.wanted o (yielded ops a.tmps) = true then Oper.wp P o a w K Q else F := by
  rw [if_pos (by simp [Region.wanted, hgd])]
  exact wp_appV s x t ho E hs hown hx hsl hn h63 hby h

/-- append onto a full slice: a new block. -/
theorem step_growV {P : Program} {w : World} {ops : Array Oper} {o : Oper} {a : Act} {K : Act → World → Prop} {Q : Exit → Act → World → Prop} {F : Prop} (hgd : o.guard = none) (s x : Operand) (t : TypeId)
    (ho : o.op = .call { callee := .builtin .append, args := #[s, x], argTypes := #[t, t] }) {e : TypeId} {m bytes : Nat} (E : ElemV P t e m bytes) {O O2 : Nat → Prop} {sp : Option Addr} {n cc : Nat} {l : List Value} (hs : a.eval s = .slice sp n n) (hown : SlV w O m (.slice sp n cc) n l)
    {xv : Value} {n2 : Nat} {l2 : List Value} (hx : a.eval x = xv) (hsl : SlV w O2 m xv n2 l2) (h0 : 0 < n2) {n' : Nat} (hn : n + n2 = n') (h63 : n' ≤ maxLen) (hby : n' * bytes ≤ 140737488355328)
    (h : ∀ sp c w', OwnV e m w' (fun g => w.heap.size ≤ g) (.slice sp n' c) n' (l ++ l2) → w.grownBy w' none → K (a.put o.dst (.slice sp n' c)) w') :
    if Region.wanted o (yielded ops a.tmps) = true then Oper.wp P o a w K Q else F := by
  subst hn
  obtain ⟨i, z, hi, hz, hz1, hz2, hz3⟩ := E.ex
  rcases hsl.news with ⟨rfl, rfl, -⟩ | ⟨ad, cap, rfl, hc, hnw⟩
  · omega
  · refine step_append_grows hgd s x t ho e i z m bytes E.ht hi hz hz1 hz2 hz3 E.pos sp n n l hs ?_ hown.1 ?_ ad n2 cap l2 hx hsl.1 hnw hsl.2.1 (by omega) h63 hby ?_
    · intro e0; subst e0
      rcases hown.news with ⟨-, h1, -⟩ | ⟨_, _, h1, _⟩
      · exact ⟨h1, h1⟩
      · cases h1
    · intro b hb; subst hb
      rcases hown.news with ⟨h1, -, -⟩ | ⟨ad', cp, h1, -, h2⟩
      · cases h1
      · injection h1 with h1 _ _; cases h1; exact h2
    · intro v' w' h1 h2
      rcases h1.2 with ⟨-, h3⟩ | ⟨g, cap', cur, rfl, hb, r⟩
      · omega
      · exact h _ _ w' ⟨⟨h1.1, .inr ⟨g, cap', cur, rfl, Nat.zero_le _, r⟩⟩, hown.2.1.append hsl.2.1, fun g' e => by cases e; exact hb⟩ h2

/-- A new block of cells as a slice that reads. -/
theorem SlV.fresh (w : World) (O : Nat → Prop) (T : TypeId) {m n : Nat} {l : List Value} (hl : l.length = n * m) (h1 : Ones l) (hO : O w.heap.size) (hn : n ≤ maxLen) :
    SlV (w.alloc (.cells l.toArray T)) O m (.slice (some ⟨w.heap.size, 0, none⟩) n n) n l :=
  ⟨hl, h1, _, n, rfl, Nat.le_refl _, by unfold maxLen at hn; exact hn, (fun h => by cases h), fun _ => ⟨_, 0, rfl, by simp, hO, RowV.of_vblk (VBlk.mk w l T)⟩⟩
theorem OwnV.empty (w : World) (e : TypeId) (m : Nat) : OwnV e m (w.alloc (.cells #[] e)) (fun g => g = w.heap.size) (.slice (some ⟨w.heap.size, 0, none⟩) 0 0) 0 [] :=
  ⟨⟨by simp, .inr ⟨w.heap.size, 0, #[], rfl, Nat.zero_le _, heap_alloc_new _ _, by omega, by unfold maxLen; omega, by simp, by simp⟩⟩, fun _ h => (List.not_mem_nil h).elim, fun g h => by cases h; rfl⟩

theorem belowN {B : Nat} {w w' : World} (h : Below B w w') (n : Nat) : Below B w (w'.drewN n) := ((Keep.of_below h).drewN n).below

theorem str_eq {a b : ByteArray} (h : a.toList = b.toList) : a = b := by
  rw [ByteArray.toList_eq, ByteArray.toList_eq] at h
  exact WideShapes.bytes_inj h
theorem str_ne {a b : ByteArray} (h : a ≠ b) : ¬ a.toList = b.toList := fun e => h (str_eq e)

/-- Two results: a whole block and a slot. -/
theorem results_cell_tmp {P : Program} {fn : Func} {p q : Tmp} {ty : TypeId} (h : fn.results = #[.cell p ty, .tmp q]) (tmps : Array Value) (w : World) (g : Nat) (t : TypeId) (cs : Array Value) (fr : Nat × Nat) (d : TypeDesc) (x : Value)
    (hp : tmps.getD p undef = .pointer (some ⟨g, 0, none⟩)) (hg : w.heap[g]? = some (.cells cs t fr))
    (hu : P.underlying ty = some d) (hd : (match d with | .struct _ | .array _ _ => true | _ => false) = true) (hi : (P.info? ty).map (·.size) = some cs.size) (hx : tmps.getD q undef = x) :
    (results fn tmps).run P w = .ok (.tuple #[.agg cs, x]) w := by
  have hp' : tmps[p]?.getD undef = .pointer (some ⟨g, 0, none⟩) := by simpa using hp
  have hx' : tmps[q]?.getD undef = x := by simpa using hx
  simp [results, h, hp', hx', asAddr, run_loadVar_row w g t ty cs fr d hg hu hd hi]

end Go.Proofs.Ytilmfnlaenneeaa

/- Slices of the call's own that grow: append of whatever reads as a list. -/
namespace Go.Proofs.Ytilmfnlaenneeaa
open Go.RowKit

/-- The slice v is the call's own, from block base on, and holds the integers l. -/
def Buf (k : IntKind) (e : TypeId) (w : World) (base : Nat) (v : Value) (l : List Int) : Prop := w.ownsRow base e 1 v l.length (l.map (Value.int k))

theorem Buf.nil (k : IntKind) (e : TypeId) (w : World) (base : Nat) : Buf k e w base (.slice none 0 0) [] := World.ownsRow_nil _ _ _ _

theorem Buf.block {k : IntKind} {e : TypeId} {w : World} {base : Nat} {v : Value} {l : List Int} (h : Buf k e w base v l) :
    (v = .slice none 0 0 ∧ l = []) ∨ ∃ g cap rest, v = .slice (some ⟨g, 0, none⟩) l.length cap ∧ base ≤ g ∧ l.length ≤ cap ∧ cap ≤ maxLen ∧ VBlk e w g (l.map (Value.int k) ++ rest) ∧ (l.map (Value.int k) ++ rest).length = cap := by
  obtain ⟨h1, h2⟩ := h
  rcases h2 with ⟨h2, h3⟩ | ⟨g, cap, cur, hv, hg, hh, r1, r2, r3, r4⟩
  · exact .inl ⟨h2, List.eq_nil_of_length_eq_zero h3⟩
  · refine .inr ⟨g, cap, cur.toList.drop l.length, hv, hg, r1, r2, ?_, ?_⟩
    · rw [Nat.mul_one] at r4
      rw [← r4, List.take_append_drop]
      simpa [VBlk] using hh
    · rw [Nat.mul_one] at r3
      simp; omega

theorem Buf.row {k : IntKind} {e : TypeId} {w : World} {base g cap : Nat} {l : List Int} (h : Buf k e w base (.slice (some ⟨g, 0, none⟩) l.length cap) l) : Row k w g 0 l := by
  intro j hj
  have := World.ownsRow.cellAt h j (by simpa using hj)
  rw [Nat.zero_add, this]; simp [nth, hj]

theorem Buf.sl {k : IntKind} {e : TypeId} {w : World} {base : Nat} {v : Value} {l : List Int} (h : Buf k e w base v l) : Sl k w v l := by
  rcases h.block with ⟨rfl, rfl⟩ | ⟨g, cap, rest, rfl, hg, h1, h2, hb, -⟩
  · exact Sl.nil k w
  · exact Sl.mk h1 (by unfold maxLen at h2; exact h2) hb.lt h.row

theorem Buf.alloc {k : IntKind} {e : TypeId} {w : World} {base : Nat} {v : Value} {l : List Int} (h : Buf k e w base v l) (o : Obj) : Buf k e (w.alloc o) base v l := World.ownsRow.alloc h o
theorem Buf.mono {k : IntKind} {e : TypeId} {w : World} {base base' : Nat} {v : Value} {l : List Int} (h : Buf k e w base v l) (hb : base' ≤ base) : Buf k e w base' v l := World.ownsRow.mono h hb
theorem Buf.keep {K : Nat → Prop} {k : IntKind} {e : TypeId} {w w' : World} {base : Nat} {v : Value} {l : List Int} (h : Buf k e w base v l) (hk : Keep K w w') (hK : ∀ g, base ≤ g → g < w.heap.size → v.ownBlock = some g → K g) : Buf k e w' base v l := by
  refine ⟨h.1, ?_⟩
  rcases h.2 with hn | ⟨g, cap, cur, rfl, hb, hgg, rest⟩
  · exact .inl hn
  · refine .inr ⟨g, cap, cur, rfl, hb, ?_, rest⟩
    rw [hk.block g (hK g hb (lt_of_block hgg) rfl)]
    exact hgg
theorem Buf.below {B : Nat} {k : IntKind} {e : TypeId} {w w' : World} {base : Nat} {v : Value} {l : List Int} (h : Buf k e w base v l) (hk : Below B w w') (hB : w.heap.size ≤ B) : Buf k e w' base v l :=
  h.keep (Keep.of_below hk) (fun _ _ hg _ => Nat.lt_of_lt_of_le hg hB)
theorem Buf.own {k : IntKind} {e : TypeId} {w : World} {base : Nat} {v : Value} {l : List Int} (h : Buf k e w base v l) : ∀ g, v.ownBlock = some g → base ≤ g ∧ g < w.heap.size := fun g hg => World.ownsRow.lt h g hg
/-- A block of the call's own that has just been laid. -/
theorem Buf.mk {k : IntKind} {e : TypeId} {w : World} {base : Nat} (l rest : List Int) (hb : base ≤ w.heap.size) (hm : l.length + rest.length ≤ maxLen) :
    Buf k e (w.alloc (.cells ((l ++ rest).map (Value.int k)).toArray e)) base (.slice (some ⟨w.heap.size, 0, none⟩) l.length (l.length + rest.length)) l := by
  refine ⟨by simp, .inr ⟨w.heap.size, l.length + rest.length, _, rfl, hb, heap_alloc_new _ _, by omega, hm, by simp, ?_⟩⟩
  simp
theorem Buf.empty {k : IntKind} {e : TypeId} {w : World} {base : Nat} (hb : base ≤ w.heap.size) : Buf k e (w.alloc (.cells #[] e)) base (.slice (some ⟨w.heap.size, 0, none⟩) 0 0) [] := Buf.mk [] [] hb (by unfold maxLen; simp)

/-- One new cell as a slice. -/
theorem Sl.one (k : IntKind) (w : World) (x : Int) (T : TypeId) : Sl k (w.alloc (.cells #[.int k x] T)) (.slice (some ⟨w.heap.size, 0, none⟩) 1 1) [x] :=
  Sl.mk (l := [x]) (Nat.le_refl _) (by decide) (by simp) (IBlk.row (T := T) (VBlk.mk w [.int k x] T))

/-- What append asks of the element type. -/
structure Elem (P : Program) (t e : TypeId) (bytes : Nat) : Prop where
  ht : P.underlying t = some (.slice e)
  ex : ∃ i z, P.info? e = some i ∧ i.zero = some z ∧ i.size = 1 ∧ i.bytes = bytes ∧ z.cells.size = 1
theorem Elem.mk' {P : Program} {t e : TypeId} {bytes : Nat} {k : IntKind} {x : Int} (ht : P.underlying t = some (.slice e)) (hi : (P.info? e).map (fun i => (i.zero, i.size, i.bytes)) = some (some (.int k x), 1, bytes)) : Elem P t e bytes :=
  ⟨ht, let ⟨i, h1, h2, h3, h4⟩ := info_parts hi; ⟨i, _, h1, h2, h3, h4, rfl⟩⟩

theorem keep_grown {w w' : World} {base : Nat} {v : Value} (hg : w.grownBy w' v.ownBlock) (ho : ∀ g, v.ownBlock = some g → base ≤ g) (hb : base ≤ w.heap.size) : Keep (fun b => b < base) w w' :=
  ⟨hg.os, hg.tape, hg.output, hg.size, fun k hk => hg.block k (Nat.lt_of_lt_of_le hk hb) (fun e => absurd (ho k e.symm) (Nat.not_le.2 hk))⟩

/-- append of whatever reads as a list onto a slice of the call's own. -/
theorem wpList_app {P : Program} {w : World} {ops : Array Oper} {rest : List Oper} {o : Oper} {a : Act} {Q : Exit → Act → World → Prop} (hgd : o.guard = none) (s x : Operand) (t : TypeId)
    (ho : o.op = .call { callee := .builtin .append, args := #[s, x], argTypes := #[t, t] }) {e : TypeId} {k : IntKind} {bytes : Nat} (E : Elem P t e bytes)
    (base : Nat) (v : Value) (l : List Int) (hs : a.eval s = v) (hown : Buf k e w base v l) (xv : Value) (l2 : List Int) (hx : a.eval x = xv) (hsl : Sl k w xv l2)
    (n : Nat) (hn : l.length + l2.length = n) (hb1 : n ≤ maxLen) (hb2 : n * bytes ≤ 140737488355328) (hbase : base ≤ w.heap.size)
    (h : ∀ sp c w', Buf k e w' base (.slice sp n c) (l ++ l2) → Keep (fun b => b < base) w w' → wpList P ops Q rest (a.put o.dst (.slice sp n c)) w') : wpList P ops Q (o :: rest) a w := by
  subst hn
  obtain ⟨i, z, hi, hz, hz1, hz2, hz3⟩ := E.ex
  obtain ⟨sp, cap, rfl, hc1, hc2, hrow, hnil⟩ := hsl
  have go : ∀ v' w', w'.ownsRow base e 1 v' (l.length + l2.length) (l.map (Value.int k) ++ l2.map (Value.int k)) → w.grownBy w' v.ownBlock → wpList P ops Q rest (a.put o.dst v') w' := by
    intro v' w' h1 h2
    have h1' : Buf k e w' base v' (l ++ l2) := by
      unfold Buf; rw [List.map_append, List.length_append]; exact h1
    have hk := keep_grown h2 (fun g hg => (hown.own g hg).1) hbase
    rcases h1'.block with ⟨e1, e2⟩ | ⟨g, c, r, e1, -⟩
    · subst e1
      have e3 : l.length + l2.length = 0 := by rw [← List.length_append, e2]; rfl
      rw [e3] at h
      exact h none 0 w' h1' hk
    · subst e1
      rw [List.length_append] at h1' ⊢
      exact h _ c w' h1' hk
  by_cases h0 : sp = none
  · subst h0
    have hc0 := hnil rfl
    subst hc0
    have hl2 : l2 = [] := List.eq_nil_of_length_eq_zero (by omega)
    subst hl2
    refine wpList_append_own_none hgd s x t ho base e i 1 E.ht hi v l.length _ hs hown hx (go v w ?_ (World.grownBy.refl _ _))
    unfold Buf at hown; simpa using hown
  · obtain ⟨ad, had⟩ := Option.ne_none_iff_exists'.1 h0
    refine wpList_append_own w hgd s x t ho base e i z 1 bytes E.ht hi hz hz1 hz2 hz3 (by decide) v l.length _ hs hown ad l2.length cap (l2.map (Value.int k)) (by rw [hx, had]) (by simp) ?_ ?_ hb1 hb2 hbase (fun v' w' h1 h2 _ => go v' w' h1 h2)
    · intro j u hu
      have hj : j < l2.length := by
        rcases Nat.lt_or_ge j l2.length with h | h
        · exact h
        · simp [h] at hu
      obtain ⟨b, o, e1, hlt, hr⟩ := hrow (by omega)
      rw [e1] at had
      cases had
      rw [addr_add, hr j hj]
      simpa [nth, hj] using hu
    · intro u hu
      obtain ⟨_, _, rfl⟩ := List.mem_map.1 hu
      rfl

theorem three_alloc (w : World) (A B C : Obj) :
    (((w.alloc A).alloc B).alloc C).heap[w.heap.size]? = some A ∧ (((w.alloc A).alloc B).alloc C).heap[w.heap.size + 1]? = some B ∧ (((w.alloc A).alloc B).alloc C).heap[w.heap.size + 1 + 1]? = some C ∧
      Below w.heap.size w (((w.alloc A).alloc B).alloc C) ∧ (((w.alloc A).alloc B).alloc C).heap.size = w.heap.size + 3 := by
  have hs : ((w.alloc A).alloc B).heap.size = w.heap.size + 1 + 1 := by simp
  have hs1 : (w.alloc A).heap.size = w.heap.size + 1 := by simp
  refine ⟨?_, ?_, ?_, ?_, ?_⟩
  · rw [Below.heap_alloc _ _ _ (by rw [hs]; omega), heap_alloc2_old]
  · rw [Below.heap_alloc _ _ _ (by rw [hs]; omega), heap_alloc2_new]
  · rw [← hs, heap_alloc_new]
  · exact (((Below.refl _ w).alloc (Nat.le_refl _) A).alloc (by rw [hs1]; omega) B).alloc (by rw [hs]; omega) C
  · simp

end Go.Proofs.Ytilmfnlaenneeaa

/- A region that draws its order, whose operations read old memory only and whose callees leave old memory as it was: one walk, in the order of the text. -/
namespace Go.Proofs.Ytilmfnlaenneeaa
open Go.RowKit BigFrame

theorem wp_region_quietB {P : Program} {id : Nat} {Q : Exit → Act → World → Prop} {a : Act} {w : World} {l : List Oper} (hm : P.follows .mixedOrders = true) (hB : Region.lexB .any l.toArray = true)
    (h : wpQuiet P l.toArray (fun w' => Below w.heap.size w w') (fun a' => ∀ w', Below w.heap.size w w' → Q .normal a' w') l a) : (Code.region id l.toArray true).wp P Q a w :=
  wp_region_quiet (C := fun w' => Below w.heap.size w w') hm hB ((Below.refl _ w).drew) (by simpa using h)

/-- A whole array out of an old block. -/
theorem quiet_loadB {P : Program} {o : Oper} {a : Act} {w : World} {K : Act → Prop} (ty : TypeId) (x : Operand) (ho : o.op = .load ty x)
    (g : Nat) (hx : a.eval x = .pointer (some ⟨g, 0, none⟩)) (t : TypeId) (cs : Array Value) (fr : Nat × Nat) (d : TypeDesc) (hg : w.heap[g]? = some (.cells cs t fr))
    (hu : P.underlying ty = some d) (hd : (match d with | .struct _ | .array _ _ => true | _ => false) = true) (hi : (P.info? ty).map (·.size) = some cs.size)
    (hk : K (a.put o.dst (.agg cs))) : o.quiet P a (fun w' => Below w.heap.size w w') K := by
  refine ⟨_, fun w' hw' => ?_, hk⟩
  have hg' : w'.heap[g]? = some (.cells cs t fr) := (hw'.block g (lt_of_block hg)).trans hg
  unfold Oper.quietAt execOp
  simp only [ho, hx, Instr.loadAt, Instr.sureAddr, Sem.run_bind, Sem.run_pure, Result.andThen_ok, run_loadVar_row w' g t ty cs fr d hg' hu hd hi]
  exact ⟨rfl, rfl⟩

/-- A callee that leaves old memory as it was. -/
theorem callB {P : Program} {f : FuncId} {args : Array Value} {w w' : World} {v : Value} (hw : Below w.heap.size w w')
    (h : Calls P f args w' fun e w'' => e = .returned v ∧ Below w'.heap.size w' w'') : Calls P f args w' fun e w'' => e = .returned v ∧ Below w.heap.size w w'' :=
  h.mono fun _ _ ⟨he, hb⟩ => ⟨he, hw.trans (hb.mono hw.size)⟩
theorem callD {P : Program} {f : FuncId} {args : Array Value} {w w' : World} {v : Value} (hw : Below w.heap.size w w')
    (h : Calls P f args w' fun e w'' => e = .returned v ∧ Drawn w' w'') : Calls P f args w' fun e w'' => e = .returned v ∧ Below w.heap.size w w'' :=
  h.mono fun _ _ ⟨he, n, hb⟩ => ⟨he, by subst hb; exact ((Keep.of_below hw).drewN n).below⟩

end Go.Proofs.Ytilmfnlaenneeaa

/- Loads of many cells at once, under a guard; of a place inside a row. -/
namespace Go.Proofs.Ytilmfnlaenneeaa
open Go.RowKit
namespace Ld

theorem exec_blk {P : Program} {o : Oper} {a : Act} {w : World} (ty : TypeId) (x : Operand) (ho : o.op = .load ty x)
    (b i : Nat) (hx : a.eval x = .pointer (some ⟨b, i, none⟩)) (cs : List Value) (d : TypeDesc) (hc : w.rangeAt b i cs)
    (hu : P.underlying ty = some d) (hd : d.isRow = true) (hi : (P.info? ty).map (·.size) = some cs.length) : (execOp a.eval o).run P w = .ok (.value (.agg cs.toArray)) w := by
  unfold execOp
  simp only [ho, hx, Instr.loadAt, Instr.sureAddr, Sem.run_bind, Sem.run_pure, Result.andThen_ok, run_loadVar_mid w b i ty cs d hc hu hd hi]

/-- Many cells at once, if a test asks for it, as it does. -/
theorem load_on {P : Program} {ops : Array Oper} {rest : List Oper} {o : Oper} {a : Act} {w : World} {Q : Exit → Act → World → Prop} (hw : Region.wanted o (yielded ops a.tmps) = true) (ty : TypeId) (x : Operand) (ho : o.op = .load ty x)
    (g : Nat) (hx : a.eval x = .pointer (some ⟨g, 0, none⟩)) (t : TypeId) (cs : Array Value) (fr : Nat × Nat) (d : TypeDesc) (hg : w.heap[g]? = some (.cells cs t fr))
    (hu : P.underlying ty = some d) (hd : (match d with | .struct _ | .array _ _ => true | _ => false) = true) (hi : (P.info? ty).map (·.size) = some cs.size)
    (h : wpList P ops Q rest (a.put o.dst (.agg cs)) w) : wpList P ops Q (o :: rest) a w :=
  wpList_step fun _ hK => by rw [if_pos hw]; exact wp_load_row ty x ho g hx t cs fr d hg hu hd hi (hK _ _ h)
end Ld
end Go.Proofs.Ytilmfnlaenneeaa

/- Three ways to walk: plain; within the wide fence (where a round may be called); in a round of a loop over a function. -/
namespace Go.Proofs.Ytilmfnlaenneeaa
open Go.RowKit
namespace K

def FF (r : Option Nat) : Fence := { Fence.wide with round := r }
theorem FF.in (l : Nat) : FF (some l) = Fence.wide.inRound l := rfl
theorem FF.none : FF none = Fence.wide := rfl
/-- A code by its way. -/
def cw (md : Option (Option Nat)) (P : Program) (c : Code) (Q : Exit → Act → World → Prop) (a : Act) (w : World) : Prop :=
  match md with
  | none => c.wp P Q a w
  | some r => c.wpIn (FF r) 1 P Q a w
def lw (md : Option (Option Nat)) (P : Program) (ops : Array Oper) (Q : Exit → Act → World → Prop) (rest : List Oper) (a : Act) (w : World) : Prop :=
  match md with
  | none => wpList P ops Q rest a w
  | some r => wpListIn (FF r) 1 P ops Q rest a w
section
variable {md : Option (Option Nat)} {P : Program} {Q Q' : Exit → Act → World → Prop} {a : Act} {w w' : World} {ops : Array Oper} {rest : List Oper} {o : Oper} {K K' : Act → World → Prop} {r : Option Nat}

theorem cw_mono {c : Code} (hq : ∀ e a w, Q e a w → Q' e a w) (h : cw md P c Q a w) : cw md P c Q' a w := by
  cases md with
  | none => exact Code.wp_mono hq h
  | some r => exact Go.wpIn_mono h hq
theorem cw_seq {x y : Code} (h : cw md P x (Exit.then (cw md P y Q) Q) a w) : cw md P (.seq x y) Q a w := by
  cases md with
  | none => exact wp_seq h
  | some r => exact wpIn_seq h
theorem cw_block {id : Nat} {c : Code} (h : cw md P c (Exit.inBlock id Q) a w) : cw md P (.block id c) Q a w := by
  cases md with
  | none => exact wp_block h
  | some r => exact wpIn_block h
theorem cw_skip (h : Q .normal a w) : cw md P .skip Q a w := by
  cases md with
  | none => exact wp_skip h
  | some r => exact wpIn_skip h
theorem cw_exit {id : Nat} (h : Q (.exit id) a w) : cw md P (.exit id) Q a w := by
  cases md with
  | none => exact wp_exit h
  | some r => exact wpIn_exit h
theorem cw_ret (h : Q .ret a w) : cw md P .ret Q a w := by
  cases md with
  | none => exact wp_ret h
  | some r => exact wpIn_ret h
theorem cw_region {id : Nat} {l : List Oper} (h : lw md P l.toArray Q l a w) : cw md P (.region id l.toArray false) Q a w := by
  cases md with
  | none => exact wp_region_lit h
  | some r => exact wpIn_region_lit h
theorem cw_cond {c : Operand} {x y : Code} {t : Bool} (hc : a.eval c = .bool t) (ht : t = true → cw md P x Q a w) (hf : t = false → cw md P y Q a w) : cw md P (.cond c x y) Q a w := by
  cases md with
  | none => exact wp_cond_split hc ht hf
  | some r => exact wpIn_cond_split hc ht hf
theorem cw_loop {c : Code} (I : Nat → Act → World → Prop) (n₀ : Nat) (h₀ : I n₀ a w)
    (round : ∀ n a w, I n a w → cw md P c (Exit.then (fun a' w' => ∃ n', n' < n ∧ I n' a' w') Q) a w) : cw md P (.loop c) Q a w := by
  cases md with
  | none => exact wp_loop_ghost I n₀ h₀ round
  | some r => exact wpIn_loop_ghost I n₀ h₀ round
theorem lw_nil {P : Program} (h : Q .normal a w) : lw md P ops Q [] a w := by
  cases md with
  | none => exact h
  | some r => exact h
theorem not_defer {v : Next} (hv : ∀ d, v ≠ .defer d) (hr : (execOp a.eval o).run P w = .ok v w') : ∀ c, o.op ≠ .defer c := by
  intro c hc
  unfold execOp at hr
  rw [hc] at hr
  simp only [Sem.run_bind] at hr
  cases h : (resolve a.eval c o.type).run P w with
  | ok d w2 => rw [h] at hr; simp at hr; exact hv _ hr.1.symm
  | halt x w2 => rw [h] at hr; cases hr
theorem semAt_run {v : Next} (hv : ∀ d, v ≠ .defer d) (hr : (execOp a.eval o).run P w = .ok v w') : (o.semAt r a.eval).run P w = .ok v w' := by
  rw [Oper.semAt_eq r a.eval o (not_defer hv hr)]
  exact hr
theorem lw_value {v : Value} (hg : o.guard = none) (hr : (execOp a.eval o).run P w = .ok (.value v) w') (h : lw md P ops Q rest (a.put o.dst v) w') : lw md P ops Q (o :: rest) a w := by
  cases md with
  | none => exact wpList_plain hg fun K hK => by unfold Oper.wp; rw [hr, Oper.upon_value]; exact hK _ _ h
  | some r => exact wpListIn_plain hg fun K hK => ⟨fun _ _ => trivial, by show o.uponIn (FF r) 1 P a K Q ((o.semAt r a.eval).run P w); rw [semAt_run (by intro d hd; cases hd) hr, Oper.uponIn_value]; exact hK _ _ h⟩
theorem lw_skip (hg : o.guard = none) (hr : (execOp a.eval o).run P w = .ok .skip w') (h : lw md P ops Q rest (a.put o.dst undef) w') : lw md P ops Q (o :: rest) a w := by
  cases md with
  | none => exact wpList_plain hg fun K hK => by unfold Oper.wp; rw [hr, Oper.upon_skip]; exact hK _ _ h
  | some r => exact wpListIn_plain hg fun K hK => ⟨fun _ _ => trivial, by show o.uponIn (FF r) 1 P a K Q ((o.semAt r a.eval).run P w); rw [semAt_run (by intro d hd; cases hd) hr, Oper.uponIn_skip]; exact hK _ _ h⟩
theorem callsFF {n f : Nat} {args : Array Value} {R : Ending → World → Prop} (h : Calls P f args w R) : CallsIn (FF r) n P f args w R := by
  cases r with
  | none => exact callsIn_wide.2 h
  | some l => exact CallsIn.inRound l (callsIn_wide.2 h)
theorem lw_enter {f : Nat} {args : Array Value} (hg : o.guard = none) (hr : (execOp a.eval o).run P w = .ok (.enter f args) w')
    (h : Calls P f args w' fun e w2 => ∃ v, e = .returned v ∧ lw md P ops Q rest (a.put o.dst v) w2) : lw md P ops Q (o :: rest) a w := by
  cases md with
  | none =>
    exact wpList_plain hg fun K hK => by
      unfold Oper.wp
      rw [hr, Oper.upon_enter]
      refine h.mono fun e w2 hh => ?_
      obtain ⟨v, rfl, h2⟩ := hh
      exact hK _ _ h2
  | some r =>
    refine wpListIn_plain hg fun K hK => ⟨fun _ _ => trivial, ?_⟩
    show o.uponIn (FF r) 1 P a K Q ((o.semAt r a.eval).run P w)
    rw [semAt_run (by intro d hd; cases hd) hr, Oper.uponIn_enter]
    refine ⟨fun _ => Nat.le_refl 1, (callsFF h).mono fun e w2 hh => ?_⟩
    obtain ⟨v, rfl, h2⟩ := hh
    exact hK _ _ h2
/-- A round is called. -/
theorem lw_round {l : Nat} {args : Array Value} {R : Ending → World → Prop} (hg : o.guard = none) (hr : (execOp a.eval o).run P w = (Instr.yield l args).run P w) (hy : YieldAt Fence.wide 0 P l args w R)
    (h : ∀ e w2, R e w2 → ∃ v, e = .returned v ∧ lw (some none) P ops Q rest (a.put o.dst v) w2) : lw (some none) P ops Q (o :: rest) a w := by
  obtain ⟨fn, tmps, assign, body, h1, h2⟩ := hy
  refine wpListIn_plain hg fun K hK => ⟨fun _ _ => trivial, ?_⟩
  show o.uponIn (FF none) 1 P a K Q ((o.semAt none a.eval).run P w)
  rw [semAt_run (by intro d hd; cases hd) (hr.trans h1), Oper.uponIn_round]
  refine ⟨fun _ => Nat.le_refl 1, RoundIn.mono h2 fun e w2 hh => ?_⟩
  obtain ⟨v, rfl, h3⟩ := h e w2 hh
  exact hK _ _ h3
theorem lw_on (hw : Region.wanted o (yielded ops a.tmps) = true) (h : lw md P ops Q ({ o with guard := none } :: rest) a w) : lw md P ops Q (o :: rest) a w := by
  have hw2 : Region.wanted { o with guard := none } (yielded ops a.tmps) = true := rfl
  cases md with
  | none =>
    change wpList P ops Q _ a w at h
    show wpList P ops Q _ a w
    unfold wpList at h ⊢
    rw [if_pos hw2] at h
    rw [if_pos hw]
    exact h
  | some r =>
    change wpListIn (FF r) 1 P ops Q _ a w at h
    show wpListIn (FF r) 1 P ops Q _ a w
    unfold wpListIn at h ⊢
    rw [if_pos hw2] at h
    rw [if_pos hw]
    exact h
theorem lw_off (hw : Region.wanted o (yielded ops a.tmps) = false) (h : lw md P ops Q rest (a.put o.dst undef) w) : lw md P ops Q (o :: rest) a w := by
  have hw2 : ¬ Region.wanted o (yielded ops a.tmps) = true := by rw [hw]; exact Bool.false_ne_true
  cases md with
  | none => show wpList P ops Q _ a w; unfold wpList; rw [if_neg hw2]; exact h
  | some r => show wpListIn (FF r) 1 P ops Q _ a w; unfold wpListIn; rw [if_neg hw2]; exact ⟨fun _ _ => trivial, h⟩
/-- No way out at want of room. -/
def NoOut (Q : Exit → Act → World → Prop) : Exit → Act → World → Prop
  | .outgrown, _, _ => False
  | e, a, w => Q e a w
theorem rowsFF {n : Nat} {row : String} {args : Array Value} {R : Value → World → Prop} (h : Rows P row args w R) : RowsIn (FF r) n P row args w R := by
  have h1 : RowsIn Fence.wide n P row args w R := fun c cs _ => let ⟨v, w', hR, hs⟩ := h c cs; ⟨v, w', hR, stepsIn_wide.2 hs⟩
  exact h1
theorem wp_noOut (hk : ∀ a w, K a w → K' a w) (h : o.wp P a w K (Exit.then K (NoOut Q))) : o.wp P a w K' Q := by
  unfold Oper.wp at h ⊢
  revert h
  generalize (execOp a.eval o).run P w = x
  intro h
  cases x with
  | ok x w2 =>
    cases x <;> first | exact hk _ _ h | exact h | skip
    all_goals first
      | (refine Calls.mono h fun e w3 h3 => ?_
         cases e with
         | returned v => exact hk _ _ h3
         | panicked ch => exact h3
         | outgrown => obtain ⟨a4, w4, h4⟩ := h3; exact h4.elim)
      | exact Rows.mono h fun v w3 h3 => hk _ _ h3
  | halt x w2 => cases x <;> first | exact h | skip
theorem wpIn_noOut (hd : ∀ c, o.op ≠ .defer c) (hk : ∀ a w, K a w → K' a w) (h : o.wp P a w K (Exit.then K (NoOut Q))) : o.wpIn (FF r) 1 P a w K' Q := by
  refine ⟨fun _ _ => trivial, ?_⟩
  show o.uponIn (FF r) 1 P a K' Q ((o.semAt r a.eval).run P w)
  rw [Oper.semAt_eq r a.eval o hd]
  unfold Oper.wp at h
  revert h
  generalize (execOp a.eval o).run P w = x
  intro h
  cases x with
  | ok x w2 =>
    cases x <;> first | exact hk _ _ h | exact h.elim | skip
    all_goals first
      | (refine ⟨fun _ => Nat.le_refl 1, (callsFF h).mono fun e w3 h3 => ?_⟩
         cases e with
         | returned v => exact hk _ _ h3
         | panicked ch => exact h3
         | outgrown => obtain ⟨a4, w4, h4⟩ := h3; exact h4.elim)
      | exact ⟨fun _ => Nat.le_refl 1, (rowsFF h).mono fun v w3 h3 => hk _ _ h3⟩
  | halt x w2 => cases x <;> first | exact h | exact h.elim | skip
/-- Whatever a plain law says of one operation. -/
theorem lw_via (hg : o.guard = none) (hd : ∀ c, o.op ≠ .defer c) (h : wpList P ops (Exit.then (lw md P ops Q rest) (NoOut Q)) [o] a w) : lw md P ops Q (o :: rest) a w := by
  have hw : Region.wanted o (yielded ops a.tmps) = true := by simp [Region.wanted, hg]
  unfold wpList at h
  rw [if_pos hw] at h
  have h1 : o.wp P a w (lw md P ops Q rest) (Exit.then (lw md P ops Q rest) (NoOut Q)) := by
    rcases h with h | ⟨-, a2, w2, h2⟩
    · exact h
    · exact h2.elim
  cases md with
  | none => exact wpList_plain hg fun K hK => wp_noOut hK h1
  | some r => exact wpListIn_plain hg fun K hK => wpIn_noOut hd hK h1
theorem wpOper_mono {o : Oper} (hq : ∀ e a w, Q e a w → Q' e a w) (hk : ∀ a w, K a w → K' a w) (h : o.wp P a w K Q) : o.wp P a w K' Q' := by
  unfold Oper.wp at h ⊢
  revert h
  generalize (execOp a.eval o).run P w = r
  intro h
  cases r with
  | ok x w2 =>
    cases x <;> first | exact hk _ _ h | exact h | skip
    all_goals first
      | (refine Calls.mono h fun e w3 h3 => ?_
         cases e with
         | returned v => exact hk _ _ h3
         | panicked ch => exact hq _ _ _ h3
         | outgrown => obtain ⟨a4, w4, h4⟩ := h3; exact ⟨a4, w4, hq _ _ _ h4⟩)
      | exact Rows.mono h fun v w3 h3 => hk _ _ h3
  | halt x w2 => cases x <;> first | exact hq _ _ _ h | exact h | skip
theorem wpOperIn_mono {F : Fence} {n : Nat} {o : Oper} (hq : ∀ e a w, Q e a w → Q' e a w) (hk : ∀ a w, K a w → K' a w) (h : o.wpIn F n P a w K Q) : o.wpIn F n P a w K' Q' := by
  refine ⟨h.1, ?_⟩
  have h := h.2
  revert h
  generalize (o.semAt F.round a.eval).run P w = r
  intro h
  cases r with
  | ok x w2 =>
    cases x <;> first | exact hk _ _ h | exact h | skip
    all_goals first
      | (refine ⟨h.1, CallsIn.mono h.2 fun e w3 h3 => ?_⟩
         cases e with
         | returned v => exact hk _ _ h3
         | panicked ch => exact hq _ _ _ h3
         | outgrown => obtain ⟨a4, w4, h4⟩ := h3; exact ⟨a4, w4, hq _ _ _ h4⟩)
      | exact ⟨h.1, RowsIn.mono h.2 fun v w3 h3 => hk _ _ h3⟩
      | (refine ⟨h.1, RoundIn.mono h.2 fun e w3 h3 => ?_⟩
         cases e with
         | returned v => exact hk _ _ h3
         | panicked ch => exact hq _ _ _ h3
         | outgrown => obtain ⟨a4, w4, h4⟩ := h3; exact ⟨a4, w4, hq _ _ _ h4⟩)
  | halt x w2 => cases x <;> first | exact hq _ _ _ h | exact h | skip
theorem wpList_mono' (hq : ∀ e a w, Q e a w → Q' e a w) (hl : LetsOut Q → LetsOut Q') : ∀ (rest : List Oper) (a : Act) (w : World), wpList P ops Q rest a w → wpList P ops Q' rest a w
  | [], a, w, h => hq _ _ _ h
  | o :: rest, a, w, h => by
    unfold wpList at h ⊢
    split
    · rename_i hw
      rw [if_pos hw] at h
      rcases h with h | h
      · exact .inl (wpOper_mono hq (fun a w h => wpList_mono' hq hl rest a w h) h)
      · exact .inr ⟨h.1, hl h.2⟩
    · rename_i hw
      rw [if_neg hw] at h
      exact wpList_mono' hq hl rest _ w h
theorem wpListIn_mono' {F : Fence} {n : Nat} (hq : ∀ e a w, Q e a w → Q' e a w) : ∀ (rest : List Oper) (a : Act) (w : World), wpListIn F n P ops Q rest a w → wpListIn F n P ops Q' rest a w
  | [], a, w, h => hq _ _ _ h
  | o :: rest, a, w, h => by
    unfold wpListIn at h ⊢
    split
    · rename_i hw
      rw [if_pos hw] at h
      exact wpOperIn_mono hq (fun a w h => wpListIn_mono' hq rest a w h) h
    · rename_i hw
      rw [if_neg hw] at h
      exact ⟨h.1, wpListIn_mono' hq rest _ w h.2⟩
theorem lw_mono (hq : ∀ e a w, Q e a w → Q' e a w) (h : lw md P ops Q rest a w) : lw md P ops Q' rest a w := by
  cases md with
  | none => exact wpList_mono' hq (fun ⟨a, w, q⟩ => ⟨a, w, hq _ _ _ q⟩) rest a w h
  | some r => exact wpListIn_mono' hq rest a w h
end
end K
end Go.Proofs.Ytilmfnlaenneeaa

/- Walks over those slots alone that are asked for again: the slots as a list, each pure operation reckoned by the kernel. -/
namespace Go.Proofs.Ytilmfnlaenneeaa
open Go.RowKit
namespace K

abbrev Env := List (Nat × Value)
def look : Env → Nat → Option Value
  | [], _ => none
  | (j, v) :: r, k => bif Nat.beq j k then some v else look r k
def evl (l : Env) : Operand → Option Value
  | .tmp t => look l t
  | .const v => some v
  | .global g => some (.pointer (some ⟨g, 0, none⟩))
  | .func f => some (.func (.func f) #[] #[])

/-- What a walk is of: so many slots; the calls that are set back; the way it goes. -/
structure NN where
  n : Nat
  ds : List Deferred := []
  md : Option (Option Nat) := none
instance : Coe Nat NN := ⟨fun n => ⟨n, [], none⟩⟩
/-- What the slots hold, as far as it is said. -/
structure Fr (n : NN) (a : Act) (l : Env) : Prop where
  size : a.tmps.size = n.n
  defers : a.defers = n.ds
  slot : ∀ k v, look l k = some v → a.tmps[k]? = some v
theorem Fr.eval {n : NN} {a : Act} {l : Env} (h : Fr n a l) {x : Operand} {v : Value} (hx : evl l x = some v) : a.eval x = v := by
  cases x with
  | tmp t => have := h.slot t v hx; show a.tmps.getD t undef = v; rw [Array.getD_eq_getD_getElem?, this]; rfl
  | const u => exact Option.some.inj hx
  | global g => exact Option.some.inj hx
  | func f => exact Option.some.inj hx
theorem Fr.put {n : NN} {a : Act} {l : Env} (h : Fr n a l) {d : Nat} (hd : Nat.blt d n.n = true) (v : Value) : Fr n (a.put (some d) v) ((d, v) :: l) := by
  have hd' : d < n.n := by rw [Nat.blt_eq] at hd; exact hd
  refine ⟨by show (a.tmps.setIfInBounds d v).size = n.n; rw [Array.size_setIfInBounds]; exact h.size, h.defers, fun k u hk => ?_⟩
  show (a.tmps.setIfInBounds d v)[k]? = some u
  have hs := h.size
  unfold look at hk
  cases hb : Nat.beq d k with
  | true =>
    rw [hb] at hk
    obtain rfl : d = k := Nat.eq_of_beq_eq_true hb
    obtain rfl : v = u := Option.some.inj hk
    simp [hs, hd']
  | false =>
    rw [hb] at hk
    have hne : d ≠ k := Nat.ne_of_beq_eq_false hb
    rw [Array.getElem?_setIfInBounds_ne hne]
    exact h.slot k u hk
theorem Fr.none {n : NN} {a : Act} {l : Env} (h : Fr n a l) (v : Value) : Fr n (a.put none v) l := h
/-- The same slots, or fewer of them. -/
def Sub (l : Env) : Env → Prop
  | [] => True
  | (k, v) :: r => look l k = some v ∧ Sub l r
theorem Sub.look {l : Env} : ∀ {m : Env} {k : Nat} {v : Value}, Sub l m → look m k = some v → K.look l k = some v
  | [], _, _, _, h => by cases h
  | (j, u) :: r, k, v, h, hk => by
    unfold K.look at hk
    cases hb : Nat.beq j k with
    | true =>
      rw [hb] at hk
      obtain rfl : j = k := Nat.eq_of_beq_eq_true hb
      obtain rfl : u = v := Option.some.inj hk
      exact h.1
    | false => rw [hb] at hk; exact Sub.look h.2 hk
theorem Fr.sub {n : NN} {a : Act} {l m : Env} (h : Fr n a l) (hs : Sub l m) : Fr n a m := ⟨h.size, h.defers, fun k v hk => h.slot k v (hs.look hk)⟩
def argsEnv : Nat → List Value → Env
  | _, [] => []
  | i, v :: r => (i, v) :: argsEnv (i + 1) r
theorem look_args : ∀ (l : List Value) (i k : Nat) (v : Value), look (argsEnv i l) k = some v → i ≤ k ∧ l[k - i]? = some v
  | [], _, _, _, h => by cases h
  | u :: r, i, k, v, h => by
    unfold argsEnv look at h
    cases hb : Nat.beq i k with
    | true =>
      rw [hb] at h
      obtain rfl : i = k := Nat.eq_of_beq_eq_true hb
      exact ⟨Nat.le_refl _, by simpa using h⟩
    | false =>
      rw [hb] at h
      have hne : i ≠ k := Nat.ne_of_beq_eq_false hb
      obtain ⟨h1, h2⟩ := look_args r (i + 1) k v h
      refine ⟨by omega, ?_⟩
      have : k - i = (k - (i + 1)) + 1 := by omega
      rw [this]
      simpa using h2

section
variable {n : NN} {Q : Exit → Act → World → Prop} {l : Env} {w : World}

structure WC (n : NN) (c : Code) (Q : Exit → Act → World → Prop) (l : Env) (w : World) : Prop where
  go : ∀ a, Fr n a l → cw n.md Try.prog c Q a w
structure WL (n : NN) (ops : Array Oper) (Q : Exit → Act → World → Prop) (rest : List Oper) (l : Env) (w : World) : Prop where
  go : ∀ a, Fr n a l → lw n.md Try.prog ops Q rest a w
structure WQ (n : NN) (Q : Exit → Act → World → Prop) (e : Exit) (l : Env) (w : World) : Prop where
  go : ∀ a, Fr n a l → Q e a w

theorem enter {f : FuncId} {fn : Func} {c : Code} {args : List Value} {n : Nat} {R : Ending → World → Prop} (hf : Try.prog.funcs[f]? = some fn) (hb : fn.body = some c) (hn : fn.ntmps = n) (hs : Nat.ble args.length n = true)
    (h : WC ⟨n, [], none⟩ c (bodyPost Try.prog fn R) (argsEnv 0 args) w) : Calls Try.prog f args.toArray w R := by
  refine calls_of_wp hf hb (h.go _ ?_)
  subst hn
  have hs' : args.length ≤ fn.ntmps := Nat.le_of_ble_eq_true hs
  refine ⟨by simp; omega, rfl, fun k v hk => ?_⟩
  obtain ⟨-, h2⟩ := look_args _ _ _ _ hk
  rw [Nat.sub_zero] at h2
  have hlt : k < args.length := by
    rcases Nat.lt_or_ge k args.length with h | h
    · exact h
    · rw [List.getElem?_eq_none h] at h2; cases h2
  rw [Array.getElem?_append_left (by simpa using hlt)]
  simpa using h2

theorem WC.seq {x y : Code} (h : WC n x (Exit.then (cw n.md Try.prog y Q) Q) l w) : WC n (.seq x y) Q l w := ⟨fun a ha => cw_seq (h.go a ha)⟩
theorem WC.block {id : Nat} {c : Code} (h : WC n c (Exit.inBlock id Q) l w) : WC n (.block id c) Q l w := ⟨fun a ha => cw_block (h.go a ha)⟩
theorem WC.skip (h : WQ n Q .normal l w) : WC n .skip Q l w := ⟨fun a ha => cw_skip (h.go a ha)⟩
theorem WC.exit {id : Nat} (h : WQ n Q (.exit id) l w) : WC n (.exit id) Q l w := ⟨fun a ha => cw_exit (h.go a ha)⟩
theorem WC.ret (h : WQ n Q .ret l w) : WC n .ret Q l w := ⟨fun a ha => cw_ret (h.go a ha)⟩
theorem WC.region {id : Nat} {ops : List Oper} (h : WL n ops.toArray Q ops l w) : WC n (.region id ops.toArray false) Q l w := ⟨fun a ha => cw_region (h.go a ha)⟩
theorem WC.condB {c : Operand} {x y : Code} {b : Bool} (hc : evl l c = some (.bool b)) (h1 : b = true → WC n x Q l w) (h2 : b = false → WC n y Q l w) : WC n (.cond c x y) Q l w :=
  ⟨fun a ha => cw_cond (ha.eval hc) (fun e => (h1 e).go a ha) (fun e => (h2 e).go a ha)⟩
theorem WC.condTrue {c : Operand} {x y : Code} (hc : evl l c = some (.bool true)) (h : WC n x Q l w) : WC n (.cond c x y) Q l w := WC.condB hc (fun _ => h) (fun e => by cases e)
theorem WC.condFalse {c : Operand} {x y : Code} (hc : evl l c = some (.bool false)) (h : WC n y Q l w) : WC n (.cond c x y) Q l w := WC.condB hc (fun e => by cases e) (fun _ => h)
theorem WC.condT {c : Operand} {x y : Code} {p : Prop} [Decidable p] (hc : evl l c = some (.bool (decide p))) (hp : p) (h : WC n x Q l w) : WC n (.cond c x y) Q l w := WC.condTrue (by rw [hc, decide_eq_true hp]) h
theorem WC.condF {c : Operand} {x y : Code} {p : Prop} [Decidable p] (hc : evl l c = some (.bool (decide p))) (hp : ¬ p) (h : WC n y Q l w) : WC n (.cond c x y) Q l w := WC.condFalse (by rw [hc, decide_eq_false hp]) h
theorem WC.condS {c : Operand} {x y : Code} {p : Prop} [Decidable p] (hc : evl l c = some (.bool (decide p))) (h1 : p → WC n x Q l w) (h2 : ¬ p → WC n y Q l w) : WC n (.cond c x y) Q l w :=
  WC.condB hc (fun e => h1 (of_decide_eq_true e)) (fun e => h2 (of_decide_eq_false e))
theorem WC.sub {c : Code} {m : Env} (hs : Sub l m) (h : WC n c Q m w) : WC n c Q l w := ⟨fun a ha => h.go a (ha.sub hs)⟩
theorem WL.sub {ops : Array Oper} {rest : List Oper} {m : Env} (hs : Sub l m) (h : WL n ops Q rest m w) : WL n ops Q rest l w := ⟨fun a ha => h.go a (ha.sub hs)⟩
/-- A slot's value in other words. -/
theorem WC.as {c : Code} (k : Nat) (v' : Value) {v : Value} (hk : look l k = some v) (e : v = v') (h : WC n c Q ((k, v') :: l) w) : WC n c Q l w :=
  ⟨fun a ha => h.go a ⟨ha.size, ha.defers, fun j u hj => by
    unfold look at hj
    cases hb : Nat.beq k j with
    | true =>
      rw [hb] at hj
      obtain rfl : k = j := Nat.eq_of_beq_eq_true hb
      obtain rfl : v' = u := Option.some.inj hj
      subst e
      exact ha.slot _ _ hk
    | false => rw [hb] at hj; exact ha.slot _ _ hj⟩⟩
/-- The round's end: a round of a lower rank begins. -/
def Again (n : NN) {ι : Type} (L : ι → Env) (W : ι → World → Prop) (μ : ι → Nat) (i : ι) (a : Act) (w : World) : Prop := ∃ j, Fr n a (L j) ∧ W j w ∧ μ j < μ i
/-- Where ways meet. -/
def Meet (n : NN) {ι : Type} (L : ι → Env) (W : ι → World → Prop) (a : Act) (w : World) : Prop := ∃ i, Fr n a (L i) ∧ W i w
/-- A loop: its rounds begin at L i, i of what rank soever. -/
theorem WC.loop {ι : Type} {c : Code} (L : ι → Env) (W : ι → World → Prop) (μ : ι → Nat) (i : ι) (hs : Sub l (L i)) (hw : W i w)
    (round : ∀ i w, W i w → WC n c (Exit.then (Again n L W μ i) Q) (L i) w) : WC n (.loop c) Q l w := by
  refine ⟨fun a ha => cw_loop (fun m a w => ∃ i, Fr n a (L i) ∧ W i w ∧ μ i = m) (μ i) ⟨i, ha.sub hs, hw, rfl⟩ ?_⟩
  rintro m a w ⟨i, hf, hw, rfl⟩
  refine cw_mono (fun e a w q => ?_) ((round i w hw).go a hf)
  cases e with
  | normal => obtain ⟨j, h1, h2, h3⟩ := q; exact ⟨μ j, h3, j, h1, h2, rfl⟩
  | exit id => exact q
  | goto l => exact q
  | ret => exact q
  | panic ch => exact q
  | outgrown => exact q

end
end K
end Go.Proofs.Ytilmfnlaenneeaa
