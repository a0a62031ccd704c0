/- Texts for LawClNo, part 2 of 5. -/
import Derived.Test.YtpfkcfaifleliaaGreatZLawClNo1
import Derived.ProofKit
import Derived.OpenShut
import Derived.ShutString
import Derived.ChangeOld
import Derived.Below
import Derived.Deep.Slices
import Derived.Deep.MidRow
import Derived.Laws.Bits64b
import Derived.Laws.BitsLemmas
import Derived.Laws.BitsAllLaws
namespace Go.Proofs.YtpfkcfaifleliaaGreat
namespace Frm
abbrev Byt (l : List Int) : Prop := ∀ c ∈ l, 0 ≤ c ∧ c ≤ 255
end Frm
namespace Crc
def be4 (n : Nat) : List Int := [((n / 16777216 % 256 : Nat) : Int), ((n / 65536 % 256 : Nat) : Int), ((n / 256 % 256 : Nat) : Int), ((n % 256 : Nat) : Int)]
def num4 : List Int → Nat
  | a :: b :: c :: d :: _ => a.toNat * 16777216 + b.toNat * 65536 + c.toNat * 256 + d.toNat
  | _ => 0
theorem num4_be4 {n : Nat} (h : n < 4294967296) (r : List Int) : num4 (be4 n ++ r) = n := by
  show (((n / 16777216 % 256 : Nat) : Int)).toNat * 16777216 + (((n / 65536 % 256 : Nat) : Int)).toNat * 65536 + (((n / 256 % 256 : Nat) : Int)).toNat * 256 + (((n % 256 : Nat) : Int)).toNat = n
  simp only [Int.toNat_natCast]; omega
theorem be4_byt (n : Nat) : ∀ c ∈ be4 n, 0 ≤ c ∧ c ≤ 255 := by
  intro c hc; unfold be4 at hc; simp only [List.mem_cons, List.not_mem_nil, or_false] at hc; rcases hc with rfl | rfl | rfl | rfl <;> omega
theorem be4_num4 {a b c d : Int} (ha : 0 ≤ a ∧ a ≤ 255) (hb : 0 ≤ b ∧ b ≤ 255) (hc : 0 ≤ c ∧ c ≤ 255) (hd : 0 ≤ d ∧ d ≤ 255) (r : List Int) : be4 (num4 (a :: b :: c :: d :: r)) = [a, b, c, d] ∧ num4 (a :: b :: c :: d :: r) < 4294967296 := by
  refine ⟨?_, by show a.toNat * 16777216 + b.toNat * 65536 + c.toNat * 256 + d.toNat < 4294967296; omega⟩
  show be4 (a.toNat * 16777216 + b.toNat * 65536 + c.toNat * 256 + d.toNat) = _
  unfold be4; have h1 : ((a.toNat * 16777216 + b.toNat * 65536 + c.toNat * 256 + d.toNat) / 16777216 % 256 : Nat) = a.toNat := by omega
  have h2 : ((a.toNat * 16777216 + b.toNat * 65536 + c.toNat * 256 + d.toNat) / 65536 % 256 : Nat) = b.toNat := by omega
  have h3 : ((a.toNat * 16777216 + b.toNat * 65536 + c.toNat * 256 + d.toNat) / 256 % 256 : Nat) = c.toNat := by omega
  have h4 : ((a.toNat * 16777216 + b.toNat * 65536 + c.toNat * 256 + d.toNat) % 256 : Nat) = d.toNat := by omega
  rw [h1, h2, h3, h4, Int.toNat_of_nonneg ha.1, Int.toNat_of_nonneg hb.1, Int.toNat_of_nonneg hc.1, Int.toNat_of_nonneg hd.1]
theorem num4_lt (l : List Int) (h : ∀ c ∈ l, 0 ≤ c ∧ c ≤ 255) : num4 l < 4294967296 := by
  match l, h with
  | [], _ => simp [num4]
  | [_], _ => simp [num4]
  | [_, _], _ => simp [num4]
  | [_, _, _], _ => simp [num4]
  | a :: b :: c :: d :: r, h => exact (be4_num4 (h a (by simp)) (h b (by simp)) (h c (by simp)) (h d (by simp)) r).2
end Crc
end Go.Proofs.YtpfkcfaifleliaaGreat

namespace Go.Proofs.YtpfkcfaifleliaaGreat
namespace Crc

def P : BitVec 32 := 0xedb88320#32
def step (c : BitVec 32) : BitVec 32 := (c >>> 1) ^^^ (if c.getLsbD 0 then P else 0#32)
def tab : List Nat := [0x00000000, 0x1db71064, 0x3b6e20c8, 0x26d930ac, 0x76dc4190, 0x6b6b51f4, 0x4db26158, 0x5005713c, 0xedb88320, 0xf00f9344, 0xd6d6a3e8, 0xcb61b38c, 0x9b64c2b0, 0x86d3d2d4, 0xa00ae278, 0xbdbdf21c]
def nib (c : BitVec 32) : BitVec 32 := (c >>> 4) ^^^ BitVec.ofNat 32 (tab.getD (c.toNat % 16) 0)
theorem step_xor (a b : BitVec 32) : step (a ^^^ b) = step a ^^^ step b := by
  unfold step; rw [BitVec.getLsbD_xor, BitVec.ushiftRight_xor_distrib]; cases a.getLsbD 0 <;> cases b.getLsbD 0
  · simp
  · simp [BitVec.xor_assoc]
  · simp only [Bool.xor_false, if_true, Bool.false_eq_true, if_false, BitVec.xor_zero]
    rw [BitVec.xor_assoc, BitVec.xor_assoc, BitVec.xor_comm (b >>> 1)]
  · simp only [Bool.xor_true, Bool.not_true, Bool.false_eq_true, if_false, if_true, BitVec.xor_zero]
    rw [BitVec.xor_assoc, ← BitVec.xor_assoc P, BitVec.xor_comm P, BitVec.xor_assoc, BitVec.xor_self, BitVec.xor_zero]
theorem step_even (c : BitVec 32) (h : c.getLsbD 0 = false) : step c = c >>> 1 := by unfold step; rw [h]; simp
theorem low_high (c : BitVec 32) : c = (c &&& 0xfffffff0#32) ^^^ (c &&& 15#32) := by
  apply BitVec.eq_of_getLsbD_eq
  intro i hi; rw [BitVec.getLsbD_xor, BitVec.getLsbD_and, BitVec.getLsbD_and]; have : ∀ i : Fin 32, (0xfffffff0#32).getLsbD i.val = !((15#32).getLsbD i.val) := by decide
  rw [this ⟨i, hi⟩]; cases c.getLsbD i <;> cases (15#32).getLsbD i <;> rfl
theorem step4_high (c : BitVec 32) : step (step (step (step (c &&& 0xfffffff0#32)))) = (c >>> 4) := by
  have h0 : (c &&& 0xfffffff0#32).getLsbD 0 = false := by rw [BitVec.getLsbD_and]; simp
  have h1 : ((c &&& 0xfffffff0#32) >>> 1).getLsbD 0 = false := by rw [BitVec.getLsbD_ushiftRight, BitVec.getLsbD_and]; simp
  have h2 : ((c &&& 0xfffffff0#32) >>> 1 >>> 1).getLsbD 0 = false := by rw [BitVec.getLsbD_ushiftRight, BitVec.getLsbD_ushiftRight, BitVec.getLsbD_and]; simp
  have h3 : ((c &&& 0xfffffff0#32) >>> 1 >>> 1 >>> 1).getLsbD 0 = false := by rw [BitVec.getLsbD_ushiftRight, BitVec.getLsbD_ushiftRight, BitVec.getLsbD_ushiftRight, BitVec.getLsbD_and]; simp
  rw [step_even _ h0, step_even _ h1, step_even _ h2, step_even _ h3]
  apply BitVec.eq_of_getLsbD_eq
  intro i hi; simp only [BitVec.getLsbD_ushiftRight, BitVec.getLsbD_and]; have : ∀ i : Fin 32, (0xfffffff0#32).getLsbD (1 + (1 + (1 + (1 + i.val)))) = decide (4 + i.val < 32) := by decide
  rw [this ⟨i, hi⟩]; have e : 1 + (1 + (1 + (1 + i))) = 4 + i := by omega
  rw [e]
  by_cases h : 4 + i < 32
  · simp [h]
  · rw [BitVec.getLsbD_of_ge c (4 + i) (by omega)]; simp
theorem step4_low : ∀ k : Fin 16, step (step (step (step (BitVec.ofNat 32 k.val)))) = BitVec.ofNat 32 (tab.getD k.val 0) := by decide
theorem step4 (c : BitVec 32) : step (step (step (step c))) = nib c := by
  have hl : c &&& 15#32 = BitVec.ofNat 32 (c.toNat % 16) := by
    apply BitVec.eq_of_toNat_eq
    rw [BitVec.toNat_and, BitVec.toNat_ofNat]; have h15 : (15 % 2 ^ 32 : Nat) = 2 ^ 4 - 1 := by decide
    rw [BitVec.toNat_ofNat, h15, Nat.and_two_pow_sub_one_eq_mod]; omega
  have h16 : c.toNat % 16 < 16 := Nat.mod_lt _ (by omega)
  conv => lhs; rw [low_high c]
  rw [step_xor, step_xor, step_xor, step_xor, step4_high, hl]; have := step4_low ⟨c.toNat % 16, h16⟩; simp only at this; rw [this]
  rfl
def step8 (c : BitVec 32) : BitVec 32 := step (step (step (step (step (step (step (step c)))))))
theorem step8_nib (c : BitVec 32) : step8 c = nib (nib c) := by
  unfold step8; rw [step4, step4]
def run (c : BitVec 32) : List Int → BitVec 32
  | [] => c
  | x :: r => run (step8 (c ^^^ BitVec.ofInt 32 x)) r
def sum (l : List Int) : BitVec 32 := ~~~ (run (0xffffffff#32) l)
theorem run_app (c : BitVec 32) (a b : List Int) : run c (a ++ b) = run (run c a) b := by
  induction a generalizing c with
  | nil => rfl
  | cons x r ih => exact ih _
def crcN (l : List Int) : Nat := (sum l).toNat
theorem crcN_lt (l : List Int) : crcN l < 4294967296 := (sum l).isLt
end Crc
end Go.Proofs.YtpfkcfaifleliaaGreat

namespace Go.Proofs.YtpfkcfaifleliaaGreat
open Go.ChangeShapes Go.WideShapes Go.ChangeAt Go.RowKit

theorem Tryz.ownKnob : ownKnob Tryz.prog.godebug = none := by kernel_rfl
theorem Tryz.laid : laidOutB Tryz.prog = true := by kernel_rfl

theorem cell_spot {w : World} {x : Addr} {v : Value} (h : w.cell? x = some v) : x.spot = none := by
  unfold World.cell? at h
  split at h
  · cases hs : x.spot with
    | none => rfl
    | some _ => simp [hs] at h
  · cases h
end Go.Proofs.YtpfkcfaifleliaaGreat

namespace Go.Proofs.YtpfkcfaifleliaaGreat
open Go.ChangeShapes Go.WideShapes Go.ChangeAt Go.RowKit

inductive V where
  | mk (k n s : Int) (t : ByteArray) (names : List ByteArray) (kids : List V)
namespace V
def k : V → Int | .mk k _ _ _ _ _ => k
def n : V → Int | .mk _ n _ _ _ _ => n
def s : V → Int | .mk _ _ s _ _ _ => s
def t : V → ByteArray | .mk _ _ _ t _ _ => t
def names : V → List ByteArray | .mk _ _ _ _ l _ => l
def kids : V → List V | .mk _ _ _ _ _ l => l
end V
def noV : V := .mk 0 0 0 ByteArray.empty [] []
def noT : ByteArray := ByteArray.empty

def Strs (w : World) (v : Value) (l : List ByteArray) : Prop :=
  ∃ sp cap, v = .slice sp l.length cap ∧ l.length ≤ cap ∧ cap ≤ 9223372036854775807 ∧ (∀ j, j < l.length → (l.getD j noT).size ≤ 140737488355328) ∧
    (0 < l.length → ∃ b o, sp = some ⟨b, o, none⟩ ∧ b < w.heap.size ∧ ∀ j, j < l.length → w.cell? ⟨b, o + j, none⟩ = some (.string (l.getD j noT)))
theorem Strs.below {w w' : World} {v : Value} {l : List ByteArray} (h : Strs w v l) (hb : Below w.heap.size w w') : Strs w' v l := by
  obtain ⟨sp, cap, h1, h2, h3, h4, h5⟩ := h; refine ⟨sp, cap, h1, h2, h3, h4, fun h0 => ?_⟩; obtain ⟨b, o, e, hlt, hr⟩ := h5 h0; exact ⟨b, o, e, Nat.lt_of_lt_of_le hlt hb.size, fun j hj => by rw [hb.cell (p := ⟨b, o + j, none⟩) hlt]; exact hr j hj⟩

def Six (P : V → List Value → Prop) (w : World) (v : Value) (l : List V) : Prop :=
  ∃ sp cap, v = .slice sp l.length cap ∧ l.length ≤ cap ∧ cap ≤ 9223372036854775807 ∧
    (0 < l.length → ∃ b o, sp = some ⟨b, o, none⟩ ∧ b < w.heap.size ∧ ∀ j, j < l.length → ∃ cs, cs.length = 6 ∧ P (l.getD j noV) cs ∧ w.rangeAt b (o + j * 6) cs)

def IsV : Nat → World → V → List Value → Prop
  | 0, _, _, _ => False
  | f + 1, w, v, cs => ∃ sn sk, cs = [.int .i64 v.k, .int .i64 v.n, .int .i64 v.s, .string v.t, sn, sk] ∧
      (Lit.int .i64 v.k).wf = true ∧ (Lit.int .i64 v.n).wf = true ∧ (Lit.int .i64 v.s).wf = true ∧ v.t.size ≤ 140737488355328 ∧ Strs w sn v.names ∧ Six (IsV f w) w sk v.kids
def IsVs (f : Nat) (w : World) (v : Value) (l : List V) : Prop := Six (IsV f w) w v l

theorem Six.below {P P' : V → List Value → Prop} {w w' : World} {v : Value} {l : List V} (h : Six P w v l) (hb : Below w.heap.size w w') (hP : ∀ x cs, P x cs → P' x cs) : Six P' w' v l := by
  obtain ⟨sp, cap, h1, h2, h3, h4⟩ := h; refine ⟨sp, cap, h1, h2, h3, fun h0 => ?_⟩; obtain ⟨b, o, e, hlt, hr⟩ := h4 h0; refine ⟨b, o, e, Nat.lt_of_lt_of_le hlt hb.size, fun j hj => ?_⟩; obtain ⟨cs, hc, hp, hat⟩ := hr j hj; exact ⟨cs, hc, hP _ _ hp, fun i u hu => by rw [hb.cell (p := ⟨b, o + j * 6 + i, none⟩) hlt]; exact hat i u hu⟩
theorem IsV.below {w w' : World} (hb : Below w.heap.size w w') : ∀ {f : Nat} {v : V} {cs : List Value}, IsV f w v cs → IsV f w' v cs
  | 0, _, _, h => h
  | _ + 1, _, _, ⟨sn, sk, h1, h2, h3, h4, h5, h6, h7⟩ => ⟨sn, sk, h1, h2, h3, h4, h5, h6.below hb, h7.below hb fun _ _ hp => IsV.below hb hp⟩
theorem IsVs.below {f : Nat} {w w' : World} {v : Value} {l : List V} (h : IsVs f w v l) (hb : Below w.heap.size w w') : IsVs f w' v l := Six.below h hb fun _ _ hp => IsV.below hb hp
theorem IsV.len {f : Nat} {w : World} {v : V} {cs : List Value} (h : IsV f w v cs) : cs.length = 6 := by
  cases f with
  | zero => exact h.elim
  | succ f => obtain ⟨_, _, rfl, _⟩ := h; rfl

def isNameB (s : ByteArray) : Bool := decide (1 ≤ s.size) && decide (s.size ≤ 40)
def risesB : List ByteArray → Bool
  | [] => true
  | [_] => true
  | a :: b :: l => Op.bytesLess a.toList b.toList && risesB (b :: l)
def fieldsB (v : V) : Bool := v.names.all isNameB && risesB v.names && decide (v.names.length = v.kids.length)
def bareB (v : V) : Bool := decide (v.n = 0) && decide (v.s = 0)
def plainB (v : V) : Bool := decide (v.names.length = 0) && decide (v.kids.length = 0)
def noTextB (v : V) : Bool := decide (v.t.size = 0)
def formB (v : V) : Bool :=
  if v.k = 1 then bareB v && plainB v && noTextB v
  else if v.k = 2 then decide (0 ≤ v.n) && decide (v.n ≤ 1) && decide (v.s = 0) && plainB v && noTextB v
  else if v.k = 3 then decide (v.s = 0) && plainB v && noTextB v
  else if v.k = 4 then decide (1 ≤ v.s) && decide (v.s ≤ 18) && decide (¬ v.n.tmod 10 = 0) && plainB v && noTextB v
  else if v.k = 5 then decide (0 ≤ v.n) && decide (v.n ≤ 9007199254740992) && decide (v.s = 0) && plainB v && noTextB v
  else if v.k = 6 ∨ v.k = 7 then bareB v && plainB v
  else if v.k = 8 then bareB v && decide (v.names.length = 0) && noTextB v
  else if v.k = 9 then bareB v && noTextB v
  else false
def shp (v : V) : Int :=
  if formB v = false then 3
  else if 16384 < v.t.size ∨ 200 < v.kids.length then 5
  else if v.k = 9 ∧ fieldsB v = false then 3
  else 0
def firstBad : List Int → Int
  | [] => 0
  | e :: l => if e = 0 then firstBad l else e
def chk : Nat → V → Int
  | 0, _ => 9
  | m + 1, v => if shp v = 0 then firstBad (v.kids.map (chk m)) else shp v

theorem firstBad_zero {l : List Int} : firstBad l = 0 ↔ ∀ e ∈ l, e = 0 := by
  induction l with
  | nil => simp [firstBad]
  | cons a l ih =>
    unfold firstBad
    by_cases h : a = 0
    · rw [if_pos h, ih]; simp [h]
    · rw [if_neg h]; simp [h]
theorem firstBad_take {l : List Int} {i : Nat} (hi : i < l.length) (h : ∀ j, j < i → l.getD j 0 = 0) (hn : ¬ l.getD i 0 = 0) : firstBad l = l.getD i 0 := by
  induction l generalizing i with
  | nil => simp at hi
  | cons a l ih =>
    cases i with
    | zero => unfold firstBad; rw [if_neg (by simpa using hn)]; simp
    | succ i =>
      have h0 := h 0 (by omega); simp only [List.getD_cons_zero] at h0; unfold firstBad; rw [if_pos h0]; simp only [List.getD_cons_succ] at hn ⊢; exact ih (by simpa using hi) (fun j hj => by simpa using h (j + 1) (by omega)) hn
theorem firstBad_all {l : List Int} (h : ∀ j, j < l.length → l.getD j 0 = 0) : firstBad l = 0 := by
  rw [firstBad_zero]; intro e he; obtain ⟨j, hj, rfl⟩ := List.getElem_of_mem he
  simpa [hj] using h j hj
theorem chk_kid {m : Nat} {v : V} {j : Nat} (h : chk (m + 1) v = 0) (hj : j < v.kids.length) : chk m (v.kids.getD j noV) = 0 := by
  unfold chk at h
  by_cases hs : shp v = 0
  · rw [if_pos hs, firstBad_zero] at h
    exact h _ (List.mem_map.2 ⟨v.kids[j], List.getElem_mem hj, by simp [hj]⟩)
  · rw [if_neg hs] at h; exact (hs h).elim
theorem chk_shp {m : Nat} {v : V} (h : chk (m + 1) v = 0) : shp v = 0 := by
  unfold chk at h
  by_cases hs : shp v = 0
  · exact hs
  · rw [if_neg hs] at h; exact h
theorem chk_map (m : Nat) (l : List V) (j : Nat) (hj : j < l.length) : (l.map (chk m)).getD j 0 = chk m (l.getD j noV) := by simp [hj]

theorem rises_iff : ∀ {l : List ByteArray}, risesB l = true ↔ ∀ i, i + 1 < l.length → Op.bytesLess (l.getD i noT).toList (l.getD (i + 1) noT).toList = true
  | [] => by simp [risesB]
  | [a] => by simp [risesB]
  | a :: b :: l => by
    unfold risesB; rw [Bool.and_eq_true, rises_iff (l := b :: l)]
    constructor
    · rintro ⟨h1, h2⟩ i hi
      cases i with
      | zero => simpa using h1
      | succ i => simpa using h2 i (by simp at hi ⊢; omega)
    · intro h
      exact ⟨by simpa using h 0 (by simp), fun i hi => by simpa using h (i + 1) (by simp at hi ⊢; omega)⟩
end Go.Proofs.YtpfkcfaifleliaaGreat

namespace Go.Proofs.YtpfkcfaifleliaaGreat
namespace K

def uvF : Nat → Nat → List Int
  | 0, _ => []
  | f + 1, u => if u < 128 then [(u : Int)] else ((u % 128 + 128 : Nat) : Int) :: uvF f (u / 128)
def uvB (u : Nat) : List Int := uvF 10 u
def zig (v : Int) : Nat := if 0 ≤ v then (2 * v).toNat else (-2 * v - 1).toNat
def zag (u : Nat) : Int := if u % 2 = 0 then ((u / 2 : Nat) : Int) else -((u / 2 : Nat) : Int) - 1
def byI (s : ByteArray) : List Int := s.toList.map fun c => (c.toNat : Int)
def pieceE (ky : V → List Int) (st : Bool) (names : List ByteArray) (kids : List V) (j : Nat) : List Int :=
  (if st then uvB (names.getD j noT).size ++ byI (names.getD j noT) else []) ++ ky (kids.getD j noV)
def encV : Nat → V → List Int
  | 0, _ => []
  | m + 1, v => v.k ::
    (if v.k = 2 then [v.n] else if v.k = 3 then uvB (zig v.n) else if v.k = 4 then uvB (zig v.n) ++ [v.s] else if v.k = 5 then uvB v.n.toNat
     else if v.k = 6 ∨ v.k = 7 then uvB v.t.size ++ byI v.t
     else if v.k = 8 ∨ v.k = 9 then uvB v.kids.length ++ (List.range v.kids.length).flatMap (pieceE (encV m) (decide (v.k = 9)) v.names v.kids) else [])

inductive Rd (α : Type) where
  | ok (a : α) (r : List Int)
  | bad (e : Int)
def Rd.bind {α β : Type} : Rd α → (α → List Int → Rd β) → Rd β
  | .ok a r, f => f a r
  | .bad e, _ => .bad e
def rdB : List Int → Rd Int
  | [] => .bad 2
  | c :: r => .ok c r
def rdUF : Nat → Bool → List Int → Rd Nat
  | 0, _, _ => .bad 3
  | _ + 1, _, [] => .bad 2
  | f + 1, st, c :: r => if (f = 0 ∧ 1 < c) ∨ (st = true ∧ c = 0) then .bad 3 else if c < 128 then .ok c.toNat r else (rdUF f true r).bind fun v r' => .ok (c.toNat - 128 + 128 * v) r'
def rdU (l : List Int) : Rd Nat := rdUF 10 false l
def rdC (l : List Int) : Rd Nat := (rdU l).bind fun n r => if 65536 < n then .bad 3 else .ok n r
def rdT (l : List Int) : Rd ByteArray := (rdC l).bind fun n r => if r.length < n then .bad 2 else .ok ⟨((r.take n).map fun c => UInt8.ofNat c.toNat).toArray⟩ (r.drop n)
def rdK (rd : List Int → Rd V) (st : Bool) : Nat → List ByteArray → List V → List Int → Rd (List ByteArray × List V)
  | 0, ns, ks, l => .ok (ns, ks) l
  | n + 1, ns, ks, l =>
    if st = true then (rdT l).bind fun s r => (rd r).bind fun v r' => rdK rd st n (ns ++ [s]) (ks ++ [v]) r'
    else (rd l).bind fun v r' => rdK rd st n ns (ks ++ [v]) r'
def rdV : Nat → List Int → Rd V
  | 0, _ => .bad 9
  | m + 1, l => (rdB l).bind fun k r =>
    if k = 1 then .ok (.mk 1 0 0 noT [] []) r
    else if k = 2 then (rdB r).bind fun c r => if 1 < c then .bad 3 else .ok (.mk 2 c 0 noT [] []) r
    else if k = 3 then (rdU r).bind fun u r => .ok (.mk 3 (zag u) 0 noT [] []) r
    else if k = 4 then (rdU r).bind fun u r => (rdB r).bind fun s r => .ok (.mk 4 (zag u) s noT [] []) r
    else if k = 5 then (rdU r).bind fun u r => .ok (.mk 5 (IntKind.i64.wrap (u : Int)) 0 noT [] []) r
    else if k = 6 ∨ k = 7 then (rdT r).bind fun t r => .ok (.mk k 0 0 t [] []) r
    else if k = 8 ∨ k = 9 then (rdC r).bind fun n r => (rdK (rdV m) (decide (k = 9)) n [] [] r).bind fun p r => .ok (.mk k 0 0 noT p.1 p.2) r
    else .bad 3

end K
end Go.Proofs.YtpfkcfaifleliaaGreat

namespace Go.Proofs.YtpfkcfaifleliaaGreat
namespace K

def Byt (l : List Int) : Prop := ∀ c ∈ l, 0 ≤ c ∧ c ≤ 255
theorem Byt.tail {c : Int} {l : List Int} (h : Byt (c :: l)) : Byt l := fun x hx => h x (List.mem_cons_of_mem _ hx)
theorem Byt.right {k l : List Int} (h : Byt (k ++ l)) : Byt l := fun x hx => h x (List.mem_append_right _ hx)
theorem Byt.app {k l : List Int} (h : Byt k) (h' : Byt l) : Byt (k ++ l) := fun x hx => (List.mem_append.1 hx).elim (h x) (h' x)

theorem rdUF_enc : ∀ (f u : Nat) (st : Bool) (r : List Int), u < 2 * 128 ^ f → (st = true → u ≠ 0) → rdUF (f + 1) st (uvF (f + 1) u ++ r) = .ok u r
  | 0, u, st, r, h, hs => by
    simp at h
    unfold uvF; rw [if_pos (by omega), List.singleton_append]; unfold rdUF; rw [if_neg (fun h1 => h1.elim (fun h => by omega) (fun h => by have := hs h.1; omega)), if_pos (by omega)]; simp
  | f + 1, u, st, r, h, hs => by
    unfold uvF
    by_cases hu : u < 128
    · rw [if_pos hu, List.singleton_append]
      unfold rdUF; rw [if_neg (fun h1 => h1.elim (fun h => by omega) (fun h => by have := hs h.1; omega)), if_pos (by omega)]; simp
    · rw [if_neg hu, List.cons_append]
      unfold rdUF; rw [Nat.pow_succ] at h; rw [if_neg (by rintro (h1 | h1) <;> omega), if_neg (by omega), rdUF_enc f (u / 128) true r (by omega) (fun _ => by omega)]; simp only [Rd.bind]; rw [show (((u % 128 + 128 : Nat) : Int)).toNat - 128 + 128 * (u / 128) = u by omega]
theorem uvF_big {f u : Nat} (h : 128 ≤ u) : uvF (f + 1) u = ((u % 128 + 128 : Nat) : Int) :: uvF f (u / 128) := by rw [uvF, if_neg (by omega)]
theorem rdUF_can : ∀ (f u : Nat) (st : Bool) (l r : List Int), Byt l → rdUF (f + 1) st l = .ok u r → l = uvF (f + 1) u ++ r ∧ u < 2 * 128 ^ f ∧ (st = true → u ≠ 0)
  | f, u, st, [], r, _, h => by simp [rdUF] at h
  | f, u, st, c :: t, r, hb, h => by
    unfold rdUF at h; have hc := hb c (by simp)
    by_cases h1 : (f = 0 ∧ 1 < c) ∨ (st = true ∧ c = 0)
    · rw [if_pos h1] at h; cases h
    rw [if_neg h1] at h
    by_cases h2 : c < 128
    · rw [if_pos h2] at h
      cases h
      unfold uvF; rw [if_pos (by omega), List.singleton_append]; refine ⟨by rw [Int.toNat_of_nonneg hc.1], ?_, fun hs e => h1 (.inr ⟨hs, by omega⟩)⟩; cases f with
      | zero => simp; have : ¬ 1 < c := fun e => h1 (.inl ⟨rfl, e⟩); omega
      | succ f => have := Nat.pos_of_ne_zero (show 128 ^ f ≠ 0 by simp); rw [Nat.pow_succ]; omega
    · rw [if_neg h2] at h
      cases hr : rdUF f true t with
      | bad e => rw [hr] at h; cases h
      | ok v r' =>
        rw [hr] at h; simp only [Rd.bind] at h; cases h
        cases f with
        | zero => cases hr
        | succ f =>
          obtain ⟨rfl, h3, h4⟩ := rdUF_can f v true t r hb.tail hr; have h5 := h4 rfl; rw [uvF_big (show 128 ≤ c.toNat - 128 + 128 * v by omega), List.cons_append, show (c.toNat - 128 + 128 * v) / 128 = v by omega, show (c.toNat - 128 + 128 * v) % 128 + 128 = c.toNat by omega]; refine ⟨by rw [Int.toNat_of_nonneg hc.1], by rw [Nat.pow_succ]; omega, fun _ => by omega⟩
theorem rdU_enc {u : Nat} (h : u < 18446744073709551616) (r : List Int) : rdU (uvB u ++ r) = .ok u r := rdUF_enc 9 u false r (by omega) (fun h => by cases h)
theorem rdU_can {u : Nat} {l r : List Int} (hb : Byt l) (h : rdU l = .ok u r) : l = uvB u ++ r ∧ u < 18446744073709551616 := by
  obtain ⟨h1, h2, -⟩ := rdUF_can 9 u false l r hb h; exact ⟨h1, by omega⟩
theorem zig_lt {v : Int} (h : -9223372036854775808 ≤ v ∧ v ≤ 9223372036854775807) : zig v < 18446744073709551616 := by unfold zig; split <;> omega
theorem byI_len (s : ByteArray) : (byI s).length = s.size := by
  unfold byI; rw [List.length_map, ByteArray.toList_eq]; rfl
end K
end Go.Proofs.YtpfkcfaifleliaaGreat

namespace Go.Proofs.YtpfkcfaifleliaaGreat
namespace K

end K
end Go.Proofs.YtpfkcfaifleliaaGreat

namespace Go.Proofs.YtpfkcfaifleliaaGreat
namespace K

end K
end Go.Proofs.YtpfkcfaifleliaaGreat

namespace Go.Proofs.YtpfkcfaifleliaaGreat
open Go.RowKit
namespace K

theorem uvF_len : ∀ (f u : Nat), (uvF f u).length ≤ f
  | 0, _ => by simp [uvF]
  | f + 1, u => by
    unfold uvF
    split
    · simp
    · simp [uvF_len f (u / 128)]
theorem or128 : ∀ x : Nat, x < 256 → bits .or .u8 (x : Int) 128 = ((x % 128 + 128 : Nat) : Int) := by decide +kernel
theorem shr7 (u : Nat) : (u : Int) / ((2 ^ min 7 IntKind.u64.bits : Nat) : Int) = ((u / 128 : Nat) : Int) := by
  rw [show ((2 ^ min 7 IntKind.u64.bits : Nat) : Int) = 128 from rfl]; omega

theorem uvarint_any (u : Nat) (hu : u < 18446744073709551616) (w : World) :
    Calls Tryz.prog 75 #[.int .u64 u] w fun e w' => ∃ b, e = .returned b ∧ Bu w' b (uvB u) ∧ Below w.heap.size w w' ∧ ∀ g, b.ownBlock = some g → w.heap.size ≤ g := by
  refine enter (args := [.int .u64 u]) Tryz.func75 rfl Tryz.ntmps75 rfl ?_; have h1 : u < 2 * 128 ^ 9 := by omega
  have h2 : uvB u = [] ++ uvF (9 + 1) u := by rw [List.nil_append]; rfl
  refine K.kgo ?_; refine WC.loop (fun i : Nat × Nat × List Int × Value => [(0, .int .u64 i.2.1), (3, i.2.2.2)])
    (fun i w' => i.2.1 < 2 * 128 ^ i.1 ∧ i.1 ≤ 9 ∧ uvB u = i.2.2.1 ++ uvF (i.1 + 1) i.2.1 ∧ i.2.2.1.length ≤ 9 ∧ Bu w' i.2.2.2 i.2.2.1 ∧ Grow w (.slice none 0 0) w' i.2.2.2) (fun i => i.1) (9, u, [], .slice none 0 0) ⟨rfl, rfl, trivial⟩ ⟨h1, Nat.le_refl 9, h2, Nat.zero_le 9, Bu.nil w, Grow.refl _ _⟩ ?_
  rintro ⟨f, c, A, v⟩ wr ⟨hc, hf, hA, hl, hb, hg⟩; simp only at hc hf hA hl hb hg ⊢; have hle : (128 : Nat) ^ f ≤ 128 ^ 9 := Nat.pow_le_pow_right (by decide) hf
  by_cases h : c < 128
  · have hw : IntKind.u8.wrap (c : Int) = (c : Int) := by rw [IntKind.wrap_u8]; omega
    have hfin : uvF (f + 1) c = [(c : Int)] := by rw [uvF, if_pos h]
    refine K.kgo ?_; refine WL.push rfl rfl rfl rfl rfl rfl rfl rfl rfl rfl rfl (fun _ => rfl) rfl hb (by simp only [List.length_cons, List.length_nil]; omega) fun b2 w2 hb2 hg2 => ?_; refine K.kgo ?_; have hg3 := hg.trans hg2; refine WQ.ret1 rfl rfl ⟨b2, rfl, ?_, hg3.old (Nat.le_refl _) (fun g h => by cases h), hg3.own (Nat.le_refl _) (fun g h => by cases h)⟩; rw [hw] at hb2; rw [hA, hfin]; exact hb2
  · obtain ⟨f, rfl⟩ : ∃ f', f = f' + 1 := ⟨f - 1, by
      cases f with
      | zero => simp at hc; omega
      | succ f => rfl⟩
    have hbig : uvF (f + 1 + 1) c = ((c % 128 + 128 : Nat) : Int) :: uvF (f + 1) (c / 128) := uvF_big (by omega); have hw : bits .or .u8 (IntKind.u8.wrap (c : Int)) 128 = ((c % 128 + 128 : Nat) : Int) := by
      have := or128 (c % 256) (by omega); rw [IntKind.wrap_u8, show (c : Int) % 256 = ((c % 256 : Nat) : Int) by omega, this]; omega
    refine K.kgo ?_; refine WL.push rfl rfl rfl rfl rfl rfl rfl rfl rfl rfl rfl (fun _ => rfl) rfl hb (by simp only [List.length_cons, List.length_nil]; omega) fun b2 w2 hb2 hg2 => ?_; rw [hw] at hb2; refine K.kgo ?_; refine WQ.again (f, c / 128, A ++ [((c % 128 + 128 : Nat) : Int)], b2) ⟨congrArg (fun z => some (Value.int .u64 z)) (shr7 c), rfl, trivial⟩
      ⟨by rw [Nat.pow_succ] at hc; show c / 128 < 2 * 128 ^ f; omega, by show f ≤ 9; omega, by show uvB u = A ++ [((c % 128 + 128 : Nat) : Int)] ++ uvF (f + 1) (c / 128); rw [hA, hbig]; simp, ?_, hb2, hg.trans hg2⟩ (by show f < f + 1; omega)
    show (A ++ [((c % 128 + 128 : Nat) : Int)]).length ≤ 9
    have := congrArg List.length hA; rw [List.length_append, hbig, List.length_cons] at this; have h10 : (uvB u).length ≤ 10 := uvF_len 10 u; have h1 : 1 ≤ (uvF (f + 1) (c / 128)).length := by unfold uvF; split <;> simp
    rw [List.length_append]; simp only [List.length_cons, List.length_nil]; omega
end K
end Go.Proofs.YtpfkcfaifleliaaGreat

namespace Go.Proofs.YtpfkcfaifleliaaGreat
open Go.RowKit
namespace K
theorem nth_mem' (l : List Int) (i : Nat) (h : i < l.length) : nth l i ∈ l := by simp [nth, h]
theorem wraps_u32 (n : Int) (h0 : 0 ≤ n) (h1 : n < 2 ^ 32) : IntKind.u32.wrap n = n := by rw [IntKind.wrap_u32]; omega
theorem wraps_u64 (n : Int) (h0 : 0 ≤ n) (h1 : n < 2 ^ 64) : IntKind.u64.wrap n = n := by rw [IntKind.wrap_u64]; omega
theorem four32 (a b c d : Int) (ha : 0 ≤ a ∧ a ≤ 255) (hb : 0 ≤ b ∧ b ≤ 255) (hc : 0 ≤ c ∧ c ≤ 255) (hd : 0 ≤ d ∧ d ≤ 255) :
    bits .or .u32 (bits .or .u32 (bits .or .u32 (IntKind.u32.wrap (IntKind.u32.wrap a * ((2 ^ min 24 IntKind.u32.bits : Nat) : Int))) (IntKind.u32.wrap (IntKind.u32.wrap b * ((2 ^ min 16 IntKind.u32.bits : Nat) : Int))))
      (IntKind.u32.wrap (IntKind.u32.wrap c * ((2 ^ min 8 IntKind.u32.bits : Nat) : Int)))) (IntKind.u32.wrap d) = a * 16777216 + b * 65536 + c * 256 + d := by
  rw [show ((2 ^ min 24 IntKind.u32.bits : Nat) : Int) = 16777216 from rfl, show ((2 ^ min 16 IntKind.u32.bits : Nat) : Int) = 65536 from rfl, show ((2 ^ min 8 IntKind.u32.bits : Nat) : Int) = 256 from rfl]; rw [wraps_u32 a (by omega) (by omega), wraps_u32 b (by omega) (by omega), wraps_u32 c (by omega) (by omega), wraps_u32 d (by omega) (by omega), wraps_u32 (a * 16777216) (by omega) (by omega), wraps_u32 (b * 65536) (by omega) (by omega), wraps_u32 (c * 256) (by omega) (by omega)]; rw [bits_join .u32 32 (by decide) wraps_u32 24 (a * 16777216) (b * 65536) (by omega) (by omega) (by omega) (by omega) (by omega) (by omega)]; rw [bits_join .u32 32 (by decide) wraps_u32 16 (a * 16777216 + b * 65536) (c * 256) (by omega) (by omega) (by omega) (by omega) (by omega) (by omega)]; rw [bits_join .u32 32 (by decide) wraps_u32 8 (a * 16777216 + b * 65536 + c * 256) d (by omega) (by omega) (by omega) (by omega) (by omega) (by omega)]
theorem two64 (h l : Nat) (hh : h < 4294967296) (hl : l < 4294967296) : bits .or .u64 (IntKind.u64.wrap (IntKind.u64.wrap (h : Int) * ((2 ^ min 32 IntKind.u64.bits : Nat) : Int))) (IntKind.u64.wrap (l : Int)) = ((h * 4294967296 + l : Nat) : Int) := by
  rw [show ((2 ^ min 32 IntKind.u64.bits : Nat) : Int) = 4294967296 from rfl, wraps_u64 (h : Int) (by omega) (by omega), wraps_u64 (l : Int) (by omega) (by omega), wraps_u64 ((h : Int) * 4294967296) (by omega) (by omega)]; rw [bits_join .u64 64 (by decide) wraps_u64 32 ((h : Int) * 4294967296) (l : Int) (by omega) (by omega) (by omega) (by omega) (by omega) (by omega)]; omega
theorem num4_nth {l : List Int} (hl : 4 ≤ l.length) (hb : Frm.Byt l) : nth l 0 * 16777216 + nth l 1 * 65536 + nth l 2 * 256 + nth l 3 = ((Crc.num4 l : Nat) : Int) := by
  match l, hl, hb with
  | a :: b :: c :: d :: r, _, hb =>
    have h1 := hb a (by simp); have h2 := hb b (by simp); have h3 := hb c (by simp); have h4 := hb d (by simp)
    show a * 16777216 + b * 65536 + c * 256 + d = ((a.toNat * 16777216 + b.toNat * 65536 + c.toNat * 256 + d.toNat : Nat) : Int)
    omega
def rsV (l : List Int) : List Value := if l.length < 4 then [.int .u32 0, .int .i64 2] else [.int .u32 (Crc.num4 l : Nat), .int .i64 0]
end K
end Go.Proofs.YtpfkcfaifleliaaGreat

namespace Go.Proofs.YtpfkcfaifleliaaGreat
open Go.RowKit
namespace K
theorem xor32 (c : BitVec 32) (x : Int) : bits .xor .u32 (c.toNat : Int) x = ((c ^^^ BitVec.ofInt 32 x).toNat : Int) := by
  show IntKind.u32.wrap ((BitVec.ofInt 32 (c.toNat : Int) ^^^ BitVec.ofInt 32 x).toNat : Int) = _
  have h := (c ^^^ BitVec.ofInt 32 x).isLt; rw [BitVec.ofInt_natCast, BitVec.ofNat_toNat, BitVec.setWidth_eq, IntKind.wrap_u32]; omega
theorem and15_32 (c : BitVec 32) : bits .and .u32 (c.toNat : Int) 15 = ((c.toNat % 16 : Nat) : Int) := by
  have h := c.isLt; have := Go.bits_mask .u32 32 (by decide) (fun n h0 h1 => by rw [IntKind.wrap_u32]; omega) 4 (by decide) (c.toNat : Int) (by omega) (by omega); rw [show ((2 : Int) ^ 4 - 1) = 15 by decide, show ((2 : Int) ^ 4) = 16 by decide] at this; omega
theorem nib32 (c : BitVec 32) : bits .xor .u32 ((c.toNat : Int) / ((2 ^ min 4 IntKind.u32.bits : Nat) : Int)) ((Crc.tab.getD (c.toNat % 16) 0 : Nat) : Int) = ((Crc.nib c).toNat : Int) := by
  have h := c.isLt; have e : ((c.toNat : Int) / ((2 ^ min 4 IntKind.u32.bits : Nat) : Int)) = ((c >>> 4).toNat : Int) := by
    rw [show ((2 ^ min 4 IntKind.u32.bits : Nat) : Int) = 16 from rfl, BitVec.toNat_ushiftRight, Nat.shiftRight_eq_div_pow]; omega
  rw [e, xor32, BitVec.ofInt_natCast]
  rfl
def tabC : List Value := Crc.tab.map fun (n : Nat) => Value.int .u32 (n : Int)
theorem tab_cell {w : World} {g : Nat} {T : TypeId} (h : VBlk T w g tabC) (k : Nat) (hk : k < 16) : w.cell? ⟨g, k, none⟩ = some (.int .u32 ((Crc.tab.getD k 0 : Nat) : Int)) := by
  have hr : w.rangeAt g 0 tabC := VBlk.rangeAt h; have := hr k (.int .u32 ((Crc.tab.getD k 0 : Nat) : Int)) (by
    unfold tabC; have : k < Crc.tab.length := hk; simp [this])
  simpa using this
theorem take_succ' (l : List Int) (i : Nat) (h : i < l.length) : l.take (i + 1) = l.take i ++ [nth l i] := by rw [List.take_add_one]; simp [nth, h]
theorem sum_any {w : World} {v : Value} {l : List Int} (hv : Sl .u8 w v l) (hb : ∀ c ∈ l, 0 ≤ c ∧ c ≤ 255) (hl : l.length ≤ 140737488355328) :
    Calls Tryz.prog 81 #[v] w fun e w' => e = .returned (.int .u32 (Crc.crcN l : Nat)) ∧ Below w.heap.size w w' := by
  obtain ⟨sp, cap, rfl, -⟩ := id hv; refine enter (args := [.slice sp l.length cap]) Tryz.func81 rfl Tryz.ntmps81 rfl ?_; refine K.kgo ?_; refine WL.build tabC rfl rfl rfl rfl rfl (by kernel_rfl) ?_; refine WL.alloc (z := .agg (List.replicate 16 (Value.int .u32 0)).toArray) rfl rfl rfl rfl (fun _ => by kernel_rfl) fun g w1 hf0 => ?_; have hf : Fresh w g w1 236 (List.replicate 16 (Value.int .u32 0)) := hf0; clear hf0; refine K.kgo ?_; refine WL.storeRow rfl rfl rfl rfl rfl rfl hf.blk rfl rfl (by intro u hu; unfold tabC at hu; simp only [List.mem_map] at hu; obtain ⟨a, -, rfl⟩ := hu; rfl) ?_; have hB : Below w.heap.size w (w1.setRow g tabC.toArray) := below_setRow hf.below (by have := hf.eq; omega) _; have hT := hf.blk.setRow tabC; have hsl : Sl .u8 (w1.setRow g tabC.toArray) (.slice sp l.length cap) l := hv.of_below hB; generalize w1.setRow g tabC.toArray = w2 at hB hT hsl ⊢; clear hf hv; refine K.kgo ?_; refine WC.loop (fun i : Nat × BitVec 32 => [(3, .pointer (some ⟨g, 0, none⟩)), (4, .int .u32 (i.2.toNat : Int)), (8, .slice sp l.length cap), (9, .int .i64 l.length), (10, .int .i64 i.1)])
    (fun i w' => i.1 ≤ l.length ∧ i.2 = Crc.run 0xffffffff#32 (l.take i.1) ∧ w' = w2) (fun i => l.length - i.1) (0, 0xffffffff#32) ⟨rfl, rfl, rfl, rfl, rfl, trivial⟩ ⟨Nat.zero_le _, rfl, rfl⟩ ?_
  rintro ⟨i, c⟩ _ ⟨hi, hc, rfl⟩; simp only at hi hc ⊢
  by_cases h : i < l.length
  · have hbc := hb (nth l i) (nth_mem' l i h)
    have hu : IntKind.u32.wrap (nth l i) = nth l i := by rw [IntKind.wrap_u32]; omega
    refine K.kgo ?_; refine WL.idxI i rfl rfl rfl rfl rfl rfl hsl rfl rfl h fun p hp => ?_; refine K.kgl ?_; have e1 : bits .xor .u32 (c.toNat : Int) (IntKind.u32.wrap (nth l i)) = ((c ^^^ BitVec.ofInt 32 (nth l i)).toNat : Int) := by rw [hu]; exact xor32 c _
    have hnext : Crc.run 0xffffffff#32 (l.take (i + 1)) = Crc.nib (Crc.nib (c ^^^ BitVec.ofInt 32 (nth l i))) := by
      rw [take_succ' l i h, Crc.run_app, ← hc, ← Crc.step8_nib]; rfl
    generalize hd : c ^^^ BitVec.ofInt 32 (nth l i) = d at e1 hnext; have hd16 : d.toNat % 16 < 16 := by omega
    have hn16 : (Crc.nib d).toNat % 16 < 16 := by omega
    refine WL.as 4 (.int .u32 (d.toNat : Int)) rfl (congrArg (Value.int .u32) e1) ?_; refine WL.as 19 (.int .u32 ((d.toNat : Int) / ((2 ^ min 4 IntKind.u32.bits : Nat) : Int))) rfl (congrArg (fun z => Value.int .u32 (z / ((2 ^ min 4 IntKind.u32.bits : Nat) : Int))) e1) ?_; refine WL.as 21 (.int .u32 ((d.toNat % 16 : Nat) : Int)) rfl (by rw [e1, and15_32]) ?_; refine WL.idxA (d.toNat % 16) (d.toNat % 16) rfl rfl rfl rfl rfl rfl rfl rfl hd16 (by omega) ?_; have hcell := tab_cell hT (d.toNat % 16) hd16; refine K.kgl ?_; refine WL.as 4 (.int .u32 ((Crc.nib d).toNat : Int)) rfl (congrArg (Value.int .u32) (nib32 d)) ?_; refine WL.as 26 (.int .u32 (((Crc.nib d).toNat : Int) / ((2 ^ min 4 IntKind.u32.bits : Nat) : Int))) rfl (congrArg (fun z => Value.int .u32 (z / ((2 ^ min 4 IntKind.u32.bits : Nat) : Int))) (nib32 d)) ?_; refine WL.as 28 (.int .u32 (((Crc.nib d).toNat % 16 : Nat) : Int)) rfl (by rw [nib32, and15_32]) ?_; refine WL.idxA ((Crc.nib d).toNat % 16) ((Crc.nib d).toNat % 16) rfl rfl rfl rfl rfl rfl rfl rfl hn16 (by omega) ?_; have hcell2 := tab_cell hT ((Crc.nib d).toNat % 16) hn16; refine K.kgl ?_; refine WQ.again (i + 1, Crc.nib (Crc.nib d)) ⟨rfl, congrArg (fun z => some (Value.int .u32 z)) (nib32 (Crc.nib d)), rfl, rfl, rfl, trivial⟩ ⟨by show i + 1 ≤ l.length; omega, hnext.symm, rfl⟩ (by show l.length - (i + 1) < l.length - i; omega)
  · have hfin : bits .xor .u32 (if IntKind.u32.signed = true then -1 else IntKind.u32.max) (c.toNat : Int) = ((Crc.crcN l : Nat) : Int) := by
      rw [List.take_of_length_le (by omega)] at hc
      show bits .xor .u32 4294967295 (c.toNat : Int) = ((Crc.sum l).toNat : Int)
      have := xor32 0xffffffff#32 (c.toNat : Int); rw [show (((0xffffffff#32).toNat : Nat) : Int) = 4294967295 from rfl] at this; rw [this, BitVec.ofInt_natCast, BitVec.ofNat_toNat, BitVec.setWidth_eq]; unfold Crc.sum; rw [← hc, show (0xffffffff#32 : BitVec 32) = BitVec.allOnes 32 by decide, BitVec.allOnes_xor]
    refine K.kgo ?_; exact WQ.ret1 (v := .int .u32 (Crc.crcN l : Nat)) rfl (congrArg (fun z => some (Value.int .u32 z)) hfin) ⟨rfl, hB⟩
end K
end Go.Proofs.YtpfkcfaifleliaaGreat

namespace Go.Proofs.YtpfkcfaifleliaaGreat
namespace Frm
open Crc
def headF (n : Nat) : List Int := be4 n ++ be4 (crcN (be4 n))
def frameL (p : List Int) : List Int := headF p.length ++ (p ++ be4 (crcN (headF p.length ++ p)))
def decF (l : List Int) : Int × List Int × Nat :=
  if l.length < 8 then (2, [], 0)
  else if num4 (l.drop 4) ≠ crcN (be4 (num4 l)) then (4, [], 0)
  else if 524288 < num4 l then (5, [], 0)
  else if l.length < num4 l + 12 then (2, [], 0)
  else if num4 (l.drop (8 + num4 l)) ≠ crcN (l.take (8 + num4 l)) then (4, [], 0)
  else (0, (l.take (8 + num4 l)).drop 8, num4 l + 12)
theorem headF_len (n : Nat) : (headF n).length = 8 := rfl
theorem frameL_len (p : List Int) : (frameL p).length = p.length + 12 := by
  unfold frameL; rw [List.length_append, headF_len, List.length_append]
  show 8 + (p.length + 4) = _
  omega
theorem num4_head {n : Nat} (h : n < 4294967296) (r : List Int) : num4 (headF n ++ r) = n := by
  unfold headF; rw [List.append_assoc]; exact num4_be4 h _
theorem num4_sum (n : Nat) (r : List Int) : num4 ((headF n ++ r).drop 4) = crcN (be4 n) := by
  show num4 (be4 (crcN (be4 n)) ++ r) = _
  exact num4_be4 (crcN_lt _) r
theorem four {X : List Int} (h : X.length = 4) : ∃ a b c d, X = [a, b, c, d] := by
  match X, h with
  | [a, b, c, d], _ => exact ⟨a, b, c, d, rfl⟩
theorem decF_enc {p : List Int} (hp : p.length ≤ 524288) (r : List Int) : decF (frameL p ++ r) = (0, p, p.length + 12) := by
  have e1 : frameL p ++ r = headF p.length ++ (p ++ (be4 (crcN (headF p.length ++ p)) ++ r)) := by unfold frameL; simp [List.append_assoc]
  have hl : (frameL p ++ r).length = p.length + 12 + r.length := by rw [List.length_append, frameL_len]
  have h1 : num4 (frameL p ++ r) = p.length := by rw [e1]; exact num4_head (by omega) _
  have h2 : num4 ((frameL p ++ r).drop 4) = crcN (be4 p.length) := by rw [e1]; exact num4_sum _ _
  have e2 : frameL p ++ r = (headF p.length ++ p) ++ (be4 (crcN (headF p.length ++ p)) ++ r) := by rw [e1, List.append_assoc]
  have h8 : (headF p.length ++ p).length = 8 + p.length := by rw [List.length_append, headF_len]
  have h3 : (frameL p ++ r).take (8 + p.length) = headF p.length ++ p := by rw [e2, ← h8, List.take_left']; rfl
  have h4 : num4 ((frameL p ++ r).drop (8 + p.length)) = crcN (headF p.length ++ p) := by
    rw [e2, ← h8, List.drop_left' rfl]; exact num4_be4 (crcN_lt _) r
  unfold decF; rw [if_neg (by omega), h1, if_neg (by rw [h2]; simp), if_neg (by omega), if_neg (by omega), if_neg (by rw [h4, h3]; simp), h3]
  rfl
end Frm
end Go.Proofs.YtpfkcfaifleliaaGreat

namespace Go.Proofs.YtpfkcfaifleliaaGreat
open Go.RowKit
namespace K
def Makes (w : World) (l : List Int) : Ending → World → Prop := fun e w' => ∃ b, e = .returned b ∧ Bu w' b l ∧ Below w.heap.size w w' ∧ ∀ g, b.ownBlock = some g → w.heap.size ≤ g
theorem short_any (n : Nat) (w : World) : Calls Tryz.prog 80 #[.int .u32 (n : Int)] w (Makes w (Crc.be4 n)) := by
  refine enter (args := [.int .u32 (n : Int)]) Tryz.func80 rfl Tryz.ntmps80 rfl ?_; have h4 : [IntKind.u8.wrap ((n : Int) / ((2 ^ min 24 IntKind.u32.bits : Nat) : Int)), IntKind.u8.wrap ((n : Int) / ((2 ^ min 16 IntKind.u32.bits : Nat) : Int)), IntKind.u8.wrap ((n : Int) / ((2 ^ min 8 IntKind.u32.bits : Nat) : Int)), IntKind.u8.wrap (n : Int)] = Crc.be4 n := by
    unfold Crc.be4; rw [show ((2 ^ min 24 IntKind.u32.bits : Nat) : Int) = 16777216 from rfl, show ((2 ^ min 16 IntKind.u32.bits : Nat) : Int) = 65536 from rfl, show ((2 ^ min 8 IntKind.u32.bits : Nat) : Int) = 256 from rfl]; simp only [IntKind.wrap_u8]; simp
  refine K.kgo ?_; refine WL.lit rfl rfl rfl rfl rfl rfl rfl fun v w1 h1 h2 h3 => ?_; rw [h4] at h1; refine K.kgo ?_; exact WQ.ret1 rfl rfl ⟨v, rfl, h1, h2, h3⟩
theorem big_any (n : Nat) (w : World) : Calls Tryz.prog 78 #[.int .u64 (n : Int)] w (Makes w (Crc.be4 (n / 4294967296 % 4294967296) ++ Crc.be4 (n % 4294967296))) := by
  refine enter (args := [.int .u64 (n : Int)]) Tryz.func78 rfl Tryz.ntmps78 rfl ?_; have x1 : IntKind.u32.wrap ((n : Int) / ((2 ^ min 32 IntKind.u64.bits : Nat) : Int)) = ((n / 4294967296 % 4294967296 : Nat) : Int) := by
    rw [show ((2 ^ min 32 IntKind.u64.bits : Nat) : Int) = 4294967296 from rfl, IntKind.wrap_u32]; simp
  have x2 : IntKind.u32.wrap (n : Int) = ((n % 4294967296 : Nat) : Int) := by rw [IntKind.wrap_u32]; simp
  refine K.kgo ?_; refine WL.as 5 (.int .u32 ((n / 4294967296 % 4294967296 : Nat) : Int)) rfl (congrArg (Value.int .u32) x1) ?_; refine WL.call rfl rfl rfl rfl rfl Tryz.func80 rfl (by kernel_rfl) (short_any _ w) ?_; rintro _ w1 ⟨b1, rfl, h1, k1, o1⟩; refine ⟨_, rfl, ?_⟩; refine K.kgo ?_; refine WL.as 8 (.int .u32 ((n % 4294967296 : Nat) : Int)) rfl (congrArg (Value.int .u32) x2) ?_; refine WL.call rfl rfl rfl rfl rfl Tryz.func80 rfl (by kernel_rfl) (short_any _ w1) ?_; rintro _ w2 ⟨b2, rfl, h2, k2, o2⟩; refine ⟨_, rfl, ?_⟩; have h1' := h1.below k2; refine WL.app rfl rfl rfl rfl rfl h1' rfl h2.sl (by show 4 + 4 ≤ _; omega) fun b3 w3 h3 g3 => ?_; refine K.kgo ?_; have hw2 : Below w.heap.size w w2 := k1.trans (k2.mono k1.size); have o1' : ∀ g, b1.ownBlock = some g → w.heap.size ≤ g := o1; exact WQ.ret1 rfl rfl ⟨b3, rfl, h3, hw2.trans (g3.old hw2.size o1'), fun g hg => g3.own hw2.size o1' g hg⟩
theorem head_any (n : Nat) (hn : n < 4294967296) (w : World) : Calls Tryz.prog 79 #[.int .u32 (n : Int)] w fun e w' => e = .returned (.int .u64 ((n * 4294967296 + Crc.crcN (Crc.be4 n) : Nat) : Int)) ∧ Below w.heap.size w w' := by
  refine enter (args := [.int .u32 (n : Int)]) Tryz.func79 rfl Tryz.ntmps79 rfl ?_; have h64 := two64 n (Crc.crcN (Crc.be4 n)) hn (Crc.crcN_lt _); refine K.kgo ?_; refine WL.call rfl rfl rfl rfl rfl Tryz.func80 rfl (by kernel_rfl) (short_any _ w) ?_; rintro _ w1 ⟨b1, rfl, h1, k1, o1⟩; refine ⟨_, rfl, ?_⟩; refine WL.call rfl rfl rfl rfl rfl Tryz.func81 rfl (by kernel_rfl) (sum_any h1.sl (Crc.be4_byt n) (by show 4 ≤ _; omega)) ?_; rintro _ w2 ⟨rfl, k2⟩; refine ⟨_, rfl, ?_⟩; refine K.kgo ?_; exact WQ.ret1 rfl (congrArg (fun z => some (Value.int .u64 z)) h64) ⟨rfl, k1.trans (k2.mono k1.size)⟩
end K
end Go.Proofs.YtpfkcfaifleliaaGreat

namespace Go.Proofs.YtpfkcfaifleliaaGreat
open Go.RowKit
namespace K
section
variable {n : NN} {Q : Exit → Act → World → Prop} {l : Env} {w w' : World} {ops : Array Oper} {o : Oper} {rest : List Oper} {d : Nat}
theorem WL.nilB {x y : Operand} {t t2 e sz m c : Nat} {sp : Option Addr} (hg : o.guard = none) (hd : o.dst = some d) (hn : Nat.blt d n.n = true) (ho : o.op = .binOp .eql t x y t2) (ht : tyOf ty t = some (.slice e sz)) (hx : evl l x = some (.slice sp m c)) (hy : evl l y = some (.slice none 0 0))
    (h : WL n ops Q rest ((d, .bool sp.isNone) :: l) w) : WL n ops Q (o :: rest) l w :=
  WL.step hg hd hn (fun a ha => by
    unfold execOp; rw [ho]; obtain ⟨hu, -⟩ := TyOk.of tyOk ht; have := Lib.run_eql_slice_nil w t e sp m c 0 0 hu; have hq : (eqGuard .eql t x y (.slice sp m c) (.slice none 0 0)).run Tryz.prog w = .ok () w := by simp [eqGuard]
    simp only [ha.eval hx, ha.eval hy, Sem.run_bind, hq, Result.andThen_ok, this]
    rfl) h
end
section
variable {n : Nat} {l : Env} {w : World} {fn : Func} {R : Ending → World → Prop}
theorem WQ.ret3w {kn : Nat} {md : Option (Option Nat)} {t t2 t3 : Nat} {v v2 v3 : Value} (hr : fn.results = #[.tmp t, .tmp t2, .tmp t3]) (hl : look l t = some v) (hl2 : look l t2 = some v2) (hl3 : look l t3 = some v3) (h : R (.returned (.tuple #[v, v2, v3])) w) : WQ ⟨kn, [], md⟩ (bodyPost Tryz.prog fn R) .ret l w :=
  ⟨fun a ha => ⟨ha.defers, _, by rw [results_tmp3 hr, ha.getD hl, ha.getD hl2, ha.getD hl3], h⟩⟩
end
def FrmOut (w : World) (p : List Int) : Ending → World → Prop := fun e w' => ∃ b, e = .returned (.tuple #[b, .int .i64 (if 524288 < p.length then 5 else 0)]) ∧ Bu w' b (if 524288 < p.length then [] else Frm.frameL p) ∧ Below w.heap.size w w' ∧ ∀ g, b.ownBlock = some g → w.heap.size ≤ g
theorem fenc_any {w : World} {v : Value} {p : List Int} (hv : Sl .u8 w v p) (hp : Frm.Byt p) (hl : p.length ≤ 140737488355328) : Calls Tryz.prog 46 #[v] w (FrmOut w p) := by
  obtain ⟨sp, cap, rfl, h1, h2, -⟩ := id hv; refine enter (args := [.slice sp p.length cap]) Tryz.func46 rfl Tryz.ntmps46 rfl ?_; unfold FrmOut
  by_cases h : 524288 < p.length
  · rw [if_pos h, if_pos h]
    refine K.kgo ?_; exact WQ.ret2 rfl rfl rfl ⟨_, rfl, Bu.nil w, Below.refl _ _, fun g h => by cases h⟩
  rw [if_neg h, if_neg h]; have hw32 : IntKind.u32.wrap (p.length : Int) = (p.length : Int) := wraps_u32 _ (by omega) (by omega); refine K.kgo ?_; refine WL.as 10 (.int .u32 (p.length : Int)) rfl (congrArg (Value.int .u32) hw32) ?_; refine WL.call rfl rfl rfl rfl rfl Tryz.func79 rfl (by kernel_rfl) (head_any p.length (by omega) w) ?_; rintro _ w1 ⟨rfl, k1⟩; refine ⟨_, rfl, ?_⟩; refine WL.call rfl rfl rfl rfl rfl Tryz.func78 rfl (by kernel_rfl) (big_any _ w1) ?_; rintro _ w2 ⟨b2, rfl, q2, k2, o2⟩; refine ⟨_, rfl, ?_⟩; have hhd : Crc.be4 ((p.length * 4294967296 + Crc.crcN (Crc.be4 p.length)) / 4294967296 % 4294967296) ++ Crc.be4 ((p.length * 4294967296 + Crc.crcN (Crc.be4 p.length)) % 4294967296) = Frm.headF p.length := by
    have hc := Crc.crcN_lt (Crc.be4 p.length); rw [show (p.length * 4294967296 + Crc.crcN (Crc.be4 p.length)) / 4294967296 % 4294967296 = p.length by omega, show (p.length * 4294967296 + Crc.crcN (Crc.be4 p.length)) % 4294967296 = Crc.crcN (Crc.be4 p.length) by omega]
    rfl
  rw [hhd] at q2; have hw2 : Below w.heap.size w w2 := k1.trans (k2.mono k1.size); have o2' : ∀ g, b2.ownBlock = some g → w.heap.size ≤ g := fun g hg => Nat.le_trans k1.size (o2 g hg); refine K.kgo ?_; refine WL.app rfl rfl rfl rfl rfl q2 rfl (hv.of_below hw2) (by rw [Frm.headF_len]; omega) fun b3 w3 q3 g3 => ?_; have hw3 : Below w.heap.size w w3 := hw2.trans (g3.old hw2.size o2'); have o3 : ∀ g, b3.ownBlock = some g → w.heap.size ≤ g := fun g hg => g3.own hw2.size o2' g hg; clear g3; have hH : Frm.Byt (Frm.headF p.length ++ p) := fun c hc => (List.mem_append.1 hc).elim (fun h => by unfold Frm.headF at h; exact (List.mem_append.1 h).elim (Crc.be4_byt _ c) (Crc.be4_byt _ c)) (hp c); have hHl : (Frm.headF p.length ++ p).length = p.length + 8 := by rw [List.length_append, Frm.headF_len]; omega
  refine K.kgo ?_; refine WL.call rfl rfl rfl rfl rfl Tryz.func81 rfl (by kernel_rfl) (sum_any q3.sl hH (by omega)) ?_; rintro _ w4 ⟨rfl, k4⟩; refine ⟨_, rfl, ?_⟩; refine WL.call rfl rfl rfl rfl rfl Tryz.func80 rfl (by kernel_rfl) (short_any _ w4) ?_; rintro _ w5 ⟨b5, rfl, q5, k5, o5⟩; refine ⟨_, rfl, ?_⟩; have k45 : Below w3.heap.size w3 w5 := k4.trans (k5.mono k4.size); refine WL.app rfl rfl rfl rfl rfl (q3.below k45) rfl q5.sl (by rw [hHl]; show p.length + 8 + 4 ≤ _; omega) fun b6 w6 q6 g6 => ?_; refine K.kgo ?_; have hw5 : Below w.heap.size w w5 := hw3.trans (k45.mono hw3.size); refine WQ.ret2 rfl rfl rfl ⟨b6, rfl, ?_, hw5.trans (g6.old hw5.size o3), fun g hg => g6.own hw5.size o3 g hg⟩; have : Frm.frameL p = Frm.headF p.length ++ p ++ Crc.be4 (Crc.crcN (Frm.headF p.length ++ p)) := by unfold Frm.frameL; rw [List.append_assoc]
  rw [this]; exact q6
def FdcOut (w : World) (l : List Int) : Ending → World → Prop := fun e w' => ∃ b, e = .returned (.tuple #[b, .int .i64 ((Frm.decF l).2.2 : Nat), .int .i64 (Frm.decF l).1]) ∧ Bu w' b (Frm.decF l).2.1 ∧ Below w.heap.size w w' ∧ ∀ g, b.ownBlock = some g → w.heap.size ≤ g
theorem FdcOut.bad {w w' : World} {l : List Int} {x : Int} (h : Frm.decF l = (x, [], 0)) (hB : Below w.heap.size w w') : FdcOut w l (.returned (.tuple #[.slice none 0 0, .int .i64 0, .int .i64 x])) w' := by
  unfold FdcOut; rw [h]; exact ⟨_, rfl, Bu.nil w', hB, fun g h => by cases h⟩
end K
end Go.Proofs.YtpfkcfaifleliaaGreat

namespace Go.Proofs.YtpfkcfaifleliaaGreat
open Go.RowKit
namespace K
theorem uvF_bytw : ∀ (f u : Nat), Frm.Byt (uvF f u)
  | 0, _ => fun c h => by cases h
  | f + 1, u => by
    unfold uvF
    split
    · intro c hc; simp at hc; omega
    · intro c hc
      rcases List.mem_cons.1 hc with rfl | h
      · omega
      · exact uvF_bytw f (u / 128) c h
theorem uvB_bytw (u : Nat) : Frm.Byt (uvB u) := uvF_bytw 10 u
theorem uvB_lenw (u : Nat) : (uvB u).length ≤ 10 := uvF_len 10 u
theorem bytesI_byt (s : ByteArray) : Frm.Byt (bytesI s) := fun c hc => by
  unfold bytesI at hc; obtain ⟨x, -, rfl⟩ := List.mem_map.1 hc; have := x.toNat_lt; omega
def Adds (w : World) (b : Value) (l : List Int) : Ending → World → Prop := fun e w' => ∃ b', e = .returned b' ∧ Bu w' b' l ∧ Grow w b w' b'
theorem wcount_any {w : World} {b : Value} {l : List Int} (hb : Bu w b l) (n : Nat) (hn : n ≤ 9007199254740992) (hl : l.length ≤ 100000000) : Calls Tryz.prog 45 #[b, .int .i64 (n : Int)] w (Adds w b (l ++ uvB n)) := by
  refine enter (args := [b, .int .i64 (n : Int)]) Tryz.func45 rfl Tryz.ntmps45 rfl ?_; have hw64 : IntKind.u64.wrap (n : Int) = (n : Int) := wraps_u64 _ (by omega) (by omega); have hul := uvB_lenw n; refine K.kgo ?_; refine WL.as 7 (.int .u64 (n : Int)) rfl (congrArg (Value.int .u64) hw64) ?_; refine WL.call rfl rfl rfl rfl rfl Tryz.func75 rfl (by kernel_rfl) (uvarint_any n (by omega) w) ?_; rintro _ w1 ⟨u, rfl, h1, k1, o1⟩; refine ⟨_, rfl, ?_⟩; refine WL.app rfl rfl rfl rfl rfl (hb.below k1) rfl h1.sl (by omega) fun b2 w2 h2 g2 => ?_; refine K.kgo ?_; exact WQ.ret1 rfl rfl ⟨b2, rfl, h2, ((Grow.refl w b).below k1).trans g2⟩
def reqC (kind seq : Int) (text : ByteArray) : List Value := .int .i64 kind :: .int .i64 seq :: .slice none 0 0 :: .string text :: .slice none 0 0 :: List.replicate 32 (.int .u8 0)
end K
end Go.Proofs.YtpfkcfaifleliaaGreat

namespace Go.Proofs.YtpfkcfaifleliaaGreat
open Go.RowKit
namespace K
section
variable {n : Nat} {l : Env} {w : World} {fn : Func} {R : Ending → World → Prop}
theorem WQ.retCTw {kn : Nat} {md : Option (Option Nat)} {p q g T m : Nat} {ty' : TypeId} {cs : List Value} {x : Value} (hr : fn.results = #[.cell p ty', .tmp q]) (hl : look l p = some (.pointer (some ⟨g, 0, none⟩))) (hq : look l q = some x) (ht : cellsN (tyOf ty ty') = some m) (hm : cs.length = m) (hb : VBlk T w g cs)
    (h : R (.returned (.tuple #[.agg cs.toArray, x])) w) : WQ ⟨kn, [], md⟩ (bodyPost Tryz.prog fn R) .ret l w :=
  ⟨fun a ha => ⟨ha.defers, _, by
    obtain ⟨_, hu, hdd, hsz⟩ := cellsN_ok tyOk ht; have hp := ha.getD hl; have hx := ha.getD hq; simp only [Array.getD_eq_getD_getElem?] at hp hx; have := run_loadVar_mid (P := Tryz.prog) w g 0 ty' cs _ (VBlk.rangeAt hb) hu hdd (by rw [hsz, hm]); simp [results, hr, hp, hx, asAddr, this], h⟩⟩
end
def zReq : List Value := reqC 0 0 (ByteArray.mk #[])
end K
end Go.Proofs.YtpfkcfaifleliaaGreat

namespace Go.Proofs.YtpfkcfaifleliaaGreat
open Go.RowKit
namespace K

structure Apart (w0 w : World) (b : Value) : Prop where
  below : Below w0.heap.size w0 w
  own : ∀ g, b.ownBlock = some g → w0.heap.size ≤ g
theorem Apart.grow {w0 w w' : World} {b b' : Value} (h : Apart w0 w b) (g : Grow w b w' b') : Apart w0 w' b' := ⟨h.below.trans (g.old h.below.size h.own), g.own h.below.size h.own⟩
abbrev six (v : V) (sn sk : Value) : List Value := [.int .i64 v.k, .int .i64 v.n, .int .i64 v.s, .string v.t, sn, sk]
theorem IsV.one {f : Nat} {w : World} {v : V} {cs : List Value} (h : IsV f w v cs) : Ones cs := by
  cases f with
  | zero => exact h.elim
  | succ f =>
    obtain ⟨sn, sk, rfl, -, -, -, -, ⟨_, _, rfl, -⟩, ⟨_, _, rfl, -⟩⟩ := h; intro u hu; simp at hu
    rcases hu with rfl | rfl | rfl | rfl | rfl | rfl <;> rfl
end K
end Go.Proofs.YtpfkcfaifleliaaGreat

namespace Go.Proofs.YtpfkcfaifleliaaGreat
open Go.RowKit
namespace K
variable {n : NN} {Q : Exit → Act → World → Prop} {l : Env} {w w' : World} {ops : Array Oper} {o : Oper} {rest : List Oper} {d : Nat}

def strP (s : ByteArray) (cs : List Value) : Prop := cs = [.string s] ∧ s.size ≤ 140737488355328
def IsVo (O : Nat → Prop) : Nat → World → V → List Value → Prop
  | 0, _, _, _ => False
  | f + 1, w, v, cs => ∃ sn sk, cs = [.int .i64 v.k, .int .i64 v.n, .int .i64 v.s, .string v.t, sn, sk] ∧
      (Lit.int .i64 v.k).wf = true ∧ (Lit.int .i64 v.n).wf = true ∧ (Lit.int .i64 v.s).wf = true ∧ v.t.size ≤ 140737488355328 ∧ Els 1 noT strP O w sn v.names ∧ Els 6 noV (IsVo O f w) O w sk v.kids
theorem IsVo.keep {O O' : Nat → Prop} {K : Nat → Prop} {w w' : World} (hk : Keep K w w') (hK : ∀ b, O b → b < w.heap.size → K b) (hO : ∀ b, O b → O' b) : ∀ {f : Nat} {v : V} {cs : List Value}, IsVo O f w v cs → IsVo O' f w' v cs
  | 0, _, _, h => h
  | _ + 1, _, _, ⟨sn, sk, h1, h2, h3, h4, h5, h6, h7⟩ => ⟨sn, sk, h1, h2, h3, h4, h5, h6.keep hk hK hO fun _ _ h => h, h7.keep hk hK hO fun _ _ h => IsVo.keep hk hK hO h⟩
theorem IsVo.mono {O O' : Nat → Prop} {w : World} (hO : ∀ b, O b → O' b) {f : Nat} {v : V} {cs : List Value} (h : IsVo O f w v cs) : IsVo O' f w v cs := h.keep (Keep.refl (fun _ => True) w) (fun _ _ _ => trivial) hO
theorem Els.there {α : Type} {m : Nat} {z : α} {P P' : α → List Value → Prop} {O : Nat → Prop} {w : World} {v : Value} {l : List α} (h : Els m z P O w v l) (hP : ∀ x cs, P x cs → P' x cs) : Els m z P' (fun b => O b ∧ b < w.heap.size) w v l := by
  obtain ⟨sp, cap, h1, h2, h3, h5, h4⟩ := h; refine ⟨sp, cap, h1, h2, h3, h5, fun h0 => ?_⟩; obtain ⟨b, o, e, hlt, hOb, hr⟩ := h4 h0; refine ⟨b, o, e, hlt, ⟨hOb, hlt⟩, fun j hj => ?_⟩; obtain ⟨cs, hc, hp, hat⟩ := hr j hj; exact ⟨cs, hc, hP _ _ hp, hat⟩
theorem IsVo.there {O : Nat → Prop} {w : World} : ∀ {f : Nat} {v : V} {cs : List Value}, IsVo O f w v cs → IsVo (fun b => O b ∧ b < w.heap.size) f w v cs
  | 0, _, _, h => h
  | _ + 1, _, _, ⟨sn, sk, h1, h2, h3, h4, h5, h6, h7⟩ => ⟨sn, sk, h1, h2, h3, h4, h5, h6.there fun _ _ h => h, h7.there fun _ _ h => IsVo.there h⟩
theorem Els.strs {O : Nat → Prop} {w : World} {v : Value} {l : List ByteArray} (h : Els 1 noT strP O w v l) : Strs w v l := by
  obtain ⟨sp, cap, h1, h2, h3, -, h4⟩ := h; refine ⟨sp, cap, h1, h2, h3, fun j hj => ?_, fun h0 => ?_⟩
  · obtain ⟨b, o, -, -, -, hr⟩ := h4 (by omega)
    obtain ⟨cs, -, ⟨-, hp⟩, -⟩ := hr j hj; exact hp
  · obtain ⟨b, o, e, hb, -, hr⟩ := h4 h0
    refine ⟨b, o, e, hb, fun j hj => ?_⟩; obtain ⟨cs, -, ⟨rfl, -⟩, hat⟩ := hr j hj; have := hat 0 _ rfl; rw [Nat.mul_one] at this; exact this
theorem IsVo.isV {O : Nat → Prop} {w : World} : ∀ {f : Nat} {v : V} {cs : List Value}, IsVo O f w v cs → IsV f w v cs
  | 0, _, _, h => h
  | _ + 1, _, _, ⟨sn, sk, h1, h2, h3, h4, h5, h6, h7⟩ => ⟨sn, sk, h1, h2, h3, h4, h5, h6.strs, by
      obtain ⟨sp, cap, k1, k2, k3, -, k4⟩ := h7; refine ⟨sp, cap, k1, k2, k3, fun h0 => ?_⟩; obtain ⟨b, o, e, hb, -, hr⟩ := k4 h0; refine ⟨b, o, e, hb, fun j hj => ?_⟩; obtain ⟨cs, hc, hp, hat⟩ := hr j hj; exact ⟨cs, hc, IsVo.isV hp, hat⟩⟩
theorem IsVo.len {O : Nat → Prop} {f : Nat} {w : World} {v : V} {cs : List Value} (h : IsVo O f w v cs) : cs.length = 6 := h.isV.len
theorem IsVo.one {O : Nat → Prop} {f : Nat} {w : World} {v : V} {cs : List Value} (h : IsVo O f w v cs) : Ones cs := IsV.one h.isV

structure SlB (O : Nat → Prop) (w : World) (v : Value) (l : List Int) : Prop where
  sl : Sl .u8 w v l
  lt : 0 < l.length → ∀ b o s n c, v = .slice (some ⟨b, o, s⟩) n c → O b
theorem SlB.keep {O : Nat → Prop} {w w' : World} {v : Value} {l : List Int} (h : SlB O w v l) {K : Nat → Prop} (hk : Keep K w w') (hK : ∀ b, O b → K b) : SlB O w' v l := by
  refine ⟨?_, h.lt⟩; rcases Nat.eq_zero_or_pos l.length with h0 | h0
  · obtain ⟨sp, cap, rfl, h2, h3, h4, h5⟩ := h.sl
    exact ⟨sp, cap, rfl, h2, h3, fun h1 => absurd h1 (by omega), h5⟩
  · exact h.sl.keep hk fun b o n c e _ => hK b (h.lt h0 b o none n c e)
theorem SlB.mono {O O' : Nat → Prop} {w : World} {v : Value} {l : List Int} (h : SlB O w v l) (hO : ∀ b, O b → O' b) : SlB O' w v l := ⟨h.sl, fun h0 b o s n c e => hO b (h.lt h0 b o s n c e)⟩
theorem SlB.of_sl {w : World} {v : Value} {l : List Int} (h : Sl .u8 w v l) : SlB (fun b => b < w.heap.size) w v l :=
  ⟨h, fun h0 b o s n c e => by
    obtain ⟨sp, cap, rfl, -, -, h3, -⟩ := h; obtain ⟨b', o', rfl, hb, -⟩ := h3 h0
    injection e with e1 _ _; cases e1; exact hb⟩
theorem WL.fromB {O : Nat → Prop} {t e : Nat} {x lo : Operand} {v : Value} {kk : IntKind} {z : Int} {zs : List Int} {w0 : World} (hg : o.guard = none) (hd : o.dst = some d) (hn : Nat.blt d n.n = true) (ho : o.op = .slice t x (some lo) none none) (ht : tyOf ty t = some (.slice e 1))
    (hx : evl l x = some v) (hlo : evl l lo = some (.int kk z)) (h0 : 0 ≤ z) (h1 : z ≤ zs.length) (hs : SlB O w0 v zs) (h : ∀ v', SlB O w0 v' (zs.drop z.toNat) → WL n ops Q rest ((d, v') :: l) w) : WL n ops Q (o :: rest) l w := by
  have hs0 := hs.sl; have hlt := hs.lt; obtain ⟨sp, cap, rfl, hc, hm, hr, hn0⟩ := hs.sl; refine WL.step hg hd hn (v := sliced sp z.toNat zs.length cap 1) (fun a ha => ?_) (h _ ⟨sl_from hs0 (by omega), fun hl0 b o s m c e => ?_⟩)
  · obtain ⟨hu, hsz⟩ := TyOk.of tyOk ht
    have he : Tryz.prog.elem t = e := by simp [Program.elem, hu]
    have hu' : Tryz.prog.underlying t = some (.slice (Tryz.prog.elem t)) := by rw [he]; exact hu
    have hs : (sizeOf e).run Tryz.prog w = .ok 1 w := by
      cases hq : Tryz.prog.info? e with
      | none => rw [hq] at hsz; cases hsz
      | some q => rw [hq] at hsz; simp at hsz; simp [sizeOf, typeInfo, hq, hsz]
    unfold execOp; rw [ho]; simp [ha.eval hx, ha.eval hlo, run_sliceAt_slice w t _ _ _ _ hu', run_slice_l w t sp zs.length cap hu' kk z h0 (by omega), he, hs]
  · unfold sliced at e
    injection e with e1 _ _
    cases sp with
    | none => split at e1 <;> cases e1
    | some p =>
      obtain ⟨pb, po, ps⟩ := p; have := hlt (by rw [List.length_drop] at hl0; omega) pb po ps _ _ rfl
      split at e1
      · cases e1; exact this
      · have e2 := congrArg (fun q => q.map Addr.block) e1
        have e3 : ((⟨pb, po, ps⟩ : Addr).add (z.toNat * 1)).block = pb := by unfold Addr.add; split <;> rfl
        simp only [Option.map_some, Option.some.injEq, e3] at e2; rw [← e2]; exact this

def KeepR (rb : Nat) (w w' : World) : Prop := Keep (fun b => b < w.heap.size ∧ b ≠ rb) w w'
theorem KeepR.refl (rb : Nat) (w : World) : KeepR rb w w := Keep.refl _ _
theorem KeepR.trans {rb : Nat} {w w1 w2 : World} (h : KeepR rb w w1) (k : KeepR rb w1 w2) : KeepR rb w w2 := Keep.trans h (Keep.mono k fun _ hb => ⟨Nat.lt_of_lt_of_le hb.1 h.size, hb.2⟩)
theorem KeepR.below {rb : Nat} {w w1 : World} (h : Below w.heap.size w w1) : KeepR rb w w1 := (Keep.of_below h).mono fun _ hb => hb.1
theorem KeepR.set (rb i : Nat) (w : World) (v : Value) : KeepR rb w (w.setCell ⟨rb, i, none⟩ v) := (Keep.refl _ w).setCell (fun h => h.2 rfl) _
structure Out {α : Type} (f : List Int → Rd α) (l : List Int) (e : Int) (a : α) (l' : List Int) (e' : Int) : Prop where
  len : l'.length ≤ l.length
  bad : e ≠ 0 → e' = e
  ok : e = 0 → match f l with | .ok x r => a = x ∧ l' = r ∧ e' = 0 | .bad x => e' = x ∧ x ≠ 0
end K
end Go.Proofs.YtpfkcfaifleliaaGreat

namespace Go.Proofs.YtpfkcfaifleliaaGreat
namespace K
theorem range_piece (g : Nat → List Int) (i : Nat) : (List.range (i + 1)).flatMap g = (List.range i).flatMap g ++ g i := by
  rw [List.range_succ, List.flatMap_append]; simp
theorem range_len_le (g : Nat → List Int) {i n : Nat} (h : i ≤ n) : ((List.range i).flatMap g).length ≤ ((List.range n).flatMap g).length := by
  induction n with
  | zero => obtain rfl : i = 0 := by omega
            exact Nat.le_refl _
  | succ n ih =>
    rcases Nat.lt_or_ge n i with h' | h'
    · obtain rfl : i = n + 1 := by omega
      exact Nat.le_refl _
    · rw [range_piece, List.length_append]; have := ih h'; omega
theorem shp_form {v : V} (h : shp v = 0) : (1 ≤ v.k ∧ v.k ≤ 9) ∧ (v.k = 2 → 0 ≤ v.n ∧ v.n ≤ 1) ∧ (v.k = 3 → v.s = 0) ∧ (v.k = 4 → 1 ≤ v.s ∧ v.s ≤ 18 ∧ ¬ v.n.tmod 10 = 0) ∧ (v.k = 5 → 0 ≤ v.n ∧ v.n ≤ 9007199254740992) ∧
    v.kids.length ≤ 200 ∧ v.t.size ≤ 16384 ∧ (v.k = 9 → v.names.length = v.kids.length ∧ ∀ s ∈ v.names, s.size ≤ 40) := by
  unfold shp at h
  by_cases h1 : formB v = false
  · rw [if_pos h1] at h; cases h
  rw [if_neg h1] at h
  by_cases h2 : 16384 < v.t.size ∨ 200 < v.kids.length
  · rw [if_pos h2] at h; cases h
  rw [if_neg h2] at h
  by_cases h3 : v.k = 9 ∧ fieldsB v = false
  · rw [if_pos h3] at h; cases h
  have hf : formB v = true := by simpa using h1
  clear h h1; refine ⟨?_, ?_, ?_, ?_, ?_, by omega, by omega, ?_⟩
  · unfold formB at hf
    by_cases a1 : v.k = 1
    · omega
    by_cases a2 : v.k = 2
    · omega
    by_cases a3 : v.k = 3
    · omega
    by_cases a4 : v.k = 4
    · omega
    by_cases a5 : v.k = 5
    · omega
    by_cases a6 : v.k = 6 ∨ v.k = 7
    · omega
    by_cases a8 : v.k = 8
    · omega
    by_cases a9 : v.k = 9
    · omega
    rw [if_neg a1, if_neg a2, if_neg a3, if_neg a4, if_neg a5, if_neg a6, if_neg a8, if_neg a9] at hf; cases hf
  · intro e; unfold formB at hf; simp [e] at hf; omega
  · intro e; unfold formB at hf; simp [e] at hf; omega
  · intro e; unfold formB at hf; simp [e] at hf; exact ⟨hf.1.1.1.1, hf.1.1.1.2, hf.1.1.2⟩
  · intro e; unfold formB at hf; simp [e] at hf; omega
  · intro e
    have h4 : fieldsB v = true := by
      cases hb : fieldsB v with
      | true => rfl
      | false => exact (h3 ⟨e, hb⟩).elim
    unfold fieldsB at h4; simp only [Bool.and_eq_true, List.all_eq_true, decide_eq_true_eq] at h4; refine ⟨h4.2, fun s hs => ?_⟩; have := h4.1.1 s hs; unfold isNameB at this; simp at this
    omega
end K
end Go.Proofs.YtpfkcfaifleliaaGreat

namespace Go.Proofs.YtpfkcfaifleliaaGreat
open Go.RowKit
namespace K

theorem xor_ones (x : Nat) (h : x < 18446744073709551616) : x ^^^ 18446744073709551615 = 18446744073709551615 - x := by
  have e := congrArg BitVec.toNat (BitVec.xor_allOnes (x := BitVec.ofNat 64 x)); rw [BitVec.toNat_xor, BitVec.toNat_not, BitVec.toNat_ofNat, BitVec.toNat_allOnes, Nat.mod_eq_of_lt (by omega)] at e
  simpa using e
theorem zig_xor (v : Int) (h : -9223372036854775808 ≤ v ∧ v ≤ 9223372036854775807) :
    bits .xor .u64 (IntKind.u64.wrap (IntKind.i64.wrap (v * ((2 ^ min 1 IntKind.i64.bits : Nat) : Int)))) (IntKind.u64.wrap (v / ((2 ^ min 63 IntKind.i64.bits : Nat) : Int))) = zig v := by
  rw [show ((2 ^ min 1 IntKind.i64.bits : Nat) : Int) = 2 from rfl, show ((2 ^ min 63 IntKind.i64.bits : Nat) : Int) = 9223372036854775808 from rfl]; unfold zig
  by_cases hv : 0 ≤ v
  · rw [if_pos hv, show v / 9223372036854775808 = 0 by omega, show IntKind.u64.wrap 0 = ((0 : Nat) : Int) by rw [IntKind.wrap_u64]; omega,
      show IntKind.u64.wrap (IntKind.i64.wrap (v * 2)) = (((2 * v).toNat : Nat) : Int) by rw [IntKind.wrap_u64, IntKind.wrap_i64]; omega, bits_xor_u64_nat _ _ (by omega) (by omega), Nat.xor_zero]
  · rw [if_neg hv, show v / 9223372036854775808 = -1 by omega, show IntKind.u64.wrap (-1) = ((18446744073709551615 : Nat) : Int) by rw [IntKind.wrap_u64]; omega,
      show IntKind.u64.wrap (IntKind.i64.wrap (v * 2)) = (((2 * v + 18446744073709551616).toNat : Nat) : Int) by rw [IntKind.wrap_u64, IntKind.wrap_i64]; omega, bits_xor_u64_nat _ _ (by omega) (by omega), xor_ones _ (by omega)]
    omega
theorem zig_any (v : Int) (h : -9223372036854775808 ≤ v ∧ v ≤ 9223372036854775807) (w : World) : Calls Tryz.prog 76 #[.int .i64 v] w fun e w' => e = .returned (.int .u64 (zig v : Nat)) ∧ w' = w := by
  refine enter (args := [.int .i64 v]) Tryz.func76 rfl Tryz.ntmps76 rfl ?_; have hz := zig_xor v h; generalize (zig v : Nat) = z at hz ⊢; refine K.kgn ?_; refine WL.pure rfl rfl rfl rfl ?_; refine K.kgn ?_; refine WL.pure rfl rfl rfl rfl ?_; refine WL.pure rfl rfl rfl rfl ?_; refine WL.pure rfl rfl rfl rfl ?_; refine WL.pure rfl rfl rfl rfl ?_; refine WL.pure rfl rfl rfl rfl ?_; refine WL.pure rfl rfl rfl rfl ?_; refine WL.pure rfl rfl rfl rfl ?_; refine WL.pure rfl rfl rfl rfl ?_; refine K.kgn ?_; exact WQ.ret1 rfl rfl ⟨congrArg (fun z => Ending.returned (Value.int .u64 z)) hz, rfl⟩

theorem lay1_any {w : World} {bb u : Nat} {v : Value} {l : List Int} (hu : u < 18446744073709551616) (hb : Bx bb w v l) (hl : l.length ≤ 70368744177664) :
    Calls Tryz.prog 145 #[.int .u64 u, .pointer (some ⟨bb, 0, none⟩)] w fun e w' => e = .returned (.tuple #[]) ∧ ∃ v', Bx bb w' v' (l ++ uvB u) ∧ GrowB bb w v w' v' := by
  refine enter (args := [.int .u64 u, .pointer (some ⟨bb, 0, none⟩)]) Tryz.func145 rfl Tryz.ntmps145 rfl ?_; refine K.kgo ?_; refine WC.drawn 4 (fun wx => VBlk 47 wx bb [v]) fun w2 hd2 => ?_; have hb2 : Bx bb w2 v l := hb.below (hd2.below _); have hS : VBlk 47 w2 bb [v] := hb2.blk; have hgd : GrowB bb w v w2 v := (GrowB.refl bb w v).below (hd2.below _); have hul : (uvB u).length ≤ 10 := uvF_len 10 u; refine K.wl 0 [3, 4] rfl rfl rfl rfl rfl rfl rfl (fun wx hx => hx.cell 0 (by simp)) hS ?_; refine K.fr [1] hS ?_; refine K.wo 2 ?_; refine WL.call rfl rfl rfl rfl rfl Tryz.func75 rfl (by kernel_rfl) (uvarint_any u hu w2) ?_; rintro e w3 ⟨b3, rfl, hb3, k3, g3⟩; refine ⟨_, rfl, ?_⟩; have hbx3 : Bx bb w3 v l := hb2.below k3; refine WL.nil (WQ.dk (.inr hbx3.blk) ?_); refine K.wo 3 ?_; refine WL.app rfl rfl rfl rfl rfl hbx3.bu rfl hb3.sl (by omega) fun b4 w4 hb4 hg4 => ?_; obtain ⟨hblk, hbx, hgb⟩ := hbx3.put hb4 hg4; refine K.di hblk ?_; refine K.wo 4 ?_; refine WL.store rfl rfl rfl rfl rfl hb4.cell1 (by kernel_rfl) (hblk.cell 0 (by simp)) (hblk.free 0) ?_; refine K.dl ?_; refine WD.done (by kernel_rfl) ?_; exact WQ.end0 rfl ⟨rfl, b4, hbx, (hgd.below k3).trans hgb⟩
end K
end Go.Proofs.YtpfkcfaifleliaaGreat

namespace Go.Proofs.YtpfkcfaifleliaaGreat
open Go.RowKit
namespace K
section
variable {n : Nat} {l : Env} {w : World} {fn : Func} {R : Ending → World → Prop}
theorem WQ.ret3 {kn : Nat} {md : Option (Option Nat)} {t t2 t3 : Nat} {v v2 v3 : Value} (hr : fn.results = #[.tmp t, .tmp t2, .tmp t3]) (hl : look l t = some v) (hl2 : look l t2 = some v2) (hl3 : look l t3 = some v3) (h : R (.returned (.tuple #[v, v2, v3])) w) : WQ ⟨kn, [], md⟩ (bodyPost Tryz.prog fn R) .ret l w :=
  ⟨fun a ha => ⟨ha.defers, _, by rw [results_tmp3 hr, ha.getD hl, ha.getD hl2, ha.getD hl3], h⟩⟩
end

theorem and127b : ∀ x : Nat, x < 256 → bits .and .u8 (x : Int) 127 = ((x % 128 : Nat) : Int) := by decide +kernel
theorem or_shl (a c i : Nat) (ha : a < 128 ^ i) (h : c * 128 ^ i < 18446744073709551616) (h2 : a < 18446744073709551616) : bits .or .u64 (a : Int) ((c * 128 ^ i : Nat) : Int) = ((a + 128 ^ i * c : Nat) : Int) := by
  rw [bits_or_u64_nat _ _ h2 h, Nat.or_comm, Nat.mul_comm c]; rw [show 128 ^ i = 2 ^ (7 * i) by rw [Nat.pow_mul]] at ha ⊢; rw [← Nat.two_pow_add_eq_or_of_lt ha, Nat.add_comm]
def ruV (l : List Int) : List Value := match rdU l with
  | .ok u r => [.int .u64 (u : Nat), .int .i64 ((l.length - r.length : Nat) : Int), .int .i64 0]
  | .bad e => [.int .u64 0, .int .i64 0, .int .i64 e]
theorem rdUF_bad : ∀ (f : Nat) (st : Bool) (l : List Int) (e : Int), rdUF f st l = .bad e → e = 2 ∨ e = 3
  | 0, _, _, e, h => by cases h; exact .inr rfl
  | f + 1, st, [], e, h => by cases h; exact .inl rfl
  | f + 1, st, c :: t, e, h => by
    unfold rdUF at h
    split at h
    · cases h; exact .inr rfl
    split at h
    · cases h
    cases hr : rdUF f true t with
    | ok v r => rw [hr] at h; cases h
    | bad x => rw [hr] at h; cases h; exact rdUF_bad f true t _ hr

end K
end Go.Proofs.YtpfkcfaifleliaaGreat

namespace Go.Proofs.YtpfkcfaifleliaaGreat
open Go.RowKit
namespace K
variable {B rb : Nat} {w : World} {l : List Int} {e : Int}

theorem Out.ofBad {α : Type} {f : List Int → Rd α} {a : α} (he : ¬ e = 0) : Out f l e a l e := ⟨Nat.le_refl _, fun _ => rfl, fun h => absurd h he⟩

theorem strOfNums_mk (zs : List Int) : strOfNums zs = ⟨(zs.map fun c => UInt8.ofNat c.toNat).toArray⟩ := rfl
end K
end Go.Proofs.YtpfkcfaifleliaaGreat

namespace Go.Proofs.YtpfkcfaifleliaaGreat
open Go.RowKit
namespace K
theorem Keep.setRow {K : Nat → Prop} {a w : World} (h : Keep K a w) {g : Nat} (hg : ¬ K g) (cs : Array Value) : Keep K a (w.setRow g cs) :=
  ⟨h.os, h.tape, h.output, by simpa using h.size, fun k hk => (setRow_other w g k cs (fun e => hg (e ▸ hk))).trans (h.block k hk)⟩

theorem wf_i64 {x : Int} (h : -9223372036854775808 ≤ x ∧ x ≤ 9223372036854775807) : (Lit.int .i64 x).wf = true := by
  simp [Lit.wf, IntKind.min, IntKind.max, IntKind.bits, IntKind.signed]; omega
theorem isVo_leaf {O : Nat → Prop} {f : Nat} {w : World} {k n s : Int} {t : ByteArray} (hk : 0 ≤ k ∧ k ≤ 255) (hn : -9223372036854775808 ≤ n ∧ n ≤ 9223372036854775807) (hs : 0 ≤ s ∧ s ≤ 255) (ht : t.size ≤ 140737488355328) :
    IsVo O (f + 1) w (.mk k n s t [] []) [.int .i64 k, .int .i64 n, .int .i64 s, .string t, .slice none 0 0, .slice none 0 0] :=
  ⟨_, _, rfl, wf_i64 (by show -9223372036854775808 ≤ k ∧ k ≤ _; omega), wf_i64 hn, wf_i64 (by show -9223372036854775808 ≤ s ∧ s ≤ _; omega), ht, Els.nil _ _ _ _ _, Els.nil _ _ _ _ _⟩

structure KidsW (rb vb f : Nat) (k : Int) (w0 w : World) (ns : List ByteArray) (ks : List V) (sn sk : Value) (q : Nat → Prop) : Prop where
  blk : VBlk 82 w vb [.int .i64 k, .int .i64 0, .int .i64 0, .string ByteArray.empty, sn, sk]
  names : OwnE 9 1 noT strP (fun b => w0.heap.size ≤ b ∧ b ≠ vb) w sn ns
  kids : OwnE 82 6 noV (IsVo q f w) (fun b => w0.heap.size ≤ b ∧ b ≠ vb) w sk ks
  apart : ∀ g, sn.ownBlock = some g → sk.ownBlock ≠ some g
  qs : ∀ b, q b → w0.heap.size ≤ b ∧ b < w.heap.size ∧ b ≠ vb ∧ sn.ownBlock ≠ some b ∧ sk.ownBlock ≠ some b
  keep : KeepR rb w0 w
  vbe : vb = w0.heap.size
  rlt : rb < w0.heap.size
section
variable {rb vb f : Nat} {k : Int} {w0 w w' : World} {ns : List ByteArray} {ks : List V} {sn sk sn' sk' : Value} {q : Nat → Prop}
theorem KidsW.read (h : KidsW rb vb f k w0 w ns ks sn sk q) (hk : KeepR rb w w') : KidsW rb vb f k w0 w' ns ks sn sk q := by
  have hr := h.rlt; refine ⟨h.blk.keep hk ⟨h.blk.lt, by have := h.vbe; omega⟩, h.names.keep hk (fun g hg => ⟨h.names.lt hg, fun e => by have := (h.names.own hg).1; omega⟩) (fun _ h => h) fun _ _ h => h,
    h.kids.keep hk (fun g hg => ⟨h.kids.lt hg, fun e => by have := (h.kids.own hg).1; omega⟩) (fun _ h => h) fun x cs hx => hx.keep hk (fun b hb _ => ⟨(h.qs b hb).2.1, fun e => by have := (h.qs b hb).1; omega⟩) fun _ h => h,
    h.apart, fun b hb => ?_, h.keep.trans hk, h.vbe, h.rlt⟩
  obtain ⟨h1, h2, h3⟩ := h.qs b hb; exact ⟨h1, Nat.lt_of_lt_of_le h2 hk.size, h3⟩
theorem KidsW.below (h : KidsW rb vb f k w0 w ns ks sn sk q) (hk : Below w.heap.size w w') : KidsW rb vb f k w0 w' ns ks sn sk q := h.read (KeepR.below hk)
theorem KidsW.widen (h : KidsW rb vb f k w0 w ns ks sn sk q) {S : Nat} (hS : w0.heap.size ≤ S) (h1 : vb < S) (h2 : ∀ g, sn.ownBlock = some g → g < S) (h3 : ∀ g, sk.ownBlock = some g → g < S) : KidsW rb vb f k w0 w ns ks sn sk (fun b => q b ∨ (S ≤ b ∧ b < w.heap.size)) := by
  refine ⟨h.blk, h.names, h.kids.keep (Keep.refl (fun _ => True) w) (fun _ _ => trivial) (fun _ h => h) fun x cs hx => hx.mono fun b hb => .inl hb, h.apart, fun b hb => ?_, h.keep, h.vbe, h.rlt⟩; rcases hb with hb | ⟨hb1, hb2⟩
  · exact h.qs b hb
  · exact ⟨by omega, hb2, by omega, fun e => by have := h2 b e; omega, fun e => by have := h3 b e; omega⟩
theorem KidsW.setN (h : KidsW rb vb f k w0 w ns ks sn sk q) {s : ByteArray} (ho : OwnE 9 1 noT strP (fun b => (w0.heap.size ≤ b ∧ b ≠ vb) ∨ b = w.heap.size) w' sn' (ns ++ [s])) (hg : Grow w sn w' sn') :
    VBlk 82 w' vb [.int .i64 k, .int .i64 0, .int .i64 0, .string ByteArray.empty, sn, sk] ∧ KidsW rb vb f k w0 (w'.setCell ⟨vb, 4, none⟩ sn') (ns ++ [s]) ks sn' sk q := by
  have hvo : sn.ownBlock ≠ some vb := fun e => (h.names.own e).2 rfl; have hvb := h.blk.lt; have hblk : VBlk 82 w' vb [.int .i64 k, .int .i64 0, .int .i64 0, .string ByteArray.empty, sn, sk] := h.blk.keep hg.1 ⟨hvb, hvo⟩; have hsz := h.keep.size; have hO : ∀ b, (w0.heap.size ≤ b ∧ b ≠ vb) ∨ b = w.heap.size → w0.heap.size ≤ b ∧ b ≠ vb := fun b hb => hb.elim id fun e => by omega
  have hset : Keep (fun b => b ≠ vb) w' (w'.setCell ⟨vb, 4, none⟩ sn') := (Keep.refl _ w').setCell (fun hk => hk rfl) _; refine ⟨hblk, hblk.set 4 sn', ho.keep hset (fun g hg2 => (hO g (ho.own hg2)).2) hO fun _ _ h => h,
    (h.kids.keep hg.1 (fun g hg2 => ⟨h.kids.lt hg2, fun e => h.apart g e hg2⟩) (fun _ h => h) fun x cs hx => hx.keep hg.1 (fun b hb _ => ⟨(h.qs b hb).2.1, (h.qs b hb).2.2.2.1⟩) fun _ h => h).keep hset (fun g hg2 => (h.kids.own hg2).2) (fun _ h => h) fun x cs hx => hx.keep hset (fun b hb _ => (h.qs b hb).2.2.1) fun _ h => h,
    fun g hg2 e => (hg.2 g hg2).elim (fun h2 => h.apart g h2 e) fun h2 => by have := h.kids.lt e; omega, fun b hb => ?_, ?_, h.vbe, h.rlt⟩
  · obtain ⟨h1, h2, h3, h4, h5⟩ := h.qs b hb
    exact ⟨h1, Nat.lt_of_lt_of_le h2 (Nat.le_trans hg.1.size hset.size), h3, fun e => (hg.2 b e).elim h4 fun h6 => by omega, h5⟩
  · have hvb2 := h.vbe
    exact (Keep.trans h.keep ((Keep.mono hg.1 fun b hb => ⟨Nat.lt_of_lt_of_le hb.1 hsz, fun e => by have := (h.names.own e).1; omega⟩))).setCell (p := ⟨vb, 4, none⟩) (fun hk => by have := hk.1; simp only at this; omega) _
theorem KidsW.setK (h : KidsW rb vb f k w0 w ns ks sn sk q) {v : V} (ho : OwnE 82 6 noV (IsVo q f w) (fun b => (w0.heap.size ≤ b ∧ b ≠ vb) ∨ b = w.heap.size) w' sk' (ks ++ [v])) (hg : Grow w sk w' sk') :
    VBlk 82 w' vb [.int .i64 k, .int .i64 0, .int .i64 0, .string ByteArray.empty, sn, sk] ∧ KidsW rb vb f k w0 (w'.setCell ⟨vb, 5, none⟩ sk') ns (ks ++ [v]) sn sk' q := by
  have hvo : sk.ownBlock ≠ some vb := fun e => (h.kids.own e).2 rfl; have hvb := h.blk.lt; have hblk : VBlk 82 w' vb [.int .i64 k, .int .i64 0, .int .i64 0, .string ByteArray.empty, sn, sk] := h.blk.keep hg.1 ⟨hvb, hvo⟩; have hsz := h.keep.size; have hO : ∀ b, (w0.heap.size ≤ b ∧ b ≠ vb) ∨ b = w.heap.size → w0.heap.size ≤ b ∧ b ≠ vb := fun b hb => hb.elim id fun e => by omega
  have hset : Keep (fun b => b ≠ vb) w' (w'.setCell ⟨vb, 5, none⟩ sk') := (Keep.refl _ w').setCell (fun hk => hk rfl) _; have hP : ∀ x cs, IsVo q f w x cs → IsVo q f (w'.setCell ⟨vb, 5, none⟩ sk') x cs := fun x cs hx =>
    (hx.keep (O' := q) hg.1 (fun b hb _ => ⟨(h.qs b hb).2.1, (h.qs b hb).2.2.2.2⟩) fun _ h => h).keep hset (fun b hb _ => (h.qs b hb).2.2.1) fun _ h => h
  refine ⟨hblk, hblk.set 5 sk', (h.names.keep hg.1 (fun g hg2 => ⟨h.names.lt hg2, fun e => h.apart g hg2 e⟩) (fun _ h => h) fun _ _ h => h).keep hset (fun g hg2 => (h.names.own hg2).2) (fun _ h => h) fun _ _ h => h,
    ho.keep hset (fun g hg2 => (hO g (ho.own hg2)).2) hO hP, fun g hg2 e => (hg.2 g e).elim (fun h2 => h.apart g hg2 h2) fun h2 => by have := h.names.lt hg2; omega, fun b hb => ?_, ?_, h.vbe, h.rlt⟩
  · obtain ⟨h1, h2, h3, h4, h5⟩ := h.qs b hb
    exact ⟨h1, Nat.lt_of_lt_of_le h2 (Nat.le_trans hg.1.size hset.size), h3, h4, fun e => (hg.2 b e).elim h5 fun h6 => by omega⟩
  · have hvb2 := h.vbe
    exact (Keep.trans h.keep ((Keep.mono hg.1 fun b hb => ⟨Nat.lt_of_lt_of_le hb.1 hsz, fun e => by have := (h.kids.own e).1; omega⟩))).setCell (p := ⟨vb, 5, none⟩) (fun hk => by have := hk.1; simp only at this; omega) _
end
theorem elemV6 : ElemV Tryz.prog 46 82 6 88 := ElemV.mk' (z := .agg #[.int .i64 0, .int .i64 0, .int .i64 0, .string ByteArray.empty, .slice none 0 0, .slice none 0 0]) Tryz.underlying46 (by kernel_rfl) rfl (by omega)
theorem elemS1 : ElemV Tryz.prog 80 9 1 16 := ElemV.mk' (z := .string ByteArray.empty) Tryz.underlying80 (by kernel_rfl) rfl (by omega)

section
variable {n : Nat} {l : Env} {w : World} {fn : Func} {R : Ending → World → Prop}
theorem WQ.retCT {kn : Nat} {md : Option (Option Nat)} {p q g T m : Nat} {ty' : TypeId} {cs : List Value} {x : Value} (hr : fn.results = #[.cell p ty', .tmp q]) (hl : look l p = some (.pointer (some ⟨g, 0, none⟩))) (hq : look l q = some x) (ht : cellsN (tyOf ty ty') = some m) (hm : cs.length = m) (hb : VBlk T w g cs)
    (h : R (.returned (.tuple #[.agg cs.toArray, x])) w) : WQ ⟨kn, [], md⟩ (bodyPost Tryz.prog fn R) .ret l w :=
  ⟨fun a ha => ⟨ha.defers, _, by
    obtain ⟨_, hu, hdd, hsz⟩ := cellsN_ok tyOk ht; have hp := ha.getD hl; have hx := ha.getD hq; simp only [Array.getD_eq_getD_getElem?] at hp hx; have := run_loadVar_mid (P := Tryz.prog) w g 0 ty' cs _ (VBlk.rangeAt hb) hu hdd (by rw [hsz, hm]); simp [results, hr, hp, hx, asAddr, this], h⟩⟩
end
section
variable {n : NN} {Q : Exit → Act → World → Prop} {l : Env} {w : World} {ops : Array Oper} {d : Nat} {S : World → Prop} {m fuel : Nat} {listed : Array Bool}
theorem WD.build {oi : Oper} {t : Nat} {parts : List (Nat × Operand)} {ps : List (Nat × Value)} (cells : List Value) (i : Nat) (hi : ops[i]? = some oi) (hs : mayB ops listed i m = true) (hd : oi.dst = some d) (hn : Nat.blt d n.n = true)
    (hQ : Passes Q) (hw : wants ops l oi = some true) (ho : oi.op = .build t parts.toArray) (hp : evlParts l parts = some ps) (hf : Tryz.prog.built t ps = some cells.toArray) (hS : listed.getD m false = true ∨ S w)
    (h : WD n ops Q S m fuel (listed.setIfInBounds i true) ((d, .agg cells.toArray) :: l) w) : WD n ops Q S m (fuel + 1) listed l w :=
  WD.first i hi hs hd hn hQ (fun a ha => .inl ⟨wants_run ha hw, fun w _ => by
    unfold execOp; rw [ho]; have := run_build (P := Tryz.prog) w t (parts.toArray.map fun (i, x) => (i, a.eval x)) cells.toArray (by
      rw [show (parts.toArray.map fun (x : Nat × Operand) => (x.1, a.eval x.2)).toList = ps by rw [Array.toList_map]; exact evlParts_map ha hp]; exact hf)
    simp only [Sem.run_bind, this, Result.andThen_ok]
    rfl⟩) hS h
end

def zV : V := .mk 0 0 0 noT [] []
def zCells : List Value := [.int .i64 0, .int .i64 0, .int .i64 0, .string ByteArray.empty, .slice none 0 0, .slice none 0 0]
theorem zV_is (O : Nat → Prop) (f : Nat) (w : World) : IsVo O (f + 1) w zV zCells := isVo_leaf (k := 0) (n := 0) (s := 0) (t := noT) (by omega) (by omega) (by omega) (by decide)
end K
end Go.Proofs.YtpfkcfaifleliaaGreat

namespace Go.Proofs.YtpfkcfaifleliaaGreat
open Go.RowKit
namespace K

section
variable {α β : Type} {l l1 l2 : List Int} {e e1 e2 : Int}
theorem Out.bind {f : List Int → Rd α} {g : α → List Int → Rd β} {a : α} {b : β} (h1 : Out f l e a l1 e1) (h2 : Out (g a) l1 e1 b l2 e2) : Out (fun l => (f l).bind g) l e b l2 e2 := by
  refine ⟨Nat.le_trans h2.len h1.len, fun h => ?_, fun h => ?_⟩
  · have := h1.bad h
    rw [h2.bad (by rw [this]; exact h), this]
  · have h3 := h1.ok h
    cases hq : f l with
    | bad x =>
      rw [hq] at h3; obtain ⟨rfl, hx⟩ := h3; simp only [Rd.bind]; exact ⟨h2.bad hx, hx⟩
    | ok x r =>
      rw [hq] at h3; obtain ⟨rfl, rfl, rfl⟩ := h3; have h4 := h2.ok rfl; simp only [Rd.bind]; exact h4
theorem Out.stop {f : List Int → Rd α} {g : α → List Int → Rd β} {a : α} {b : β} (h1 : Out f l e a l1 e1) (hne : ¬ e1 = 0) (hl : l2.length ≤ l1.length) : Out (fun l => (f l).bind g) l e b l2 e1 := by
  refine ⟨Nat.le_trans hl h1.len, h1.bad, fun h => ?_⟩; have h3 := h1.ok h; cases hq : f l with
  | bad x =>
    rw [hq] at h3; simp only [Rd.bind]; exact h3
  | ok x r => rw [hq] at h3; exact absurd h3.2.2 hne
theorem Out.pure (a : α) : Out (fun l => .ok a l) l e a l e := ⟨Nat.le_refl _, fun _ => rfl, fun h => ⟨rfl, rfl, h⟩⟩
theorem Out.fail {a : α} (x : Int) (hx : x ≠ 0) : Out (fun _ => .bad x) l e a l (if e = 0 then x else e) := ⟨Nat.le_refl _, fun h => if_neg h, fun h => ⟨if_pos h, hx⟩⟩
theorem Out.congr {f g : List Int → Rd α} {a : α} (h : Out f l e a l1 e1) (hfg : f l = g l) : Out g l e a l1 e1 := ⟨h.len, h.bad, fun h0 => by have := h.ok h0; rw [hfg] at this; exact this⟩
end

def GV (m : Nat) (k : Int) (r : List Int) : Rd V :=
  if k = 1 then .ok (.mk 1 0 0 noT [] []) r
  else if k = 2 then (rdB r).bind fun c r => if 1 < c then .bad 3 else .ok (.mk 2 c 0 noT [] []) r
  else if k = 3 then (rdU r).bind fun u r => .ok (.mk 3 (zag u) 0 noT [] []) r
  else if k = 4 then (rdU r).bind fun u r => (rdB r).bind fun s r => .ok (.mk 4 (zag u) s noT [] []) r
  else if k = 5 then (rdU r).bind fun u r => .ok (.mk 5 (IntKind.i64.wrap (u : Int)) 0 noT [] []) r
  else if k = 6 ∨ k = 7 then (rdT r).bind fun t r => .ok (.mk k 0 0 t [] []) r
  else if k = 8 ∨ k = 9 then (rdC r).bind fun n r => (rdK (rdV m) (decide (k = 9)) n [] [] r).bind fun p r => .ok (.mk k 0 0 noT p.1 p.2) r
  else .bad 3
theorem rdV_GV (m : Nat) : rdV (m + 1) = fun l => (rdB l).bind (GV m) := rfl

end K
end Go.Proofs.YtpfkcfaifleliaaGreat

namespace Go.Proofs.YtpfkcfaifleliaaGreat
open Go.RowKit
namespace K
theorem zag_range {u : Nat} (h : u < 18446744073709551616) : -9223372036854775808 ≤ zag u ∧ zag u ≤ 9223372036854775807 := by unfold zag; split <;> omega
theorem Out.gv {m : Nat} {l l1 l2 : List Int} {e e1 e2 c : Int} {v : V} (h1 : Out rdB l e c l1 e1) (h2 : Out (GV m c) l1 e1 v l2 e2) : Out (rdV (m + 1)) l e v l2 e2 := by rw [rdV_GV]; exact h1.bind h2

end K
end Go.Proofs.YtpfkcfaifleliaaGreat

namespace Go.Proofs.YtpfkcfaifleliaaGreat
open Go.RowKit
namespace Vl

set_option maxHeartbeats 400000 in
theorem isName_any (s : ByteArray) (w : World) : Calls Tryz.prog 196 #[.string s] w fun e w' => e = .returned (.bool (isNameB s)) ∧ w = w' := by
  by_cases h1 : 1 ≤ s.size
  · have h1' : (1 : Int) ≤ s.size := by omega
    go_enter Tryz.func196, Tryz.ntmps196
    go_wp2
    go_ret
    exact ⟨by simp [isNameB, h1]; omega, rfl⟩
  · have h1' : decide ((1 : Int) ≤ s.size) = false := decide_eq_false (by omega)
    go_enter Tryz.func196, Tryz.ntmps196
    go_wp2
    go_ret
    exact ⟨by simp [isNameB, h1], rfl⟩

theorem leq_not : ∀ (a p : List UInt8), (Op.bytesLess a p || a == p) = !Op.bytesLess p a
  | [], [] => rfl
  | [], _ :: _ => by simp [Op.bytesLess]
  | _ :: _, [] => by simp [Op.bytesLess]
  | x :: a, y :: p => by
    have ih := leq_not a p; unfold Op.bytesLess; rcases Nat.lt_trichotomy x.toNat y.toNat with h | h | h
    · have h1 : x < y := UInt8.lt_iff_toNat_lt.2 h
      have h2 : ¬ y < x := fun e => by have := UInt8.lt_iff_toNat_lt.1 e; omega
      have h3 : ¬ y = x := fun e => by subst e; omega
      simp [h1, h2, h3]
    · obtain rfl : x = y := UInt8.toNat.inj h
      simpa using ih
    · have h1 : y < x := UInt8.lt_iff_toNat_lt.2 h
      have h2 : ¬ x < y := fun e => by have := UInt8.lt_iff_toNat_lt.1 e; omega
      have h3 : ¬ x = y := fun e => by subst e; omega
      simp [h1, h2, h3]

theorem ret_bool {b b' : Bool} (h : b = b') : Ending.returned (.bool b) = Ending.returned (.bool b') := by rw [h]
abbrev six (v : V) (sn sk : Value) : List Value := [.int .i64 v.k, .int .i64 v.n, .int .i64 v.s, .string v.t, sn, sk]
def okN (l : List ByteArray) (i : Nat) : Bool := isNameB (l.getD i noT) && (decide (i = 0) || Op.bytesLess (l.getD (i - 1) noT).toList (l.getD i noT).toList)
theorem fields_iff (v : V) : fieldsB v = true ↔ (∀ i, i < v.names.length → okN v.names i = true) ∧ v.names.length = v.kids.length := by
  unfold fieldsB; rw [Bool.and_eq_true, Bool.and_eq_true, rises_iff, List.all_eq_true, decide_eq_true_iff, and_congr_left_iff]; intro _
  constructor
  · rintro ⟨h1, h2⟩ i hi
    unfold okN; rw [Bool.and_eq_true, Bool.or_eq_true, decide_eq_true_iff]; refine ⟨h1 _ (by simp [hi]), ?_⟩; cases i with
    | zero => exact .inl rfl
    | succ i => exact .inr (h2 i hi)
  · intro h
    constructor
    · intro x hx
      obtain ⟨j, hj, rfl⟩ := List.getElem_of_mem hx; have := h j hj; unfold okN at this; rw [Bool.and_eq_true] at this
      simpa [hj] using this.1
    · intro i hi
      have := h (i + 1) hi; unfold okN at this; rw [Bool.and_eq_true, Bool.or_eq_true, decide_eq_true_iff] at this; exact this.2.resolve_left (by omega)

set_option maxHeartbeats 8000000 in
theorem fields_any {f : Nat} {w : World} {v : V} {cs : List Value} (h : IsV f w v cs) :
    Calls Tryz.prog 191 #[.agg cs.toArray] w fun e w' => e = .returned (.bool (fieldsB v)) ∧ Below w.heap.size w w' := by
  cases f with
  | zero => exact h.elim
  | succ f =>
  obtain ⟨sn, sk, rfl, -, -, -, -, hn, kp, kc, rfl, kl, kc2, -⟩ := h; have hbel : Below w.heap.size w (w.alloc (.cells (six v sn (.slice kp v.kids.length kc)).toArray 82)) := (Below.refl _ w).alloc (Nat.le_refl _) _; have hR : VBlk 82 (w.alloc (.cells (six v sn (.slice kp v.kids.length kc)).toArray 82)) w.heap.size (six v sn (.slice kp v.kids.length kc)) := VBlk.mk w _ _; have hn1 := hn.below hbel; obtain ⟨np, nc, rfl, nl, nc2, nsz, nr⟩ := hn1; have c4 := hR.cell 4 (by simp); have c5 := hR.cell 5 (by simp); simp only [List.getD_cons_zero, List.getD_cons_succ] at c4 c5; have Hnr := Hid2.mk nr; have Hsz := Hid2.mk nsz; have HB := Hid2.mk hbel; have Hfi := Hid2.mk (fields_iff v); clear hbel hn hR nr nsz; generalize hN : v.names.length = N at nl c4 c5 HB Hnr Hsz Hfi ⊢; generalize hK : v.kids.length = K at kl c4 c5 Hnr Hsz HB Hfi ⊢; generalize v.names = nm at Hnr Hsz Hfi hN ⊢; clear hN hK
  go_enter Tryz.func191, Tryz.ntmps191
  go_wp2_with fail
  go_loopw [8] (fun i wr => ∃ k : Nat, k ≤ N ∧ i = .int .i64 (k : Nat) ∧ (∃ n, wr = (w.alloc (.cells (six v (.slice np N nc) (.slice kp K kc)).toArray 82)).drewN n) ∧ ∀ j, j < k → okN nm j = true) (fun i _ => N - (intOf i).toNat)
  case atStart => exact ⟨0, Nat.zero_le _, rfl, ⟨0, rfl⟩, fun j hj => absurd hj (by omega)⟩
  case round =>
    obtain ⟨k, hk, rfl, ⟨n, rfl⟩, hall⟩ := hrel
    by_cases hkN : k < N
    · have hkz : (k : Int) < (N : Int) := by omega
      obtain ⟨b, o, rfl, hb, hr⟩ := Hnr.out (by omega); have ck := hr k hkN; have hka := Hsz.out k hkN; have Hok := Hid2.mk (show okN nm k = (isNameB (nm.getD k noT) && (decide (k = 0) || Op.bytesLess (nm.getD (k - 1) noT).toList (nm.getD k noT).toList)) from rfl); have Hall := Hid2.mk hall
      by_cases hk0 : k = 0
      · have hk0' : ((k : Int) == 0) = true := by simp [hk0]
        have hk0'' : ¬ (0 : Int) < (k : Int) := by omega
        have hk00 := decide_eq_true hk0; rw [hk00] at Hok; clear hr hall hk0 hk00; generalize nm.getD k noT = a at ck hka Hok; generalize nm.getD (k - 1) noT = p at Hok; cases ha : isNameB a with
        | true =>
          rw [ha] at Hok; have Ha := Hid2.mk ha; clear ha
          go_wp2_with (go_fit (isName_any a _); rw [Ha.out]; rintro e w' ⟨rfl, rfl⟩)
          refine ⟨⟨k + 1, by omega, rfl, ⟨_, rfl⟩, fun j hj => (Nat.lt_succ_iff_lt_or_eq.1 hj).elim (Hall.out j) (fun e => by rw [e, Hok.out]; rfl)⟩, by show N - ((k : Int) + 1).toNat < N - ((k : Int)).toNat; omega⟩
        | false =>
          rw [ha] at Hok; have Ha := Hid2.mk ha; clear ha
          go_wp2_with (go_fit (isName_any a _); rw [Ha.out]; rintro e w' ⟨rfl, rfl⟩)
          go_ret
          refine ⟨ret_bool (b := false) (Bool.eq_false_iff.2 fun h => ?_).symm, belowN HB.out _⟩; have := (Hfi.out.1 h).1 k hkN; rw [Hok.out] at this; cases this
      · obtain ⟨m, rfl⟩ : ∃ m, k = m + 1 := ⟨k - 1, by omega⟩
        have cm := hr m (by omega); have hkm : IntKind.i64.wrap (((m + 1 : Nat) : Int) - 1) = (m : Nat) := by rw [IntWalk.i64_in _ (by omega)]; omega
        have hk0'' : (0 : Int) < ((m + 1 : Nat) : Int) := by omega
        have hk00 := decide_eq_false hk0; rw [hk00, Nat.add_sub_cancel] at Hok; clear hr hall hk0 hk00; generalize nm.getD (m + 1) noT = a at ck hka Hok; generalize nm.getD m noT = p at cm Hok; cases ha : isNameB a with
        | true =>
          cases hp : Op.bytesLess p.toList a.toList with
          | true =>
            have hle : (Op.bytesLess a.toList p.toList || a.toList == p.toList) = false := by rw [leq_not, hp]; rfl
            rw [ha, hp] at Hok; have Ha := Hid2.mk ha; have Hp := Hid2.mk hp; clear ha hp
            go_wp2_with (go_fit (isName_any a _); rw [Ha.out]; rintro e w' ⟨rfl, rfl⟩)
            refine ⟨⟨m + 2, by omega, rfl, ⟨_, rfl⟩, fun j hj => (Nat.lt_succ_iff_lt_or_eq.1 hj).elim (Hall.out j) (fun e => by rw [e, Hok.out]; rfl)⟩, by show N - ((m : Int) + 1 + 1).toNat < N - (((m + 1 : Nat) : Int)).toNat; omega⟩
          | false =>
            have hle : (Op.bytesLess a.toList p.toList || a.toList == p.toList) = true := by rw [leq_not, hp]; rfl
            rw [ha, hp] at Hok; have Ha := Hid2.mk ha; have Hp := Hid2.mk hp; clear ha hp
            go_wp2_with (go_fit (isName_any a _); rw [Ha.out]; rintro e w' ⟨rfl, rfl⟩)
            go_ret
            refine ⟨ret_bool (b := false) (Bool.eq_false_iff.2 fun h => ?_).symm, belowN HB.out _⟩; have := (Hfi.out.1 h).1 _ hkN; rw [Hok.out] at this; cases this
        | false =>
          rw [ha] at Hok; have Ha := Hid2.mk ha; clear ha
          go_wp2_with (go_fit (isName_any a _); rw [Ha.out]; rintro e w' ⟨rfl, rfl⟩)
          go_ret
          refine ⟨ret_bool (b := false) (Bool.eq_false_iff.2 fun h => ?_).symm, belowN HB.out _⟩; have := (Hfi.out.1 h).1 _ hkN; rw [Hok.out] at this; cases this
    · obtain rfl : k = N := by omega
      have hd : (k : Int) ≤ k := by omega
      have Hall := Hid2.mk hall; clear hall
      go_wp2_with fail
      go_ret
      refine ⟨ret_bool (b := (k : Int) == K) ?_, belowN HB.out _⟩; cases hf : fieldsB v with
      | true => have := (Hfi.out.1 hf).2; simp [this]
      | false =>
        refine beq_eq_false_iff_ne.2 fun e => ?_; have := Hfi.out.2 ⟨Hall.out, by omega⟩; rw [hf] at this; cases this
end Vl
end Go.Proofs.YtpfkcfaifleliaaGreat

namespace Go.Proofs.YtpfkcfaifleliaaGreat
open Go.RowKit
namespace Vl

def formC (k n s : Int) (B P E N0 : Bool) : Bool :=
  if k = 1 then B && P && E
  else if k = 2 then decide (n / 2 = 0) && decide (s = 0) && P && E
  else if k = 3 then decide (s = 0) && P && E
  else if k = 4 then decide (1 ≤ s) && decide (s ≤ 18) && decide (¬ n.tmod 10 = 0) && P && E
  else if k = 5 then decide (0 ≤ n) && decide (n ≤ 9007199254740992) && decide (s = 0) && P && E
  else if k = 6 ∨ k = 7 then B && P
  else if k = 8 then B && N0 && E
  else if k = 9 then B && E
  else false
theorem formB_eq (v : V) : formB v = formC v.k v.n v.s (bareB v) (plainB v) (noTextB v) (decide (v.names.length = 0)) := by
  have h : (decide (0 ≤ v.n) && decide (v.n ≤ 1)) = decide (v.n / 2 = 0) := by
    by_cases h : v.n / 2 = 0
    · simp [h]; omega
    · rw [decide_eq_false h, Bool.and_eq_false_iff, decide_eq_false_iff_not, decide_eq_false_iff_not]; omega
  unfold formB formC; rw [h]

theorem IsV.open {f : Nat} {w : World} {v : V} {cs : List Value} (h : IsV f w v cs) :
    ∃ np nc kp kc, cs = [.int .i64 v.k, .int .i64 v.n, .int .i64 v.s, .string v.t, .slice np v.names.length nc, .slice kp v.kids.length kc] ∧
      (-9223372036854775808 ≤ v.n ∧ v.n ≤ 9223372036854775807) ∧ v.t.size ≤ 140737488355328 ∧ v.names.length ≤ nc ∧ nc ≤ 9223372036854775807 ∧ v.kids.length ≤ kc ∧ kc ≤ 9223372036854775807 := by
  cases f with
  | zero => exact h.elim
  | succ f =>
    obtain ⟨sn, sk, rfl, -, hn, -, ht, ⟨np, nc, rfl, nl, nc2, -⟩, ⟨kp, kc, rfl, kl, kc2, -⟩⟩ := h; refine ⟨np, nc, kp, kc, rfl, ?_, ht, nl, nc2, kl, kc2⟩; simp [Lit.wf, IntKind.min, IntKind.max, IntKind.bits, IntKind.signed] at hn
    omega
theorem infoValue : (Tryz.prog.info? 82).map (·.size) = some 6 := by kernel_rfl

theorem empty_iff (t : ByteArray) : (t.toList == []) = decide (t.size = 0) := by
  have h : t.toList.length = t.size := by rw [ByteArray.toList_eq]; rfl
  cases hl : t.toList with
  | nil => rw [hl] at h; simp at h; simp [← h]
  | cons a l => rw [hl] at h; simp at h; simp [← h]

set_option maxRecDepth 100000 in
set_option maxHeartbeats 8000000 in
theorem shape_B {f : Nat} {w : World} {v : V} {cs : List Value} (h : IsV f w v cs) (hk : v.k = 1 ∨ v.k = 2 ∨ v.k = 3) :
    Calls Tryz.prog 173 #[.agg cs.toArray] w fun e w' => e = .returned (.int .i64 (shp v)) ∧ Below w.heap.size w w' := by
  obtain ⟨np, nc, kp, kc, hcs, hnn, ht, nl, nc2, kl, kc2⟩ := IsV.open h; have hform := formB_eq v; have hB : bareB v = (decide (v.n = 0) && decide (v.s = 0)) := rfl; have hP : plainB v = (decide (v.names.length = 0) && decide (v.kids.length = 0)) := rfl; have hE : noTextB v = decide (v.t.size = 0) := rfl; have hem := empty_iff v.t; have hshp : shp v = if formB v = false then 3 else if 16384 < v.t.size ∨ 200 < v.kids.length then 5 else if v.k = 9 ∧ fieldsB v = false then 3 else 0 := rfl
  rw [← hE] at hem; generalize formB v = F at hform hshp; generalize bareB v = B at hform hB; generalize plainB v = P at hform hP; generalize noTextB v = E at hform hE hem; generalize hG : fieldsB v = G at hshp; generalize shp v = R at hshp ⊢; generalize hN0 : decide (v.names.length = 0) = N0 at hform hP; generalize v.k = k at hk hcs hform hshp; generalize v.n = n at hcs hform hB hnn; generalize v.s = s at hcs hform hB; generalize v.t = t at hcs hE hem ht hshp; generalize v.names.length = N at hcs hN0 nl; generalize v.kids.length = K at hcs hP kl hshp; have hbel : Below w.heap.size w (w.alloc (.cells cs.toArray 82)) := (Below.refl _ w).alloc (Nat.le_refl _) _; have hR : VBlk 82 (w.alloc (.cells cs.toArray 82)) w.heap.size cs := VBlk.mk w _ _; have h1 := h.below hbel; have HF := Hid2.mk (fun m => fields_any (f := f) (v := v) (h1.below (belowN (Below.refl _ _) m))); rw [hG] at HF; have HR := Hid2.mk hR; have HB := Hid2.mk hbel; have Hshp := Hid2.mk hshp; have Hform := Hid2.mk hform; have hBv := Hid2.mk hB; have hPv := Hid2.mk hP; have hEv := Hid2.mk hE; have hN0v := Hid2.mk hN0; have c0 := hR.cell 0 (by subst hcs; simp); have c1 := hR.cell 1 (by subst hcs; simp); have c2 := hR.cell 2 (by subst hcs; simp); have c3 := hR.cell 3 (by subst hcs; simp); have c4 := hR.cell 4 (by subst hcs; simp); have c5 := hR.cell 5 (by subst hcs; simp); clear h hform hB hP hE hshp hG hbel hR h1 hN0; subst hcs; simp only [List.getD_cons_zero, List.getD_cons_succ] at c0 c1 c2 c3 c4 c5; have Hk := Hid2.mk hk; clear hk
  go_enter Tryz.func173, Tryz.ntmps173
  go_upto_region 1 with fail
  generalize hw1 : World.alloc _ _ = w1 at c0 c1 c2 c3 c4 c5 HF HR HB ⊢
  go_cut [3] (fun b wx => b = .bool B ∧ ∃ m, wx = w1.drewN m)
  case first =>
    by_cases h0 : n = 0
    · obtain rfl := h0
      go_wp2_with fail
      go_meet
      exact ⟨congrArg Value.bool (by rw [hBv.out]; by_cases e : s = 0 <;> simp [e]), 0, rfl⟩
    · have h0' : (n == 0) = false := beq_eq_false_iff_ne.2 h0
      go_wp2_with fail
      go_meet
      exact ⟨congrArg Value.bool (by rw [hBv.out]; simp [h0]), 0, rfl⟩
  case rest =>
  obtain ⟨rfl, m1, rfl⟩ := hcut
  go_upto_region 2 with fail
  go_cut [4] (fun b wx => b = .bool P ∧ ∃ m, wx = w1.drewN m)
  case first =>
    by_cases h0 : N = 0
    · obtain rfl := h0
      go_wp2_with fail
      go_meet
      exact ⟨congrArg Value.bool (by rw [hPv.out, ← hN0v.out]; by_cases e : K = 0 <;> simp [e]), m1, rfl⟩
    · have h0' : ((N : Int) == 0) = false := beq_eq_false_iff_ne.2 (by omega)
      go_wp2_with fail
      go_meet
      exact ⟨congrArg Value.bool (by rw [hPv.out, ← hN0v.out]; simp [h0]), m1, rfl⟩
  case rest =>
  obtain ⟨rfl, m2, rfl⟩ := hcut
  go_upto_block 0 with fail
  go_cut [5] (fun b wx => b = .bool F ∧ ∃ m, wx = w1.drewN m)
  case first =>
    clear Hshp HF HR HB hBv hPv hEv hnn
    by_cases k1 : k = 1
    · obtain rfl := k1
      cases B
      · (go_wp2_with fail; go_meet; exact ⟨congrArg Value.bool (by rw [Hid2.out Hform, ← Hid2.out hN0v]; simp [formC, *]), m2, rfl⟩)
      ·
        cases P
        · (go_wp2_with fail; go_meet; exact ⟨congrArg Value.bool (by rw [Hid2.out Hform, ← Hid2.out hN0v]; simp [formC, *]), m2, rfl⟩)
        ·
          (go_wp2_with fail; go_meet; exact ⟨congrArg Value.bool (by rw [Hid2.out Hform, ← Hid2.out hN0v]; simp [formC, *]), m2, rfl⟩)
    have q1 : (k == 1) = false := beq_eq_false_iff_ne.2 k1
    by_cases k2 : k = 2
    · obtain rfl := k2
      by_cases c3 : n / 2 = 0
      ·
        by_cases c2 : s = 0
        · obtain rfl := c2
          cases P
          · (go_wp2_with fail; go_meet; exact ⟨congrArg Value.bool (by rw [Hid2.out Hform, ← Hid2.out hN0v]; simp [formC, *]), m2, rfl⟩)
          ·
            (go_wp2_with fail; go_meet; exact ⟨congrArg Value.bool (by rw [Hid2.out Hform, ← Hid2.out hN0v]; simp [formC, *]), m2, rfl⟩)
        · have : (s == 0) = false := beq_eq_false_iff_ne.2 c2
          (go_wp2_with fail; go_meet; exact ⟨congrArg Value.bool (by rw [Hid2.out Hform, ← Hid2.out hN0v]; simp [formC, *]), m2, rfl⟩)
      · have : (n / 2 == 0) = false := beq_eq_false_iff_ne.2 c3
        (go_wp2_with fail; go_meet; exact ⟨congrArg Value.bool (by rw [Hid2.out Hform, ← Hid2.out hN0v]; simp [formC, *]), m2, rfl⟩)
    have q2 : (k == 2) = false := beq_eq_false_iff_ne.2 k2
    by_cases k3 : k = 3
    · obtain rfl := k3
      by_cases c2 : s = 0
      · obtain rfl := c2
        cases P
        · (go_wp2_with fail; go_meet; exact ⟨congrArg Value.bool (by rw [Hid2.out Hform, ← Hid2.out hN0v]; simp [formC, *]), m2, rfl⟩)
        ·
          (go_wp2_with fail; go_meet; exact ⟨congrArg Value.bool (by rw [Hid2.out Hform, ← Hid2.out hN0v]; simp [formC, *]), m2, rfl⟩)
      · have : (s == 0) = false := beq_eq_false_iff_ne.2 c2
        (go_wp2_with fail; go_meet; exact ⟨congrArg Value.bool (by rw [Hid2.out Hform, ← Hid2.out hN0v]; simp [formC, *]), m2, rfl⟩)
    have q3 : (k == 3) = false := beq_eq_false_iff_ne.2 k3; exact absurd Hk.out (by omega)
  case rest =>
  obtain ⟨rfl, m3, rfl⟩ := hcut; clear Hform hBv hPv hEv hN0v hnn; cases F
  · have Hr := Hid2.mk (show R = 3 by rw [Hshp.out]; rfl)
    clear Hshp
    go_wp2_with fail
    go_ret
    exact ⟨by rw [Hr.out]; rfl, belowN HB.out _⟩
  by_cases d1 : 16384 < t.size
  · have d1' : (16384 : Int) < t.size := by omega
    have Hr := Hid2.mk (show R = 5 by rw [Hshp.out]; simp [d1]); clear Hshp
    go_wp2_with fail
    go_ret
    exact ⟨by rw [Hr.out]; rfl, belowN HB.out _⟩
  have d1' : decide ((16384 : Int) < t.size) = false := decide_eq_false (by omega)
  by_cases d2 : 200 < K
  · have d2' : (200 : Int) < K := by omega
    have Hr := Hid2.mk (show R = 5 by rw [Hshp.out]; simp [d2]); clear Hshp
    go_wp2_with fail
    go_ret
    exact ⟨by rw [Hr.out]; rfl, belowN HB.out _⟩
  have d2' : decide ((200 : Int) < K) = false := decide_eq_false (by omega)
  by_cases d3 : k = 9
  · have Hr := Hid2.mk (show R = if G = false then 3 else 0 by rw [Hshp.out]; simp [d1, d2, d3])
    clear Hshp; subst d3; exact absurd Hk.out (by omega)
  have d3' : (k == 9) = false := beq_eq_false_iff_ne.2 d3; have Hr := Hid2.mk (show R = 0 by rw [Hshp.out]; simp [d1, d2, d3]); clear Hshp
  go_wp2_with fail
  go_ret
  exact ⟨by rw [Hr.out]; rfl, belowN HB.out _⟩
end Vl
end Go.Proofs.YtpfkcfaifleliaaGreat

namespace Go.Proofs.YtpfkcfaifleliaaGreat
open Go.RowKit
namespace Vl

set_option maxRecDepth 100000 in
set_option maxHeartbeats 8000000 in
theorem shape_C {f : Nat} {w : World} {v : V} {cs : List Value} (h : IsV f w v cs) (hk : v.k = 4) :
    Calls Tryz.prog 173 #[.agg cs.toArray] w fun e w' => e = .returned (.int .i64 (shp v)) ∧ Below w.heap.size w w' := by
  obtain ⟨np, nc, kp, kc, hcs, hnn, ht, nl, nc2, kl, kc2⟩ := IsV.open h; have hform := formB_eq v; have hB : bareB v = (decide (v.n = 0) && decide (v.s = 0)) := rfl; have hP : plainB v = (decide (v.names.length = 0) && decide (v.kids.length = 0)) := rfl; have hE : noTextB v = decide (v.t.size = 0) := rfl; have hem := empty_iff v.t; have hshp : shp v = if formB v = false then 3 else if 16384 < v.t.size ∨ 200 < v.kids.length then 5 else if v.k = 9 ∧ fieldsB v = false then 3 else 0 := rfl
  rw [← hE] at hem; generalize formB v = F at hform hshp; generalize bareB v = B at hform hB; generalize plainB v = P at hform hP; generalize noTextB v = E at hform hE hem; generalize hG : fieldsB v = G at hshp; generalize shp v = R at hshp ⊢; generalize hN0 : decide (v.names.length = 0) = N0 at hform hP; generalize v.k = k at hk hcs hform hshp; generalize v.n = n at hcs hform hB hnn; generalize v.s = s at hcs hform hB; generalize v.t = t at hcs hE hem ht hshp; generalize v.names.length = N at hcs hN0 nl; generalize v.kids.length = K at hcs hP kl hshp; have hbel : Below w.heap.size w (w.alloc (.cells cs.toArray 82)) := (Below.refl _ w).alloc (Nat.le_refl _) _; have hR : VBlk 82 (w.alloc (.cells cs.toArray 82)) w.heap.size cs := VBlk.mk w _ _; have h1 := h.below hbel; have HF := Hid2.mk (fun m => fields_any (f := f) (v := v) (h1.below (belowN (Below.refl _ _) m))); rw [hG] at HF; have HR := Hid2.mk hR; have HB := Hid2.mk hbel; have Hshp := Hid2.mk hshp; have Hform := Hid2.mk hform; have hBv := Hid2.mk hB; have hPv := Hid2.mk hP; have hEv := Hid2.mk hE; have hN0v := Hid2.mk hN0; have c0 := hR.cell 0 (by subst hcs; simp); have c1 := hR.cell 1 (by subst hcs; simp); have c2 := hR.cell 2 (by subst hcs; simp); have c3 := hR.cell 3 (by subst hcs; simp); have c4 := hR.cell 4 (by subst hcs; simp); have c5 := hR.cell 5 (by subst hcs; simp); clear h hform hB hP hE hshp hG hbel hR h1 hN0; subst hcs; simp only [List.getD_cons_zero, List.getD_cons_succ] at c0 c1 c2 c3 c4 c5; have q1 : (k == 1) = false := beq_eq_false_iff_ne.2 (by omega); have q2 : (k == 2) = false := beq_eq_false_iff_ne.2 (by omega); have q3 : (k == 3) = false := beq_eq_false_iff_ne.2 (by omega); have Hk := Hid2.mk hk; clear hk
  go_enter Tryz.func173, Tryz.ntmps173
  go_upto_region 1 with fail
  generalize hw1 : World.alloc _ _ = w1 at c0 c1 c2 c3 c4 c5 HF HR HB ⊢
  go_cut [3] (fun b wx => b = .bool B ∧ ∃ m, wx = w1.drewN m)
  case first =>
    by_cases h0 : n = 0
    · obtain rfl := h0
      go_wp2_with fail
      go_meet
      exact ⟨congrArg Value.bool (by rw [hBv.out]; by_cases e : s = 0 <;> simp [e]), 0, rfl⟩
    · have h0' : (n == 0) = false := beq_eq_false_iff_ne.2 h0
      go_wp2_with fail
      go_meet
      exact ⟨congrArg Value.bool (by rw [hBv.out]; simp [h0]), 0, rfl⟩
  case rest =>
  obtain ⟨rfl, m1, rfl⟩ := hcut
  go_upto_region 2 with fail
  go_cut [4] (fun b wx => b = .bool P ∧ ∃ m, wx = w1.drewN m)
  case first =>
    by_cases h0 : N = 0
    · obtain rfl := h0
      go_wp2_with fail
      go_meet
      exact ⟨congrArg Value.bool (by rw [hPv.out, ← hN0v.out]; by_cases e : K = 0 <;> simp [e]), m1, rfl⟩
    · have h0' : ((N : Int) == 0) = false := beq_eq_false_iff_ne.2 (by omega)
      go_wp2_with fail
      go_meet
      exact ⟨congrArg Value.bool (by rw [hPv.out, ← hN0v.out]; simp [h0]), m1, rfl⟩
  case rest =>
  obtain ⟨rfl, m2, rfl⟩ := hcut
  go_upto_block 0 with fail
  go_cut [5] (fun b wx => b = .bool F ∧ ∃ m, wx = w1.drewN m)
  case first =>
    clear Hshp HF HR HB hBv hPv hEv hnn
    by_cases k4 : k = 4
    · obtain rfl := k4
      by_cases c4 : 1 ≤ s
      ·
        by_cases c3 : s ≤ 18
        ·
          by_cases c2 : n.tmod 10 = 0
          · have : (n.tmod 10 != 0) = false := by simp [c2]
            (go_wp2_with fail; go_meet; exact ⟨congrArg Value.bool (by rw [Hid2.out Hform, ← Hid2.out hN0v]; simp [formC, *]), m2, rfl⟩)
          · have : (n.tmod 10 != 0) = true := by simp [c2]
            cases P
            · (go_wp2_with fail; go_meet; exact ⟨congrArg Value.bool (by rw [Hid2.out Hform, ← Hid2.out hN0v]; simp [formC, *]), m2, rfl⟩)
            ·
              (go_wp2_with fail; go_meet; exact ⟨congrArg Value.bool (by rw [Hid2.out Hform, ← Hid2.out hN0v]; simp [formC, *]), m2, rfl⟩)
        · have : decide (s ≤ 18) = false := decide_eq_false c3
          (go_wp2_with fail; go_meet; exact ⟨congrArg Value.bool (by rw [Hid2.out Hform, ← Hid2.out hN0v]; simp [formC, *]), m2, rfl⟩)
      · have : decide (1 ≤ s) = false := decide_eq_false c4
        (go_wp2_with fail; go_meet; exact ⟨congrArg Value.bool (by rw [Hid2.out Hform, ← Hid2.out hN0v]; simp [formC, *]), m2, rfl⟩)
    have q4 : (k == 4) = false := beq_eq_false_iff_ne.2 k4; exact absurd Hk.out (by omega)
  case rest =>
  obtain ⟨rfl, m3, rfl⟩ := hcut; clear Hform hBv hPv hEv hN0v hnn; cases F
  · have Hr := Hid2.mk (show R = 3 by rw [Hshp.out]; rfl)
    clear Hshp
    go_wp2_with fail
    go_ret
    exact ⟨by rw [Hr.out]; rfl, belowN HB.out _⟩
  by_cases d1 : 16384 < t.size
  · have d1' : (16384 : Int) < t.size := by omega
    have Hr := Hid2.mk (show R = 5 by rw [Hshp.out]; simp [d1]); clear Hshp
    go_wp2_with fail
    go_ret
    exact ⟨by rw [Hr.out]; rfl, belowN HB.out _⟩
  have d1' : decide ((16384 : Int) < t.size) = false := decide_eq_false (by omega)
  by_cases d2 : 200 < K
  · have d2' : (200 : Int) < K := by omega
    have Hr := Hid2.mk (show R = 5 by rw [Hshp.out]; simp [d2]); clear Hshp
    go_wp2_with fail
    go_ret
    exact ⟨by rw [Hr.out]; rfl, belowN HB.out _⟩
  have d2' : decide ((200 : Int) < K) = false := decide_eq_false (by omega)
  by_cases d3 : k = 9
  · have Hr := Hid2.mk (show R = if G = false then 3 else 0 by rw [Hshp.out]; simp [d1, d2, d3])
    clear Hshp; subst d3; exact absurd Hk.out (by omega)
  have d3' : (k == 9) = false := beq_eq_false_iff_ne.2 d3; have Hr := Hid2.mk (show R = 0 by rw [Hshp.out]; simp [d1, d2, d3]); clear Hshp
  go_wp2_with fail
  go_ret
  exact ⟨by rw [Hr.out]; rfl, belowN HB.out _⟩
end Vl
end Go.Proofs.YtpfkcfaifleliaaGreat

namespace Go.Proofs.YtpfkcfaifleliaaGreat
open Go.RowKit
namespace Vl

set_option maxRecDepth 100000 in
set_option maxHeartbeats 8000000 in
theorem shape_D {f : Nat} {w : World} {v : V} {cs : List Value} (h : IsV f w v cs) (hk : v.k = 5) :
    Calls Tryz.prog 173 #[.agg cs.toArray] w fun e w' => e = .returned (.int .i64 (shp v)) ∧ Below w.heap.size w w' := by
  obtain ⟨np, nc, kp, kc, hcs, hnn, ht, nl, nc2, kl, kc2⟩ := IsV.open h; have hform := formB_eq v; have hB : bareB v = (decide (v.n = 0) && decide (v.s = 0)) := rfl; have hP : plainB v = (decide (v.names.length = 0) && decide (v.kids.length = 0)) := rfl; have hE : noTextB v = decide (v.t.size = 0) := rfl; have hem := empty_iff v.t; have hshp : shp v = if formB v = false then 3 else if 16384 < v.t.size ∨ 200 < v.kids.length then 5 else if v.k = 9 ∧ fieldsB v = false then 3 else 0 := rfl
  rw [← hE] at hem; generalize formB v = F at hform hshp; generalize bareB v = B at hform hB; generalize plainB v = P at hform hP; generalize noTextB v = E at hform hE hem; generalize hG : fieldsB v = G at hshp; generalize shp v = R at hshp ⊢; generalize hN0 : decide (v.names.length = 0) = N0 at hform hP; generalize v.k = k at hk hcs hform hshp; generalize v.n = n at hcs hform hB hnn; generalize v.s = s at hcs hform hB; generalize v.t = t at hcs hE hem ht hshp; generalize v.names.length = N at hcs hN0 nl; generalize v.kids.length = K at hcs hP kl hshp; have hbel : Below w.heap.size w (w.alloc (.cells cs.toArray 82)) := (Below.refl _ w).alloc (Nat.le_refl _) _; have hR : VBlk 82 (w.alloc (.cells cs.toArray 82)) w.heap.size cs := VBlk.mk w _ _; have h1 := h.below hbel; have HF := Hid2.mk (fun m => fields_any (f := f) (v := v) (h1.below (belowN (Below.refl _ _) m))); rw [hG] at HF; have HR := Hid2.mk hR; have HB := Hid2.mk hbel; have Hshp := Hid2.mk hshp; have Hform := Hid2.mk hform; have hBv := Hid2.mk hB; have hPv := Hid2.mk hP; have hEv := Hid2.mk hE; have hN0v := Hid2.mk hN0; have c0 := hR.cell 0 (by subst hcs; simp); have c1 := hR.cell 1 (by subst hcs; simp); have c2 := hR.cell 2 (by subst hcs; simp); have c3 := hR.cell 3 (by subst hcs; simp); have c4 := hR.cell 4 (by subst hcs; simp); have c5 := hR.cell 5 (by subst hcs; simp); clear h hform hB hP hE hshp hG hbel hR h1 hN0; subst hcs; simp only [List.getD_cons_zero, List.getD_cons_succ] at c0 c1 c2 c3 c4 c5; have q1 : (k == 1) = false := beq_eq_false_iff_ne.2 (by omega); have q2 : (k == 2) = false := beq_eq_false_iff_ne.2 (by omega); have q3 : (k == 3) = false := beq_eq_false_iff_ne.2 (by omega); have q4 : (k == 4) = false := beq_eq_false_iff_ne.2 (by omega); have Hk := Hid2.mk hk; clear hk
  go_enter Tryz.func173, Tryz.ntmps173
  go_upto_region 1 with fail
  generalize hw1 : World.alloc _ _ = w1 at c0 c1 c2 c3 c4 c5 HF HR HB ⊢
  go_cut [3] (fun b wx => b = .bool B ∧ ∃ m, wx = w1.drewN m)
  case first =>
    by_cases h0 : n = 0
    · obtain rfl := h0
      go_wp2_with fail
      go_meet
      exact ⟨congrArg Value.bool (by rw [hBv.out]; by_cases e : s = 0 <;> simp [e]), 0, rfl⟩
    · have h0' : (n == 0) = false := beq_eq_false_iff_ne.2 h0
      go_wp2_with fail
      go_meet
      exact ⟨congrArg Value.bool (by rw [hBv.out]; simp [h0]), 0, rfl⟩
  case rest =>
  obtain ⟨rfl, m1, rfl⟩ := hcut
  go_upto_region 2 with fail
  go_cut [4] (fun b wx => b = .bool P ∧ ∃ m, wx = w1.drewN m)
  case first =>
    by_cases h0 : N = 0
    · obtain rfl := h0
      go_wp2_with fail
      go_meet
      exact ⟨congrArg Value.bool (by rw [hPv.out, ← hN0v.out]; by_cases e : K = 0 <;> simp [e]), m1, rfl⟩
    · have h0' : ((N : Int) == 0) = false := beq_eq_false_iff_ne.2 (by omega)
      go_wp2_with fail
      go_meet
      exact ⟨congrArg Value.bool (by rw [hPv.out, ← hN0v.out]; simp [h0]), m1, rfl⟩
  case rest =>
  obtain ⟨rfl, m2, rfl⟩ := hcut
  go_upto_block 0 with fail
  go_cut [5] (fun b wx => b = .bool F ∧ ∃ m, wx = w1.drewN m)
  case first =>
    clear Hshp HF HR HB hBv hPv hEv hnn
    by_cases k5 : k = 5
    · obtain rfl := k5
      by_cases c4 : 0 ≤ n
      ·
        by_cases c3 : n ≤ 9007199254740992
        ·
          by_cases c2 : s = 0
          · obtain rfl := c2
            cases P
            · (go_wp2_with fail; go_meet; exact ⟨congrArg Value.bool (by rw [Hid2.out Hform, ← Hid2.out hN0v]; simp [formC, *]), m2, rfl⟩)
            ·
              (go_wp2_with fail; go_meet; exact ⟨congrArg Value.bool (by rw [Hid2.out Hform, ← Hid2.out hN0v]; simp [formC, *]), m2, rfl⟩)
          · have : (s == 0) = false := beq_eq_false_iff_ne.2 c2
            (go_wp2_with fail; go_meet; exact ⟨congrArg Value.bool (by rw [Hid2.out Hform, ← Hid2.out hN0v]; simp [formC, *]), m2, rfl⟩)
        · have : decide (n ≤ 9007199254740992) = false := decide_eq_false c3
          (go_wp2_with fail; go_meet; exact ⟨congrArg Value.bool (by rw [Hid2.out Hform, ← Hid2.out hN0v]; simp [formC, *]), m2, rfl⟩)
      · have : decide (0 ≤ n) = false := decide_eq_false c4
        (go_wp2_with fail; go_meet; exact ⟨congrArg Value.bool (by rw [Hid2.out Hform, ← Hid2.out hN0v]; simp [formC, *]), m2, rfl⟩)
    have q5 : (k == 5) = false := beq_eq_false_iff_ne.2 k5; exact absurd Hk.out (by omega)
  case rest =>
  obtain ⟨rfl, m3, rfl⟩ := hcut; clear Hform hBv hPv hEv hN0v hnn; cases F
  · have Hr := Hid2.mk (show R = 3 by rw [Hshp.out]; rfl)
    clear Hshp
    go_wp2_with fail
    go_ret
    exact ⟨by rw [Hr.out]; rfl, belowN HB.out _⟩
  by_cases d1 : 16384 < t.size
  · have d1' : (16384 : Int) < t.size := by omega
    have Hr := Hid2.mk (show R = 5 by rw [Hshp.out]; simp [d1]); clear Hshp
    go_wp2_with fail
    go_ret
    exact ⟨by rw [Hr.out]; rfl, belowN HB.out _⟩
  have d1' : decide ((16384 : Int) < t.size) = false := decide_eq_false (by omega)
  by_cases d2 : 200 < K
  · have d2' : (200 : Int) < K := by omega
    have Hr := Hid2.mk (show R = 5 by rw [Hshp.out]; simp [d2]); clear Hshp
    go_wp2_with fail
    go_ret
    exact ⟨by rw [Hr.out]; rfl, belowN HB.out _⟩
  have d2' : decide ((200 : Int) < K) = false := decide_eq_false (by omega)
  by_cases d3 : k = 9
  · have Hr := Hid2.mk (show R = if G = false then 3 else 0 by rw [Hshp.out]; simp [d1, d2, d3])
    clear Hshp; subst d3; exact absurd Hk.out (by omega)
  have d3' : (k == 9) = false := beq_eq_false_iff_ne.2 d3; have Hr := Hid2.mk (show R = 0 by rw [Hshp.out]; simp [d1, d2, d3]); clear Hshp
  go_wp2_with fail
  go_ret
  exact ⟨by rw [Hr.out]; rfl, belowN HB.out _⟩
end Vl
end Go.Proofs.YtpfkcfaifleliaaGreat

namespace Go.Proofs.YtpfkcfaifleliaaGreat
open Go.RowKit
namespace Vl

set_option maxRecDepth 100000 in
set_option maxHeartbeats 8000000 in
theorem shape_E {f : Nat} {w : World} {v : V} {cs : List Value} (h : IsV f w v cs) (hk : ¬ v.k = 1 ∧ ¬ v.k = 2 ∧ ¬ v.k = 3 ∧ ¬ v.k = 4 ∧ ¬ v.k = 5) :
    Calls Tryz.prog 173 #[.agg cs.toArray] w fun e w' => e = .returned (.int .i64 (shp v)) ∧ Below w.heap.size w w' := by
  obtain ⟨np, nc, kp, kc, hcs, hnn, ht, nl, nc2, kl, kc2⟩ := IsV.open h; have hform := formB_eq v; have hB : bareB v = (decide (v.n = 0) && decide (v.s = 0)) := rfl; have hP : plainB v = (decide (v.names.length = 0) && decide (v.kids.length = 0)) := rfl; have hE : noTextB v = decide (v.t.size = 0) := rfl; have hem := empty_iff v.t; have hshp : shp v = if formB v = false then 3 else if 16384 < v.t.size ∨ 200 < v.kids.length then 5 else if v.k = 9 ∧ fieldsB v = false then 3 else 0 := rfl
  rw [← hE] at hem; generalize formB v = F at hform hshp; generalize bareB v = B at hform hB; generalize plainB v = P at hform hP; generalize noTextB v = E at hform hE hem; generalize hG : fieldsB v = G at hshp; generalize shp v = R at hshp ⊢; generalize hN0 : decide (v.names.length = 0) = N0 at hform hP; generalize v.k = k at hk hcs hform hshp; generalize v.n = n at hcs hform hB hnn; generalize v.s = s at hcs hform hB; generalize v.t = t at hcs hE hem ht hshp; generalize v.names.length = N at hcs hN0 nl; generalize v.kids.length = K at hcs hP kl hshp; have hbel : Below w.heap.size w (w.alloc (.cells cs.toArray 82)) := (Below.refl _ w).alloc (Nat.le_refl _) _; have hR : VBlk 82 (w.alloc (.cells cs.toArray 82)) w.heap.size cs := VBlk.mk w _ _; have h1 := h.below hbel; have HF := Hid2.mk (fun m => fields_any (f := f) (v := v) (h1.below (belowN (Below.refl _ _) m))); rw [hG] at HF; have HR := Hid2.mk hR; have HB := Hid2.mk hbel; have Hshp := Hid2.mk hshp; have Hform := Hid2.mk hform; have hBv := Hid2.mk hB; have hPv := Hid2.mk hP; have hEv := Hid2.mk hE; have hN0v := Hid2.mk hN0; have c0 := hR.cell 0 (by subst hcs; simp); have c1 := hR.cell 1 (by subst hcs; simp); have c2 := hR.cell 2 (by subst hcs; simp); have c3 := hR.cell 3 (by subst hcs; simp); have c4 := hR.cell 4 (by subst hcs; simp); have c5 := hR.cell 5 (by subst hcs; simp); clear h hform hB hP hE hshp hG hbel hR h1 hN0; subst hcs; simp only [List.getD_cons_zero, List.getD_cons_succ] at c0 c1 c2 c3 c4 c5; have q1 : (k == 1) = false := beq_eq_false_iff_ne.2 (by omega); have q2 : (k == 2) = false := beq_eq_false_iff_ne.2 (by omega); have q3 : (k == 3) = false := beq_eq_false_iff_ne.2 (by omega); have q4 : (k == 4) = false := beq_eq_false_iff_ne.2 (by omega); have q5 : (k == 5) = false := beq_eq_false_iff_ne.2 (by omega); have Hk := Hid2.mk hk; clear hk
  go_enter Tryz.func173, Tryz.ntmps173
  go_upto_region 1 with fail
  generalize hw1 : World.alloc _ _ = w1 at c0 c1 c2 c3 c4 c5 HF HR HB ⊢
  go_cut [3] (fun b wx => b = .bool B ∧ ∃ m, wx = w1.drewN m)
  case first =>
    by_cases h0 : n = 0
    · obtain rfl := h0
      go_wp2_with fail
      go_meet
      exact ⟨congrArg Value.bool (by rw [hBv.out]; by_cases e : s = 0 <;> simp [e]), 0, rfl⟩
    · have h0' : (n == 0) = false := beq_eq_false_iff_ne.2 h0
      go_wp2_with fail
      go_meet
      exact ⟨congrArg Value.bool (by rw [hBv.out]; simp [h0]), 0, rfl⟩
  case rest =>
  obtain ⟨rfl, m1, rfl⟩ := hcut
  go_upto_region 2 with fail
  go_cut [4] (fun b wx => b = .bool P ∧ ∃ m, wx = w1.drewN m)
  case first =>
    by_cases h0 : N = 0
    · obtain rfl := h0
      go_wp2_with fail
      go_meet
      exact ⟨congrArg Value.bool (by rw [hPv.out, ← hN0v.out]; by_cases e : K = 0 <;> simp [e]), m1, rfl⟩
    · have h0' : ((N : Int) == 0) = false := beq_eq_false_iff_ne.2 (by omega)
      go_wp2_with fail
      go_meet
      exact ⟨congrArg Value.bool (by rw [hPv.out, ← hN0v.out]; simp [h0]), m1, rfl⟩
  case rest =>
  obtain ⟨rfl, m2, rfl⟩ := hcut
  go_upto_block 0 with fail
  go_cut [5] (fun b wx => b = .bool F ∧ ∃ m, wx = w1.drewN m)
  case first =>
    clear Hshp HF HR HB hBv hPv hEv hnn
    by_cases k6 : k = 6
    · obtain rfl := k6
      cases B
      · (go_wp2_with fail; go_meet; exact ⟨congrArg Value.bool (by rw [Hid2.out Hform, ← Hid2.out hN0v]; simp [formC, *]), m2, rfl⟩)
      ·
        (go_wp2_with fail; go_meet; exact ⟨congrArg Value.bool (by rw [Hid2.out Hform, ← Hid2.out hN0v]; simp [formC, *]), m2, rfl⟩)
    have q6 : (k == 6) = false := beq_eq_false_iff_ne.2 k6
    by_cases k7 : k = 7
    · obtain rfl := k7
      cases B
      · (go_wp2_with fail; go_meet; exact ⟨congrArg Value.bool (by rw [Hid2.out Hform, ← Hid2.out hN0v]; simp [formC, *]), m2, rfl⟩)
      ·
        (go_wp2_with fail; go_meet; exact ⟨congrArg Value.bool (by rw [Hid2.out Hform, ← Hid2.out hN0v]; simp [formC, *]), m2, rfl⟩)
    have q7 : (k == 7) = false := beq_eq_false_iff_ne.2 k7
    by_cases k8 : k = 8
    · obtain rfl := k8
      cases B
      · (go_wp2_with fail; go_meet; exact ⟨congrArg Value.bool (by rw [Hid2.out Hform, ← Hid2.out hN0v]; simp [formC, *]), m2, rfl⟩)
      ·
        by_cases c1 : N = 0
        · obtain rfl := c1
          (go_wp2_with fail; go_meet; exact ⟨congrArg Value.bool (by rw [Hid2.out Hform, ← Hid2.out hN0v]; simp [formC, *]), m2, rfl⟩)
        · have : ((N : Int) == 0) = false := beq_eq_false_iff_ne.2 (by omega)
          (go_wp2_with fail; go_meet; exact ⟨congrArg Value.bool (by rw [Hid2.out Hform, ← Hid2.out hN0v]; simp [formC, *]), m2, rfl⟩)
    have q8 : (k == 8) = false := beq_eq_false_iff_ne.2 k8
    by_cases k9 : k = 9
    · obtain rfl := k9
      cases B
      · (go_wp2_with fail; go_meet; exact ⟨congrArg Value.bool (by rw [Hid2.out Hform, ← Hid2.out hN0v]; simp [formC, *]), m2, rfl⟩)
      ·
        (go_wp2_with fail; go_meet; exact ⟨congrArg Value.bool (by rw [Hid2.out Hform, ← Hid2.out hN0v]; simp [formC, *]), m2, rfl⟩)
    have q9 : (k == 9) = false := beq_eq_false_iff_ne.2 k9
    go_wp2_with fail
    go_meet
    exact ⟨congrArg Value.bool (by rw [Hform.out]; have hk := Hk.out; simp [formC, k6, k7, k8, k9, hk.1, hk.2.1, hk.2.2.1, hk.2.2.2.1, hk.2.2.2.2]), m2, rfl⟩
  case rest =>
  obtain ⟨rfl, m3, rfl⟩ := hcut; clear Hform hBv hPv hEv hN0v hnn; cases F
  · have Hr := Hid2.mk (show R = 3 by rw [Hshp.out]; rfl)
    clear Hshp
    go_wp2_with fail
    go_ret
    exact ⟨by rw [Hr.out]; rfl, belowN HB.out _⟩
  by_cases d1 : 16384 < t.size
  · have d1' : (16384 : Int) < t.size := by omega
    have Hr := Hid2.mk (show R = 5 by rw [Hshp.out]; simp [d1]); clear Hshp
    go_wp2_with fail
    go_ret
    exact ⟨by rw [Hr.out]; rfl, belowN HB.out _⟩
  have d1' : decide ((16384 : Int) < t.size) = false := decide_eq_false (by omega)
  by_cases d2 : 200 < K
  · have d2' : (200 : Int) < K := by omega
    have Hr := Hid2.mk (show R = 5 by rw [Hshp.out]; simp [d2]); clear Hshp
    go_wp2_with fail
    go_ret
    exact ⟨by rw [Hr.out]; rfl, belowN HB.out _⟩
  have d2' : decide ((200 : Int) < K) = false := decide_eq_false (by omega)
  by_cases d3 : k = 9
  · have Hr := Hid2.mk (show R = if G = false then 3 else 0 by rw [Hshp.out]; simp [d1, d2, d3])
    clear Hshp; subst d3; cases G <;>
    (go_wp2_with (first | (refine Ld.load_on (by rfl) 82 (.tmp 1) rfl w.heap.size rfl 82 _ (0, 0) _ HR.out Tryz.underlying82 rfl infoValue ?_) | (go_fit (HF.out _); rintro e w' ⟨rfl, hbw⟩))
     go_ret
     exact ⟨by rw [Hr.out]; rfl, (belowN HB.out _).trans (hbw.mono HB.out.size)⟩)
  have d3' : (k == 9) = false := beq_eq_false_iff_ne.2 d3; have Hr := Hid2.mk (show R = 0 by rw [Hshp.out]; simp [d1, d2, d3]); clear Hshp
  go_wp2_with fail
  go_ret
  exact ⟨by rw [Hr.out]; rfl, belowN HB.out _⟩
end Vl
end Go.Proofs.YtpfkcfaifleliaaGreat

namespace Go.Proofs.YtpfkcfaifleliaaGreat
open Go.RowKit
namespace Vl

theorem shape_any {f : Nat} {w : World} {v : V} {cs : List Value} (h : IsV f w v cs) :
    Calls Tryz.prog 173 #[.agg cs.toArray] w fun e w' => e = .returned (.int .i64 (shp v)) ∧ Below w.heap.size w w' := by
  by_cases h1 : v.k = 1 ∨ v.k = 2 ∨ v.k = 3
  · exact shape_B h h1
  by_cases h4 : v.k = 4
  · exact shape_C h h4
  by_cases h5 : v.k = 5
  · exact shape_D h h5
  exact shape_E h ⟨fun e => h1 (.inl e), fun e => h1 (.inr (.inl e)), fun e => h1 (.inr (.inr e)), h4, h5⟩

theorem IsV.kids {f : Nat} {w : World} {v : V} {cs : List Value} (h : IsV (f + 1) w v cs) :
    ∃ sn kp kc, cs = [.int .i64 v.k, .int .i64 v.n, .int .i64 v.s, .string v.t, sn, .slice kp v.kids.length kc] ∧ v.kids.length ≤ kc ∧ kc ≤ 9223372036854775807 ∧
      (0 < v.kids.length → ∃ b o, kp = some ⟨b, o, none⟩ ∧ b < w.heap.size ∧ ∀ j, j < v.kids.length → ∃ c, c.length = 6 ∧ IsV f w (v.kids.getD j noV) c ∧ w.rangeAt b (o + j * 6) c) := by
  obtain ⟨sn, sk, rfl, -, -, -, -, -, ⟨kp, kc, rfl, kl, kc2, kr⟩⟩ := h; exact ⟨sn, kp, kc, rfl, kl, kc2, kr⟩

theorem IsV.ones {f : Nat} {w : World} {v : V} {cs : List Value} (h : IsV f w v cs) : cs.toArray.all (·.oneCell') = true := by
  obtain ⟨np, nc, kp, kc, rfl, -⟩ := IsV.open h; simp [Value.oneCell']
abbrev zero6 : List Value := [.int .i64 0, .int .i64 0, .int .i64 0, .string ByteArray.empty, .slice none 0 0, .slice none 0 0]

set_option maxRecDepth 100000 in
set_option maxHeartbeats 8000000 in
theorem check_any : ∀ {f : Nat} {w : World} {v : V} {cs : List Value} (m : Nat) (d : Int), IsV f w v cs → m ≤ 16 → d = 17 - (m : Int) →
    Calls Tryz.prog 144 #[.agg cs.toArray, .int .i64 d] w fun e w' => e = .returned (.int .i64 (chk m v)) ∧ Below w.heap.size w w'
  | 0, _, _, _, _, _, h, _, _ => h.elim
  | f + 1, w, v, cs, m, d, h, hm, hd => by
    have ih : ∀ {w : World} {v : V} {cs : List Value} (m : Nat) (d : Int), IsV f w v cs → m ≤ 16 → d = 17 - (m : Int) → Calls Tryz.prog 144 #[.agg cs.toArray, .int .i64 d] w fun e w' => e = .returned (.int .i64 (chk m v)) ∧ Below w.heap.size w w' := @check_any f; obtain ⟨sn, kp, kc, hcs, kl, kc2, kr⟩ := IsV.kids h; have hlen := h.len; have hbel : Below w.heap.size w (w.alloc (.cells cs.toArray 82)) := (Below.refl _ w).alloc (Nat.le_refl _) _; have hR : VBlk 82 (w.alloc (.cells cs.toArray 82)) w.heap.size cs := VBlk.mk w _ _; have h1 := h.below hbel; have HF := Hid2.mk (shape_any (f := f + 1) (v := v) h1); have HR := Hid2.mk hR; have HB := Hid2.mk hbel; have Hkr := Hid2.mk kr; have c5 := hR.cell 5 (by subst hcs; simp); have hinf : (Tryz.prog.info? 82).map (·.size) = some cs.toArray.size := by rw [infoValue]; simp [hlen]
    have Hih := Hid2.mk @ih; clear h hbel hR h1 kr ih; cases m with
    | zero =>
      have hd1 : 16 < d := by omega
      clear hd; clear hinf HF Hih; subst hcs; simp only [List.getD_cons_zero, List.getD_cons_succ] at c5
      go_enter Tryz.func144, Tryz.ntmps144
      go_wp2_with fail
      go_ret
      exact ⟨rfl, HB.out⟩
    | succ m =>
      have hd1 : d ≤ 16 := by omega
      have hd2 : 1 ≤ d := by omega
      have hd3 : d + 1 = 17 - (m : Int) := by omega
      have Hd3 := Hid2.mk hd3; have Hm := Hid2.mk (show m ≤ 16 by omega); have Hchk := Hid2.mk (show chk (m + 1) v = if shp v = 0 then firstBad (v.kids.map (chk m)) else shp v from rfl); have Hcl := Hid2.mk hcs; clear hd hm hd3; subst hcs; simp only [List.getD_cons_zero, List.getD_cons_succ] at c5; generalize hS : shp v = S at HF Hchk; generalize chk (m + 1) v = R at Hchk ⊢; clear hS
      by_cases h0 : S = 0
      · have Hr := Hid2.mk (show R = firstBad (v.kids.map (chk m)) by rw [Hchk.out, if_pos h0])
        clear Hchk; rw [h0] at HF; clear h0
        go_enter Tryz.func144, Tryz.ntmps144
        generalize hw1 : World.alloc _ _ = w1 at c5 HF HR HB ⊢
        go_wp2_with (first | (refine Ld.load_on (by rfl) 82 (.tmp 2) rfl w.heap.size rfl 82 _ (0, 0) _ HR.out Tryz.underlying82 rfl hinf ?_) | (go_fit HF.out; rintro e w' ⟨rfl, hbw⟩; have c5' := (hbw.cell (p := ⟨w.heap.size, 5, none⟩) (VBlk.lt HR.out)).trans c5))
        have Hbw := Hid2.mk (HB.out.trans (hbw.mono HB.out.size)); have Hkr1 := Hid2.mk (fun h0 => Hkr.out h0); clear hbw c5 c5' HR hinf
        go_loopw [19] (fun i wr => ∃ k : Nat, k ≤ v.kids.length ∧ i = .int .i64 (k : Nat) ∧ Below w.heap.size w wr ∧ ∀ j, j < k → chk m (v.kids.getD j noV) = 0) (fun i _ => v.kids.length - (intOf i).toNat)
        case atStart => exact ⟨0, Nat.zero_le _, rfl, Hbw.out, fun j hj => absurd hj (by omega)⟩
        case round =>
          clear Hbw; obtain ⟨k, hk, rfl, hbr, hall⟩ := hrel; have Hbr := Hid2.mk hbr; have Hall := Hid2.mk hall; clear hbr hall
          by_cases hkN : k < v.kids.length
          · have hkz : (k : Int) < (v.kids.length : Int) := by omega
            obtain ⟨b, o, rfl, hb, hr⟩ := Hkr.out (by omega); obtain ⟨c, hc6, hci, hcr⟩ := hr k hkN; have Hc1 := Hid2.mk (show wr.rangeAt b (o + k * 6) c from fun i u hu => by rw [Hbr.out.cell (p := ⟨b, o + k * 6 + i, none⟩) hb]; exact hcr i u hu); have Hci := Hid2.mk hci; have hic : (Tryz.prog.info? 82).map (·.size) = some c.length := by rw [infoValue, hc6]
            have hone := IsV.ones hci; have hinf2 : (Tryz.prog.info? 82).map (·.size) = some c.toArray.size := by rw [infoValue]; simp [hc6]
            have hZ : VBlk 82 (wr.alloc (.cells zero6.toArray 82)) wr.heap.size zero6 := VBlk.mk wr _ _; have hZ2 : VBlk 82 ((wr.alloc (.cells zero6.toArray 82)).setRow wr.heap.size c.toArray) wr.heap.size c := hZ.setRow c; have hbz : Below w.heap.size w ((wr.alloc (.cells zero6.toArray 82)).setRow wr.heap.size c.toArray) := below_setRow (Hbr.out.alloc Hbr.out.size _) Hbr.out.size _; have Hca := Hid2.mk (Hih.out m (d + 1) (hci.below hbz) Hm.out Hd3.out); have HZ := Hid2.mk hZ; have HZ2 := Hid2.mk hZ2; have Hbz := Hid2.mk hbz; have Hck := Hid2.mk (show (v.kids.map (chk m)).getD k 0 = chk m (v.kids.getD k noV) from chk_map m v.kids k hkN); generalize hx : chk m (v.kids.getD k noV) = x at Hca Hck; have Hx := Hid2.mk hx; clear hr hcr hci Hkr Hkr1 hZ hZ2 hbz hx
            by_cases hx0 : x = 0
            · obtain rfl := hx0
              go_wp2_with (first | (refine wpList_load_mid rfl 82 (.tmp 21) rfl b (o + k * 6) rfl c _ Hc1.out Tryz.underlying82 rfl hic ?_) | (refine wpList_store_row rfl 82 (.tmp 7) (.tmp 22) rfl wr.heap.size c.toArray rfl rfl 82 zero6.toArray HZ.out hinf2 (by simp [hc6]) hone ?_) | (refine Ld.load_on (by rfl) 82 (.tmp 7) rfl wr.heap.size rfl 82 _ (0, 0) _ HZ2.out Tryz.underlying82 rfl hinf2 ?_) | (go_fit Hca.out; rintro e w' ⟨rfl, hbw⟩))
              refine ⟨⟨k + 1, by omega, rfl, Hbz.out.trans (hbw.mono Hbz.out.size), fun j hj => (Nat.lt_succ_iff_lt_or_eq.1 hj).elim (Hall.out j) (fun e => by rw [e]; exact Hx.out)⟩, ?_⟩
              show v.kids.length - ((k : Int) + 1).toNat < v.kids.length - (k : Int).toNat
              omega
            · have hx0' : (x == 0) = false := beq_eq_false_iff_ne.2 hx0
              go_wp2_with (first | (refine wpList_load_mid rfl 82 (.tmp 21) rfl b (o + k * 6) rfl c _ Hc1.out Tryz.underlying82 rfl hic ?_) | (refine wpList_store_row rfl 82 (.tmp 7) (.tmp 22) rfl wr.heap.size c.toArray rfl rfl 82 zero6.toArray HZ.out hinf2 (by simp [hc6]) hone ?_) | (refine Ld.load_on (by rfl) 82 (.tmp 7) rfl wr.heap.size rfl 82 _ (0, 0) _ HZ2.out Tryz.underlying82 rfl hinf2 ?_) | (go_fit Hca.out; rintro e w' ⟨rfl, hbw⟩))
              go_ret
              refine ⟨?_, Hbz.out.trans (hbw.mono Hbz.out.size)⟩; rw [Hr.out, firstBad_take (i := k) (by rw [List.length_map]; exact hkN) (fun j hj => by rw [chk_map m v.kids j (by omega)]; exact Hall.out j hj) (by rw [Hck.out]; exact hx0), Hck.out]
              rfl
          · obtain rfl : k = v.kids.length := by omega
            have hkz : (v.kids.length : Int) ≤ (v.kids.length : Int) := by omega
            have Hr2 := Hid2.mk (show R = 0 by rw [Hr.out]; exact firstBad_all fun j hj => by rw [List.length_map] at hj; rw [chk_map m v.kids j hj]; exact Hall.out j hj)
            go_wp2_with fail
            go_ret
            exact ⟨by rw [Hr2.out]; rfl, Hbr.out⟩
      · have Hr := Hid2.mk (show R = S by rw [Hchk.out, if_neg h0])
        have h0' : (S == 0) = false := beq_eq_false_iff_ne.2 h0
        go_enter Tryz.func144, Tryz.ntmps144
        go_wp2_with (first | (refine Ld.load_on (by rfl) 82 (.tmp 2) rfl w.heap.size rfl 82 _ (0, 0) _ HR.out Tryz.underlying82 rfl hinf ?_) | (go_fit HF.out; rintro e w' ⟨rfl, hbw⟩))
        go_ret
        exact ⟨by rw [Hr.out]; rfl, HB.out.trans (hbw.mono HB.out.size)⟩

set_option maxHeartbeats 800000 in
theorem Check_any {f : Nat} {w : World} {v : V} {cs : List Value} (h : IsV f w v cs) :
    Calls Tryz.prog 112 #[.agg cs.toArray] w fun e w' => e = .returned (.int .i64 (chk 16 v)) ∧ Below w.heap.size w w' := by
  have hlen := h.len; have hbel : Below w.heap.size w (w.alloc (.cells cs.toArray 82)) := (Below.refl _ w).alloc (Nat.le_refl _) _; have hR : VBlk 82 (w.alloc (.cells cs.toArray 82)) w.heap.size cs := VBlk.mk w _ _; have HF := Hid2.mk (check_any (f := f) (v := v) 16 1 (h.below hbel) (by omega) (by omega)); have HR := Hid2.mk hR; have HB := Hid2.mk hbel; have hinf : (Tryz.prog.info? 82).map (·.size) = some cs.toArray.size := by rw [infoValue]; simp [hlen]
  clear h hbel hR hlen
  go_enter Tryz.func112, Tryz.ntmps112
  go_wp2_with (first | (refine Ld.load_on (by rfl) 82 (.tmp 1) rfl w.heap.size rfl 82 _ (0, 0) _ HR.out Tryz.underlying82 rfl hinf ?_) | (go_fit HF.out; rintro e w' ⟨rfl, hbw⟩))
  go_ret
  exact ⟨rfl, HB.out.trans (hbw.mono HB.out.size)⟩
end Vl
end Go.Proofs.YtpfkcfaifleliaaGreat

namespace Go.Proofs.YtpfkcfaifleliaaGreat
open Go.RowKit
namespace K
def readV (en : Bool) (l : List Int) : Rd V := match rdV 16 l with
  | .bad e => .bad e
  | .ok v r => if chk 16 v ≠ 0 then .bad (chk 16 v) else if en = true ∧ 0 < r.length then .bad 3 else if 65536 < l.length - r.length then .bad 5 else .ok v r
section
variable {w0 wx wy : World} {vb rb xb : Nat} {l3 : List Int} {x : V} {cs : List Value} {e e' : Int}
end

end K
end Go.Proofs.YtpfkcfaifleliaaGreat

namespace Go.Proofs.YtpfkcfaifleliaaGreat
open Go.RowKit
namespace K

theorem encV_two {m : Nat} {v : V} : encV (m + 1) v = v.k ::
    (if v.k = 2 then [v.n] else if v.k = 3 then uvB (zig v.n) else if v.k = 4 then uvB (zig v.n) ++ [v.s] else if v.k = 5 then uvB v.n.toNat
     else if v.k = 6 ∨ v.k = 7 then uvB v.t.size ++ byI v.t
     else if v.k = 8 ∨ v.k = 9 then uvB v.kids.length ++ (List.range v.kids.length).flatMap (pieceE (encV m) (decide (v.k = 9)) v.names v.kids) else []) := rfl
set_option maxHeartbeats 16000000 in
theorem clay_any (m : Nat) (ih : ∀ {f : Nat} {w0 w : World} {v : V} {cs : List Value} {b : Value} {l : List Int}, IsV f w0 v cs → chk m v = 0 → Bu w b l → Apart w0 w b → l.length + (encV m v).length ≤ 70368744177664 →
      Calls Tryz.prog 113 #[b, .agg cs.toArray] w fun e w' => ∃ b', e = .returned b' ∧ Bu w' b' (l ++ encV m v) ∧ Grow w b w' b') {f : Nat} {w0 w : World} {v : V} {cs : List Value} {b : Value} {l : List Int}
    (hv : IsV f w0 v cs) (hc : chk (m + 1) v = 0) (hb : Bu w b l) (ha : Apart w0 w b) (hm : l.length + (encV (m + 1) v).length ≤ 70368744177664) :
    Calls Tryz.prog 113 #[b, .agg cs.toArray] w fun e w' => ∃ b', e = .returned b' ∧ Bu w' b' (l ++ encV (m + 1) v) ∧ Grow w b w' b' := by
  obtain ⟨hk, f2, f3, f4, f5, fk, ft, f9⟩ := shp_form (chk_shp hc); cases f with
  | zero => exact hv.elim
  | succ f =>
  obtain ⟨sn, sk, rfl, wk, wn, ws, -, hnames, hkids⟩ := hv; have hkey := encV_two (m := m) (v := v); rw [hkey] at hm; have hn : -9223372036854775808 ≤ v.n ∧ v.n ≤ 9223372036854775807 := by simp [Lit.wf, IntKind.min, IntKind.max, IntKind.bits, IntKind.signed] at wn; omega
  have hzl := zig_lt hn; refine enter (args := [b, .agg (six v sn sk).toArray]) Tryz.func113 rfl Tryz.ntmps113 rfl ?_; refine K.kgo ?_; refine WL.box rfl rfl rfl rfl rfl fun bb w1 hf => ?_; have hfb : Fresh w bb w1 47 [b] := by obtain ⟨sp, c, rfl, -, -⟩ := hb.form; exact hf
  clear hf; have hbb : bb = w.heap.size := hfb.eq; refine WL.box rfl rfl rfl rfl rfl fun g w2 hf => ?_; have hfg : Fresh w1 g w2 82 (six v sn sk) := hf; clear hf; have hgb : g = bb + 1 := by rw [hfg.eq, hfb.size, hbb]
  have hbw : ∀ x, b.ownBlock = some x → x < w.heap.size := hb.lt; have hbx : Bx bb w2 b l := ⟨(hfb.blk.below hfg.below hfb.blk.lt), (hb.below hfb.below).below hfg.below, fun e => by have := hbw _ e; omega⟩; have hblk : VBlk 82 w2 g (six v sn sk) := hfg.blk; have hgo : b.ownBlock ≠ some g := fun e => by have := hbw _ e; omega
  have hw12 : Below w.heap.size w w2 := hfb.below.trans (hfg.below.mono hfb.below.size); have hsz2 : w2.heap.size = w.heap.size + 2 := by rw [hfg.size, hfb.size]
  clear hfb hfg
  -- what stands while the own row grows
  have hR : ∀ {wk vk}, GrowB bb w2 b wk vk → VBlk 82 wk g (six v sn sk) := fun h => (Bx.keep h hblk hgo (by omega)).1; have hA : ∀ {wk vk}, GrowB bb w2 b wk vk → Apart w0 wk vk := fun {wk vk} h => by
    refine ⟨?_, fun x hx => (h.2 x hx).elim (fun h2 => ha.own x h2) (fun h2 => by have := ha.below.size; omega)⟩; have h1 : Below w0.heap.size w0 w2 := ha.below.trans (hw12.mono ha.below.size); refine h1.trans ((h.1.mono fun x (hx : x < w0.heap.size) => ⟨Nat.lt_of_lt_of_le hx h1.size, fun e => by have := ha.own x e; omega, by have := ha.below.size; omega⟩).below)
  have hG : ∀ {wk vk}, GrowB bb w2 b wk vk → Grow w b wk vk := fun {wk vk} h => by
    refine ⟨?_, fun x hx => (h.2 x hx).imp id (fun h2 => by omega)⟩; have h1 : Keep (fun x => x < w.heap.size ∧ b.ownBlock ≠ some x) w w2 := (Keep.of_below hw12).mono fun _ h => h.1; exact h1.trans (h.1.mono fun x hx => ⟨by omega, hx.2, by omega⟩)
  have g0 : GrowB bb w2 b w2 b := GrowB.refl _ _ _; have fin : ∀ {b' w' x}, Bu w' b' (l ++ v.k :: x) → GrowB bb w2 b w' b' → (v.k :: x = encV (m + 1) v) → ∃ b'', Ending.returned b' = .returned b'' ∧ Bu w' b'' (l ++ encV (m + 1) v) ∧ Grow w b w' b'' :=
    fun {b' w' x} h1 h2 h3 => ⟨b', rfl, by rw [← h3]; exact h1, hG h2⟩
  have e8 : IntKind.u8.wrap v.k = v.k := by rw [IntKind.wrap_u8]; omega
  have hl1 : l.length + 1 ≤ 70368744177664 := by simp at hm; omega
  refine K.kgo ?_; refine WL.fn (caps := [.tmp 2]) rfl rfl rfl rfl rfl ?_; refine K.kgo ?_; refine WL.load rfl rfl rfl rfl rfl rfl (hbx.blk.cell 0 (by simp)) ?_; refine K.kgo ?_; refine WL.load rfl rfl rfl rfl rfl rfl ((hR g0).cell 0 (by simp)) ?_; refine K.kgo ?_; refine WL.push rfl rfl rfl rfl rfl rfl rfl rfl rfl rfl rfl (fun _ => rfl) rfl hbx.bu (by simp; omega) fun b2 w3 hb2 hg2 => ?_; obtain ⟨hblk3, hbx3, g3⟩ := hbx.put hb2 hg2; refine WL.store rfl rfl rfl rfl rfl hb2.cell1 (by kernel_rfl) (hblk3.cell 0 (by simp)) (hblk3.free 0) ?_; generalize w3.setCell ⟨bb, 0, none⟩ b2 = w4 at hbx3 g3; clear hblk3 hg2 hb2; rw [e8] at hbx3; refine K.kgo ?_; refine WL.load rfl rfl rfl rfl rfl rfl ((hR g3).cell 0 (by simp)) ?_; have hl2 : (l ++ [v.k]).length = l.length + 1 := by simp
  have hL0 : ∀ x, l ++ v.k :: x = (l ++ [v.k]) ++ x := fun x => by simp
  generalize hL : l ++ [v.k] = L at hbx3 hl2 hL0; have hl3 : L.length + (encV (m + 1) v).length ≤ 70368744177664 + 1 := by rw [hkey]; simp at hm ⊢; omega
  by_cases k1 : v.k = 1
  · refine K.kgo ?_
    refine WL.load rfl rfl rfl rfl rfl rfl (hbx3.blk.cell 0 (by simp)) ?_; refine K.kgo ?_; refine WQ.ret1 rfl rfl (fin (x := []) (by rw [hL0, List.append_nil]; exact hbx3.bu) g3 ?_); rw [hkey]; simp [k1]
  by_cases k2 : v.k = 2
  · have hx := f2 k2
    have e8 : IntKind.u8.wrap v.n = v.n := by rw [IntKind.wrap_u8]; omega
    have hkx : encV (m + 1) v = v.k :: [v.n] := by rw [hkey, if_pos k2]
    rw [hkx] at hl3; simp at hl3
    refine K.kgo ?_; refine WL.load rfl rfl rfl rfl rfl rfl (hbx3.blk.cell 0 (by simp)) ?_; refine K.kgo ?_; refine WL.load rfl rfl rfl rfl rfl rfl ((hR g3).cell 1 (by simp)) ?_; refine K.kgo ?_; refine WL.push rfl rfl rfl rfl rfl rfl rfl rfl rfl rfl rfl (fun _ => rfl) rfl hbx3.bu (by simp; omega) fun b3 w5 hb3 hg3 => ?_; obtain ⟨hblk4, hbx4, g4⟩ := hbx3.put hb3 hg3; refine WL.store rfl rfl rfl rfl rfl hb3.cell1 (by kernel_rfl) (hblk4.cell 0 (by simp)) (hblk4.free 0) ?_; generalize w5.setCell ⟨bb, 0, none⟩ b3 = w6 at hbx4 g4; refine K.kgo ?_; refine WL.load rfl rfl rfl rfl rfl rfl (hbx4.blk.cell 0 (by simp)) ?_; refine K.kgo ?_; refine WQ.ret1 rfl rfl (fin (x := [v.n]) ?_ (g3.trans g4) hkx.symm); rw [hL0, ← e8]; exact hbx4.bu
  by_cases k3 : v.k = 3
  · have hkx : encV (m + 1) v = v.k :: uvB (zig v.n) := by rw [hkey, if_neg k2, if_pos k3]
    rw [hkx] at hl3; simp at hl3
    refine K.kgo ?_; refine WL.load rfl rfl rfl rfl rfl rfl ((hR g3).cell 1 (by simp)) ?_; refine K.kgo ?_; refine WL.call rfl rfl rfl rfl rfl Tryz.func76 rfl (by kernel_rfl) (zig_any v.n hn w4) ?_; rintro e _ ⟨rfl, rfl⟩; refine ⟨_, rfl, ?_⟩; refine WL.callF (args := [.tmp 30]) rfl rfl rfl rfl rfl rfl Tryz.func145 rfl (by kernel_rfl) (lay1_any hzl hbx3 (by omega)) ?_; rintro e w6 ⟨rfl, b4, hbx4, g4⟩; refine ⟨_, rfl, ?_⟩; refine K.kgo ?_; refine WL.load rfl rfl rfl rfl rfl rfl (hbx4.blk.cell 0 (by simp)) ?_; refine K.kgo ?_; exact WQ.ret1 rfl rfl (fin (by rw [hL0]; exact hbx4.bu) (g3.trans g4) hkx.symm)
  by_cases k4 : v.k = 4
  · have hx := f4 k4
    have e8 : IntKind.u8.wrap v.s = v.s := by rw [IntKind.wrap_u8]; omega
    have hkx : encV (m + 1) v = v.k :: (uvB (zig v.n) ++ [v.s]) := by rw [hkey, if_neg k2, if_neg k3, if_pos k4]
    rw [hkx] at hl3; simp at hl3
    refine K.kgo ?_; refine WL.load rfl rfl rfl rfl rfl rfl ((hR g3).cell 1 (by simp)) ?_; refine K.kgo ?_; refine WL.call rfl rfl rfl rfl rfl Tryz.func76 rfl (by kernel_rfl) (zig_any v.n hn w4) ?_; rintro e _ ⟨rfl, rfl⟩; refine ⟨_, rfl, ?_⟩; refine WL.callF (args := [.tmp 37]) rfl rfl rfl rfl rfl rfl Tryz.func145 rfl (by kernel_rfl) (lay1_any hzl hbx3 (by omega)) ?_; rintro e w6 ⟨rfl, b4, hbx4, g4⟩; refine ⟨_, rfl, ?_⟩; have g34 := g3.trans g4; refine K.kgo ?_; refine WL.load rfl rfl rfl rfl rfl rfl (hbx4.blk.cell 0 (by simp)) ?_; refine K.kgo ?_; refine WL.load rfl rfl rfl rfl rfl rfl ((hR g34).cell 2 (by simp)) ?_; refine K.kgo ?_; refine WL.push rfl rfl rfl rfl rfl rfl rfl rfl rfl rfl rfl (fun _ => rfl) rfl hbx4.bu (by simp; omega) fun b5 w7 hb5 hg5 => ?_; obtain ⟨hblk5, hbx5, g5⟩ := hbx4.put hb5 hg5; refine WL.store rfl rfl rfl rfl rfl hb5.cell1 (by kernel_rfl) (hblk5.cell 0 (by simp)) (hblk5.free 0) ?_; generalize w7.setCell ⟨bb, 0, none⟩ b5 = w8 at hbx5 g5; refine K.kgo ?_; refine WL.load rfl rfl rfl rfl rfl rfl (hbx5.blk.cell 0 (by simp)) ?_; refine K.kgo ?_; refine WQ.ret1 rfl rfl (fin (x := uvB (zig v.n) ++ [v.s]) ?_ (g34.trans g5) hkx.symm); rw [hL0, ← List.append_assoc, ← e8]; exact hbx5.bu
  by_cases k5 : v.k = 5
  · have hx := f5 k5
    have e8 : IntKind.u64.wrap v.n = (v.n.toNat : Int) := by rw [IntKind.wrap_u64]; omega
    have hkx : encV (m + 1) v = v.k :: uvB v.n.toNat := by rw [hkey, if_neg k2, if_neg k3, if_neg k4, if_pos k5]
    rw [hkx] at hl3; simp at hl3
    refine K.kgo ?_; refine WL.load rfl rfl rfl rfl rfl rfl ((hR g3).cell 1 (by simp)) ?_; refine K.kgo ?_; refine WL.callF (args := [.tmp 50]) rfl rfl rfl rfl rfl rfl Tryz.func145 rfl (by kernel_rfl) (by rw [e8]; exact lay1_any (by omega) hbx3 (by omega)) ?_; rintro e w6 ⟨rfl, b4, hbx4, g4⟩; refine ⟨_, rfl, ?_⟩; refine K.kgo ?_; refine WL.load rfl rfl rfl rfl rfl rfl (hbx4.blk.cell 0 (by simp)) ?_; refine K.kgo ?_; exact WQ.ret1 rfl rfl (fin (by rw [hL0]; exact hbx4.bu) (g3.trans g4) hkx.symm)
  by_cases k67 : v.k = 6 ∨ v.k = 7
  · have e8 : IntKind.u64.wrap (v.t.size : Int) = ((v.t.size : Nat) : Int) := by rw [IntKind.wrap_u64]; omega
    have hkx : encV (m + 1) v = v.k :: (uvB v.t.size ++ byI v.t) := by rw [hkey, if_neg k2, if_neg k3, if_neg k4, if_neg k5, if_pos k67]
    have hbl := byI_len v.t; rw [hkx] at hl3; simp only [List.length_cons, List.length_append] at hl3; rcases k67 with k6 | k7
    all_goals
      refine K.kgo ?_; refine WL.load rfl rfl rfl rfl rfl rfl ((hR g3).cell 3 (by simp)) ?_; refine K.kgo ?_; refine WL.callF (args := [.tmp 59]) rfl rfl rfl rfl rfl rfl Tryz.func145 rfl (by kernel_rfl) (by rw [e8]; exact lay1_any (by omega) hbx3 (by omega)) ?_; rintro e w6 ⟨rfl, b4, hbx4, g4⟩; refine ⟨_, rfl, ?_⟩; have g34 := g3.trans g4; refine K.kgo ?_; refine WL.load rfl rfl rfl rfl rfl rfl (hbx4.blk.cell 0 (by simp)) ?_; refine K.kgo ?_; refine WL.load rfl rfl rfl rfl rfl rfl ((hR g34).cell 3 (by simp)) ?_; refine WL.appS rfl rfl rfl rfl rfl hbx4.bu rfl (by rw [List.length_append]; omega) fun b5 w7 hb5 hg5 => ?_; obtain ⟨hblk5, hbx5, g5⟩ := hbx4.put hb5 hg5; refine WL.store rfl rfl rfl rfl rfl hb5.cell1 (by kernel_rfl) (hblk5.cell 0 (by simp)) (hblk5.free 0) ?_; generalize w7.setCell ⟨bb, 0, none⟩ b5 = w8 at hbx5 g5; refine K.kgo ?_; refine WL.load rfl rfl rfl rfl rfl rfl (hbx5.blk.cell 0 (by simp)) ?_; refine K.kgo ?_; refine WQ.ret1 rfl rfl (fin (x := uvB v.t.size ++ byI v.t) ?_ (g34.trans g5) hkx.symm); rw [hL0, ← List.append_assoc]; exact hbx5.bu
  have k89 : v.k = 8 ∨ v.k = 9 := by omega
  obtain ⟨sp, cap, rfl, hcap1, hcap2, hrow⟩ := hkids; have hkx : encV (m + 1) v = v.k :: (uvB v.kids.length ++ (List.range v.kids.length).flatMap (pieceE (encV m) (decide (v.k = 9)) v.names v.kids)) := by rw [hkey, if_neg k2, if_neg k3, if_neg k4, if_neg k5, if_neg k67, if_pos k89]
  rw [hkx] at hl3; simp only [List.length_cons, List.length_append] at hl3; have hkid : ∀ j, j < v.kids.length → chk m (v.kids.getD j noV) = 0 := fun j hj => chk_kid hc hj; have round : ∀ i, i + 1 ≤ v.kids.length → ((List.range i).flatMap (pieceE (encV m) (decide (v.k = 9)) v.names v.kids)).length + (pieceE (encV m) (decide (v.k = 9)) v.names v.kids i).length ≤ ((List.range v.kids.length).flatMap (pieceE (encV m) (decide (v.k = 9)) v.names v.kids)).length := fun i hi => by
    have := range_len_le (pieceE (encV m) (decide (v.k = 9)) v.names v.kids) hi; rw [range_piece, List.length_append] at this; exact this
  have eK : IntKind.u64.wrap (v.kids.length : Int) = ((v.kids.length : Nat) : Int) := by rw [IntKind.wrap_u64]; omega
  have huk : (uvB v.kids.length).length ≤ 10 := uvF_len 10 _; have hL1 : ∀ x, l ++ v.k :: (uvB v.kids.length ++ x) = (L ++ uvB v.kids.length) ++ x := fun x => by rw [hL0, List.append_assoc]
  rcases k89 with k8 | k9
  · rw [show decide (v.k = 9) = false from decide_eq_false (by omega)] at hkx hl3 round
    refine K.kgo ?_; refine WL.load rfl rfl rfl rfl rfl rfl ((hR g3).cell 5 (by simp)) ?_; refine K.kgo ?_; refine WL.callF (args := [.tmp 72]) rfl rfl rfl rfl rfl rfl Tryz.func145 rfl (by kernel_rfl) (by rw [eK]; exact lay1_any (by omega) hbx3 (by omega)) ?_; rintro e w6 ⟨rfl, b4, hbx4, g4⟩; refine ⟨_, rfl, ?_⟩; have g34 := g3.trans g4; have hLl : (L ++ uvB v.kids.length).length = L.length + (uvB v.kids.length).length := List.length_append; generalize L ++ uvB v.kids.length = M at hbx4 hL1 hLl; refine K.kgo ?_; refine WL.load rfl rfl rfl rfl rfl rfl ((hR g34).cell 5 (by simp)) ?_; refine K.kgo ?_; refine WC.loop (fun i : Nat × Value => [(2, .pointer (some ⟨bb, 0, none⟩)), (3, .pointer (some ⟨g, 0, none⟩)), (5, .func (.func 145) #[] #[.pointer (some ⟨bb, 0, none⟩)]), (75, .slice sp v.kids.length cap), (76, .int .i64 v.kids.length), (77, .int .i64 i.1)])
      (fun i w' => i.1 ≤ v.kids.length ∧ Bx bb w' i.2 (M ++ (List.range i.1).flatMap (pieceE (encV m) false v.names v.kids)) ∧ GrowB bb w2 b w' i.2) (fun i => v.kids.length - i.1) (0, b4)
      ⟨rfl, rfl, rfl, rfl, rfl, rfl, trivial⟩ ⟨Nat.zero_le _, by simpa using hbx4, g34⟩ ?_
    rintro ⟨i, br⟩ wr ⟨hi, hbr, hgr⟩; simp only at hi hbr hgr ⊢
    by_cases hik : i < v.kids.length
    · obtain ⟨kb, ko, rfl, hkb, hcells⟩ := hrow (by omega)
      obtain ⟨c, hc6, hci, hcr⟩ := hcells i hik; have har := hA hgr; have hcr' : wr.rangeAt kb (ko + i * 6) c := fun j u hu => by rw [har.below.cell (p := ⟨kb, ko + i * 6 + j, none⟩) hkb]; exact hcr j u hu
      have hro := round i hik; refine K.kgo ?_; refine WL.idx i (ko + i * 6) rfl rfl rfl rfl rfl rfl rfl rfl hik rfl ?_; refine WL.loadMid rfl rfl rfl rfl rfl rfl hcr' hc6 ?_; refine WL.alloc (z := .agg #[.int .i64 0, .int .i64 0, .int .i64 0, .string ByteArray.empty, .slice none 0 0, .slice none 0 0]) rfl rfl rfl rfl (fun _ => by kernel_rfl) fun g2 w7 hf2 => ?_; refine K.kgo ?_; refine WL.storeRow rfl rfl rfl rfl rfl rfl hf2.blk hc6 rfl (IsV.one hci) ?_; have hb3 : Below wr.heap.size wr (w7.setRow g2 c.toArray) := below_setRow hf2.below (by rw [hf2.eq]; exact Nat.le_refl _) _; have hblk7 : VBlk 82 (w7.setRow g2 c.toArray) g2 c := hf2.blk.setRow c; have hg2e := hf2.eq; generalize w7.setRow g2 c.toArray = w8 at hb3 hblk7; have hbx8 : Bx bb w8 br _ := hbr.below hb3; have hg8 : GrowB bb w2 b w8 br := hgr.below hb3; have hg2o : br.ownBlock ≠ some g2 := fun e => by have := hbr.bu.lt _ e; omega
      have hg2b : g2 ≠ bb := by have := hbr.blk.lt; omega
      refine K.kgo ?_; refine WL.load rfl rfl rfl rfl rfl rfl ((hR hg8).cell 0 (by simp)) ?_; have hpc : pieceE (encV m) false v.names v.kids i = encV m (v.kids.getD i noV) := rfl; rw [hpc] at hro; refine K.kgo ?_; refine WL.load rfl rfl rfl rfl rfl rfl (hbx8.blk.cell 0 (by simp)) ?_; refine WL.loadMid rfl rfl rfl rfl rfl rfl (VBlk.rangeAt hblk7) hc6 ?_; refine WL.call rfl rfl rfl rfl rfl Tryz.func113 rfl (by kernel_rfl) (ih (w0 := w0) hci (hkid i hik) hbx8.bu (hA hg8) (by rw [List.length_append]; omega)) ?_; rintro e w13 ⟨b13, rfl, hb13, hg13⟩; refine ⟨_, rfl, ?_⟩; obtain ⟨hblk13, hbx14, hg14⟩ := hbx8.put hb13 hg13; refine WL.store rfl rfl rfl rfl rfl hb13.cell1 (by kernel_rfl) (hblk13.cell 0 (by simp)) (hblk13.free 0) ?_; generalize w13.setCell ⟨bb, 0, none⟩ b13 = w14 at hbx14 hg14; refine K.kgo ?_; refine WQ.again (i + 1, b13) ⟨rfl, rfl, rfl, rfl, rfl, rfl, trivial⟩ ⟨hik, ?_, hg8.trans hg14⟩ (by show v.kids.length - (i + 1) < v.kids.length - i; omega)
      show Bx bb w14 b13 (M ++ (List.range (i + 1)).flatMap _)
      rw [range_piece, hpc, ← List.append_assoc]; exact hbx14
    · obtain rfl : i = v.kids.length := by omega
      refine K.kgo ?_; refine WL.load rfl rfl rfl rfl rfl rfl (hbr.blk.cell 0 (by simp)) ?_; refine K.kgo ?_; exact WQ.ret1 rfl rfl (fin (by rw [hL1]; exact hbr.bu) hgr hkx.symm)
  · rw [show decide (v.k = 9) = true from decide_eq_true k9] at hkx hl3 round
    obtain ⟨np, nc, rfl, nl, nc2, nsz, nr⟩ := hnames; have hnk := (f9 k9).1; refine K.kgo ?_; refine WL.load rfl rfl rfl rfl rfl rfl ((hR g3).cell 5 (by simp)) ?_; refine K.kgo ?_; refine WL.callF (args := [.tmp 72]) rfl rfl rfl rfl rfl rfl Tryz.func145 rfl (by kernel_rfl) (by rw [eK]; exact lay1_any (by omega) hbx3 (by omega)) ?_; rintro e w6 ⟨rfl, b4, hbx4, g4⟩; refine ⟨_, rfl, ?_⟩; have g34 := g3.trans g4; have hLl : (L ++ uvB v.kids.length).length = L.length + (uvB v.kids.length).length := List.length_append; generalize L ++ uvB v.kids.length = M at hbx4 hL1 hLl; refine K.kgo ?_; refine WL.load rfl rfl rfl rfl rfl rfl ((hR g34).cell 5 (by simp)) ?_; refine K.kgo ?_; refine WC.loop (fun i : Nat × Value => [(2, .pointer (some ⟨bb, 0, none⟩)), (3, .pointer (some ⟨g, 0, none⟩)), (5, .func (.func 145) #[] #[.pointer (some ⟨bb, 0, none⟩)]), (75, .slice sp v.kids.length cap), (76, .int .i64 v.kids.length), (77, .int .i64 i.1)])
      (fun i w' => i.1 ≤ v.kids.length ∧ Bx bb w' i.2 (M ++ (List.range i.1).flatMap (pieceE (encV m) true v.names v.kids)) ∧ GrowB bb w2 b w' i.2) (fun i => v.kids.length - i.1) (0, b4)
      ⟨rfl, rfl, rfl, rfl, rfl, rfl, trivial⟩ ⟨Nat.zero_le _, by simpa using hbx4, g34⟩ ?_
    rintro ⟨i, br⟩ wr ⟨hi, hbr, hgr⟩; simp only at hi hbr hgr ⊢
    by_cases hik : i < v.kids.length
    · obtain ⟨kb, ko, rfl, hkb, hcells⟩ := hrow (by omega)
      obtain ⟨c, hc6, hci, hcr⟩ := hcells i hik; have har := hA hgr; have hcr' : wr.rangeAt kb (ko + i * 6) c := fun j u hu => by rw [har.below.cell (p := ⟨kb, ko + i * 6 + j, none⟩) hkb]; exact hcr j u hu
      have hro := round i hik; refine K.kgo ?_; refine WL.idx i (ko + i * 6) rfl rfl rfl rfl rfl rfl rfl rfl hik rfl ?_; refine WL.loadMid rfl rfl rfl rfl rfl rfl hcr' hc6 ?_; refine WL.alloc (z := .agg #[.int .i64 0, .int .i64 0, .int .i64 0, .string ByteArray.empty, .slice none 0 0, .slice none 0 0]) rfl rfl rfl rfl (fun _ => by kernel_rfl) fun g2 w7 hf2 => ?_; refine K.kgo ?_; refine WL.storeRow rfl rfl rfl rfl rfl rfl hf2.blk hc6 rfl (IsV.one hci) ?_; have hb3 : Below wr.heap.size wr (w7.setRow g2 c.toArray) := below_setRow hf2.below (by rw [hf2.eq]; exact Nat.le_refl _) _; have hblk7 : VBlk 82 (w7.setRow g2 c.toArray) g2 c := hf2.blk.setRow c; have hg2e := hf2.eq; generalize w7.setRow g2 c.toArray = w8 at hb3 hblk7; have hbx8 : Bx bb w8 br _ := hbr.below hb3; have hg8 : GrowB bb w2 b w8 br := hgr.below hb3; have hg2o : br.ownBlock ≠ some g2 := fun e => by have := hbr.bu.lt _ e; omega
      have hg2b : g2 ≠ bb := by have := hbr.blk.lt; omega
      refine K.kgo ?_; refine WL.load rfl rfl rfl rfl rfl rfl ((hR hg8).cell 0 (by simp)) ?_; obtain ⟨nb, no, rfl, hnb, hnr⟩ := nr (by omega); have hnc := hnr i (by omega); have hns : (v.names.getD i noT).size ≤ 40 := (f9 k9).2 _ (by simp [show i < v.names.length by omega]); have hpc : pieceE (encV m) true v.names v.kids i = (uvB (v.names.getD i noT).size ++ byI (v.names.getD i noT)) ++ encV m (v.kids.getD i noV) := rfl; rw [hpc] at hro; have hbl := byI_len (v.names.getD i noT); simp only [List.length_append] at hro; have eN : IntKind.u64.wrap ((v.names.getD i noT).size : Int) = (((v.names.getD i noT).size : Nat) : Int) := by rw [IntKind.wrap_u64]; omega
      have hA8 := hA hg8; refine K.kgo ?_; refine WL.load rfl rfl rfl rfl rfl rfl ((hR hg8).cell 4 (by simp)) ?_; refine K.kgo ?_; refine WL.idx i (no + i) rfl rfl rfl rfl rfl rfl rfl rfl (by omega) (by omega) ?_; refine WL.load rfl rfl rfl rfl rfl rfl ((hA8.below.cell (p := ⟨nb, no + i, none⟩) hnb).trans hnc) ?_; refine K.kgo ?_; refine WL.callF (args := [.tmp 92]) rfl rfl rfl rfl rfl rfl Tryz.func145 rfl (by kernel_rfl) (by rw [eN]; exact lay1_any (by omega) hbx8 (by rw [List.length_append]; omega)) ?_; rintro e w9 ⟨rfl, b9, hbx9, g9⟩; refine ⟨_, rfl, ?_⟩; have hg9 := hg8.trans g9; obtain ⟨hblk9, ho9⟩ := Bx.keep g9 hblk7 hg2o hg2b; have hA9 := hA hg9; refine K.kgo ?_; refine WC.drawn 7 (fun wx => Below w0.heap.size w0 wx ∧ VBlk 47 wx bb [b9] ∧ VBlk 82 wx g (six v (.slice (some ⟨nb, no, none⟩) v.names.length nc) (.slice (some ⟨kb, ko, none⟩) v.kids.length cap))) fun w10 hd10 => ?_; have hS : Below w0.heap.size w0 w10 ∧ VBlk 47 w10 bb [b9] ∧ VBlk 82 w10 g (six v (.slice (some ⟨nb, no, none⟩) v.names.length nc) (.slice (some ⟨kb, ko, none⟩) v.kids.length cap)) :=
        ⟨hA9.below.trans (hd10.below _), hbx9.blk.below (hd10.below _) hbx9.blk.lt, (hR hg9).below (hd10.below _) (hR hg9).lt⟩
      have hbx10 : Bx bb w10 b9 _ := hbx9.below (hd10.below _); have hg10 := hg9.below (hd10.below _); have hblk10 : VBlk 82 w10 g2 c := hblk9.below (hd10.below _) hblk9.lt; refine K.wl 0 [6, 7] rfl rfl rfl rfl rfl rfl rfl (fun wx hx => hx.2.1.cell 0 (by simp)) hS ?_; refine K.fr [1] hS ?_; refine K.wl 2 [4, 5, 6, 7] rfl rfl rfl rfl rfl rfl rfl (fun wx hx => hx.2.2.cell 4 (by simp)) hS ?_; refine K.fr [3] hS ?_; refine K.wi 4 i (no + i) rfl rfl rfl rfl rfl rfl rfl rfl rfl (by omega) (by omega) (.inr hS) ?_; refine K.wl 5 [6, 7] rfl rfl rfl rfl rfl rfl rfl (fun wx hx => (hx.1.cell (p := ⟨nb, no + i, none⟩) hnb).trans hnc) hS ?_; refine K.wo 6 ?_; refine WL.appS rfl rfl rfl rfl rfl hbx10.bu rfl (by rw [List.length_append, List.length_append]; omega) fun b11 w11 hb11 hg11 => ?_; obtain ⟨hblk11, hbx12, hg12⟩ := hbx10.put hb11 hg11; have hg11' : GrowB bb w10 b9 w11 b11 := hg11.box; refine WL.nil (WQ.dk (.inr ⟨(hA (hg10.trans hg11')).below, hblk11, hR (hg10.trans hg11')⟩) ?_); refine K.wo 7 ?_; refine WL.store rfl rfl rfl rfl rfl hb11.cell1 (by kernel_rfl) (hblk11.cell 0 (by simp)) (hblk11.free 0) ?_; refine K.dl ?_; refine WD.done (by kernel_rfl) ?_; obtain ⟨hblk12, ho12⟩ := Bx.keep hg12 hblk10 ho9 hg2b; have hg12' := hg10.trans hg12; generalize w11.setCell ⟨bb, 0, none⟩ b11 = w12 at hbx12 hg12 hblk12 hg12'; refine K.kgo ?_; refine WL.load rfl rfl rfl rfl rfl rfl (hbx12.blk.cell 0 (by simp)) ?_; refine WL.loadMid rfl rfl rfl rfl rfl rfl (VBlk.rangeAt hblk12) hc6 ?_; refine WL.call rfl rfl rfl rfl rfl Tryz.func113 rfl (by kernel_rfl) (ih (w0 := w0) hci (hkid i hik) hbx12.bu (hA hg12') (by rw [List.length_append, List.length_append, List.length_append, bytesI_len]; omega)) ?_; rintro e w13 ⟨b13, rfl, hb13, hg13⟩; refine ⟨_, rfl, ?_⟩; obtain ⟨hblk13, hbx14, hg14⟩ := hbx12.put hb13 hg13; refine WL.store rfl rfl rfl rfl rfl hb13.cell1 (by kernel_rfl) (hblk13.cell 0 (by simp)) (hblk13.free 0) ?_; generalize w13.setCell ⟨bb, 0, none⟩ b13 = w14 at hbx14 hg14; refine K.kgo ?_; refine WQ.again (i + 1, b13) ⟨rfl, rfl, rfl, rfl, rfl, rfl, trivial⟩ ⟨hik, ?_, hg12'.trans hg14⟩ (by show v.kids.length - (i + 1) < v.kids.length - i; omega)
      show Bx bb w14 b13 (M ++ (List.range (i + 1)).flatMap _)
      rw [range_piece, hpc]
      simpa [List.append_assoc, bytesI, byI] using hbx14
    · obtain rfl : i = v.kids.length := by omega
      refine K.kgo ?_; refine WL.load rfl rfl rfl rfl rfl rfl (hbr.blk.cell 0 (by simp)) ?_; refine K.kgo ?_; exact WQ.ret1 rfl rfl (fin (by rw [hL1]; exact hbr.bu) hgr hkx.symm)
theorem clay_all : ∀ (m : Nat) {f : Nat} {w0 w : World} {v : V} {cs : List Value} {b : Value} {l : List Int}, IsV f w0 v cs → chk m v = 0 → Bu w b l → Apart w0 w b → l.length + (encV m v).length ≤ 70368744177664 →
      Calls Tryz.prog 113 #[b, .agg cs.toArray] w fun e w' => ∃ b', e = .returned b' ∧ Bu w' b' (l ++ encV m v) ∧ Grow w b w' b'
  | 0, _, _, _, _, _, _, _, _, h, _, _, _ => by cases h
  | m + 1, _, _, _, _, _, _, _, hv, hc, hb, ha, hm => clay_any m (clay_all m) hv hc hb ha hm
end K
end Go.Proofs.YtpfkcfaifleliaaGreat

namespace Go.Proofs.YtpfkcfaifleliaaGreat
namespace K

def Sml : Nat → V → Prop
  | 0, _ => False
  | f + 1, v => v.names.length ≤ 140737488355328 ∧ v.kids.length ≤ 140737488355328 ∧ ∀ x ∈ v.kids, Sml f x

end K
end Go.Proofs.YtpfkcfaifleliaaGreat

namespace Go.Proofs.YtpfkcfaifleliaaGreat
open Go.RowKit
namespace K

end K
end Go.Proofs.YtpfkcfaifleliaaGreat

namespace Go.Proofs.YtpfkcfaifleliaaGreat
open Go.RowKit
namespace K

def encR (v : V) : List Int × Int := if chk 16 v ≠ 0 then ([], chk 16 v) else if 65536 < (encV 16 v).length then ([], 5) else (encV 16 v, 0)
def EncPost (w : World) (v : V) (e : Ending) (w' : World) : Prop := ∃ b, e = .returned (.tuple #[b, .int .i64 (encR v).2]) ∧ Bu w' b (encR v).1 ∧ Below w.heap.size w w' ∧ ∀ g, b.ownBlock = some g → w.heap.size ≤ g
theorem encode_any {f : Nat} {w : World} {v : V} {cs : List Value} (h : IsV f w v cs) (hlen : chk 16 v = 0 → (encV 16 v).length ≤ 70368744177664) :
    Calls Tryz.prog 77 #[.agg cs.toArray] w (EncPost w v) := by
  have hcs := h.len; refine enter (args := [.agg cs.toArray]) Tryz.func77 rfl Tryz.ntmps77 rfl ?_; refine K.kgo ?_; refine WL.box rfl rfl rfl rfl rfl fun g w1 hf => ?_; have hf' : Fresh w g w1 82 cs := hf; clear hf; have hz1 := hf'.size; have h1 := h.below hf'.below; refine K.kgo ?_; refine WL.loadMid rfl rfl rfl rfl rfl rfl (VBlk.rangeAt hf'.blk) hcs ?_; refine WL.call rfl rfl rfl rfl rfl Tryz.func112 rfl (by kernel_rfl) (Vl.Check_any h1) ?_; rintro _ w2 ⟨rfl, hb2⟩; refine ⟨_, rfl, ?_⟩; have hw2 : Below w.heap.size w w2 := hf'.below.trans (hb2.mono (by omega))
  by_cases hc : chk 16 v = 0
  · refine K.kgo ?_
    refine WL.loadMid rfl rfl rfl rfl rfl rfl (VBlk.rangeAt (hf'.blk.below hb2 hf'.blk.lt)) hcs ?_; refine WL.call rfl rfl rfl rfl rfl Tryz.func113 rfl (by kernel_rfl) (clay_all 16 (h1.below hb2) hc (Bu.nil w2) ⟨Below.refl _ _, fun g hg => by cases hg⟩ (by have := hlen hc; simp only [List.length_nil]; omega)) ?_; rintro _ w3 ⟨b, rfl, hb, hg⟩; refine ⟨_, rfl, ?_⟩; rw [List.nil_append] at hb; obtain ⟨sp, cap, rfl, hl1, hl2⟩ := hb.form; have hw3 : Below w.heap.size w w3 := hw2.trans (hg.old (B := w.heap.size) (hw2.size) fun g h => by cases h)
    by_cases hbig : 65536 < (encV 16 v).length
    · have hr : encR v = ([], 5) := by unfold encR; rw [if_neg (by simpa using hc), if_pos hbig]
      refine K.kgo ?_; exact WQ.ret2 rfl rfl rfl ⟨_, by rw [hr], by rw [hr]; exact Bu.nil _, hw3, fun g hg => by cases hg⟩
    · have hr : encR v = (encV 16 v, 0) := by unfold encR; rw [if_neg (by simpa using hc), if_neg hbig]
      refine K.kgo ?_; exact WQ.ret2 rfl rfl rfl ⟨_, by rw [hr], by rw [hr]; exact hb, hw3, fun g h => (hg.2 g h).elim (fun h2 => by cases h2) fun h2 => by have := hw2.size; omega⟩
  · have hr : encR v = ([], chk 16 v) := by unfold encR; rw [if_pos hc]
    refine K.kgo ?_; exact WQ.ret2 rfl rfl rfl ⟨_, by rw [hr], by rw [hr]; exact Bu.nil _, hw2, fun g hg => by cases hg⟩

theorem uvB_len (u : Nat) : (uvB u).length ≤ 10 := uvF_len 10 u
theorem encR_ok {v : V} (h : (encR v).2 = 0) : chk 16 v = 0 ∧ (encV 16 v).length ≤ 65536 ∧ (encR v).1 = encV 16 v := by
  unfold encR at h ⊢
  by_cases hc : chk 16 v = 0
  · rw [if_neg (by simpa using hc)] at h ⊢
    by_cases hb : 65536 < (encV 16 v).length
    · rw [if_pos hb] at h; cases h
    · rw [if_neg hb]; exact ⟨hc, by omega, rfl⟩
  · rw [if_pos hc] at h; exact absurd h hc
theorem Byt.nil : Byt [] := fun c h => by cases h
theorem Byt.one {c : Int} (h : 0 ≤ c ∧ c ≤ 255) : Byt [c] := fun x hx => by simp at hx; rw [hx]; exact h
theorem Byt.cons {c : Int} {l : List Int} (h : 0 ≤ c ∧ c ≤ 255) (hl : Byt l) : Byt (c :: l) := fun x hx => (List.mem_cons.1 hx).elim (fun e => by rw [e]; exact h) (hl x)
theorem uvF_byt : ∀ (f u : Nat), Byt (uvF f u)
  | 0, _ => Byt.nil
  | f + 1, u => by
    unfold uvF
    split
    · exact Byt.one (by omega)
    · exact Byt.cons (by omega) (uvF_byt f (u / 128))
theorem uvB_byt (u : Nat) : Byt (uvB u) := uvF_byt 10 u
theorem byI_byt (s : ByteArray) : Byt (byI s) := fun c hc => by
  unfold byI at hc; obtain ⟨x, -, rfl⟩ := List.mem_map.1 hc; have := x.toNat_lt; omega
theorem encV_byt : ∀ (m : Nat) {v : V}, chk m v = 0 → Byt (encV m v)
  | 0, _, h => by cases h
  | m + 1, v, h => by
    obtain ⟨hk, f2, f3, f4, f5, fk, ft, f9⟩ := shp_form (chk_shp h); rw [encV_two]; refine Byt.cons (by omega) ?_
    split
    · exact Byt.one (by have := f2 (by assumption); omega)
    split
    · exact uvB_byt _
    split
    · exact (uvB_byt _).app (Byt.one (by have := f4 (by assumption); omega))
    split
    · exact uvB_byt _
    split
    · exact (uvB_byt _).app (byI_byt _)
    split
    · refine (uvB_byt _).app fun c hc => ?_
      obtain ⟨j, hj, hc⟩ := List.mem_flatMap.1 hc; have hj := List.mem_range.1 hj; unfold pieceE at hc; rcases List.mem_append.1 hc with hc | hc
      · split at hc
        · exact (uvB_byt _).app (byI_byt _) c hc
        · cases hc
      · exact encV_byt m (chk_kid h hj) c hc
    · exact Byt.nil
end K
end Go.Proofs.YtpfkcfaifleliaaGreat

namespace Go.Proofs.YtpfkcfaifleliaaGreat
namespace K
def nmB (l : List Int) : List Int := l.flatMap fun n => uvB (zig n)
def vlB (l : List V) : List Int := l.flatMap fun v => uvB (encV 16 v).length ++ encV 16 v
def vlE : List V → Int
  | [] => 0
  | v :: r => if (encR v).2 ≠ 0 then (encR v).2 else vlE r
def headB (m k : Int) (seq : Nat) (nums : List Int) : List Int := m :: k :: (uvB seq ++ (uvB nums.length ++ nmB nums))
def valsB (l : List V) : List Int := uvB l.length ++ vlB l
structure Rq where
  kind : Int
  seq : Int
  nums : List Int
  text : ByteArray
  params : List V
  hash : List Int
def rqB (r : Rq) : List Int := headB 81 r.kind r.seq.toNat r.nums ++ (uvB r.text.size ++ bytesI r.text) ++ valsB r.params ++ r.hash
def rqE (r : Rq) : Int := if r.kind < 1 ∨ 20 < r.kind ∨ r.seq < 0 ∨ 9007199254740992 < r.seq ∨ 8 < r.nums.length then 1 else if 4096 < r.text.size ∨ 40 < r.params.length then 5 else vlE r.params
theorem vlE_mem : ∀ {l : List V}, vlE l = 0 → ∀ v ∈ l, (encR v).2 = 0
  | [], _, v, h => by cases h
  | k :: r, h, v, hv => by
    unfold vlE at h
    by_cases h0 : (encR k).2 ≠ 0
    · rw [if_pos h0] at h; exact absurd h h0
    · rw [if_neg h0] at h
      rcases List.mem_cons.1 hv with rfl | h1
      · omega
      · exact vlE_mem h v h1
theorem vlE_take {l : List V} {i : Nat} (hi : i < l.length) (h : ∀ v ∈ l.take i, (encR v).2 = 0) : (encR (l.getD i noV)).2 ≠ 0 → vlE l = (encR (l.getD i noV)).2 := by
  induction l generalizing i with
  | nil => simp at hi
  | cons k r ih =>
    intro hne; unfold vlE; cases i with
    | zero => simp only [List.getD_cons_zero] at hne ⊢; rw [if_pos hne]
    | succ i =>
      have h0 : (encR k).2 = 0 := h k (by simp); rw [if_neg (by omega)]; simp only [List.getD_cons_succ] at hne ⊢; exact ih (by simpa using hi) (fun v hv => h v (by simp [hv])) hne
theorem vlE_all {l : List V} (h : ∀ v ∈ l, (encR v).2 = 0) : vlE l = 0 := by
  induction l with
  | nil => rfl
  | cons k r ih =>
    unfold vlE; rw [if_neg (by have := h k (by simp); omega)]; exact ih fun v hv => h v (by simp [hv])
theorem vlB_take {l : List V} {i : Nat} (hi : i < l.length) : vlB (l.take (i + 1)) = vlB (l.take i) ++ (uvB (encV 16 (l.getD i noV)).length ++ encV 16 (l.getD i noV)) := by
  unfold vlB; rw [List.take_add_one, List.flatMap_append]; simp [hi]
theorem nmB_take {l : List Int} {i : Nat} (hi : i < l.length) : nmB (l.take (i + 1)) = nmB (l.take i) ++ uvB (zig (nth l i)) := by
  unfold nmB nth; rw [List.take_add_one, List.flatMap_append]; simp [hi]
theorem nmB_len : ∀ (l : List Int), (nmB l).length ≤ 10 * l.length
  | [] => by simp [nmB]
  | k :: r => by
    have := uvB_len (zig k); have h2 := nmB_len r; unfold nmB at h2 ⊢; rw [List.flatMap_cons, List.length_append, List.length_cons]; omega
structure Few (f : Nat) (l : List V) (n : Nat) : Prop where
  len : l.length ≤ 4096
  one : ∀ {v : V}, v ∈ l → chk 16 v = 0 → (encV 16 v).length ≤ 70368744177664
  take : ∀ i : Nat, (∀ v ∈ l.take i, (encR v).2 = 0) → (vlB (l.take i)).length ≤ 200000
theorem Few.bytes {f : Nat} {l : List V} {n : Nat} (h : Few f l n) (h0 : ∀ v ∈ l, (encR v).2 = 0) : (vlB l).length ≤ 200000 := by
  have := h.take l.length; rw [List.take_length] at this; exact this h0
end K
end Go.Proofs.YtpfkcfaifleliaaGreat

namespace Go.Proofs.YtpfkcfaifleliaaGreat
open Go.RowKit
namespace K
abbrev R64w (l : List Int) : Prop := ∀ n ∈ l, -9223372036854775808 ≤ n ∧ n ≤ 9223372036854775807
theorem whead_any {w : World} {nv : Value} {nums : List Int} (m k : Int) (n : Nat) (hn : n ≤ 9007199254740992) (hs : Sl .i64 w nv nums) (h64 : R64w nums) (h8 : nums.length ≤ 8) :
    Calls Tryz.prog 43 #[.int .u8 m, .int .u8 k, .int .i64 (n : Int), nv] w (Makes w (headB m k n nums)) := by
  obtain ⟨sp, cap, rfl, -⟩ := id hs; refine enter (args := [.int .u8 m, .int .u8 k, .int .i64 (n : Int), .slice sp nums.length cap]) Tryz.func43 rfl Tryz.ntmps43 rfl ?_; have hul := uvB_lenw n; refine K.kgo ?_; refine WL.lit rfl rfl rfl rfl rfl rfl rfl fun v w1 h1 h2 h3 => ?_; refine K.kgo ?_; refine WL.call rfl rfl rfl rfl rfl Tryz.func45 rfl (by kernel_rfl) (wcount_any h1 n hn (by simp)) ?_; rintro _ w2 ⟨b2, rfl, q2, g2⟩; refine ⟨_, rfl, ?_⟩; have e2 : [m, k] ++ uvB n = m :: k :: uvB n := rfl; refine K.kgo ?_; refine WL.call rfl rfl rfl rfl rfl Tryz.func45 rfl (by kernel_rfl) (wcount_any q2 nums.length (by omega) (by rw [e2]; simp only [List.length_cons]; omega)) ?_; rintro _ w3 ⟨b3, rfl, q3, g3⟩; refine ⟨_, rfl, ?_⟩; have ap3 : Apart w w3 b3 := (Apart.grow ⟨h2, h3⟩ g2).grow g3; have q3' : Bu w3 b3 (m :: k :: (uvB n ++ (uvB nums.length ++ nmB (nums.take 0)))) := by simpa [nmB] using q3
  clear q3 q2 h1 g2 g3 h2 h3; refine K.kgo ?_; refine WC.loop (fun i : Nat × Value => [(9, i.2), (20, .slice sp nums.length cap), (21, .int .i64 nums.length), (22, .int .i64 i.1)])
    (fun i wr => i.1 ≤ nums.length ∧ Apart w wr i.2 ∧ Bu wr i.2 (m :: k :: (uvB n ++ (uvB nums.length ++ nmB (nums.take i.1))))) (fun i => nums.length - i.1) (0, b3) ⟨rfl, rfl, rfl, rfl, trivial⟩ ⟨Nat.zero_le _, ap3, q3'⟩ ?_
  rintro ⟨i, b⟩ wr ⟨hi, ap, q⟩; simp only at hi ap q ⊢
  by_cases hik : i < nums.length
  · have hr := h64 _ (nth_mem' nums i hik)
    have hzl := zig_lt hr; refine K.kgo ?_; refine WL.idxI i rfl rfl rfl rfl rfl rfl (hs.of_below ap.below) rfl rfl hik fun p hp => ?_; refine K.kgl ?_; refine WL.call rfl rfl rfl rfl rfl Tryz.func76 rfl (by kernel_rfl) (zig_any (nth nums i) hr wr) ?_; rintro _ _ ⟨rfl, rfl⟩; refine ⟨_, rfl, ?_⟩; refine WL.call rfl rfl rfl rfl rfl Tryz.func75 rfl (by kernel_rfl) (uvarint_any (zig (nth nums i)) hzl _) ?_; rintro _ w5 ⟨u, rfl, h5, k5, o5⟩; refine ⟨_, rfl, ?_⟩; have hnl := nmB_len (nums.take i); have hul2 := uvB_lenw nums.length; have hul3 := uvB_lenw (zig (nth nums i)); refine WL.app rfl rfl rfl rfl rfl (q.below k5) rfl h5.sl (by simp only [List.length_cons, List.length_append, List.length_take] at *; omega) fun b6 w6 q6 g6 => ?_; refine K.kgo ?_; refine WQ.again (i + 1, b6) ⟨rfl, rfl, rfl, rfl, trivial⟩ ⟨by show i + 1 ≤ nums.length; omega, ap.grow (((Grow.refl _ b).below k5).trans g6), ?_⟩ (by show nums.length - (i + 1) < nums.length - i; omega)
    show Bu w6 b6 (m :: k :: (uvB n ++ (uvB nums.length ++ nmB (nums.take (i + 1)))))
    rw [nmB_take hik]
    simpa [List.append_assoc] using q6
  · obtain rfl : i = nums.length := by omega
    rw [List.take_length] at q; refine K.kgo ?_; exact WQ.ret1 rfl rfl ⟨b, rfl, q, ap.below, ap.own⟩
def ValsOut (w0 : World) (L : List Int) (l : List V) : Ending → World → Prop := fun e w' => ∃ b, e = .returned (.tuple #[b, .int .i64 (vlE l)]) ∧ Apart w0 w' b ∧ Bu w' b (if vlE l = 0 then L ++ valsB l else [])
set_option maxHeartbeats 1000000 in
theorem wvalues_any {f : Nat} {w0 w : World} {b pv : Value} {L : List Int} {l : List V} {n : Nat} (hl : IsVs f w0 pv l) (hfew : Few f l n) (ap : Apart w0 w b) (hb : Bu w b L) (hL : L.length ≤ 100000) :
    Calls Tryz.prog 44 #[b, pv] w (ValsOut w0 L l) := by
  obtain ⟨sp, cap, rfl, hcap1, hcap2, hrow⟩ := hl; refine enter (args := [b, .slice sp l.length cap]) Tryz.func44 rfl Tryz.ntmps44 rfl ?_; have hl2 := hfew.len; refine K.kgo ?_; refine WL.call rfl rfl rfl rfl rfl Tryz.func45 rfl (by kernel_rfl) (wcount_any hb l.length (by omega) (by omega)) ?_; rintro _ w3 ⟨b3, rfl, q3, g3⟩; refine ⟨_, rfl, ?_⟩; have ap3 := ap.grow g3; have q3' : Bu w3 b3 (L ++ (uvB l.length ++ vlB (l.take 0))) := by simpa [vlB] using q3
  clear q3 g3 ap hb; refine K.kgo ?_; refine WC.loop (fun i : Nat × Value => [(0, i.2), (14, .slice sp l.length cap), (15, .int .i64 l.length), (16, .int .i64 i.1)])
    (fun i wr => i.1 ≤ l.length ∧ Apart w0 wr i.2 ∧ Bu wr i.2 (L ++ (uvB l.length ++ vlB (l.take i.1))) ∧ ∀ v ∈ l.take i.1, (encR v).2 = 0) (fun i => l.length - i.1) (0, b3) ⟨rfl, rfl, rfl, rfl, trivial⟩ ⟨Nat.zero_le _, ap3, q3', by simp⟩ ?_
  rintro ⟨i, b⟩ wr ⟨hi, ap, q, hok⟩; simp only at hi ap q hok ⊢
  by_cases hik : i < l.length
  · obtain ⟨kb, ko, rfl, hkb, hcells⟩ := hrow (by omega)
    obtain ⟨c, hc6, hci, hcr⟩ := hcells i hik; have hmem : l.getD i noV ∈ l := by rw [List.getD_eq_getElem?_getD, List.getElem?_eq_getElem hik]; exact List.getElem_mem hik
    have hvl := hfew.take i hok; have hvt := vlE_take hik hok; have hBt := vlB_take hik; have hone := hfew.one hmem; have hul := uvB_lenw l.length; generalize hvd : l.getD i noV = v at hci hmem hvt hBt hone; replace hvd := hvd.symm; refine K.kgo ?_; refine WL.idx i (ko + i * 6) rfl rfl rfl rfl rfl rfl rfl rfl hik rfl ?_; refine WL.loadMid rfl rfl rfl rfl rfl rfl (fun j u hu => (ap.below.cell (p := ⟨kb, ko + i * 6 + j, none⟩) hkb).trans (hcr j u hu)) hc6 ?_; refine WL.alloc (z := .agg zCells.toArray) rfl rfl rfl rfl (fun _ => by kernel_rfl) fun g w4 hf => ?_; have hf' : Fresh wr g w4 82 zCells := hf; clear hf; refine K.kgo ?_; refine WL.storeRow rfl rfl rfl rfl rfl rfl hf'.blk hc6 (by rfl) (IsV.one hci) ?_; have hk5 : Below wr.heap.size wr (w4.setRow g c.toArray) := below_setRow hf'.below (by rw [hf'.eq]; exact Nat.le_refl _) _; have T5 := hf'.blk.setRow c; generalize w4.setRow g c.toArray = w5 at hk5 T5 ⊢; clear hf'; have hb5 : Below w0.heap.size w0 w5 := ap.below.trans (hk5.mono ap.below.size); refine K.kgo ?_; refine WL.loadMid rfl rfl rfl rfl rfl rfl (VBlk.rangeAt T5) hc6 ?_; refine WL.call rfl rfl rfl rfl rfl Tryz.func77 rfl (by kernel_rfl) (encode_any (hci.below hb5) hone) ?_; rintro _ w6 ⟨b6, rfl, q6, k6, o6⟩; refine ⟨_, rfl, ?_⟩; have k56 : Below wr.heap.size wr w6 := hk5.trans (k6.mono hk5.size); have hq6 := q.below k56; have g6 : Grow wr b w6 b := (Grow.refl wr b).below k56
    by_cases he : (encR v).2 ≠ 0
    · have hE := hvt he
      refine K.kgo ?_; refine WQ.ret2 rfl rfl rfl ⟨.slice none 0 0, ?_, ⟨ap.below.trans (k56.mono ap.below.size), fun g h => by cases h⟩, ?_⟩
      · rw [hE]; rfl
      · rw [if_neg (by rw [hE]; exact he)]; exact Bu.nil _
    · replace he : (encR v).2 = 0 := by omega
      obtain ⟨hc0, h65, hx⟩ := encR_ok he; rw [hx] at q6; rw [he]; obtain ⟨sp6, cap6, rfl, -⟩ := q6.form; refine K.kgo ?_; refine WL.call rfl rfl rfl rfl rfl Tryz.func45 rfl (by kernel_rfl) (wcount_any hq6 (encV 16 v).length (by omega) (by simp only [List.length_append]; omega)) ?_; rintro _ w7 ⟨b7, rfl, q7, g7⟩; refine ⟨_, rfl, ?_⟩; have hk7 : ∀ {x : Value}, (∀ g, x.ownBlock = some g → b.ownBlock ≠ some g) → Bu w6 x (encV 16 v) → Bu w7 x (encV 16 v) := fun hx h => h.keep g7.1 fun g hg => ⟨h.lt g hg, hx g hg⟩; have q67 := hk7 (fun g hg e => by
        have h1 := o6 g hg; have h2 := q.lt g e; have h3 := hk5.size; omega) q6
      refine K.kgo ?_; refine WL.app rfl rfl rfl rfl rfl q7 rfl q67.sl (by simp only [List.length_append]; have := uvB_lenw (encV 16 v).length; omega) fun b8 w8 q8 g8 => ?_; refine K.kgo ?_; refine WQ.again (i + 1, b8) ⟨rfl, rfl, rfl, rfl, trivial⟩ ⟨by show i + 1 ≤ l.length; omega, ap.grow ((g6.trans g7).trans g8), ?_, ?_⟩ (by show l.length - (i + 1) < l.length - i; omega)
      · show Bu w8 b8 (L ++ (uvB l.length ++ vlB (l.take (i + 1))))
        rw [hBt]
        simpa [List.append_assoc] using q8
      · intro x hx
        rw [List.take_add_one, List.mem_append] at hx; rcases hx with h | h
        · exact hok x h
        · have hg : l[i]? = some v := by rw [hvd]; simp [hik]
          rw [hg] at h; simp at h
          rw [h]; exact he
  · obtain rfl : i = l.length := by omega
    rw [List.take_length] at q hok; have hE := vlE_all hok; refine K.kgo ?_; refine WQ.ret2 rfl rfl rfl ⟨b, by rw [hE], ap, ?_⟩; rw [if_pos hE]; exact q
end K
end Go.Proofs.YtpfkcfaifleliaaGreat

namespace Go.Proofs.YtpfkcfaifleliaaGreat
open Go.RowKit
namespace K
def rqC (r : Rq) (nv pv : Value) : List Value := .int .i64 r.kind :: .int .i64 r.seq :: nv :: .string r.text :: pv :: r.hash.map (Value.int .u8)
structure IsRq (f : Nat) (w : World) (r : Rq) (nv pv : Value) : Prop where
  nums : Sl .i64 w nv r.nums
  r64 : R64w r.nums
  params : IsVs f w pv r.params
  hash : r.hash.length = 32
  byt : Frm.Byt r.hash
theorem rq_hash {T g : Nat} {w : World} {r : Rq} {nv pv : Value} (h : VBlk T w g (rqC r nv pv)) (hl : r.hash.length = 32) : Sl .u8 w (.slice (some ⟨g, 0 + 5, none⟩) 32 32) r.hash := by
  have := Sl.mk (k := .u8) (w := w) (b := g) (o := 0 + 5) (cap := 32) (l := r.hash) (by omega) (by omega) h.lt (fun j hj => by
    have h1 := (VBlk.rangeAt h) (5 + j) (.int .u8 (nth r.hash j)) (by unfold rqC; rw [show 5 + j = (j + 1 + 1 + 1 + 1 + 1) by omega]; simp [nth, hj]); rw [show (0 + 5 + j) = 0 + (5 + j) by omega]; exact h1)
  rw [hl] at this; exact this
def FrOut (w : World) (E : Int) (P : List Int) : Ending → World → Prop := fun e w' => ∃ b, e = .returned (.tuple #[b, .int .i64 E]) ∧ Apart w w' b ∧ Bu w' b (if E = 0 then Frm.frameL P else [])
theorem FrOut.bad {w w' : World} {E x : Int} {P : List Int} (h : E = x) (hx : x ≠ 0) (hB : Below w.heap.size w w') : FrOut w E P (.returned (.tuple #[.slice none 0 0, .int .i64 x])) w' :=
  ⟨.slice none 0 0, by rw [h], ⟨hB, fun g h => by cases h⟩, by rw [if_neg (by omega)]; exact Bu.nil _⟩
theorem headB_len (m k : Int) (n : Nat) (nums : List Int) (h : nums.length ≤ 8) : (headB m k n nums).length ≤ 102 := by
  unfold headB; have h1 := uvB_lenw n; have h2 := uvB_lenw nums.length; have h3 := nmB_len nums; simp only [List.length_cons, List.length_append]; omega
theorem nmB_byt (l : List Int) : Frm.Byt (nmB l) := fun c hc => by
  unfold nmB at hc; obtain ⟨n, -, h⟩ := List.mem_flatMap.1 hc; exact uvB_bytw _ c h
theorem headB_byt {m k : Int} (hm : 0 ≤ m ∧ m ≤ 255) (hk : 0 ≤ k ∧ k ≤ 255) (n : Nat) (nums : List Int) : Frm.Byt (headB m k n nums) := fun c hc => by
  unfold headB at hc; simp only [List.mem_cons, List.mem_append] at hc; rcases hc with rfl | rfl | h | h | h
  · exact hm
  · exact hk
  · exact uvB_bytw _ c h
  · exact uvB_bytw _ c h
  · exact nmB_byt _ c h
theorem valsB_byt {l : List V} (h : ∀ v ∈ l, (encR v).2 = 0) : Frm.Byt (valsB l) := fun c hc => by
  unfold valsB vlB at hc; rcases List.mem_append.1 hc with h1 | h1
  · exact uvB_bytw _ c h1
  · obtain ⟨v, hv, h2⟩ := List.mem_flatMap.1 h1
    rcases List.mem_append.1 h2 with h3 | h3
    · exact uvB_bytw _ c h3
    · exact encV_byt 16 (encR_ok (h v hv)).1 c h3
theorem valsB_len {f n : Nat} {l : List V} (h : Few f l n) (h0 : vlE l = 0) : (valsB l).length ≤ 200010 := by
  have h1 := h.bytes (vlE_mem h0); have h2 := uvB_lenw l.length; unfold valsB; rw [List.length_append]; omega
set_option maxHeartbeats 2000000 in
theorem rqenc_any {f n : Nat} {w : World} {r : Rq} {nv pv : Value} (h : IsRq f w r nv pv) (hfew : Few f r.params n) (ht : r.text.size ≤ 100000) :
    Calls Tryz.prog 24 #[.agg (rqC r nv pv).toArray] w (FrOut w (rqE r) (rqB r)) := by
  obtain ⟨⟨kind, seq, nums, text, params, hash⟩, rfl⟩ : ∃ r', r = r' := ⟨r, rfl⟩; obtain ⟨hnums, h64, hpar, hh, hhb⟩ := h; simp only at hnums h64 hpar hh hhb hfew ht; obtain ⟨sn, cn, rfl, -⟩ := id hnums; obtain ⟨sp, cp, rfl, -⟩ := id hpar; refine enter (args := [.agg (rqC ⟨kind, seq, nums, text, params, hash⟩ (.slice sn nums.length cn) (.slice sp params.length cp)).toArray]) Tryz.func24 rfl Tryz.ntmps24 rfl ?_; generalize hr : (⟨kind, seq, nums, text, params, hash⟩ : Rq) = r; have hcells : rqC r (.slice sn nums.length cn) (.slice sp params.length cp) = .int .i64 kind :: .int .i64 seq :: .slice sn nums.length cn :: .string text :: .slice sp params.length cp :: hash.map (Value.int .u8) := by rw [← hr]; rfl
  rw [hcells]; refine K.kgn ?_; refine WL.box rfl rfl rfl rfl rfl fun g w1 hf0 => ?_; have hf : Fresh w g w1 95 (rqC r (.slice sn nums.length cn) (.slice sp params.length cp)) := by rw [hcells]; exact hf0
  clear hf0; have hB := hf.below; have hT0 := hf.blk; have cell : ∀ {wx : World}, VBlk 95 wx g (rqC r (.slice sn nums.length cn) (.slice sp params.length cp)) → wx.cell? ⟨g, 0, none⟩ = some (.int .i64 kind) ∧ wx.cell? ⟨g, 1, none⟩ = some (.int .i64 seq) ∧ wx.cell? ⟨g, 2, none⟩ = some (.slice sn nums.length cn) ∧ wx.cell? ⟨g, 3, none⟩ = some (.string text) ∧ wx.cell? ⟨g, 4, none⟩ = some (.slice sp params.length cp) := fun h => by
    rw [hcells] at h; exact ⟨h.cell 0 (by simp), h.cell 1 (by simp), h.cell 2 (by simp), h.cell 3 (by simp), h.cell 4 (by simp)⟩
  obtain ⟨c0, c1, c2, c3, c4⟩ := cell hT0; have bad1 : (kind < 1 ∨ 20 < kind ∨ seq < 0 ∨ 9007199254740992 < seq ∨ 8 < nums.length) → rqE r = 1 := fun h => by rw [← hr]; unfold rqE; rw [if_pos h]
  by_cases h1 : kind < 1
  · refine K.kgl ?_
    exact WQ.ret2 rfl rfl rfl (FrOut.bad (bad1 (.inl h1)) (by decide) hB)
  by_cases h2 : 20 < kind
  · refine K.kgl ?_
    exact WQ.ret2 rfl rfl rfl (FrOut.bad (bad1 (.inr (.inl h2))) (by decide) hB)
  by_cases h3 : seq < 0
  · refine K.kgl ?_
    exact WQ.ret2 rfl rfl rfl (FrOut.bad (bad1 (.inr (.inr (.inl h3)))) (by decide) hB)
  by_cases h4 : 9007199254740992 < seq
  · refine K.kgl ?_
    exact WQ.ret2 rfl rfl rfl (FrOut.bad (bad1 (.inr (.inr (.inr (.inl h4))))) (by decide) hB)
  by_cases h8 : 8 < nums.length
  · refine K.kgl ?_
    exact WQ.ret2 rfl rfl rfl (FrOut.bad (bad1 (.inr (.inr (.inr (.inr h8))))) (by decide) hB)
  clear bad1; have hno : ¬ (kind < 1 ∨ 20 < kind ∨ seq < 0 ∨ 9007199254740992 < seq ∨ 8 < nums.length) := by omega
  have bad5 : (4096 < text.size ∨ 40 < params.length) → rqE r = 5 := fun h => by rw [← hr]; unfold rqE; rw [if_neg hno, if_pos h]
  by_cases h5 : 4096 < text.size
  · refine K.kgl ?_
    exact WQ.ret2 rfl rfl rfl (FrOut.bad (bad5 (.inl h5)) (by decide) hB)
  by_cases h6 : 40 < params.length
  · refine K.kgl ?_
    exact WQ.ret2 rfl rfl rfl (FrOut.bad (bad5 (.inr h6)) (by decide) hB)
  have he : rqE r = vlE params := by rw [← hr]; unfold rqE; rw [if_neg hno, if_neg (show ¬ (4096 < text.size ∨ 40 < params.length) by omega)]
  clear bad5; refine K.kgl ?_; have hw8 : IntKind.u8.wrap kind = kind := by rw [IntKind.wrap_u8]; omega
  obtain ⟨sq, rfl⟩ : ∃ n : Nat, seq = (n : Int) := ⟨seq.toNat, by omega⟩; refine WL.as 44 (.int .u8 kind) rfl (congrArg (Value.int .u8) hw8) ?_; refine WL.call rfl rfl rfl rfl rfl Tryz.func43 rfl (by kernel_rfl) (whead_any 81 kind sq (by omega) (hnums.of_below hB) h64 (by omega)) ?_; rintro _ w2 ⟨b2, rfl, q2, k2, o2⟩; refine ⟨_, rfl, ?_⟩; have hfe := hf.eq; have hfs := hf.size; have ap2 : Apart w1 w2 b2 := ⟨k2, o2⟩; have T2 := hT0.below k2 hT0.lt; have own2 : ∀ x, b2.ownBlock = some x → x ≠ g := fun x hx => by have := o2 x hx; omega
  have hAp : ∀ {wx : World} {bx : Value}, Grow w2 b2 wx bx → VBlk 95 wx g (rqC r (.slice sn nums.length cn) (.slice sp params.length cp)) := fun h => T2.keep h.1 ⟨T2.lt, fun e => own2 _ e rfl⟩; have hhl := headB_len 81 kind sq nums (by omega); have u3 := uvB_lenw text.size; have T1 := hT0; clear c0 c1 c2 c3 c4 k2 hf hT0; refine K.kgo ?_; refine WC.drawn 10 (fun wx => VBlk 95 wx g (rqC r (.slice sn nums.length cn) (.slice sp params.length cp))) fun w3 hd => ?_; have kd : Below w2.heap.size w2 w3 := hd.below _; have g3 : Grow w2 b2 w3 b2 := (Grow.refl w2 b2).below kd; have q3 := q2.below kd; have hS := hAp g3; clear hd kd q2; refine K.fr [0, 1, 5, 8] hS ?_; refine K.wl 2 [3, 4, 7, 10, 11, 12, 13, 14, 15] rfl rfl rfl rfl rfl rfl rfl (fun wx hx => (cell hx).2.2.2.1) hS ?_; refine K.wl 6 [7, 10, 11, 12, 13, 14, 15] rfl rfl rfl rfl rfl rfl rfl (fun wx hx => (cell hx).2.2.2.1) hS ?_; refine K.wl 9 [10, 11, 12, 13, 14, 15] rfl rfl rfl rfl rfl rfl rfl (fun wx hx => (cell hx).2.2.2.2) hS ?_; refine K.fr [3] hS ?_; refine K.wo 4 ?_; refine WL.call rfl rfl rfl rfl rfl Tryz.func45 rfl (by kernel_rfl) (wcount_any q3 text.size (by omega) (by omega)) ?_; rintro _ w4 ⟨b4, rfl, q4, g4⟩; refine ⟨_, rfl, ?_⟩; replace hS := hAp (g3.trans g4); refine K.di hS ?_; refine K.wo 7 ?_; refine WL.appS rfl rfl rfl rfl rfl q4 rfl (by rw [List.length_append]; omega) fun b5 w5 q5 g5 => ?_; replace hS := hAp ((g3.trans g4).trans g5); have ap5 := ap2.grow ((g3.trans g4).trans g5); refine K.di hS ?_; refine K.wo 10 ?_; have htl := bytesI_len text; have hHlen : (headB 81 kind sq nums ++ uvB text.size ++ bytesI text).length ≤ 5000 := by simp only [List.length_append]; omega
  refine WL.call rfl rfl rfl rfl rfl Tryz.func44 rfl (by kernel_rfl) (wvalues_any (hpar.below hB) hfew ap5 q5 (by omega)) ?_; rintro _ w6 ⟨b6, rfl, ap6, q6⟩; refine ⟨_, rfl, ?_⟩; have T6 : VBlk 95 w6 g (rqC r (.slice sn nums.length cn) (.slice sp params.length cp)) := (T1.below ap6.below T1.lt); refine K.dl ?_
  (refine K.fzl 11 rfl (q := ?_); refine K.fzl 12 rfl (q := ?_); refine K.fzl 13 rfl (q := ?_); refine K.fzl 14 rfl (q := ?_); refine K.fzl 15 rfl (q := ?_))
  refine WD.done (by kernel_rfl) ?_; have hw6 : Below w.heap.size w w6 := hB.trans (ap6.below.mono hB.size)
  by_cases hv : vlE params ≠ 0
  · refine K.kgo ?_
    exact WQ.ret2 rfl rfl rfl (FrOut.bad he hv hw6)
  replace hv : vlE params = 0 := by omega
  rw [if_pos hv] at q6; rw [hv]; have hvl := valsB_len hfew hv; have hvb := valsB_byt (vlE_mem hv); have hrh : r.hash = hash := by rw [← hr]
  have hhs := rq_hash T6 (by rw [hrh]; exact hh); rw [hrh] at hhs; refine K.kgo ?_; refine WL.all rfl rfl rfl rfl rfl rfl ?_; refine WL.app rfl rfl rfl rfl rfl q6 rfl hhs (by rw [List.length_append, hh]; omega) fun b7 w7 q7 g7 => ?_; have hall : headB 81 kind sq nums ++ uvB text.size ++ bytesI text ++ valsB params ++ hash = rqB r := by rw [← hr]; unfold rqB; simp [List.append_assoc]
  have hbytes : Frm.Byt (rqB r) := by
    rw [← hall]; intro c hc; simp only [List.mem_append] at hc; rcases hc with (((h | h) | h) | h) | h
    · exact headB_byt (by omega) (by omega) _ _ c h
    · exact uvB_bytw _ c h
    · exact bytesI_byt _ c h
    · exact hvb c h
    · exact hhb c h
  have hlen : (rqB r).length ≤ 300000 := by rw [← hall, List.length_append, List.length_append, hh]; omega
  rw [hall] at q7; have ap7 := ap6.grow g7; refine WL.call rfl rfl rfl rfl rfl Tryz.func46 rfl (by kernel_rfl) (fenc_any q7.sl hbytes (by omega)) ?_; rintro _ w8 ⟨b8, rfl, q8, k8, o8⟩; refine ⟨_, rfl, ?_⟩; have hw7 : Below w.heap.size w w7 := hB.trans (ap7.below.mono hB.size); rw [if_neg (by omega)] at q8; rw [if_neg (by omega)]; refine K.kgo ?_; refine WQ.ret2 rfl rfl rfl ⟨b8, ?_, ⟨hw7.trans (k8.mono hw7.size), fun x hx => Nat.le_trans hw7.size (o8 x hx)⟩, ?_⟩
  · rw [he, hv]; rfl
  · rw [if_pos (by rw [he, hv])]; exact q8
end K
end Go.Proofs.YtpfkcfaifleliaaGreat
