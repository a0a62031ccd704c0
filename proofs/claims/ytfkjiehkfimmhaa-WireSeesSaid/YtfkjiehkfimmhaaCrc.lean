/- The CRC-32, by bits and by half bytes (chapter 1); no program in sight. -/
import Derived.Test.YtfkjiehkfimmhaaBase
namespace Go.Proofs.Ytfkjiehkfimmhaa
namespace Crc

def P : BitVec 32 := 0xedb88320#32
def step (c : BitVec 32) : BitVec 32 := (c >>> 1) ^^^ (if c.getLsbD 0 then P else 0#32)
def tab : List Nat := [0x00000000, 0x1db71064, 0x3b6e20c8, 0x26d930ac, 0x76dc4190, 0x6b6b51f4, 0x4db26158, 0x5005713c, 0xedb88320, 0xf00f9344, 0xd6d6a3e8, 0xcb61b38c, 0x9b64c2b0, 0x86d3d2d4, 0xa00ae278, 0xbdbdf21c]
def nib (c : BitVec 32) : BitVec 32 := (c >>> 4) ^^^ BitVec.ofNat 32 (tab.getD (c.toNat % 16) 0)
theorem step_xor (a b : BitVec 32) : step (a ^^^ b) = step a ^^^ step b := by
  unfold step
  rw [BitVec.getLsbD_xor, BitVec.ushiftRight_xor_distrib]
  cases a.getLsbD 0 <;> cases b.getLsbD 0
  · simp
  · simp [BitVec.xor_assoc]
  · simp only [Bool.xor_false, if_true, Bool.false_eq_true, if_false, BitVec.xor_zero]
    rw [BitVec.xor_assoc, BitVec.xor_assoc, BitVec.xor_comm (b >>> 1)]
  · simp only [Bool.xor_true, Bool.not_true, Bool.false_eq_true, if_false, if_true, BitVec.xor_zero]
    rw [BitVec.xor_assoc, ← BitVec.xor_assoc P, BitVec.xor_comm P, BitVec.xor_assoc, BitVec.xor_self, BitVec.xor_zero]
theorem step_even (c : BitVec 32) (h : c.getLsbD 0 = false) : step c = c >>> 1 := by unfold step; rw [h]; simp
theorem low_high (c : BitVec 32) : c = (c &&& 0xfffffff0#32) ^^^ (c &&& 15#32) := by
  apply BitVec.eq_of_getLsbD_eq
  intro i hi
  rw [BitVec.getLsbD_xor, BitVec.getLsbD_and, BitVec.getLsbD_and]
  have : ∀ i : Fin 32, (0xfffffff0#32).getLsbD i.val = !((15#32).getLsbD i.val) := by decide
  rw [this ⟨i, hi⟩]
  cases c.getLsbD i <;> cases (15#32).getLsbD i <;> rfl
theorem step4_high (c : BitVec 32) : step (step (step (step (c &&& 0xfffffff0#32)))) = (c >>> 4) := by
  have h0 : (c &&& 0xfffffff0#32).getLsbD 0 = false := by rw [BitVec.getLsbD_and]; simp
  have h1 : ((c &&& 0xfffffff0#32) >>> 1).getLsbD 0 = false := by rw [BitVec.getLsbD_ushiftRight, BitVec.getLsbD_and]; simp
  have h2 : ((c &&& 0xfffffff0#32) >>> 1 >>> 1).getLsbD 0 = false := by rw [BitVec.getLsbD_ushiftRight, BitVec.getLsbD_ushiftRight, BitVec.getLsbD_and]; simp
  have h3 : ((c &&& 0xfffffff0#32) >>> 1 >>> 1 >>> 1).getLsbD 0 = false := by rw [BitVec.getLsbD_ushiftRight, BitVec.getLsbD_ushiftRight, BitVec.getLsbD_ushiftRight, BitVec.getLsbD_and]; simp
  rw [step_even _ h0, step_even _ h1, step_even _ h2, step_even _ h3]
  apply BitVec.eq_of_getLsbD_eq
  intro i hi
  simp only [BitVec.getLsbD_ushiftRight, BitVec.getLsbD_and]
  have : ∀ i : Fin 32, (0xfffffff0#32).getLsbD (1 + (1 + (1 + (1 + i.val)))) = decide (4 + i.val < 32) := by decide
  rw [this ⟨i, hi⟩]
  have e : 1 + (1 + (1 + (1 + i))) = 4 + i := by omega
  rw [e]
  by_cases h : 4 + i < 32
  · simp [h]
  · rw [BitVec.getLsbD_of_ge c (4 + i) (by omega)]; simp
theorem step4_low : ∀ k : Fin 16, step (step (step (step (BitVec.ofNat 32 k.val)))) = BitVec.ofNat 32 (tab.getD k.val 0) := by decide
/-- Four bits at once. -/
theorem step4 (c : BitVec 32) : step (step (step (step c))) = nib c := by
  have hl : c &&& 15#32 = BitVec.ofNat 32 (c.toNat % 16) := by
    apply BitVec.eq_of_toNat_eq
    rw [BitVec.toNat_and, BitVec.toNat_ofNat]
    have h15 : (15 % 2 ^ 32 : Nat) = 2 ^ 4 - 1 := by decide
    rw [BitVec.toNat_ofNat, h15, Nat.and_two_pow_sub_one_eq_mod]
    omega
  have h16 : c.toNat % 16 < 16 := Nat.mod_lt _ (by omega)
  conv => lhs; rw [low_high c]
  rw [step_xor, step_xor, step_xor, step_xor, step4_high, hl]
  have := step4_low ⟨c.toNat % 16, h16⟩
  simp only at this
  rw [this]
  rfl
def step8 (c : BitVec 32) : BitVec 32 := step (step (step (step (step (step (step (step c)))))))
theorem step8_nib (c : BitVec 32) : step8 c = nib (nib c) := by
  unfold step8
  rw [step4, step4]
/-- The sum of bytes, from a state on. -/
def run (c : BitVec 32) : List Int → BitVec 32
  | [] => c
  | x :: r => run (step8 (c ^^^ BitVec.ofInt 32 x)) r
def sum (l : List Int) : BitVec 32 := ~~~ (run (0xffffffff#32) l)
theorem run_app (c : BitVec 32) (a b : List Int) : run c (a ++ b) = run (run c a) b := by
  induction a generalizing c with
  | nil => rfl
  | cons x r ih => exact ih _
theorem step_inj {a b : BitVec 32} (h : step a = step b) : a = b := by
  have top : ∀ c : BitVec 32, (step c).getLsbD 31 = c.getLsbD 0 := fun c => by
    unfold step
    rw [BitVec.getLsbD_xor, BitVec.getLsbD_ushiftRight, BitVec.getLsbD_of_ge c (1 + 31) (by omega)]
    cases c.getLsbD 0 <;> decide
  have h0 : a.getLsbD 0 = b.getLsbD 0 := by rw [← top a, ← top b, h]
  have h1 : a >>> 1 = b >>> 1 := by
    unfold step at h
    rw [h0] at h
    have := congrArg (· ^^^ (if b.getLsbD 0 then P else 0#32)) h
    simpa [BitVec.xor_assoc] using this
  apply BitVec.eq_of_getLsbD_eq
  intro i hi
  cases i with
  | zero => exact h0
  | succ i =>
    have := congrArg (fun x => x.getLsbD i) h1
    simp only [BitVec.getLsbD_ushiftRight] at this
    rw [Nat.add_comm 1 i] at this
    exact this
theorem step8_inj {a b : BitVec 32} (h : step8 a = step8 b) : a = b := step_inj (step_inj (step_inj (step_inj (step_inj (step_inj (step_inj (step_inj h)))))))
theorem xor_cancel {a x y : BitVec 32} (h : a ^^^ x = a ^^^ y) : x = y := by
  have := congrArg (a ^^^ ·) h
  simpa [← BitVec.xor_assoc] using this
theorem run_inj : ∀ (l : List Int) {a b : BitVec 32}, run a l = run b l → a = b
  | [], _, _, h => h
  | x :: r, a, b, h => by
    have h1 := step8_inj (run_inj r (show run (step8 (a ^^^ BitVec.ofInt 32 x)) r = run (step8 (b ^^^ BitVec.ofInt 32 x)) r from h))
    rw [BitVec.xor_comm a, BitVec.xor_comm b] at h1
    exact xor_cancel h1
theorem byte_inj {x y : Int} (hx : 0 ≤ x ∧ x ≤ 255) (hy : 0 ≤ y ∧ y ≤ 255) (h : BitVec.ofInt 32 x = BitVec.ofInt 32 y) : x = y := by
  have := congrArg BitVec.toNat h
  rw [BitVec.toNat_ofInt, BitVec.toNat_ofInt] at this
  omega
/-- Bytes of which one is another one have another sum. -/
theorem sum_one {A B : List Int} {x y : Int} (hx : 0 ≤ x ∧ x ≤ 255) (hy : 0 ≤ y ∧ y ≤ 255) (hne : x ≠ y) : sum (A ++ x :: B) ≠ sum (A ++ y :: B) := fun h => by
  unfold sum at h
  have h1 : run 0xffffffff#32 (A ++ x :: B) = run 0xffffffff#32 (A ++ y :: B) := by
    have := congrArg (~~~ ·) h
    simpa using this
  rw [run_app, run_app] at h1
  have h2 := step8_inj (run_inj B (show run (step8 (run 0xffffffff#32 A ^^^ BitVec.ofInt 32 x)) B = run (step8 (run 0xffffffff#32 A ^^^ BitVec.ofInt 32 y)) B from h1))
  exact hne (byte_inj hx hy (xor_cancel h2))
/-- The sum as a number. -/
def crcN (l : List Int) : Nat := (sum l).toNat
theorem crcN_lt (l : List Int) : crcN l < 4294967296 := (sum l).isLt
theorem crcN_one {A B : List Int} {x y : Int} (hx : 0 ≤ x ∧ x ≤ 255) (hy : 0 ≤ y ∧ y ≤ 255) (hne : x ≠ y) : crcN (A ++ x :: B) ≠ crcN (A ++ y :: B) := fun h => sum_one hx hy hne (BitVec.eq_of_toNat_eq h)
/-- Four bytes of a number. -/
def be4 (n : Nat) : List Int := [((n / 16777216 % 256 : Nat) : Int), ((n / 65536 % 256 : Nat) : Int), ((n / 256 % 256 : Nat) : Int), ((n % 256 : Nat) : Int)]
/-- The number of four bytes. -/
def num4 : List Int → Nat
  | a :: b :: c :: d :: _ => a.toNat * 16777216 + b.toNat * 65536 + c.toNat * 256 + d.toNat
  | _ => 0
theorem num4_be4 {n : Nat} (h : n < 4294967296) (r : List Int) : num4 (be4 n ++ r) = n := by
  show (((n / 16777216 % 256 : Nat) : Int)).toNat * 16777216 + (((n / 65536 % 256 : Nat) : Int)).toNat * 65536 + (((n / 256 % 256 : Nat) : Int)).toNat * 256 + (((n % 256 : Nat) : Int)).toNat = n
  simp only [Int.toNat_natCast]
  omega
theorem be4_byt (n : Nat) : ∀ c ∈ be4 n, 0 ≤ c ∧ c ≤ 255 := by
  intro c hc
  unfold be4 at hc
  simp only [List.mem_cons, List.not_mem_nil, or_false] at hc
  rcases hc with rfl | rfl | rfl | rfl <;> omega
theorem be4_num4 {a b c d : Int} (ha : 0 ≤ a ∧ a ≤ 255) (hb : 0 ≤ b ∧ b ≤ 255) (hc : 0 ≤ c ∧ c ≤ 255) (hd : 0 ≤ d ∧ d ≤ 255) (r : List Int) : be4 (num4 (a :: b :: c :: d :: r)) = [a, b, c, d] ∧ num4 (a :: b :: c :: d :: r) < 4294967296 := by
  refine ⟨?_, by show a.toNat * 16777216 + b.toNat * 65536 + c.toNat * 256 + d.toNat < 4294967296; omega⟩
  show be4 (a.toNat * 16777216 + b.toNat * 65536 + c.toNat * 256 + d.toNat) = _
  unfold be4
  have h1 : ((a.toNat * 16777216 + b.toNat * 65536 + c.toNat * 256 + d.toNat) / 16777216 % 256 : Nat) = a.toNat := by omega
  have h2 : ((a.toNat * 16777216 + b.toNat * 65536 + c.toNat * 256 + d.toNat) / 65536 % 256 : Nat) = b.toNat := by omega
  have h3 : ((a.toNat * 16777216 + b.toNat * 65536 + c.toNat * 256 + d.toNat) / 256 % 256 : Nat) = c.toNat := by omega
  have h4 : ((a.toNat * 16777216 + b.toNat * 65536 + c.toNat * 256 + d.toNat) % 256 : Nat) = d.toNat := by omega
  rw [h1, h2, h3, h4, Int.toNat_of_nonneg ha.1, Int.toNat_of_nonneg hb.1, Int.toNat_of_nonneg hc.1, Int.toNat_of_nonneg hd.1]
theorem num4_lt (l : List Int) (h : ∀ c ∈ l, 0 ≤ c ∧ c ≤ 255) : num4 l < 4294967296 := by
  match l, h with
  | [], _ => simp [num4]
  | [_], _ => simp [num4]
  | [_, _], _ => simp [num4]
  | [_, _, _], _ => simp [num4]
  | a :: b :: c :: d :: r, h => exact (be4_num4 (h a (by simp)) (h b (by simp)) (h c (by simp)) (h d (by simp)) r).2
end Crc
end Go.Proofs.Ytfkjiehkfimmhaa
